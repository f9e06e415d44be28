/- Rings of nodes in memory: a head in a block of its own, nodes of cells of their own and two pointers (the one ahead, the next one); what taking a node out and putting one in between leave. No program; no conditions of ours. -/
import Derived.Test.YtepedjnmliclkaaMem
set_option linter.unusedVariables false
set_option linter.unusedSimpArgs false
namespace Go.Proofs.Ytepedjnmliclkaa
open Go.RowKit

/-- A node: its block, and the cells ahead of its two pointers. -/
structure Nd where
  g : Nat
  c : List Value
/-- The places of a ring, one behind the other: the head, the nodes, the head again. -/
def adr (h : Addr) (L : List Nd) : Nat → Addr
  | 0 => h
  | i + 1 => match L[i]? with
    | some x => ⟨x.g, 0, none⟩
    | none => h
def ndC (h : Addr) (L : List Nd) (i : Nat) (x : Nd) : Array Value := (x.c ++ [Value.pointer (some (adr h L i)), Value.pointer (some (adr h L (i + 2)))]).toArray
def hdC (pre : List Value) (h : Addr) (L : List Nd) : Array Value := (pre ++ [Value.pointer (some (adr h L L.length)), Value.pointer (some (adr h L 1))]).toArray
abbrev hdA (hb : Nat) (pre : List Value) (np : Nat) : Addr := ⟨hb, pre.length - np, none⟩
/-- The block hb holds what stands ahead (pre) and the head's two pointers; the nodes of L lie in blocks of their own. -/
structure Ring (w : World) (hb : Nat) (HT : TypeId) (pre : List Value) (np : Nat) (T : TypeId) (L : List Nd) : Prop where
  nodup : (L.map (·.g)).Nodup
  nin : ∀ x ∈ L, x.g ≠ hb
  pre3 : np ≤ pre.length
  len : ∀ x ∈ L, x.c.length = np
  blk : ∀ (i : Nat) (x : Nd), L[i]? = some x → w.heap[x.g]? = some (.cells (ndC (hdA hb pre np) L i x) T (0, 0))
  head : w.heap[hb]? = some (.cells (hdC pre (hdA hb pre np) L) HT (0, 0))

theorem adr_node {h : Addr} {L : List Nd} {i : Nat} {x : Nd} (hx : L[i]? = some x) : adr h L (i + 1) = ⟨x.g, 0, none⟩ := by simp [adr, hx]
theorem adr_end {h : Addr} {L : List Nd} {i : Nat} (hi : L.length < i) : adr h L i = h := by
  match i, hi with
  | i + 1, hi => simp [adr, List.getElem?_eq_none (show L.length ≤ i by omega)]
theorem adr_cases (hb ho : Nat) (L : List Nd) (i : Nat) : (adr ⟨hb, ho, none⟩ L i = ⟨hb, ho, none⟩ ∧ (i = 0 ∨ L.length < i)) ∨ ∃ j x, i = j + 1 ∧ L[j]? = some x ∧ adr ⟨hb, ho, none⟩ L i = ⟨x.g, 0, none⟩ := by
  match i with
  | 0 => exact .inl ⟨rfl, .inl rfl⟩
  | j + 1 =>
    rcases Nat.lt_or_ge j L.length with h | h
    · exact .inr ⟨j, L[j], rfl, List.getElem?_eq_getElem h, adr_node (List.getElem?_eq_getElem h)⟩
    · exact .inl ⟨adr_end (by omega), .inr (by omega)⟩
theorem get_inj {L : List Nd} (h : (L.map (·.g)).Nodup) {i j : Nat} {x y : Nd} (hx : L[i]? = some x) (hy : L[j]? = some y) (e : x.g = y.g) : i = j := by
  obtain ⟨hi, rfl⟩ := List.getElem?_eq_some_iff.1 hx
  obtain ⟨hj, rfl⟩ := List.getElem?_eq_some_iff.1 hy
  have hp := List.pairwise_iff_getElem.1 h
  rcases Nat.lt_trichotomy i j with hl | hl | hl
  · exact absurd ((List.getElem_map _).trans (e.trans (List.getElem_map _).symm)) (hp i j (by simpa using hi) (by simpa using hj) hl)
  · exact hl
  · exact absurd ((List.getElem_map _).trans (e.symm.trans (List.getElem_map _).symm)) (hp j i (by simpa using hj) (by simpa using hi) hl)
theorem mem_get {L : List Nd} {i : Nat} {x : Nd} (hx : L[i]? = some x) : x ∈ L := by
  obtain ⟨hi, rfl⟩ := List.getElem?_eq_some_iff.1 hx
  exact List.getElem_mem hi
/-- Which place lies in a node's block; which in the head's. -/
theorem adr_in_node {hb ho : Nat} {L : List Nd} (hd : (L.map (·.g)).Nodup) (hn : ∀ x ∈ L, x.g ≠ hb) {j : Nat} {y : Nd} (hy : L[j]? = some y) (i : Nat) : (adr ⟨hb, ho, none⟩ L i).block = y.g ↔ i = j + 1 := by
  rcases adr_cases hb ho L i with ⟨e, h⟩ | ⟨k, x, rfl, hx, e⟩
  · rw [e]
    constructor
    · intro h2; exact absurd h2.symm (hn y (mem_get hy))
    · rintro rfl
      have := (List.getElem?_eq_some_iff.1 hy).1
      rcases h with h | h <;> omega
  · rw [e]
    constructor
    · intro h2; rw [get_inj hd hx hy h2]
    · intro h2
      obtain rfl : k = j := by omega
      rw [hx] at hy; cases hy; rfl
theorem adr_in_head {hb ho : Nat} {L : List Nd} (hn : ∀ x ∈ L, x.g ≠ hb) (i : Nat) : (adr ⟨hb, ho, none⟩ L i).block = hb ↔ (i = 0 ∨ L.length < i) := by
  rcases adr_cases hb ho L i with ⟨e, h⟩ | ⟨k, x, rfl, hx, e⟩
  · rw [e]; simp [h]
  · rw [e]
    constructor
    · intro h2; exact absurd h2 (hn x (mem_get hx))
    · intro h2
      have := (List.getElem?_eq_some_iff.1 hx).1
      omega
theorem heap_set {w : World} {b : Nat} {cs : Array Value} {t : TypeId} (h : w.heap[b]? = some (.cells cs t (0, 0))) (b' o : Nat) (v : Value) :
    (w.setCell ⟨b', o, none⟩ v).heap[b]? = some (.cells (if b' = b then cs.setIfInBounds o v else cs) t (0, 0)) := by
  by_cases e : b' = b
  · subst e; simp [World.setCell, Array.getElem?_modify, h]
  · simp [World.setCell, Array.getElem?_modify, h, e]
theorem adr_eraseIdx (h : Addr) (L : List Nd) (k i : Nat) : adr h (L.eraseIdx k) i = if i ≤ k then adr h L i else adr h L (i + 1) := by
  match i with
  | 0 => simp [adr]
  | j + 1 =>
    simp only [adr, List.getElem?_eraseIdx]
    by_cases hj : j < k
    · rw [if_pos hj, if_pos (show j + 1 ≤ k by omega)]
    · rw [if_neg hj, if_neg (show ¬ j + 1 ≤ k by omega)]
theorem set_prev (c : List Value) (np : Nat) (hc : c.length = np) (x y v : Value) : (c ++ [x, y]).toArray.setIfInBounds (0 + np) v = (c ++ [v, y]).toArray := by
  subst hc
  apply Array.ext'
  simp [List.set_append]
theorem set_next (c : List Value) (np : Nat) (hc : c.length = np) (x y v : Value) : (c ++ [x, y]).toArray.setIfInBounds (0 + (np + 1)) v = (c ++ [x, v]).toArray := by
  subst hc
  apply Array.ext'
  simp [List.set_append]
theorem set_hprev (pre : List Value) {np : Nat} (h3 : np ≤ pre.length) (x y v : Value) : (pre ++ [x, y]).toArray.setIfInBounds (pre.length - np + np) v = (pre ++ [v, y]).toArray := by
  rw [show pre.length - np + np = pre.length by omega]
  apply Array.ext'
  simp [List.set_append]
theorem set_hnext (pre : List Value) {np : Nat} (h3 : np ≤ pre.length) (x y v : Value) : (pre ++ [x, y]).toArray.setIfInBounds (pre.length - np + (np + 1)) v = (pre ++ [x, v]).toArray := by
  rw [show pre.length - np + (np + 1) = pre.length + 1 by omega]
  apply Array.ext'
  simp [List.set_append]
/-- The two stores that join the places i and j. -/
def joined (np : Nat) (w : World) (p q : Addr) (x y : Addr) : World := (w.setCell ⟨p.block, p.off + (np + 1), none⟩ (.pointer (some x))).setCell ⟨q.block, q.off + np, none⟩ (.pointer (some y))
theorem adr_off {hb ho : Nat} {L : List Nd} (hn : ∀ x ∈ L, x.g ≠ hb) (i : Nat) : (adr ⟨hb, ho, none⟩ L i).off = if (adr ⟨hb, ho, none⟩ L i).block = hb then ho else 0 := by
  rcases adr_cases hb ho L i with ⟨e, h⟩ | ⟨k, x, rfl, hx, e⟩
  · rw [e]; simp
  · rw [e]; simp [hn x (mem_get hx)]
theorem map_eraseIdx' (L : List Nd) (k : Nat) : (L.eraseIdx k).map (·.g) = (L.map (·.g)).eraseIdx k := by
  induction L generalizing k with
  | nil => simp
  | cons x r ih => cases k with
    | zero => simp
    | succ k => simp [ih]
/-- A node is taken out. -/
theorem Ring.erase {w : World} {hb : Nat} {HT : TypeId} {pre : List Value} {np : Nat} {T : TypeId} {L : List Nd} (R : Ring w hb HT pre np T L) {k : Nat} (hk : k < L.length) :
    Ring (joined np w (adr (hdA hb pre np) L k) (adr (hdA hb pre np) L (k + 2)) (adr (hdA hb pre np) L (k + 2)) (adr (hdA hb pre np) L k)) hb HT pre np T (L.eraseIdx k) := by
  obtain ⟨hd, hn, h3, hlen, hblk, hhead⟩ := R
  refine ⟨?_, fun x hx => hn x (List.mem_of_mem_eraseIdx hx), h3, fun x hx => hlen x (List.mem_of_mem_eraseIdx hx), ?_, ?_⟩
  · rw [map_eraseIdx']; exact hd.eraseIdx k
  · intro i x hx
    have hx' : ∃ j, L[j]? = some x ∧ (j < k ∧ i = j ∨ k < j ∧ i + 1 = j) := by
      rw [List.getElem?_eraseIdx] at hx
      split at hx
      · exact ⟨i, hx, .inl ⟨by omega, rfl⟩⟩
      · exact ⟨i + 1, hx, .inr ⟨by omega, rfl⟩⟩
    obtain ⟨j, hj, hij⟩ := hx'
    have h0 := hblk j x hj
    unfold joined
    rw [heap_set (heap_set h0 _ _ _)]
    have i1 := adr_in_node (ho := pre.length - np) hd hn hj k
    have i2 := adr_in_node (ho := pre.length - np) hd hn hj (k + 2)
    have o1 := adr_off (ho := pre.length - np) hn k
    have o2 := adr_off (ho := pre.length - np) hn (k + 2)
    have hxb := hn x (mem_get hj)
    unfold hdA at *
    congr 1; congr 1
    unfold ndC
    rw [adr_eraseIdx, adr_eraseIdx]
    by_cases c1 : (adr ⟨hb, pre.length - np, none⟩ L k).block = x.g
    · have e1 := i1.1 c1
      have c2 : ¬ (adr ⟨hb, pre.length - np, none⟩ L (k + 2)).block = x.g := fun c => by have := i2.1 c; omega
      rw [if_neg c2, if_pos c1, o1, if_neg (by rw [c1]; exact hxb), set_next _ _ (hlen x (mem_get hj))]
      obtain rfl : i = j := by omega
      rw [if_pos (by omega), if_neg (by omega)]
      subst e1
      rfl
    · by_cases c2 : (adr ⟨hb, pre.length - np, none⟩ L (k + 2)).block = x.g
      · have e2 := i2.1 c2
        rw [if_pos c2, if_neg c1, o2, if_neg (by rw [c2]; exact hxb), set_prev _ _ (hlen x (mem_get hj))]
        obtain rfl : i = k := by omega
        obtain rfl : j = i + 1 := by omega
        rw [if_pos (by omega), if_neg (by omega)]
      · rw [if_neg c2, if_neg c1]
        have n1 : ¬ k = j + 1 := fun e => c1 (i1.2 e)
        have n2 : ¬ k + 2 = j + 1 := fun e => c2 (i2.2 e)
        rcases hij with ⟨a, rfl⟩ | ⟨a, rfl⟩
        · rw [if_pos (by omega), if_pos (by omega)]
        · rw [if_neg (by omega), if_neg (by omega)]
  · unfold joined
    rw [heap_set (heap_set hhead _ _ _)]
    have i1 := adr_in_head (ho := pre.length - np) hn k
    have i2 := adr_in_head (ho := pre.length - np) hn (k + 2)
    have o1 := adr_off (ho := pre.length - np) hn k
    have o2 := adr_off (ho := pre.length - np) hn (k + 2)
    have hl : (L.eraseIdx k).length = L.length - 1 := by rw [List.length_eraseIdx]; simp [hk]
    unfold hdA at *
    congr 1; congr 1
    unfold hdC
    rw [adr_eraseIdx, adr_eraseIdx, hl]
    by_cases c1 : (adr ⟨hb, pre.length - np, none⟩ L k).block = hb
    · have e1 : k = 0 := by have := i1.1 c1; omega
      rw [if_pos c1, o1, if_pos c1, set_hnext _ h3]
      by_cases c2 : (adr ⟨hb, pre.length - np, none⟩ L (k + 2)).block = hb
      · have e2 : L.length = k + 1 := by have := i2.1 c2; omega
        rw [if_pos c2, o2, if_pos c2, set_hprev _ h3, if_pos (by omega), if_neg (by omega), e2, e1]
        try rfl
      · have e2 : ¬ (k + 2 = 0 ∨ L.length < k + 2) := fun c => c2 (i2.2 c)
        rw [if_neg c2, if_neg (by omega), if_neg (by omega), show L.length - 1 + 1 = L.length by omega, e1]
    · have e1 : ¬ (k = 0 ∨ L.length < k) := fun c => c1 (i1.2 c)
      rw [if_neg c1]
      by_cases c2 : (adr ⟨hb, pre.length - np, none⟩ L (k + 2)).block = hb
      · have e2 : L.length = k + 1 := by have := i2.1 c2; omega
        rw [if_pos c2, o2, if_pos c2, set_hprev _ h3, if_pos (by omega), if_pos (by omega), e2]
        try rfl
      · have e2 : ¬ (k + 2 = 0 ∨ L.length < k + 2) := fun c => c2 (i2.2 c)
        rw [if_neg c2, if_neg (by omega), if_pos (by omega), show L.length - 1 + 1 = L.length by omega]
theorem getElem?_ins (L : List Nd) (k : Nat) (x : Nd) (hk : k ≤ L.length) (j : Nat) : (L.take k ++ x :: L.drop k)[j]? = if j < k then L[j]? else if j = k then some x else L[j - 1]? := by
  rw [List.getElem?_append]
  simp only [List.length_take, Nat.min_eq_left hk]
  by_cases h1 : j < k
  · rw [if_pos h1, if_pos h1, List.getElem?_take_of_lt h1]
  · rw [if_neg h1, if_neg h1]
    by_cases h2 : j = k
    · subst h2; simp
    · rw [if_neg h2]
      obtain ⟨m, hm⟩ : ∃ m, j - k = m + 1 := ⟨j - k - 1, by omega⟩
      rw [hm, List.getElem?_cons_succ, List.getElem?_drop]
      congr 1; omega
theorem adr_ins (h : Addr) (L : List Nd) (k : Nat) (x : Nd) (hk : k ≤ L.length) (i : Nat) : adr h (L.take k ++ x :: L.drop k) i = if i ≤ k then adr h L i else if i = k + 1 then ⟨x.g, 0, none⟩ else adr h L (i - 1) := by
  match i with
  | 0 => simp [adr]
  | j + 1 =>
    simp only [adr, getElem?_ins L k x hk]
    by_cases h1 : j < k
    · rw [if_pos h1, if_pos (by omega)]
    · rw [if_neg h1, if_neg (show ¬ j + 1 ≤ k by omega)]
      by_cases h2 : j = k
      · rw [if_pos h2, if_pos (by omega)]
      · rw [if_neg h2, if_neg (by omega)]
        obtain ⟨m, rfl⟩ : ∃ m, j = m + 1 := ⟨j - 1, by omega⟩
        rfl
/-- A node is put in between. -/
theorem Ring.insert {w : World} {hb : Nat} {HT : TypeId} {pre : List Value} {np : Nat} {T : TypeId} {L : List Nd} (R : Ring w hb HT pre np T L) {k : Nat} (hk : k ≤ L.length) {x : Nd} (hx : ∀ y ∈ L, y.g ≠ x.g) (hxb : x.g ≠ hb) (hxl : x.c.length = np)
    (hblkx : w.heap[x.g]? = some (.cells (x.c ++ [Value.pointer (some (adr (hdA hb pre np) L k)), Value.pointer (some (adr (hdA hb pre np) L (k + 1)))]).toArray T (0, 0))) :
    Ring (joined np w (adr (hdA hb pre np) L k) (adr (hdA hb pre np) L (k + 1)) ⟨x.g, 0, none⟩ ⟨x.g, 0, none⟩) hb HT pre np T (L.take k ++ x :: L.drop k) := by
  obtain ⟨hd, hn, h3, hlen, hblk, hhead⟩ := R
  have hmem : ∀ y, y ∈ L.take k ++ x :: L.drop k → y = x ∨ y ∈ L := by
    intro y hy
    simp only [List.mem_append, List.mem_cons] at hy
    rcases hy with h | h | h
    · exact .inr (List.mem_of_mem_take h)
    · exact .inl h
    · exact .inr (List.mem_of_mem_drop h)
  have hblock : ∀ i, (adr (hdA hb pre np) L i).block ≠ x.g := by
    intro i
    rcases adr_cases hb (pre.length - np) L i with ⟨e, h⟩ | ⟨j, y, rfl, hy, e⟩
    · unfold hdA; rw [e]; exact fun h => hxb h.symm
    · unfold hdA; rw [e]; exact hx y (mem_get hy)
  refine ⟨?_, ?_, h3, ?_, ?_, ?_⟩
  · have hp : (L.take k ++ x :: L.drop k).Perm (x :: L) := by
      refine List.perm_middle.trans ?_
      rw [List.take_append_drop]
    rw [(hp.map (·.g)).nodup_iff, List.map_cons, List.nodup_cons]
    refine ⟨?_, hd⟩
    intro hm
    obtain ⟨y, hy, e⟩ := List.mem_map.1 hm
    exact hx y hy e
  · intro y hy
    rcases hmem y hy with rfl | h
    · exact hxb
    · exact hn y h
  · intro y hy
    rcases hmem y hy with rfl | h
    · exact hxl
    · exact hlen y h
  · intro i y hy
    rw [getElem?_ins L k x hk] at hy
    have hl : (L.take k ++ x :: L.drop k).length = L.length + 1 := by simp; omega
    by_cases c0 : i = k
    · subst c0
      rw [if_neg (by omega), if_pos rfl] at hy
      cases hy
      unfold joined
      rw [heap_set (heap_set hblkx _ _ _)]
      congr 1; congr 1
      rw [if_neg (hblock _), if_neg (hblock _)]
      unfold ndC
      rw [adr_ins _ _ _ _ hk, adr_ins _ _ _ _ hk, if_pos (by omega), if_neg (by omega), if_neg (by omega)]
      rfl
    · have hy' : ∃ j, L[j]? = some y ∧ (i < k ∧ j = i ∨ k < i ∧ i = j + 1) := by
        split at hy
        · exact ⟨i, hy, .inl ⟨by omega, rfl⟩⟩
        · try rw [if_neg c0] at hy
          exact ⟨i - 1, hy, .inr ⟨by omega, by omega⟩⟩
      obtain ⟨j, hj, hij⟩ := hy'
      have h0 := hblk j y hj
      unfold joined
      rw [heap_set (heap_set h0 _ _ _)]
      have i1 := adr_in_node (ho := pre.length - np) hd hn hj k
      have i2 := adr_in_node (ho := pre.length - np) hd hn hj (k + 1)
      have o1 := adr_off (ho := pre.length - np) hn k
      have o2 := adr_off (ho := pre.length - np) hn (k + 1)
      have hyb := hn y (mem_get hj)
      unfold hdA at *
      congr 1; congr 1
      unfold ndC
      rw [adr_ins _ _ _ _ hk, adr_ins _ _ _ _ hk]
      by_cases c1 : (adr ⟨hb, pre.length - np, none⟩ L k).block = y.g
      · have e1 := i1.1 c1
        have c2 : ¬ (adr ⟨hb, pre.length - np, none⟩ L (k + 1)).block = y.g := fun c => by have := i2.1 c; omega
        rw [if_neg c2, if_pos c1, o1, if_neg (by rw [c1]; exact hyb), set_next _ _ (hlen y (mem_get hj))]
        obtain rfl : j = i := by omega
        rw [if_pos (by omega), if_neg (by omega), if_pos (by omega)]
      · by_cases c2 : (adr ⟨hb, pre.length - np, none⟩ L (k + 1)).block = y.g
        · have e2 := i2.1 c2
          rw [if_pos c2, if_neg c1, o2, if_neg (by rw [c2]; exact hyb), set_prev _ _ (hlen y (mem_get hj))]
          obtain rfl : i = k + 1 := by omega
          obtain rfl : j = k := by omega
          rw [if_neg (by omega), if_pos rfl, if_neg (by omega), if_neg (by omega)]
          rfl
        · rw [if_neg c2, if_neg c1]
          have n1 : ¬ k = j + 1 := fun e => c1 (i1.2 e)
          have n2 : ¬ k + 1 = j + 1 := fun e => c2 (i2.2 e)
          rcases hij with ⟨a, rfl⟩ | ⟨a, rfl⟩
          · rw [if_pos (by omega), if_pos (by omega)]
          · rw [if_neg (by omega), if_neg (by omega), if_neg (by omega), if_neg (by omega)]
            rfl
  · unfold joined
    rw [heap_set (heap_set hhead _ _ _)]
    have i1 := adr_in_head (ho := pre.length - np) hn k
    have i2 := adr_in_head (ho := pre.length - np) hn (k + 1)
    have o1 := adr_off (ho := pre.length - np) hn k
    have o2 := adr_off (ho := pre.length - np) hn (k + 1)
    have hl : (L.take k ++ x :: L.drop k).length = L.length + 1 := by simp; omega
    unfold hdA at *
    congr 1; congr 1
    unfold hdC
    rw [adr_ins _ _ _ _ hk, adr_ins _ _ _ _ hk, hl]
    by_cases c1 : (adr ⟨hb, pre.length - np, none⟩ L k).block = hb
    · have e1 : k = 0 := by have := i1.1 c1; omega
      rw [if_pos c1, o1, if_pos c1, set_hnext _ h3]
      by_cases c2 : (adr ⟨hb, pre.length - np, none⟩ L (k + 1)).block = hb
      · have e2 : L.length = k := by have := i2.1 c2; omega
        rw [if_pos c2, o2, if_pos c2, set_hprev _ h3, if_neg (by omega), if_pos (by omega), if_neg (by omega), if_pos (by omega)]
      · have e2 : ¬ (k + 1 = 0 ∨ L.length < k + 1) := fun c => c2 (i2.2 c)
        rw [if_neg c2, if_neg (by omega), if_neg (by omega), if_neg (by omega), if_pos (by omega)]
        rfl
    · have e1 : ¬ (k = 0 ∨ L.length < k) := fun c => c1 (i1.2 c)
      rw [if_neg c1]
      by_cases c2 : (adr ⟨hb, pre.length - np, none⟩ L (k + 1)).block = hb
      · have e2 : L.length = k := by have := i2.1 c2; omega
        rw [if_pos c2, o2, if_pos c2, set_hprev _ h3, if_neg (by omega), if_pos (by omega), if_pos (by omega)]
      · have e2 : ¬ (k + 1 = 0 ∨ L.length < k + 1) := fun c => c2 (i2.2 c)
        rw [if_neg c2, if_neg (by omega), if_neg (by omega), if_pos (by omega)]
        rfl
/-- The ring stays where its blocks stay. -/
theorem Ring.keep {w w' : World} {hb : Nat} {HT : TypeId} {pre : List Value} {np : Nat} {T : TypeId} {L : List Nd} (R : Ring w hb HT pre np T L) (hh : w'.heap[hb]? = w.heap[hb]?) (hk : ∀ x ∈ L, w'.heap[x.g]? = w.heap[x.g]?) : Ring w' hb HT pre np T L :=
  ⟨R.nodup, R.nin, R.pre3, R.len, fun i x hx => (hk x (mem_get hx)).trans (R.blk i x hx), hh.trans R.head⟩
theorem Ring.lt {w : World} {hb : Nat} {HT : TypeId} {pre : List Value} {np : Nat} {T : TypeId} {L : List Nd} (R : Ring w hb HT pre np T L) : hb < w.heap.size := (Array.getElem?_eq_some_iff.1 R.head).1
theorem Ring.node_lt {w : World} {hb : Nat} {HT : TypeId} {pre : List Value} {np : Nat} {T : TypeId} {L : List Nd} (R : Ring w hb HT pre np T L) {x : Nd} (hx : x ∈ L) : x.g < w.heap.size := by
  obtain ⟨i, hi, rfl⟩ := List.getElem_of_mem hx
  exact (Array.getElem?_eq_some_iff.1 (R.blk i _ (List.getElem?_eq_getElem hi))).1
theorem Ring.step {w w' : World} {hb : Nat} {HT : TypeId} {pre : List Value} {np : Nat} {T : TypeId} {L : List Nd} (R : Ring w hb HT pre np T L) (hb' : Below w.heap.size w w') : Ring w' hb HT pre np T L :=
  R.keep (hb'.block _ R.lt) fun x hx => hb'.block _ (R.node_lt hx)
/-- A cell ahead of the head is written. -/
theorem Ring.setPre {w : World} {hb : Nat} {HT : TypeId} {pre : List Value} {np : Nat} {T : TypeId} {L : List Nd} (R : Ring w hb HT pre np T L) (j : Nat) (hj : j < pre.length) (v : Value) : Ring (w.setCell ⟨hb, j, none⟩ v) hb HT (pre.set j v) np T L := by
  have hl : (pre.set j v).length = pre.length := by simp
  refine ⟨R.nodup, R.nin, by rw [hl]; exact R.pre3, R.len, ?_, ?_⟩
  · intro i x hx
    rw [heap_set (R.blk i x hx), if_neg (fun e => R.nin x (mem_get hx) e.symm)]
    unfold hdA; rw [hl]
  · rw [heap_set R.head, if_pos rfl]
    unfold hdA hdC; rw [hl]
    congr 1; congr 1
    apply Array.ext'
    simp [List.set_append, hj]
/-- A new ring: the head alone, leading to itself. -/
theorem Ring.new {w : World} {hb : Nat} {HT : TypeId} {pre : List Value} {np : Nat} (T : TypeId) (h3 : np ≤ pre.length) (h : w.heap[hb]? = some (.cells (pre ++ [Value.pointer (some (hdA hb pre np)), Value.pointer (some (hdA hb pre np))]).toArray HT (0, 0))) : Ring w hb HT pre np T [] :=
  ⟨by simp, by simp, h3, by simp, by simp, h⟩
end Go.Proofs.Ytepedjnmliclkaa
