/- The bounded table: New, Used, Peek, Drop, Get, Keys. Conditions: keys that differ and are texts, sizes not below 0 that sum up to at most the room. -/
import Derived.Test.YtepedjnmliclkaaLruR
set_option linter.unusedVariables false
set_option linter.unusedSimpArgs false
namespace Go.Proofs.Ytepedjnmliclkaa
open Go.RowKit

theorem mapErase (G : List (Nat × Cn)) (k : Nat) : (G.eraseIdx k).map (·.2) = (G.map (·.2)).eraseIdx k := by
  induction G generalizing k with
  | nil => simp
  | cons x r ih => cases k with
    | zero => simp
    | succ k => simp [ih]
theorem mapGet {G : List (Nat × Cn)} {k : Nat} {x : Nat × Cn} (h : G[k]? = some x) : (G.map (·.2))[k]? = some x.2 := by simp [h]
def sumW (xs : List Cn) : Int := (xs.map (·.wh)).sum
/-- What holds of a table's items. -/
structure ItemsOK (room : Int) (xs : List Cn) : Prop where
  keys : KeysOK xs
  each : ∀ x ∈ xs, x.o.length ≤ maxLen ∧ 0 ≤ x.wh
  sum : sumW xs ≤ room
  room : room ≤ 1073741824
theorem sumW_cons (x : Cn) (xs : List Cn) : sumW (x :: xs) = x.wh + sumW xs := by simp [sumW]
theorem sumW_nonneg : ∀ {xs : List Cn}, (∀ x ∈ xs, 0 ≤ x.wh) → 0 ≤ sumW xs
  | [], _ => by simp [sumW]
  | x :: r, h => by
    rw [sumW_cons]
    have h1 := h x (List.mem_cons_self ..)
    have h2 := sumW_nonneg (xs := r) fun y hy => h y (List.mem_cons_of_mem _ hy)
    omega
theorem sumW_erase : ∀ {xs : List Cn} {k : Nat} {x : Cn}, xs[k]? = some x → sumW (xs.eraseIdx k) = sumW xs - x.wh
  | [], k, x, h => by simp at h
  | y :: r, 0, x, h => by
    simp at h
    subst h
    rw [sumW_cons]; simp; omega
  | y :: r, k + 1, x, h => by
    simp at h
    have ih := sumW_erase (xs := r) (k := k) h
    simp only [List.eraseIdx_cons_succ]
    rw [sumW_cons, sumW_cons, ih]; omega
theorem sumW_mem {xs : List Cn} (h : ∀ x ∈ xs, 0 ≤ x.wh) {k : Nat} {x : Cn} (hx : xs[k]? = some x) : x.wh ≤ sumW xs := by
  have h1 := sumW_erase hx
  have h2 := sumW_nonneg (xs := xs.eraseIdx k) fun y hy => h y (List.mem_of_mem_eraseIdx hy)
  omega
theorem KeysOK.erase {xs : List Cn} (h : KeysOK xs) (k : Nat) : KeysOK (xs.eraseIdx k) := by
  unfold KeysOK at *
  have : (xs.eraseIdx k).map (·.o) = (xs.map (·.o)).eraseIdx k := by
    clear h
    induction xs generalizing k with
    | nil => simp
    | cons x r ih => cases k with
      | zero => simp
      | succ k => simp [ih]
  rw [this]
  exact h.eraseIdx k
/-- Without a key. -/
def woL (s : List UInt8) (xs : List Cn) : List Cn := xs.filter fun x => !(x.o == s)
theorem woL_none {s : List UInt8} {xs : List Cn} (h : ∀ x ∈ xs, x.o ≠ s) : woL s xs = xs := by
  unfold woL
  rw [List.filter_eq_self]
  intro x hx
  simp [h x hx]
theorem erase_woL : ∀ {xs : List Cn} {k : Nat} {x : Cn}, KeysOK xs → xs[k]? = some x → xs.eraseIdx k = woL x.o xs
  | [], k, x, _, h => by simp at h
  | y :: r, 0, x, hn, h => by
    simp at h
    subst h
    unfold KeysOK at hn
    simp only [List.map_cons, List.nodup_cons] at hn
    have : woL y.o r = r := woL_none fun z hz e => hn.1 (List.mem_map.2 ⟨z, hz, e⟩)
    simp only [List.eraseIdx_cons_zero]
    unfold woL at this ⊢
    simp [this]
  | y :: r, k + 1, x, hn, h => by
    simp at h
    unfold KeysOK at hn
    simp only [List.map_cons, List.nodup_cons] at hn
    have hne : y.o ≠ x.o := fun e => hn.1 (List.mem_map.2 ⟨x, by obtain ⟨hk, rfl⟩ := List.getElem?_eq_some_iff.1 h; exact List.getElem_mem hk, e.symm⟩)
    have ih := erase_woL (xs := r) (k := k) hn.2 h
    simp only [List.eraseIdx_cons_succ]
    rw [ih]
    unfold woL
    simp [hne]
def findK (s : List UInt8) (xs : List Cn) : Option Cn := xs.find? fun x => x.o == s
/-- The table, told by its items alone. -/
def LruX (w : World) (B tb : Nat) (room : Int) (mb N : Nat) (xs : List Cn) : Prop := ∃ G, G.map (·.2) = xs ∧ LruW w B tb room (sumW xs) mb N G
theorem LruX.step {w w' : World} {B tb mb N : Nat} {room : Int} {xs : List Cn} (h : LruX w B tb room mb N xs) (hb : Below w.heap.size w w') : LruX w' B tb room mb N xs := by
  obtain ⟨G, h1, h2⟩ := h
  exact ⟨G, h1, h2.step hb⟩
theorem LruX.drew {w : World} {B tb mb N : Nat} {room : Int} {xs : List Cn} (h : LruX w B tb room mb N xs) : LruX w.drew B tb room mb N xs := by
  obtain ⟨G, h1, h2⟩ := h
  exact ⟨G, h1, h2.drew⟩
theorem LruX.drewN {w : World} {B tb mb N : Nat} {room : Int} {xs : List Cn} (h : LruX w B tb room mb N xs) (n : Nat) : LruX (w.drewN n) B tb room mb N xs := by
  obtain ⟨G, h1, h2⟩ := h
  exact ⟨G, h1, h2.drewN n⟩
theorem LruX.lt {w : World} {B tb mb N : Nat} {room : Int} {xs : List Cn} (h : LruX w B tb room mb N xs) : B ≤ w.heap.size := by
  obtain ⟨G, h1, h2⟩ := h
  have := h2.ring.lt
  have := h2.base.1
  omega
theorem find_of_look {G : List (Nat × Cn)} {s : List UInt8} : (lookL G s = none → findK s (G.map (·.2)) = none) ∧ ∀ (k : Nat) (x : Nat × Cn), KeysOK (G.map (·.2)) → G[k]? = some x → x.2.o = s → findK s (G.map (·.2)) = some x.2 := by
  constructor
  · intro h
    unfold findK
    rw [List.find?_eq_none]
    intro x hx
    obtain ⟨p, hp, rfl⟩ := List.mem_map.1 hx
    simpa using look_not h p hp
  · intro k x hn hx hs
    have h1 : ∀ {xs : List Cn} {k : Nat} {x : Cn}, KeysOK xs → xs[k]? = some x → findK x.o xs = some x := by
      intro xs
      induction xs with
      | nil => intro k x _ h; simp at h
      | cons y r ih =>
        intro k x hn h
        unfold KeysOK at hn
        simp only [List.map_cons, List.nodup_cons] at hn
        cases k with
        | zero => simp at h; subst h; simp [findK, List.find?_cons]
        | succ k =>
          simp at h
          have hne : (y.o == x.o) = false := by
            rw [beq_eq_false_iff_ne]
            exact fun e => hn.1 (List.mem_map.2 ⟨x, by obtain ⟨hk, rfl⟩ := List.getElem?_eq_some_iff.1 h; exact List.getElem_mem hk, e.symm⟩)
          have := ih hn.2 h
          unfold findK at this ⊢
          rw [List.find?_cons, hne]; exact this
    rw [← hs]
    exact h1 hn (mapGet hx)
theorem zeroP (w : World) : (zeroValue 93).run Try.prog w = .ok (.pointer none) w := by kernel_rfl
theorem look_run {w : World} {B tb mb N : Nat} {room used : Int} {G : List (Nat × Cn)} (h : LruW w B tb room used mb N G) {s : List UInt8} (hs : s.length ≤ maxLen) :
    (Instr.lookup 92 (.map (some mb)) (.string (bs s)) false).run Try.prog w = .ok (.pointer ((lookL G s).map fun g => ⟨g, 0, none⟩)) w := by
  obtain ⟨D, hm, hat⟩ := h.map
  obtain ⟨v, ps, hrun, hv⟩ := hm.lookup law Try.underlying92 (zeroP w) ptrR_nil (keyIs hs)
  rw [hrun]
  rw [hat s hs] at hv
  cases hl : lookL G s with
  | none => rw [hl] at hv; rw [ptrR_inv_nil hv]; rfl
  | some g => rw [hl] at hv; rw [ptrR_inv_some hv]; rfl
def roomL (r : Int) : Int := if r < 0 then 0 else if 1073741824 < r then 1073741824 else r
set_option maxHeartbeats 1000000 in
theorem lruNew_any (room : Int) (w : World) :
    Calls Try.prog 14 #[.int .i64 room] w fun e w' => ∃ tb mb, e = .returned (.pointer (some ⟨tb, 0, none⟩)) ∧ LruX w' w.heap.size tb (roomL room) mb 0 [] ∧ Below w.heap.size w w' := by
  have hmm := @run_makeMap Try.prog
  have hal1 := alloc_below w (.map #[] 0)
  have hm0 := World.ownsMap_made w Try.prog 9 ptrR
  have hal2 := alloc_below (w.alloc (.map #[] 0)) (.cells #[.int .i64 (roomL room), .int .i64 0, .map (some w.heap.size), .string ⟨#[]⟩, .int .i64 0, .int .i64 0, .pointer (some ⟨w.heap.size + 1, 3, none⟩), .pointer (some ⟨w.heap.size + 1, 3, none⟩)] 97)
  have hnew := heap_alloc_new (w.alloc (.map #[] 0)) (.cells #[.int .i64 (roomL room), .int .i64 0, .map (some w.heap.size), .string ⟨#[]⟩, .int .i64 0, .int .i64 0, .pointer (some ⟨w.heap.size + 1, 3, none⟩), .pointer (some ⟨w.heap.size + 1, 3, none⟩)] 97)
  rw [show (w.alloc (.map #[] 0)).heap.size = w.heap.size + 1 by simp] at hnew
  have HR : Hid (LruX ((w.alloc (.map #[] 0)).alloc (.cells #[.int .i64 (roomL room), .int .i64 0, .map (some w.heap.size), .string ⟨#[]⟩, .int .i64 0, .int .i64 0, .pointer (some ⟨w.heap.size + 1, 3, none⟩), .pointer (some ⟨w.heap.size + 1, 3, none⟩)] 97)).drew w.heap.size (w.heap.size + 1) (roomL room) w.heap.size 0 []) :=
    Lib.hid ⟨[], rfl, (⟨Ring.new (pre := lruPre (roomL room) 0 w.heap.size) (np := 3) 95 (by simp [lruPre]) hnew, ⟨_, hm0.alloc _, fun s hs => by simp [lookL, elD, DataW.atKey]⟩, by omega, by omega, by simp⟩ : LruW _ w.heap.size (w.heap.size + 1) (roomL room) 0 w.heap.size 0 []).drew⟩
  have HB := Lib.hid (bnext hal1 hal2 hal1.size).drew
  have HRO : Hid (roomL room = if room < 0 then 0 else if 1073741824 < room then 1073741824 else room) := Lib.hid rfl
  clear hal1 hal2 hm0 hnew
  have hcs : room < 0 ∨ (¬ room < 0 ∧ 1073741824 < room) ∨ (¬ room < 0 ∧ ¬ 1073741824 < room) := by omega
  rcases hcs with h1 | ⟨h1, h2⟩ | ⟨h1, h2⟩
  · rw [show roomL room = 0 by rw [HRO.out, if_pos h1]] at HR HB ⊢
    go_enter Try.func14, Try.ntmps14
    go_wp2
    go_region
    go_wp2
    go_ret
    exact ⟨w.heap.size + 1, w.heap.size, rfl, HR.out, HB.out⟩
  · rw [show roomL room = 1073741824 by rw [HRO.out, if_neg h1, if_pos h2]] at HR HB ⊢
    go_enter Try.func14, Try.ntmps14
    go_wp2
    go_region
    go_wp2
    go_ret
    exact ⟨w.heap.size + 1, w.heap.size, rfl, HR.out, HB.out⟩
  · rw [show roomL room = room by rw [HRO.out, if_neg h1, if_neg h2]] at HR HB ⊢
    go_enter Try.func14, Try.ntmps14
    go_wp2
    go_region
    go_wp2
    go_ret
    exact ⟨w.heap.size + 1, w.heap.size, rfl, HR.out, HB.out⟩
theorem lruUsed_any (B tb mb N : Nat) (room : Int) (xs : List Cn) (w : World) (h : LruX w B tb room mb N xs) : Calls Try.prog 26 #[.pointer (some ⟨tb, 0, none⟩)] w fun e w' => e = .returned (.int .i64 (sumW xs)) ∧ w = w' := by
  obtain ⟨G, rfl, hw⟩ := h
  have c1 := hw.cells.2.1
  generalize sumW (G.map (·.2)) = u at *
  clear hw
  go_enter Try.func26, Try.ntmps26
  go_wp2
  go_ret
  exact ⟨rfl, rfl⟩
def peekV : Option Cn → Value
  | some x => .tuple #[.int .i64 x.id, .bool true]
  | none => .tuple #[.int .i64 0, .bool false]
theorem lruPeek_any (B tb mb N : Nat) (room : Int) (xs : List Cn) (s : List UInt8) (w : World) (h : LruX w B tb room mb N xs) (hn : KeysOK xs) (hs : s.length ≤ maxLen) : Calls Try.prog 23 #[.pointer (some ⟨tb, 0, none⟩), .string (bs s)] w fun e w' => e = .returned (peekV (findK s xs)) ∧ w = w' := by
  obtain ⟨G, rfl, hw⟩ := h
  have c2 := hw.cells.2.2.1
  have hr := look_run hw hs
  obtain ⟨hf0, hf1⟩ := find_of_look (G := G) (s := s)
  cases hl : lookL G s with
  | none =>
    rw [hl] at hr
    have HF := Lib.hid (hf0 hl)
    rw [HF.out]
    clear hf0 hf1 hl hw hs hn
    simp only [Option.map_none] at hr
    go_enter Try.func23, Try.ntmps23
    go_wp2
    go_ret2
    exact ⟨rfl, rfl⟩
  | some g =>
    obtain ⟨k, x, hx, rfl, hxs⟩ := look_is hl
    rw [hl] at hr
    have HF := Lib.hid (hf1 k x hn hx hxs)
    rw [HF.out]
    have d1 := (ring_node hw.ring hx).2.1
    clear hf0 hf1 hl hw hs hn hx hxs HF
    obtain ⟨g, x⟩ := x
    simp only [Option.map_some] at hr d1
    go_enter Try.func23, Try.ntmps23
    go_wp2
    go_ret2
    exact ⟨rfl, rfl⟩
set_option maxRecDepth 100000 in
set_option maxHeartbeats 1000000 in
theorem lruDrop_any (B tb mb N : Nat) (room : Int) (xs : List Cn) (s : List UInt8) (w : World) (h : LruX w B tb room mb N xs) (hi : ItemsOK room xs) (hs : s.length ≤ maxLen) : Calls Try.prog 24 #[.pointer (some ⟨tb, 0, none⟩), .string (bs s)] w fun e w' => e = .returned (.bool (findK s xs).isSome) ∧ LruX w' B tb room mb N (woL s xs) ∧ Turn B 95 97 w w' := by
  obtain ⟨G, rfl, hw⟩ := h
  have c2 := hw.cells.2.2.1
  have hr := look_run hw hs
  obtain ⟨hf0, hf1⟩ := find_of_look (G := G) (s := s)
  cases hl : lookL G s with
  | none =>
    rw [hl] at hr
    have HF := Lib.hid (hf0 hl)
    have HW : Hid (LruX w B tb room mb N (woL s (G.map (·.2)))) := Lib.hid (by
      rw [woL_none (fun x hx => by
        obtain ⟨p, hp, rfl⟩ := List.mem_map.1 hx
        exact look_not hl p hp)]
      exact ⟨G, rfl, hw⟩)
    rw [HF.out]
    clear hf0 hf1 hl hw hs hi
    simp only [Option.map_none] at hr
    go_enter Try.func24, Try.ntmps24
    go_wp2
    go_ret
    exact ⟨rfl, HW.out, Turn.refl _ _ _ _⟩
  | some g =>
    obtain ⟨k, x, hx, rfl, hxs⟩ := look_is hl
    rw [hl] at hr
    have HF := Lib.hid (hf1 k x hi.keys hx hxs)
    rw [HF.out]
    have hm := hi.each x.2 (mem_of_get? (mapGet hx))
    have hsm := sumW_mem (xs := G.map (·.2)) (fun y hy => (hi.each y hy).2) (mapGet hx)
    have h0 := sumW_nonneg (xs := G.map (·.2)) fun y hy => (hi.each y hy).2
    have h1 := hi.sum
    have h2 := hi.room
    have hR := lruRemove_any B tb mb N room (sumW (G.map (·.2))) G k x w hw hx hi.keys hm.1 h0 (by omega) hm.2 (by omega)
    have HS := Lib.hid (sumW_erase (mapGet hx))
    have HE : Hid ((G.eraseIdx k).map (·.2) = woL s (G.map (·.2))) := Lib.hid (by
      rw [mapErase, erase_woL hi.keys (mapGet hx), hxs])
    clear hf0 hf1 hl hw hs hx hxs HF hm hsm h0 h1 h2 hi
    obtain ⟨g, x⟩ := x
    simp only [Option.map_some] at hr
    dsimp only at hR
    go_enter Try.func24, Try.ntmps24
    go_wp2_with fail
    refine hR.mono ?_
    rintro e w1 ⟨rfl, hw1, ht1⟩
    have HW1 := Lib.hid hw1
    clear hw1 hR
    go_wp2
    go_ret
    refine ⟨rfl, ⟨G.eraseIdx k, HE.out, ?_⟩, ht1⟩
    rw [← HE.out, mapErase, HS.out]
    exact HW1.out
set_option maxRecDepth 100000 in
set_option maxHeartbeats 1000000 in
theorem lruGet_any (B tb mb N : Nat) (room : Int) (xs : List Cn) (s : List UInt8) (w : World) (h : LruX w B tb room mb N xs) (hi : ItemsOK room xs) (hs : s.length ≤ maxLen) : Calls Try.prog 21 #[.pointer (some ⟨tb, 0, none⟩), .string (bs s)] w fun e w' => e = .returned (peekV (findK s xs)) ∧ LruX w' B tb room mb N (match findK s xs with | some x => x :: woL s xs | none => xs) ∧ Turn B 95 97 w w' := by
  obtain ⟨G, rfl, hw⟩ := h
  have c2 := hw.cells.2.2.1
  have hr := look_run hw hs
  obtain ⟨hf0, hf1⟩ := find_of_look (G := G) (s := s)
  have HSs := Lib.hid hs
  cases hl : lookL G s with
  | none =>
    rw [hl] at hr
    have HF := Lib.hid (hf0 hl)
    have HX : Hid (LruX w B tb room mb N (G.map (·.2))) := Lib.hid ⟨G, rfl, hw⟩
    have hP := lruPeek_any B tb mb N room (G.map (·.2)) s w HX.out hi.keys hs
    rw [HF.out] at hP ⊢
    clear hf0 hf1 hl hw hs hi
    unfold peekV at hP ⊢
    simp only [Option.map_none] at hr
    dsimp only at hP ⊢
    go_enter Try.func21, Try.ntmps21
    go_wp2_with fail
    refine hP.mono ?_
    rintro e w1 ⟨rfl, rfl⟩
    go_wp2
    go_ret2
    exact ⟨rfl, HX.out, Turn.refl _ _ _ _⟩
  | some g =>
    obtain ⟨k, x, hx, rfl, hxs⟩ := look_is hl
    rw [hl] at hr
    have HF := Lib.hid (hf1 k x hi.keys hx hxs)
    obtain ⟨hb1, hb2, hb3⟩ := hw.base
    have hU := unlink_any B tb (lruPre room (sumW (G.map (·.2))) mb) G k x w hw.ring hb1 hb3 hx
    have hnode := hw.ring.blk k _ (nds_get hx)
    have hgt : x.1 ≠ tb := hw.ring.nin _ (mem_get (nds_get hx))
    have hgb : B ≤ x.1 := hb3 x (mem_of_get? hx)
    have hnd := hw.ring.nodup
    have hfresh : ∀ p ∈ G.eraseIdx k, p.1 ≠ x.1 := by
      intro p hp e
      obtain ⟨i, hi', rfl⟩ := List.getElem_of_mem hp
      have hpi := List.getElem?_eq_getElem hi'
      rw [List.getElem?_eraseIdx] at hpi
      split at hpi
      · have := get_inj hnd (nds_get hpi) (nds_get hx) e; omega
      · have := get_inj hnd (nds_get hpi) (nds_get hx) e; omega
    have hbE : ∀ p ∈ G.eraseIdx k, B ≤ p.1 := fun p hp => hb3 p (List.mem_of_mem_eraseIdx hp)
    obtain ⟨D, hm, hat⟩ := hw.map
    have hMD : MapOK D G := hat
    have HLE := Lib.hid (look_erase hi.keys hx)
    have HLS := Lib.hid (look_some hi.keys hx)
    have HE : Hid ((G.eraseIdx k).map (·.2) = woL s (G.map (·.2))) := Lib.hid (by
      rw [mapErase, erase_woL hi.keys (mapGet hx), hxs])
    have HS : Hid (sumW (x.2 :: woL s (G.map (·.2))) = sumW (G.map (·.2))) := Lib.hid (by
      rw [sumW_cons, ← HE.out, mapErase, sumW_erase (mapGet hx)]; omega)
    have HK : Hid (KeysOK (x.2 :: woL s (G.map (·.2)))) := Lib.hid (by
      have h1 := hi.keys.erase k
      rw [← mapErase, HE.out] at h1
      unfold KeysOK at h1 ⊢
      rw [List.map_cons, List.nodup_cons]
      refine ⟨fun hm => ?_, h1⟩
      obtain ⟨y, hy, e⟩ := List.mem_map.1 hm
      unfold woL at hy
      have := (List.mem_filter.1 hy).2
      rw [e, hxs] at this
      simp at this)
    have HFK : Hid (findK s (x.2 :: woL s (G.map (·.2))) = some x.2) := Lib.hid (by
      unfold findK
      rw [List.find?_cons]
      simp [hxs])
    have HX := Lib.hid hxs
    rw [HF.out]
    clear hf0 hf1 hl hs hx hxs HF hi hw hb3 hat hnd
    obtain ⟨g, x⟩ := x
    simp only [Option.map_some] at hr
    dsimp only at *
    unfold peekV
    go_enter Try.func21, Try.ntmps21
    go_wp2_with fail
    refine hU.mono ?_
    rintro e w1 ⟨rfl, hR1, hsame, hT1⟩
    have hrow1 := hsame.trans hnode
    have hF1 := front_any B tb (lruPre room (sumW (G.map (·.2))) mb) (G.eraseIdx k) g x _ _ w1 hR1 rfl hb1 hbE hgb hfresh hgt hrow1
    have hm1 := hT1.map hm
    have HT1 := Lib.hid hT1
    have HMD := Lib.hid hMD
    have HBE := Lib.hid hbE
    clear hU hR1 hsame hnode hrow1 hT1 hm hMD hbE hfresh
    go_wp2_with fail
    refine hF1.mono ?_
    rintro e w2 ⟨rfl, hR2, hT2⟩
    have hW2 : LruW w2 B tb room (sumW (G.map (·.2))) mb N ((g, x) :: G.eraseIdx k) := ⟨hR2, ⟨D, hT2.map hm1, fun s' hs' => by
      have h1 := HMD.out s' hs'
      have h2 := HLE.out s'
      have h3 := HLS.out
      try dsimp only at h2 h3
      rw [look_cons, h2, h1]
      try dsimp only
      by_cases e : x.o = s'
      · rw [if_pos e, ← e, h3]
      · rw [if_neg e, if_neg e]⟩, hb1, hb2, fun p hp => by
      rcases List.mem_cons.1 hp with rfl | h
      · exact hgb
      · exact HBE.out p h⟩
    have hX2 : LruX w2 B tb room mb N (x :: woL s (G.map (·.2))) := ⟨(g, x) :: G.eraseIdx k, by rw [List.map_cons, HE.out], by rw [HS.out]; exact hW2⟩
    have hP := lruPeek_any B tb mb N room _ s w2 hX2 HK.out HSs.out
    rw [HFK.out] at hP
    unfold peekV at hP
    dsimp only at hP
    have HX2 := Lib.hid hX2
    have HT2 := Lib.hid (HT1.out.turn.trans hT2.turn)
    clear hF1 hR2 hT2 hW2 hX2 hm1
    go_wp2_with fail
    refine hP.mono ?_
    rintro e w3 ⟨rfl, rfl⟩
    go_wp2
    go_ret2
    exact ⟨rfl, HX2.out, HT2.out⟩
end Go.Proofs.Ytepedjnmliclkaa
