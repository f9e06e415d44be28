/- The pool: Drop, Take, Expire. Conditions: at most 10^6 connections with ids that differ. -/
import Derived.Test.YtepedjnmliclkaaPoolQ
import Derived.Test.YtepedjnmliclkaaTyL
set_option linter.unusedVariables false
set_option linter.unusedSimpArgs false
namespace Go.Proofs.Ytepedjnmliclkaa
open Go.RowKit

/-- The ids differ. -/
def IdsOK (xs : List Cn) : Prop := (xs.map (·.id)).Nodup
def dropL (id : Int) (xs : List Cn) : List Cn := xs.filter fun x => x.id != id
theorem dropL_none {id : Int} {xs : List Cn} (h : ∀ x ∈ xs, x.id ≠ id) : dropL id xs = xs := by
  unfold dropL
  rw [List.filter_eq_self]
  intro x hx
  simp [h x hx]
theorem erase_dropL : ∀ {xs : List Cn} {k : Nat} {x : Cn}, IdsOK xs → xs[k]? = some x → xs.eraseIdx k = dropL x.id xs
  | [], k, x, _, h => by simp at h
  | y :: r, 0, x, hn, h => by
    simp at h
    subst h
    unfold IdsOK at hn
    simp only [List.map_cons, List.nodup_cons] at hn
    have : dropL y.id r = r := dropL_none fun z hz e => hn.1 (List.mem_map.2 ⟨z, hz, e⟩)
    simp only [List.eraseIdx_cons_zero]
    unfold dropL at this ⊢
    simp [this]
  | y :: r, k + 1, x, hn, h => by
    simp at h
    unfold IdsOK at hn
    simp only [List.map_cons, List.nodup_cons] at hn
    have hne : y.id ≠ x.id := fun e => hn.1 (List.mem_map.2 ⟨x, by obtain ⟨hk, rfl⟩ := List.getElem?_eq_some_iff.1 h; exact List.getElem_mem hk, e.symm⟩)
    have ih := erase_dropL (xs := r) (k := k) hn.2 h
    simp only [List.eraseIdx_cons_succ]
    rw [ih]
    unfold dropL
    simp [hne]
theorem map_erase2 (G : List (Nat × Cn)) (k : Nat) : (G.eraseIdx k).map (·.2) = (G.map (·.2)).eraseIdx k := by
  induction G generalizing k with
  | nil => simp
  | cons x r ih => cases k with
    | zero => simp
    | succ k => simp [ih]
theorem map_get2 {G : List (Nat × Cn)} {k : Nat} {x : Nat × Cn} (h : G[k]? = some x) : (G.map (·.2))[k]? = some x.2 := by simp [h]
/-- The pool, told by its connections alone. -/
def PoolX (w : World) (B pb : Nat) (most each idle : Int) (xs : List Cn) : Prop := ∃ G, G.map (·.2) = xs ∧ PoolW w B pb most each idle G
theorem PoolX.step {w w' : World} {B pb : Nat} {most each idle : Int} {xs : List Cn} (h : PoolX w B pb most each idle xs) (hb : Below w.heap.size w w') : PoolX w' B pb most each idle xs := by
  obtain ⟨G, h1, h2⟩ := h
  exact ⟨G, h1, h2.step hb⟩
theorem PoolX.drewN {w : World} {B pb : Nat} {most each idle : Int} {xs : List Cn} (h : PoolX w B pb most each idle xs) (n : Nat) : PoolX (w.drewN n) B pb most each idle xs := by
  obtain ⟨G, h1, h2⟩ := h
  exact ⟨G, h1, h2.drewN n⟩
theorem PoolX.lt {w : World} {B pb : Nat} {most each idle : Int} {xs : List Cn} (h : PoolX w B pb most each idle xs) : B ≤ w.heap.size := by
  obtain ⟨G, h1, h2⟩ := h
  have := h2.ring.lt
  have := h2.base.1
  omega
theorem found_mem {G : List (Nat × Cn)} {p : Cn → Bool} (h : ∀ (i : Nat) (y : Nat × Cn), G[i]? = some y → p y.2 = false) : ∀ x ∈ G.map (·.2), p x = false := by
  intro x hx
  obtain ⟨y, hy, rfl⟩ := List.mem_map.1 hx
  obtain ⟨i, hi, rfl⟩ := List.getElem_of_mem hy
  exact h i _ (List.getElem?_eq_getElem hi)
set_option maxHeartbeats 1000000 in
theorem drop_any (B pb : Nat) (most each idle : Int) (xs : List Cn) (id : Int) (w : World) (hp : PoolX w B pb most each idle xs) (hn : IdsOK xs) (hl : xs.length ≤ 1000000) :
    Calls Try.prog 54 #[.pointer (some ⟨pb, 0, none⟩), .int .i64 id] w fun e w' => e = .returned (.bool (xs.any fun x => x.id == id)) ∧ PoolX w' B pb most each idle (dropL id xs) ∧ Turn B 115 117 w w' := by
  have hBw := hp.lt
  obtain ⟨G, rfl, hp⟩ := hp
  have hal := alloc_below w (.cells #[.int .i64 id] 3)
  have hp1 := hp.step hal
  have hF := findFwd B pb most each idle G 76 #[.pointer (some ⟨w.heap.size, 0, none⟩)] (fun x => x.id == id) _ hp1 (fun _ _ => by kernel_rfl) (fun n k x hx => by
    have h1 := ((hp1.drewN n).node hx).2.1
    have h2 : ((w.alloc (.cells #[.int .i64 id] 3)).drewN n).cell? ⟨w.heap.size, 0, none⟩ = some (.int .i64 id) := by
      show (w.alloc (.cells #[.int .i64 id] 3)).cell? _ = _
      rw [cell_of_row _ _ _ #[.int .i64 id] _ (0, 0) (heap_alloc_new w _)]; rfl
    refine (idQ_any w.heap.size x.1 x.2.id id _ h1 h2).mono ?_
    rintro e w' ⟨he, m, hm⟩
    exact ⟨he, n + m, by rw [hm, World.drewN_drewN]⟩)
  have HT := Lib.hid (Turn.of_below (T1 := 115) (T2 := 117) hal hBw)
  have HP := Lib.hid hp1
  have HN := Lib.hid hn
  have hlG : G.length ≤ 1000000 := by simpa using hl
  clear hal hp hp1 hn hl
  go_enter Try.func54, Try.ntmps54
  go_wp2_with fail
  refine hF.mono ?_
  rintro e w1 ⟨hfound, m, rfl⟩
  rcases hfound with ⟨k, x, hx, hpx, hbef, rfl⟩ | ⟨hall, rfl⟩
  · have HX := Lib.hid hx
    have HPX := Lib.hid hpx
    clear hx hpx hbef hF
    have hR := remove_any B pb most each idle G k x _ (HP.out.drewN m) HX.out hlG
    go_wp2_with fail
    refine hR.mono ?_
    rintro e w2 ⟨rfl, hp2, ht2⟩
    have HP2 := Lib.hid hp2
    clear hp2 hR
    go_wp2
    go_ret
    have hid : x.2.id = id := by simpa using HPX.out
    refine ⟨ret_bool ?_, ⟨G.eraseIdx k, ?_, HP2.out⟩, (HT.out.drewN m).trans ht2⟩
    · symm
      rw [List.any_eq_true]
      exact ⟨x.2, mem_of_get? (map_get2 HX.out), by simp [hid]⟩
    · rw [map_erase2, erase_dropL HN.out (map_get2 HX.out), hid]
  · have HA := Lib.hid (found_mem (p := fun x => x.id == id) hall)
    clear hall hF
    go_wp2
    go_ret
    refine ⟨ret_bool ?_, ⟨G, ?_, HP.out.drewN m⟩, HT.out.drewN m⟩
    · symm
      rw [List.any_eq_false]
      intro y hy
      have := HA.out y hy
      simpa using this
    · rw [dropL_none]
      intro y hy
      have := HA.out y hy
      simpa using this
/-- Take: the last connection of this origin that is not old. -/
def takeB (idle now : Int) (o : List UInt8) (x : Cn) : Bool := x.o == o && !oldB idle now x.wh
def lastL (p : Cn → Bool) (xs : List Cn) : Option Cn := xs.reverse.find? p
theorem lastL_none {p : Cn → Bool} {xs : List Cn} (h : ∀ x ∈ xs, p x = false) : lastL p xs = none := by
  unfold lastL
  rw [List.find?_eq_none]
  intro x hx
  simp [h x (by simpa using hx)]
theorem lastL_some {p : Cn → Bool} {xs : List Cn} {k : Nat} {x : Cn} (hx : xs[k]? = some x) (hp : p x = true) (hb : ∀ (i : Nat) (y : Cn), k < i → xs[i]? = some y → p y = false) : lastL p xs = some x := by
  unfold lastL
  obtain ⟨hk, rfl⟩ := List.getElem?_eq_some_iff.1 hx
  have hsplit : xs.reverse = (xs.drop (k + 1)).reverse ++ xs[k] :: (xs.take k).reverse := by
    have h1 : xs = xs.take k ++ xs[k] :: xs.drop (k + 1) := by rw [List.getElem_cons_drop, List.take_append_drop]
    conv => lhs; rw [h1]
    simp
  rw [hsplit, List.find?_append]
  have h2 : (xs.drop (k + 1)).reverse.find? p = none := by
    rw [List.find?_eq_none]
    intro y hy
    rw [List.mem_reverse] at hy
    obtain ⟨i, hi, rfl⟩ := List.getElem_of_mem hy
    have := hb (k + 1 + i) ((xs.drop (k + 1))[i]) (by omega) (by simp)
    rw [this]; simp
  rw [h2]
  simp [List.find?_cons, hp]
def takeV (r : Option Cn) : Value := match r with | some x => .tuple #[.int .i64 x.id, .bool true] | none => .tuple #[.int .i64 0, .bool false]
def takeR (r : Option Cn) (xs : List Cn) : List Cn := match r with | some x => dropL x.id xs | none => xs
set_option maxHeartbeats 1000000 in
theorem take_any (B pb : Nat) (most each idle : Int) (xs : List Cn) (o : List UInt8) (now : Int) (w : World) (hp : PoolX w B pb most each idle xs) (hn : IdsOK xs) (hl : xs.length ≤ 1000000) :
    Calls Try.prog 46 #[.pointer (some ⟨pb, 0, none⟩), .string (bs o), .int .i64 now] w fun e w' => e = .returned (takeV (lastL (takeB idle now o) xs)) ∧ PoolX w' B pb most each idle (takeR (lastL (takeB idle now o) xs) xs) ∧ Turn B 115 117 w w' := by
  have hBw := hp.lt
  obtain ⟨G, rfl, hp⟩ := hp
  have hal1 := alloc_below w (.cells #[.pointer (some ⟨pb, 0, none⟩)] 65)
  have hr1 := heap_alloc_new w (.cells #[.pointer (some ⟨pb, 0, none⟩)] 65)
  have hal2 := alloc_below (w.alloc (.cells #[.pointer (some ⟨pb, 0, none⟩)] 65)) (.cells #[.string (bs o)] 9)
  have hr2 := heap_alloc_new (w.alloc (.cells #[.pointer (some ⟨pb, 0, none⟩)] 65)) (.cells #[.string (bs o)] 9)
  have hal3 := alloc_below ((w.alloc (.cells #[.pointer (some ⟨pb, 0, none⟩)] 65)).alloc (.cells #[.string (bs o)] 9)) (.cells #[.int .i64 now] 3)
  have hr3 := heap_alloc_new ((w.alloc (.cells #[.pointer (some ⟨pb, 0, none⟩)] 65)).alloc (.cells #[.string (bs o)] 9)) (.cells #[.int .i64 now] 3)
  have hb2 := bnext hal1 hal2 hal1.size
  have hb3 := bnext hb2 hal3 hb2.size
  have hp1 := hp.step hb3
  have hr1b := row_keep (row_keep hr1 hal2) hal3
  have hr2b := row_keep hr2 hal3
  rw [show (w.alloc (.cells #[.pointer (some ⟨pb, 0, none⟩)] 65)).heap.size = w.heap.size + 1 by simp] at hr2b
  rw [show ((w.alloc (.cells #[.pointer (some ⟨pb, 0, none⟩)] 65)).alloc (.cells #[.string (bs o)] 9)).heap.size = w.heap.size + 1 + 1 by simp] at hr3
  clear hal1 hal2 hal3 hb2 hr1 hr2 hp
  have c1 := (row1 hr1b).1
  have c2 := (row1 hr2b).1
  have c3 := (row1 hr3).1
  clear hr1b hr2b hr3
  have hF := findBwd B pb most each idle G 70 #[.pointer (some ⟨w.heap.size + 1, 0, none⟩), .pointer (some ⟨w.heap.size, 0, none⟩), .pointer (some ⟨w.heap.size + 1 + 1, 0, none⟩)] (takeB idle now o) _ hp1 (fun _ _ => by kernel_rfl) (fun n k x hx => by
    obtain ⟨h0, h1, h2, _⟩ := (hp1.drewN n).node hx
    refine (takeQ_any pb w.heap.size (w.heap.size + 1) (w.heap.size + 1 + 1) x.1 x.2.o o idle now x.2.wh _ h0 c2 h2 (hp1.drewN n).cells.2.2.1 c1 c3).mono ?_
    rintro e w' ⟨he, m, hm⟩
    exact ⟨he, n + m, by rw [hm, World.drewN_drewN]⟩)
  have HT := Lib.hid (Turn.of_below (T1 := 115) (T2 := 117) hb3 hBw)
  have HP := Lib.hid hp1
  have HN := Lib.hid hn
  have hlG : G.length ≤ 1000000 := by simpa using hl
  have HL1 : Hid (∀ (k : Nat) (x : Nat × Cn), G[k]? = some x → takeB idle now o x.2 = true → (∀ (i : Nat) (y : Nat × Cn), (if true then k < i else i < k) → G[i]? = some y → takeB idle now o y.2 = false) → lastL (takeB idle now o) (G.map (·.2)) = some x.2) := Lib.hid fun k x h1 h2 h3 =>
    lastL_some (map_get2 h1) h2 (fun i y hi hy => by
      rw [List.getElem?_map] at hy
      obtain ⟨z, hz, rfl⟩ := Option.map_eq_some_iff.1 hy
      exact h3 i z (by simpa using hi) hz)
  have HL0 : Hid ((∀ (i : Nat) (y : Nat × Cn), G[i]? = some y → takeB idle now o y.2 = false) → lastL (takeB idle now o) (G.map (·.2)) = none) := Lib.hid fun h => lastL_none (found_mem (p := takeB idle now o) h)
  clear hp1 hn hl hb3
  generalize lastL (takeB idle now o) (G.map (·.2)) = R at *
  go_enter Try.func46, Try.ntmps46
  go_wp2_with fail
  refine hF.mono ?_
  rintro e w1 ⟨hfound, m, rfl⟩
  rcases hfound with ⟨k, x, hx, hpx, hbef, rfl⟩ | ⟨hall, rfl⟩
  · obtain rfl : R = some x.2 := HL1.out k x hx hpx hbef
    have HX := Lib.hid hx
    clear hx hpx hbef hF HL1 HL0
    have hR := remove_any B pb most each idle G k x _ (HP.out.drewN m) HX.out hlG
    go_wp2_with fail
    refine hR.mono ?_
    rintro e w2 ⟨rfl, hp2, ht2⟩
    have HP2 := Lib.hid hp2
    clear hp2 hR
    go_wp2
    go_ret2
    refine ⟨rfl, ⟨G.eraseIdx k, ?_, HP2.out⟩, (HT.out.drewN m).trans ht2⟩
    rw [map_erase2, erase_dropL HN.out (map_get2 HX.out)]; rfl
  · obtain rfl : R = none := HL0.out hall
    clear hall hF HL1 HL0
    go_wp2
    go_ret2
    exact ⟨rfl, ⟨G, rfl, HP.out.drewN m⟩, HT.out.drewN m⟩
end Go.Proofs.Ytepedjnmliclkaa
