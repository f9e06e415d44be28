/- The bounded table: Keys, Put. Conditions: items that are well (ItemsOK), at most 10^6 of them. -/
import Derived.Test.YtepedjnmliclkaaLruP
set_option linter.unusedVariables false
set_option linter.unusedSimpArgs false
namespace Go.Proofs.Ytepedjnmliclkaa
open Go.RowKit

theorem node_info : (Try.prog.info? 95).map (fun i => i.size) = some 5 := by kernel_rfl
theorem run_neq_ptrL {P : Program} (w : World) {tp te : TypeId} {j : TypeInfo} {a b : Addr} {ca cb : Array Value} {ta tb : TypeId} (hp : P.underlying tp = some (.pointer te)) (hte : P.info? te = some j) (hsz : j.size ≠ 0)
    (hne : a ≠ b) (ha : w.heap[a.block]? = some (.cells ca ta (0, 0))) (hb : w.heap[b.block]? = some (.cells cb tb (0, 0))) :
    (binOp .neq tp (.pointer (some a)) (.pointer (some b))).run P w = .ok (.bool true) w := by
  have h : ∀ d : Nat, (Op.equalIn (d + 1) tp (.pointer (some a)) (.pointer (some b))).run P w = .ok false w := fun d => by
    simp [Op.equalIn, run_underlying hp, sizeOf, typeInfo, hte, hsz, run_sameAddr_other w hne ha hb]
  simp only [binOp]
  simp [Op.equal, Op.maxDepth, h 9999]
theorem neq_node_other (w : World) {a b : Addr} {ca cb : Array Value} {ta tb : TypeId} (hne : a ≠ b) (ha : w.heap[a.block]? = some (.cells ca ta (0, 0))) (hb : w.heap[b.block]? = some (.cells cb tb (0, 0))) :
    (binOp .neq 93 (.pointer (some a)) (.pointer (some b))).run Try.prog w = .ok (.bool true) w := by
  obtain ⟨i, hi, hs⟩ := Option.map_eq_some_iff.1 node_info
  exact run_neq_ptrL w Try.underlying93 hi (by omega) hne ha hb
theorem neq_node_same (w : World) (a : Addr) :
    (binOp .neq 93 (.pointer (some a)) (.pointer (some a))).run Try.prog w = .ok (.bool false) w := by
  obtain ⟨i, hi, hs⟩ := Option.map_eq_some_iff.1 node_info
  exact Lib.run_neq_ptr_same w a Try.underlying93 hi
/-- The table stays behind an append onto a row of texts. -/
theorem LruW.app {w w' : World} {B tb mb N : Nat} {room used : Int} {G : List (Nat × Cn)} (h : LruW w B tb room used mb N G) {C : Nat} {v : Value} {l : List (List UInt8)} (ho : OwnS w C v l) (hg : w.grownBy w' v.ownBlock) : LruW w' B tb room used mb N G := by
  obtain ⟨D, hm, hat⟩ := h.map
  refine ⟨h.ring.grown ho hg (by decide) (by decide), ⟨D, hm.kept hg ?_, hat⟩, h.base⟩
  obtain ⟨es, clock, hb, _⟩ := hm
  have ho' : w.ownsRow C 9 1 v l.length (strs l) := ho
  rcases ho'.2 with ⟨rfl, _⟩ | ⟨g, cap, cur, rfl, _, hh, _⟩
  · simp [Value.ownBlock]
  · intro e
    have : g = mb := by simpa [Value.ownBlock] using e.symm
    subst this
    rw [hh] at hb; cases hb
set_option maxRecDepth 100000 in
set_option maxHeartbeats 2000000 in
theorem lruKeys_any (B tb mb N : Nat) (room : Int) (xs : List Cn) (w : World) (hp : LruX w B tb room mb N xs) (hl : xs.length ≤ 1000000) :
    Calls Try.prog 28 #[.pointer (some ⟨tb, 0, none⟩)] w fun e w' => ∃ A n c, e = .returned (.slice A n c) ∧ OwnS w' w.heap.size (.slice A n c) (xs.map (·.o)) ∧ LruX w' B tb room mb N xs ∧ Below w.heap.size w w' := by
  obtain ⟨G, rfl, hpw⟩ := hp
  have hlG : G.length ≤ 1000000 := by simpa using hl
  have HE : Hid ((G.map (·.2)).map (·.o) = (G.take G.length).map fun x => x.2.o) := Lib.hid (by rw [List.take_length, List.map_map]; rfl)
  have hh := hpw.ring.head
  have c7 : w.cell? ⟨tb, 7, none⟩ = some (.pointer (some (adr ⟨tb, 3, none⟩ (nds G) 1))) := by
    rw [cell_of_row _ _ _ _ _ _ hh]; rfl
  generalize hus : sumW (G.map (·.2)) = us at *
  have HUS := Lib.hid hus
  clear hus
  clear hl hh
  go_enter Try.func28, Try.ntmps28
  go_wp2
  go_loopg [3, 4] G.length (fun r out cur wr => ∃ (j : Nat) (A : Option Addr) (n c : Nat), j ≤ G.length ∧ r + j = G.length ∧ out = .slice A n c ∧ cur = .pointer (some (adr ⟨tb, 3, none⟩ (nds G) (j + 1))) ∧ OwnS wr w.heap.size (.slice A n c) ((G.take j).map fun x => x.2.o) ∧ LruW wr B tb room us mb N G ∧ Below w.heap.size w wr)
  case atStart => exact ⟨0, none, 0, 0, by omega, by omega, rfl, rfl, OwnS.nil _ _, hpw, Below.refl _ _⟩
  case round =>
    clear hpw c7
    obtain ⟨j, A, n, c, hj, hr, rfl, rfl, hown, hpw, hbr⟩ := hrel
    by_cases hlt : j < G.length
    · have hx := List.getElem?_eq_getElem hlt
      have hne : G[j].1 ≠ tb := hpw.ring.nin _ (mem_get (nds_get hx))
      have hq := neq_node_other wr (a := ⟨G[j].1, 0, none⟩) (b := ⟨tb, 3, none⟩) (fun h => hne (by injection h)) (hpw.ring.blk j _ (nds_get hx)) hpw.ring.head
      rw [adr_node (nds_get hx)]
      obtain ⟨n0, n1, n2, n3, n4⟩ := ring_node hpw.ring hx
      have hS := take_snoc? hx
      generalize G[j] = x at *
      obtain ⟨g, x⟩ := x
      have HS := Lib.hid hS
      have HX := Lib.hid hx
      have HP := Lib.hid hpw
      have HB := Lib.hid hbr
      dsimp only at *
      clear hS hx hpw n1 n2 n3 hbr
      go_wp2_with
        (at_builtin
         refine wp_appS rfl (.tmp 19) (.tmp 24) rfl w.heap.size (.slice A n c) ((G.take j).map fun x => x.2.o) rfl (hown.step (alloc_below _ _)) (some ⟨wr.heap.size, 0, none⟩) 1 1 [x.o] rfl ?hr ?hby ?hbase ?_
         case hr => exact one_rdS _ _ _
         case hby => simp; omega
         case hbase => have := HB.out.size; simp; omega
         intro A5 n5 c5 w5 hown5 hb5 hg5 hn5
         have hP5 : LruW w5 B tb room us mb N G := (HP.out.step (alloc_below wr (.cells #[.string (bs x.o)] 9))).app (hown.step (alloc_below wr (.cells #[.string (bs x.o)] 9))) hg5
         have HP5 := Lib.hid hP5
         have m4 := (ring_node hP5.ring HX.out).2.2.2.2
         dsimp only at m4
         clear hP5)
      have hG6 : OwnS w5 w.heap.size (.slice A5 n5 c5) ((G.take (j + 1)).map fun x => x.2.o) := by rw [HS.out, List.map_append]; exact hown5
      have hbx : Below w.heap.size wr w5 := ((alloc_below wr (.cells #[.string (bs x.o)] 9)).mono HB.out.size).trans hb5
      clear hown hown5 hb5 hg5
      go_roundg (G.length - (j + 1))
      case measure => omega
      case rel => exact ⟨j + 1, A5, n5, c5, by omega, by omega, rfl, rfl, hG6, HP5.out, HB.out.trans hbx⟩
    · obtain rfl : j = G.length := by omega
      rw [adr_end (by rw [nds_len]; omega)]
      have hq := neq_node_same wr ⟨tb, 3, none⟩
      go_wp2
      go_ret
      exact ⟨A, n, c, rfl, by rw [HE.out]; exact hown, ⟨G, rfl, by rw [HUS.out]; exact hpw⟩, hbr⟩
/-- The last items go till the sizes are at most lim (told from the last one on). -/
def evR (lim : Int) : List Cn → List Cn × List (List UInt8)
  | [] => ([], [])
  | x :: r => if lim < sumW (x :: r) then ((evR lim r).1, x.o :: (evR lim r).2) else (x :: r, [])
def evL (lim : Int) (xs : List Cn) : List Cn × List (List UInt8) := ((evR lim xs.reverse).1.reverse, (evR lim xs.reverse).2)
/-- Put, told by lists alone. -/
def lputL (room : Int) (s : List UInt8) (v size : Int) (xs : List Cn) : List Cn × List (List UInt8) × Bool :=
  if size < 0 ∨ room < size then (xs, [], false) else (⟨s, v, size⟩ :: (evL (room - size) (woL s xs)).1, (evL (room - size) (woL s xs)).2, true)
theorem sumW_perm {xs ys : List Cn} (h : xs.Perm ys) : sumW xs = sumW ys := by
  induction h with
  | nil => rfl
  | cons x _ ih => rw [sumW_cons, sumW_cons, ih]
  | swap x y l => simp only [sumW_cons]; omega
  | trans _ _ h1 h2 => rw [h1, h2]
theorem sumW_rev (xs : List Cn) : sumW xs.reverse = sumW xs := sumW_perm (List.reverse_perm xs)
theorem evR_len (lim : Int) : ∀ r : List Cn, (evR lim r).1.length + (evR lim r).2.length = r.length
  | [] => rfl
  | x :: r => by
    unfold evR
    split
    · have := evR_len lim r
      simp; omega
    · simp
theorem evR_suf (lim : Int) : ∀ r : List Cn, (evR lim r).1 <:+ r
  | [] => List.suffix_refl _
  | x :: r => by
    unfold evR
    split
    · exact (evR_suf lim r).trans (List.suffix_cons x r)
    · exact List.suffix_refl _
theorem evR_sum (lim : Int) (h : 0 ≤ lim) : ∀ r : List Cn, sumW (evR lim r).1 ≤ lim
  | [] => by simp [evR, sumW]; exact h
  | x :: r => by
    unfold evR
    split
    · exact evR_sum lim h r
    · dsimp only; omega
theorem evL_pre (lim : Int) (xs : List Cn) : (evL lim xs).1 <+: xs := by
  unfold evL
  have h := evR_suf lim xs.reverse
  rw [← List.reverse_prefix, List.reverse_reverse] at h
  exact h
theorem ItemsOK.wo {room : Int} {xs : List Cn} (h : ItemsOK room xs) (s : List UInt8) : ItemsOK room (woL s xs) := by
  have hs : (woL s xs).Sublist xs := List.filter_sublist
  refine ⟨(hs.map _).nodup h.keys, fun x hx => h.each x (hs.subset hx), ?_, h.room⟩
  have : ∀ {a b : List Cn}, a.Sublist b → (∀ x ∈ b, 0 ≤ x.wh) → sumW a ≤ sumW b := by
    intro a b hab
    induction hab with
    | slnil => intro _; exact Int.le_refl _
    | cons x _ ih =>
      intro hb
      rw [sumW_cons]
      have h1 := hb x (List.mem_cons_self ..)
      have h2 := ih fun y hy => hb y (List.mem_cons_of_mem _ hy)
      omega
    | cons_cons x _ ih =>
      intro hb
      rw [sumW_cons, sumW_cons]
      have h2 := ih fun y hy => hb y (List.mem_cons_of_mem _ hy)
      omega
  have := this hs fun x hx => (h.each x hx).2
  have := h.sum
  omega
theorem woL_not {s : List UInt8} {xs : List Cn} {x : Cn} (h : x ∈ woL s xs) : x ∈ xs ∧ x.o ≠ s := by
  unfold woL at h
  have := List.mem_filter.1 h
  exact ⟨this.1, by simpa using this.2⟩
theorem ItemsOK.put {room : Int} {xs : List Cn} (h : ItemsOK room xs) {s : List UInt8} {v size : Int} (hs : s.length ≤ maxLen) : ItemsOK room (lputL room s v size xs).1 := by
  unfold lputL
  split
  · exact h
  · rename_i hc
    have hw := h.wo s
    have hp := evL_pre (room - size) (woL s xs)
    have hsum : sumW (evL (room - size) (woL s xs)).1 ≤ room - size := by
      unfold evL
      rw [sumW_rev]
      exact evR_sum _ (by omega) _
    refine ⟨?_, ?_, ?_, h.room⟩
    · unfold KeysOK
      rw [List.map_cons, List.nodup_cons]
      refine ⟨fun hm => ?_, (hp.sublist.map _).nodup hw.keys⟩
      obtain ⟨y, hy, e⟩ := List.mem_map.1 hm
      exact (woL_not (hp.subset hy)).2 e
    · intro x hx
      rcases List.mem_cons.1 hx with rfl | hx
      · exact ⟨hs, by dsimp only; omega⟩
      · exact hw.each x (hp.subset hx)
    · rw [sumW_cons]
      dsimp only
      omega
theorem lputL_len (room : Int) (s : List UInt8) (v size : Int) (xs : List Cn) : (lputL room s v size xs).1.length ≤ xs.length + 1 ∧ (lputL room s v size xs).2.1.length ≤ xs.length := by
  unfold lputL
  split
  · simp
  · have h1 := evR_len (room - size) (woL s xs).reverse
    have h2 : (woL s xs).length ≤ xs.length := List.length_filter_le _ _
    unfold evL
    simp at h1 ⊢
    omega
end Go.Proofs.Ytepedjnmliclkaa
