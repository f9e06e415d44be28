/- Joined texts: define. The conditions stand in each line. -/
import Derived.Test.YtgkphjbcaidcpaaGreatDoorM12
import Derived.Deep.RegionHeld3
import Derived.Deep.QuietTactic
import Derived.BigQuiet
import Derived.StillTailTactics
set_option linter.unusedVariables false
set_option linter.unusedSimpArgs false
namespace Go.Proofs.YtgkphjbcaidcpaaGreatDoor
open Go.RowKit

set_option maxRecDepth 100000
namespace Ac
theorem define_short {L : LS} {w : List T} (h : w.length < 3) : define L w = none := by
  unfold define
  split
  · simp at h; omega
  · rfl
def defB (L : LS) (nm k : T) (vs : List T) : Option LS := match atI L.els nm with
  | none => some ⟨L.els ++ [⟨nm, k, vs⟩], L.rus⟩
  | some i => match L.els[i]? with
    | some e => if e.kd = k then some ⟨L.els.set i ⟨e.nm, e.kd, e.vs ++ vs⟩, L.rus⟩ else none
    | none => none
theorem define_eq (L : LS) (nm k v : T) (vs : List T) : define L (nm :: k :: v :: vs) = if tok nm = true ∧ (v :: vs).all (good k) = true then defB L nm k (v :: vs) else none := rfl
theorem define_tok {L : LS} {nm k v : T} {vs : List T} (h : tok nm = false) : define L (nm :: k :: v :: vs) = none := by
  rw [define_eq, if_neg (by rw [h]; simp)]
theorem define_all {L : LS} {nm k v : T} {vs : List T} (h : (v :: vs).all (good k) = false) : define L (nm :: k :: v :: vs) = none := by
  rw [define_eq, if_neg (by rw [h]; simp)]
theorem define_kd {L : LS} {nm k v : T} {vs : List T} {i : Nat} {e : El} (h1 : atI L.els nm = some i) (h2 : L.els[i]? = some e) (h3 : e.kd ≠ k) : define L (nm :: k :: v :: vs) = none := by
  rw [define_eq]
  split
  · unfold defB; rw [h1]; simp only; rw [h2]; simp only; rw [if_neg h3]
  · rfl
theorem define_new {L : LS} {nm k v : T} {vs : List T} (h0 : tok nm = true) (h1 : atI L.els nm = none) (h2 : (v :: vs).all (good k) = true) : define L (nm :: k :: v :: vs) = some ⟨L.els ++ [⟨nm, k, v :: vs⟩], L.rus⟩ := by
  rw [define_eq, if_pos ⟨h0, h2⟩]; unfold defB; rw [h1]
theorem define_old {L : LS} {nm k v : T} {vs : List T} {i : Nat} {e : El} (h0 : tok nm = true) (h1 : atI L.els nm = some i) (h2 : L.els[i]? = some e) (h3 : e.kd = k) (h4 : (v :: vs).all (good k) = true) : define L (nm :: k :: v :: vs) = some ⟨L.els.set i ⟨e.nm, e.kd, e.vs ++ (v :: vs)⟩, L.rus⟩ := by
  rw [define_eq, if_pos ⟨h0, h4⟩]; unfold defB; rw [h1]; simp only; rw [h2]; simp only; rw [if_pos h3]
end Ac
theorem eq_fn_nil (W : World) : (binOp .eql 81 .nilFunc .nilFunc).run Tryz.prog W = .ok (.bool true) W := by kernel_rfl
theorem eq_fn_some (K : Nat) (W : World) : (binOp .eql 81 (.func (.func K) #[] #[]) .nilFunc).run Tryz.prog W = .ok (.bool false) W := by kernel_rfl
theorem PM.look_none {w : World} {mb N : Nat} {bx : Nat → Nat} {els : List Ac.El} (h : PM w mb N bx els) {s : List UInt8} (hs : s.length ≤ maxLen) (hl : Ac.atI els s = none) : (Instr.lookup 47 (.map (some mb)) (.string (bs s)) false).run Tryz.prog w = .ok (.pointer none) w := by rw [h.look hs, hl]; rfl
theorem PM.look_some {w : World} {mb N : Nat} {bx : Nat → Nat} {els : List Ac.El} (h : PM w mb N bx els) {s : List UInt8} (hs : s.length ≤ maxLen) {k : Nat} (hl : Ac.atI els s = some k) : (Instr.lookup 47 (.map (some mb)) (.string (bs s)) false).run Tryz.prog w = .ok (.pointer (some ⟨bx k, 0, none⟩)) w := by rw [h.look hs, hl]; rfl
theorem FnMap.look_none {w : World} {mb : Nat} (h : FnMap w mb) {s : List UInt8} (hs : s.length ≤ maxLen) (hl : fnK s = none) : (Instr.lookup 82 (.map (some mb)) (.string (bs s)) false).run Tryz.prog w = .ok .nilFunc w := by rw [h.look hs]; unfold fnV; rw [hl]
theorem FnMap.look_some {w : World} {mb : Nat} (h : FnMap w mb) {s : List UInt8} (hs : s.length ≤ maxLen) {K : Nat} (hl : fnK s = some K) : (Instr.lookup 82 (.map (some mb)) (.string (bs s)) false).run Tryz.prog w = .ok (.func (.func K) #[] #[]) w := by rw [h.look hs]; unfold fnV; rw [hl]
/-- What define leaves. -/
def DefOut (B g mb N : Nat) (w : World) (r : Option Ac.LS) (e : Ending) (w' : World) : Prop := e = .returned (.bool r.isSome) ∧ AFr B w w' ∧ ∀ L', r = some L' → PWx w' B g mb (N + 1) L'
theorem maxl_fr {B : Nat} {w w' : World} (h : MaxL w) (hf : AFr B w w') (hB : 0 < B) : MaxL w' := by
  obtain ⟨m, hm⟩ := h
  exact ⟨m, (World.cell?_of_block (w := w) (hf.low _ hB)).trans hm⟩
theorem DefOut.no {B g mb N : Nat} {w w' : World} (h : AFr B w w') : DefOut B g mb N w none (.returned (.bool false)) w' := ⟨rfl, h, fun _ e => by cases e⟩
theorem keep1 {A : Addr} {u : Value} {W0 W W' : World} (h : W.cell? A = some u ∧ Below W0.heap.size W0 W) (hb : Below W.heap.size W W') : W'.cell? A = some u ∧ Below W0.heap.size W0 W' :=
  ⟨(hb.cell (World.block_lt_of_cell? W _ h.1)).trans h.1, bnext h.2 hb h.2.size⟩
theorem get_same {α : Type} {l : List α} {i : Nat} {x : α} (y : α) (h : l[i]? = some x) : (l.set i y)[i]? = some y := by
  rw [List.getElem?_set]; simp [(List.getElem?_eq_some_iff.1 h).1]
theorem allG_snoc {k : List UInt8} {l : List (List UInt8)} {j : Nat} {s : List UInt8} (h : l[j]? = some s) (h1 : (l.take j).all (Ac.good k) = true) (h2 : Ac.good k s = true) : (l.take (j + 1)).all (Ac.good k) = true := by rw [take_snoc? h, List.all_append, h1]; simp [h2]
theorem strs_at {l : List (List UInt8)} {j : Nat} {a b s : List UInt8} (h : l[j]? = some s) : (strs (a :: b :: l))[j + 2]? = some (.string (bs s)) := by
  unfold strs
  rw [List.getElem?_map]
  show (l[j]?).map strV = _
  rw [h]; rfl
theorem set_self {α : Type} {l : List α} {i : Nat} {x : α} (h : l[i]? = some x) : l.set i x = l := by
  obtain ⟨hi, rfl⟩ := List.getElem?_eq_some_iff.1 h
  simp
theorem repV_if {k v : List UInt8} (h : Ac.good k v = true) : ∃ T x, repV k v = .iface T x := by
  rcases Ac.kinds h with rfl | rfl | rfl | rfl | rfl | rfl
  · rw [Ac.good_src] at h
    obtain ⟨⟨n, b⟩, hn⟩ := Option.isSome_iff_exists.1 h
    exact ⟨_, _, repV_src hn⟩
  · by_cases h46 : (fold v).head? = some 46
    · exact ⟨_, _, repV_suf h46⟩
    · exact ⟨_, _, repV_ex h46⟩
  · rw [Ac.good_port] at h
    obtain ⟨⟨n, b⟩, hn⟩ := Option.isSome_iff_exists.1 h
    exact ⟨_, _, repV_port hn⟩
  · exact ⟨_, _, repV_meth v⟩
  · exact ⟨_, _, repV_path v⟩
  · rw [Ac.good_time] at h
    obtain ⟨⟨n, b⟩, hn⟩ := Option.isSome_iff_exists.1 h
    exact ⟨_, _, repV_time hn⟩
theorem val_rd (w : World) (u : Value) (t : TypeId) : Rd (w.alloc (.cells #[u] t)) 1 (some ⟨w.heap.size, 0, none⟩) 1 [u] := cell1_rd w u t
set_option maxHeartbeats 4000000 in
theorem define_any (L : Ac.LS) (wd : List (List UInt8)) (B g mb N : Nat) (WA : Option Addr) (wn wc : Nat) (w : World) (hM : MaxL w) (hMB : 0 < B) (hW : RdW w WA wn wd) (hP : PWx w B g mb N L) (hwd : ∀ s ∈ wd, 1 ≤ s.length ∧ s.length ≤ 4194304)
    (hwn : wn ≤ 4194304) (hwc : wn ≤ wc ∧ wc ≤ maxLen) (hcap : ∀ e ∈ L.els, e.vs.length + wn ≤ 4194304) (hN : N < maxLen) :
    Calls Tryz.prog 27 #[.pointer (some ⟨g, 0, none⟩), .slice WA wn wc] w fun e w' => DefOut B g mb N w (Ac.define L wd) e w' := by
  by_cases h3 : wn < 3
  · rw [Ac.define_short (by rw [hW.1.1]; exact h3)]
    have h3i : (wn : Int) < 3 := by omega
    clear hW hP hwd hcap hM hMB
    go_enter Tryz.func27, Tryz.ntmps27
    go_wp2
    go_ret
    exact DefOut.no AFr.refl
  obtain ⟨bx, A, n, c, R, rn, rc, hP⟩ := hP
  obtain ⟨g', o', rfl, hg', hc'⟩ := hW.1.2.2 (by omega)
  obtain ⟨nm, k, v, vs, rfl⟩ : ∃ nm k v vs, wd = nm :: k :: v :: vs := by
    have := hW.1.1
    rcases wd with _ | ⟨a, _ | ⟨b, _ | ⟨c, r⟩⟩⟩
    · simp at this; omega
    · simp at this; omega
    · simp at this; omega
    · exact ⟨a, b, c, r, rfl⟩
  have d0 : w.cell? ⟨g', o', none⟩ = some (.string (bs nm)) := hc' 0 _ rfl
  have d1 : w.cell? ⟨g', o' + 1, none⟩ = some (.string (bs k)) := hc' 1 _ rfl
  obtain ⟨m, rfl⟩ : ∃ m, wn = m + 2 := ⟨wn - 2, by omega⟩
  obtain ⟨mc, rfl⟩ : ∃ mc, wc = mc + 2 := ⟨wc - 2, by omega⟩
  have hnl := hwd nm (by simp)
  have hkl := hwd k (by simp)
  have hT := token_any nm w (by omega)
  have h3i : (3 : Int) ≤ (m : Int) + 2 := by omega
  have h1i : (1 : Int) < (m : Int) + 2 := by omega
  have h0i : (0 : Int) < (m : Int) + 2 := by omega
  have HB : Hid (B ≤ w.heap.size) := Lib.hid (Nat.le_of_lt (Nat.lt_of_le_of_lt hP.base.1 (Array.getElem?_eq_some_iff.1 hP.list).1))
  have HC := Lib.hid hcap
  have HWD := Lib.hid hwd
  clear hc' hcap hwd
  cases ht : Ac.tok nm with
  | false =>
    rw [Ac.define_tok ht]
    rw [ht] at hT
    clear ht hW hP
    go_enter Tryz.func27, Tryz.ntmps27
    go_wp2_with fail
    refine hT.mono ?_
    rintro x w2 ⟨rfl, rfl⟩
    clear hT
    go_wp2
    go_ret
    exact DefOut.no AFr.refl
  | true =>
    rw [ht] at hT
    have HWL : Hid ((nm :: k :: v :: vs).length = m + 2) := Lib.hid hW.1.1
    have HW := Lib.hid hW
    clear hW
    cases hfn : fnK k with
    | none =>
      rw [Ac.define_all (by simp only [List.all_cons, fnK_bad hfn, Bool.false_and])]
      cases hl : Ac.atI L.els nm with
      | none =>
        have HF5 := Lib.hid (fun W mb2 (hF : FnMap W mb2) => hF.look_none (s := k) (by unfold maxLen; omega) hfn)
        have HP4 := Lib.hid (fun W (hS : Below w.heap.size w W) => ((hP.step hS).map.look_none (s := nm) (by unfold maxLen; omega) hl))
        have hPa := fun W => parsers_any W
        go_enter Tryz.func27, Tryz.ntmps27
        go_wp2_with fail
        refine hT.mono ?_
        rintro x w2 ⟨rfl, rfl⟩
        clear hT
        go_upto_region 3 with fail
        go_region_held3 (fun w' => w'.cell? ⟨g', o' + 1, none⟩ = some (.string (bs k)) ∧ Below w.heap.size w w')
          ((first | exact ⟨d1, (Below.refl _ _).drew⟩ | assumption | (refine ⟨?_, ?_⟩ <;> assumption) | (apply keep1 <;> assumption)))
          ((go_at_call 38; refine (hPa _).mono ?_; rintro e w1 ⟨mb2, rfl, hF, hb1⟩; have hlk := HF5.out _ _ hF))
        have hS : Below w.heap.size w w1 := by
          have h : w1.cell? ⟨g', o' + 1, none⟩ = some (.string (bs k)) ∧ Below w.heap.size w w1 := by assumption
          exact h.2
        have e0 := (hS.cell (World.block_lt_of_cell? w _ d0)).trans d0
        have e1 := (hS.cell (World.block_lt_of_cell? w _ d1)).trans d1
        have hlk4 := fun q => HP4.out (w1.drewN q) ((below_drewN hS q))
        have hP1 := hP.pd.step hS
        have l0 : w1.cell? ⟨g, 0, none⟩ = some (.map (some mb)) := by rw [cell_of_row _ _ _ _ _ _ hP1.list]; rfl
        have q0 := eq_fn_nil
        clear hPa hF hlk hb1 hP d0 d1
        have hbw : B ≤ w1.heap.size := Nat.le_trans HB.out hS.size
        have HF4 := Lib.hid ((AFr.refl (B := B) (w := w)).next hS HB.out)
        clear hS
        go_upto_region 4 with fail
        go_quiet (fail)
        have hS4 : Below w1.heap.size w1 (w1.drewN nq) := below_drewN (Below.refl _ _) _
        have e1' := (hS4.cell (World.block_lt_of_cell? w1 _ e1)).trans e1
        have hP4 := hP1.step hS4
        have HF5 := Lib.hid (HF4.out.next hS4 hbw)
        replace hbw := Nat.le_trans hbw hS4.size
        clear hlk4 hS4 e0 e1 l0 hP1 HF4
        generalize w1.drewN nq = w4 at *
        have hal := alloc_below w4 (.cells #[.string (bs k), .slice none 0 0] 86)
        have hr4 := heap_alloc_new w4 (.cells #[.string (bs k), .slice none 0 0] 86)
        have HP6 := Lib.hid (hP4.step hal)
        have HNE : Hid (∀ q, q < L.els.length → bx q ≠ w4.heap.size) := Lib.hid fun q hq e => by
          have := (Array.getElem?_eq_some_iff.1 (hP4.els.box q _ (List.getElem?_eq_getElem hq)).2).1
          omega
        have HF6 := Lib.hid (HF5.out.next hal hbw)
        have HBW := Lib.hid hbw
        have hgl : g' < w4.heap.size := World.block_lt_of_cell? w4 _ e1'
        clear hP4 HF5 hbw hal
        go_upto_region 7 with fail
        go_quiet (fail)
        go_wp2
        go_ret
        exact DefOut.no (HF6.out.next (below_drewN (Below.refl _ _) _) (Nat.le_trans HB.out HF6.out.size))
      | some i =>
        obtain ⟨e, he, hnm⟩ := atI_get hl
        have HF5 := Lib.hid (fun W mb2 (hF : FnMap W mb2) => hF.look_none (s := k) (by unfold maxLen; omega) hfn)
        have HP4 := Lib.hid (fun W (hS : Below w.heap.size w W) => ((hP.step hS).map.look_some (s := nm) (by unfold maxLen; omega) hl))
        have hPa := fun W => parsers_any W
        go_enter Tryz.func27, Tryz.ntmps27
        go_wp2_with fail
        refine hT.mono ?_
        rintro x w2 ⟨rfl, rfl⟩
        clear hT
        go_upto_region 3 with fail
        go_region_held3 (fun w' => w'.cell? ⟨g', o' + 1, none⟩ = some (.string (bs k)) ∧ Below w.heap.size w w')
          ((first | exact ⟨d1, (Below.refl _ _).drew⟩ | assumption | (refine ⟨?_, ?_⟩ <;> assumption) | (apply keep1 <;> assumption)))
          ((go_at_call 38; refine (hPa _).mono ?_; rintro e w1 ⟨mb2, rfl, hF, hb1⟩; have hlk := HF5.out _ _ hF))
        have hS : Below w.heap.size w w1 := by
          have h : w1.cell? ⟨g', o' + 1, none⟩ = some (.string (bs k)) ∧ Below w.heap.size w w1 := by assumption
          exact h.2
        have e0 := (hS.cell (World.block_lt_of_cell? w _ d0)).trans d0
        have e1 := (hS.cell (World.block_lt_of_cell? w _ d1)).trans d1
        have hlk4 := fun q => HP4.out (w1.drewN q) ((below_drewN hS q))
        have hP1 := hP.pd.step hS
        have l0 : w1.cell? ⟨g, 0, none⟩ = some (.map (some mb)) := by rw [cell_of_row _ _ _ _ _ _ hP1.list]; rfl
        have q0 := eq_fn_nil
        clear hPa hF hlk hb1 hP d0 d1
        have hbw : B ≤ w1.heap.size := Nat.le_trans HB.out hS.size
        have HF4 := Lib.hid ((AFr.refl (B := B) (w := w)).next hS HB.out)
        have hbx := (hP1.els.box i e he).2
        have b0 : w1.cell? ⟨bx i, 0, none⟩ = some (.string (bs e.kd)) := by rw [cell_of_row _ _ _ _ _ _ hbx]; rfl
        have HP4 := Lib.hid hP1
        clear hS hbx hP1
        go_upto_region 4 with fail
        go_quiet (fail)
        obtain ⟨nq1, hnq1⟩ : ∃ q, q = nq := ⟨_, rfl⟩
        subst hnq1
        go_upto_region 7 with fail
        go_quiet (fail)
        go_wp2
        go_ret
        exact DefOut.no (HF4.out.next (below_drewN (below_drewN (Below.refl _ _) _) _) hbw)
    | some K =>
      have hK := kind_enter hfn
      cases hl : Ac.atI L.els nm with
      | none =>
        have HF5 := Lib.hid (fun W mb2 (hF : FnMap W mb2) => hF.look_some (s := k) (by unfold maxLen; omega) hfn)
        have HP4 := Lib.hid (fun W (hS : Below w.heap.size w W) => ((hP.step hS).map.look_none (s := nm) (by unfold maxLen; omega) hl))
        have hPa := fun W => parsers_any W
        go_enter Tryz.func27, Tryz.ntmps27
        go_wp2_with fail
        refine hT.mono ?_
        rintro x w2 ⟨rfl, rfl⟩
        clear hT
        go_upto_region 3 with fail
        go_region_held3 (fun w' => w'.cell? ⟨g', o' + 1, none⟩ = some (.string (bs k)) ∧ Below w.heap.size w w')
          ((first | exact ⟨d1, (Below.refl _ _).drew⟩ | assumption | (refine ⟨?_, ?_⟩ <;> assumption) | (apply keep1 <;> assumption)))
          ((go_at_call 38; refine (hPa _).mono ?_; rintro e w1 ⟨mb2, rfl, hF, hb1⟩; have hlk := HF5.out _ _ hF))
        have hS : Below w.heap.size w w1 := by
          have h : w1.cell? ⟨g', o' + 1, none⟩ = some (.string (bs k)) ∧ Below w.heap.size w w1 := by assumption
          exact h.2
        have e0 := (hS.cell (World.block_lt_of_cell? w _ d0)).trans d0
        have e1 := (hS.cell (World.block_lt_of_cell? w _ d1)).trans d1
        have hlk4 := fun q => HP4.out (w1.drewN q) ((below_drewN hS q))
        have hP1 := hP.pd.step hS
        have l0 : w1.cell? ⟨g, 0, none⟩ = some (.map (some mb)) := by rw [cell_of_row _ _ _ _ _ _ hP1.list]; rfl
        have q0 := eq_fn_nil
        have q1 := eq_fn_some K
        clear hPa hF hlk hb1 hP d0 d1
        have hbw : B ≤ w1.heap.size := Nat.le_trans HB.out hS.size
        have HF4 := Lib.hid ((AFr.refl (B := B) (w := w)).next hS HB.out)
        clear hS
        go_upto_region 4 with fail
        go_quiet (fail)
        have hS4 : Below w1.heap.size w1 (w1.drewN nq) := below_drewN (Below.refl _ _) _
        have e1' := (hS4.cell (World.block_lt_of_cell? w1 _ e1)).trans e1
        have hP4 := hP1.step hS4
        have HF5 := Lib.hid (HF4.out.next hS4 hbw)
        replace hbw := Nat.le_trans hbw hS4.size
        clear hlk4 hS4 e0 e1 l0 hP1 HF4
        generalize w1.drewN nq = w4 at *
        have hal := alloc_below w4 (.cells #[.string (bs k), .slice none 0 0] 86)
        have hr4 := heap_alloc_new w4 (.cells #[.string (bs k), .slice none 0 0] 86)
        have HP6 := Lib.hid (hP4.step hal)
        have HNE : Hid (∀ q, q < L.els.length → bx q ≠ w4.heap.size) := Lib.hid fun q hq e => by
          have := (Array.getElem?_eq_some_iff.1 (hP4.els.box q _ (List.getElem?_eq_getElem hq)).2).1
          omega
        have HF6 := Lib.hid (HF5.out.next hal hbw)
        have HBW := Lib.hid hbw
        have hgl : g' < w4.heap.size := World.block_lt_of_cell? w4 _ e1'
        clear hP4 HF5 hbw hal
        go_upto_region 7 with fail
        go_quiet (fail)
        have hPD := (HP6.out.new (nm := nm) (kd := k) hr4 HBW.out HNE.out).step (below_drewN (Below.refl _ _) nq)
        have hF7 := HF6.out.next (below_drewN (Below.refl _ _) nq) (Nat.le_trans HB.out HF6.out.size)
        have he0 : (L.els ++ [⟨nm, k, []⟩])[L.els.length]? = some ⟨nm, k, []⟩ := by simp
        have HPT : Hid (up bx L.els.length w4.heap.size L.els.length = w4.heap.size) := Lib.hid (up_same _ _ _)
        have HCAP : Hid (([] : List (List UInt8)).length + (m + 2) ≤ 4194304) := Lib.hid (by simpa using hwn)
        have HDEF : Hid ((v :: vs).all (Ac.good k) = true → Ac.define L (nm :: k :: v :: vs) = some ⟨List.set (L.els ++ [⟨nm, k, []⟩]) L.els.length ⟨nm, k, [] ++ (v :: vs)⟩, L.rus⟩) := Lib.hid fun h => by rw [Ac.define_new ht hl h]; simp
        have HAT : Hid (Ac.atI (L.els ++ [⟨nm, k, []⟩]) nm = some L.els.length ∧ (∀ s, s ≠ nm → Ac.atI (L.els ++ [⟨nm, k, []⟩]) s = Ac.atI L.els s) ∧ ∀ s q, Ac.atI L.els s = some q → Ac.atI (L.els ++ [⟨nm, k, []⟩]) s = some q) := Lib.hid ⟨by rw [atI_snoc, hl]; simp, fun s hs => by rw [atI_snoc, if_neg (fun e => hs e.symm)]; simp, fun s q hq => by rw [atI_snoc, hq]; rfl⟩
        clear hr4 e1' hgl hl hfn HP6 HNE HF6 HBW
        generalize w4.heap.size = gb at *
        generalize (w4.alloc (.cells #[.string (bs k), .slice none 0 0] 86)).drewN nq = w7 at *
        have HPD := Lib.hid hPD
        have HF7 := Lib.hid hF7
        have HGE := Lib.hid he0
        clear hPD hF7 he0
        go_wp2_with fail
        go_loopw [56] (fun t wr => ∃ (j : Nat) (A1 : Nat → Option Addr) (n1 c1 : Nat → Nat), j ≤ m ∧ t = .int .i64 (j : Int) ∧ Hid (PD wr B g mb N (up bx L.els.length gb) A1 n1 c1 R rn rc L.els (List.set (L.els ++ [⟨nm, k, []⟩]) (L.els.length) ⟨nm, k, [] ++ (v :: vs).take j⟩) L.rus) ∧ Hid (((v :: vs).take j).all (Ac.good k) = true) ∧ Hid (AFr B w wr)) (fun t _ => m - (intOf t).toNat)
        case atStart => exact ⟨0, up A L.els.length none, up n L.els.length 0, up c L.els.length 0, by omega, rfl, Lib.hid (by rw [show List.set (L.els ++ [⟨nm, k, []⟩]) (L.els.length) ⟨nm, k, [] ++ (v :: vs).take 0⟩ = L.els ++ [⟨nm, k, []⟩] from by rw [List.take_zero, List.append_nil]; exact set_self HGE.out]; exact HPD.out), Lib.hid rfl, HF7⟩
        case round =>
          obtain ⟨j, A1, n1, c1, hj, rfl, HP, HA, HF⟩ := hrel
          have hMr : MaxL wr := maxl_fr hM HF.out hMB
          have HG9 : Hid ((List.set (L.els ++ [⟨nm, k, []⟩]) (L.els.length) ⟨nm, k, [] ++ (v :: vs).take j⟩)[L.els.length]? = some ⟨nm, k, [] ++ (v :: vs).take j⟩) := Lib.hid (get_same _ HGE.out)
          by_cases hlt : j < m
          · obtain ⟨s, hs⟩ : ∃ s, (v :: vs)[j]? = some s := ⟨_, List.getElem?_eq_getElem (by have := HWL.out; simp at this ⊢; omega)⟩
            have hce : wr.cell? ⟨g', o' + 2 + j, none⟩ = some (.string (bs s)) := by
              obtain ⟨g2, o2, e2, _, hc2⟩ := (HW.out.fr HF.out).1.2.2 (by omega)
              injection e2 with e2
              injection e2 with e2 e3
              subst e2 e3
              have h9 := hc2 (j + 2) (.string (bs s)) (strs_at hs)
              rwa [show o' + 2 + j = o' + (j + 2) by omega]
            have hsl := HWD.out s (List.mem_cons_of_mem _ (List.mem_cons_of_mem _ (mem_of_get? hs)))
            have HSL := Lib.hid hsl
            have hKs := hK.2 s wr hMr hsl.1 hsl.2
            unfold PaOut at hKs
            have hKe := hK.1
            have HSS := Lib.hid hs
            clear hs hsl
            cases hg : Ac.good k s with
            | false =>
              rw [hg] at hKs
              have HN : Hid (Ac.define L (nm :: k :: v :: vs) = none) := Lib.hid (Ac.define_all (all_noX _ HSS.out hg))
              clear hg hK
              go_wp2_with fail
              refine hKs.mono ?_
              rintro x w2 ⟨⟨u, rfl, -⟩, hb2⟩
              clear hKs hce
              go_wp2
              go_ret
              rw [HN.out]
              exact DefOut.no (HF.out.next hb2 (Nat.le_trans HB.out HF.out.size))
            | true =>
              rw [hg] at hKs
              have HGG := Lib.hid hg
              clear hg
              go_wp2_with fail
              refine hKs.mono ?_
              rintro x w2 ⟨⟨u, rfl, hu⟩, hb2⟩
              obtain ⟨T9, x9, hrx⟩ := repV_if HGG.out
              obtain rfl := (hu (by trivial)).trans hrx
              have HRX := Lib.hid hrx
              clear hKs hce hu hrx
              have hPD2 := HP.out.step hb2
              have hbx := (hPD2.els.box (L.els.length) _ HG9.out).2
              rw [HPT.out] at hbx
              have b1 : w2.cell? ⟨gb, 1, none⟩ = some (.slice (A1 (L.els.length)) (n1 (L.els.length)) (c1 (L.els.length))) := by rw [cell_of_row _ _ _ _ _ _ hbx]; rfl
              have hal := alloc_below w2 (.cells #[.iface T9 x9] 88)
              have hPD3 := hPD2.step hal
              have hF3 := (HF.out.next hb2 (Nat.le_trans HB.out HF.out.size)).next hal (Nat.le_trans HB.out (Nat.le_trans HF.out.size hb2.size))
              have hrow := hPD3.els.row (L.els.length) _ HG9.out
              have hln : n1 (L.els.length) ≤ 4194304 := by rw [hrow.1]; have := HCAP.out; simp at this ⊢; omega
              have hbase : B ≤ (w2.alloc (.cells #[.iface T9 x9] 88)).heap.size := Nat.le_trans HB.out hF3.size
              have HPD3 := Lib.hid hPD3
              have HF3 := Lib.hid hF3
              have HO := Lib.hid hrow.2
              have hbx3 := (hPD3.els.box (L.els.length) _ HG9.out).2
              have HBX3 := Lib.hid hbx3
              clear hPD2 hPD3 hF3 hrow hbx hbx3 hb2 hal
              go_wp2_with
                (at_builtin
                 refine wp_appV rfl (.tmp 72) (.tmp 74) rfl B (.slice (A1 (L.els.length)) (n1 (L.els.length)) (c1 (L.els.length))) (n1 (L.els.length)) _ rfl HO.out (some ⟨w2.heap.size, 0, none⟩) 1 (.iface T9 x9) rfl (val_rd _ _ _) rfl hln hbase ?_
                 intro A5 c5 w5 ho5 hg5 hs5
                 have hbx5 := block_safe hg5 (safe_own HO.out (T := fun t => t = 88) rfl) HBX3.out (by decide)
                 rw [HPT.out] at hbx5
                 have d1 : w5.cell? ⟨gb, 1, none⟩ = some (.slice (A1 (L.els.length)) (n1 (L.els.length)) (c1 (L.els.length))) := by rw [cell_of_row _ _ _ _ _ _ hbx5]; rfl
                 have f1 : w5.frozen? ⟨gb, 1, none⟩ = false := by simp only [World.frozen?, hbx5]; rfl
                 rw [← HRX.out] at ho5
                 have hPD6 := HPD3.out.val HG9.out (v := s) ⟨HGG.out, HSL.out.2, HSL.out.1⟩ ho5 hg5 hs5
                 have hF6 := PD.afr HF3.out HPD3.out (Nat.le_refl B) hbase HG9.out hg5 (.slice A5 (n1 (L.els.length) + 1) c5)
                 rw [HPT.out] at hPD6 hF6
                 have HPD6 := Lib.hid hPD6
                 have HF6 := Lib.hid hF6
                 clear hbx5 hPD6 hF6 ho5 hg5 hs5 b1)
              go_roundw
              case rel => exact ⟨j + 1, _, _, _, by omega, by go_num, Lib.hid (by have h9 := HPD6.out; rw [List.set_set, List.append_assoc, ← take_snoc? HSS.out] at h9; exact h9), Lib.hid (allG_snoc HSS.out HA.out HGG.out), HF6⟩
              case measure => simp [intOf]; omega
          · obtain rfl : j = m := by omega
            have htk : (v :: vs).take j = v :: vs := List.take_of_length_le (by have := HWL.out; simp at this ⊢; omega)
            have hA := HA.out
            have hPe := HP.out
            rw [htk] at hA hPe
            have HF9 := Lib.hid (HF.out.next ((Below.refl _ _).drew) (Nat.le_trans HB.out HF.out.size))
            have hPd := hPe.step ((Below.refl _ _).drew)
            have hset : ∀ s, Ac.atI (List.set (L.els ++ [⟨nm, k, []⟩]) (L.els.length) ⟨nm, k, [] ++ (v :: vs)⟩) s = Ac.atI (L.els ++ [⟨nm, k, []⟩]) s := fun s => atI_set (e' := ⟨nm, k, [] ++ (v :: vs)⟩) _ _ HGE.out rfl s
            obtain ⟨w9, hr9, hPW9, hg9⟩ := hPd.put (i := L.els.length) (nm := nm) ((hset _).trans HAT.out.1) (fun s hs => (hset s).trans (HAT.out.2.1 s hs)) (fun s q hq => (hset s).trans (HAT.out.2.2 s q hq)) (by unfold maxLen; omega) hN
            rw [HPT.out] at hr9
            have HPW9 := Lib.hid hPW9
            have HF10 := Lib.hid (HF9.out.grown hg9 (Nat.le_trans HB.out HF9.out.size) (fun q e => by cases e; exact hPd.base.2) (fun q e => by cases e; obtain ⟨es, cl, hm⟩ := hPd.map.isMap; exact .inr (.inr ⟨es, cl, hm⟩)))
            have HR : Hid (Ac.define L (nm :: k :: v :: vs) = _) := Lib.hid (HDEF.out hA)
            have l1 : wr.cell? ⟨g, 0, none⟩ = some (.map (some mb)) := by rw [cell_of_row _ _ _ _ _ _ hPe.list]; rfl
            have e1 : wr.cell? ⟨g', o', none⟩ = some (.string (bs nm)) := by
              obtain ⟨g2, o2, e2, _, hc2⟩ := (HW.out.fr HF.out).1.2.2 (by omega)
              injection e2 with e2
              injection e2 with e2 e3
              subst e2 e3
              exact hc2 0 (.string (bs nm)) rfl
            clear hA hPe htk HF9 hPd hPW9 hg9 hK hset
            go_upto_region 17 with fail
            go_still_tail 8, (by kernel_rfl)
            change wpList _ _ _ _ _ wr.drew
            go_wp2
            go_ret
            rw [HR.out]
            exact ⟨rfl, HF10.out, fun L' e9 => by injection e9 with e9; subst e9; exact ⟨_, _, _, _, _, _, _, HPW9.out⟩⟩
      | some i =>
        obtain ⟨e, he, hnm⟩ := atI_get hl
        by_cases hkd : e.kd = k
        · obtain ⟨nm0, kd0, vs0⟩ := e
          have hkd := hkd.symm
          have hnm := hnm.symm
          dsimp only at hkd hnm
          subst kd0 nm0
          have HF5 := Lib.hid (fun W mb2 (hF : FnMap W mb2) => hF.look_some (s := k) (by unfold maxLen; omega) hfn)
          have HP4 := Lib.hid (fun W (hS : Below w.heap.size w W) => ((hP.step hS).map.look_some (s := nm) (by unfold maxLen; omega) hl))
          have hPa := fun W => parsers_any W
          go_enter Tryz.func27, Tryz.ntmps27
          go_wp2_with fail
          refine hT.mono ?_
          rintro x w2 ⟨rfl, rfl⟩
          clear hT
          go_upto_region 3 with fail
          go_region_held3 (fun w' => w'.cell? ⟨g', o' + 1, none⟩ = some (.string (bs k)) ∧ Below w.heap.size w w')
            ((first | exact ⟨d1, (Below.refl _ _).drew⟩ | assumption | (refine ⟨?_, ?_⟩ <;> assumption) | (apply keep1 <;> assumption)))
            ((go_at_call 38; refine (hPa _).mono ?_; rintro e w1 ⟨mb2, rfl, hF, hb1⟩; have hlk := HF5.out _ _ hF))
          have hS : Below w.heap.size w w1 := by
            have h : w1.cell? ⟨g', o' + 1, none⟩ = some (.string (bs k)) ∧ Below w.heap.size w w1 := by assumption
            exact h.2
          have e0 := (hS.cell (World.block_lt_of_cell? w _ d0)).trans d0
          have e1 := (hS.cell (World.block_lt_of_cell? w _ d1)).trans d1
          have hlk4 := fun q => HP4.out (w1.drewN q) ((below_drewN hS q))
          have hP1 := hP.pd.step hS
          have l0 : w1.cell? ⟨g, 0, none⟩ = some (.map (some mb)) := by rw [cell_of_row _ _ _ _ _ _ hP1.list]; rfl
          have q0 := eq_fn_nil
          have q1 := eq_fn_some K
          clear hPa hF hlk hb1 hP d0 d1
          have hbw : B ≤ w1.heap.size := Nat.le_trans HB.out hS.size
          have HF4 := Lib.hid ((AFr.refl (B := B) (w := w)).next hS HB.out)
          have hbx := (hP1.els.box i _ he).2
          have b0 : w1.cell? ⟨bx i, 0, none⟩ = some (.string (bs k)) := by rw [cell_of_row _ _ _ _ _ _ hbx]; rfl
          have HP4 := Lib.hid hP1
          clear hS hbx hP1
          go_upto_region 4 with fail
          go_quiet (fail)
          obtain ⟨nq1, hnq1⟩ : ∃ q, q = nq := ⟨_, rfl⟩
          subst hnq1
          go_upto_region 7 with fail
          go_quiet (fail)
          have hPD := HP4.out.step (below_drewN (below_drewN (Below.refl _ _) nq1) nq)
          have hF7 := HF4.out.next (below_drewN (below_drewN (Below.refl _ _) nq1) nq) hbw
          have he0 := he
          have HPT : Hid (bx i = bx i) := Lib.hid rfl
          have HCAP : Hid (vs0.length + (m + 2) ≤ 4194304) := Lib.hid (HC.out _ (mem_of_get? he))
          have HDEF : Hid ((v :: vs).all (Ac.good k) = true → Ac.define L (nm :: k :: v :: vs) = some ⟨List.set L.els i ⟨nm, k, vs0 ++ (v :: vs)⟩, L.rus⟩) := Lib.hid fun h => Ac.define_old ht hl he rfl h
          have HAT : Hid (Ac.atI L.els nm = some i) := Lib.hid hl
          clear hlk4 hl hfn he HP4 HF4 hbw e0 e1 l0 b0
          generalize (w1.drewN nq1).drewN nq = w7 at *
          have HPD := Lib.hid hPD
          have HF7 := Lib.hid hF7
          have HGE := Lib.hid he0
          clear hPD hF7 he0
          go_wp2_with fail
          go_loopw [56] (fun t wr => ∃ (j : Nat) (A1 : Nat → Option Addr) (n1 c1 : Nat → Nat), j ≤ m ∧ t = .int .i64 (j : Int) ∧ Hid (PD wr B g mb N (bx) A1 n1 c1 R rn rc L.els (List.set (L.els) (i) ⟨nm, k, vs0 ++ (v :: vs).take j⟩) L.rus) ∧ Hid (((v :: vs).take j).all (Ac.good k) = true) ∧ Hid (AFr B w wr)) (fun t _ => m - (intOf t).toNat)
          case atStart => exact ⟨0, A, n, c, by omega, rfl, Lib.hid (by rw [show List.set (L.els) (i) ⟨nm, k, vs0 ++ (v :: vs).take 0⟩ = L.els from by rw [List.take_zero, List.append_nil]; exact set_self HGE.out]; exact HPD.out), Lib.hid rfl, HF7⟩
          case round =>
            obtain ⟨j, A1, n1, c1, hj, rfl, HP, HA, HF⟩ := hrel
            have hMr : MaxL wr := maxl_fr hM HF.out hMB
            have HG9 : Hid ((List.set (L.els) (i) ⟨nm, k, vs0 ++ (v :: vs).take j⟩)[i]? = some ⟨nm, k, vs0 ++ (v :: vs).take j⟩) := Lib.hid (get_same _ HGE.out)
            by_cases hlt : j < m
            · obtain ⟨s, hs⟩ : ∃ s, (v :: vs)[j]? = some s := ⟨_, List.getElem?_eq_getElem (by have := HWL.out; simp at this ⊢; omega)⟩
              have hce : wr.cell? ⟨g', o' + 2 + j, none⟩ = some (.string (bs s)) := by
                obtain ⟨g2, o2, e2, _, hc2⟩ := (HW.out.fr HF.out).1.2.2 (by omega)
                injection e2 with e2
                injection e2 with e2 e3
                subst e2 e3
                have h9 := hc2 (j + 2) (.string (bs s)) (strs_at hs)
                rwa [show o' + 2 + j = o' + (j + 2) by omega]
              have hsl := HWD.out s (List.mem_cons_of_mem _ (List.mem_cons_of_mem _ (mem_of_get? hs)))
              have HSL := Lib.hid hsl
              have hKs := hK.2 s wr hMr hsl.1 hsl.2
              unfold PaOut at hKs
              have hKe := hK.1
              have HSS := Lib.hid hs
              clear hs hsl
              cases hg : Ac.good k s with
              | false =>
                rw [hg] at hKs
                have HN : Hid (Ac.define L (nm :: k :: v :: vs) = none) := Lib.hid (Ac.define_all (all_noX _ HSS.out hg))
                clear hg hK
                go_wp2_with fail
                refine hKs.mono ?_
                rintro x w2 ⟨⟨u, rfl, -⟩, hb2⟩
                clear hKs hce
                go_wp2
                go_ret
                rw [HN.out]
                exact DefOut.no (HF.out.next hb2 (Nat.le_trans HB.out HF.out.size))
              | true =>
                rw [hg] at hKs
                have HGG := Lib.hid hg
                clear hg
                go_wp2_with fail
                refine hKs.mono ?_
                rintro x w2 ⟨⟨u, rfl, hu⟩, hb2⟩
                obtain ⟨T9, x9, hrx⟩ := repV_if HGG.out
                obtain rfl := (hu (by trivial)).trans hrx
                have HRX := Lib.hid hrx
                clear hKs hce hu hrx
                have hPD2 := HP.out.step hb2
                have hbx := (hPD2.els.box (i) _ HG9.out).2
                have b1 : w2.cell? ⟨bx i, 1, none⟩ = some (.slice (A1 (i)) (n1 (i)) (c1 (i))) := by rw [cell_of_row _ _ _ _ _ _ hbx]; rfl
                have hal := alloc_below w2 (.cells #[.iface T9 x9] 88)
                have hPD3 := hPD2.step hal
                have hF3 := (HF.out.next hb2 (Nat.le_trans HB.out HF.out.size)).next hal (Nat.le_trans HB.out (Nat.le_trans HF.out.size hb2.size))
                have hrow := hPD3.els.row (i) _ HG9.out
                have hln : n1 (i) ≤ 4194304 := by rw [hrow.1]; have := HCAP.out; simp at this ⊢; omega
                have hbase : B ≤ (w2.alloc (.cells #[.iface T9 x9] 88)).heap.size := Nat.le_trans HB.out hF3.size
                have HPD3 := Lib.hid hPD3
                have HF3 := Lib.hid hF3
                have HO := Lib.hid hrow.2
                have hbx3 := (hPD3.els.box (i) _ HG9.out).2
                have HBX3 := Lib.hid hbx3
                clear hPD2 hPD3 hF3 hrow hbx hbx3 hb2 hal
                go_wp2_with
                  (at_builtin
                   refine wp_appV rfl (.tmp 72) (.tmp 74) rfl B (.slice (A1 (i)) (n1 (i)) (c1 (i))) (n1 (i)) _ rfl HO.out (some ⟨w2.heap.size, 0, none⟩) 1 (.iface T9 x9) rfl (val_rd _ _ _) rfl hln hbase ?_
                   intro A5 c5 w5 ho5 hg5 hs5
                   have hbx5 := block_safe hg5 (safe_own HO.out (T := fun t => t = 88) rfl) HBX3.out (by decide)
                   have d1 : w5.cell? ⟨bx i, 1, none⟩ = some (.slice (A1 (i)) (n1 (i)) (c1 (i))) := by rw [cell_of_row _ _ _ _ _ _ hbx5]; rfl
                   have f1 : w5.frozen? ⟨bx i, 1, none⟩ = false := by simp only [World.frozen?, hbx5]; rfl
                   rw [← HRX.out] at ho5
                   have hPD6 := HPD3.out.val HG9.out (v := s) ⟨HGG.out, HSL.out.2, HSL.out.1⟩ ho5 hg5 hs5
                   have hF6 := PD.afr HF3.out HPD3.out (Nat.le_refl B) hbase HG9.out hg5 (.slice A5 (n1 (i) + 1) c5)
                   have HPD6 := Lib.hid hPD6
                   have HF6 := Lib.hid hF6
                   clear hbx5 hPD6 hF6 ho5 hg5 hs5 b1)
                go_roundw
                case rel => exact ⟨j + 1, _, _, _, by omega, by go_num, Lib.hid (by have h9 := HPD6.out; rw [List.set_set, List.append_assoc, ← take_snoc? HSS.out] at h9; exact h9), Lib.hid (allG_snoc HSS.out HA.out HGG.out), HF6⟩
                case measure => simp [intOf]; omega
            · obtain rfl : j = m := by omega
              have htk : (v :: vs).take j = v :: vs := List.take_of_length_le (by have := HWL.out; simp at this ⊢; omega)
              have hA := HA.out
              have hPe := HP.out
              rw [htk] at hA hPe
              have HF9 := Lib.hid (HF.out.next ((Below.refl _ _).drew) (Nat.le_trans HB.out HF.out.size))
              have hPd := hPe.step ((Below.refl _ _).drew)
              have hset : ∀ s, Ac.atI (List.set (L.els) (i) ⟨nm, k, vs0 ++ (v :: vs)⟩) s = Ac.atI (L.els) s := fun s => atI_set (e' := ⟨nm, k, vs0 ++ (v :: vs)⟩) _ _ HGE.out rfl s
              obtain ⟨w9, hr9, hPW9, hg9⟩ := hPd.put (i := i) (nm := nm) ((hset _).trans HAT.out) (fun s _ => hset s) (fun s q hq => (hset s).trans hq) (by unfold maxLen; omega) hN
              have HPW9 := Lib.hid hPW9
              have HF10 := Lib.hid (HF9.out.grown hg9 (Nat.le_trans HB.out HF9.out.size) (fun q e => by cases e; exact hPd.base.2) (fun q e => by cases e; obtain ⟨es, cl, hm⟩ := hPd.map.isMap; exact .inr (.inr ⟨es, cl, hm⟩)))
              have HR : Hid (Ac.define L (nm :: k :: v :: vs) = _) := Lib.hid (HDEF.out hA)
              have l1 : wr.cell? ⟨g, 0, none⟩ = some (.map (some mb)) := by rw [cell_of_row _ _ _ _ _ _ hPe.list]; rfl
              have e1 : wr.cell? ⟨g', o', none⟩ = some (.string (bs nm)) := by
                obtain ⟨g2, o2, e2, _, hc2⟩ := (HW.out.fr HF.out).1.2.2 (by omega)
                injection e2 with e2
                injection e2 with e2 e3
                subst e2 e3
                exact hc2 0 (.string (bs nm)) rfl
              clear hA hPe htk HF9 hPd hPW9 hg9 hK hset
              go_upto_region 17 with fail
              go_still_tail 8, (by kernel_rfl)
              change wpList _ _ _ _ _ wr.drew
              go_wp2
              go_ret
              rw [HR.out]
              exact ⟨rfl, HF10.out, fun L' e9 => by injection e9 with e9; subst e9; exact ⟨_, _, _, _, _, _, _, HPW9.out⟩⟩
        · rw [Ac.define_kd hl he hkd]
          have hkb : (e.kd == k) = false := by simpa using hkd
          have HF5 := Lib.hid (fun W mb2 (hF : FnMap W mb2) => hF.look_some (s := k) (by unfold maxLen; omega) hfn)
          have HP4 := Lib.hid (fun W (hS : Below w.heap.size w W) => ((hP.step hS).map.look_some (s := nm) (by unfold maxLen; omega) hl))
          have hPa := fun W => parsers_any W
          go_enter Tryz.func27, Tryz.ntmps27
          go_wp2_with fail
          refine hT.mono ?_
          rintro x w2 ⟨rfl, rfl⟩
          clear hT
          go_upto_region 3 with fail
          go_region_held3 (fun w' => w'.cell? ⟨g', o' + 1, none⟩ = some (.string (bs k)) ∧ Below w.heap.size w w')
            ((first | exact ⟨d1, (Below.refl _ _).drew⟩ | assumption | (refine ⟨?_, ?_⟩ <;> assumption) | (apply keep1 <;> assumption)))
            ((go_at_call 38; refine (hPa _).mono ?_; rintro e w1 ⟨mb2, rfl, hF, hb1⟩; have hlk := HF5.out _ _ hF))
          have hS : Below w.heap.size w w1 := by
            have h : w1.cell? ⟨g', o' + 1, none⟩ = some (.string (bs k)) ∧ Below w.heap.size w w1 := by assumption
            exact h.2
          have e0 := (hS.cell (World.block_lt_of_cell? w _ d0)).trans d0
          have e1 := (hS.cell (World.block_lt_of_cell? w _ d1)).trans d1
          have hlk4 := fun q => HP4.out (w1.drewN q) ((below_drewN hS q))
          have hP1 := hP.pd.step hS
          have l0 : w1.cell? ⟨g, 0, none⟩ = some (.map (some mb)) := by rw [cell_of_row _ _ _ _ _ _ hP1.list]; rfl
          have q0 := eq_fn_nil
          have q1 := eq_fn_some K
          clear hPa hF hlk hb1 hP d0 d1
          have hbw : B ≤ w1.heap.size := Nat.le_trans HB.out hS.size
          have HF4 := Lib.hid ((AFr.refl (B := B) (w := w)).next hS HB.out)
          have hbx := (hP1.els.box i e he).2
          have b0 : w1.cell? ⟨bx i, 0, none⟩ = some (.string (bs e.kd)) := by rw [cell_of_row _ _ _ _ _ _ hbx]; rfl
          have HP4 := Lib.hid hP1
          clear hS hbx hP1
          go_upto_region 4 with fail
          go_quiet (fail)
          obtain ⟨nq1, hnq1⟩ : ∃ q, q = nq := ⟨_, rfl⟩
          subst hnq1
          go_upto_region 7 with fail
          go_quiet (fail)
          go_wp2
          go_ret
          exact DefOut.no (HF4.out.next (below_drewN (below_drewN (Below.refl _ _) _) _) hbw)
end Go.Proofs.YtgkphjbcaidcpaaGreatDoor
