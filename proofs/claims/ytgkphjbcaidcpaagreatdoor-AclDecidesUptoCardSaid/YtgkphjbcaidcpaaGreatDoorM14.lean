/- Joined texts: A rule's line; A line; The words of a line, as acl.Parse has them. The conditions stand in each line. -/
import Derived.Test.YtgkphjbcaidcpaaGreatDoorM8
import Derived.Test.YtgkphjbcaidcpaaGreatDoorM13
set_option linter.unusedVariables false
set_option linter.unusedSimpArgs false
namespace Go.Proofs.YtgkphjbcaidcpaaGreatDoor
open Go.RowKit

set_option maxRecDepth 100000
theorem cutP_bang (s : List UInt8) : cutP [33] s = Ac.bare s ∧ preB [33] s = Ac.bang s := by
  unfold cutP Ac.bare Ac.bang
  cases s with
  | nil => exact ⟨rfl, rfl⟩
  | cons b r =>
    by_cases h : b = 33
    · subst h; simp [preB]
    · have h2 : preB [33] (b :: r) = false := by simp [preB]; exact h
      rw [h2]; simp [h]
theorem PM.mono {w : World} {mb N M : Nat} {bx : Nat → Nat} {els : List Ac.El} (h : PM w mb N bx els) (hN : N ≤ M) : PM w mb M bx els := by
  obtain ⟨D, ⟨es, c, hb, F, hs, e⟩, h2⟩ := h
  exact ⟨D, ⟨es, c, hb, F, Nat.le_trans hs hN, e⟩, h2⟩
namespace Ac
theorem ruleL_no {L : LS} {no : Nat} {al : Bool} {ns : List T} {j : Nat} {s : T} (h : ns[j]? = some s) (h2 : atI L.els (bare s) = none) : ruleL L no al ns = none := by
  unfold ruleL; rw [if_neg]
  intro h3
  have := List.all_eq_true.1 h3 s (mem_of_get? h)
  rw [h2] at this; cases this
theorem ruleL_yes {L : LS} {no : Nat} {al : Bool} {ns : List T} (h : ∀ s ∈ ns, ∃ k, atI L.els (bare s) = some k) : ruleL L no al ns = some ⟨L.els, L.rus ++ [⟨no, al, ns⟩]⟩ := by
  unfold ruleL; rw [if_pos]
  exact List.all_eq_true.2 fun s hs => by obtain ⟨k, hk⟩ := h s hs; rw [hk]; rfl
end Ac
theorem TmOK.snoc {bx : Nat → Nat} {els : List Ac.El} {pts : List (Nat × Bool)} {ns : List (List UInt8)} {j : Nat} {s : List UInt8} (h : TmOK bx els pts (ns.take j)) (hs : ns[j]? = some s) {k : Nat} (hk : Ac.atI els (Ac.bare s) = some k) :
    TmOK bx els (pts ++ [(bx k, Ac.bang s)]) (ns.take (j + 1)) := by
  obtain ⟨e, he, _⟩ := atI_get hk
  rw [take_snoc? hs]
  refine ⟨by simp [h.1], fun i p nm h1 h2 => ?_⟩
  have hl := h.1
  by_cases hi : i < pts.length
  · rw [List.getElem?_append_left hi] at h1
    rw [List.getElem?_append_left (by omega)] at h2
    exact h.2 i p nm h1 h2
  · have hi2 : i = pts.length := by
      have := (List.getElem?_eq_some_iff.1 h1).1
      rw [List.length_append, List.length_singleton] at this
      omega
    subst hi2
    rw [List.getElem?_append_right (Nat.le_refl _), Nat.sub_self] at h1
    rw [List.getElem?_append_right (by omega), hl, Nat.sub_self] at h2
    injection h1 with h1
    injection h2 with h2
    subst h1 h2
    exact ⟨rfl, k, e, hk, he, rfl⟩
theorem TmOK.found {bx : Nat → Nat} {els : List Ac.El} {pts : List (Nat × Bool)} {ns : List (List UInt8)} (h : TmOK bx els pts ns) : ∀ s ∈ ns, ∃ k, Ac.atI els (Ac.bare s) = some k := fun s hs => by
  obtain ⟨i, hi, rfl⟩ := List.getElem_of_mem hs
  have hp : i < pts.length := by rw [h.1]; exact hi
  obtain ⟨_, k, _, hk, _⟩ := h.2 i pts[i] ns[i] (List.getElem?_eq_getElem hp) (List.getElem?_eq_getElem hi)
  exact ⟨k, hk⟩
theorem own_count {w : World} {B m n c size : Nat} {e : TypeId} {A : Option Addr} {xs : List Value} (h : w.ownsRow B e size (.slice A n c) m xs) : n = m := by
  obtain ⟨A', c', e⟩ := own_slice h
  injection e
theorem PW.rule {w w9 w7 : World} {B g mb N : Nat} {bx : Nat → Nat} {A : Nat → Option Addr} {n c : Nat → Nat} {R : Option Addr} {rn rc : Nat} {L : Ac.LS} (h : PW w B g mb N bx A n c R rn rc L) (hal : Below w.heap.size w w9) {prs : List PRu} {p : PRu} {pts : List (Nat × Bool)} {r : Ac.Ru} {A7 : Option Addr} {n7 c7 : Nat}
    (hR : w9.ownsRow B 60 3 (.slice R rn rc) prs.length (rcells prs)) (hg7 : w9.grownBy w7 (Value.slice R rn rc).ownBlock) (hpr : prs.length = L.rus.length)
    (hpq : ∀ (i : Nat) (p : PRu) (r : Ac.Ru), prs[i]? = some p → L.rus[i]? = some r → p.ln = r.ln ∧ p.al = r.al ∧ p.n ≤ 4194304 ∧ ∃ pts, w.ownsRow B 78 2 (.slice p.A p.n p.c) p.n (tcells pts) ∧ TmOK bx L.els pts r.ns)
    (ho7 : w7.ownsRow B 60 3 (.slice A7 n7 c7) (prs ++ [p]).length (rcells (prs ++ [p]))) (hp : p.ln = r.ln ∧ p.al = r.al ∧ p.n ≤ 4194304) (ho : w.ownsRow B 78 2 (.slice p.A p.n p.c) p.n (tcells pts)) (hT : TmOK bx L.els pts r.ns) :
    PW (w7.setCell ⟨g, 1, none⟩ (.slice A7 n7 c7)) B g mb (N + 1) bx A n c A7 n7 c7 ⟨L.els, L.rus ++ [r]⟩ := by
  have hs1 : Safe w9 (Value.slice R rn rc).ownBlock fun t => t = 60 := safe_own hR rfl
  have h9 := h.step hal
  have hG7 := block_safe hg7 hs1 h9.list (by decide)
  have hgs := grown_set w7 g 1 (.slice A7 n7 c7)
  have hss : Safe w7 (some g) fun t => t = 50 := safe_row hG7 rfl
  have hkeep : ∀ (p : PRu) (pts : List (Nat × Bool)), w.ownsRow B 78 2 (.slice p.A p.n p.c) p.n (tcells pts) → (w7.setCell ⟨g, 1, none⟩ (.slice A7 n7 c7)).ownsRow B 78 2 (.slice p.A p.n p.c) p.n (tcells pts) := fun p pts hq => own_safe hgs hss (own_safe hg7 hs1 (own_step hq hal) (by decide)) (by decide)
  obtain ⟨es, cl, hm⟩ := h9.map.isMap
  have hm1 : some mb ≠ (Value.slice R rn rc).ownBlock := fun e9 => by
    rcases hR.2 with ⟨h1, _⟩ | ⟨g', cap, cur, h1, _, hg', _⟩
    · rw [h1] at e9; cases e9
    · rw [h1] at e9
      have : mb = g' := by simpa [Value.ownBlock] using e9
      exact ne_map hm hg' this
  have k1 := h9.map.grown hg7 hm1
  obtain ⟨es2, cl2, hm2⟩ := k1.isMap
  refine ⟨h.base, by rw [heap_setCell_same w7 g 1 _ _ _ hG7]; rfl, (k1.grown hgs (fun e9 => ne_map hm2 hG7 (by injection e9))).mono (Nat.le_succ N), (h9.els.grown hg7 (hs1.imp fun t e => by subst e; exact ⟨by decide, by decide⟩)).grown hgs (hss.imp fun t e => by subst e; exact ⟨by decide, by decide⟩), ⟨prs ++ [p], ?_, by simp [hpr], fun i p' r' h1 h2 => ?_⟩⟩
  · have := own_count ho7
    have h8 := own_safe hgs hss ho7 (by decide)
    rw [this]
    rw [this] at h8
    exact h8
  · by_cases hi : i < prs.length
    · rw [List.getElem?_append_left hi] at h1
      rw [List.getElem?_append_left (by omega)] at h2
      obtain ⟨q1, q2, q3, pts', q4, q5⟩ := hpq i p' r' h1 h2
      exact ⟨q1, q2, q3, pts', hkeep _ _ q4, q5⟩
    · have hi2 : i = prs.length := by
        have := (List.getElem?_eq_some_iff.1 h1).1
        rw [List.length_append, List.length_singleton] at this
        omega
      subst hi2
      rw [List.getElem?_append_right (Nat.le_refl _), Nat.sub_self] at h1
      rw [List.getElem?_append_right (by omega), hpr, Nat.sub_self] at h2
      injection h1 with h1
      injection h2 with h2
      subst h1 h2
      exact ⟨hp.1, hp.2.1, hp.2.2, pts, hkeep _ _ ho, hT⟩
theorem PW.rule_fr {w w9 w7 w0 : World} {B g mb N : Nat} {bx : Nat → Nat} {A : Nat → Option Addr} {n c : Nat → Nat} {R : Option Addr} {rn rc : Nat} {L : Ac.LS} (h : PW w B g mb N bx A n c R rn rc L) (hf : AFr B w0 w) (hal : Below w.heap.size w w9) {prs : List PRu}
    (hR : w9.ownsRow B 60 3 (.slice R rn rc) prs.length (rcells prs)) (hg7 : w9.grownBy w7 (Value.slice R rn rc).ownBlock) (x : Value) : AFr B w0 (w7.setCell ⟨g, 1, none⟩ x) := by
  have hs1 : Safe w9 (Value.slice R rn rc).ownBlock fun t => t = 60 := safe_own hR rfl
  have h9 := h.step hal
  have hG7 := block_safe hg7 hs1 h9.list (by decide)
  have hB : B ≤ w.heap.size := Nat.le_of_lt (Nat.lt_of_le_of_lt h.base.1 (Array.getElem?_eq_some_iff.1 h.list).1)
  have hB9 : B ≤ w9.heap.size := Nat.le_trans hB hal.size
  refine ((hf.next hal hB).grown hg7 hB9 (fun k e9 => (hR.lt k e9).1) (hs1.imp fun t e => by subst e; rfl)).grown (grown_set w7 g 1 x) (Nat.le_trans hB9 hg7.size) (fun k e9 => ?_) ((safe_row hG7 (T := fun t => t = 50) rfl).imp fun t e => by subst e; rfl)
  injection e9 with e9
  subst e9
  exact h.base.1
theorem rule_rd (w : World) (p : PRu) : Rd ((w.alloc (.cells #[.int .i64 (p.ln : Int), .bool p.al, .slice p.A p.n p.c] 60)).drew) 3 (some ⟨w.heap.size, 0, none⟩) 1 (rcells [p]) := by
  have h : Rd (w.alloc (.cells #[.int .i64 (p.ln : Int), .bool p.al, .slice p.A p.n p.c] 60)) 3 (some ⟨w.heap.size, 0, none⟩) 1 (rcells [p]) := by
    refine ⟨rfl, fun _ => ⟨w.heap.size, 0, rfl, by simp, fun j u hu => ?_⟩⟩
    rw [Nat.zero_add, cell_of_row _ _ _ _ _ (0, 0) (heap_alloc_new w _)]
    simpa [rcells] using hu
  exact h.step ((Below.refl _ _).drew)
set_option maxHeartbeats 4000000 in
theorem rule_any (L : Ac.LS) (no : Nat) (al : Bool) (ns : List (List UInt8)) (B g mb N : Nat) (WA : Option Addr) (wn wc : Nat) (w : World) (hW : RdW w WA wn ns) (hP : PWx w B g mb N L) (hns : ∀ s ∈ ns, s.length ≤ 4194304)
    (hwn : wn ≤ 4194304) (hr : L.rus.length ≤ 4194304) :
    Calls Tryz.prog 28 #[.pointer (some ⟨g, 0, none⟩), .int .i64 (no : Int), .bool al, .slice WA wn wc] w fun e w' => DefOut B g mb N w (Ac.ruleL L no al ns) e w' := by
  obtain ⟨bx, A, n, c, R, rn, rc, hP⟩ := hP
  have HB : Hid (B ≤ w.heap.size) := Lib.hid (Nat.le_of_lt (Nat.lt_of_le_of_lt hP.base.1 (Array.getElem?_eq_some_iff.1 hP.list).1))
  have HP := Lib.hid hP
  have HW := Lib.hid hW
  clear hP hW
  go_enter Tryz.func28, Tryz.ntmps28
  go_upto_region 2 with fail
  have hal := alloc_below w (.cells #[.int .i64 (no : Int), .bool al, .slice none 0 0] 60)
  have hr0 := heap_alloc_new w (.cells #[.int .i64 (no : Int), .bool al, .slice none 0 0] 60)
  generalize w.alloc (.cells #[.int .i64 (no : Int), .bool al, .slice none 0 0] 60) = w1 at *
  generalize hgb : w.heap.size = gb at *
  have HGB := Lib.hid hgb
  clear hgb
  go_wp2_with fail
  go_loopw [20] (fun t wr => ∃ (j : Nat) (A1 : Option Addr) (n1 c1 : Nat) (pts : List (Nat × Bool)), j ≤ wn ∧ t = .int .i64 (j : Int) ∧ Hid (wr.heap[gb]? = some (.cells #[.int .i64 (no : Int), .bool al, .slice A1 n1 c1] 60 (0, 0))) ∧ Hid (wr.ownsRow gb 78 2 (.slice A1 n1 c1) pts.length (tcells pts)) ∧ Hid (TmOK bx L.els pts (ns.take j)) ∧ Hid (Below gb w wr)) (fun t _ => wn - (intOf t).toNat)
  case atStart => exact ⟨0, none, 0, 0, [], by omega, rfl, Lib.hid hr0, Lib.hid (World.ownsRow_nil _ gb _ 2), Lib.hid ⟨rfl, fun i p nm h _ => by simp at h⟩, Lib.hid hal⟩
  case round =>
    obtain ⟨j, A1, n1, c1, pts, hj, rfl, HX, HO, HT, HF⟩ := hrel
    have hbr : Below w.heap.size w wr := by rw [HGB.out]; exact HF.out
    have hP1 := HP.out.step hbr
    have hX := HX.out
    have hgl : gb < wr.heap.size := (Array.getElem?_eq_some_iff.1 hX).1
    have hBw : B ≤ wr.heap.size := Nat.le_trans HB.out (Nat.le_of_lt hgl)
    have hpl : pts.length = j := by rw [HT.out.1, List.length_take]; have := HW.out.1.1; omega
    have b2 : wr.cell? ⟨gb, 2, none⟩ = some (.slice A1 n1 c1) := by rw [cell_of_row _ _ _ _ _ _ hX]; rfl
    have l0 : wr.cell? ⟨g, 0, none⟩ = some (.map (some mb)) := by rw [cell_of_row _ _ _ _ _ _ hP1.list]; rfl
    by_cases hlt : j < wn
    · obtain ⟨g', o', s, rfl, hg', HS, hc⟩ := (HW.out.1.step hbr).at_ hlt
      have hsl := hns s (mem_of_get? HS.out)
      have hC := cutPrefix_any s [33] wr (by omega) (by decide)
      rw [(cutP_bang s).1, (cutP_bang s).2] at hC
      change Calls Tryz.prog 39 #[.string (bs s), .string ⟨#[33]⟩] wr _ at hC
      have hbl : (Ac.bare s).length ≤ maxLen := by rw [← (cutP_bang s).1]; have := cutP_le [33] s; unfold maxLen; omega
      cases hl : Ac.atI L.els (Ac.bare s) with
      | none =>
        have hlk := hP1.map.look_none hbl hl
        have HN := Lib.hid (Ac.ruleL_no (no := no) (al := al) HS.out hl)
        have HF9 : Hid (AFr B w wr) := Lib.hid (AFr.refl.next hbr (by rw [HGB.out]; exact HB.out))
        clear hl hX hP1 b2 hbr
        go_wp2_with fail
        refine hC.mono ?_
        rintro x w2 ⟨rfl, rfl⟩
        clear hC
        go_wp2
        go_ret
        rw [HN.out]
        exact DefOut.no HF9.out
      | some k =>
        have hlk := hP1.map.look_some hbl hl
        have HT2 := Lib.hid (HT.out.snoc HS.out hl)
        have hal2 := alloc_below wr (.cells #[.pointer (some ⟨bx k, 0, none⟩), .bool (Ac.bang s)] 78)
        have HX2 := Lib.hid ((hal2.block gb hgl).trans hX)
        have HO2 := Lib.hid (own_step HO.out hal2)
        have HF2 : Hid (Below gb w (wr.alloc (.cells #[.pointer (some ⟨bx k, 0, none⟩), .bool (Ac.bang s)] 78))) := Lib.hid (by have h9 := bnext hbr hal2 hbr.size; rwa [HGB.out] at h9)
        have hbase : gb ≤ (wr.alloc (.cells #[.pointer (some ⟨bx k, 0, none⟩), .bool (Ac.bang s)] 78)).heap.size := Nat.le_trans (Nat.le_of_lt hgl) hal2.size
        have hpl2 : pts.length ≤ 4194304 := by omega
        clear hl hX hP1 hbr hal2
        go_wp2_with fail
        refine hC.mono ?_
        rintro x w2 ⟨rfl, rfl⟩
        clear hC
        go_wp2_with
          (at_builtin
           refine wp_appT rfl (.tmp 38) (.tmp 42) rfl gb (.slice A1 n1 c1) pts rfl HO2.out (some ⟨wr.heap.size, 0, none⟩) 1 (bx k, Ac.bang s) rfl (cell2_rd _ _ _ _) hpl2 hbase ?_
           intro A5 n5 c5 w5 ho5 hg5 hn5
           have hX5 := block_safe hg5 (safe_own HO2.out (T := fun t => t = 78) rfl) HX2.out (by decide)
           have d2 : w5.cell? ⟨gb, 2, none⟩ = some (.slice A1 n1 c1) := by rw [cell_of_row _ _ _ _ _ _ hX5]; rfl
           have f2 : w5.frozen? ⟨gb, 2, none⟩ = false := by simp only [World.frozen?, hX5]; rfl
           have HX6 : Hid ((w5.setCell ⟨gb, 2, none⟩ (.slice A5 n5 c5)).heap[gb]? = some (.cells #[.int .i64 (no : Int), .bool al, .slice A5 n5 c5] 60 (0, 0))) := Lib.hid (by rw [heap_setCell_same w5 gb 2 _ _ _ hX5]; rfl)
           have hgs := grown_set w5 gb 2 (.slice A5 n5 c5)
           have HO6 := Lib.hid (own_safe hgs (safe_row hX5 (T := fun t => t = 60) rfl) ho5 (by decide))
           have hb5 := HF2.out.grown hg5 hbase (fun q hq => (HO2.out.lt q hq).1)
           have HF6 := Lib.hid (hb5.grown hgs (Nat.le_trans hbase hg5.size) (fun q hq => by cases hq; exact Nat.le_refl _))
           clear hX5 ho5 hg5 hn5 hgs hb5 b2)
        go_roundw
        case rel => exact ⟨j + 1, A5, n5, c5, pts ++ [(bx k, Ac.bang s)], by omega, by go_num, HX6, HO6, HT2, HF6⟩
        case measure => simp [intOf]; omega
    · obtain rfl : j = wn := by omega
      have htk : ns.take j = ns := List.take_of_length_le (by rw [HW.out.1.1]; exact Nat.le_refl _)
      have hT := HT.out
      rw [htk] at hT
      have HR : Hid (Ac.ruleL L no al ns = some ⟨L.els, L.rus ++ [⟨no, al, ns⟩]⟩) := Lib.hid (Ac.ruleL_yes hT.found)
      have HTT := Lib.hid hT
      have b0 : wr.cell? ⟨gb, 0, none⟩ = some (.int .i64 (no : Int)) := by rw [cell_of_row _ _ _ _ _ _ hX]; rfl
      have b1 : wr.cell? ⟨gb, 1, none⟩ = some (.bool al) := by rw [cell_of_row _ _ _ _ _ _ hX]; rfl
      have l1 : wr.cell? ⟨g, 1, none⟩ = some (.slice R rn rc) := by rw [cell_of_row _ _ _ _ _ _ hP1.list]; rfl
      obtain ⟨prs, hoR, hpr, hpq⟩ := hP1.rus.ex
      have HPQ := Lib.hid hpq
      have hal9 := (alloc_below wr (.cells #[.int .i64 (no : Int), .bool al, .slice A1 n1 c1] 60)).trans ((Below.refl _ _).drew)
      have hoR9 : (wr.alloc (.cells #[.int .i64 (no : Int), .bool al, .slice A1 n1 c1] 60)).drew.ownsRow B 60 3 (.slice R rn rc) prs.length (rcells prs) := by
        have h9 := own_step hoR hal9
        have h8 := h9.1
        rw [rcells_length] at h8
        rw [show prs.length = rn by omega]
        exact h9
      have hp9 : prs.length ≤ 4194304 := by rw [hpr]; exact hr
      have hB9 : B ≤ (wr.alloc (.cells #[.int .i64 (no : Int), .bool al, .slice A1 n1 c1] 60)).drew.heap.size := Nat.le_trans hBw hal9.size
      have HG9 := Lib.hid ((hal9.block _ (Array.getElem?_eq_some_iff.1 hP1.list).1).trans hP1.list)
      have hgl2 : g < wr.heap.size := (Array.getElem?_eq_some_iff.1 hP1.list).1
      have HP1 := Lib.hid hP1
      have hRd := rule_rd wr ⟨no, al, A1, n1, c1⟩
      have HAL9 := Lib.hid hal9
      have HFR := Lib.hid ((AFr.refl (B := B) (w := w)).next hbr (by rw [HGB.out]; exact HB.out))
      clear hT htk hX hP1 hbr hpq hal9
      go_upto_region 11 with fail
      go_region_law (refine step_appU rfl (.tmp 50) (.tmp 52) rfl B (.slice R rn rc) prs (by rfl) hoR9 _ _ ⟨no, al, A1, n1, c1⟩ (by rfl) hRd hp9 hB9 ?_; intro A7 n7 c7 w7 ho7 hg7 hn7; have hG7 := block_safe hg7 (safe_own hoR9 (T := fun t => t = 60) rfl) HG9.out (by decide); have d1 : w7.cell? ⟨g, 1, none⟩ = some (.slice R rn rc) := (by rw [cell_of_row _ _ _ _ _ _ hG7]; rfl); have f1 : w7.frozen? ⟨g, 1, none⟩ = false := (by simp only [World.frozen?, hG7]; rfl))
      all_goals
        have hnc := own_count HO.out
        have HF := Lib.hid (HP1.out.rule HAL9.out hoR9 hg7 hpr HPQ.out ho7 (r := ⟨no, al, ns⟩) ⟨rfl, rfl, by show n1 ≤ 4194304; omega⟩ (pts := pts) (by show wr.ownsRow B _ 2 (.slice A1 n1 c1) n1 (tcells pts); have h9 := own_mono HO.out HB.out; rw [← hnc] at h9; exact h9) HTT.out)
        have HF2 := Lib.hid (HP1.out.rule_fr HFR.out HAL9.out hoR9 hg7 (.slice A7 n7 c7))
        clear ho7 hg7 hn7 hG7 d1 f1 hoR9 hRd
        go_wp2
        go_ret
        rw [HR.out]
        exact ⟨rfl, HF2.out, fun L' e9 => by injection e9 with e9; subst e9; exact ⟨_, _, _, _, _, _, _, HF.out⟩⟩
end Go.Proofs.YtgkphjbcaidcpaaGreatDoor
set_option linter.unusedVariables false
set_option linter.unusedSimpArgs false
namespace Go.Proofs.YtgkphjbcaidcpaaGreatDoor
open Go.RowKit

set_option maxRecDepth 100000
namespace Ac
theorem line_cons (L : LS) (no : Nat) (h : T) (r : List T) : line L no (h :: r) = if h = aclT then define L r else if h = allowT then ruleL L no true r else if h = denyT then ruleL L no false r else none := rfl
theorem line_acl {L : LS} {no : Nat} {h : T} {r : List T} (h1 : h = aclT) : line L no (h :: r) = define L r := by rw [line_cons, if_pos h1]
theorem line_allow {L : LS} {no : Nat} {h : T} {r : List T} (h1 : h ≠ aclT) (h2 : h = allowT) : line L no (h :: r) = ruleL L no true r := by rw [line_cons, if_neg h1, if_pos h2]
theorem line_deny {L : LS} {no : Nat} {h : T} {r : List T} (h1 : h ≠ aclT) (h2 : h ≠ allowT) (h3 : h = denyT) : line L no (h :: r) = ruleL L no false r := by rw [line_cons, if_neg h1, if_neg h2, if_pos h3]
theorem line_no {L : LS} {no : Nat} {h : T} {r : List T} (h1 : h ≠ aclT) (h2 : h ≠ allowT) (h3 : h ≠ denyT) : line L no (h :: r) = none := by rw [line_cons, if_neg h1, if_neg h2, if_neg h3]
end Ac
set_option maxHeartbeats 4000000 in
theorem line_any (L : Ac.LS) (no : Nat) (wd : List (List UInt8)) (B g mb N : Nat) (WA : Option Addr) (wn wc : Nat) (w : World) (hM : MaxL w) (hMB : 0 < B) (hW : RdW w WA wn wd) (hP : PWx w B g mb N L) (hwd : ∀ s ∈ wd, 1 ≤ s.length ∧ s.length ≤ 4194304)
    (hwn : 1 ≤ wn ∧ wn ≤ 4194304) (hwc : wn ≤ wc ∧ wc ≤ maxLen) (hcap : ∀ e ∈ L.els, e.vs.length + wn ≤ 4194304) (hr : L.rus.length ≤ 4194304) (hN : N < maxLen) :
    Calls Tryz.prog 19 #[.pointer (some ⟨g, 0, none⟩), .int .i64 (no : Int), .slice WA wn wc] w fun e w' => DefOut B g mb N w (Ac.line L no wd) e w' := by
  obtain ⟨m, rfl⟩ : ∃ m, wn = m + 1 := ⟨wn - 1, by omega⟩
  obtain ⟨mc, rfl⟩ : ∃ mc, wc = mc + 1 := ⟨wc - 1, by omega⟩
  obtain ⟨g', o', rfl, hg', hc'⟩ := hW.1.2.2 (by omega)
  obtain ⟨h, r, rfl⟩ : ∃ h r, wd = h :: r := by
    have := hW.1.1
    rcases wd with _ | ⟨a, b⟩
    · simp at this
    · exact ⟨a, b, rfl⟩
  have d0 : w.cell? ⟨g', o', none⟩ = some (.string (bs h)) := hc' 0 _ rfl
  have hWt : RdW w (some ⟨g', if mc = 0 then o' else o' + 1, none⟩) m r := by
    by_cases hmc : mc = 0
    · rw [if_pos hmc]
      obtain rfl : m = 0 := by omega
      obtain rfl : r = [] := List.eq_nil_of_length_eq_zero (by have := hW.1.1; simpa using this)
      exact ⟨RdS.nil _ _, fun _ _ _ h => by omega⟩
    · rw [if_neg hmc]; exact hW.drop (i := 1) (by omega)
  have hwt : ∀ s ∈ r, 1 ≤ s.length ∧ s.length ≤ 4194304 := fun s hs => hwd s (List.mem_cons_of_mem _ hs)
  have hD := define_any L r B g mb N (some ⟨g', if mc = 0 then o' else o' + 1, none⟩) m mc w hM hMB hWt hP hwt (by omega) ⟨by omega, by omega⟩ (fun e he => by have := hcap e he; omega) hN
  have hd : Below w.heap.size w w.drew := (Below.refl _ _).drew
  have hPd : PWx w.drew B g mb N L := by
    obtain ⟨bx, A, n, c, R, rn, rc, hP⟩ := hP
    exact ⟨bx, A, n, c, R, rn, rc, hP.step hd⟩
  have hR := fun al => rule_any L no al r B g mb N (some ⟨g', if mc = 0 then o' else o' + 1, none⟩) m mc w.drew (hWt.fr (AFr.refl.next hd (by
    obtain ⟨bx, A, n, c, R, rn, rc, hP⟩ := hP
    exact Nat.le_of_lt (Nat.lt_of_le_of_lt hP.base.1 (Array.getElem?_eq_some_iff.1 hP.list).1)))) hPd (fun s hs => (hwt s hs).2) (by omega) hr
  have m0 : (0 : Int) < (m : Int) + 1 := by omega
  have m1 : (1 : Int) ≤ (m : Int) + 1 := by omega
  have HB : Hid (B ≤ w.heap.size) := Lib.hid (by
    obtain ⟨bx, A, n, c, R, rn, rc, hP⟩ := hP
    exact Nat.le_of_lt (Nat.lt_of_le_of_lt hP.base.1 (Array.getElem?_eq_some_iff.1 hP.list).1))
  clear hW hP hc' hwd hWt hwt hcap hPd hd
  by_cases hmc : mc = 0
  · subst hmc
    obtain rfl : m = 0 := by omega
    simp only [if_true] at hD hR
    by_cases h1 : h = Ac.aclT
    · have q1 : (h == [97, 99, 108]) = true := by rw [h1]; rfl
      rw [Ac.line_acl h1]
      clear h1 hR
      generalize Ac.define L r = D at *
      unfold DefOut at hD
      go_enter Tryz.func19, Tryz.ntmps19
      go_wp2_with fail
      refine hD.mono ?_
      rintro x w2 ⟨rfl, hf, hp⟩
      go_wp2
      go_ret
      exact ⟨rfl, hf, hp⟩
    have q1 : (h == [97, 99, 108]) = false := by simpa [Ac.aclT] using h1
    by_cases h2 : h = Ac.allowT
    · have q2 : (h == [97, 108, 108, 111, 119]) = true := by rw [h2]; rfl
      rw [Ac.line_allow h1 h2]
      replace hR := hR true
      clear hD h1 h2
      generalize Ac.ruleL L no true r = D at *
      unfold DefOut at hR
      go_enter Tryz.func19, Tryz.ntmps19
      go_upto_region 6 with fail
      go_still_tail 8, (by kernel_rfl)
      change wpList _ _ _ _ _ w.drew
      go_wp2_with fail
      refine hR.mono ?_
      rintro x w2 ⟨rfl, hf, hp⟩
      go_wp2
      go_ret
      exact ⟨rfl, AFr.trans (AFr.refl.next ((Below.refl _ _).drew) HB.out) hf, hp⟩
    have q2 : (h == [97, 108, 108, 111, 119]) = false := by simpa [Ac.allowT] using h2
    by_cases h3 : h = Ac.denyT
    · have q3 : (h == [100, 101, 110, 121]) = true := by rw [h3]; rfl
      rw [Ac.line_deny h1 h2 h3]
      replace hR := hR false
      clear hD h1 h2 h3
      generalize Ac.ruleL L no false r = D at *
      unfold DefOut at hR
      go_enter Tryz.func19, Tryz.ntmps19
      go_upto_region 6 with fail
      go_still_tail 8, (by kernel_rfl)
      change wpList _ _ _ _ _ w.drew
      go_wp2_with fail
      refine hR.mono ?_
      rintro x w2 ⟨rfl, hf, hp⟩
      go_wp2
      go_ret
      exact ⟨rfl, AFr.trans (AFr.refl.next ((Below.refl _ _).drew) HB.out) hf, hp⟩
    · have q3 : (h == [100, 101, 110, 121]) = false := by simpa [Ac.denyT] using h3
      rw [Ac.line_no h1 h2 h3]
      clear h1 h2 h3 hD hR
      go_enter Tryz.func19, Tryz.ntmps19
      go_wp2
      go_ret
      exact DefOut.no AFr.refl
  · simp only [if_neg hmc] at hD hR
    by_cases h1 : h = Ac.aclT
    · have q1 : (h == [97, 99, 108]) = true := by rw [h1]; rfl
      rw [Ac.line_acl h1]
      clear h1 hR
      generalize Ac.define L r = D at *
      unfold DefOut at hD
      go_enter Tryz.func19, Tryz.ntmps19
      go_wp2_with fail
      refine hD.mono ?_
      rintro x w2 ⟨rfl, hf, hp⟩
      go_wp2
      go_ret
      exact ⟨rfl, hf, hp⟩
    have q1 : (h == [97, 99, 108]) = false := by simpa [Ac.aclT] using h1
    by_cases h2 : h = Ac.allowT
    · have q2 : (h == [97, 108, 108, 111, 119]) = true := by rw [h2]; rfl
      rw [Ac.line_allow h1 h2]
      replace hR := hR true
      clear hD h1 h2
      generalize Ac.ruleL L no true r = D at *
      unfold DefOut at hR
      go_enter Tryz.func19, Tryz.ntmps19
      go_upto_region 6 with fail
      go_still_tail 8, (by kernel_rfl)
      change wpList _ _ _ _ _ w.drew
      go_wp2_with fail
      refine hR.mono ?_
      rintro x w2 ⟨rfl, hf, hp⟩
      go_wp2
      go_ret
      exact ⟨rfl, AFr.trans (AFr.refl.next ((Below.refl _ _).drew) HB.out) hf, hp⟩
    have q2 : (h == [97, 108, 108, 111, 119]) = false := by simpa [Ac.allowT] using h2
    by_cases h3 : h = Ac.denyT
    · have q3 : (h == [100, 101, 110, 121]) = true := by rw [h3]; rfl
      rw [Ac.line_deny h1 h2 h3]
      replace hR := hR false
      clear hD h1 h2 h3
      generalize Ac.ruleL L no false r = D at *
      unfold DefOut at hR
      go_enter Tryz.func19, Tryz.ntmps19
      go_upto_region 6 with fail
      go_still_tail 8, (by kernel_rfl)
      change wpList _ _ _ _ _ w.drew
      go_wp2_with fail
      refine hR.mono ?_
      rintro x w2 ⟨rfl, hf, hp⟩
      go_wp2
      go_ret
      exact ⟨rfl, AFr.trans (AFr.refl.next ((Below.refl _ _).drew) HB.out) hf, hp⟩
    · have q3 : (h == [100, 101, 110, 121]) = false := by simpa [Ac.denyT] using h3
      rw [Ac.line_no h1 h2 h3]
      clear h1 h2 h3 hD hR
      go_enter Tryz.func19, Tryz.ntmps19
      go_wp2
      go_ret
      exact DefOut.no AFr.refl
end Go.Proofs.YtgkphjbcaidcpaaGreatDoor
set_option linter.unusedVariables false
set_option linter.unusedSimpArgs false
namespace Go.Proofs.YtgkphjbcaidcpaaGreatDoor
open Go.RowKit

set_option maxRecDepth 100000
namespace Ac
theorem wordsA_law (s : T) : ∀ acc : T, (wordsA acc s).length ≤ acc.length + s.length ∧ ∀ x ∈ wordsA acc s, 1 ≤ x.length ∧ x.length ≤ acc.length + s.length := by
  induction s with
  | nil =>
    intro acc
    unfold wordsA
    by_cases h : acc = []
    · rw [if_pos h]; exact ⟨by simp, fun x hx => by cases hx⟩
    · rw [if_neg h]
      have := List.length_pos_iff.2 h
      exact ⟨by simp; omega, fun x hx => by rw [List.mem_singleton.1 hx]; simp; omega⟩
  | cons b r ih =>
    intro acc
    unfold wordsA
    by_cases hb : blk b = true
    · rw [if_pos hb]
      have h0 := ih []
      simp only [List.length_nil, Nat.zero_add] at h0
      by_cases h : acc = []
      · rw [if_pos h]; exact ⟨by have := h0.1; simp; omega, fun x hx => by have := h0.2 x hx; simp; omega⟩
      · rw [if_neg h]
        have := List.length_pos_iff.2 h
        refine ⟨by have := h0.1; simp; omega, fun x hx => ?_⟩
        rcases List.mem_cons.1 hx with rfl | hx
        · simp; omega
        · have := h0.2 x hx; simp; omega
    · rw [if_neg hb]
      have h0 := ih (acc ++ [b])
      simp only [List.length_append, List.length_singleton] at h0
      exact ⟨by have := h0.1; simp; omega, fun x hx => by have := h0.2 x hx; simp; omega⟩
theorem words_len (s : T) : (words s).length ≤ s.length := by have := (wordsA_law s []).1; simpa [words] using this
theorem words_mem {s x : T} (h : x ∈ words s) : 1 ≤ x.length ∧ x.length ≤ s.length := by have := (wordsA_law s []).2 x h; simpa using this
end Ac
theorem blkF_any (x : Nat) (w : World) : Calls Tryz.prog 18 #[encR x] w fun e w' => e = .returned (.bool (Ac.blkR x)) ∧ w' = w := by
  have HE : Hid (Ac.blkR x = (x == 32 || x == 9)) := Lib.hid rfl
  generalize Ac.blkR x = R at *
  unfold encR
  by_cases h1 : x = 32
  · subst h1
    go_enter Tryz.func18, Tryz.ntmps18
    go_wp2
    go_ret
    exact ⟨by rw [HE.out]; rfl, rfl⟩
  · have i1 : ((x : Int) == 32) = false := by rw [beq_eq_false_iff_ne]; omega
    have i2 : ¬ ((x : Int) = 32) := by omega
    have HE2 : Hid (R = (x == 9)) := Lib.hid (by rw [HE.out]; simp [h1])
    clear HE
    go_enter Tryz.func18, Tryz.ntmps18
    go_wp2
    go_ret
    refine ⟨?_, rfl⟩
    have e9 : ((x : Int) == 9) = (x == 9) := by rw [Bool.eq_iff_iff]; simp; omega
    rw [HE2.out, ← e9]
    rfl
theorem words_any (s : List UInt8) (w : World) (hs : s.length ≤ 4194304) :
    Calls Tryz.prog 17 #[.string (bs s), .func (.func 18) #[] #[]] w fun e w' => ∃ A, e = .returned (.slice (some ⟨A, 0, none⟩) (Ac.words s).length (Ac.words s).length) ∧ RdW w' (some ⟨A, 0, none⟩) (Ac.words s).length (Ac.words s) ∧ Below w.heap.size w w' := by
  refine (Tryz.strings_FieldsFunc 18 #[] (fun _ _ => by kernel_rfl) Ac.blkR (bs s) w (by simp; omega) (fun W x hb => (blkF_any x W).mono fun e w' h => ⟨h.1, 0, h.2⟩)).mono fun e w' h => ?_
  obtain ⟨A, rfl, hA, ho, hb⟩ := h
  have hw := Ac.words_eq s
  have hl : (Lib.goFieldsP Ac.blkR (bs s)).length = (Ac.words s).length := by rw [← hw, List.length_map]
  have hst : (Lib.goFieldsP Ac.blkR (bs s)).map Value.string = strs (Ac.words s) := by
    rw [← hw]
    unfold strs
    rw [List.map_map]
    exact List.map_congr_left fun x _ => by cases x; simp [strV, bs]
  rw [hl, hst] at ho
  refine ⟨A, by rw [hl], ⟨⟨rfl, Rd.of_own ho⟩, fun g o e _ => ?_⟩, hb⟩
  injection e with e
  injection e with e1 e2
  subst e1 e2
  rcases ho.2 with ⟨h1, _⟩ | ⟨g', cap, cur, h1, _, hg', _⟩
  · cases h1
  · injection h1 with h1
    injection h1 with h1
    injection h1 with h1
    subst h1
    exact ⟨cur, 9, _, hg', by decide⟩
end Go.Proofs.YtgkphjbcaidcpaaGreatDoor
