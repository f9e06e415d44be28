/- Joined texts: The reference's Decide; The reference's CopyTexts. The conditions stand in each line. -/
import Derived.Test.YtgkphjbcaidcpaaGreatDoorM15
import Derived.Test.YtgkphjbcaidcpaaGreatDoorM19
set_option linter.unusedVariables false
set_option linter.unusedSimpArgs false
namespace Go.Proofs.YtgkphjbcaidcpaaGreatDoor
open Go.RowKit

set_option maxRecDepth 100000
namespace Ac
/-- Elements hold values of their kinds, rules name elements. -/
structure LOK (L : LS) : Prop where
  els : ∀ e ∈ L.els, ∀ v ∈ e.vs, ValOK e.kd v
  rus : ∀ r ∈ L.rus, ∀ n ∈ r.ns, 1 ≤ n.length ∧ n.length ≤ 4194304 ∧ (atI L.els (bare n)).isSome = true
end Ac
theorem mem_take_or {α : Type} {l : List α} {k : Nat} {x : α} (h : x ∈ l.take k) : x ∈ l := List.mem_of_mem_take h
set_option maxHeartbeats 8000000 in
theorem rdecide_any (E : Option Addr) (en ec : Nat) (R : Option Addr) (rn rc : Nat) (L : Ac.LS) (a : Ac.Ask) (w : World) (ha : AskOK a) (hL : RLst w E en R rn L) (hok : Ac.LOK L) :
    Calls Tryz.prog 11 #[rlV E en ec R rn rc, askV a] w fun x w' => x = .returned (decV L a) ∧ Below w.heap.size w w' := by
  have hal0 := alloc_below w (.cells #[.slice E en ec, .slice R rn rc] 31)
  have hr0 := heap_alloc_new w (.cells #[.slice E en ec, .slice R rn rc] 31)
  have hal1 := alloc_below (w.alloc (.cells #[.slice E en ec, .slice R rn rc] 31)) (.cells #[.int .i64 a.src, .string (bs a.host), .int .i64 a.port, .string (bs a.meth), .string (bs a.path), .int .i64 a.now] 37)
  have hra := heap_alloc_new (w.alloc (.cells #[.slice E en ec, .slice R rn rc] 31)) (.cells #[.int .i64 a.src, .string (bs a.host), .int .i64 a.port, .string (bs a.meth), .string (bs a.path), .int .i64 a.now] 37)
  have hrl := (hal1.block w.heap.size (by simp)).trans hr0
  have hal := bnext hal0 hal1 hal0.size
  rw [show (w.alloc (.cells #[.slice E en ec, .slice R rn rc] 31)).heap.size = w.heap.size + 1 by simp] at hra
  have HL := Lib.hid (hL.step hal)
  obtain ⟨-, ⟨prs, hR, hO⟩, -, hrn⟩ := hL.step hal
  have hlen : L.rus.length = rn := by rw [← hO.1, hR.1]
  have HNM : Hid (∀ (j : Nat) (p : PRu), prs[j]? = some p → ∃ r, L.rus[j]? = some r) := Lib.hid fun j p hp => ⟨_, List.getElem?_eq_getElem (by rw [hlen, ← hR.1]; exact lt_of_get? hp)⟩
  have HF : Hid (∀ (j : Nat) (r : Ac.Ru), L.rus[j]? = some r → (L.rus.take j).find? (fun r => Ac.ruleM L r a) = none → Ac.ruleM L r a = true → decV L a = .tuple #[.bool r.al, .int .i64 (r.ln : Int)]) := Lib.hid fun j r h1 h2 h3 => by
    have h4 := find_noX _ h1 h2 h3
    unfold decV Ac.decide_
    rw [h4]
  have HS : Hid (∀ (j : Nat) (r : Ac.Ru), L.rus[j]? = some r → (L.rus.take j).find? (fun r => Ac.ruleM L r a) = none → Ac.ruleM L r a = false → (L.rus.take (j + 1)).find? (fun r => Ac.ruleM L r a) = none) := Lib.hid fun j r h1 h2 h3 => findQ_snoc _ h1 h2 h3
  have HE : Hid ((L.rus.take rn).find? (fun r => Ac.ruleM L r a) = none → decV L a = .tuple #[.bool (decide (rn = 0)), .int .i64 0]) := Lib.hid fun h => by
    rw [List.take_of_length_le (by rw [hlen]; exact Nat.le_refl _)] at h
    unfold decV Ac.decide_
    rw [h]
    have he : L.rus.isEmpty = decide (rn = 0) := by
      rw [← hlen]
      cases L.rus <;> simp
    simp only
    rw [he]; rfl
  have HNA : Hid (∀ W, RLst W E en R rn L → ∀ r ∈ L.rus, ∀ n ∈ r.ns, Calls Tryz.prog 24 #[rlV E en ec R rn rc, .string (bs (Ac.bare n)), askV a] W fun x w' => x = .returned (.bool (Ac.named L (Ac.bare n) a)) ∧ Below W.heap.size W w') := Lib.hid fun W hW r hr n hn => by
    obtain ⟨k, hk⟩ := Option.isSome_iff_exists.1 (hok.rus r hr n hn).2.2
    obtain ⟨e, he, _⟩ := atI_get hk
    exact rnamed_any E en ec R rn rc L (Ac.bare n) a W ha hW hk he (hok.els e (mem_of_get? he))
  have HLN : Hid (∀ r ∈ L.rus, ∀ n ∈ r.ns, 1 ≤ n.length ∧ n.length ≤ 4194304) := Lib.hid fun r hr n hn => ⟨(hok.rus r hr n hn).1, (hok.rus r hr n hn).2.1⟩
  unfold rlV askV at *
  generalize decV L a = DV at *
  clear hok hL hal1 hr0 hal0 hlen
  go_enter Tryz.func11, Tryz.ntmps11
  go_upto_region 1 with fail
  generalize (w.alloc (.cells #[.slice E en ec, .slice R rn rc] 31)).alloc (.cells #[.int .i64 a.src, .string (bs a.host), .int .i64 a.port, .string (bs a.meth), .string (bs a.path), .int .i64 a.now] 37) = w1 at *
  obtain ⟨c0, c1⟩ := row_facts2w hrl
  have hgl : w.heap.size < w1.heap.size := (Array.getElem?_eq_some_iff.1 hrl).1
  have HRL : Hid (∀ W, Below w1.heap.size w1 W → W.cell? ⟨w.heap.size, 0, none⟩ = some (.slice E en ec) ∧ W.cell? ⟨w.heap.size, 1, none⟩ = some (.slice R rn rc)) := Lib.hid fun W hW => ⟨(hW.cell (p := ⟨_, _, none⟩) hgl).trans c0, (hW.cell (p := ⟨_, _, none⟩) hgl).trans c1⟩
  have HRA : Hid (∀ W, Below w1.heap.size w1 W → W.heap[w.heap.size + 1]? = some (.cells #[.int .i64 a.src, .string (bs a.host), .int .i64 a.port, .string (bs a.meth), .string (bs a.path), .int .i64 a.now] 37 (0, 0))) := Lib.hid fun W hW => (hW.block _ (Array.getElem?_eq_some_iff.1 hra).1).trans hra
  clear hrl hra
  go_wp2
  go_loopw [6] (fun t wr => ∃ k : Nat, k ≤ rn ∧ t = .int .i64 (k : Int) ∧ Hid ((L.rus.take k).find? (fun r => Ac.ruleM L r a) = none) ∧ Below w1.heap.size w1 wr) (fun t _ => rn - (intOf t).toNat)
  case atStart => exact ⟨0, by omega, rfl, Lib.hid rfl, Below.refl _ _⟩
  case round =>
    obtain ⟨k, hk, rfl, HA, hbr⟩ := hrel
    clear c0 c1
    obtain ⟨c0, c1⟩ := HRL.out wr hbr
    by_cases hlt : k < rn
    · obtain ⟨gr, o, p, rfl, hgr, HP, hc1, hc2, hc3⟩ := (hR.step hbr).at_ hlt
      obtain ⟨r, hr⟩ := HNM.out k p HP.out
      obtain ⟨q1, q2, q3, q4⟩ := (hO.step hbr).2 k p r HP.out hr
      obtain ⟨p1, p2, pA, pn, pc⟩ := p
      dsimp only at hc1 hc2 hc3 q1 q2 q3 q4
      subst q1 q2
      have halt := alloc_below wr (.cells #[.int .i64 (r.ln : Int), .bool r.al, .slice pA pn pc] 63)
      have hrt := heap_alloc_new wr (.cells #[.int .i64 (r.ln : Int), .bool r.al, .slice pA pn pc] 63)
      have hb4 := bnext hbr halt hbr.size
      have hq4 := q4.step halt
      have HN2 := Lib.hid fun W hW n (hn : n ∈ r.ns) => HNA.out W hW r (mem_of_get? hr) n hn
      have HLN2 := Lib.hid fun n (hn : n ∈ r.ns) => HLN.out r (mem_of_get? hr) n hn
      have HF2 := Lib.hid (HF.out k r hr HA.out)
      have HS2 := Lib.hid (HS.out k r hr HA.out)
      have HRM : Hid (Ac.ruleM L r a = r.ns.all (fun n => Ac.named L (Ac.bare n) a != Ac.bang n)) := Lib.hid rfl
      generalize Ac.ruleM L r a = rm at *
      clear HNM HF HS HE HA HP hr q4 halt HNA HLN
      go_upto_region 5 with fail
      clear hc1 hc2 hc3 c0 c1
      generalize wr.alloc (.cells #[.int .i64 (r.ln : Int), .bool r.al, .slice pA pn pc] 63) = w4 at *
      generalize wr.heap.size = tb at *
      have htl : tb < w4.heap.size := (Array.getElem?_eq_some_iff.1 hrt).1
      obtain ⟨d0, d1, d2⟩ := row_facts3w hrt
      have HRT : Hid (∀ W, Below w4.heap.size w4 W → W.cell? ⟨tb, 0, none⟩ = some (.int .i64 (r.ln : Int)) ∧ W.cell? ⟨tb, 1, none⟩ = some (.bool r.al) ∧ W.cell? ⟨tb, 2, none⟩ = some (.slice pA pn pc)) := Lib.hid fun W hW =>
        ⟨(hW.cell (p := ⟨_, _, none⟩) htl).trans d0, (hW.cell (p := ⟨_, _, none⟩) htl).trans d1, (hW.cell (p := ⟨_, _, none⟩) htl).trans d2⟩
      go_wp2
      obtain ⟨wo, hwo⟩ : ∃ wo, wo = wr := ⟨_, rfl⟩
      clear hwo
      go_loopw [8, 9] (fun m t wr => ∃ j : Nat, j ≤ pn ∧ t = .int .i64 (j : Int) ∧ m = .bool ((r.ns.take j).all (fun n => Ac.named L (Ac.bare n) a != Ac.bang n)) ∧ Below w4.heap.size w4 wr) (fun _ t _ => pn - (intOf t).toNat)
      case atStart => exact ⟨0, by omega, rfl, rfl, Below.refl _ _⟩
      case round =>
        obtain ⟨j, hj, rfl, rfl, hbj⟩ := hrel
        clear d0 d1 d2
        obtain ⟨d0, d1, d2⟩ := HRT.out wr hbj
        have HB4 : Hid (∀ W, Below w4.heap.size w4 W → Below w1.heap.size w1 W) := Lib.hid fun W hW => bnext hb4 hW hb4.size
        by_cases hlj : j < pn
        · obtain ⟨gn, on, n, rfl, hgn, HNn, hcn⟩ := (hq4.step hbj).at_ hlj
          obtain ⟨ln1, ln2⟩ := HLN2.out n (mem_of_get? HNn.out)
          have hn0 : 0 < n.length := by omega
          have HTK : Hid ((r.ns.take (j + 1)).all (fun n => Ac.named L (Ac.bare n) a != Ac.bang n) = ((r.ns.take j).all (fun n => Ac.named L (Ac.bare n) a != Ac.bang n) && (Ac.named L (Ac.bare n) a != Ac.bang n))) := Lib.hid (allQ_snoc _ HNn.out)
          have HBR := Lib.hid fun W => rbare_any n W hn0 (by omega)
          have HNA := Lib.hid fun W hW => HN2.out W hW n (mem_of_get? HNn.out)
          have HBG : Hid (Ac.bang n = ((n[0].toNat : Int) == 33)) := Lib.hid (by
            unfold Ac.bang
            have hh : n.head? = some n[0] := by cases n with | nil => simp at hn0 | cons x y => rfl
            rw [hh]
            by_cases h33 : n[0] = 33
            · rw [u8eqk h33 33 rfl, h33]; rfl
            · rw [u8nek h33 33 rfl, beq_eq_false_iff_ne]
              intro e; injection e with e; exact h33 e)
          generalize Ac.bang n = bg at *
          generalize Ac.named L (Ac.bare n) a = nd at *
          generalize (r.ns.take j).all (fun n => Ac.named L (Ac.bare n) a != Ac.bang n) = mj at *
          clear HNn HN2 HLN2 HF2 HS2 HRM
          go_upto_region 9 with fail
          clear d0 d1 d2
          have HCN : Hid (∀ W, Below wr.heap.size wr W → W.cell? ⟨gn, on + j, none⟩ = some (.string (bs n))) := Lib.hid fun W hW => (hW.cell (p := ⟨_, _, none⟩) hgn).trans hcn
          clear hcn hgn
          have HBJ : Hid (∀ W, Below wr.heap.size wr W → Below w4.heap.size w4 W) := Lib.hid fun W hW => bnext hbj hW hbj.size
          refine wp_region_detN (n := 17) (S := fun L W => Below wr.heap.size wr W) (by kernel_rfl) rfl (below_drewN (Below.refl _ _) 1) ?_
          refine' DetS.takeL (i := 0) (v := _) rfl (by kernel_rfl) (by kernel_rfl) (by kernel_rfl) (YS.pure rfl ?sd9_0 ?rd9_0) ?nd9_0
          case rd9_0 => intro L W hS; obtain ⟨k0, k1⟩ := HRL.out W (HB4.out W (HBJ.out W hS)); go_simp; first | rfl | skip
          case sd9_0 => exact fun L W _ h => h
          simp only [Act.put, List.setIfInBounds_toArray, List.set_cons_zero, List.set_cons_succ]
          refine' DetS.takeL (i := 1) (v := _) rfl (by kernel_rfl) (by kernel_rfl) (by kernel_rfl) (YS.pure rfl ?sd9_1 ?rd9_1) ?nd9_1
          case rd9_1 => intro L W hS;  go_simp; first | rfl | (rw [if_neg (by omega)] <;> rfl) | (rw [if_neg (by simp; omega)] <;> rfl) | (rw [if_neg (by simp)] <;> rfl)
          case sd9_1 => exact fun L W _ h => h
          simp only [Act.put, List.setIfInBounds_toArray, List.set_cons_zero, List.set_cons_succ]
          refine' DetS.takeL (i := 2) (v := _) rfl (by kernel_rfl) (by kernel_rfl) (by kernel_rfl) (YS.pure rfl ?sd9_2 ?rd9_2) ?nd9_2
          case rd9_2 => intro L W hS; obtain ⟨k0, k1, k2⟩ := HRT.out W (HBJ.out W hS); go_simp; first | rfl | skip
          case sd9_2 => exact fun L W _ h => h
          simp only [Act.put, List.setIfInBounds_toArray, List.set_cons_zero, List.set_cons_succ]
          refine' DetS.takeL (i := 3) (v := _) rfl (by kernel_rfl) (by kernel_rfl) (by kernel_rfl) (YS.pure rfl ?sd9_3 ?rd9_3) ?nd9_3
          case rd9_3 => intro L W hS;  go_simp; first | rfl | (rw [if_neg (by omega)] <;> rfl) | (rw [if_neg (by simp; omega)] <;> rfl) | (rw [if_neg (by simp)] <;> rfl)
          case sd9_3 => exact fun L W _ h => h
          simp only [Act.put, List.setIfInBounds_toArray, List.set_cons_zero, List.set_cons_succ]
          refine' DetS.takeL (i := 4) (v := _) rfl (by kernel_rfl) (by kernel_rfl) (by kernel_rfl) (YS.pure rfl ?sd9_4 ?rd9_4) ?nd9_4
          case rd9_4 => intro L W hS;  go_simp; first | rfl | (rw [if_neg (by omega)] <;> rfl) | (rw [if_neg (by simp; omega)] <;> rfl) | (rw [if_neg (by simp)] <;> rfl)
          case sd9_4 => exact fun L W _ h => h
          simp only [Act.put, List.setIfInBounds_toArray, List.set_cons_zero, List.set_cons_succ]
          refine' DetS.takeL (i := 5) (v := _) rfl (by kernel_rfl) (by kernel_rfl) (by kernel_rfl) (YS.pure rfl ?sd9_5 ?rd9_5) ?nd9_5
          case rd9_5 => intro L W hS; have k0 := HCN.out W hS; go_simp; first | rfl | skip
          case sd9_5 => exact fun L W _ h => h
          simp only [Act.put, List.setIfInBounds_toArray, List.set_cons_zero, List.set_cons_succ]
          refine' DetS.takeL (i := 6) (v := _) rfl (by kernel_rfl) (by kernel_rfl) (by kernel_rfl) (YS.call (f := _) (args := _) rfl ?rd9_6 ?cd9_6) ?nd9_6
          case rd9_6 => intro W; go_simp; constructor <;> rfl
          case cd9_6 =>
            intro L W hL hS
            refine (HBR.out W).mono ?_
            rintro x w9 ⟨rfl, rfl⟩
            exact ⟨rfl, hS⟩
          simp only [Act.put, List.setIfInBounds_toArray, List.set_cons_zero, List.set_cons_succ]
          refine' DetS.takeL (i := 7) (v := _) rfl (by kernel_rfl) (by kernel_rfl) (by kernel_rfl) (YS.pure rfl ?sd9_7 ?rd9_7) ?nd9_7
          case rd9_7 => intro L W hS; obtain ⟨k0, k1, k2, k3, k4, k5⟩ := row_facts6 (HRA.out W (HB4.out W (HBJ.out W hS))); go_simp; first | rfl | skip
          case sd9_7 => exact fun L W _ h => h
          simp only [Act.put, List.setIfInBounds_toArray, List.set_cons_zero, List.set_cons_succ]
          refine' DetS.takeL (i := 8) (v := _) rfl (by kernel_rfl) (by kernel_rfl) (by kernel_rfl) (YS.call (f := _) (args := _) rfl ?rd9_8 ?cd9_8) ?nd9_8
          case rd9_8 => intro W; go_simp; constructor <;> rfl
          case cd9_8 =>
            intro L W hL hS
            refine (HNA.out W (HL.out.step (HB4.out W (HBJ.out W hS)))).mono ?_
            rintro x w9 ⟨rfl, hb9⟩
            exact ⟨rfl, bnext hS hb9 hS.size⟩
          simp only [Act.put, List.setIfInBounds_toArray, List.set_cons_zero, List.set_cons_succ]
          refine' DetS.takeL (i := 9) (v := _) rfl (by kernel_rfl) (by kernel_rfl) (by kernel_rfl) (YS.pure rfl ?sd9_9 ?rd9_9) ?nd9_9
          case rd9_9 => intro L W hS;  go_simp; first | rfl | (rw [if_neg (by omega)] <;> rfl) | (rw [if_neg (by simp; omega)] <;> rfl) | (rw [if_neg (by simp)] <;> rfl)
          case sd9_9 => exact fun L W _ h => h
          simp only [Act.put, List.setIfInBounds_toArray, List.set_cons_zero, List.set_cons_succ]
          refine' DetS.takeL (i := 10) (v := _) rfl (by kernel_rfl) (by kernel_rfl) (by kernel_rfl) (YS.pure rfl ?sd9_10 ?rd9_10) ?nd9_10
          case rd9_10 => intro L W hS; obtain ⟨k0, k1, k2⟩ := HRT.out W (HBJ.out W hS); go_simp; first | rfl | skip
          case sd9_10 => exact fun L W _ h => h
          simp only [Act.put, List.setIfInBounds_toArray, List.set_cons_zero, List.set_cons_succ]
          refine' DetS.takeL (i := 11) (v := _) rfl (by kernel_rfl) (by kernel_rfl) (by kernel_rfl) (YS.pure rfl ?sd9_11 ?rd9_11) ?nd9_11
          case rd9_11 => intro L W hS;  go_simp; first | rfl | (rw [if_neg (by omega)] <;> rfl) | (rw [if_neg (by simp; omega)] <;> rfl) | (rw [if_neg (by simp)] <;> rfl)
          case sd9_11 => exact fun L W _ h => h
          simp only [Act.put, List.setIfInBounds_toArray, List.set_cons_zero, List.set_cons_succ]
          refine' DetS.takeL (i := 12) (v := _) rfl (by kernel_rfl) (by kernel_rfl) (by kernel_rfl) (YS.pure rfl ?sd9_12 ?rd9_12) ?nd9_12
          case rd9_12 => intro L W hS;  go_simp; first | rfl | (rw [if_neg (by omega)] <;> rfl) | (rw [if_neg (by simp; omega)] <;> rfl) | (rw [if_neg (by simp)] <;> rfl)
          case sd9_12 => exact fun L W _ h => h
          simp only [Act.put, List.setIfInBounds_toArray, List.set_cons_zero, List.set_cons_succ]
          refine' DetS.takeL (i := 13) (v := _) rfl (by kernel_rfl) (by kernel_rfl) (by kernel_rfl) (YS.pure rfl ?sd9_13 ?rd9_13) ?nd9_13
          case rd9_13 => intro L W hS; have k0 := HCN.out W hS; go_simp; first | rfl | skip
          case sd9_13 => exact fun L W _ h => h
          simp only [Act.put, List.setIfInBounds_toArray, List.set_cons_zero, List.set_cons_succ]
          refine' DetS.takeL (i := 14) (v := _) rfl (by kernel_rfl) (by kernel_rfl) (by kernel_rfl) (YS.pure rfl ?sd9_14 ?rd9_14) ?nd9_14
          case rd9_14 => intro L W hS;  go_simp; first | rfl | (rw [if_neg (by omega)] <;> rfl) | (rw [if_neg (by simp; omega)] <;> rfl) | (rw [if_neg (by simp)] <;> rfl)
          case sd9_14 => exact fun L W _ h => h
          simp only [Act.put, List.setIfInBounds_toArray, List.set_cons_zero, List.set_cons_succ]
          refine' DetS.takeL (i := 15) (v := _) rfl (by kernel_rfl) (by kernel_rfl) (by kernel_rfl) (YS.pure rfl ?sd9_15 ?rd9_15) ?nd9_15
          case rd9_15 => intro L W hS;  go_simp; first | rfl | (rw [if_neg (by omega)] <;> rfl) | (rw [if_neg (by simp; omega)] <;> rfl) | (rw [if_neg (by simp)] <;> rfl)
          case sd9_15 => exact fun L W _ h => h
          simp only [Act.put, List.setIfInBounds_toArray, List.set_cons_zero, List.set_cons_succ]
          refine' DetS.takeL (i := 16) (v := _) rfl (by kernel_rfl) (by kernel_rfl) (by kernel_rfl) (YS.pure rfl ?sd9_16 ?rd9_16) ?nd9_16
          case rd9_16 => intro L W hS;  go_simp; first | rfl | (rw [if_neg (by omega)] <;> rfl) | (rw [if_neg (by simp; omega)] <;> rfl) | (rw [if_neg (by simp)] <;> rfl)
          case sd9_16 => exact fun L W _ h => h
          simp only [Act.put, List.setIfInBounds_toArray, List.set_cons_zero, List.set_cons_succ]
          refine DetS.done (by kernel_rfl) (fun W hS => ?_) _
          rcases nd with _ | _ <;> rcases bg with _ | _
          · have h9 : ((n[0].toNat : Int) == 33) = false := by rw [← HBG.out]
            have h10 : (false == ((n[0].toNat : Int) == 33)) = true := by rw [h9]; rfl
            rw [h10]
            clear h9 h10
            have HT2 : Hid ((r.ns.take (j + 1)).all (fun n => Ac.named L (Ac.bare n) a != Ac.bang n) = false) := Lib.hid (by rw [HTK.out]; simp)
            clear HTK HBG
            go_wp2
            go_roundw
            case rel => exact ⟨j + 1, by omega, by go_num, by rw [HT2.out], HBJ.out _ hS⟩
            case measure => simp [intOf] <;> omega
          · have h9 : ((n[0].toNat : Int) == 33) = true := by rw [← HBG.out]
            have h10 : (false == ((n[0].toNat : Int) == 33)) = false := by rw [h9]; rfl
            rw [h10]
            clear h9 h10
            have HT2 : Hid ((r.ns.take (j + 1)).all (fun n => Ac.named L (Ac.bare n) a != Ac.bang n) = mj) := Lib.hid (by rw [HTK.out]; simp)
            clear HTK HBG
            go_wp2
            go_roundw
            case rel => exact ⟨j + 1, by omega, by go_num, by rw [HT2.out], HBJ.out _ hS⟩
            case measure => simp [intOf] <;> omega
          · have h9 : ((n[0].toNat : Int) == 33) = false := by rw [← HBG.out]
            have h10 : (true == ((n[0].toNat : Int) == 33)) = false := by rw [h9]; rfl
            rw [h10]
            clear h9 h10
            have HT2 : Hid ((r.ns.take (j + 1)).all (fun n => Ac.named L (Ac.bare n) a != Ac.bang n) = mj) := Lib.hid (by rw [HTK.out]; simp)
            clear HTK HBG
            go_wp2
            go_roundw
            case rel => exact ⟨j + 1, by omega, by go_num, by rw [HT2.out], HBJ.out _ hS⟩
            case measure => simp [intOf] <;> omega
          · have h9 : ((n[0].toNat : Int) == 33) = true := by rw [← HBG.out]
            have h10 : (true == ((n[0].toNat : Int) == 33)) = true := by rw [h9]; rfl
            rw [h10]
            clear h9 h10
            have HT2 : Hid ((r.ns.take (j + 1)).all (fun n => Ac.named L (Ac.bare n) a != Ac.bang n) = false) := Lib.hid (by rw [HTK.out]; simp)
            clear HTK HBG
            go_wp2
            go_roundw
            case rel => exact ⟨j + 1, by omega, by go_num, by rw [HT2.out], HBJ.out _ hS⟩
            case measure => simp [intOf] <;> omega
        · obtain rfl : j = pn := by omega
          have HM : Hid ((r.ns.take j).all (fun n => Ac.named L (Ac.bare n) a != Ac.bang n) = rm) := Lib.hid (by rw [HRM.out, List.take_of_length_le (by rw [hq4.1]; exact Nat.le_refl _)])
          generalize (r.ns.take j).all (fun n => Ac.named L (Ac.bare n) a != Ac.bang n) = mj at *
          obtain rfl := HM.out
          clear HM HRM HN2 HLN2
          cases mj with
          | true =>
            have HR := Lib.hid (HF2.out rfl)
            clear HF2 HS2
            go_wp2
            go_quiet (fail)
            go_wp2
            go_ret2
            exact ⟨by rw [HR.out]; rfl, bnext hal (below_drewN (HB4.out _ hbj) _) hal.size⟩
          | false =>
            have HA3 := Lib.hid (HS2.out rfl)
            clear HF2 HS2
            go_wp2
            go_roundw
            case rel => exact ⟨k + 1, by omega, by go_num, HA3, HB4.out _ hbj⟩
            case measure => simp [intOf] <;> omega
    · obtain rfl : k = rn := by omega
      have HR := Lib.hid (HE.out HA.out)
      have hk0 : ((k : Int) == 0) = decide (k = 0) := by rw [Bool.eq_iff_iff, beq_iff_eq, decide_eq_true_iff]; omega
      clear HNM HF HS HE HA HNA HLN
      go_wp2
      go_ret2
      exact ⟨by rw [HR.out]; rfl, bnext hal hbr hal.size⟩
end Go.Proofs.YtgkphjbcaidcpaaGreatDoor
set_option linter.unusedVariables false
set_option linter.unusedSimpArgs false
namespace Go.Proofs.YtgkphjbcaidcpaaGreatDoor
open Go.RowKit

set_option maxHeartbeats 400000 in
theorem copyTexts_own (A : Option Addr) (n c : Nat) (l : List (List UInt8)) (w : World) (hl : RdS w A n l) (hn : n ≤ 4194304) :
    Calls Tryz.prog 14 #[.slice A n c] w fun e w' => ∃ A' n' c', e = .returned (.slice A' n' c') ∧ OwnS w' w.heap.size (.slice A' n' c') l ∧ Below w.heap.size w w' := by
  go_enter Tryz.func14, Tryz.ntmps14
  go_wp2_with
    (at_builtin
     refine wp_appS rfl (.tmp 5) (.tmp 6) rfl w.heap.size (.slice (some ⟨w.heap.size, 0, none⟩) 0 0) [] rfl (OwnS.made w) A n c l rfl ?hr ?hby ?hbase ?_
     case hr => exact hl.step (alloc_below _ _)
     case hby => simp; omega
     case hbase => simp
     intro A1 n1 c1 w1 hown1 hb1 hn1)
  go_ret
  exact ⟨A1, n1, c1, rfl, hown1, (alloc_below _ _).trans hb1⟩
end Go.Proofs.YtgkphjbcaidcpaaGreatDoor
