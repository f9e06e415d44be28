/- Joined texts: The reference's line. The conditions stand in each line. -/
import Derived.Test.YtgkphjbcaidcpaaGreatDoorM21
import Derived.Deep.RegionLaw
set_option linter.unusedVariables false
set_option linter.unusedSimpArgs false
namespace Go.Proofs.YtgkphjbcaidcpaaGreatDoor
open Go.RowKit

set_option maxRecDepth 100000
theorem row_frz2 {w : World} {b : Nat} {cs : Array Value} {t : TypeId} (h : w.heap[b]? = some (.cells cs t (0, 0))) : w.frozen? ⟨b, 0, none⟩ = false ∧ w.frozen? ⟨b, 1, none⟩ = false := by
  simp [World.frozen?, h]
theorem LnOut.no {B : Nat} {w w' : World} {x : Ending} {E R : Option Addr} {en ec rn rc : Nat} (hx : x = .returned (.tuple #[rlV E en ec R rn rc, .bool false])) (hb : Below w.heap.size w w') : LnOut B w none x w' :=
  ⟨E, en, ec, R, rn, rc, hx, (fun _ h => by cases h), hb⟩
theorem below_two {w W : World} {B b : Nat} (h : Below B w W) (hB : B ≤ b) (u v : Value) : Below B w ((W.setCell ⟨b, 0, none⟩ u).setCell ⟨b, 1, none⟩ v) := (h.setCell (p := ⟨_, _, none⟩) hB _).setCell (p := ⟨_, _, none⟩) hB _
theorem rdS_tail {w : World} {g o n : Nat} {h : List UInt8} {r : List (List UInt8)} (hW : RdS w (some ⟨g, o, none⟩) (n + 1) (h :: r)) : RdS w (some ⟨g, o + 1, none⟩) n r := by
  refine ⟨by have := hW.1; simpa using this, by rw [strs_length]; have := hW.1; simp at this; omega, fun hn => ?_⟩
  obtain ⟨g9, o9, e, hg, hc⟩ := hW.2.2 (by omega)
  injection e with e
  injection e with e1 e2
  subst e1 e2
  refine ⟨g, o + 1, rfl, hg, fun j u hu => ?_⟩
  rw [Nat.add_assoc, Nat.add_comm 1 j]
  exact hc (j + 1) u hu
set_option maxHeartbeats 8000000 in
theorem rline_none (B : Nat) (E : Option Addr) (en ec : Nat) (R : Option Addr) (rn rc : Nat) (L : Ac.LS) (no : Nat) (h : List UInt8) (r : List (List UInt8)) (g' o' m mc : Nat) (w : World) (hL : RLB B w E en R rn L) (hBw : B ≤ w.heap.size) (hBg : B ≤ g') (hW : RdS w (some ⟨g', o', none⟩) (m + 1) (h :: r)) (hwd : ∀ s ∈ h :: r, 1 ≤ s.length ∧ s.length ≤ 4194304)
    (hm : m + 1 ≤ 4194304) (hmc : m ≤ mc ∧ mc + 1 ≤ maxLen) (h1 : h ≠ Ac.aclT) (h2 : h ≠ Ac.allowT) (h3 : h ≠ Ac.denyT) :
    Calls Tryz.prog 22 #[rlV E en ec R rn rc, .slice (some ⟨g', o', none⟩) (m + 1) (mc + 1), .int .i64 (no : Int)] w fun x w' => LnOut B w (Ac.line L no (h :: r)) x w' := by
  have hal0 := alloc_below w (.cells #[.slice E en ec, .slice R rn rc] 31)
  have hr0 := heap_alloc_new w (.cells #[.slice E en ec, .slice R rn rc] 31)
  have hal1 := alloc_below (w.alloc (.cells #[.slice E en ec, .slice R rn rc] 31)) (.cells #[.slice none 0 0, .slice none 0 0] 31)
  have hrz := heap_alloc_new (w.alloc (.cells #[.slice E en ec, .slice R rn rc] 31)) (.cells #[.slice none 0 0, .slice none 0 0] 31)
  have hrl := (hal1.block w.heap.size (by simp)).trans hr0
  have hal := bnext hal0 hal1 hal0.size
  rw [show (w.alloc (.cells #[.slice E en ec, .slice R rn rc] 31)).heap.size = w.heap.size + 1 by simp] at hrz
  obtain ⟨g9, o9, hA9, hg', hc'⟩ := hW.2.2 (by omega)
  injection hA9 with hA9
  injection hA9 with hA9 hA8
  subst hA9 hA8
  have hcw : w.cell? ⟨g', o', none⟩ = some (.string (bs h)) := hc' 0 _ rfl
  have d0 := (hal.cell (p := ⟨g', o', none⟩) hg').trans hcw
  rw [Ac.line_no h1 h2 h3]
  have q1 : (h == [97, 108, 108, 111, 119]) = false := by simpa [Ac.allowT] using h2
  have q2 : (h == [100, 101, 110, 121]) = false := by simpa [Ac.denyT] using h3
  have q3 : (h == [97, 99, 108]) = false := by simpa [Ac.aclT] using h1
  have q3b : (h != [97, 99, 108]) = true := by rw [bne, q3]; rfl
  unfold rlV
  clear hW hwd hc' hcw h1 h2 h3 hL
  go_enter Tryz.func22, Tryz.ntmps22
  go_upto_region 1 with fail
  generalize (w.alloc (.cells #[.slice E en ec, .slice R rn rc] 31)).alloc (.cells #[.slice none 0 0, .slice none 0 0] 31) = w2 at *
  obtain ⟨c0, c1⟩ := row_facts2w hrl
  obtain ⟨z0, z1⟩ := row_facts2w hrz
  obtain ⟨f0, f1⟩ := row_frz2 hrz
  go_wp2
  refine bodyPost_ret (v := .tuple #[.agg #[.slice E en ec, .slice R rn rc], .bool false]) (by simp [results, Tryz.results22, go_sem, z0, z1, c0, c1]) rfl ?_
  exact LnOut.no rfl (below_two hal (by omega) _ _)
set_option maxHeartbeats 8000000 in
theorem rline_rule_true (B : Nat) (E : Option Addr) (en ec : Nat) (R : Option Addr) (rn rc : Nat) (L : Ac.LS) (no : Nat) (h : List UInt8) (r : List (List UInt8)) (g' o' m mc : Nat) (w : World) (hL : RLB B w E en R rn L) (hBw : B ≤ w.heap.size) (hBg : B ≤ g') (hW : RdS w (some ⟨g', o', none⟩) (m + 1) (h :: r)) (hwd : ∀ s ∈ h :: r, 1 ≤ s.length ∧ s.length ≤ 4194304)
    (hm : m + 1 ≤ 4194304) (hmc : m ≤ mc ∧ mc + 1 ≤ maxLen) (hh : h = Ac.allowT) (hru : L.rus.length + 1 ≤ 4194304) :
    Calls Tryz.prog 22 #[rlV E en ec R rn rc, .slice (some ⟨g', o', none⟩) (m + 1) (mc + 1), .int .i64 (no : Int)] w fun x w' => LnOut B w (Ac.ruleL L no true r) x w' := by
  have hal0 := alloc_below w (.cells #[.slice E en ec, .slice R rn rc] 31)
  have hr0 := heap_alloc_new w (.cells #[.slice E en ec, .slice R rn rc] 31)
  have hal1 := alloc_below (w.alloc (.cells #[.slice E en ec, .slice R rn rc] 31)) (.cells #[.slice none 0 0, .slice none 0 0] 31)
  have hrz := heap_alloc_new (w.alloc (.cells #[.slice E en ec, .slice R rn rc] 31)) (.cells #[.slice none 0 0, .slice none 0 0] 31)
  have hrl := (hal1.block w.heap.size (by simp)).trans hr0
  have hal := bnext hal0 hal1 hal0.size
  rw [show (w.alloc (.cells #[.slice E en ec, .slice R rn rc] 31)).heap.size = w.heap.size + 1 by simp] at hrz
  obtain ⟨g9, o9, hA9, hg', hc'⟩ := hW.2.2 (by omega)
  injection hA9 with hA9
  injection hA9 with hA9 hA8
  subst hA9 hA8
  have hcw : w.cell? ⟨g', o', none⟩ = some (.string (bs h)) := hc' 0 _ rfl
  have d0 := (hal.cell (p := ⟨g', o', none⟩) hg').trans hcw
  have q1 : (h == [97, 108, 108, 111, 119]) = true := by rw [hh]; rfl
  have q2 : (h == [100, 101, 110, 121]) = false := by rw [hh]; rfl
  have hrl9 : r.length = m := by have := hW.1; simpa using this
  have HWD : Hid (∀ s ∈ r, 1 ≤ s.length ∧ s.length ≤ 4194304) := Lib.hid fun s hs => hwd s (List.mem_cons_of_mem _ hs)
  have HBD := Lib.hid fun k s (hk : r[k]? = some s) hn => Ac.ruleL_no (L := L) (no := no) (al := true) hk hn
  have HGD : Hid ((∀ s ∈ r, ∃ k, Ac.atI L.els (Ac.bare s) = some k) → Ac.ruleL L no true r = some ⟨L.els, L.rus ++ [⟨no, true, r⟩]⟩) := Lib.hid fun hk => Ac.ruleL_yes hk
  generalize Ac.ruleL L no true r = RES at *
  have HL2 := Lib.hid (hL.r.step hal)
  have hW2 := hW.step hal
  have HSN : Hid (∀ k s, r[k]? = some s → (∀ x ∈ r.take k, ∃ i, Ac.atI L.els (Ac.bare x) = some i) → (∃ i, Ac.atI L.els (Ac.bare s) = some i) → ∀ x ∈ r.take (k + 1), ∃ i, Ac.atI L.els (Ac.bare x) = some i) := Lib.hid fun k s hk h1 h2 x hx => by
    rw [take_snoc? hk] at hx
    rcases List.mem_append.1 hx with hx | hx
    · exact h1 x hx
    · rw [List.mem_singleton.1 hx]; exact h2
  have HAL : Hid (Below w.heap.size w ((w.alloc (.cells #[.slice E en ec, .slice R rn rc] 31)).alloc (.cells #[.slice none 0 0, .slice none 0 0] 31))) := Lib.hid hal
  have HLL := Lib.hid hL
  have HWW := Lib.hid hW
  unfold rlV
  clear hW hwd hc' hcw hh hL
  go_enter Tryz.func22, Tryz.ntmps22
  go_upto_region 1 with fail
  generalize (w.alloc (.cells #[.slice E en ec, .slice R rn rc] 31)).alloc (.cells #[.slice none 0 0, .slice none 0 0] 31) = w2 at *
  obtain ⟨c0, c1⟩ := row_facts2w hrl
  obtain ⟨z0, z1⟩ := row_facts2w hrz
  obtain ⟨f0, f1⟩ := row_frz2 hrz
  have hgl : w.heap.size < w2.heap.size := (Array.getElem?_eq_some_iff.1 hrl).1
  have hgz : w.heap.size + 1 < w2.heap.size := (Array.getElem?_eq_some_iff.1 hrz).1
  have hgw : g' < w2.heap.size := by omega
  have HRL : Hid (∀ W, Below w2.heap.size w2 W → W.heap[w.heap.size]? = some (.cells #[.slice E en ec, .slice R rn rc] 31 (0, 0))) := Lib.hid fun W hW => (hW.block _ hgl).trans hrl
  have HRZ : Hid (∀ W, Below w2.heap.size w2 W → W.heap[w.heap.size + 1]? = some (.cells #[.slice none 0 0, .slice none 0 0] 31 (0, 0))) := Lib.hid fun W hW => (hW.block _ hgz).trans hrz
  have HD0 : Hid (∀ W, Below w2.heap.size w2 W → W.cell? ⟨g', o', none⟩ = some (.string (bs h))) := Lib.hid fun W hW => (hW.cell (p := ⟨_, _, none⟩) hgw).trans d0
  clear hrl hrz hal hal0 hal1 hr0
  go_wp2
  go_loopw [8] (fun t wr => ∃ k : Nat, k ≤ m ∧ t = .int .i64 ((k : Int) + 1) ∧ Hid (∀ x ∈ r.take k, ∃ i, Ac.atI L.els (Ac.bare x) = some i) ∧ Below w2.heap.size w2 wr) (fun t _ => m + 1 - (intOf t).toNat)
  case atStart => exact ⟨0, by omega, rfl, Lib.hid (fun x hx => by simp at hx), Below.refl _ _⟩
  case round =>
    obtain ⟨k, hk, rfl, HA, hbr⟩ := hrel
    clear c0 c1 z0 z1 f0 f1 d0
    by_cases hlt : k < m
    · obtain ⟨g9, o9, s, hA9, hg9, HX, hcs⟩ := (hW2.step hbr).at_ (k := k + 1) (by omega)
      injection hA9 with hA9
      injection hA9 with hA9 hA8
      subst hA9 hA8
      have HX2 : Hid (r[k]? = some s) := Lib.hid (by have := HX.out; simpa using this)
      obtain ⟨ln1, ln2⟩ := HWD.out s (mem_of_get? HX2.out)
      have HBR := Lib.hid fun W => rbare_any s W (by omega) ln2
      have HAT := Lib.hid fun W hW => rat_any E en ec R rn rc L (Ac.bare s) W (HL2.out.step hW)
      have HCS : Hid (∀ W, Below wr.heap.size wr W → W.cell? ⟨g', o' + (k + 1), none⟩ = some (.string (bs s))) := Lib.hid fun W hW => (hW.cell (p := ⟨_, _, none⟩) hg9).trans hcs
      have HBJ : Hid (∀ W, Below wr.heap.size wr W → Below w2.heap.size w2 W) := Lib.hid fun W hW => bnext hbr hW hbr.size
      clear HX hcs hg9
      unfold rlV at HAT
      cases hat : Ac.atI L.els (Ac.bare s) with
      | none =>
        rw [hat] at HAT
        have HR := Lib.hid (HBD.out k s HX2.out hat)
        unfold numI at HAT
        simp only at HAT
        clear hat HBD HGD HSN HA HX2
        go_upto_region 5 with fail
        refine wp_region_detN (n := 8) (S := fun L W => Below wr.heap.size wr W) (by kernel_rfl) rfl (below_drewN (Below.refl _ _) 1) ?_
        refine' DetS.takeL (i := 0) (v := _) rfl (by kernel_rfl) (by kernel_rfl) (by kernel_rfl) (YS.pure rfl ?sd5_0 ?rd5_0) ?nd5_0
        case rd5_0 => intro L W hS; obtain ⟨k0, k1⟩ := row_facts2w (HRL.out W (HBJ.out W hS)); go_simp; first | rfl | skip
        case sd5_0 => exact fun L W _ h => h
        simp only [Act.put, List.setIfInBounds_toArray, List.set_cons_zero, List.set_cons_succ]
        refine' DetS.takeL (i := 1) (v := _) rfl (by kernel_rfl) (by kernel_rfl) (by kernel_rfl) (YS.pure rfl ?sd5_1 ?rd5_1) ?nd5_1
        case rd5_1 => intro L W hS;  go_simp; first | rfl | (rw [if_neg (by omega)] <;> rfl) | (rw [if_neg (by simp; omega)] <;> rfl) | (rw [if_neg (by simp)] <;> rfl)
        case sd5_1 => exact fun L W _ h => h
        simp only [Act.put, List.setIfInBounds_toArray, List.set_cons_zero, List.set_cons_succ]
        refine' DetS.takeL (i := 2) (v := _) rfl (by kernel_rfl) (by kernel_rfl) (by kernel_rfl) (YS.pure rfl ?sd5_2 ?rd5_2) ?nd5_2
        case rd5_2 => intro L W hS;  go_simp; first | rfl | (rw [if_neg (by omega)] <;> rfl) | (rw [if_neg (by simp; omega)] <;> rfl) | (rw [if_neg (by simp)] <;> rfl)
        case sd5_2 => exact fun L W _ h => h
        simp only [Act.put, List.setIfInBounds_toArray, List.set_cons_zero, List.set_cons_succ]
        refine' DetS.takeL (i := 3) (v := _) rfl (by kernel_rfl) (by kernel_rfl) (by kernel_rfl) (YS.pure rfl ?sd5_3 ?rd5_3) ?nd5_3
        case rd5_3 => intro L W hS;  go_simp; first | rfl | (rw [if_neg (by omega)] <;> rfl) | (rw [if_neg (by simp; omega)] <;> rfl) | (rw [if_neg (by simp)] <;> rfl)
        case sd5_3 => exact fun L W _ h => h
        simp only [Act.put, List.setIfInBounds_toArray, List.set_cons_zero, List.set_cons_succ]
        refine' DetS.takeL (i := 4) (v := _) rfl (by kernel_rfl) (by kernel_rfl) (by kernel_rfl) (YS.pure rfl ?sd5_4 ?rd5_4) ?nd5_4
        case rd5_4 => intro L W hS; have k0 := HCS.out W hS; go_simp; first | rfl | skip
        case sd5_4 => exact fun L W _ h => h
        simp only [Act.put, List.setIfInBounds_toArray, List.set_cons_zero, List.set_cons_succ]
        refine' DetS.takeL (i := 5) (v := _) rfl (by kernel_rfl) (by kernel_rfl) (by kernel_rfl) (YS.call (f := _) (args := _) rfl ?rd5_5 ?cd5_5) ?nd5_5
        case rd5_5 => intro W; go_simp; constructor <;> rfl
        case cd5_5 =>
          intro L W hL hS
          refine (HBR.out W).mono ?_
          rintro x w9 ⟨rfl, rfl⟩
          exact ⟨rfl, hS⟩
        simp only [Act.put, List.setIfInBounds_toArray, List.set_cons_zero, List.set_cons_succ]
        refine' DetS.takeL (i := 6) (v := _) rfl (by kernel_rfl) (by kernel_rfl) (by kernel_rfl) (YS.call (f := _) (args := _) rfl ?rd5_6 ?cd5_6) ?nd5_6
        case rd5_6 => intro W; go_simp; constructor <;> rfl
        case cd5_6 =>
          intro L W hL hS
          refine (HAT.out W (HBJ.out W hS)).mono ?_
          rintro x w9 ⟨rfl, hb9⟩
          exact ⟨rfl, bnext hS hb9 hS.size⟩
        simp only [Act.put, List.setIfInBounds_toArray, List.set_cons_zero, List.set_cons_succ]
        refine' DetS.takeL (i := 7) (v := _) rfl (by kernel_rfl) (by kernel_rfl) (by kernel_rfl) (YS.pure rfl ?sd5_7 ?rd5_7) ?nd5_7
        case rd5_7 => intro L W hS;  go_simp; first | rfl | (rw [if_neg (by omega)] <;> rfl) | (rw [if_neg (by simp; omega)] <;> rfl) | (rw [if_neg (by simp)] <;> rfl)
        case sd5_7 => exact fun L W _ h => h
        simp only [Act.put, List.setIfInBounds_toArray, List.set_cons_zero, List.set_cons_succ]
        refine DetS.done (by kernel_rfl) (fun W hS => ?_) _
        have hSW := HBJ.out _ hS
        obtain ⟨c0, c1⟩ := row_facts2w (HRL.out _ hSW)
        obtain ⟨z0, z1⟩ := row_facts2w (HRZ.out _ hSW)
        obtain ⟨f0, f1⟩ := row_frz2 (HRZ.out _ hSW)
        have HFB := Lib.hid (below_two (bnext HAL.out hSW HAL.out.size) (b := w.heap.size + 1) (by omega) (.slice E en ec) (.slice R rn rc))
        go_wp2
        refine bodyPost_ret (v := .tuple #[.agg #[.slice E en ec, .slice R rn rc], .bool false]) (by simp [results, Tryz.results22, go_sem, z0, z1, c0, c1]) rfl ?_
        rw [HR.out]
        exact LnOut.no rfl HFB.out
      | some i =>
        rw [hat] at HAT
        have HA2 := Lib.hid (HSN.out k s HX2.out HA.out ⟨i, hat⟩)
        have hi0 : ¬ ((i : Int) < 0) := by omega
        unfold numI at HAT
        simp only at HAT
        clear hat HBD HGD HSN HA HX2
        go_upto_region 5 with fail
        refine wp_region_detN (n := 8) (S := fun L W => Below wr.heap.size wr W) (by kernel_rfl) rfl (below_drewN (Below.refl _ _) 1) ?_
        refine' DetS.takeL (i := 0) (v := _) rfl (by kernel_rfl) (by kernel_rfl) (by kernel_rfl) (YS.pure rfl ?se5_0 ?re5_0) ?ne5_0
        case re5_0 => intro L W hS; obtain ⟨k0, k1⟩ := row_facts2w (HRL.out W (HBJ.out W hS)); go_simp; first | rfl | skip
        case se5_0 => exact fun L W _ h => h
        simp only [Act.put, List.setIfInBounds_toArray, List.set_cons_zero, List.set_cons_succ]
        refine' DetS.takeL (i := 1) (v := _) rfl (by kernel_rfl) (by kernel_rfl) (by kernel_rfl) (YS.pure rfl ?se5_1 ?re5_1) ?ne5_1
        case re5_1 => intro L W hS;  go_simp; first | rfl | (rw [if_neg (by omega)] <;> rfl) | (rw [if_neg (by simp; omega)] <;> rfl) | (rw [if_neg (by simp)] <;> rfl)
        case se5_1 => exact fun L W _ h => h
        simp only [Act.put, List.setIfInBounds_toArray, List.set_cons_zero, List.set_cons_succ]
        refine' DetS.takeL (i := 2) (v := _) rfl (by kernel_rfl) (by kernel_rfl) (by kernel_rfl) (YS.pure rfl ?se5_2 ?re5_2) ?ne5_2
        case re5_2 => intro L W hS;  go_simp; first | rfl | (rw [if_neg (by omega)] <;> rfl) | (rw [if_neg (by simp; omega)] <;> rfl) | (rw [if_neg (by simp)] <;> rfl)
        case se5_2 => exact fun L W _ h => h
        simp only [Act.put, List.setIfInBounds_toArray, List.set_cons_zero, List.set_cons_succ]
        refine' DetS.takeL (i := 3) (v := _) rfl (by kernel_rfl) (by kernel_rfl) (by kernel_rfl) (YS.pure rfl ?se5_3 ?re5_3) ?ne5_3
        case re5_3 => intro L W hS;  go_simp; first | rfl | (rw [if_neg (by omega)] <;> rfl) | (rw [if_neg (by simp; omega)] <;> rfl) | (rw [if_neg (by simp)] <;> rfl)
        case se5_3 => exact fun L W _ h => h
        simp only [Act.put, List.setIfInBounds_toArray, List.set_cons_zero, List.set_cons_succ]
        refine' DetS.takeL (i := 4) (v := _) rfl (by kernel_rfl) (by kernel_rfl) (by kernel_rfl) (YS.pure rfl ?se5_4 ?re5_4) ?ne5_4
        case re5_4 => intro L W hS; have k0 := HCS.out W hS; go_simp; first | rfl | skip
        case se5_4 => exact fun L W _ h => h
        simp only [Act.put, List.setIfInBounds_toArray, List.set_cons_zero, List.set_cons_succ]
        refine' DetS.takeL (i := 5) (v := _) rfl (by kernel_rfl) (by kernel_rfl) (by kernel_rfl) (YS.call (f := _) (args := _) rfl ?re5_5 ?ce5_5) ?ne5_5
        case re5_5 => intro W; go_simp; constructor <;> rfl
        case ce5_5 =>
          intro L W hL hS
          refine (HBR.out W).mono ?_
          rintro x w9 ⟨rfl, rfl⟩
          exact ⟨rfl, hS⟩
        simp only [Act.put, List.setIfInBounds_toArray, List.set_cons_zero, List.set_cons_succ]
        refine' DetS.takeL (i := 6) (v := _) rfl (by kernel_rfl) (by kernel_rfl) (by kernel_rfl) (YS.call (f := _) (args := _) rfl ?re5_6 ?ce5_6) ?ne5_6
        case re5_6 => intro W; go_simp; constructor <;> rfl
        case ce5_6 =>
          intro L W hL hS
          refine (HAT.out W (HBJ.out W hS)).mono ?_
          rintro x w9 ⟨rfl, hb9⟩
          exact ⟨rfl, bnext hS hb9 hS.size⟩
        simp only [Act.put, List.setIfInBounds_toArray, List.set_cons_zero, List.set_cons_succ]
        refine' DetS.takeL (i := 7) (v := _) rfl (by kernel_rfl) (by kernel_rfl) (by kernel_rfl) (YS.pure rfl ?se5_7 ?re5_7) ?ne5_7
        case re5_7 => intro L W hS;  go_simp; first | rfl | (rw [if_neg (by omega)] <;> rfl) | (rw [if_neg (by simp; omega)] <;> rfl) | (rw [if_neg (by simp)] <;> rfl)
        case se5_7 => exact fun L W _ h => h
        simp only [Act.put, List.setIfInBounds_toArray, List.set_cons_zero, List.set_cons_succ]
        refine DetS.done (by kernel_rfl) (fun W hS => ?_) _
        have hSW := HBJ.out _ hS
        go_wp2
        go_roundw
        case rel => exact ⟨k + 1, by omega, by go_num, HA2, hSW⟩
        case measure => simp [intOf] <;> omega
    · obtain rfl : k = m := by omega
      have HR := Lib.hid (HGD.out (fun s hs => HA.out s (by rw [List.take_of_length_le (by omega)]; exact hs)))
      clear HBD HGD HSN HA
      obtain ⟨prs, hRR, hOO, -, hAP⟩ := HLL.out.rus
      have hb2 := bnext HAL.out hbr HAL.out.size
      have hprl : prs.length ≤ 4194304 := by rw [hOO.1]; omega
      have hprn : prs.length = rn := hRR.1
      obtain ⟨c0, c1⟩ := row_facts2w (HRL.out _ hbr)
      have hsz2 := hbr.size
      go_upto_region 8 with fail
      have hOU := OwnU.made wr
      have halU := alloc_below wr (.cells #[] 63)
      have hb4 := bnext hbr halU hbr.size
      have hub4 := halU.size
      clear c0 c1
      generalize wr.alloc (.cells #[] 63) = w4 at *
      generalize wr.heap.size = ub at *
      obtain ⟨c0, c1⟩ := row_facts2w (HRL.out _ hb4)
      have hR4 := hRR.step (bnext HAL.out hb4 HAL.out.size)
      go_wp2_with
        (at_builtin
         refine wp_appU rfl (.tmp 40) (.tmp 42) rfl ub (.slice (some ⟨ub, 0, none⟩) 0 0) [] rfl hOU R rn rc prs rfl hR4 (by simp; omega) hub4 ?_
         intro A5 n5 c5 w5 ho5 hb5 hn5)
      rw [List.nil_append] at ho5
      clear c0 c1 hR4 hn5
      have hbw5 : Below w2.heap.size w2 w5 := hb4.trans (hb5.mono hsz2)
      have d0 := HD0.out w5 hbw5
      have hub5 : ub ≤ w5.heap.size := Nat.le_trans hub4 hb5.size
      have hg5 : g' < w5.heap.size := by omega
      by_cases hmc0 : mc = 0
      · subst hmc0
        obtain rfl : k = 0 := by omega
        obtain rfl : r = [] := List.eq_nil_of_length_eq_zero hrl9
        have HNS : Hid (RdS w (some ⟨g', o', none⟩) 0 []) := Lib.hid (RdS.nil _ _)
        have hal9 := (alloc_below w5 (.cells #[.int .i64 (no : Int), .bool true, .slice (some ⟨g', o', none⟩) 0 0] 63)).trans ((Below.refl _ _).drew)
        have hO9 := ho5.step hal9
        have hbw9 := bnext hbw5 hal9 hbw5.size
        have hB9 : ub ≤ (w5.alloc (.cells #[.int .i64 (no : Int), .bool true, .slice (some ⟨g', o', none⟩) 0 0] 63)).drew.heap.size := Nat.le_trans hub5 hal9.size
        have HG9 := Lib.hid (HRL.out _ hbw9)
        have HZ9 := Lib.hid (HRZ.out _ hbw9)
        have hRd := ruR_rd w5 ⟨no, true, (some ⟨g', o', none⟩), 0, 0⟩
        have hbb : w.heap.size + 1 < ub := by omega
        have HBW9 := Lib.hid hbw9
        have HBU := Lib.hid hbb
        clear hbw9
        go_region_law (refine step_appR rfl (.tmp 44) (.tmp 53) rfl ub (.slice A5 n5 c5) prs (by rfl) hO9 _ _ ⟨no, true, (some ⟨g', o', none⟩), 0, 0⟩ (by rfl) hRd hprl hB9 ?_; intro A7 n7 c7 w7 ho7 hb7 hn7; have hG7 := (hb7.block w.heap.size (Nat.lt_of_succ_lt HBU.out)).trans HG9.out; have hZ7 := (hb7.block (w.heap.size + 1) HBU.out).trans HZ9.out; obtain ⟨c0, c1⟩ := row_facts2w hG7; obtain ⟨z0, z1⟩ := row_facts2w hZ7; obtain ⟨f0, f1⟩ := row_frz2 hZ7; obtain ⟨e0, e1⟩ := row_frz2 hG7)
        all_goals
          have HBW := Lib.hid (bnext HAL.out (HBW9.out.trans (hb7.mono (Nat.le_trans hsz2 (Nat.le_refl _)))) HAL.out.size)
          have HO7 := Lib.hid ho7
          clear ho7 hb7 hn7 hRd hO9 ho5 hal9
          go_wp2
          refine bodyPost_ret (v := .tuple #[.agg #[.slice E en ec, .slice A7 n7 c7], .bool true]) (by simp [results, Tryz.results22, go_sem, z0, z1, c0, c1, f0, f1]) rfl ?_
          rw [HR.out]
          have hB3 := below_two (HBW.out.setCell (p := ⟨w.heap.size, 1, none⟩) (Nat.le_refl _) (.slice A7 n7 c7)) (b := w.heap.size + 1) (Nat.le_succ _) (.slice E en ec) (.slice A7 n7 c7)
          have hO3 := ((HO7.out.setJ (Nat.lt_of_succ_lt HBU.out) 1 (.slice A7 n7 c7)).setJ HBU.out 0 (.slice E en ec)).setJ HBU.out 1 (.slice A7 n7 c7)
          exact ⟨E, en, ec, A7, n7, c7, rfl, fun L' e9 => by injection e9 with e9; subst e9; exact HLL.out.rule hB3 hOO hAP hO3.rd (ab_own hO3 (by omega)) (Ab.at_ hBg) ⟨rfl, rfl, by show 0 ≤ 4194304; omega⟩ HNS.out hru, hB3⟩
      · have HNS : Hid (RdS w (some ⟨g', o' + 1, none⟩) k r) := Lib.hid (rdS_tail HWW.out)
        have hk1 : (1 : Int) ≤ (k : Int) + 1 := by omega
        have hal9 := (alloc_below w5 (.cells #[.int .i64 (no : Int), .bool true, .slice (some ⟨g', o' + 1, none⟩) k mc] 63)).trans ((Below.refl _ _).drew)
        have hO9 := ho5.step hal9
        have hbw9 := bnext hbw5 hal9 hbw5.size
        have hB9 : ub ≤ (w5.alloc (.cells #[.int .i64 (no : Int), .bool true, .slice (some ⟨g', o' + 1, none⟩) k mc] 63)).drew.heap.size := Nat.le_trans hub5 hal9.size
        have HG9 := Lib.hid (HRL.out _ hbw9)
        have HZ9 := Lib.hid (HRZ.out _ hbw9)
        have hRd := ruR_rd w5 ⟨no, true, (some ⟨g', o' + 1, none⟩), k, mc⟩
        have hbb : w.heap.size + 1 < ub := by omega
        have HBW9 := Lib.hid hbw9
        have HBU := Lib.hid hbb
        clear hbw9
        go_region_law (refine step_appR rfl (.tmp 44) (.tmp 53) rfl ub (.slice A5 n5 c5) prs (by rfl) hO9 _ _ ⟨no, true, (some ⟨g', o' + 1, none⟩), k, mc⟩ (by rfl) hRd hprl hB9 ?_; intro A7 n7 c7 w7 ho7 hb7 hn7; have hG7 := (hb7.block w.heap.size (Nat.lt_of_succ_lt HBU.out)).trans HG9.out; have hZ7 := (hb7.block (w.heap.size + 1) HBU.out).trans HZ9.out; obtain ⟨c0, c1⟩ := row_facts2w hG7; obtain ⟨z0, z1⟩ := row_facts2w hZ7; obtain ⟨f0, f1⟩ := row_frz2 hZ7; obtain ⟨e0, e1⟩ := row_frz2 hG7)
        all_goals
          have HBW := Lib.hid (bnext HAL.out (HBW9.out.trans (hb7.mono (Nat.le_trans hsz2 (Nat.le_refl _)))) HAL.out.size)
          have HO7 := Lib.hid ho7
          clear ho7 hb7 hn7 hRd hO9 ho5 hal9
          go_wp2
          refine bodyPost_ret (v := .tuple #[.agg #[.slice E en ec, .slice A7 n7 c7], .bool true]) (by simp [results, Tryz.results22, go_sem, z0, z1, c0, c1, f0, f1]) rfl ?_
          rw [HR.out]
          have hB3 := below_two (HBW.out.setCell (p := ⟨w.heap.size, 1, none⟩) (Nat.le_refl _) (.slice A7 n7 c7)) (b := w.heap.size + 1) (Nat.le_succ _) (.slice E en ec) (.slice A7 n7 c7)
          have hO3 := ((HO7.out.setJ (Nat.lt_of_succ_lt HBU.out) 1 (.slice A7 n7 c7)).setJ HBU.out 0 (.slice E en ec)).setJ HBU.out 1 (.slice A7 n7 c7)
          exact ⟨E, en, ec, A7, n7, c7, rfl, fun L' e9 => by injection e9 with e9; subst e9; exact HLL.out.rule hB3 hOO hAP hO3.rd (ab_own hO3 (by omega)) (Ab.at_ hBg) ⟨rfl, rfl, by show k ≤ 4194304; omega⟩ HNS.out hru, hB3⟩
set_option maxHeartbeats 8000000 in
theorem rline_rule_false (B : Nat) (E : Option Addr) (en ec : Nat) (R : Option Addr) (rn rc : Nat) (L : Ac.LS) (no : Nat) (h : List UInt8) (r : List (List UInt8)) (g' o' m mc : Nat) (w : World) (hL : RLB B w E en R rn L) (hBw : B ≤ w.heap.size) (hBg : B ≤ g') (hW : RdS w (some ⟨g', o', none⟩) (m + 1) (h :: r)) (hwd : ∀ s ∈ h :: r, 1 ≤ s.length ∧ s.length ≤ 4194304)
    (hm : m + 1 ≤ 4194304) (hmc : m ≤ mc ∧ mc + 1 ≤ maxLen) (hh : h = Ac.denyT) (hru : L.rus.length + 1 ≤ 4194304) :
    Calls Tryz.prog 22 #[rlV E en ec R rn rc, .slice (some ⟨g', o', none⟩) (m + 1) (mc + 1), .int .i64 (no : Int)] w fun x w' => LnOut B w (Ac.ruleL L no false r) x w' := by
  have hal0 := alloc_below w (.cells #[.slice E en ec, .slice R rn rc] 31)
  have hr0 := heap_alloc_new w (.cells #[.slice E en ec, .slice R rn rc] 31)
  have hal1 := alloc_below (w.alloc (.cells #[.slice E en ec, .slice R rn rc] 31)) (.cells #[.slice none 0 0, .slice none 0 0] 31)
  have hrz := heap_alloc_new (w.alloc (.cells #[.slice E en ec, .slice R rn rc] 31)) (.cells #[.slice none 0 0, .slice none 0 0] 31)
  have hrl := (hal1.block w.heap.size (by simp)).trans hr0
  have hal := bnext hal0 hal1 hal0.size
  rw [show (w.alloc (.cells #[.slice E en ec, .slice R rn rc] 31)).heap.size = w.heap.size + 1 by simp] at hrz
  obtain ⟨g9, o9, hA9, hg', hc'⟩ := hW.2.2 (by omega)
  injection hA9 with hA9
  injection hA9 with hA9 hA8
  subst hA9 hA8
  have hcw : w.cell? ⟨g', o', none⟩ = some (.string (bs h)) := hc' 0 _ rfl
  have d0 := (hal.cell (p := ⟨g', o', none⟩) hg').trans hcw
  have q1 : (h == [97, 108, 108, 111, 119]) = false := by rw [hh]; rfl
  have q2 : (h == [100, 101, 110, 121]) = true := by rw [hh]; rfl
  have hrl9 : r.length = m := by have := hW.1; simpa using this
  have HWD : Hid (∀ s ∈ r, 1 ≤ s.length ∧ s.length ≤ 4194304) := Lib.hid fun s hs => hwd s (List.mem_cons_of_mem _ hs)
  have HBD := Lib.hid fun k s (hk : r[k]? = some s) hn => Ac.ruleL_no (L := L) (no := no) (al := false) hk hn
  have HGD : Hid ((∀ s ∈ r, ∃ k, Ac.atI L.els (Ac.bare s) = some k) → Ac.ruleL L no false r = some ⟨L.els, L.rus ++ [⟨no, false, r⟩]⟩) := Lib.hid fun hk => Ac.ruleL_yes hk
  generalize Ac.ruleL L no false r = RES at *
  have HL2 := Lib.hid (hL.r.step hal)
  have hW2 := hW.step hal
  have HSN : Hid (∀ k s, r[k]? = some s → (∀ x ∈ r.take k, ∃ i, Ac.atI L.els (Ac.bare x) = some i) → (∃ i, Ac.atI L.els (Ac.bare s) = some i) → ∀ x ∈ r.take (k + 1), ∃ i, Ac.atI L.els (Ac.bare x) = some i) := Lib.hid fun k s hk h1 h2 x hx => by
    rw [take_snoc? hk] at hx
    rcases List.mem_append.1 hx with hx | hx
    · exact h1 x hx
    · rw [List.mem_singleton.1 hx]; exact h2
  have HAL : Hid (Below w.heap.size w ((w.alloc (.cells #[.slice E en ec, .slice R rn rc] 31)).alloc (.cells #[.slice none 0 0, .slice none 0 0] 31))) := Lib.hid hal
  have HLL := Lib.hid hL
  have HWW := Lib.hid hW
  unfold rlV
  clear hW hwd hc' hcw hh hL
  go_enter Tryz.func22, Tryz.ntmps22
  go_upto_region 1 with fail
  generalize (w.alloc (.cells #[.slice E en ec, .slice R rn rc] 31)).alloc (.cells #[.slice none 0 0, .slice none 0 0] 31) = w2 at *
  obtain ⟨c0, c1⟩ := row_facts2w hrl
  obtain ⟨z0, z1⟩ := row_facts2w hrz
  obtain ⟨f0, f1⟩ := row_frz2 hrz
  have hgl : w.heap.size < w2.heap.size := (Array.getElem?_eq_some_iff.1 hrl).1
  have hgz : w.heap.size + 1 < w2.heap.size := (Array.getElem?_eq_some_iff.1 hrz).1
  have hgw : g' < w2.heap.size := by omega
  have HRL : Hid (∀ W, Below w2.heap.size w2 W → W.heap[w.heap.size]? = some (.cells #[.slice E en ec, .slice R rn rc] 31 (0, 0))) := Lib.hid fun W hW => (hW.block _ hgl).trans hrl
  have HRZ : Hid (∀ W, Below w2.heap.size w2 W → W.heap[w.heap.size + 1]? = some (.cells #[.slice none 0 0, .slice none 0 0] 31 (0, 0))) := Lib.hid fun W hW => (hW.block _ hgz).trans hrz
  have HD0 : Hid (∀ W, Below w2.heap.size w2 W → W.cell? ⟨g', o', none⟩ = some (.string (bs h))) := Lib.hid fun W hW => (hW.cell (p := ⟨_, _, none⟩) hgw).trans d0
  clear hrl hrz hal hal0 hal1 hr0
  go_wp2
  go_loopw [8] (fun t wr => ∃ k : Nat, k ≤ m ∧ t = .int .i64 ((k : Int) + 1) ∧ Hid (∀ x ∈ r.take k, ∃ i, Ac.atI L.els (Ac.bare x) = some i) ∧ Below w2.heap.size w2 wr) (fun t _ => m + 1 - (intOf t).toNat)
  case atStart => exact ⟨0, by omega, rfl, Lib.hid (fun x hx => by simp at hx), Below.refl _ _⟩
  case round =>
    obtain ⟨k, hk, rfl, HA, hbr⟩ := hrel
    clear c0 c1 z0 z1 f0 f1 d0
    by_cases hlt : k < m
    · obtain ⟨g9, o9, s, hA9, hg9, HX, hcs⟩ := (hW2.step hbr).at_ (k := k + 1) (by omega)
      injection hA9 with hA9
      injection hA9 with hA9 hA8
      subst hA9 hA8
      have HX2 : Hid (r[k]? = some s) := Lib.hid (by have := HX.out; simpa using this)
      obtain ⟨ln1, ln2⟩ := HWD.out s (mem_of_get? HX2.out)
      have HBR := Lib.hid fun W => rbare_any s W (by omega) ln2
      have HAT := Lib.hid fun W hW => rat_any E en ec R rn rc L (Ac.bare s) W (HL2.out.step hW)
      have HCS : Hid (∀ W, Below wr.heap.size wr W → W.cell? ⟨g', o' + (k + 1), none⟩ = some (.string (bs s))) := Lib.hid fun W hW => (hW.cell (p := ⟨_, _, none⟩) hg9).trans hcs
      have HBJ : Hid (∀ W, Below wr.heap.size wr W → Below w2.heap.size w2 W) := Lib.hid fun W hW => bnext hbr hW hbr.size
      clear HX hcs hg9
      unfold rlV at HAT
      cases hat : Ac.atI L.els (Ac.bare s) with
      | none =>
        rw [hat] at HAT
        have HR := Lib.hid (HBD.out k s HX2.out hat)
        unfold numI at HAT
        simp only at HAT
        clear hat HBD HGD HSN HA HX2
        go_upto_region 5 with fail
        refine wp_region_detN (n := 8) (S := fun L W => Below wr.heap.size wr W) (by kernel_rfl) rfl (below_drewN (Below.refl _ _) 1) ?_
        refine' DetS.takeL (i := 0) (v := _) rfl (by kernel_rfl) (by kernel_rfl) (by kernel_rfl) (YS.pure rfl ?sd5_0 ?rd5_0) ?nd5_0
        case rd5_0 => intro L W hS; obtain ⟨k0, k1⟩ := row_facts2w (HRL.out W (HBJ.out W hS)); go_simp; first | rfl | skip
        case sd5_0 => exact fun L W _ h => h
        simp only [Act.put, List.setIfInBounds_toArray, List.set_cons_zero, List.set_cons_succ]
        refine' DetS.takeL (i := 1) (v := _) rfl (by kernel_rfl) (by kernel_rfl) (by kernel_rfl) (YS.pure rfl ?sd5_1 ?rd5_1) ?nd5_1
        case rd5_1 => intro L W hS;  go_simp; first | rfl | (rw [if_neg (by omega)] <;> rfl) | (rw [if_neg (by simp; omega)] <;> rfl) | (rw [if_neg (by simp)] <;> rfl)
        case sd5_1 => exact fun L W _ h => h
        simp only [Act.put, List.setIfInBounds_toArray, List.set_cons_zero, List.set_cons_succ]
        refine' DetS.takeL (i := 2) (v := _) rfl (by kernel_rfl) (by kernel_rfl) (by kernel_rfl) (YS.pure rfl ?sd5_2 ?rd5_2) ?nd5_2
        case rd5_2 => intro L W hS;  go_simp; first | rfl | (rw [if_neg (by omega)] <;> rfl) | (rw [if_neg (by simp; omega)] <;> rfl) | (rw [if_neg (by simp)] <;> rfl)
        case sd5_2 => exact fun L W _ h => h
        simp only [Act.put, List.setIfInBounds_toArray, List.set_cons_zero, List.set_cons_succ]
        refine' DetS.takeL (i := 3) (v := _) rfl (by kernel_rfl) (by kernel_rfl) (by kernel_rfl) (YS.pure rfl ?sd5_3 ?rd5_3) ?nd5_3
        case rd5_3 => intro L W hS;  go_simp; first | rfl | (rw [if_neg (by omega)] <;> rfl) | (rw [if_neg (by simp; omega)] <;> rfl) | (rw [if_neg (by simp)] <;> rfl)
        case sd5_3 => exact fun L W _ h => h
        simp only [Act.put, List.setIfInBounds_toArray, List.set_cons_zero, List.set_cons_succ]
        refine' DetS.takeL (i := 4) (v := _) rfl (by kernel_rfl) (by kernel_rfl) (by kernel_rfl) (YS.pure rfl ?sd5_4 ?rd5_4) ?nd5_4
        case rd5_4 => intro L W hS; have k0 := HCS.out W hS; go_simp; first | rfl | skip
        case sd5_4 => exact fun L W _ h => h
        simp only [Act.put, List.setIfInBounds_toArray, List.set_cons_zero, List.set_cons_succ]
        refine' DetS.takeL (i := 5) (v := _) rfl (by kernel_rfl) (by kernel_rfl) (by kernel_rfl) (YS.call (f := _) (args := _) rfl ?rd5_5 ?cd5_5) ?nd5_5
        case rd5_5 => intro W; go_simp; constructor <;> rfl
        case cd5_5 =>
          intro L W hL hS
          refine (HBR.out W).mono ?_
          rintro x w9 ⟨rfl, rfl⟩
          exact ⟨rfl, hS⟩
        simp only [Act.put, List.setIfInBounds_toArray, List.set_cons_zero, List.set_cons_succ]
        refine' DetS.takeL (i := 6) (v := _) rfl (by kernel_rfl) (by kernel_rfl) (by kernel_rfl) (YS.call (f := _) (args := _) rfl ?rd5_6 ?cd5_6) ?nd5_6
        case rd5_6 => intro W; go_simp; constructor <;> rfl
        case cd5_6 =>
          intro L W hL hS
          refine (HAT.out W (HBJ.out W hS)).mono ?_
          rintro x w9 ⟨rfl, hb9⟩
          exact ⟨rfl, bnext hS hb9 hS.size⟩
        simp only [Act.put, List.setIfInBounds_toArray, List.set_cons_zero, List.set_cons_succ]
        refine' DetS.takeL (i := 7) (v := _) rfl (by kernel_rfl) (by kernel_rfl) (by kernel_rfl) (YS.pure rfl ?sd5_7 ?rd5_7) ?nd5_7
        case rd5_7 => intro L W hS;  go_simp; first | rfl | (rw [if_neg (by omega)] <;> rfl) | (rw [if_neg (by simp; omega)] <;> rfl) | (rw [if_neg (by simp)] <;> rfl)
        case sd5_7 => exact fun L W _ h => h
        simp only [Act.put, List.setIfInBounds_toArray, List.set_cons_zero, List.set_cons_succ]
        refine DetS.done (by kernel_rfl) (fun W hS => ?_) _
        have hSW := HBJ.out _ hS
        obtain ⟨c0, c1⟩ := row_facts2w (HRL.out _ hSW)
        obtain ⟨z0, z1⟩ := row_facts2w (HRZ.out _ hSW)
        obtain ⟨f0, f1⟩ := row_frz2 (HRZ.out _ hSW)
        have HFB := Lib.hid (below_two (bnext HAL.out hSW HAL.out.size) (b := w.heap.size + 1) (by omega) (.slice E en ec) (.slice R rn rc))
        go_wp2
        refine bodyPost_ret (v := .tuple #[.agg #[.slice E en ec, .slice R rn rc], .bool false]) (by simp [results, Tryz.results22, go_sem, z0, z1, c0, c1]) rfl ?_
        rw [HR.out]
        exact LnOut.no rfl HFB.out
      | some i =>
        rw [hat] at HAT
        have HA2 := Lib.hid (HSN.out k s HX2.out HA.out ⟨i, hat⟩)
        have hi0 : ¬ ((i : Int) < 0) := by omega
        unfold numI at HAT
        simp only at HAT
        clear hat HBD HGD HSN HA HX2
        go_upto_region 5 with fail
        refine wp_region_detN (n := 8) (S := fun L W => Below wr.heap.size wr W) (by kernel_rfl) rfl (below_drewN (Below.refl _ _) 1) ?_
        refine' DetS.takeL (i := 0) (v := _) rfl (by kernel_rfl) (by kernel_rfl) (by kernel_rfl) (YS.pure rfl ?se5_0 ?re5_0) ?ne5_0
        case re5_0 => intro L W hS; obtain ⟨k0, k1⟩ := row_facts2w (HRL.out W (HBJ.out W hS)); go_simp; first | rfl | skip
        case se5_0 => exact fun L W _ h => h
        simp only [Act.put, List.setIfInBounds_toArray, List.set_cons_zero, List.set_cons_succ]
        refine' DetS.takeL (i := 1) (v := _) rfl (by kernel_rfl) (by kernel_rfl) (by kernel_rfl) (YS.pure rfl ?se5_1 ?re5_1) ?ne5_1
        case re5_1 => intro L W hS;  go_simp; first | rfl | (rw [if_neg (by omega)] <;> rfl) | (rw [if_neg (by simp; omega)] <;> rfl) | (rw [if_neg (by simp)] <;> rfl)
        case se5_1 => exact fun L W _ h => h
        simp only [Act.put, List.setIfInBounds_toArray, List.set_cons_zero, List.set_cons_succ]
        refine' DetS.takeL (i := 2) (v := _) rfl (by kernel_rfl) (by kernel_rfl) (by kernel_rfl) (YS.pure rfl ?se5_2 ?re5_2) ?ne5_2
        case re5_2 => intro L W hS;  go_simp; first | rfl | (rw [if_neg (by omega)] <;> rfl) | (rw [if_neg (by simp; omega)] <;> rfl) | (rw [if_neg (by simp)] <;> rfl)
        case se5_2 => exact fun L W _ h => h
        simp only [Act.put, List.setIfInBounds_toArray, List.set_cons_zero, List.set_cons_succ]
        refine' DetS.takeL (i := 3) (v := _) rfl (by kernel_rfl) (by kernel_rfl) (by kernel_rfl) (YS.pure rfl ?se5_3 ?re5_3) ?ne5_3
        case re5_3 => intro L W hS;  go_simp; first | rfl | (rw [if_neg (by omega)] <;> rfl) | (rw [if_neg (by simp; omega)] <;> rfl) | (rw [if_neg (by simp)] <;> rfl)
        case se5_3 => exact fun L W _ h => h
        simp only [Act.put, List.setIfInBounds_toArray, List.set_cons_zero, List.set_cons_succ]
        refine' DetS.takeL (i := 4) (v := _) rfl (by kernel_rfl) (by kernel_rfl) (by kernel_rfl) (YS.pure rfl ?se5_4 ?re5_4) ?ne5_4
        case re5_4 => intro L W hS; have k0 := HCS.out W hS; go_simp; first | rfl | skip
        case se5_4 => exact fun L W _ h => h
        simp only [Act.put, List.setIfInBounds_toArray, List.set_cons_zero, List.set_cons_succ]
        refine' DetS.takeL (i := 5) (v := _) rfl (by kernel_rfl) (by kernel_rfl) (by kernel_rfl) (YS.call (f := _) (args := _) rfl ?re5_5 ?ce5_5) ?ne5_5
        case re5_5 => intro W; go_simp; constructor <;> rfl
        case ce5_5 =>
          intro L W hL hS
          refine (HBR.out W).mono ?_
          rintro x w9 ⟨rfl, rfl⟩
          exact ⟨rfl, hS⟩
        simp only [Act.put, List.setIfInBounds_toArray, List.set_cons_zero, List.set_cons_succ]
        refine' DetS.takeL (i := 6) (v := _) rfl (by kernel_rfl) (by kernel_rfl) (by kernel_rfl) (YS.call (f := _) (args := _) rfl ?re5_6 ?ce5_6) ?ne5_6
        case re5_6 => intro W; go_simp; constructor <;> rfl
        case ce5_6 =>
          intro L W hL hS
          refine (HAT.out W (HBJ.out W hS)).mono ?_
          rintro x w9 ⟨rfl, hb9⟩
          exact ⟨rfl, bnext hS hb9 hS.size⟩
        simp only [Act.put, List.setIfInBounds_toArray, List.set_cons_zero, List.set_cons_succ]
        refine' DetS.takeL (i := 7) (v := _) rfl (by kernel_rfl) (by kernel_rfl) (by kernel_rfl) (YS.pure rfl ?se5_7 ?re5_7) ?ne5_7
        case re5_7 => intro L W hS;  go_simp; first | rfl | (rw [if_neg (by omega)] <;> rfl) | (rw [if_neg (by simp; omega)] <;> rfl) | (rw [if_neg (by simp)] <;> rfl)
        case se5_7 => exact fun L W _ h => h
        simp only [Act.put, List.setIfInBounds_toArray, List.set_cons_zero, List.set_cons_succ]
        refine DetS.done (by kernel_rfl) (fun W hS => ?_) _
        have hSW := HBJ.out _ hS
        go_wp2
        go_roundw
        case rel => exact ⟨k + 1, by omega, by go_num, HA2, hSW⟩
        case measure => simp [intOf] <;> omega
    · obtain rfl : k = m := by omega
      have HR := Lib.hid (HGD.out (fun s hs => HA.out s (by rw [List.take_of_length_le (by omega)]; exact hs)))
      clear HBD HGD HSN HA
      obtain ⟨prs, hRR, hOO, -, hAP⟩ := HLL.out.rus
      have hb2 := bnext HAL.out hbr HAL.out.size
      have hprl : prs.length ≤ 4194304 := by rw [hOO.1]; omega
      have hprn : prs.length = rn := hRR.1
      obtain ⟨c0, c1⟩ := row_facts2w (HRL.out _ hbr)
      have hsz2 := hbr.size
      go_upto_region 8 with fail
      have hOU := OwnU.made wr
      have halU := alloc_below wr (.cells #[] 63)
      have hb4 := bnext hbr halU hbr.size
      have hub4 := halU.size
      clear c0 c1
      generalize wr.alloc (.cells #[] 63) = w4 at *
      generalize wr.heap.size = ub at *
      obtain ⟨c0, c1⟩ := row_facts2w (HRL.out _ hb4)
      have hR4 := hRR.step (bnext HAL.out hb4 HAL.out.size)
      go_wp2_with
        (at_builtin
         refine wp_appU rfl (.tmp 40) (.tmp 42) rfl ub (.slice (some ⟨ub, 0, none⟩) 0 0) [] rfl hOU R rn rc prs rfl hR4 (by simp; omega) hub4 ?_
         intro A5 n5 c5 w5 ho5 hb5 hn5)
      rw [List.nil_append] at ho5
      clear c0 c1 hR4 hn5
      have hbw5 : Below w2.heap.size w2 w5 := hb4.trans (hb5.mono hsz2)
      have d0 := HD0.out w5 hbw5
      have hub5 : ub ≤ w5.heap.size := Nat.le_trans hub4 hb5.size
      have hg5 : g' < w5.heap.size := by omega
      by_cases hmc0 : mc = 0
      · subst hmc0
        obtain rfl : k = 0 := by omega
        obtain rfl : r = [] := List.eq_nil_of_length_eq_zero hrl9
        have HNS : Hid (RdS w (some ⟨g', o', none⟩) 0 []) := Lib.hid (RdS.nil _ _)
        have hal9 := (alloc_below w5 (.cells #[.int .i64 (no : Int), .bool false, .slice (some ⟨g', o', none⟩) 0 0] 63)).trans ((Below.refl _ _).drew)
        have hO9 := ho5.step hal9
        have hbw9 := bnext hbw5 hal9 hbw5.size
        have hB9 : ub ≤ (w5.alloc (.cells #[.int .i64 (no : Int), .bool false, .slice (some ⟨g', o', none⟩) 0 0] 63)).drew.heap.size := Nat.le_trans hub5 hal9.size
        have HG9 := Lib.hid (HRL.out _ hbw9)
        have HZ9 := Lib.hid (HRZ.out _ hbw9)
        have hRd := ruR_rd w5 ⟨no, false, (some ⟨g', o', none⟩), 0, 0⟩
        have hbb : w.heap.size + 1 < ub := by omega
        have HBW9 := Lib.hid hbw9
        have HBU := Lib.hid hbb
        clear hbw9
        go_region_law (refine step_appR rfl (.tmp 44) (.tmp 53) rfl ub (.slice A5 n5 c5) prs (by rfl) hO9 _ _ ⟨no, false, (some ⟨g', o', none⟩), 0, 0⟩ (by rfl) hRd hprl hB9 ?_; intro A7 n7 c7 w7 ho7 hb7 hn7; have hG7 := (hb7.block w.heap.size (Nat.lt_of_succ_lt HBU.out)).trans HG9.out; have hZ7 := (hb7.block (w.heap.size + 1) HBU.out).trans HZ9.out; obtain ⟨c0, c1⟩ := row_facts2w hG7; obtain ⟨z0, z1⟩ := row_facts2w hZ7; obtain ⟨f0, f1⟩ := row_frz2 hZ7; obtain ⟨e0, e1⟩ := row_frz2 hG7)
        all_goals
          have HBW := Lib.hid (bnext HAL.out (HBW9.out.trans (hb7.mono (Nat.le_trans hsz2 (Nat.le_refl _)))) HAL.out.size)
          have HO7 := Lib.hid ho7
          clear ho7 hb7 hn7 hRd hO9 ho5 hal9
          go_wp2
          refine bodyPost_ret (v := .tuple #[.agg #[.slice E en ec, .slice A7 n7 c7], .bool true]) (by simp [results, Tryz.results22, go_sem, z0, z1, c0, c1, f0, f1]) rfl ?_
          rw [HR.out]
          have hB3 := below_two (HBW.out.setCell (p := ⟨w.heap.size, 1, none⟩) (Nat.le_refl _) (.slice A7 n7 c7)) (b := w.heap.size + 1) (Nat.le_succ _) (.slice E en ec) (.slice A7 n7 c7)
          have hO3 := ((HO7.out.setJ (Nat.lt_of_succ_lt HBU.out) 1 (.slice A7 n7 c7)).setJ HBU.out 0 (.slice E en ec)).setJ HBU.out 1 (.slice A7 n7 c7)
          exact ⟨E, en, ec, A7, n7, c7, rfl, fun L' e9 => by injection e9 with e9; subst e9; exact HLL.out.rule hB3 hOO hAP hO3.rd (ab_own hO3 (by omega)) (Ab.at_ hBg) ⟨rfl, rfl, by show 0 ≤ 4194304; omega⟩ HNS.out hru, hB3⟩
      · have HNS : Hid (RdS w (some ⟨g', o' + 1, none⟩) k r) := Lib.hid (rdS_tail HWW.out)
        have hk1 : (1 : Int) ≤ (k : Int) + 1 := by omega
        have hal9 := (alloc_below w5 (.cells #[.int .i64 (no : Int), .bool false, .slice (some ⟨g', o' + 1, none⟩) k mc] 63)).trans ((Below.refl _ _).drew)
        have hO9 := ho5.step hal9
        have hbw9 := bnext hbw5 hal9 hbw5.size
        have hB9 : ub ≤ (w5.alloc (.cells #[.int .i64 (no : Int), .bool false, .slice (some ⟨g', o' + 1, none⟩) k mc] 63)).drew.heap.size := Nat.le_trans hub5 hal9.size
        have HG9 := Lib.hid (HRL.out _ hbw9)
        have HZ9 := Lib.hid (HRZ.out _ hbw9)
        have hRd := ruR_rd w5 ⟨no, false, (some ⟨g', o' + 1, none⟩), k, mc⟩
        have hbb : w.heap.size + 1 < ub := by omega
        have HBW9 := Lib.hid hbw9
        have HBU := Lib.hid hbb
        clear hbw9
        go_region_law (refine step_appR rfl (.tmp 44) (.tmp 53) rfl ub (.slice A5 n5 c5) prs (by rfl) hO9 _ _ ⟨no, false, (some ⟨g', o' + 1, none⟩), k, mc⟩ (by rfl) hRd hprl hB9 ?_; intro A7 n7 c7 w7 ho7 hb7 hn7; have hG7 := (hb7.block w.heap.size (Nat.lt_of_succ_lt HBU.out)).trans HG9.out; have hZ7 := (hb7.block (w.heap.size + 1) HBU.out).trans HZ9.out; obtain ⟨c0, c1⟩ := row_facts2w hG7; obtain ⟨z0, z1⟩ := row_facts2w hZ7; obtain ⟨f0, f1⟩ := row_frz2 hZ7; obtain ⟨e0, e1⟩ := row_frz2 hG7)
        all_goals
          have HBW := Lib.hid (bnext HAL.out (HBW9.out.trans (hb7.mono (Nat.le_trans hsz2 (Nat.le_refl _)))) HAL.out.size)
          have HO7 := Lib.hid ho7
          clear ho7 hb7 hn7 hRd hO9 ho5 hal9
          go_wp2
          refine bodyPost_ret (v := .tuple #[.agg #[.slice E en ec, .slice A7 n7 c7], .bool true]) (by simp [results, Tryz.results22, go_sem, z0, z1, c0, c1, f0, f1]) rfl ?_
          rw [HR.out]
          have hB3 := below_two (HBW.out.setCell (p := ⟨w.heap.size, 1, none⟩) (Nat.le_refl _) (.slice A7 n7 c7)) (b := w.heap.size + 1) (Nat.le_succ _) (.slice E en ec) (.slice A7 n7 c7)
          have hO3 := ((HO7.out.setJ (Nat.lt_of_succ_lt HBU.out) 1 (.slice A7 n7 c7)).setJ HBU.out 0 (.slice E en ec)).setJ HBU.out 1 (.slice A7 n7 c7)
          exact ⟨E, en, ec, A7, n7, c7, rfl, fun L' e9 => by injection e9 with e9; subst e9; exact HLL.out.rule hB3 hOO hAP hO3.rd (ab_own hO3 (by omega)) (Ab.at_ hBg) ⟨rfl, rfl, by show k ≤ 4194304; omega⟩ HNS.out hru, hB3⟩
end Go.Proofs.YtgkphjbcaidcpaaGreatDoor
