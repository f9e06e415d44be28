/- Joined texts: A pattern's holds; A pattern's holds, walked. The conditions stand in each line. -/
import Derived.Test.YtgkphjbcaidcpaaGreatDoorM13
import Derived.BigQuiet
import Derived.Deep.QuietTactic
set_option linter.unusedVariables false
set_option linter.unusedSimpArgs false
namespace Go.Proofs.YtgkphjbcaidcpaaGreatDoor
open Go.RowKit

set_option maxRecDepth 100000
theorem cutG_any (s p : List UInt8) (w : World) (hM : MaxL w) (hs : s.length ≤ 1073741824) :
    Calls Tryz.prog 64 #[.string (bs s), .string (bs p)] w fun e w' => e = .returned (.tuple #[.string (bs (Lib.cut s p).1), .string (bs (Lib.cut s p).2.1), .bool (Lib.cut s p).2.2]) ∧ ∃ q, w' = w.drewN q := by
  obtain ⟨m, hm⟩ := hM
  refine (Tryz.strings_Cut (bs s) (bs p) m w (by simp; omega) hm).mono fun e w' h => ⟨?_, h.2⟩
  have h1 := h.1
  rw [bs_data, bs_data] at h1
  exact h1
theorem Ac.cut_le (s p : List UInt8) : (Lib.cut s p).2.1.length ≤ s.length := by
  unfold Lib.cut
  split
  · simp only [List.length_drop]; omega
  · simp
theorem Ac.cutI_le (st : Bool × List UInt8) (p : List UInt8) : (Ac.cutI st p).2.length ≤ st.2.length := by
  unfold Ac.cutI
  split
  · exact Ac.cut_le _ _
  · simp
theorem Ac.gr_le : ∀ (mid : List (List UInt8)) (st : Bool × List UInt8), (Ac.gr mid st).2.length ≤ st.2.length
  | [], st => Nat.le_refl _
  | p :: r, st => Nat.le_trans (Ac.gr_le r (Ac.cutI st p)) (Ac.cutI_le st p)
theorem Ac.gr_snoc {mid : List (List UInt8)} {k : Nat} {p : List UInt8} (h : mid[k]? = some p) (st : Bool × List UInt8) : Ac.gr (mid.take (k + 1)) st = Ac.cutI (Ac.gr (mid.take k) st) p := by
  unfold Ac.gr; rw [take_snoc? h, List.foldl_append]; rfl
theorem cutIf_any (ok : Bool) (s p : List UInt8) (w : World) (hM : MaxL w) (hs : s.length ≤ 1073741824) :
    Calls Tryz.prog 131 #[.bool ok, .string (bs s), .string (bs p)] w fun e w' => (∃ x, e = .returned (.tuple #[.string x, .string (bs (Ac.cutI (ok, s) p).2), .bool (Ac.cutI (ok, s) p).1])) ∧ Below w.heap.size w w' := by
  have hC := cutG_any s p w hM hs
  cases ok with
  | false =>
    have HR : Hid (Ac.cutI (false, s) p = (false, [])) := Lib.hid rfl
    generalize Ac.cutI (false, s) p = R at *
    rw [HR.out]
    clear hC HR
    go_enter Tryz.func131, Tryz.ntmps131
    go_wp2
    refine bodyPost_ret (v := .tuple #[.string ⟨#[]⟩, .string (bs []), .bool false]) (by simp [results, Tryz.results131, go_sem]; rfl) rfl ⟨⟨_, rfl⟩, Below.refl _ _⟩
  | true =>
    have HR : Hid (Ac.cutI (true, s) p = ((Lib.cut s p).2.2, (Lib.cut s p).2.1)) := Lib.hid rfl
    rw [HR.out]
    clear HR
    generalize Lib.cut s p = C at *
    obtain ⟨c1, c2, c3⟩ := C
    dsimp only at hC ⊢
    go_enter Tryz.func131, Tryz.ntmps131
    go_wp2_with fail
    refine hC.mono ?_
    rintro e w1 ⟨rfl, q, rfl⟩
    go_wp2
    refine bodyPost_ret (v := .tuple #[.string (bs c1), .string (bs c2), .bool c3]) (by simp [results, Tryz.results131, go_sem]) rfl ⟨⟨_, rfl⟩, below_drewN (Below.refl _ _) _⟩
end Go.Proofs.YtgkphjbcaidcpaaGreatDoor
set_option linter.unusedVariables false
set_option linter.unusedSimpArgs false
namespace Go.Proofs.YtgkphjbcaidcpaaGreatDoor
open Go.RowKit

set_option maxRecDepth 100000
theorem row_facts6 {w : World} {b : Nat} {v0 v1 v2 v3 v4 v5 : Value} {t : TypeId} (h : w.heap[b]? = some (.cells #[v0, v1, v2, v3, v4, v5] t (0, 0))) :
    w.cell? ⟨b, 0, none⟩ = some v0 ∧ w.cell? ⟨b, 1, none⟩ = some v1 ∧ w.cell? ⟨b, 2, none⟩ = some v2 ∧ w.cell? ⟨b, 3, none⟩ = some v3 ∧ w.cell? ⟨b, 4, none⟩ = some v4 ∧ w.cell? ⟨b, 5, none⟩ = some v5 := by
  refine ⟨?_, ?_, ?_, ?_, ?_, ?_⟩ <;> (rw [cell_of_row _ _ _ _ _ _ h]; rfl)
theorem Ac.globP_one {p s : List UInt8} {x : List UInt8} (h : Ur.splitc 42 p = [x]) : Ac.gm p s = (preB x s && (cutP x s).isEmpty) := by
  rw [← Ac.glob_eq]
  unfold Ac.globP
  rw [h, if_pos (show [x].length = 1 from rfl)]
  show (preB x s && (List.drop x.length s).isEmpty) = _
  cases hp : preB x s with
  | false => rfl
  | true => unfold cutP; rw [if_pos hp]
theorem Ac.globP_two {p s : List UInt8} {ps : List (List UInt8)} (h : Ur.splitc 42 p = ps) (hl : ps.length ≠ 1) : Ac.gm p s = Ac.gend (Ac.gr ps.tail.dropLast (preB (ps.headD []) s, cutP (ps.headD []) s)) (ps.getLastD []) := by
  rw [← Ac.glob_eq]
  unfold Ac.globP
  rw [h, if_neg hl]
theorem mid_get {ps : List (List UInt8)} {k : Nat} (h : k < ps.length - 2) : ps.tail.dropLast[k]? = ps[k + 1]? := by
  rw [List.getElem?_dropLast, if_pos (by rw [List.length_tail]; omega), List.getElem?_tail]
theorem last_get {ps : List (List UInt8)} (h : 0 < ps.length) : ps[ps.length - 1]? = some (ps.getLastD []) := by
  rw [← List.getLast?_eq_getElem?, List.getLastD_eq_getLast?]
  cases hl : ps.getLast? with
  | none => rw [List.getLast?_eq_none_iff] at hl; subst hl; simp at h
  | some x => rfl
theorem head_get {ps : List (List UInt8)} (h : 0 < ps.length) : ps[0]? = some (ps.headD []) := by
  cases ps with
  | nil => simp at h
  | cons a r => rfl
set_option maxHeartbeats 4000000 in
theorem glob_any (v : List UInt8) (a : Ac.Ask) (w : World) (hM : MaxL w) (ha : AskOK a) (hv : v.length ≤ 4194304) :
    Calls Tryz.prog 130 #[.string (bs v), askV a] w fun e w' => e = .returned (.bool (Ac.gm v a.path)) ∧ Below w.heap.size w w' := by
  have hpl := ha.path
  have hb1 := alloc_below w (.cells #[.int .i64 a.src, .string (bs a.host), .int .i64 a.port, .string (bs a.meth), .string (bs a.path), .int .i64 a.now] 37)
  have hr1 := heap_alloc_new w (.cells #[.int .i64 a.src, .string (bs a.host), .int .i64 a.port, .string (bs a.meth), .string (bs a.path), .int .i64 a.now] 37)
  unfold askV
  have hS := fun W (hb : Below w.heap.size w W) => splitA_any v 42 W (maxl_b hM hb) (by omega)
  have HSL : Hid (∀ p ∈ Ur.splitc 42 v, p.length ≤ 4194304) := Lib.hid fun p hp => by have := Ac.split_mem_len 42 v p hp; omega
  have hpnl : (Ur.splitc 42 v).length ≤ 4194305 := by rw [Ur.splitc_len]; have := List.count_le_length (a := (42 : UInt8)) (l := v); omega
  have hpos : 0 < (Ur.splitc 42 v).length := by rw [Ur.splitc_len]; omega
  have H1 := Lib.hid fun x (h : Ur.splitc 42 v = [x]) => Ac.globP_one (s := a.path) h
  have H2 := Lib.hid fun (h : (Ur.splitc 42 v).length ≠ 1) => Ac.globP_two (s := a.path) (ps := Ur.splitc 42 v) rfl h
  generalize Ac.gm v a.path = R at *
  generalize Ur.splitc 42 v = PS at *
  have HHD := Lib.hid (head_get hpos)
  have HLA := Lib.hid (last_get hpos)
  have hxl : (PS.headD []).length ≤ 4194304 := HSL.out _ (mem_of_get? HHD.out)
  have hzl : (PS.getLastD []).length ≤ 4194304 := HSL.out _ (mem_of_get? HLA.out)
  generalize hX : PS.headD [] = X at *
  generalize hZ : PS.getLastD [] = Z at *
  clear hX hZ
  have HCP : Hid (∀ W, Calls Tryz.prog 39 #[.string (bs a.path), .string (bs X)] W fun e w' => e = .returned (.tuple #[.string (bs (cutP X a.path)), .bool (preB X a.path)]) ∧ w' = W) := Lib.hid fun W => (cutPrefix_any a.path X W (by omega) (by omega)).mono fun _ _ h => ⟨h.1, h.2.symm⟩
  have hcl := cutP_le X a.path
  generalize hS0 : cutP X a.path = S0 at *
  have HS0 := Lib.hid hS0
  generalize hok0 : preB X a.path = ok0 at *
  have HK0 := Lib.hid hok0
  clear hS0 hok0
  generalize hN : PS.length = N at *
  have HN := Lib.hid hN
  clear hN
  go_enter Tryz.func130, Tryz.ntmps130
  go_upto_region 1 with fail
  generalize w.alloc (.cells #[.int .i64 a.src, .string (bs a.host), .int .i64 a.port, .string (bs a.meth), .string (bs a.path), .int .i64 a.now] 37) = w1 at *
  go_wp2_with fail
  refine (hS _ hb1).mono ?_
  rintro e w2 ⟨rfl, hR, hbq⟩
  have hr2 : w2.heap[w.heap.size]? = _ := (hbq.block w.heap.size (Array.getElem?_eq_some_iff.1 hr1).1).trans hr1
  replace hb1 := bnext hb1 hbq hb1.size
  generalize w1.heap.size = g at *
  clear hbq hS hr1
  obtain ⟨a0, a1, a2, a3, a4, a5⟩ := row_facts6 hr2
  obtain ⟨g', o', x0, hA, hg, HX0, hc0⟩ := hR.at_ (k := 0) (by omega)
  injection hA with hA
  injection hA with hA1 hA2
  subst hA1 hA2
  have hx0 : x0 = X := by have h1 := HX0.out; rw [HHD.out] at h1; exact (Option.some.inj h1).symm
  subst hx0
  simp only [Nat.zero_add] at hc0
  go_wp2_with fail
  go_quiet ((go_at_call 39; exact Calls.quiet_of_same (HCP.out _)))
  clear a0 a1 a2 a3 a4 a5 HCP hc0 hr2
  by_cases h1 : N = 1
  · obtain ⟨x, hx⟩ := List.length_eq_one_iff.1 (HN.out.trans h1)
    have hxX : x = x0 := by have h2 := HHD.out; rw [hx] at h2; exact Option.some.inj h2
    have HR : Hid (R = (ok0 && S0.isEmpty)) := Lib.hid (by have := H1.out x hx; rw [hxX, HS0.out, HK0.out] at this; exact this)
    have g1 : ((N : Int) == 1) = true := by rw [beq_iff_eq]; omega
    clear H1 H2 h1 hx hxX HX0
    cases ok0 with
    | false =>
      go_wp2
      go_ret
      exact ⟨by rw [HR.out]; rfl, below_drewN hb1 _⟩
    | true =>
      go_wp2
      go_ret
      exact ⟨by rw [HR.out]; rfl, below_drewN hb1 _⟩
  · have HR := Lib.hid (H2.out h1)
    have g1 : ((N : Int) == 1) = false := by rw [beq_eq_false_iff_ne]; omega
    have hN2 : 2 ≤ N := by omega
    clear H1 H2 h1 HX0
    obtain ⟨g', o', z0, hA, hg2, HZ0, hcz⟩ := hR.at_ (k := N - 1) (by omega)
    injection hA with hA
    injection hA with hA1 hA2
    subst hA1 hA2
    have hz0 : z0 = Z := by have h1 := HZ0.out; rw [HLA.out] at h1; exact (Option.some.inj h1).symm
    subst hz0
    simp only [Nat.zero_add] at hcz
    have hNl : N ≤ 4194305 := hpnl
    obtain ⟨K, rfl⟩ : ∃ K, N = K + 2 := ⟨N - 2, by omega⟩
    rw [show K + 2 - 1 = K + 1 by omega] at hcz
    have hn1 : ((K + 2 : Nat) : Int) - 1 = ((K + 1 : Nat) : Int) := by omega
    go_upto_region 6 with fail
    clear HZ0 hcz
    have HMID : Hid (∀ k, k < K → PS.tail.dropLast[k]? = PS[k + 1]?) := Lib.hid fun k hk => mid_get (by rw [HN.out]; omega)
    have HMA : Hid (PS.tail.dropLast.take K = PS.tail.dropLast) := Lib.hid (List.take_of_length_le (by rw [List.length_dropLast, List.length_tail, HN.out]; omega))
    have HG0 : Hid (Ac.gr (PS.tail.dropLast.take 0) (ok0, S0) = (ok0, S0)) := Lib.hid rfl
    have HGS := Lib.hid fun k p (h : PS.tail.dropLast[k]? = some p) => Ac.gr_snoc h (ok0, S0)
    have HGL : Hid (∀ k, (Ac.gr (PS.tail.dropLast.take k) (ok0, S0)).2.length ≤ 4194304) := Lib.hid fun k => by have := Ac.gr_le (PS.tail.dropLast.take k) (ok0, S0); simp only at this; omega
    generalize PS.tail.dropLast = MID at *
    have hwb : Below w.heap.size w (w2.drewN 1) := below_drewN hb1 1
    go_wp2_with fail
    go_loopw [6, 7, 42] (fun s6 s7 t wr => ∃ k : Nat, k ≤ K ∧ t = .int .i64 (k : Int) ∧ s6 = .string (bs (Ac.gr (MID.take k) (ok0, S0)).2) ∧ s7 = .bool (Ac.gr (MID.take k) (ok0, S0)).1 ∧ Below w.heap.size w wr ∧ Below w2.heap.size w2 wr) (fun _ _ t _ => K - (intOf t).toNat)
    case atStart => exact ⟨0, by omega, rfl, by rw [HG0.out], by rw [HG0.out], below_drewN hb1 _, below_drewN (Below.refl _ _) _⟩
    case round =>
      obtain ⟨k, hk, rfl, rfl, rfl, hbr, hbr2⟩ := hrel
      have hgl := HGL.out k
      by_cases hlt : k < K
      · obtain ⟨g', o', p, hA, hg3, HP, hcp⟩ := (hR.step hbr2).at_ (k := k + 1) (by omega)
        injection hA with hA
        injection hA with hA1 hA2
        subst hA1 hA2
        have hpl2 := HSL.out p (mem_of_get? HP.out)
        have HG1 := Lib.hid (HGS.out k p (by rw [HMID.out k hlt]; exact HP.out))
        have hC := fun W (hb : Below w.heap.size w W) => cutIf_any (Ac.gr (MID.take k) (ok0, S0)).1 (Ac.gr (MID.take k) (ok0, S0)).2 p W (maxl_b hM hb) (by omega)
        have HG2 := Lib.hid (HGL.out (k + 1))
        rw [show ((Ac.gr (MID.take k) (ok0, S0)).1, (Ac.gr (MID.take k) (ok0, S0)).2) = Ac.gr (MID.take k) (ok0, S0) from rfl, ← HG1.out] at hC
        generalize hG1 : Ac.gr (MID.take (k + 1)) (ok0, S0) = G1 at *
        have HGE := Lib.hid hG1
        clear hG1
        generalize Ac.gr (MID.take k) (ok0, S0) = G0 at *
        rw [Nat.zero_add, Nat.add_comm k 1] at hcp
        go_wp2_with fail
        refine (hC _ hbr).mono ?_
        rintro e w3 ⟨⟨x, rfl⟩, hbq⟩
        obtain ⟨b1, s1⟩ := G1
        dsimp only at hC HG2 ⊢
        clear hC HG1 hcp HP
        go_wp2
        go_roundw
        case rel => exact ⟨k + 1, by omega, by go_num, by rw [HGE.out], by rw [HGE.out], bnext hbr hbq hbr.size, bnext hbr2 hbq hbr2.size⟩
        case measure => simp [intOf]; omega
      · obtain rfl : k = K := by omega
        rw [HMA.out] at hgl
        rw [HMA.out]
        clear HMID HMA HGS HG0 HGL
        generalize Ac.gr MID (ok0, S0) = G0 at *
        obtain ⟨b1, s1⟩ := G0
        dsimp only at hgl ⊢
        cases b1 with
        | false =>
          have HR2 : Hid (R = false) := Lib.hid (by rw [HR.out]; rfl)
          go_wp2
          go_ret
          exact ⟨by rw [HR2.out]; rfl, hbr⟩
        | true =>
          have HR2 : Hid (R = sufB z0 s1) := Lib.hid (by rw [HR.out]; unfold Ac.gend; rfl)
          have hSU := fun W => shasSuffix_any s1 z0 W (by omega) (by omega)
          generalize sufB z0 s1 = SU at *
          go_wp2_with fail
          refine (hSU _).mono ?_
          rintro e w3 ⟨rfl, hw⟩
          subst hw
          go_wp2
          go_ret
          exact ⟨by rw [HR2.out]; rfl, hbr⟩
end Go.Proofs.YtgkphjbcaidcpaaGreatDoor
