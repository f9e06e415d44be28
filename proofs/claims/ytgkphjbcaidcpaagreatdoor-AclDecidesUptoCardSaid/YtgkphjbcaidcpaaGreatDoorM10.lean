/- Joined texts: A pattern's holds, walked; What an element holds for; A region in which every operation yields a fixed value in every world that keeps an invariant may be walked in one order. Plain theory over Derived.OrdersHeld. The conditions stand in each line. -/
import Derived.Test.YtgkphjbcaidcpaaGreatDoorM6
import Derived.Test.YtgkphjbcaidcpaaGreatDoorM9
import Derived.Handy
import Derived.Deep.RegionHeld3
set_option linter.unusedVariables false
set_option linter.unusedSimpArgs false
namespace Go.Proofs.YtgkphjbcaidcpaaGreatDoor
open Go.RowKit

set_option maxRecDepth 100000
theorem row_facts6 {w : World} {b : Nat} {v0 v1 v2 v3 v4 v5 : Value} {t : TypeId} (h : w.heap[b]? = some (.cells #[v0, v1, v2, v3, v4, v5] t (0, 0))) :
    w.cell? ⟨b, 0, none⟩ = some v0 ∧ w.cell? ⟨b, 1, none⟩ = some v1 ∧ w.cell? ⟨b, 2, none⟩ = some v2 ∧ w.cell? ⟨b, 3, none⟩ = some v3 ∧ w.cell? ⟨b, 4, none⟩ = some v4 ∧ w.cell? ⟨b, 5, none⟩ = some v5 := by
  refine ⟨?_, ?_, ?_, ?_, ?_, ?_⟩ <;> (rw [cell_of_row _ _ _ _ _ _ h]; rfl)
theorem Ac.globP_one {p s : List UInt8} {x : List UInt8} (h : Ur.splitc 42 p = [x]) : Ac.gm p s = (preB x s && (cutP x s).isEmpty) := by
  rw [← Ac.glob_eq]
  unfold Ac.globP
  rw [h, if_pos (show [x].length = 1 from rfl)]
  show (preB x s && (List.drop x.length s).isEmpty) = _
  cases hp : preB x s with
  | false => rfl
  | true => unfold cutP; rw [if_pos hp]
theorem Ac.globP_two {p s : List UInt8} {ps : List (List UInt8)} (h : Ur.splitc 42 p = ps) (hl : ps.length ≠ 1) : Ac.gm p s = Ac.gend (Ac.gr ps.tail.dropLast (preB (ps.headD []) s, cutP (ps.headD []) s)) (ps.getLastD []) := by
  rw [← Ac.glob_eq]
  unfold Ac.globP
  rw [h, if_neg hl]
theorem mid_get {ps : List (List UInt8)} {k : Nat} (h : k < ps.length - 2) : ps.tail.dropLast[k]? = ps[k + 1]? := by
  rw [List.getElem?_dropLast, if_pos (by rw [List.length_tail]; omega), List.getElem?_tail]
theorem last_get {ps : List (List UInt8)} (h : 0 < ps.length) : ps[ps.length - 1]? = some (ps.getLastD []) := by
  rw [← List.getLast?_eq_getElem?, List.getLastD_eq_getLast?]
  cases hl : ps.getLast? with
  | none => rw [List.getLast?_eq_none_iff] at hl; subst hl; simp at h
  | some x => rfl
theorem head_get {ps : List (List UInt8)} (h : 0 < ps.length) : ps[0]? = some (ps.headD []) := by
  cases ps with
  | nil => simp at h
  | cons a r => rfl
set_option maxHeartbeats 4000000 in
theorem glob_any (v : List UInt8) (a : Ac.Ask) (w : World) (hM : MaxL w) (ha : AskOK a) (hv : v.length ≤ 4194304) :
    Calls Tryz.prog 130 #[.string (bs v), askV a] w fun e w' => e = .returned (.bool (Ac.gm v a.path)) ∧ Below w.heap.size w w' := by
  have hpl := ha.path
  have hb1 := alloc_below w (.cells #[.int .i64 a.src, .string (bs a.host), .int .i64 a.port, .string (bs a.meth), .string (bs a.path), .int .i64 a.now] 37)
  have hr1 := heap_alloc_new w (.cells #[.int .i64 a.src, .string (bs a.host), .int .i64 a.port, .string (bs a.meth), .string (bs a.path), .int .i64 a.now] 37)
  unfold askV
  have hS := fun W (hb : Below w.heap.size w W) => splitA_any v 42 W (maxl_b hM hb) (by omega)
  have HSL : Hid (∀ p ∈ Ur.splitc 42 v, p.length ≤ 4194304) := Lib.hid fun p hp => by have := Ac.split_mem_len 42 v p hp; omega
  have hpnl : (Ur.splitc 42 v).length ≤ 4194305 := by rw [Ur.splitc_len]; have := List.count_le_length (a := (42 : UInt8)) (l := v); omega
  have hpos : 0 < (Ur.splitc 42 v).length := by rw [Ur.splitc_len]; omega
  have H1 := Lib.hid fun x (h : Ur.splitc 42 v = [x]) => Ac.globP_one (s := a.path) h
  have H2 := Lib.hid fun (h : (Ur.splitc 42 v).length ≠ 1) => Ac.globP_two (s := a.path) (ps := Ur.splitc 42 v) rfl h
  generalize Ac.gm v a.path = R at *
  generalize Ur.splitc 42 v = PS at *
  have HHD := Lib.hid (head_get hpos)
  have HLA := Lib.hid (last_get hpos)
  have hxl : (PS.headD []).length ≤ 4194304 := HSL.out _ (mem_of_get? HHD.out)
  have hzl : (PS.getLastD []).length ≤ 4194304 := HSL.out _ (mem_of_get? HLA.out)
  generalize hX : PS.headD [] = X at *
  generalize hZ : PS.getLastD [] = Z at *
  clear hX hZ
  have HCP : Hid (∀ W, Calls Tryz.prog 39 #[.string (bs a.path), .string (bs X)] W fun e w' => e = .returned (.tuple #[.string (bs (cutP X a.path)), .bool (preB X a.path)]) ∧ w' = W) := Lib.hid fun W => (cutPrefix_any a.path X W (by omega) (by omega)).mono fun _ _ h => ⟨h.1, h.2.symm⟩
  have hcl := cutP_le X a.path
  generalize hS0 : cutP X a.path = S0 at *
  have HS0 := Lib.hid hS0
  generalize hok0 : preB X a.path = ok0 at *
  have HK0 := Lib.hid hok0
  clear hS0 hok0
  generalize hN : PS.length = N at *
  have HN := Lib.hid hN
  clear hN
  go_enter Tryz.func130, Tryz.ntmps130
  go_upto_region 1 with fail
  generalize w.alloc (.cells #[.int .i64 a.src, .string (bs a.host), .int .i64 a.port, .string (bs a.meth), .string (bs a.path), .int .i64 a.now] 37) = w1 at *
  go_wp2_with fail
  refine (hS _ hb1).mono ?_
  rintro e w2 ⟨rfl, hR, hbq⟩
  have hr2 : w2.heap[w.heap.size]? = _ := (hbq.block w.heap.size (Array.getElem?_eq_some_iff.1 hr1).1).trans hr1
  replace hb1 := bnext hb1 hbq hb1.size
  generalize w1.heap.size = g at *
  clear hbq hS hr1
  obtain ⟨a0, a1, a2, a3, a4, a5⟩ := row_facts6 hr2
  obtain ⟨g', o', x0, hA, hg, HX0, hc0⟩ := hR.at_ (k := 0) (by omega)
  injection hA with hA
  injection hA with hA1 hA2
  subst hA1 hA2
  have hx0 : x0 = X := by have h1 := HX0.out; rw [HHD.out] at h1; exact (Option.some.inj h1).symm
  subst hx0
  simp only [Nat.zero_add] at hc0
  go_wp2_with fail
  go_quiet ((go_at_call 39; exact Calls.quiet_of_same (HCP.out _)))
  clear a0 a1 a2 a3 a4 a5 HCP hc0 hr2
  by_cases h1 : N = 1
  · obtain ⟨x, hx⟩ := List.length_eq_one_iff.1 (HN.out.trans h1)
    have hxX : x = x0 := by have h2 := HHD.out; rw [hx] at h2; exact Option.some.inj h2
    have HR : Hid (R = (ok0 && S0.isEmpty)) := Lib.hid (by have := H1.out x hx; rw [hxX, HS0.out, HK0.out] at this; exact this)
    have g1 : ((N : Int) == 1) = true := by rw [beq_iff_eq]; omega
    clear H1 H2 h1 hx hxX HX0
    cases ok0 with
    | false =>
      go_wp2
      go_ret
      exact ⟨by rw [HR.out]; rfl, below_drewN hb1 _⟩
    | true =>
      go_wp2
      go_ret
      exact ⟨by rw [HR.out]; rfl, below_drewN hb1 _⟩
  · have HR := Lib.hid (H2.out h1)
    have g1 : ((N : Int) == 1) = false := by rw [beq_eq_false_iff_ne]; omega
    have hN2 : 2 ≤ N := by omega
    clear H1 H2 h1 HX0
    obtain ⟨g', o', z0, hA, hg2, HZ0, hcz⟩ := hR.at_ (k := N - 1) (by omega)
    injection hA with hA
    injection hA with hA1 hA2
    subst hA1 hA2
    have hz0 : z0 = Z := by have h1 := HZ0.out; rw [HLA.out] at h1; exact (Option.some.inj h1).symm
    subst hz0
    simp only [Nat.zero_add] at hcz
    have hNl : N ≤ 4194305 := hpnl
    obtain ⟨K, rfl⟩ : ∃ K, N = K + 2 := ⟨N - 2, by omega⟩
    rw [show K + 2 - 1 = K + 1 by omega] at hcz
    have hn1 : ((K + 2 : Nat) : Int) - 1 = ((K + 1 : Nat) : Int) := by omega
    go_upto_region 6 with fail
    clear HZ0 hcz
    have HMID : Hid (∀ k, k < K → PS.tail.dropLast[k]? = PS[k + 1]?) := Lib.hid fun k hk => mid_get (by rw [HN.out]; omega)
    have HMA : Hid (PS.tail.dropLast.take K = PS.tail.dropLast) := Lib.hid (List.take_of_length_le (by rw [List.length_dropLast, List.length_tail, HN.out]; omega))
    have HG0 : Hid (Ac.gr (PS.tail.dropLast.take 0) (ok0, S0) = (ok0, S0)) := Lib.hid rfl
    have HGS := Lib.hid fun k p (h : PS.tail.dropLast[k]? = some p) => Ac.gr_snoc h (ok0, S0)
    have HGL : Hid (∀ k, (Ac.gr (PS.tail.dropLast.take k) (ok0, S0)).2.length ≤ 4194304) := Lib.hid fun k => by have := Ac.gr_le (PS.tail.dropLast.take k) (ok0, S0); simp only at this; omega
    generalize PS.tail.dropLast = MID at *
    have hwb : Below w.heap.size w (w2.drewN 1) := below_drewN hb1 1
    go_wp2_with fail
    go_loopw [6, 7, 42] (fun s6 s7 t wr => ∃ k : Nat, k ≤ K ∧ t = .int .i64 (k : Int) ∧ s6 = .string (bs (Ac.gr (MID.take k) (ok0, S0)).2) ∧ s7 = .bool (Ac.gr (MID.take k) (ok0, S0)).1 ∧ Below w.heap.size w wr ∧ Below w2.heap.size w2 wr) (fun _ _ t _ => K - (intOf t).toNat)
    case atStart => exact ⟨0, by omega, rfl, by rw [HG0.out], by rw [HG0.out], below_drewN hb1 _, below_drewN (Below.refl _ _) _⟩
    case round =>
      obtain ⟨k, hk, rfl, rfl, rfl, hbr, hbr2⟩ := hrel
      have hgl := HGL.out k
      by_cases hlt : k < K
      · obtain ⟨g', o', p, hA, hg3, HP, hcp⟩ := (hR.step hbr2).at_ (k := k + 1) (by omega)
        injection hA with hA
        injection hA with hA1 hA2
        subst hA1 hA2
        have hpl2 := HSL.out p (mem_of_get? HP.out)
        have HG1 := Lib.hid (HGS.out k p (by rw [HMID.out k hlt]; exact HP.out))
        have hC := fun W (hb : Below w.heap.size w W) => cutIf_any (Ac.gr (MID.take k) (ok0, S0)).1 (Ac.gr (MID.take k) (ok0, S0)).2 p W (maxl_b hM hb) (by omega)
        have HG2 := Lib.hid (HGL.out (k + 1))
        rw [show ((Ac.gr (MID.take k) (ok0, S0)).1, (Ac.gr (MID.take k) (ok0, S0)).2) = Ac.gr (MID.take k) (ok0, S0) from rfl, ← HG1.out] at hC
        generalize hG1 : Ac.gr (MID.take (k + 1)) (ok0, S0) = G1 at *
        have HGE := Lib.hid hG1
        clear hG1
        generalize Ac.gr (MID.take k) (ok0, S0) = G0 at *
        rw [Nat.zero_add, Nat.add_comm k 1] at hcp
        go_wp2_with fail
        refine (hC _ hbr).mono ?_
        rintro e w3 ⟨⟨x, rfl⟩, hbq⟩
        obtain ⟨b1, s1⟩ := G1
        dsimp only at hC HG2 ⊢
        clear hC HG1 hcp HP
        go_wp2
        go_roundw
        case rel => exact ⟨k + 1, by omega, by go_num, by rw [HGE.out], by rw [HGE.out], bnext hbr hbq hbr.size, bnext hbr2 hbq hbr2.size⟩
        case measure => simp [intOf]; omega
      · obtain rfl : k = K := by omega
        rw [HMA.out] at hgl
        rw [HMA.out]
        clear HMID HMA HGS HG0 HGL
        generalize Ac.gr MID (ok0, S0) = G0 at *
        obtain ⟨b1, s1⟩ := G0
        dsimp only at hgl ⊢
        cases b1 with
        | false =>
          have HR2 : Hid (R = false) := Lib.hid (by rw [HR.out]; rfl)
          go_wp2
          go_ret
          exact ⟨by rw [HR2.out]; rfl, hbr⟩
        | true =>
          have HR2 : Hid (R = sufB z0 s1) := Lib.hid (by rw [HR.out]; unfold Ac.gend; rfl)
          have hSU := fun W => shasSuffix_any s1 z0 W (by omega) (by omega)
          generalize sufB z0 s1 = SU at *
          go_wp2_with fail
          refine (hSU _).mono ?_
          rintro e w3 ⟨rfl, hw⟩
          subst hw
          go_wp2
          go_ret
          exact ⟨by rw [HR2.out]; rfl, hbr⟩
end Go.Proofs.YtgkphjbcaidcpaaGreatDoor
set_option linter.unusedVariables false
set_option linter.unusedSimpArgs false
namespace Go.Proofs.YtgkphjbcaidcpaaGreatDoor
open Go.RowKit

set_option maxRecDepth 100000
/-- Values of a kind in memory. -/
def RdV (w : World) (A : Option Addr) (n : Nat) (k : List UInt8) (vs : List (List UInt8)) : Prop := vs.length = n ∧ Rd w 1 A n (vs.map (repV k))
theorem RdV.step {w w' : World} {A : Option Addr} {n : Nat} {k : List UInt8} {vs : List (List UInt8)} (h : RdV w A n k vs) (hb : Below w.heap.size w w') : RdV w' A n k vs := ⟨h.1, h.2.step hb⟩
theorem RdV.at_ {w : World} {A : Option Addr} {n : Nat} {kd : List UInt8} {vs : List (List UInt8)} (h : RdV w A n kd vs) {k : Nat} (hk : k < n) : ∃ g o v, A = some ⟨g, o, none⟩ ∧ g < w.heap.size ∧ Hid (vs[k]? = some v) ∧ w.cell? ⟨g, o + k, none⟩ = some (repV kd v) := by
  obtain ⟨g, o, e, hg, hc⟩ := h.2.2 (by omega)
  have hk' : k < vs.length := by rw [h.1]; exact hk
  exact ⟨g, o, vs[k], e, hg, Lib.hid (List.getElem?_eq_getElem hk'), hc k _ (by rw [List.getElem?_map, List.getElem?_eq_getElem hk']; rfl)⟩
structure ValOK (k v : List UInt8) : Prop where
  good : Ac.good k v = true
  len : v.length ≤ 4194304
  pos : 1 ≤ v.length
namespace Ac
theorem kinds {k v : T} (h : good k v = true) : k = srcT ∨ k = hostT ∨ k = portT ∨ k = methT ∨ k = pathT ∨ k = timeT := by
  unfold good at h
  split at h
  · exact .inl (by assumption)
  split at h
  · exact .inr (.inl (by assumption))
  split at h
  · exact .inr (.inr (.inl (by assumption)))
  split at h
  · exact .inr (.inr (.inr (.inl (by assumption))))
  split at h
  · exact .inr (.inr (.inr (.inr (.inl (by assumption)))))
  split at h
  · exact .inr (.inr (.inr (.inr (.inr (by assumption)))))
  cases h
theorem holds_src {v : T} {n b : Nat} (h : net v = some (n, b)) (a : Ask) : holds srcT v a = ((a.src % 4294967296).toNat / 2 ^ (32 - b) == n / 2 ^ (32 - b)) := by unfold holds; rw [if_pos rfl, h]
theorem holds_suf {v : T} (h : (fold v).head? = some 46) (a : Ask) : holds hostT v a = (fold a.host == (fold v).drop 1 || sufB (fold v) (fold a.host)) := by unfold holds; rw [if_neg (by decide), if_pos rfl, if_pos h]
theorem holds_ex {v : T} (h : (fold v).head? ≠ some 46) (a : Ask) : holds hostT v a = (fold a.host == fold v) := by unfold holds; rw [if_neg (by decide), if_pos rfl, if_neg h]
theorem holds_port {v : T} {x y : Nat} (h : prt v = some (x, y)) (a : Ask) : holds portT v a = (decide ((x : Int) ≤ a.port) && decide (a.port ≤ (y : Int))) := by unfold holds; rw [if_neg (by decide), if_neg (by decide), if_pos rfl, h]
theorem holds_meth (v : T) (a : Ask) : holds methT v a = (a.meth == v) := by unfold holds; rw [if_neg (by decide), if_neg (by decide), if_neg (by decide), if_pos rfl]
theorem holds_path (v : T) (a : Ask) : holds pathT v a = gm v a.path := by unfold holds; rw [if_neg (by decide), if_neg (by decide), if_neg (by decide), if_neg (by decide), if_pos rfl]
theorem holds_time {v : T} {x y : Nat} (h : win v = some (x, y)) (a : Ask) : holds timeT v a = winB (x : Int) (y : Int) ((max a.now 0) % 86400) := by
  unfold holds
  rw [if_neg (by decide), if_neg (by decide), if_neg (by decide), if_neg (by decide), if_neg (by decide), h]
  unfold winB
  simp only [Int.ofNat_lt]
end Ac
theorem repV_meth (v : List UInt8) : repV Ac.methT v = .iface 100 (.string (bs v)) := by unfold repV; rw [if_neg (by decide), if_neg (by decide), if_neg (by decide), if_pos rfl]
theorem repV_path (v : List UInt8) : repV Ac.pathT v = .iface 101 (.string (bs v)) := by unfold repV; rw [if_neg (by decide), if_neg (by decide), if_neg (by decide), if_neg (by decide), if_pos rfl]
/-- A value in memory and the method that answers for it. -/
inductive Meets (a : Ac.Ask) (k v : List UInt8) : Prop
  | net (n b : Nat) (hr : repV k v = .iface 110 (.agg #[.int .u32 (n : Int), .int .u32 (Ac.mask b : Int)])) (hc : ∀ W, MaxL W → Calls Tryz.prog 134 #[.agg #[.int .u32 (n : Int), .int .u32 (Ac.mask b : Int)], askV a] W fun e w' => e = .returned (.bool (Ac.holds k v a)) ∧ Below W.heap.size W w')
  | suf (s : List UInt8) (hr : repV k v = .iface 111 (.string (bs s))) (hc : ∀ W, MaxL W → Calls Tryz.prog 135 #[.string (bs s), askV a] W fun e w' => e = .returned (.bool (Ac.holds k v a)) ∧ Below W.heap.size W w')
  | ex (s : List UInt8) (hr : repV k v = .iface 112 (.string (bs s))) (hc : ∀ W, MaxL W → Calls Tryz.prog 136 #[.string (bs s), askV a] W fun e w' => e = .returned (.bool (Ac.holds k v a)) ∧ Below W.heap.size W w')
  | span (x y : Int) (hr : repV k v = .iface 114 (.agg #[.int .i64 x, .int .i64 y])) (hc : ∀ W, MaxL W → Calls Tryz.prog 137 #[.agg #[.int .i64 x, .int .i64 y], askV a] W fun e w' => e = .returned (.bool (Ac.holds k v a)) ∧ Below W.heap.size W w')
  | meth (s : List UInt8) (hr : repV k v = .iface 100 (.string (bs s))) (hc : ∀ W, MaxL W → Calls Tryz.prog 129 #[.string (bs s), askV a] W fun e w' => e = .returned (.bool (Ac.holds k v a)) ∧ Below W.heap.size W w')
  | path (s : List UInt8) (hr : repV k v = .iface 101 (.string (bs s))) (hc : ∀ W, MaxL W → Calls Tryz.prog 130 #[.string (bs s), askV a] W fun e w' => e = .returned (.bool (Ac.holds k v a)) ∧ Below W.heap.size W w')
  | win (x y : Int) (hr : repV k v = .iface 116 (.agg #[.int .i64 x, .int .i64 y])) (hc : ∀ W, MaxL W → Calls Tryz.prog 138 #[.agg #[.int .i64 x, .int .i64 y], askV a] W fun e w' => e = .returned (.bool (Ac.holds k v a)) ∧ Below W.heap.size W w')
theorem meets (a : Ac.Ask) (ha : AskOK a) {k v : List UInt8} (h : ValOK k v) : Meets a k v := by
  have hg := h.good
  have hl := h.len
  have hp := h.pos
  rcases Ac.kinds hg with rfl | rfl | rfl | rfl | rfl | rfl
  · rw [Ac.good_src] at hg
    obtain ⟨⟨n, b⟩, hn⟩ := Option.isSome_iff_exists.1 hg
    obtain ⟨h1, h2⟩ := Ac.net_lt hn
    exact .net n b (repV_src hn) fun W _ => by rw [Ac.holds_src hn]; exact net_any n b a W h1 h2
  · have hfl := fold_length v
    by_cases h46 : (fold v).head? = some 46
    · exact .suf (fold v) (repV_suf h46) fun W _ => by rw [Ac.holds_suf h46]; exact suffix_any (fold v) a W ha (by omega) (by omega)
    · exact .ex (fold v) (repV_ex h46) fun W _ => by rw [Ac.holds_ex h46]; exact exact_any (fold v) a W ha
  · rw [Ac.good_port] at hg
    obtain ⟨⟨x, y⟩, hn⟩ := Option.isSome_iff_exists.1 hg
    exact .span x y (repV_port hn) fun W _ => by rw [Ac.holds_port hn]; exact span_any x y a W
  · exact .meth v (repV_meth v) fun W _ => by rw [Ac.holds_meth]; exact method_any v a W
  · exact .path v (repV_path v) fun W hM => by rw [Ac.holds_path]; exact glob_any v a W hM ha hl
  · rw [Ac.good_time] at hg
    obtain ⟨⟨x, y⟩, hn⟩ := Option.isSome_iff_exists.1 hg
    exact .win x y (repV_time hn) fun W _ => by rw [Ac.holds_time hn]; exact window_any x y a W ha
theorem anyQ_snoc {α : Type} (f : α → Bool) {l : List α} {k : Nat} {x : α} (h : l[k]? = some x) : (l.take (k + 1)).any f = ((l.take k).any f || f x) := by rw [take_snoc? h, List.any_append]; simp
theorem anyQ_stop {α : Type} (f : α → Bool) {l : List α} {k : Nat} {x : α} (h : l[k]? = some x) (hf : f x = true) : l.any f = true := List.any_eq_true.2 ⟨x, mem_of_get? h, hf⟩
set_option maxHeartbeats 4000000 in
theorem elH_any (b : Nat) (e : Ac.El) (A : Option Addr) (n c : Nat) (a : Ac.Ask) (w : World) (hM : MaxL w) (ha : AskOK a) (hb : w.heap[b]? = some (.cells #[.string (bs e.kd), .slice A n c] 86 (0, 0))) (hV : RdV w A n e.kd e.vs) (hn : n ≤ 4194304) (hok : ∀ v ∈ e.vs, ValOK e.kd v) :
    Calls Tryz.prog 32 #[.pointer (some ⟨b, 0, none⟩), askV a] w fun x w' => x = .returned (.bool (Ac.elH e a)) ∧ Below w.heap.size w w' := by
  have hbl : b < w.heap.size := (Array.getElem?_eq_some_iff.1 hb).1
  have hal := alloc_below w (.cells #[.int .i64 a.src, .string (bs a.host), .int .i64 a.port, .string (bs a.meth), .string (bs a.path), .int .i64 a.now] 37)
  have hra := heap_alloc_new w (.cells #[.int .i64 a.src, .string (bs a.host), .int .i64 a.port, .string (bs a.meth), .string (bs a.path), .int .i64 a.now] 37)
  have hb1 : (w.alloc (.cells #[.int .i64 a.src, .string (bs a.host), .int .i64 a.port, .string (bs a.meth), .string (bs a.path), .int .i64 a.now] 37)).heap[b]? = _ := (hal.block b hbl).trans hb
  replace hV := hV.step hal
  have HME : Hid (∀ v ∈ e.vs, Meets a e.kd v) := Lib.hid fun v hv => meets a ha (hok v hv)
  have HF : Hid (∀ k v, e.vs[k]? = some v → Ac.holds e.kd v a = true → Ac.elH e a = true) := Lib.hid fun k v h1 h2 => anyQ_stop _ h1 h2
  have HT : Hid (∀ k v, e.vs[k]? = some v → (e.vs.take k).any (fun v => Ac.holds e.kd v a) = false → Ac.holds e.kd v a = false → (e.vs.take (k + 1)).any (fun v => Ac.holds e.kd v a) = false) := Lib.hid fun k v h1 h2 h3 => by rw [anyQ_snoc _ h1, h2, h3]; rfl
  have HE : Hid ((e.vs.take n).any (fun v => Ac.holds e.kd v a) = false → Ac.elH e a = false) := Lib.hid fun h => by rw [List.take_of_length_le (by rw [hV.1]; exact Nat.le_refl _)] at h; exact h
  unfold askV at *
  generalize Ac.elH e a = R at *
  clear hb hok
  go_enter Tryz.func32, Tryz.ntmps32
  go_upto_region 1 with fail
  generalize w.alloc (.cells #[.int .i64 a.src, .string (bs a.host), .int .i64 a.port, .string (bs a.meth), .string (bs a.path), .int .i64 a.now] 37) = w1 at *
  have c0 : w1.cell? ⟨b, 0, none⟩ = some (.string (bs e.kd)) := by rw [cell_of_row _ _ _ _ _ _ hb1]; rfl
  have c1 : w1.cell? ⟨b, 1, none⟩ = some (.slice A n c) := by rw [cell_of_row _ _ _ _ _ _ hb1]; rfl
  have HB0 : Hid (∀ W, Below w1.heap.size w1 W → Below w.heap.size w W) := Lib.hid fun W hW => bnext hal hW hal.size
  have hM1 : MaxL w1 := maxl_b hM hal
  generalize hgb : w.heap.size = gb at *
  have HGB := Lib.hid hgb
  clear hgb
  go_wp2_with fail
  go_loopw [12] (fun t wr => ∃ k : Nat, k ≤ n ∧ t = .int .i64 (k : Int) ∧ Hid ((e.vs.take k).any (fun v => Ac.holds e.kd v a) = false) ∧ Below w1.heap.size w1 wr) (fun t _ => n - (intOf t).toNat)
  case atStart => exact ⟨0, by omega, rfl, Lib.hid rfl, Below.refl _ _⟩
  case round =>
    obtain ⟨k, hk, rfl, HA, hbr⟩ := hrel
    clear c0 c1
    by_cases hlt : k < n
    · obtain ⟨g, o, v, rfl, hg, HV, hc⟩ := (hV.step hbr).at_ hlt
      have hra2 : wr.heap[gb]? = _ := (hbr.block gb (Array.getElem?_eq_some_iff.1 hra).1).trans hra
      obtain ⟨a0, a1, a2, a3, a4, a5⟩ := row_facts6 hra2
      have hMr : MaxL wr := maxl_b hM1 hbr
      have HFk := Lib.hid (HF.out k v HV.out)
      have HTk := Lib.hid (HT.out k v HV.out HA.out)
      have HMv := HME.out v (mem_of_get? HV.out)
      clear HF HT HE HME HV HA hra2
      cases HMv with
      | net n9 b9 hr hc9 =>
        rw [hr] at hc
        clear hr
        cases hhv : Ac.holds e.kd v a with
        | false =>
          have HT2 := Lib.hid (HTk.out hhv)
          rw [hhv] at hc9
          clear HFk HTk hhv
          go_wp2_with fail
          refine (hc9 wr hMr).mono ?_
          rintro x w3 ⟨rfl, hbq⟩
          clear hc hc9 a0 a1 a2 a3 a4 a5
          go_wp2
          go_roundw
          case rel => exact ⟨k + 1, by omega, by go_num, HT2, bnext hbr hbq hbr.size⟩
          case measure => simp [intOf]; omega
        | true =>
          have HR := Lib.hid (HFk.out hhv)
          rw [hhv] at hc9
          clear HFk HTk hhv
          go_wp2_with fail
          refine (hc9 wr hMr).mono ?_
          rintro x w3 ⟨rfl, hbq⟩
          clear hc hc9 a0 a1 a2 a3 a4 a5
          go_wp2
          go_ret
          exact ⟨by rw [HR.out]; rfl, (by have h9 := HB0.out _ (bnext hbr hbq hbr.size); rwa [← HGB.out] at h9)⟩
      | suf s9 hr hc9 =>
        rw [hr] at hc
        clear hr
        cases hhv : Ac.holds e.kd v a with
        | false =>
          have HT2 := Lib.hid (HTk.out hhv)
          rw [hhv] at hc9
          clear HFk HTk hhv
          go_wp2_with fail
          refine (hc9 wr hMr).mono ?_
          rintro x w3 ⟨rfl, hbq⟩
          clear hc hc9 a0 a1 a2 a3 a4 a5
          go_wp2
          go_roundw
          case rel => exact ⟨k + 1, by omega, by go_num, HT2, bnext hbr hbq hbr.size⟩
          case measure => simp [intOf]; omega
        | true =>
          have HR := Lib.hid (HFk.out hhv)
          rw [hhv] at hc9
          clear HFk HTk hhv
          go_wp2_with fail
          refine (hc9 wr hMr).mono ?_
          rintro x w3 ⟨rfl, hbq⟩
          clear hc hc9 a0 a1 a2 a3 a4 a5
          go_wp2
          go_ret
          exact ⟨by rw [HR.out]; rfl, (by have h9 := HB0.out _ (bnext hbr hbq hbr.size); rwa [← HGB.out] at h9)⟩
      | ex s9 hr hc9 =>
        rw [hr] at hc
        clear hr
        cases hhv : Ac.holds e.kd v a with
        | false =>
          have HT2 := Lib.hid (HTk.out hhv)
          rw [hhv] at hc9
          clear HFk HTk hhv
          go_wp2_with fail
          refine (hc9 wr hMr).mono ?_
          rintro x w3 ⟨rfl, hbq⟩
          clear hc hc9 a0 a1 a2 a3 a4 a5
          go_wp2
          go_roundw
          case rel => exact ⟨k + 1, by omega, by go_num, HT2, bnext hbr hbq hbr.size⟩
          case measure => simp [intOf]; omega
        | true =>
          have HR := Lib.hid (HFk.out hhv)
          rw [hhv] at hc9
          clear HFk HTk hhv
          go_wp2_with fail
          refine (hc9 wr hMr).mono ?_
          rintro x w3 ⟨rfl, hbq⟩
          clear hc hc9 a0 a1 a2 a3 a4 a5
          go_wp2
          go_ret
          exact ⟨by rw [HR.out]; rfl, (by have h9 := HB0.out _ (bnext hbr hbq hbr.size); rwa [← HGB.out] at h9)⟩
      | span x9 y9 hr hc9 =>
        rw [hr] at hc
        clear hr
        cases hhv : Ac.holds e.kd v a with
        | false =>
          have HT2 := Lib.hid (HTk.out hhv)
          rw [hhv] at hc9
          clear HFk HTk hhv
          go_wp2_with fail
          refine (hc9 wr hMr).mono ?_
          rintro x w3 ⟨rfl, hbq⟩
          clear hc hc9 a0 a1 a2 a3 a4 a5
          go_wp2
          go_roundw
          case rel => exact ⟨k + 1, by omega, by go_num, HT2, bnext hbr hbq hbr.size⟩
          case measure => simp [intOf]; omega
        | true =>
          have HR := Lib.hid (HFk.out hhv)
          rw [hhv] at hc9
          clear HFk HTk hhv
          go_wp2_with fail
          refine (hc9 wr hMr).mono ?_
          rintro x w3 ⟨rfl, hbq⟩
          clear hc hc9 a0 a1 a2 a3 a4 a5
          go_wp2
          go_ret
          exact ⟨by rw [HR.out]; rfl, (by have h9 := HB0.out _ (bnext hbr hbq hbr.size); rwa [← HGB.out] at h9)⟩
      | meth s9 hr hc9 =>
        rw [hr] at hc
        clear hr
        cases hhv : Ac.holds e.kd v a with
        | false =>
          have HT2 := Lib.hid (HTk.out hhv)
          rw [hhv] at hc9
          clear HFk HTk hhv
          go_wp2_with fail
          refine (hc9 wr hMr).mono ?_
          rintro x w3 ⟨rfl, hbq⟩
          clear hc hc9 a0 a1 a2 a3 a4 a5
          go_wp2
          go_roundw
          case rel => exact ⟨k + 1, by omega, by go_num, HT2, bnext hbr hbq hbr.size⟩
          case measure => simp [intOf]; omega
        | true =>
          have HR := Lib.hid (HFk.out hhv)
          rw [hhv] at hc9
          clear HFk HTk hhv
          go_wp2_with fail
          refine (hc9 wr hMr).mono ?_
          rintro x w3 ⟨rfl, hbq⟩
          clear hc hc9 a0 a1 a2 a3 a4 a5
          go_wp2
          go_ret
          exact ⟨by rw [HR.out]; rfl, (by have h9 := HB0.out _ (bnext hbr hbq hbr.size); rwa [← HGB.out] at h9)⟩
      | path s9 hr hc9 =>
        rw [hr] at hc
        clear hr
        cases hhv : Ac.holds e.kd v a with
        | false =>
          have HT2 := Lib.hid (HTk.out hhv)
          rw [hhv] at hc9
          clear HFk HTk hhv
          go_wp2_with fail
          refine (hc9 wr hMr).mono ?_
          rintro x w3 ⟨rfl, hbq⟩
          clear hc hc9 a0 a1 a2 a3 a4 a5
          go_wp2
          go_roundw
          case rel => exact ⟨k + 1, by omega, by go_num, HT2, bnext hbr hbq hbr.size⟩
          case measure => simp [intOf]; omega
        | true =>
          have HR := Lib.hid (HFk.out hhv)
          rw [hhv] at hc9
          clear HFk HTk hhv
          go_wp2_with fail
          refine (hc9 wr hMr).mono ?_
          rintro x w3 ⟨rfl, hbq⟩
          clear hc hc9 a0 a1 a2 a3 a4 a5
          go_wp2
          go_ret
          exact ⟨by rw [HR.out]; rfl, (by have h9 := HB0.out _ (bnext hbr hbq hbr.size); rwa [← HGB.out] at h9)⟩
      | win x9 y9 hr hc9 =>
        rw [hr] at hc
        clear hr
        cases hhv : Ac.holds e.kd v a with
        | false =>
          have HT2 := Lib.hid (HTk.out hhv)
          rw [hhv] at hc9
          clear HFk HTk hhv
          go_wp2_with fail
          refine (hc9 wr hMr).mono ?_
          rintro x w3 ⟨rfl, hbq⟩
          clear hc hc9 a0 a1 a2 a3 a4 a5
          go_wp2
          go_roundw
          case rel => exact ⟨k + 1, by omega, by go_num, HT2, bnext hbr hbq hbr.size⟩
          case measure => simp [intOf]; omega
        | true =>
          have HR := Lib.hid (HFk.out hhv)
          rw [hhv] at hc9
          clear HFk HTk hhv
          go_wp2_with fail
          refine (hc9 wr hMr).mono ?_
          rintro x w3 ⟨rfl, hbq⟩
          clear hc hc9 a0 a1 a2 a3 a4 a5
          go_wp2
          go_ret
          exact ⟨by rw [HR.out]; rfl, (by have h9 := HB0.out _ (bnext hbr hbq hbr.size); rwa [← HGB.out] at h9)⟩
    · obtain rfl : k = n := by omega
      have HR := Lib.hid (HE.out HA.out)
      clear HF HT HE HME HA
      go_wp2
      go_ret
      exact ⟨by rw [HR.out]; rfl, (by have h9 := HB0.out _ hbr; rwa [← HGB.out] at h9)⟩
end Go.Proofs.YtgkphjbcaidcpaaGreatDoor
set_option linter.unusedVariables false
set_option linter.unusedSimpArgs false
namespace Go.Proofs.YtgkphjbcaidcpaaGreatDoor
open Go.RowKit

section
variable {P : Program} {ops : Array Oper} {Q : Exit → Act → World → Prop} {md : Region.Mode} {S : Array Bool → World → Prop}
/-- What an operation's run comes to. -/
def RunsTo (P : Program) (S : World → Prop) (v : Value) : Result Next → Prop
  | .ok (.value u) w' => u = v ∧ S w'
  | .ok .skip w' => v = undef ∧ S w'
  | .ok (.enter f args) w' => Calls P f args w' fun e w'' => e = .returned v ∧ S w''
  | _ => False
/-- In state a operation i yields v, in every world that keeps S. -/
def YS (P : Program) (ops : Array Oper) (S : Array Bool → World → Prop) (i : Nat) (o : Oper) (v : Value) (a : Act) : Prop :=
  (Region.wanted o (yielded ops a.tmps) = true ∧ ∀ L w, L.getD i true = false → S L w → RunsTo P (S (L.setIfInBounds i true)) v ((execOp a.eval o).run P w)) ∨
  (Region.wanted o (yielded ops a.tmps) = false ∧ v = undef ∧ ∀ L w, L.getD i true = false → S L w → S (L.setIfInBounds i true) w)
theorem YS.of_same {i : Nat} {o : Oper} {v : Value} {a a' : Act} (hy : YS P ops S i o v a) (he : execOp a'.eval o = execOp a.eval o)
    (hw : Region.wanted o (yielded ops a'.tmps) = Region.wanted o (yielded ops a.tmps)) : YS P ops S i o v a' := by
  unfold YS at *
  rw [he, hw]
  exact hy
theorem YS.put {i : Nat} {o : Oper} {v u : Value} {a : Act} {dst : Option Tmp} (hs : ∀ cs b, o.op ≠ .select cs b) (h : ∀ d, dst = some d → d ∉ o.looksAt ops) :
    YS P ops S i o v (a.put dst u) ↔ YS P ops S i o v a := by
  constructor
  · exact fun hy => hy.of_same (execOp_put o hs a dst u h).symm (wanted_put o a dst u h).symm
  · exact fun hy => hy.of_same (execOp_put o hs a dst u h) (wanted_put o a dst u h)
def DetS (P : Program) (md : Region.Mode) (ops : Array Oper) (Q : Exit → Act → World → Prop) (S : Array Bool → World → Prop) : Nat → Array Bool → Act → Prop
  | 0, listed, a => Region.ready md ops listed = [] ∧ ∀ w, S listed w → Q .normal a w
  | k + 1, listed, a => (Region.ready md ops listed = [] → ∀ w, S listed w → Q .normal a w) ∧
    ∀ i ∈ Region.ready md ops listed, ∃ o v, ops[i]? = some o ∧ YS P ops S i o v a ∧ DetS P md ops Q S k (listed.setIfInBounds i true) (a.put o.dst v)
theorem YS.wpOp {i : Nat} {o : Oper} {v : Value} {a : Act} {w : World} {listed : Array Bool} (hi : ops[i]? = some o) (hy : YS P ops S i o v a)
    (hl : listed.getD i true = false) (hS : S listed w) {K : Act → World → Prop} (h : ∀ w', S (listed.setIfInBounds i true) w' → K (a.put o.dst v) w') : wpOp P ops Q i K a w := by
  unfold Go.wpOp
  simp only [hi]
  rcases hy with ⟨hw, hv⟩ | ⟨hw, rfl, hk⟩
  · rw [if_pos hw]
    refine .inl ?_
    unfold Oper.wp
    have h9 := hv listed w hl hS
    generalize (execOp a.eval o).run P w = r at *
    unfold RunsTo at h9
    split at h9
    · obtain ⟨rfl, h9⟩ := h9; exact h _ h9
    · obtain ⟨rfl, h9⟩ := h9; exact h _ h9
    · refine Calls.mono h9 fun e w'' he => ?_
      obtain ⟨rfl, he⟩ := he
      exact h _ he
    · exact h9.elim
  · rw [if_neg (by rw [hw]; decide)]
    exact h _ (hk listed w hl hS)
theorem DetS.wpAny : ∀ (k : Nat) (listed : Array Bool) (a : Act) (w : World), DetS P md ops Q S k listed a → S listed w → wpAny P md ops Q k listed a w
  | 0, _, _, w, h, hS => ⟨h.1, h.2 w hS⟩
  | k + 1, listed, a, w, h, hS => ⟨fun h0 => h.1 h0 w hS, fun i hi => by
      obtain ⟨o, v, ho, hy, hn⟩ := h.2 i hi
      exact hy.wpOp ho (mem_ready.1 hi).1 hS fun w' h' => DetS.wpAny k _ _ w' hn h'⟩
theorem DetS.first {i : Nat} {oi : Oper} {v : Value} (hi : ops[i]? = some oi) (hsel : ∀ (j : Nat) (o : Oper) cs b, ops[j]? = some o → o.op ≠ .select cs b) :
    ∀ (k : Nat) (listed : Array Bool) (a : Act),
      (∀ j oj, ops[j]? = some oj → j ≠ i → listed.getD j true = false → (∀ e ∈ oj.after, Region.binds md e = true → e.on ≠ i) → oi.apart ops oj = true) →
      i ∈ Region.ready md ops listed → YS P ops S i oi v a →
      DetS P md ops Q S k (listed.setIfInBounds i true) (a.put oi.dst v) → DetS P md ops Q S (k + 1) listed a := by
  intro k
  induction k with
  | zero =>
    intro listed a _ hr hy H
    refine ⟨fun h => (by rw [h] at hr; cases hr), fun j hj => ?_⟩
    by_cases hji : j = i
    · subst hji; exact ⟨oi, v, hi, hy, H⟩
    · have := ready_mono hj hji
      rw [H.1] at this
      cases this
  | succ k ih =>
    intro listed a hfree hr hy H
    refine ⟨fun h => (by rw [h] at hr; cases hr), fun j hj => ?_⟩
    by_cases hji : j = i
    · subst hji; exact ⟨oi, v, hi, hy, H⟩
    · obtain ⟨oj', u, hoj', hyj, hn⟩ := H.2 j (ready_mono hj hji)
      obtain ⟨hjun, oj, hoj, hall⟩ := mem_ready.1 hj
      have he : oj' = oj := by rw [hoj] at hoj'; exact (Option.some.inj hoj').symm
      subst he
      have hnot : ∀ e ∈ oj'.after, Region.binds md e = true → e.on ≠ i := fun e he hb heq => by
        have h1 := hall e he hb
        have h0 := (mem_ready.1 hr).1
        rw [heq] at h1
        rcases Nat.lt_or_ge i listed.size with h' | h'
        · simp [h'] at h0 h1; rw [h0] at h1; cases h1
        · simp [Array.getElem?_eq_none h'] at h1
      obtain ⟨p1, p2, p3⟩ := Oper.apart_spec (hfree j oj' hoj hji hjun hnot)
      have hfree' : ∀ k ok, ops[k]? = some ok → k ≠ i → (listed.setIfInBounds j true).getD k true = false →
          (∀ e ∈ ok.after, Region.binds md e = true → e.on ≠ i) → oi.apart ops ok = true := fun k ok hk hki hun hno => by
        refine hfree k ok hk hki ?_ hno
        by_cases hjk : j = k
        · subst hjk; exact hjun
        · rw [getD_set_ne true hjk] at hun; exact hun
      refine ⟨oj', u, hoj, (YS.put (hsel j oj' · · hoj) p1).1 hyj, ?_⟩
      refine ih _ _ hfree' (ready_mono hr (Ne.symm hji)) ((YS.put (hsel i oi · · hi) p3).2 hy) ?_
      rw [Array.setIfInBounds_comm _ _ hji, ← Act.put_comm a v u p2]
      exact hn
theorem DetS.take {i : Nat} {oi : Oper} {v : Value} {k : Nat} {listed : Array Bool} {a : Act} (hi : ops[i]? = some oi)
    (hs : Region.noSelect ops = true) (hf : Region.free md ops listed i = true) (hr : (Region.ready md ops listed).contains i = true)
    (hy : YS P ops S i oi v a) (h : DetS P md ops Q S k (listed.setIfInBounds i true) (a.put oi.dst v)) : DetS P md ops Q S (k + 1) listed a :=
  DetS.first hi (Region.noSelect_spec hs) k listed a (Region.free_spec hi hf) (by simpa using hr) hy h
theorem DetS.takeL {l : List Oper} {i : Nat} {oi : Oper} {v : Value} {k : Nat} {listed : Array Bool} {a : Act} (hi : l[i]? = some oi)
    (hs : Region.noSelect l.toArray = true) (hf : Region.free md l.toArray listed i = true) (hr : (Region.ready md l.toArray listed).contains i = true)
    (hy : YS P l.toArray S i oi v a) (h : DetS P md l.toArray Q S k (listed.setIfInBounds i true) (a.put oi.dst v)) : DetS P md l.toArray Q S (k + 1) listed a :=
  DetS.take (by simpa using hi) hs hf hr hy h
theorem DetS.done {listed : Array Bool} {a : Act} (hr : Region.ready md ops listed = []) (h : ∀ w, S listed w → Q .normal a w) : ∀ k, DetS P md ops Q S k listed a
  | 0 => ⟨hr, h⟩
  | _ + 1 => ⟨fun _ => h, by rw [hr]; simp⟩
/-- The beginning. -/
theorem wp_region_det {id : Nat} {a : Act} {w : World} (hm : P.follows .mixedOrders = true) (hS : S (Array.replicate ops.size false) w.drew)
    (h : DetS P .any ops Q S ops.size (Array.replicate ops.size false) a) : (Code.region id ops true).wp P Q a w :=
  wp_region_any hm (DetS.wpAny _ _ _ _ h hS)
theorem wp_region_detN {n : Nat} {id : Nat} {a : Act} {w : World} (hm : P.follows .mixedOrders = true) (hn : ops.size = n) (hS : S (Array.replicate n false) w.drew)
    (h : DetS P .any ops Q S n (Array.replicate n false) a) : (Code.region id ops true).wp P Q a w := by
  subst hn
  exact wp_region_det hm hS h
/-- An operation that yields in every world of S, and leaves that world. -/
theorem YS.pure {i : Nat} {o : Oper} {v : Value} {a : Act} (hw : Region.wanted o (yielded ops a.tmps) = true)
    (hS : ∀ L w, L.getD i true = false → S L w → S (L.setIfInBounds i true) w)
    (hr : ∀ L w, S L w → (execOp a.eval o).run P w = .ok (.value v) w) : YS P ops S i o v a :=
  .inl ⟨hw, fun L w hl h => by rw [hr L w h]; exact ⟨rfl, hS L w hl h⟩⟩
/-- A call. -/
theorem YS.call {i : Nat} {o : Oper} {v : Value} {a : Act} {f : FuncId} {args : Array Value} (hw : Region.wanted o (yielded ops a.tmps) = true)
    (hr : ∀ w, (execOp a.eval o).run P w = .ok (.enter f args) w)
    (hc : ∀ L w, L.getD i true = false → S L w → Calls P f args w fun e w'' => e = .returned v ∧ S (L.setIfInBounds i true) w'') : YS P ops S i o v a :=
  .inl ⟨hw, fun L w hl h => by rw [hr w]; exact hc L w hl h⟩
/-- A store. -/
theorem YS.store {i : Nat} {o : Oper} {a : Act} {f : World → World} (hw : Region.wanted o (yielded ops a.tmps) = true)
    (hr : ∀ L w, L.getD i true = false → S L w → (execOp a.eval o).run P w = .ok .skip (f w) ∧ S (L.setIfInBounds i true) (f w)) : YS P ops S i o undef a :=
  .inl ⟨hw, fun L w hl h => by rw [(hr L w hl h).1]; exact ⟨rfl, (hr L w hl h).2⟩⟩
theorem getD_set_self {L : Array Bool} {i : Nat} (h : L.getD i true = false) : (L.setIfInBounds i true).getD i false = true := by
  have hlt : i < L.size := by
    rcases Nat.lt_or_ge i L.size with h' | h'
    · exact h'
    · simp [Array.getElem?_eq_none h'] at h
  simp [hlt]
theorem getD_un {L : Array Bool} {i : Nat} (h : L.getD i true = false) : L.getD i false = false := by
  rcases Nat.lt_or_ge i L.size with h' | h'
  · simpa [h'] using h
  · simp [Array.getElem?_eq_none h']
end
end Go.Proofs.YtgkphjbcaidcpaaGreatDoor
