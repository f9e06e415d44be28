/- Joined texts: What an element holds for. The conditions stand in each line. -/
import Derived.Test.YtgkphjbcaidcpaaGreatDoorM14
import Derived.Handy
set_option linter.unusedVariables false
set_option linter.unusedSimpArgs false
namespace Go.Proofs.YtgkphjbcaidcpaaGreatDoor
open Go.RowKit

set_option maxRecDepth 100000
/-- Values of a kind in memory. -/
def RdV (w : World) (A : Option Addr) (n : Nat) (k : List UInt8) (vs : List (List UInt8)) : Prop := vs.length = n ∧ Rd w 1 A n (vs.map (repV k))
theorem RdV.step {w w' : World} {A : Option Addr} {n : Nat} {k : List UInt8} {vs : List (List UInt8)} (h : RdV w A n k vs) (hb : Below w.heap.size w w') : RdV w' A n k vs := ⟨h.1, h.2.step hb⟩
theorem RdV.at_ {w : World} {A : Option Addr} {n : Nat} {kd : List UInt8} {vs : List (List UInt8)} (h : RdV w A n kd vs) {k : Nat} (hk : k < n) : ∃ g o v, A = some ⟨g, o, none⟩ ∧ g < w.heap.size ∧ Hid (vs[k]? = some v) ∧ w.cell? ⟨g, o + k, none⟩ = some (repV kd v) := by
  obtain ⟨g, o, e, hg, hc⟩ := h.2.2 (by omega)
  have hk' : k < vs.length := by rw [h.1]; exact hk
  exact ⟨g, o, vs[k], e, hg, Lib.hid (List.getElem?_eq_getElem hk'), hc k _ (by rw [List.getElem?_map, List.getElem?_eq_getElem hk']; rfl)⟩
structure ValOK (k v : List UInt8) : Prop where
  good : Ac.good k v = true
  len : v.length ≤ 4194304
  pos : 1 ≤ v.length
namespace Ac
theorem kinds {k v : T} (h : good k v = true) : k = srcT ∨ k = hostT ∨ k = portT ∨ k = methT ∨ k = pathT ∨ k = timeT := by
  unfold good at h
  split at h
  · exact .inl (by assumption)
  split at h
  · exact .inr (.inl (by assumption))
  split at h
  · exact .inr (.inr (.inl (by assumption)))
  split at h
  · exact .inr (.inr (.inr (.inl (by assumption))))
  split at h
  · exact .inr (.inr (.inr (.inr (.inl (by assumption)))))
  split at h
  · exact .inr (.inr (.inr (.inr (.inr (by assumption)))))
  cases h
theorem holds_src {v : T} {n b : Nat} (h : net v = some (n, b)) (a : Ask) : holds srcT v a = ((a.src % 4294967296).toNat / 2 ^ (32 - b) == n / 2 ^ (32 - b)) := by unfold holds; rw [if_pos rfl, h]
theorem holds_suf {v : T} (h : (fold v).head? = some 46) (a : Ask) : holds hostT v a = (fold a.host == (fold v).drop 1 || sufB (fold v) (fold a.host)) := by unfold holds; rw [if_neg (by decide), if_pos rfl, if_pos h]
theorem holds_ex {v : T} (h : (fold v).head? ≠ some 46) (a : Ask) : holds hostT v a = (fold a.host == fold v) := by unfold holds; rw [if_neg (by decide), if_pos rfl, if_neg h]
theorem holds_port {v : T} {x y : Nat} (h : prt v = some (x, y)) (a : Ask) : holds portT v a = (decide ((x : Int) ≤ a.port) && decide (a.port ≤ (y : Int))) := by unfold holds; rw [if_neg (by decide), if_neg (by decide), if_pos rfl, h]
theorem holds_meth (v : T) (a : Ask) : holds methT v a = (a.meth == v) := by unfold holds; rw [if_neg (by decide), if_neg (by decide), if_neg (by decide), if_pos rfl]
theorem holds_path (v : T) (a : Ask) : holds pathT v a = gm v a.path := by unfold holds; rw [if_neg (by decide), if_neg (by decide), if_neg (by decide), if_neg (by decide), if_pos rfl]
theorem holds_time {v : T} {x y : Nat} (h : win v = some (x, y)) (a : Ask) : holds timeT v a = winB (x : Int) (y : Int) ((max a.now 0) % 86400) := by
  unfold holds
  rw [if_neg (by decide), if_neg (by decide), if_neg (by decide), if_neg (by decide), if_neg (by decide), h]
  unfold winB
  simp only [Int.ofNat_lt]
end Ac
theorem repV_meth (v : List UInt8) : repV Ac.methT v = .iface 100 (.string (bs v)) := by unfold repV; rw [if_neg (by decide), if_neg (by decide), if_neg (by decide), if_pos rfl]
theorem repV_path (v : List UInt8) : repV Ac.pathT v = .iface 101 (.string (bs v)) := by unfold repV; rw [if_neg (by decide), if_neg (by decide), if_neg (by decide), if_neg (by decide), if_pos rfl]
/-- A value in memory and the method that answers for it. -/
inductive Meets (a : Ac.Ask) (k v : List UInt8) : Prop
  | net (n b : Nat) (hr : repV k v = .iface 110 (.agg #[.int .u32 (n : Int), .int .u32 (Ac.mask b : Int)])) (hc : ∀ W, MaxL W → Calls Tryz.prog 134 #[.agg #[.int .u32 (n : Int), .int .u32 (Ac.mask b : Int)], askV a] W fun e w' => e = .returned (.bool (Ac.holds k v a)) ∧ Below W.heap.size W w')
  | suf (s : List UInt8) (hr : repV k v = .iface 111 (.string (bs s))) (hc : ∀ W, MaxL W → Calls Tryz.prog 135 #[.string (bs s), askV a] W fun e w' => e = .returned (.bool (Ac.holds k v a)) ∧ Below W.heap.size W w')
  | ex (s : List UInt8) (hr : repV k v = .iface 112 (.string (bs s))) (hc : ∀ W, MaxL W → Calls Tryz.prog 136 #[.string (bs s), askV a] W fun e w' => e = .returned (.bool (Ac.holds k v a)) ∧ Below W.heap.size W w')
  | span (x y : Int) (hr : repV k v = .iface 114 (.agg #[.int .i64 x, .int .i64 y])) (hc : ∀ W, MaxL W → Calls Tryz.prog 137 #[.agg #[.int .i64 x, .int .i64 y], askV a] W fun e w' => e = .returned (.bool (Ac.holds k v a)) ∧ Below W.heap.size W w')
  | meth (s : List UInt8) (hr : repV k v = .iface 100 (.string (bs s))) (hc : ∀ W, MaxL W → Calls Tryz.prog 129 #[.string (bs s), askV a] W fun e w' => e = .returned (.bool (Ac.holds k v a)) ∧ Below W.heap.size W w')
  | path (s : List UInt8) (hr : repV k v = .iface 101 (.string (bs s))) (hc : ∀ W, MaxL W → Calls Tryz.prog 130 #[.string (bs s), askV a] W fun e w' => e = .returned (.bool (Ac.holds k v a)) ∧ Below W.heap.size W w')
  | win (x y : Int) (hr : repV k v = .iface 116 (.agg #[.int .i64 x, .int .i64 y])) (hc : ∀ W, MaxL W → Calls Tryz.prog 138 #[.agg #[.int .i64 x, .int .i64 y], askV a] W fun e w' => e = .returned (.bool (Ac.holds k v a)) ∧ Below W.heap.size W w')
theorem meets (a : Ac.Ask) (ha : AskOK a) {k v : List UInt8} (h : ValOK k v) : Meets a k v := by
  have hg := h.good
  have hl := h.len
  have hp := h.pos
  rcases Ac.kinds hg with rfl | rfl | rfl | rfl | rfl | rfl
  · rw [Ac.good_src] at hg
    obtain ⟨⟨n, b⟩, hn⟩ := Option.isSome_iff_exists.1 hg
    obtain ⟨h1, h2⟩ := Ac.net_lt hn
    exact .net n b (repV_src hn) fun W _ => by rw [Ac.holds_src hn]; exact net_any n b a W h1 h2
  · have hfl := fold_length v
    by_cases h46 : (fold v).head? = some 46
    · exact .suf (fold v) (repV_suf h46) fun W _ => by rw [Ac.holds_suf h46]; exact suffix_any (fold v) a W ha (by omega) (by omega)
    · exact .ex (fold v) (repV_ex h46) fun W _ => by rw [Ac.holds_ex h46]; exact exact_any (fold v) a W ha
  · rw [Ac.good_port] at hg
    obtain ⟨⟨x, y⟩, hn⟩ := Option.isSome_iff_exists.1 hg
    exact .span x y (repV_port hn) fun W _ => by rw [Ac.holds_port hn]; exact span_any x y a W
  · exact .meth v (repV_meth v) fun W _ => by rw [Ac.holds_meth]; exact method_any v a W
  · exact .path v (repV_path v) fun W hM => by rw [Ac.holds_path]; exact glob_any v a W hM ha hl
  · rw [Ac.good_time] at hg
    obtain ⟨⟨x, y⟩, hn⟩ := Option.isSome_iff_exists.1 hg
    exact .win x y (repV_time hn) fun W _ => by rw [Ac.holds_time hn]; exact window_any x y a W ha
theorem anyQ_snoc {α : Type} (f : α → Bool) {l : List α} {k : Nat} {x : α} (h : l[k]? = some x) : (l.take (k + 1)).any f = ((l.take k).any f || f x) := by rw [take_snoc? h, List.any_append]; simp
theorem anyQ_stop {α : Type} (f : α → Bool) {l : List α} {k : Nat} {x : α} (h : l[k]? = some x) (hf : f x = true) : l.any f = true := List.any_eq_true.2 ⟨x, mem_of_get? h, hf⟩
set_option maxHeartbeats 4000000 in
theorem elH_any (b : Nat) (e : Ac.El) (A : Option Addr) (n c : Nat) (a : Ac.Ask) (w : World) (hM : MaxL w) (ha : AskOK a) (hb : w.heap[b]? = some (.cells #[.string (bs e.kd), .slice A n c] 86 (0, 0))) (hV : RdV w A n e.kd e.vs) (hn : n ≤ 4194304) (hok : ∀ v ∈ e.vs, ValOK e.kd v) :
    Calls Tryz.prog 32 #[.pointer (some ⟨b, 0, none⟩), askV a] w fun x w' => x = .returned (.bool (Ac.elH e a)) ∧ Below w.heap.size w w' := by
  have hbl : b < w.heap.size := (Array.getElem?_eq_some_iff.1 hb).1
  have hal := alloc_below w (.cells #[.int .i64 a.src, .string (bs a.host), .int .i64 a.port, .string (bs a.meth), .string (bs a.path), .int .i64 a.now] 37)
  have hra := heap_alloc_new w (.cells #[.int .i64 a.src, .string (bs a.host), .int .i64 a.port, .string (bs a.meth), .string (bs a.path), .int .i64 a.now] 37)
  have hb1 : (w.alloc (.cells #[.int .i64 a.src, .string (bs a.host), .int .i64 a.port, .string (bs a.meth), .string (bs a.path), .int .i64 a.now] 37)).heap[b]? = _ := (hal.block b hbl).trans hb
  replace hV := hV.step hal
  have HME : Hid (∀ v ∈ e.vs, Meets a e.kd v) := Lib.hid fun v hv => meets a ha (hok v hv)
  have HF : Hid (∀ k v, e.vs[k]? = some v → Ac.holds e.kd v a = true → Ac.elH e a = true) := Lib.hid fun k v h1 h2 => anyQ_stop _ h1 h2
  have HT : Hid (∀ k v, e.vs[k]? = some v → (e.vs.take k).any (fun v => Ac.holds e.kd v a) = false → Ac.holds e.kd v a = false → (e.vs.take (k + 1)).any (fun v => Ac.holds e.kd v a) = false) := Lib.hid fun k v h1 h2 h3 => by rw [anyQ_snoc _ h1, h2, h3]; rfl
  have HE : Hid ((e.vs.take n).any (fun v => Ac.holds e.kd v a) = false → Ac.elH e a = false) := Lib.hid fun h => by rw [List.take_of_length_le (by rw [hV.1]; exact Nat.le_refl _)] at h; exact h
  unfold askV at *
  generalize Ac.elH e a = R at *
  clear hb hok
  go_enter Tryz.func32, Tryz.ntmps32
  go_upto_region 1 with fail
  generalize w.alloc (.cells #[.int .i64 a.src, .string (bs a.host), .int .i64 a.port, .string (bs a.meth), .string (bs a.path), .int .i64 a.now] 37) = w1 at *
  have c0 : w1.cell? ⟨b, 0, none⟩ = some (.string (bs e.kd)) := by rw [cell_of_row _ _ _ _ _ _ hb1]; rfl
  have c1 : w1.cell? ⟨b, 1, none⟩ = some (.slice A n c) := by rw [cell_of_row _ _ _ _ _ _ hb1]; rfl
  have HB0 : Hid (∀ W, Below w1.heap.size w1 W → Below w.heap.size w W) := Lib.hid fun W hW => bnext hal hW hal.size
  have hM1 : MaxL w1 := maxl_b hM hal
  generalize hgb : w.heap.size = gb at *
  have HGB := Lib.hid hgb
  clear hgb
  go_wp2_with fail
  go_loopw [12] (fun t wr => ∃ k : Nat, k ≤ n ∧ t = .int .i64 (k : Int) ∧ Hid ((e.vs.take k).any (fun v => Ac.holds e.kd v a) = false) ∧ Below w1.heap.size w1 wr) (fun t _ => n - (intOf t).toNat)
  case atStart => exact ⟨0, by omega, rfl, Lib.hid rfl, Below.refl _ _⟩
  case round =>
    obtain ⟨k, hk, rfl, HA, hbr⟩ := hrel
    clear c0 c1
    by_cases hlt : k < n
    · obtain ⟨g, o, v, rfl, hg, HV, hc⟩ := (hV.step hbr).at_ hlt
      have hra2 : wr.heap[gb]? = _ := (hbr.block gb (Array.getElem?_eq_some_iff.1 hra).1).trans hra
      obtain ⟨a0, a1, a2, a3, a4, a5⟩ := row_facts6 hra2
      have hMr : MaxL wr := maxl_b hM1 hbr
      have HFk := Lib.hid (HF.out k v HV.out)
      have HTk := Lib.hid (HT.out k v HV.out HA.out)
      have HMv := HME.out v (mem_of_get? HV.out)
      clear HF HT HE HME HV HA hra2
      cases HMv with
      | net n9 b9 hr hc9 =>
        rw [hr] at hc
        clear hr
        cases hhv : Ac.holds e.kd v a with
        | false =>
          have HT2 := Lib.hid (HTk.out hhv)
          rw [hhv] at hc9
          clear HFk HTk hhv
          go_wp2_with fail
          refine (hc9 wr hMr).mono ?_
          rintro x w3 ⟨rfl, hbq⟩
          clear hc hc9 a0 a1 a2 a3 a4 a5
          go_wp2
          go_roundw
          case rel => exact ⟨k + 1, by omega, by go_num, HT2, bnext hbr hbq hbr.size⟩
          case measure => simp [intOf]; omega
        | true =>
          have HR := Lib.hid (HFk.out hhv)
          rw [hhv] at hc9
          clear HFk HTk hhv
          go_wp2_with fail
          refine (hc9 wr hMr).mono ?_
          rintro x w3 ⟨rfl, hbq⟩
          clear hc hc9 a0 a1 a2 a3 a4 a5
          go_wp2
          go_ret
          exact ⟨by rw [HR.out]; rfl, (by have h9 := HB0.out _ (bnext hbr hbq hbr.size); rwa [← HGB.out] at h9)⟩
      | suf s9 hr hc9 =>
        rw [hr] at hc
        clear hr
        cases hhv : Ac.holds e.kd v a with
        | false =>
          have HT2 := Lib.hid (HTk.out hhv)
          rw [hhv] at hc9
          clear HFk HTk hhv
          go_wp2_with fail
          refine (hc9 wr hMr).mono ?_
          rintro x w3 ⟨rfl, hbq⟩
          clear hc hc9 a0 a1 a2 a3 a4 a5
          go_wp2
          go_roundw
          case rel => exact ⟨k + 1, by omega, by go_num, HT2, bnext hbr hbq hbr.size⟩
          case measure => simp [intOf]; omega
        | true =>
          have HR := Lib.hid (HFk.out hhv)
          rw [hhv] at hc9
          clear HFk HTk hhv
          go_wp2_with fail
          refine (hc9 wr hMr).mono ?_
          rintro x w3 ⟨rfl, hbq⟩
          clear hc hc9 a0 a1 a2 a3 a4 a5
          go_wp2
          go_ret
          exact ⟨by rw [HR.out]; rfl, (by have h9 := HB0.out _ (bnext hbr hbq hbr.size); rwa [← HGB.out] at h9)⟩
      | ex s9 hr hc9 =>
        rw [hr] at hc
        clear hr
        cases hhv : Ac.holds e.kd v a with
        | false =>
          have HT2 := Lib.hid (HTk.out hhv)
          rw [hhv] at hc9
          clear HFk HTk hhv
          go_wp2_with fail
          refine (hc9 wr hMr).mono ?_
          rintro x w3 ⟨rfl, hbq⟩
          clear hc hc9 a0 a1 a2 a3 a4 a5
          go_wp2
          go_roundw
          case rel => exact ⟨k + 1, by omega, by go_num, HT2, bnext hbr hbq hbr.size⟩
          case measure => simp [intOf]; omega
        | true =>
          have HR := Lib.hid (HFk.out hhv)
          rw [hhv] at hc9
          clear HFk HTk hhv
          go_wp2_with fail
          refine (hc9 wr hMr).mono ?_
          rintro x w3 ⟨rfl, hbq⟩
          clear hc hc9 a0 a1 a2 a3 a4 a5
          go_wp2
          go_ret
          exact ⟨by rw [HR.out]; rfl, (by have h9 := HB0.out _ (bnext hbr hbq hbr.size); rwa [← HGB.out] at h9)⟩
      | span x9 y9 hr hc9 =>
        rw [hr] at hc
        clear hr
        cases hhv : Ac.holds e.kd v a with
        | false =>
          have HT2 := Lib.hid (HTk.out hhv)
          rw [hhv] at hc9
          clear HFk HTk hhv
          go_wp2_with fail
          refine (hc9 wr hMr).mono ?_
          rintro x w3 ⟨rfl, hbq⟩
          clear hc hc9 a0 a1 a2 a3 a4 a5
          go_wp2
          go_roundw
          case rel => exact ⟨k + 1, by omega, by go_num, HT2, bnext hbr hbq hbr.size⟩
          case measure => simp [intOf]; omega
        | true =>
          have HR := Lib.hid (HFk.out hhv)
          rw [hhv] at hc9
          clear HFk HTk hhv
          go_wp2_with fail
          refine (hc9 wr hMr).mono ?_
          rintro x w3 ⟨rfl, hbq⟩
          clear hc hc9 a0 a1 a2 a3 a4 a5
          go_wp2
          go_ret
          exact ⟨by rw [HR.out]; rfl, (by have h9 := HB0.out _ (bnext hbr hbq hbr.size); rwa [← HGB.out] at h9)⟩
      | meth s9 hr hc9 =>
        rw [hr] at hc
        clear hr
        cases hhv : Ac.holds e.kd v a with
        | false =>
          have HT2 := Lib.hid (HTk.out hhv)
          rw [hhv] at hc9
          clear HFk HTk hhv
          go_wp2_with fail
          refine (hc9 wr hMr).mono ?_
          rintro x w3 ⟨rfl, hbq⟩
          clear hc hc9 a0 a1 a2 a3 a4 a5
          go_wp2
          go_roundw
          case rel => exact ⟨k + 1, by omega, by go_num, HT2, bnext hbr hbq hbr.size⟩
          case measure => simp [intOf]; omega
        | true =>
          have HR := Lib.hid (HFk.out hhv)
          rw [hhv] at hc9
          clear HFk HTk hhv
          go_wp2_with fail
          refine (hc9 wr hMr).mono ?_
          rintro x w3 ⟨rfl, hbq⟩
          clear hc hc9 a0 a1 a2 a3 a4 a5
          go_wp2
          go_ret
          exact ⟨by rw [HR.out]; rfl, (by have h9 := HB0.out _ (bnext hbr hbq hbr.size); rwa [← HGB.out] at h9)⟩
      | path s9 hr hc9 =>
        rw [hr] at hc
        clear hr
        cases hhv : Ac.holds e.kd v a with
        | false =>
          have HT2 := Lib.hid (HTk.out hhv)
          rw [hhv] at hc9
          clear HFk HTk hhv
          go_wp2_with fail
          refine (hc9 wr hMr).mono ?_
          rintro x w3 ⟨rfl, hbq⟩
          clear hc hc9 a0 a1 a2 a3 a4 a5
          go_wp2
          go_roundw
          case rel => exact ⟨k + 1, by omega, by go_num, HT2, bnext hbr hbq hbr.size⟩
          case measure => simp [intOf]; omega
        | true =>
          have HR := Lib.hid (HFk.out hhv)
          rw [hhv] at hc9
          clear HFk HTk hhv
          go_wp2_with fail
          refine (hc9 wr hMr).mono ?_
          rintro x w3 ⟨rfl, hbq⟩
          clear hc hc9 a0 a1 a2 a3 a4 a5
          go_wp2
          go_ret
          exact ⟨by rw [HR.out]; rfl, (by have h9 := HB0.out _ (bnext hbr hbq hbr.size); rwa [← HGB.out] at h9)⟩
      | win x9 y9 hr hc9 =>
        rw [hr] at hc
        clear hr
        cases hhv : Ac.holds e.kd v a with
        | false =>
          have HT2 := Lib.hid (HTk.out hhv)
          rw [hhv] at hc9
          clear HFk HTk hhv
          go_wp2_with fail
          refine (hc9 wr hMr).mono ?_
          rintro x w3 ⟨rfl, hbq⟩
          clear hc hc9 a0 a1 a2 a3 a4 a5
          go_wp2
          go_roundw
          case rel => exact ⟨k + 1, by omega, by go_num, HT2, bnext hbr hbq hbr.size⟩
          case measure => simp [intOf]; omega
        | true =>
          have HR := Lib.hid (HFk.out hhv)
          rw [hhv] at hc9
          clear HFk HTk hhv
          go_wp2_with fail
          refine (hc9 wr hMr).mono ?_
          rintro x w3 ⟨rfl, hbq⟩
          clear hc hc9 a0 a1 a2 a3 a4 a5
          go_wp2
          go_ret
          exact ⟨by rw [HR.out]; rfl, (by have h9 := HB0.out _ (bnext hbr hbq hbr.size); rwa [← HGB.out] at h9)⟩
    · obtain rfl : k = n := by omega
      have HR := Lib.hid (HE.out HA.out)
      clear HF HT HE HME HA
      go_wp2
      go_ret
      exact ⟨by rw [HR.out]; rfl, (by have h9 := HB0.out _ hbr; rwa [← HGB.out] at h9)⟩
end Go.Proofs.YtgkphjbcaidcpaaGreatDoor
