/- (*Pool).find: the first connection that fits, whichever way round, with whatever the question keeps ('I'). Conditions: what the two function values do is handed in. -/
import Derived.Test.YtepedjnmliclkaaPoolR
import Derived.LaidEqlPtr
import Derived.Lib.Builder
import Derived.Deep.LoopGhost
set_option linter.unusedVariables false
set_option linter.unusedSimpArgs false
namespace Go.Proofs.Ytepedjnmliclkaa
open Go.RowKit

/-- The j-th place that is looked at: the head at 0 and behind the last. -/
def plc (pb : Nat) (s : Nat → Nat) (len j : Nat) : Addr := if 1 ≤ j ∧ j ≤ len then ⟨s j, 0, none⟩ else ⟨pb, 4, none⟩
theorem plc_in (pb : Nat) (s : Nat → Nat) {len j : Nat} (h : j < len) : plc pb s len (j + 1) = ⟨s (j + 1), 0, none⟩ := by unfold plc; rw [if_pos (by omega)]
theorem plc_end (pb : Nat) (s : Nat → Nat) (len : Nat) : plc pb s len (len + 1) = ⟨pb, 4, none⟩ := by unfold plc; rw [if_neg (by omega)]
/-- What find leaves: the first that fits (j), or nil. -/
def FindOut (s : Nat → Nat) (len : Nat) (q : Nat → Bool) (I : Nat → World → Prop) (e : Ending) (w' : World) : Prop :=
  (∃ j, j < len ∧ (∀ i, i < j → q i = false) ∧ q j = true ∧ e = .returned (.pointer (some ⟨s (j + 1), 0, none⟩)) ∧ I (j + 1) w') ∨ ((∀ i, i < len → q i = false) ∧ e = .returned (.pointer none) ∧ I len w')
structure FindIn (pb : Nat) (K0 K1 : FuncId) (caps : Array Value) (len : Nat) (s : Nat → Nat) (q : Nat → Bool) (I : Nat → World → Prop) : Prop where
  f0 : ∀ (args : Array Value) (W : World), (callFunc K0 args).run Try.prog W = .ok (.enter K0 args) W
  f1 : ∀ (args : Array Value) (W : World), (callFunc K1 args).run Try.prog W = .ok (.enter K1 args) W
  start : ∀ W, I 0 W → Calls Try.prog K0 #[.pointer (some ⟨pb, 4, none⟩)] W fun e w' => e = .returned (.pointer (some (plc pb s len 1))) ∧ I 0 w'
  next : ∀ j W, j < len → I (j + 1) W → Calls Try.prog K0 #[.pointer (some ⟨s (j + 1), 0, none⟩)] W fun e w' => e = .returned (.pointer (some (plc pb s len (j + 2)))) ∧ I (j + 1) w'
  fit : ∀ j W, j < len → I j W → Calls Try.prog K1 (#[.pointer (some ⟨s (j + 1), 0, none⟩)] ++ caps) W fun e w' => e = .returned (.bool (q j)) ∧ I (j + 1) w'
  head : ∀ j W, I j W → ∃ cs T, W.heap[pb]? = some (.cells cs T (0, 0))
  node : ∀ j W i, I j W → i < len → s (i + 1) ≠ pb ∧ ∃ cs T, W.heap[s (i + 1)]? = some (.cells cs T (0, 0))
theorem conn_info : (Try.prog.info? 115).map (fun i => i.size) = some 5 := by kernel_rfl
theorem run_neq_ptr_other {P : Program} (w : World) {tp te : TypeId} {j : TypeInfo} {a b : Addr} {ca cb : Array Value} {ta tb : TypeId} (hp : P.underlying tp = some (.pointer te)) (hte : P.info? te = some j) (hsz : j.size ≠ 0)
    (hne : a ≠ b) (ha : w.heap[a.block]? = some (.cells ca ta (0, 0))) (hb : w.heap[b.block]? = some (.cells cb tb (0, 0))) :
    (binOp .neq tp (.pointer (some a)) (.pointer (some b))).run P w = .ok (.bool true) w := by
  have h : ∀ d : Nat, (Op.equalIn (d + 1) tp (.pointer (some a)) (.pointer (some b))).run P w = .ok false w := fun d => by
    simp [Op.equalIn, run_underlying hp, sizeOf, typeInfo, hte, hsz, run_sameAddr_other w hne ha hb]
  simp only [binOp]
  simp [Op.equal, Op.maxDepth, h 9999]
theorem neq_conn_other (w : World) {a b : Addr} {ca cb : Array Value} {ta tb : TypeId} (hne : a ≠ b) (ha : w.heap[a.block]? = some (.cells ca ta (0, 0))) (hb : w.heap[b.block]? = some (.cells cb tb (0, 0))) :
    (binOp .neq 113 (.pointer (some a)) (.pointer (some b))).run Try.prog w = .ok (.bool true) w := by
  obtain ⟨i, hi, hs⟩ := Option.map_eq_some_iff.1 conn_info
  exact run_neq_ptr_other w Try.underlying113 hi (by omega) hne ha hb
theorem neq_conn_same (w : World) (a : Addr) :
    (binOp .neq 113 (.pointer (some a)) (.pointer (some a))).run Try.prog w = .ok (.bool false) w := by
  obtain ⟨i, hi, hs⟩ := Option.map_eq_some_iff.1 conn_info
  exact Lib.run_neq_ptr_same w a Try.underlying113 hi
set_option maxHeartbeats 1000000 in
theorem find_any (pb : Nat) (K0 K1 : FuncId) (caps : Array Value) (len : Nat) (s : Nat → Nat) (q : Nat → Bool) (I : Nat → World → Prop) (w : World) (hI : FindIn pb K0 K1 caps len s q I) (h0 : I 0 w) :
    Calls Try.prog 67 #[.pointer (some ⟨pb, 0, none⟩), .func (.func K0) #[] #[], .func (.func K1) #[] caps] w fun e w' => FindOut s len q I e w' := by
  have hf0 := hI.f0
  have hf1 := hI.f1
  have HI := Lib.hid hI
  clear hI
  go_enter Try.func67, Try.ntmps67
  go_wp2_with fail
  refine (HI.out.start w h0).mono ?_
  rintro e w1 ⟨rfl, h1⟩
  clear h0
  go_wp2
  go_loopg [7] len (fun r c wr => ∃ j : Nat, j ≤ len ∧ r + j = len ∧ Hid (∀ i, i < j → q i = false) ∧ c = .pointer (some (plc pb s len (j + 1))) ∧ I j wr)
  case atStart => exact ⟨0, by omega, by omega, Lib.hid fun i hi => by omega, rfl, h1⟩
  case round =>
    obtain ⟨j, hj, hr, HA, rfl, hIj⟩ := hrel
    obtain ⟨ca, ta, hha⟩ := HI.out.head j wr hIj
    have HHA := Lib.hid hha
    by_cases hlt : j < len
    · rw [plc_in pb s hlt]
      obtain ⟨hne, cb, tb, hhb⟩ := HI.out.node j wr j hIj hlt
      have hq := neq_conn_other wr (a := ⟨s (j + 1), 0, none⟩) (b := ⟨pb, 4, none⟩) (fun h => hne (by injection h)) hhb hha
      clear hha hhb
      go_wp2_with fail
      refine (HI.out.fit j _ hlt hIj).mono ?_
      rintro e w2 ⟨rfl, hI2⟩
      cases hqj : q j
      · have HQ := Lib.hid hqj
        clear hqj hq
        go_wp2_with fail
        refine (HI.out.next j _ hlt hI2).mono ?_
        rintro e w3 ⟨rfl, hI3⟩
        go_wp2
        go_roundg (len - (j + 1))
        case measure => omega
        case rel => exact ⟨j + 1, by omega, by omega, Lib.hid fun i hi => by
          by_cases e : i = j
          · rw [e]; exact HQ.out
          · exact HA.out i (by omega), rfl, hI3⟩
      · have HQ := Lib.hid hqj
        clear hqj hq
        go_wp2
        go_ret
        exact .inl ⟨j, hlt, HA.out, HQ.out, rfl, hI2⟩
    · obtain rfl : j = len := by omega
      rw [plc_end]
      have hq := neq_conn_same wr ⟨pb, 4, none⟩
      clear hha
      go_wp2
      go_ret
      exact .inr ⟨HA.out, rfl, hIj⟩
end Go.Proofs.Ytepedjnmliclkaa
