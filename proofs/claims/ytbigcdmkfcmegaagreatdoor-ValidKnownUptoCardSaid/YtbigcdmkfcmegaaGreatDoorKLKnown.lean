/- ValidKnown: for every input within the second form's bound the law answers true and leaves its arguments as they were. Condition: the bulk of the arguments at most 1048576. -/
import Derived.Test.YtbigcdmkfcmegaaGreatDoorCards
import Derived.Test.YtbigcdmkfcmegaaGreatDoorTie
import Derived.Test.YtbigcdmkfcmegaaGreatDoorM5
import Derived.Test.YtbigcdmkfcmegaaGreatDoorM7
import Derived.Test.YtbigcdmkfcmegaaGreatDoorM20
import Derived.Test.YtbigcdmkfcmegaaGreatDoorM23
import Derived.Test.YtbigcdmkfcmegaaGreatDoorM24
import Derived.Test.YtbigcdmkfcmegaaGreatDoorM25
import Derived.Test.YtbigcdmkfcmegaaGreatDoorM26
import Derived.BigQuiet
import Derived.Deep.QuietTactic
import Derived.WalkKit
import Derived.ProofKit
import Derived.OpenShut
import Derived.JoinedCond
import Derived.Deep.DeepHandedRow
import Derived.Deep.DeepWitnessRowRef
import Derived.Lib.LaidTab
set_option linter.unusedVariables false
set_option linter.unusedSimpArgs false
set_option maxRecDepth 100000
namespace Go.Proofs.YtbigcdmkfcmegaaGreatDoor.validKnown
open Go.ChangeShapes Go.WideShapes Go.ChangeAt Go.RowKit

set_option maxRecDepth 100000
set_option maxHeartbeats 8000000 in
theorem walk (w : World) (st : Int) (hs1 : -9223372036854775808 ≤ st) (hs2 : st ≤ 9223372036854775807) (rs : List UInt8) (minor : Int) (A : Option Addr) (n c : Nat) (l : List Fld) (hl : RdF w A n l) (hn : n + 3 ≤ 1048576) (hf : ∀ f ∈ l, f.1.length ≤ 1048576 ∧ f.2.length ≤ 1048576) (hnc : n ≤ c) (hcm : c ≤ maxLen) :
    Calls Tryz.prog 6 #[respV st rs minor A n c] w fun x w' => x = .returned (.bool true) ∧ Below w.heap.size w w' := by
  unfold respV
  replace hn : n ≤ 1048576 := by omega
  have hls : FlenS l := hf
  have hb0 := alloc_below w (.cells #[.int .i64 st, .string (bs rs), .int .i64 minor, .slice A n c] 24)
  have hr1 := heap_alloc_new w (.cells #[.int .i64 st, .string (bs rs), .int .i64 minor, .slice A n c] 24)
  go_enter Tryz.func6, Tryz.ntmps6
  go_upto_region 1 with fail
  generalize w.alloc (.cells #[.int .i64 st, .string (bs rs), .int .i64 minor, .slice A n c] 24) = w2 at *
  have hl0 := hl
  replace hl := hl.step hb0
  go_wp2_with fail
  refine (alive18 w2).mono ?_
  rintro x w3 ⟨rfl, hb3⟩
  replace hr1 := row_keep hr1 hb3
  replace hl := hl.step hb3
  replace hb0 := bnext hb0 hb3 hb0.size
  clear hb3
  obtain ⟨a0, a1, a2, a3, z0, z1, z2, z3⟩ := row_facts4 hr1
  go_upto_region 4 with fail
  clear a0 a1 a2 a3 z0 z1 z2 z3
  have hr4 := DA.heap_set hr1 0 (.int .i64 200)
  have hb4 : Below w.heap.size w (w3.setCell ⟨w.heap.size, 0, none⟩ (.int .i64 200)) := hb0.setCell (Nat.le_refl _) _
  clear hr1 hb0 hl
  generalize w3.setCell ⟨w.heap.size, 0, none⟩ (.int .i64 200) = w4 at *
  have hr1 : w4.heap[w.heap.size]? = some (.cells #[.int .i64 200, .string (bs rs), .int .i64 minor, .slice A n c] 24 (0, 0)) := hr4
  have hb0 := hb4
  have hl := hl0.step hb4
  clear hr4 hb4 hl0
  obtain ⟨a0, a1, a2, a3, -⟩ := row_facts4 hr1
  have hC := copyResponse_any 200 rs minor A n c l w4 hl hn
  unfold respV at hC
  go_wp2_with fail
  refine hC.mono ?_
  rintro x wc ⟨Ao, no, co, rfl, hA1, hbc⟩
  clear hC
  clear a0 a1 a2 a3
  replace hr1 := row_keep hr1 hbc
  replace hl := hl.step hbc
  replace hb0 := bnext hb0 hbc hb0.size
  clear hbc
  have hno : no ≤ 1048576 := by have := hA1.1; have := hl.1; omega
  have hC := ask_p 200 rs minor Ao no co l wc hA1 hno hls
  unfold respV at hC
  have HAL : Hid ((Val.askL l).length ≤ 2) := Lib.hid (Val.ask_len l)
  have HG := Lib.hid (Val.ask_each (l := l) (M := 1099513724928) (fun nm => Frs.get_len hls (by rw [hl.1]; exact hn) nm) (by omega))
  have HN0 : Hid (Val.askL l = [] → Val.unchL (Val.askL l) 200 l = false) := Lib.hid Val.ask_none
  have HN1 : Hid (Val.askL l ≠ [] → (∀ f ∈ Val.askL l, ∀ b ∈ f.2, b ≠ 92) → Val.unchL (Val.askL l) 200 l = true) := Lib.hid Val.ask_known
  generalize Val.askL l = R at *
  go_wp2_with fail
  refine hC.mono ?_
  rintro x w6 ⟨A5, n5, c5, rfl, hR, hb6⟩
  clear hC hA1 hno
  replace hR := hR.rd
  replace hr1 := row_keep hr1 hb6
  replace hl := hl.step hb6
  replace hb0 := bnext hb0 hb6 hb0.size
  clear hb6
  have hn5 : n5 ≤ 2 := by have := HAL.out; have := hR.1; omega
  have HU : Hid (∀ (A1 : Option Addr) (n1 c1 : Nat) (W : World), RdF W A5 n5 R → RdF W A1 n1 l → n1 ≤ 1048576 → Calls Tryz.prog 17 #[.slice A5 n5 c5, .agg #[.int .i64 200, .string (bs rs), .int .i64 minor, .slice A1 n1 c1]] W fun x w' => x = .returned (.bool (Val.unchL R 200 l)) ∧ Below W.heap.size W w') := Lib.hid fun A1 n1 c1 W h1 h2 h3 =>
    unch_p 1099513724928 A5 n5 c5 R 200 rs minor A1 n1 c1 l W h1 (by omega) (fun f hf => by have := HG.out f hf; omega) (fun f hf => (HG.out f hf).2) (Nat.le_trans (Nat.mul_le_mul hn5 (Nat.le_refl _)) (by omega)) (by omega) h2 h3 hls
  have hvl : ∀ f ∈ R, f.2.length ≤ 1099513724928 := fun f hf => (HG.out f hf).2
  clear hls hf HG
  by_cases he : R = []
  · have hn0 : n5 = 0 := by have := hR.1; rw [he] at this; exact this.symm
    have HF := Lib.hid (HN0.out he)
    clear HN0 HN1 hvl
    subst hn0
    clear he
    obtain ⟨a0, a1, a2, a3, -⟩ := row_facts4 hr1
    have hC := copyResponse_any 200 rs minor A n c l _ hl hn
    unfold respV at hC
    go_wp2_with fail
    refine hC.mono ?_
    rintro x wc ⟨Ao, no, co, rfl, hA1, hbc⟩
    clear hC
    clear a0 a1 a2 a3
    replace hR := hR.step hbc
    replace hb0 := bnext hb0 hbc hb0.size
    have hno : no ≤ 1048576 := by have := hA1.1; have := hl.1; omega
    have hC := HU.out Ao no co wc hR hA1 hno
    rw [HF.out] at hC
    go_wp2_with fail
    refine hC.mono ?_
    rintro x w7 ⟨rfl, hb7⟩
    replace hb0 := bnext hb0 hb7 hb0.size
    clear hC hbc hb7 hA1 hr1
    go_wp2
    go_ret
    exact ⟨rfl, hb0⟩
  · have hpos : 0 < n5 := by have := hR.1; rw [← this]; exact List.length_pos_iff.2 he
    have HN2 := Lib.hid (HN1.out he)
    clear HN0 HN1 he
    go_wp2
    go_loopw [4] (fun t wr => ∃ k : Nat, k ≤ n5 ∧ t = .int .i64 k ∧ Hid (∀ f ∈ R.take k, ∀ b ∈ f.2, b ≠ 92) ∧ wr = w6) (fun t _ => n5 - (intOf t).toNat)
    case atStart => exact ⟨0, by omega, rfl, Lib.hid (by simp), rfl⟩
    case round =>
      obtain ⟨k, hk, rfl, HA, hw⟩ := hrel
      subst hw
      by_cases hlt : k < n5
      · obtain ⟨g, o, nm, vl, rfl, hg, HX, hc1, hc2⟩ := hR.at_ hlt
        have hvl1 : vl.length ≤ 1099513724928 := hvl _ (mem_of_get? HX.out)
        obtain ⟨wo, rfl⟩ : ∃ wo, wo = wr := ⟨_, rfl⟩
        go_wp2
        go_loopw [5] (fun t wr => ∃ j : Nat, j ≤ vl.length ∧ t = .int .i64 j ∧ Hid (∀ b ∈ vl.take j, b ≠ 92) ∧ wr = wo) (fun t _ => vl.length - (intOf t).toNat)
        case atStart => exact ⟨0, by omega, rfl, Lib.hid (by simp), rfl⟩
        case round =>
          obtain ⟨j, hj, rfl, HB, hw⟩ := hrel
          subst hw
          by_cases hlj : j < vl.length
          · by_cases hb : vl[j] = 92
            · have hb1 : ((vl[j].toNat : Int) == 92) = true := by rw [hb]; rfl
              have hb2 : (vl[j].toNat : Int) = 92 := by rw [hb]; rfl
              clear hb
              go_wp2
              go_ret
              exact ⟨rfl, hb0⟩
            · have HC : Hid (∀ b ∈ vl.take (j + 1), b ≠ 92) := Lib.hid fun b hm => by
                rw [take_snoc? (List.getElem?_eq_getElem hlj), List.mem_append, List.mem_singleton] at hm
                rcases hm with hm | rfl
                · exact HB.out b hm
                · exact hb
              have hb2 : ¬ ((vl[j].toNat : Int) = 92) := by
                intro h'; apply hb; apply UInt8.toNat_inj.1; simpa using Int.ofNat.inj h'
              have hb1 : ((vl[j].toNat : Int) == 92) = false := by simpa using hb2
              clear hb
              go_wp2
              go_roundw
              case rel => exact ⟨j + 1, by omega, by go_num, HC, by trivial⟩
              case measure => simp [intOf]; omega
          · obtain rfl : j = vl.length := by omega
            have HC : Hid (∀ f ∈ R.take (k + 1), ∀ b ∈ f.2, b ≠ 92) := Lib.hid fun f hm => by
              rw [take_snoc? HX.out, List.mem_append, List.mem_singleton] at hm
              rcases hm with hm | rfl
              · exact HA.out f hm
              · have h := HB.out
                rw [List.take_of_length_le (Nat.le_refl _)] at h
                exact h
            go_wp2
            go_roundw
            case rel => exact ⟨k + 1, by omega, by go_num, HC, by trivial⟩
            case measure => simp [intOf]; omega
      · obtain rfl : k = n5 := by omega
        have HF := Lib.hid (HN2.out (by have h := HA.out; rw [List.take_of_length_le (by rw [hR.1]; exact Nat.le_refl _)] at h; exact h))
        clear HA HN2 hvl
        obtain ⟨a0, a1, a2, a3, -⟩ := row_facts4 hr1
        have hC := copyResponse_any 200 rs minor A n c l _ hl hn
        unfold respV at hC
        go_wp2_with fail
        refine hC.mono ?_
        rintro x wc ⟨Ao, no, co, rfl, hA1, hbc⟩
        clear hC
        clear a0 a1 a2 a3
        replace hR := hR.step hbc
        replace hb0 := bnext hb0 hbc hb0.size
        have hno : no ≤ 1048576 := by have := hA1.1; have := hl.1; omega
        have hC := HU.out Ao no co wc hR hA1 hno
        rw [HF.out] at hC
        go_wp2_with fail
        refine hC.mono ?_
        rintro x w7 ⟨rfl, hb7⟩
        replace hb0 := bnext hb0 hb7 hb0.size
        clear hC hbc hb7 hA1 hr1
        go_wp2
        go_ret
        exact ⟨rfl, hb0⟩

theorem own : ownKnob Tryz.prog.godebug = none := by kernel_rfl
theorem contract (H : Type) (enc : TypeId × Value → H) (W : World) (base : Nat) (args : Array Value) (ds gs : List (DataW H)) (before : List MemPlace)
    (hval : ∀ (j : Nat) t v, Tryz.f6.params[j]? = some t → args[j]? = some v → Value.okWide Tryz.prog W .any base t v)
    (hW : DataW.Whole enc Tryz.prog Tryz.f6.params.toList Rows.validKnownSpec.vars false W args.toList ds gs before) (hk : Rows.uptoSmall H (ds ++ gs) = true) :
    Calls Tryz.prog 6 args W fun e W' => ∃ v, e = .returned v ∧ Rows.validKnownSpec.post enc Tryz.prog Tryz.f6 false true false false W args v W' := by
  have hW' := hW
  obtain ⟨p, q, hA0, hV, rfl, hfz, hnd⟩ := hW
  have hA : DataW.TrodAll enc Tryz.prog W 0 (fun _ => true) true Tryz.f6.params.toList args.toList ds p := hA0
  rw [Tryz.params6] at hA hval
  obtain ⟨v0, vs0, d0, ds0, p0, q0, hargs, rfl, rfl, h0, r0⟩ := trodAll_cons hA
  obtain ⟨rfl, rfl, rfl⟩ := trodAll_nil r0
  obtain rfl : args = #[v0] := by cases args; simp_all
  obtain ⟨rfl, rfl⟩ := trodVars_none hV
  have hall := bulks.bound hk
  simp only [List.append_nil, Rows.uptoBulkAll] at hall
  have hb0 : Rows.uptoBulk d0 ≤ 1048576 := by omega
  clear hall
  obtain ⟨st0, rs0, x0, A0, n0, c0, l0, rfl, hr0, hn0, hf0, hc0, hd0, hs0, ht0⟩ := opResp (hval 0 24 v0 rfl rfl) h0 hb0
  clear hA0
  refine (walk W st0 hs0 ht0 rs0 x0 A0 n0 c0 l0 hr0 hn0 hf0 hc0 hd0).mono fun e W' ⟨he, hg⟩ => ?_
  subst he
  exact ⟨_, rfl, post_of_below (pa := p0 ++ ([])) (pv := []) hW' (fun _ _ _ => (trodAll_cons_mk (shut_bool Tryz.underlying4 _) trodAll_mk0)) (fun sp hsp => (trodAll_cons_mk (arg_stays laidOut (by kernel_rfl) (of_decide_eq_true (by kernel_rfl)) h0 hg (fun x hx => hW'.lt x (by simp [hx])) sp (fun x hx => hsp x (by simp [hx]))) trodAll_mk0)) (fun _ _ => rfl) rfl
    hg (ok_one (by kernel_rfl) rfl (okWide_bool_mk Tryz.underlying4 _))⟩

/-- A world for the witness: the settled one, the listed variables holding what the program lays. -/
noncomputable def laidWorld (os : Os) : World :=
  { (World.holding Tryz.prog os ⟨#[.cells #[.string ⟨#[118, 97, 108, 117, 101, 32, 111, 117, 116, 32, 111, 102, 32, 114, 97, 110, 103, 101]⟩] 144, .cells #[.string ⟨#[105, 110, 118, 97, 108, 105, 100, 32, 115, 121, 110, 116, 97, 120]⟩] 144], #[], []⟩) with heap := ((((((((World.holding Tryz.prog os ⟨#[.cells #[.string ⟨#[118, 97, 108, 117, 101, 32, 111, 117, 116, 32, 111, 102, 32, 114, 97, 110, 103, 101]⟩] 144, .cells #[.string ⟨#[105, 110, 118, 97, 108, 105, 100, 32, 115, 121, 110, 116, 97, 120]⟩] 144], #[], []⟩).heap.modify 6 fun
      | .cells _ t frozen => .cells #[.int .u8 0, .int .u8 1, .int .u8 28, .int .u8 2, .int .u8 29, .int .u8 14, .int .u8 24, .int .u8 3, .int .u8 30, .int .u8 22, .int .u8 20, .int .u8 15, .int .u8 25, .int .u8 17, .int .u8 4, .int .u8 8, .int .u8 31, .int .u8 27, .int .u8 13, .int .u8 23, .int .u8 21, .int .u8 19, .int .u8 16, .int .u8 7, .int .u8 26, .int .u8 12, .int .u8 18, .int .u8 6, .int .u8 11, .int .u8 5, .int .u8 10, .int .u8 9] t frozen
      | o => o).modify 7 fun
      | .cells _ t frozen => .cells #[.int .u8 0, .int .u8 1, .int .u8 56, .int .u8 2, .int .u8 57, .int .u8 49, .int .u8 28, .int .u8 3, .int .u8 61, .int .u8 58, .int .u8 42, .int .u8 50, .int .u8 38, .int .u8 29, .int .u8 17, .int .u8 4, .int .u8 62, .int .u8 47, .int .u8 59, .int .u8 36, .int .u8 45, .int .u8 43, .int .u8 51, .int .u8 22, .int .u8 53, .int .u8 39, .int .u8 33, .int .u8 30, .int .u8 24, .int .u8 18, .int .u8 12, .int .u8 5, .int .u8 63, .int .u8 55, .int .u8 48, .int .u8 27, .int .u8 60, .int .u8 41, .int .u8 37, .int .u8 16, .int .u8 46, .int .u8 35, .int .u8 44, .int .u8 21, .int .u8 52, .int .u8 32, .int .u8 23, .int .u8 11, .int .u8 54, .int .u8 26, .int .u8 40, .int .u8 15, .int .u8 34, .int .u8 20, .int .u8 31, .int .u8 10, .int .u8 25, .int .u8 14, .int .u8 19, .int .u8 9, .int .u8 13, .int .u8 8, .int .u8 7, .int .u8 6] t frozen
      | o => o).modify 5 fun
      | .cells _ t frozen => .cells #[.int .u64 1, .int .u64 10, .int .u64 100, .int .u64 1000, .int .u64 10000, .int .u64 100000, .int .u64 1000000, .int .u64 10000000, .int .u64 100000000, .int .u64 1000000000, .int .u64 10000000000, .int .u64 100000000000, .int .u64 1000000000000, .int .u64 10000000000000, .int .u64 100000000000000, .int .u64 1000000000000000, .int .u64 10000000000000000, .int .u64 100000000000000000, .int .u64 1000000000000000000, .int .u64 10000000000000000000] t frozen
      | o => o).modify 4 fun
      | .cells _ t frozen => .cells #[.int .u8 128, .int .u8 191, .int .u8 160, .int .u8 191, .int .u8 128, .int .u8 159, .int .u8 144, .int .u8 191, .int .u8 128, .int .u8 143, .int .u8 0, .int .u8 0, .int .u8 0, .int .u8 0, .int .u8 0, .int .u8 0, .int .u8 0, .int .u8 0, .int .u8 0, .int .u8 0, .int .u8 0, .int .u8 0, .int .u8 0, .int .u8 0, .int .u8 0, .int .u8 0, .int .u8 0, .int .u8 0, .int .u8 0, .int .u8 0, .int .u8 0, .int .u8 0] t frozen
      | o => o).modify 2 fun
      | .cells _ t frozen => .cells #[.iface 142 (.pointer (some ⟨(World.settled Tryz.prog os).heap.size + 0, 0, none⟩))] t frozen
      | o => o).modify 1 fun
      | .cells _ t frozen => .cells #[.iface 142 (.pointer (some ⟨(World.settled Tryz.prog os).heap.size + 1, 0, none⟩))] t frozen
      | o => o).modify 3 fun
      | .cells _ t frozen => .cells (Go.Pinned.utf8FirstZ.map fun (n : Nat) => Value.int .u8 (n : Int)).toArray t frozen
      | o => o) }
theorem laid_met (os : Os) : laidMet Tryz.prog Rows.validKnownUptoRow.laid ((laidWorld os).forCall (fun _ _ => 0) ⟨#[], #[.agg #[.int .i64 0, .string ⟨#[]⟩, .int .i64 0, .slice none 0 0]], []⟩).memory :=
  laidMet_of_run' 8 (by kernel_rfl) (by kernel_rfl)

theorem reads (os : Os) {H : Type} (enc : TypeId × Value → H) : ∃ places, DataW.whole enc Tryz.prog ((laidWorld os).forCall (fun _ _ => 0) ⟨#[], #[.agg #[.int .i64 0, .string ⟨#[]⟩, .int .i64 0, .slice none 0 0]], []⟩).memory Tryz.f6.params.toList Rows.validKnownSpec.vars false #[.agg #[.int .i64 0, .string ⟨#[]⟩, .int .i64 0, .slice none 0 0]].toList 8 = some ([.agg [.lit (.int .i64 0), .lit (.string []), .lit (.int .i64 0), .nil]], [], places) :=
  ⟨[], by kernel_rfl⟩

set_option maxRecDepth 100000 in
theorem liftedUpto (os : Os) (started : os.Started) (H : Type) (enc : TypeId × Value → H) (F : Stop.Interp) :
    ReturnsInHanded {} Tryz.checked os 6 .any ((Rows.OpenSpec.upto Rows.validKnownSpec).preRow enc Tryz.prog Tryz.f6 Rows.validKnownUptoRow.domain false Rows.validKnownUptoRow.laid) (((Rows.OpenSpec.upto Rows.validKnownSpec).at F).post enc Tryz.prog Tryz.f6 false true false false) := by
  obtain ⟨places, hx⟩ := reads os enc
  refine returnsInHanded_of_row (C := Tryz.checked) (s := Rows.OpenSpec.upto Rows.validKnownSpec) own started (by kernel_rfl) Tryz.func6
    (witness_row_atRef (enc := enc) (C := Tryz.checked) false (laidWorld os) #[.agg #[.int .i64 0, .string ⟨#[]⟩, .int .i64 0, .slice none 0 0]] rfl (by kernel_rfl) (by kernel_rfl) (by kernel_rfl)
      (OpenSpec.preRow_of_cond 8 hx (by kernel_rfl) (fun k hk => by cases hk; kernel_rfl) (by kernel_rfl) (laid_met os))) ?_
  intro W base args ds gs before hval hW g1 hcond g2 g3 g4 g5
  exact contract H enc W base args ds gs before hval hW (hcond _ rfl)

theorem saidUpto : Rows.ValidKnownUptoSaid :=
  OpenClaim.holds_of_cond 6 Tryz.f6 rfl rfl rfl rfl rfl rfl rfl ⟨rfl, rfl, rfl, rfl, rfl⟩ rfl rfl rfl rfl rfl (by kernel_rfl) Tryz.func6 (by kernel_rfl)
    (of_decide_eq_true (by kernel_rfl)) (by unfold Func.isWrapper; first | (rw [if_pos (by decide +kernel)]; kernel_rfl) | (rw [if_neg (by decide +kernel)]; exact ⟨rfl, rfl⟩))
    (fun os started H enc _ F => by rw [OpenClaim.pre_eq_preRow]; exact liftedUpto os started H enc F)

theorem plain (f : FuncId) (fn : Func) (hf : Tryz.pinned.checked.prog.funcNamed "conduit/conduitlaw18.ValidKnown" = some f) (hfn : Tryz.pinned.checked.prog.funcs[f]? = some fn) :
    true = Tryz.pinned.checked.prog.looks [] ∧ ∀ (j : Nat) t, fn.params[j]? = some t → Tryz.pinned.checked.prog.wantsStandIn t = false := by
  obtain rfl : f = 6 := Option.some.inj ((show Tryz.prog.funcNamed "conduit/conduitlaw18.ValidKnown" = some 6 by kernel_rfl).symm.trans hf) |>.symm
  obtain rfl : fn = Tryz.f6 := (Option.some.inj (Tryz.func6.symm.trans hfn)).symm
  refine ⟨by kernel_rfl, fun j t ht => ?_⟩
  rw [Tryz.params6] at ht
  have hm := Array.mem_of_getElem? ht
  simp only [List.mem_toArray, List.mem_cons, List.not_mem_nil, or_false] at hm
  rcases hm with rfl
  · exact (show Tryz.prog.wantsStandIn 24 = false by kernel_rfl)

theorem proved : Rows.ValidKnownUptoCardSaid :=
  Claim7.holds_tied_plain_at .later [] _ _ _ _ saidUpto (fun _ h => by cases h) (by kernel_rfl) (fun _ h => by cases h) validKnownUpto_row_tie rfl ⟨rfl, rfl⟩ (by kernel_rfl) rfl plain (by kernel_rfl)
end Go.Proofs.YtbigcdmkfcmegaaGreatDoor.validKnown
