/- AclHosts: for every input within the second form's bound the law answers true and leaves its arguments as they were. Condition: the bulk of the arguments at most 1048576. -/
import Derived.Test.YtgkphjbcaidcpaaGreatDoorCards
import Derived.Test.YtgkphjbcaidcpaaGreatDoorTie
import Derived.Test.YtgkphjbcaidcpaaGreatDoorM23
import Derived.WalkKit
import Derived.ProofKit
import Derived.OpenShut
import Derived.JoinedCond
import Derived.Deep.DeepHandedRow
import Derived.Deep.DeepWitnessRowRef
import Derived.Lib.LaidTab
import Derived.Lay
set_option linter.unusedVariables false
set_option linter.unusedSimpArgs false
set_option maxRecDepth 100000
namespace Go.Proofs.YtgkphjbcaidcpaaGreatDoor.aclHosts
open Go.ChangeShapes Go.WideShapes Go.ChangeAt Go.RowKit

set_option maxHeartbeats 4000000 in
theorem walk (w : World) (hM : MaxL w) (h : List UInt8) (hh : h.length ≤ 1048576) (x : List UInt8) (hx : x.length ≤ 1048576) (a : Ac.Ask) (ha : a.host.length ≤ 1048576 ∧ a.meth.length ≤ 1048576 ∧ a.path.length ≤ 1048576 ∧ -9223372036854775808 ≤ a.now ∧ a.now ≤ 9223372036854775807) :
    Calls Tryz.prog 6 #[.string (bs h), .string (bs x), askV a] w fun e w' => e = .returned (.bool true) ∧ Below w.heap.size w w' := by
  have hAl := Lib.hid fun W hM => alive_any W hM
  have hP := Lib.hid fun W hM => parse_any (Ac.hosts1 ++ h ++ 10 :: Ac.hosts2) W hM (by simp [Ac.hosts1, Ac.hosts2]; omega)
  have HPL := Lib.hid (Ac.parse_hosts h)
  have HA := Lib.hid ha
  have hal := alloc_below w (.cells #[.int .i64 a.src, .string (bs a.host), .int .i64 a.port, .string (bs a.meth), .string (bs a.path), .int .i64 a.now] 37)
  have hr0 := heap_alloc_new w (.cells #[.int .i64 a.src, .string (bs a.host), .int .i64 a.port, .string (bs a.meth), .string (bs a.path), .int .i64 a.now] 37)
  have hM1 := maxl_b hM hal
  unfold askV
  go_enter Tryz.func6, Tryz.ntmps6
  go_upto_region 1 with fail
  generalize w.alloc (.cells #[.int .i64 a.src, .string (bs a.host), .int .i64 a.port, .string (bs a.meth), .string (bs a.path), .int .i64 a.now] 37) = w1 at *
  have HR0 := Lib.hid hr0
  have HAL := Lib.hid hal
  have hA1 := hAl.out w1 hM1
  clear ha hal hr0
  go_wp2_with fail
  refine hA1.mono ?_
  rintro e w2 ⟨rfl, hb2⟩
  have hM2 := maxl_b hM1 hb2
  have hP2 := hP.out w2 hM2
  unfold ParseOut at hP2
  have hbs : bs (Ac.hosts1 ++ h ++ 10 :: Ac.hosts2) = ⟨#[97, 99, 108, 32, 120, 32, 104, 111, 115, 116, 32, 46]⟩ ++ bs h ++ ⟨#[10, 97, 108, 108, 111, 119, 32, 120]⟩ := by rw [← bs_append, ← bs_append]; rfl
  rw [hbs] at hP2
  have HM2 := Lib.hid hM2
  clear hA1 hbs hM2 hM1
  go_wp2_with fail
  refine hP2.mono ?_
  rintro e w3 ⟨v, rfl, hz, hn, hb3⟩
  clear hP2
  generalize hres : Ac.parse (Ac.hosts1 ++ h ++ 10 :: Ac.hosts2) = RES at *
  have HRES := Lib.hid hres
  clear hres
  have hb23 := bnext hb2 hb3 hb2.size
  have HB := Lib.hid (bnext HAL.out hb23 HAL.out.size)
  have HR3 := Lib.hid ((hb23.block _ (Array.getElem?_eq_some_iff.1 HR0.out).1).trans HR0.out)
  have HS3 := Lib.hid hb2.size
  have HGL := Lib.hid (Array.getElem?_eq_some_iff.1 HR0.out).1
  have HM3 := Lib.hid (maxl_b HM2.out hb3)
  have HMX := Lib.hid (maxl_lt hM)
  clear hb2 hb3 hb23 HR0
  by_cases hz0 : RES.2.2 = 0
  · obtain ⟨g, rfl, hL⟩ := hz hz0
    have HLL := Lib.hid hL
    rw [hz0]
    clear hz hn hL
    have HH : Hid (∀ b ∈ h, Ac.blk b = false → True) := Lib.hid fun _ _ _ => trivial
    go_wp2
    go_loop [10] (fun t => ∃ k : Nat, k ≤ h.length ∧ t = .int .i64 (k : Int) ∧ Hid (∀ b ∈ h.take k, Ac.blk b = false ∧ b ≠ 10)) (fun t => h.length - (intOf t).toNat)
    case atStart => exact ⟨0, by omega, rfl, Lib.hid fun b hb => by simp at hb⟩
    case round =>
      obtain ⟨k, hk, rfl, HT⟩ := hrel
      by_cases hlt : k < h.length
      · by_cases q1 : (h[k].toNat : Int) = 32
        · have i1 : ((h[k].toNat : Int) == 32) = true := by rw [beq_iff_eq]; exact q1
          clear q1
          go_wp2
          go_ret
          exact ⟨rfl, HB.out⟩
        have i1 : ((h[k].toNat : Int) == 32) = false := by rw [beq_eq_false_iff_ne]; exact q1
        by_cases q2 : (h[k].toNat : Int) = 9
        · have i2 : ((h[k].toNat : Int) == 9) = true := by rw [beq_iff_eq]; exact q2
          clear q1 q2
          go_wp2
          go_ret
          exact ⟨rfl, HB.out⟩
        have i2 : ((h[k].toNat : Int) == 9) = false := by rw [beq_eq_false_iff_ne]; exact q2
        by_cases q3 : (h[k].toNat : Int) = 10
        · have i3 : ((h[k].toNat : Int) == 10) = true := by rw [beq_iff_eq]; exact q3
          clear q1 q2 q3
          go_wp2
          go_ret
          exact ⟨rfl, HB.out⟩
        have i3 : ((h[k].toNat : Int) == 10) = false := by rw [beq_eq_false_iff_ne]; exact q3
        have HT2 : Hid (∀ b ∈ h.take (k + 1), Ac.blk b = false ∧ b ≠ 10) := Lib.hid fun b hb => by
          rw [take_snoc h k hlt] at hb
          rcases List.mem_append.1 hb with h1 | h1
          · exact HT.out b h1
          · rw [List.mem_singleton.1 h1]
            refine ⟨?_, fun e => q3 (by rw [e]; rfl)⟩
            unfold Ac.blk
            rw [Bool.or_eq_false_iff, beq_eq_false_iff_ne, beq_eq_false_iff_ne]
            exact ⟨fun e => q1 (by rw [e]; rfl), fun e => q2 (by rw [e]; rfl)⟩
        clear q1 q2 q3
        go_wp2
        go_round
        case rel => exact ⟨k + 1, by omega, by go_num, HT2⟩
        case measure => simp [intOf]; omega
      · obtain rfl : k = h.length := by omega
        have hT := HT.out
        rw [List.take_length] at hT
        have hpl := HPL.out (fun b hb => (hT b hb).1) (fun b hb => (hT b hb).2)
        have hL1 : RES.1 = Ac.hostsL h := by
          split at hpl
          · rw [hpl]
          · rw [hpl] at hz0; cases hz0
        have hLL := HLL.out
        rw [hL1] at hLL
        have HLL2 := Lib.hid hLL
        clear hT hpl hL1 hLL
        have hS3 : HSt w w3 w3 w2.heap.size a (bs a.host) := ⟨HR3.out, fun _ _ _ => rfl, Nat.le_refl _, Nat.lt_of_lt_of_le HGL.out HS3.out, HMX.out, HM3.out, HB.out⟩
        obtain ⟨c0, c1, c2, c3, c4, c5, f1⟩ := hS3.facts
        have hS4 := hS3.set (bs h)
        obtain ⟨d0, d1, d2, d3, d4, d5, -⟩ := hS4.facts
        have hD4 := dec_hosts g h a h _ hS4.ml HA.out.2 (by omega) (Ac.hosts_eq h _ rfl) (HLL2.out _ hS4.st)
        have HS4 := Lib.hid hS4
        clear hS3 hS4
        go_upto_region 12 with fail
        clear c0 c1 c2 c3 c4 c5 f1
        generalize w3.setCell ⟨w.heap.size, 1, none⟩ (.string (bs h)) = w4 at *
        go_wp2_with fail
        refine hD4.mono ?_
        rintro e w5 ⟨rfl, hb5⟩
        have HS5 := Lib.hid (HS4.out.step hb5)
        have hLw := lower_any h w5 (by omega)
        clear hD4 hb5 d0 d1 d2 d3 d4 d5
        go_wp2_with fail
        refine hLw.mono ?_
        rintro e w6 ⟨rfl, hb6⟩
        have hS6 := HS5.out.step hb6
        obtain ⟨c0, c1, c2, c3, c4, c5, f1⟩ := hS6.facts
        have hS7 := hS6.set (bs (fold h))
        obtain ⟨d0, d1, d2, d3, d4, d5, -⟩ := hS7.facts
        have hfl := fold_length h
        have hD7 := dec_hosts g h a (fold h) _ hS7.ml HA.out.2 (by omega) (Ac.hosts_eq h _ (Ac.fold_fold2 h)) (HLL2.out _ hS7.st)
        have HS7 := Lib.hid hS7
        clear hS6 hS7 hLw hb6 hfl
        go_upto_region 14 with fail
        clear c0 c1 c2 c3 c4 c5 f1
        generalize w6.setCell ⟨w.heap.size, 1, none⟩ (.string (bs (fold h))) = w7 at *
        go_wp2_with fail
        refine hD7.mono ?_
        rintro e w8 ⟨rfl, hb8⟩
        have hS8 := HS7.out.step hb8
        obtain ⟨c0, c1, c2, c3, c4, c5, f1⟩ := hS8.facts
        have hbx : bs (x ++ 46 :: h) = bs x ++ ⟨#[46]⟩ ++ bs h := by rw [show x ++ 46 :: h = x ++ [46] ++ h from by simp, ← bs_append, ← bs_append]; rfl
        have hS9 := hS8.set (bs (x ++ 46 :: h))
        have hD9 := dec_hosts g h a (x ++ 46 :: h) _ hS9.ml HA.out.2 (by simp; omega) (Ac.hosts_suf h x _ rfl) (HLL2.out _ hS9.st)
        rw [hbx] at hS9 hD9
        obtain ⟨d0, d1, d2, d3, d4, d5, -⟩ := hS9.facts
        have HS9 := Lib.hid hS9
        clear hS8 hS9 hD7 hb8 hbx
        go_upto_region 16 with fail
        clear c0 c1 c2 c3 c4 c5 f1
        generalize w8.setCell ⟨w.heap.size, 1, none⟩ (.string (bs x ++ ⟨#[46]⟩ ++ bs h)) = w9 at *
        go_wp2_with fail
        refine hD9.mono ?_
        rintro e w10 ⟨rfl, hb10⟩
        have HS10 := Lib.hid (HS9.out.step hb10)
        clear hD9 hb10 d0 d1 d2 d3 d4 d5
        go_wp2
        go_ret
        exact ⟨rfl, HS10.out.bl⟩
  · have hz9 : (RES.2.2 != 0) = true := by rw [bne_iff_ne]; exact hz0
    obtain rfl := hn hz0
    clear hz hn
    go_wp2
    go_ret
    exact ⟨rfl, HB.out⟩

theorem own : ownKnob Tryz.prog.godebug = none := by kernel_rfl
theorem contract (H : Type) (enc : TypeId × Value → H) (W : World) (base : Nat) (args : Array Value) (ds gs : List (DataW H)) (before : List MemPlace)
    (hval : ∀ (j : Nat) t v, Tryz.f6.params[j]? = some t → args[j]? = some v → Value.okWide Tryz.prog W .any base t v)
    (hW : DataW.Whole enc Tryz.prog Tryz.f6.params.toList Rows.aclHostsSpec.vars false W args.toList ds gs before) (hk : Rows.uptoSmall H (ds ++ gs) = true) (hmax : MaxL W) :
    Calls Tryz.prog 6 args W fun e W' => ∃ v, e = .returned v ∧ Rows.aclHostsSpec.post enc Tryz.prog Tryz.f6 false true false false W args v W' := by
  have hW' := hW
  obtain ⟨p, q, hA0, hV, rfl, hfz, hnd⟩ := hW
  have hA : DataW.TrodAll enc Tryz.prog W 0 (fun _ => true) true Tryz.f6.params.toList args.toList ds p := hA0
  rw [Tryz.params6] at hA hval
  obtain ⟨v0, vs0, d0, ds0, p0, q0, hargs, rfl, rfl, h0, r0⟩ := trodAll_cons hA
  obtain ⟨v1, vs1, d1, ds1, p1, q1, rfl, rfl, rfl, h1, r1⟩ := trodAll_cons r0
  obtain ⟨v2, vs2, d2, ds2, p2, q2, rfl, rfl, rfl, h2, r2⟩ := trodAll_cons r1
  obtain ⟨rfl, rfl, rfl⟩ := trodAll_nil r2
  obtain rfl : args = #[v0, v1, v2] := by cases args; simp_all
  obtain ⟨rfl, rfl⟩ := trodVars_none hV
  have hall := bulks.bound hk
  simp only [List.append_nil, Rows.uptoBulkAll] at hall
  have hb0 : Rows.uptoBulk d0 ≤ 1048576 := by omega
  have hb1 : Rows.uptoBulk d1 ≤ 1048576 := by omega
  have hb2 : Rows.uptoBulk d2 ≤ 1048576 := by omega
  clear hall
  obtain ⟨s0, rfl, e0⟩ := opS (hval 0 9 v0 rfl rfl) h0
  obtain ⟨s1, rfl, e1⟩ := opS (hval 1 9 v1 rfl rfl) h1
  obtain ⟨a2, rfl, ha2⟩ := opAsk (hval 2 37 v2 rfl rfl) h2 hb2
  have hl0 : s0.length ≤ 1048576 := by have := hb0; rw [e0, bulks.string_eq] at this; omega
  have hl1 : s1.length ≤ 1048576 := by have := hb1; rw [e1, bulks.string_eq] at this; omega
  clear hA0
  refine (walk W hmax s0 hl0 s1 hl1 a2 ha2).mono fun e W' ⟨he, hg⟩ => ?_
  subst he
  exact ⟨_, rfl, post_of_below (pa := p0 ++ (p1 ++ (p2 ++ ([])))) (pv := []) hW' (fun _ _ _ => (trodAll_cons_mk (shut_bool Tryz.underlying4 _) trodAll_mk0)) (fun sp hsp => (trodAll_cons_mk (arg_stays laidOut (by kernel_rfl) (of_decide_eq_true (by kernel_rfl)) h0 hg (fun x hx => hW'.lt x (by simp [hx])) sp (fun x hx => hsp x (by simp [hx]))) (trodAll_cons_mk (arg_stays laidOut (by kernel_rfl) (of_decide_eq_true (by kernel_rfl)) h1 hg (fun x hx => hW'.lt x (by simp [hx])) sp (fun x hx => hsp x (by simp [hx]))) (trodAll_cons_mk (arg_stays laidOut (by kernel_rfl) (of_decide_eq_true (by kernel_rfl)) h2 hg (fun x hx => hW'.lt x (by simp [hx])) sp (fun x hx => hsp x (by simp [hx]))) trodAll_mk0)))) (fun _ _ => rfl) rfl
    hg (ok_one (by kernel_rfl) rfl (okWide_bool_mk Tryz.underlying4 _))⟩

/-- A world for the witness: the listed variables hold what the program lays. -/
noncomputable def laidWorld (os : Os) : World := World.laidAll Tryz.prog os Rows.aclHostsUptoRow.laid
set_option maxRecDepth 1000000 in
theorem laid_met (os : Os) : laidMet Tryz.prog Rows.aclHostsUptoRow.laid ((laidWorld os).forCall (fun _ _ => 0) ⟨#[], #[.string ⟨#[]⟩, .string ⟨#[]⟩, .agg #[.int .i64 0, .string ⟨#[]⟩, .int .i64 0, .string ⟨#[]⟩, .string ⟨#[]⟩, .int .i64 0]], []⟩).memory :=
  laidMet_laidAll _ (by kernel_rfl) (by kernel_rfl)

theorem reads (os : Os) {H : Type} (enc : TypeId × Value → H) : ∃ places, DataW.whole enc Tryz.prog ((laidWorld os).forCall (fun _ _ => 0) ⟨#[], #[.string ⟨#[]⟩, .string ⟨#[]⟩, .agg #[.int .i64 0, .string ⟨#[]⟩, .int .i64 0, .string ⟨#[]⟩, .string ⟨#[]⟩, .int .i64 0]], []⟩).memory Tryz.f6.params.toList Rows.aclHostsSpec.vars false #[.string ⟨#[]⟩, .string ⟨#[]⟩, .agg #[.int .i64 0, .string ⟨#[]⟩, .int .i64 0, .string ⟨#[]⟩, .string ⟨#[]⟩, .int .i64 0]].toList 8 = some ([.lit (.string []), .lit (.string []), .agg [.lit (.int .i64 0), .lit (.string []), .lit (.int .i64 0), .lit (.string []), .lit (.string []), .lit (.int .i64 0)]], [], places) :=
  ⟨[], by kernel_rfl⟩

set_option maxRecDepth 100000 in
theorem liftedUpto (os : Os) (started : os.Started) (H : Type) (enc : TypeId × Value → H) (F : Stop.Interp) :
    ReturnsInHanded {} Tryz.checked os 6 .any ((Rows.OpenSpec.upto Rows.aclHostsSpec).preRow enc Tryz.prog Tryz.f6 Rows.aclHostsUptoRow.domain false Rows.aclHostsUptoRow.laid) (((Rows.OpenSpec.upto Rows.aclHostsSpec).at F).post enc Tryz.prog Tryz.f6 false true false false) := by
  obtain ⟨places, hx⟩ := reads os enc
  refine returnsInHanded_of_row (C := Tryz.checked) (s := Rows.OpenSpec.upto Rows.aclHostsSpec) own started (by kernel_rfl) Tryz.func6
    (witness_row_atRef (enc := enc) (C := Tryz.checked) false (laidWorld os) #[.string ⟨#[]⟩, .string ⟨#[]⟩, .agg #[.int .i64 0, .string ⟨#[]⟩, .int .i64 0, .string ⟨#[]⟩, .string ⟨#[]⟩, .int .i64 0]] (World.laidAll_os _ _ _) (by kernel_rfl) (by kernel_rfl) (by kernel_rfl)
      (OpenSpec.preRow_of_cond 8 hx (by kernel_rfl) (fun k hk => by cases hk; kernel_rfl) (by kernel_rfl) (laid_met os))) ?_
  intro W base args ds gs before hval hW g1 hcond g2 g3 g4 g5
  exact contract H enc W base args ds gs before hval hW (hcond _ rfl) (by first | exact maxl_of g4 | exact maxl_of g3 | exact maxl_of g2 | exact maxl_of g5 | exact maxl_of g1)

theorem saidUpto : Rows.AclHostsUptoSaid :=
  OpenClaim.holds_of_cond 6 Tryz.f6 rfl rfl rfl rfl rfl rfl rfl ⟨rfl, rfl, rfl, rfl, rfl⟩ rfl rfl rfl rfl rfl (by kernel_rfl) Tryz.func6 (by kernel_rfl)
    (of_decide_eq_true (by kernel_rfl)) (by unfold Func.isWrapper; first | (rw [if_pos (by decide +kernel)]; kernel_rfl) | (rw [if_neg (by decide +kernel)]; exact ⟨rfl, rfl⟩))
    (fun os started H enc _ F => by rw [OpenClaim.pre_eq_preRow]; exact liftedUpto os started H enc F)

theorem plain (f : FuncId) (fn : Func) (hf : Tryz.pinned.checked.prog.funcNamed "conduit/conduitlaw21.AclHosts" = some f) (hfn : Tryz.pinned.checked.prog.funcs[f]? = some fn) :
    true = Tryz.pinned.checked.prog.looks [] ∧ ∀ (j : Nat) t, fn.params[j]? = some t → Tryz.pinned.checked.prog.wantsStandIn t = false := by
  obtain rfl : f = 6 := Option.some.inj ((show Tryz.prog.funcNamed "conduit/conduitlaw21.AclHosts" = some 6 by kernel_rfl).symm.trans hf) |>.symm
  obtain rfl : fn = Tryz.f6 := (Option.some.inj (Tryz.func6.symm.trans hfn)).symm
  refine ⟨by kernel_rfl, fun j t ht => ?_⟩
  rw [Tryz.params6] at ht
  have hm := Array.mem_of_getElem? ht
  simp only [List.mem_toArray, List.mem_cons, List.not_mem_nil, or_false] at hm
  rcases hm with rfl | rfl | rfl
  · exact (show Tryz.prog.wantsStandIn 9 = false by kernel_rfl)
  · exact (show Tryz.prog.wantsStandIn 9 = false by kernel_rfl)
  · exact (show Tryz.prog.wantsStandIn 37 = false by kernel_rfl)

theorem proved : Rows.AclHostsUptoCardSaid :=
  Claim7.holds_tied_plain_at .later [] _ _ _ _ saidUpto (fun _ h => by cases h) (by kernel_rfl) (fun _ h => by cases h) aclHostsUpto_row_tie rfl ⟨rfl, rfl⟩ (by kernel_rfl) rfl plain (by kernel_rfl)
end Go.Proofs.YtgkphjbcaidcpaaGreatDoor.aclHosts
