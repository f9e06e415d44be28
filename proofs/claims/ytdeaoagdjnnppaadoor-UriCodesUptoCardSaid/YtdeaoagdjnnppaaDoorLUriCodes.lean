/- UriCodes: for every input within the second form's bound the law answers true and leaves its arguments as they were. Condition: the bulk of the arguments at most 1048576. -/
import Derived.Test.YtdeaoagdjnnppaaDoorCards
import Derived.Test.YtdeaoagdjnnppaaDoorTie
import Derived.Test.YtdeaoagdjnnppaaDoorUrF
import Derived.Test.YtdeaoagdjnnppaaDoorUrR
import Derived.BigQuiet
import Derived.Deep.QuietTactic
import Derived.Test.YtdeaoagdjnnppaaDoorUrT
import Derived.Test.YtdeaoagdjnnppaaDoorBulk
import Derived.WalkKit
import Derived.ProofKit
import Derived.OpenShut
import Derived.JoinedCond
import Derived.Deep.DeepHandedRow
import Derived.Deep.DeepWitnessRowRef
import Derived.Lib.LaidTab
import Derived.Stop.LaidErr
import Derived.Lay
set_option linter.unusedVariables false
set_option linter.unusedSimpArgs false
set_option maxRecDepth 100000
namespace Go.Proofs.YtdeaoagdjnnppaaDoor.uriCodes
open Go.ChangeShapes Go.WideShapes Go.ChangeAt Go.RowKit

theorem dig16 : ∀ n : Fin 16, (([48, 49, 50, 51, 52, 53, 54, 55, 56, 57, 97, 98, 99, 100, 101, 102] : List UInt8).drop n.val).take 1 = [if n.val < 10 then UInt8.ofNat (48 + n.val) else UInt8.ofNat (87 + n.val)] := by decide
theorem code_facts (c : UInt8) (h1 : 97 ≤ c.toNat) (h2 : c.toNat ≤ 122) : ∃ (d1 d2 : UInt8) (x y : Nat), Ur.hexv d1 = some x ∧ Ur.hexv d2 = some y ∧ Ur.code x y = [c] ∧ Ur.okC d1 = true ∧ Ur.okC d2 = true ∧
    (([48, 49, 50, 51, 52, 53, 54, 55, 56, 57, 97, 98, 99, 100, 101, 102] : List UInt8).drop (c.toNat / 16)).take 1 = [d1] ∧ (([48, 49, 50, 51, 52, 53, 54, 55, 56, 57, 97, 98, 99, 100, 101, 102] : List UInt8).drop (c.toNat % 16)).take 1 = [d2] ∧ Ur.stop c = false ∧ c ≠ 37 ∧ Ur.okC c = true := by
  obtain ⟨x, y, hx, hy, hc⟩ := Ur.letter_code ⟨c.toNat - 97, by omega⟩
  have e : 97 + (c.toNat - 97) = c.toNat := by omega
  dsimp only at hx hy hc
  rw [e] at hx hy hc
  have q := dig16 ⟨c.toNat / 16, by omega⟩
  have r := dig16 ⟨c.toNat % 16, by omega⟩
  dsimp only at q r
  rw [if_pos (by omega)] at q
  have hcc : UInt8.ofNat c.toNat = c := by simp
  rw [hcc] at hc
  have hok : ∀ {d : UInt8} {z : Nat}, Ur.hexv d = some z → Ur.okC d = true := by
    have : ∀ n : Fin 256, (match Ur.hexv (UInt8.ofNat n.val) with | some _ => Ur.okC (UInt8.ofNat n.val) | none => true) = true := by decide +kernel
    intro d z hd
    obtain ⟨n, rfl⟩ := Ur.u8_fin d
    have := this n
    rw [hd] at this
    exact this
  refine ⟨_, _, x, y, hx, hy, hc, hok hx, hok hy, q, r, ?_, ?_, ?_⟩
  · unfold Ur.stop
    have a : c ≠ 47 := by rintro rfl; simp at h1
    have b : c ≠ 63 := by rintro rfl; simp at h1
    simp [a, b]
  · rintro rfl; simp at h1
  · unfold Ur.okC
    have a : c ≠ 35 := by rintro rfl; simp at h1
    simp [a]; omega
theorem no37 {a : List UInt8} (h : a.all (fun b => !(b == 37)) = true) : ∀ u ∈ a, u ≠ 37 := fun u hu => by
  have := List.all_eq_true.1 h u hu
  simpa using this
set_option maxRecDepth 100000 in
set_option maxHeartbeats 4000000 in
theorem walk (w : World) (hM : MaxL w) (hE : ErrS w) (a : List UInt8) (ha : a.length ≤ 1048576) (b : List UInt8) (hb : b.length ≤ 1048576) (ci : Int) (c1 : 0 ≤ ci) (c2 : ci ≤ 255) :
    Calls Tryd.prog 7 #[.string (bs a), .string (bs b), .int .u8 ci] w fun e w' => e = .returned (.bool true) ∧ Below w.heap.size w w' := by
  obtain ⟨c, rfl⟩ : ∃ c : UInt8, ci = c.toNat := ⟨UInt8.ofNat ci.toNat, by rw [UInt8.toNat_ofNat']; omega⟩
  have hA := alive_any w hM hE
  by_cases hout : c.toNat < 97 ∨ 122 < c.toNat ∨ 4000 < a.length + b.length
  · have hc255 := c.toNat_lt
    by_cases g1 : c.toNat < 97
    · clear hout
      go_enter Tryd.func7, Tryd.ntmps7
      go_wp2_with fail
      refine hA.mono ?_
      rintro e w1 ⟨rfl, hb1⟩
      clear hA
      go_wp2
      go_ret
      exact ⟨rfl, hb1⟩
    · by_cases g2 : 122 < c.toNat
      · clear hout
        go_enter Tryd.func7, Tryd.ntmps7
        go_wp2_with fail
        refine hA.mono ?_
        rintro e w1 ⟨rfl, hb1⟩
        clear hA
        go_wp2
        go_ret
        exact ⟨rfl, hb1⟩
      · have g3 : (4000 : Int) < (a.length : Int) + (b.length : Int) := by omega
        clear hout
        go_enter Tryd.func7, Tryd.ntmps7
        go_wp2_with fail
        refine hA.mono ?_
        rintro e w1 ⟨rfl, hb1⟩
        clear hA
        go_wp2
        go_ret
        exact ⟨rfl, hb1⟩
  · have g1 : ¬ c.toNat < 97 := by omega
    have g2 : ¬ 122 < c.toNat := by omega
    have g3 : ¬ (4000 : Int) < (a.length : Int) + (b.length : Int) := by omega
    have g4 : a.length + b.length ≤ 4000 := by omega
    have hc255 := c.toNat_lt
    obtain ⟨d1, d2, x, y, hx, hy, hco, hd1, hd2, hq, hr, hst, h37, hok⟩ := code_facts c (by omega) (by omega)
    have HC : Hid (a.all (fun b => !(b == 37)) = true → Ur.parseL (Ur.sch ++ [104, 47] ++ a ++ [c] ++ b) = Ur.parseL (Ur.sch ++ [104, 47] ++ a ++ [37, d1, d2] ++ b)) := Lib.hid fun h => Ur.codes (no37 h) hx hy hco hst h37 hok hd1 hd2 g4
    have hP1 := fun W hm he => parse_any (Ur.sch ++ [104, 47] ++ a ++ [c] ++ b) W hm he (by simp [Ur.sch]; omega)
    have hP2 := fun W hm he => parse_any (Ur.sch ++ [104, 47] ++ a ++ [37, d1, d2] ++ b) W hm he (by simp [Ur.sch]; omega)
    generalize Ur.parseL (Ur.sch ++ [104, 47] ++ a ++ [c] ++ b) = R1 at *
    generalize Ur.parseL (Ur.sch ++ [104, 47] ++ a ++ [37, d1, d2] ++ b) = R2 at *
    obtain ⟨⟨th, tp, tt⟩, te⟩ := R1
    obtain ⟨⟨uh, up, ut⟩, ue⟩ := R2
    unfold resV Ur.tgtV Ur.sch at *
    dsimp only at hP1 hP2
    have HP1 := Lib.hid hP1
    have HP2 := Lib.hid hP2
    have HQ := Lib.hid hq
    have HR := Lib.hid hr
    clear hP1 hP2 hq hr hx hy hco hd1 hd2 hst h37 hok hout
    go_enter Tryd.func7, Tryd.ntmps7
    go_wp2_with fail
    refine hA.mono ?_
    rintro e w1 ⟨rfl, hb1⟩
    clear hA
    go_upto_region 6 with fail
    go_cut [8] (fun v wx => v = .string (bs [37, d1, d2]) ∧ Below w.heap.size w wx)
    case first =>
      clear HP1 HP2 HC hM hE
      have hcs : c = 97 ∨ c = 98 ∨ c = 99 ∨ c = 100 ∨ c = 101 ∨ c = 102 ∨ c = 103 ∨ c = 104 ∨ c = 105 ∨ c = 106 ∨ c = 107 ∨ c = 108 ∨ c = 109 ∨ c = 110 ∨ c = 111 ∨ c = 112 ∨ c = 113 ∨ c = 114 ∨ c = 115 ∨ c = 116 ∨ c = 117 ∨ c = 118 ∨ c = 119 ∨ c = 120 ∨ c = 121 ∨ c = 122 := by
        have hh : c.toNat = 97 ∨ (98 ≤ c.toNat ∧ c.toNat ≤ 122) := by omega
        have key : ∀ k : Nat, c.toNat = k → k < 256 → c = UInt8.ofNat k := fun k hk _ => by rw [← hk]; simp
        have hn : c.toNat = 97 ∨ c.toNat = 98 ∨ c.toNat = 99 ∨ c.toNat = 100 ∨ c.toNat = 101 ∨ c.toNat = 102 ∨ c.toNat = 103 ∨ c.toNat = 104 ∨ c.toNat = 105 ∨ c.toNat = 106 ∨ c.toNat = 107 ∨ c.toNat = 108 ∨ c.toNat = 109 ∨ c.toNat = 110 ∨ c.toNat = 111 ∨ c.toNat = 112 ∨ c.toNat = 113 ∨ c.toNat = 114 ∨ c.toNat = 115 ∨ c.toNat = 116 ∨ c.toNat = 117 ∨ c.toNat = 118 ∨ c.toNat = 119 ∨ c.toNat = 120 ∨ c.toNat = 121 ∨ c.toNat = 122 := by omega
        rcases hn with h | h | h | h | h | h | h | h | h | h | h | h | h | h | h | h | h | h | h | h | h | h | h | h | h | h
        · exact .inl (key 97 h (by omega))
        · exact .inr (.inl (key 98 h (by omega)))
        · exact .inr (.inr (.inl (key 99 h (by omega))))
        · exact .inr (.inr (.inr (.inl (key 100 h (by omega)))))
        · exact .inr (.inr (.inr (.inr (.inl (key 101 h (by omega))))))
        · exact .inr (.inr (.inr (.inr (.inr (.inl (key 102 h (by omega)))))))
        · exact .inr (.inr (.inr (.inr (.inr (.inr (.inl (key 103 h (by omega))))))))
        · exact .inr (.inr (.inr (.inr (.inr (.inr (.inr (.inl (key 104 h (by omega)))))))))
        · exact .inr (.inr (.inr (.inr (.inr (.inr (.inr (.inr (.inl (key 105 h (by omega))))))))))
        · exact .inr (.inr (.inr (.inr (.inr (.inr (.inr (.inr (.inr (.inl (key 106 h (by omega)))))))))))
        · exact .inr (.inr (.inr (.inr (.inr (.inr (.inr (.inr (.inr (.inr (.inl (key 107 h (by omega))))))))))))
        · exact .inr (.inr (.inr (.inr (.inr (.inr (.inr (.inr (.inr (.inr (.inr (.inl (key 108 h (by omega)))))))))))))
        · exact .inr (.inr (.inr (.inr (.inr (.inr (.inr (.inr (.inr (.inr (.inr (.inr (.inl (key 109 h (by omega))))))))))))))
        · exact .inr (.inr (.inr (.inr (.inr (.inr (.inr (.inr (.inr (.inr (.inr (.inr (.inr (.inl (key 110 h (by omega)))))))))))))))
        · exact .inr (.inr (.inr (.inr (.inr (.inr (.inr (.inr (.inr (.inr (.inr (.inr (.inr (.inr (.inl (key 111 h (by omega))))))))))))))))
        · exact .inr (.inr (.inr (.inr (.inr (.inr (.inr (.inr (.inr (.inr (.inr (.inr (.inr (.inr (.inr (.inl (key 112 h (by omega)))))))))))))))))
        · exact .inr (.inr (.inr (.inr (.inr (.inr (.inr (.inr (.inr (.inr (.inr (.inr (.inr (.inr (.inr (.inr (.inl (key 113 h (by omega))))))))))))))))))
        · exact .inr (.inr (.inr (.inr (.inr (.inr (.inr (.inr (.inr (.inr (.inr (.inr (.inr (.inr (.inr (.inr (.inr (.inl (key 114 h (by omega)))))))))))))))))))
        · exact .inr (.inr (.inr (.inr (.inr (.inr (.inr (.inr (.inr (.inr (.inr (.inr (.inr (.inr (.inr (.inr (.inr (.inr (.inl (key 115 h (by omega))))))))))))))))))))
        · exact .inr (.inr (.inr (.inr (.inr (.inr (.inr (.inr (.inr (.inr (.inr (.inr (.inr (.inr (.inr (.inr (.inr (.inr (.inr (.inl (key 116 h (by omega)))))))))))))))))))))
        · exact .inr (.inr (.inr (.inr (.inr (.inr (.inr (.inr (.inr (.inr (.inr (.inr (.inr (.inr (.inr (.inr (.inr (.inr (.inr (.inr (.inl (key 117 h (by omega))))))))))))))))))))))
        · exact .inr (.inr (.inr (.inr (.inr (.inr (.inr (.inr (.inr (.inr (.inr (.inr (.inr (.inr (.inr (.inr (.inr (.inr (.inr (.inr (.inr (.inl (key 118 h (by omega)))))))))))))))))))))))
        · exact .inr (.inr (.inr (.inr (.inr (.inr (.inr (.inr (.inr (.inr (.inr (.inr (.inr (.inr (.inr (.inr (.inr (.inr (.inr (.inr (.inr (.inr (.inl (key 119 h (by omega))))))))))))))))))))))))
        · exact .inr (.inr (.inr (.inr (.inr (.inr (.inr (.inr (.inr (.inr (.inr (.inr (.inr (.inr (.inr (.inr (.inr (.inr (.inr (.inr (.inr (.inr (.inr (.inl (key 120 h (by omega)))))))))))))))))))))))))
        · exact .inr (.inr (.inr (.inr (.inr (.inr (.inr (.inr (.inr (.inr (.inr (.inr (.inr (.inr (.inr (.inr (.inr (.inr (.inr (.inr (.inr (.inr (.inr (.inr (.inl (key 121 h (by omega))))))))))))))))))))))))))
        · exact .inr (.inr (.inr (.inr (.inr (.inr (.inr (.inr (.inr (.inr (.inr (.inr (.inr (.inr (.inr (.inr (.inr (.inr (.inr (.inr (.inr (.inr (.inr (.inr (.inr (key 122 h (by omega))))))))))))))))))))))))))
      rcases hcs with rfl | rfl | rfl | rfl | rfl | rfl | rfl | rfl | rfl | rfl | rfl | rfl | rfl | rfl | rfl | rfl | rfl | rfl | rfl | rfl | rfl | rfl | rfl | rfl | rfl | rfl
      all_goals
        obtain rfl : _ = d1 := by have := HQ.out; simpa using this
        obtain rfl : _ = d2 := by have := HR.out; simpa using this
        clear HQ HR
        go_quiet (fail)
        go_wp2
        go_meet
        exact ⟨rfl, below_drewN hb1 _⟩
    case rest =>
      obtain ⟨rfl, hB1⟩ := hcut
      obtain ⟨wo, rfl⟩ : ∃ wo, wo = wc := ⟨_, rfl⟩
      clear hb1
      have hal2 := alloc_below wo (.cells #[.int .u8 c.toNat] 5)
      have hB2 := bnext hB1 hal2 hB1.size
      have hcb := conv_bs (w := wo.alloc (.cells #[.int .u8 c.toNat] 5)) (A := some ⟨wo.heap.size, 0, none⟩) (n := 1) (l := [c]) (one_rdB _ _ _) 1
      have hP1 := HP1.out _ (maxl_b hM hB2) (errs_b hE hB2)
      go_wp2_with fail
      refine hP1.mono ?_
      rintro e w2 ⟨rfl, hb2⟩
      have hB3 := bnext hB2 hb2 hB2.size
      have hal4 := alloc_below w2 (.cells #[.string (bs th), .int .i64 tp, .string (bs tt)] 23)
      have ha4 := heap_alloc_new w2 (.cells #[.string (bs th), .int .i64 tp, .string (bs tt)] 23)
      have hB4 := bnext hB3 hal4 hB3.size
      clear hP1 HP1 hb2 hB3 hal4 hcb hal2 hB2 hB1
      go_upto_region 8 with fail
      generalize hw4 : w2.alloc (.cells #[.string (bs th), .int .i64 tp, .string (bs tt)] 23) = w4 at *
      clear hw4
      go_wp2_with fail
      refine (HP2.out _ (maxl_b hM hB4) (errs_b hE hB4)).mono ?_
      rintro e w5 ⟨rfl, hb5⟩
      have ha5 := row_keep ha4 hb5
      have hB5 := bnext hB4 hb5 hB4.size
      have hal6 := alloc_below w5 (.cells #[.string (bs uh), .int .i64 up, .string (bs ut)] 23)
      have hu6 := heap_alloc_new w5 (.cells #[.string (bs uh), .int .i64 up, .string (bs ut)] 23)
      have ha6 := row_keep ha5 hal6
      have hB6 := bnext hB5 hal6 hB5.size
      clear ha4 ha5 hB4 hB5 hb5 hal6 HP2 hM hE
      go_upto_region 10 with fail
      generalize hw6 : w5.alloc (.cells #[.string (bs uh), .int .i64 up, .string (bs ut)] 23) = w6 at *
      clear hw6
      obtain ⟨a0, a1, a2, -⟩ := row_facts3 ha6
      obtain ⟨b0, b1, b2, -⟩ := row_facts3 hu6
      go_loopg [13] a.length (fun q i wr => ∃ k : Nat, k ≤ a.length ∧ q + k = a.length ∧ i = .int .i64 k ∧ Hid ((a.take k).all (fun b => !(b == 37)) = true) ∧ wr = w6)
      case atStart => exact ⟨0, by omega, by omega, rfl, Lib.hid (by simp), rfl⟩
      case round =>
        obtain ⟨k, hk, hq, rfl, HAl, rfl⟩ := hrel
        obtain ⟨w6, rfl⟩ : ∃ w6, w6 = wr := ⟨_, rfl⟩
        by_cases hlt : k < a.length
        · by_cases g7 : a[k] = 37
          · have e37 := u8eqk g7 37 rfl
            clear g7 HAl HC
            go_wp2
            go_ret
            exact ⟨rfl, hB6⟩
          · have e37 := u8nek g7 37 rfl
            have HAN : Hid ((a.take (k + 1)).all (fun b => !(b == 37)) = true) := Lib.hid (by rw [all_snoc _ a k hlt, HAl.out]; simp [g7])
            clear g7 HAl HC
            go_wp2
            go_roundg (a.length - (k + 1))
            case measure => omega
            case rel => exact ⟨k + 1, by omega, by omega, by go_num, HAN, rfl⟩
        · obtain rfl : k = a.length := by omega
          have hE2 := HC.out (all_full _ a HAl.out)
          cases hE2
          clear HAl HC
          go_wp2
          go_ret
          exact ⟨rfl, hB6⟩

theorem star : "*" ++ "errors.errorString" = "*errors.errorString" := by decide
theorem err_row (u : TypeId) (h : Tryd.prog.typeName? 3 u = some "*errors.errorString") : u = 123 :=
  typeName_ptr_named (nm := "errors.errorString") (by rw [star]; kernel_rfl) (by kernel_rfl) (by decide) u (by rw [star]; exact h)
theorem err_of {W : World} (h : laidMet Tryd.prog Rows.uriCodesUptoRow.laid W) : ErrS W := by
  obtain ⟨a, s, h1, -, -, -⟩ := laid_sentinel (ti := 47) (tp := 123) (te := 125) (ts := 9) (g := 2) (((((h).tail).tail).tail).tail).tail (by kernel_rfl) (by kernel_rfl) Tryd.underlying47 err_row Tryd.underlying123 Tryd.underlying125 rfl rfl Tryd.underlying9 (by kernel_rfl) (by kernel_rfl)
  exact errs_of h1
theorem own : ownKnob Tryd.prog.godebug = none := by kernel_rfl
theorem contract (H : Type) (enc : TypeId × Value → H) (W : World) (base : Nat) (args : Array Value) (ds gs : List (DataW H)) (before : List MemPlace)
    (hval : ∀ (j : Nat) t v, Tryd.f7.params[j]? = some t → args[j]? = some v → Value.okWide Tryd.prog W .any base t v)
    (hW : DataW.Whole enc Tryd.prog Tryd.f7.params.toList Rows.uriCodesSpec.vars false W args.toList ds gs before) (hk : Rows.uptoSmall H (ds ++ gs) = true) (hmax : MaxL W) (herr : ErrS W) :
    Calls Tryd.prog 7 args W fun e W' => ∃ v, e = .returned v ∧ Rows.uriCodesSpec.post enc Tryd.prog Tryd.f7 false true false false W args v W' := by
  have hW' := hW
  obtain ⟨p, q, hA0, hV, rfl, hfz, hnd⟩ := hW
  have hA : DataW.TrodAll enc Tryd.prog W 0 (fun _ => true) true Tryd.f7.params.toList args.toList ds p := hA0
  rw [Tryd.params7] at hA hval
  obtain ⟨v0, vs0, d0, ds0, p0, q0, hargs, rfl, rfl, h0, r0⟩ := trodAll_cons hA
  obtain ⟨v1, vs1, d1, ds1, p1, q1, rfl, rfl, rfl, h1, r1⟩ := trodAll_cons r0
  obtain ⟨v2, vs2, d2, ds2, p2, q2, rfl, rfl, rfl, h2, r2⟩ := trodAll_cons r1
  obtain ⟨rfl, rfl, rfl⟩ := trodAll_nil r2
  obtain rfl : args = #[v0, v1, v2] := by cases args; simp_all
  obtain ⟨rfl, rfl⟩ := trodVars_none hV
  have hall := bulks.bound hk
  simp only [List.append_nil, Rows.uptoBulkAll] at hall
  have hb0 : Rows.uptoBulk d0 ≤ 1048576 := by omega
  have hb1 : Rows.uptoBulk d1 ≤ 1048576 := by omega
  have hb2 : Rows.uptoBulk d2 ≤ 1048576 := by omega
  clear hall
  obtain ⟨s0, rfl, e0⟩ := opS (hval 0 9 v0 rfl rfl) h0
  obtain ⟨s1, rfl, e1⟩ := opS (hval 1 9 v1 rfl rfl) h1
  obtain ⟨i2, rfl, hi2, hj2⟩ := opU8 (hval 2 5 v2 rfl rfl) h2
  have hl0 : s0.length ≤ 1048576 := by have := hb0; rw [e0, bulks.string_eq] at this; omega
  have hl1 : s1.length ≤ 1048576 := by have := hb1; rw [e1, bulks.string_eq] at this; omega
  clear hA0
  refine (walk W hmax herr s0 hl0 s1 hl1 i2 hi2 hj2).mono fun e W' ⟨he, hg⟩ => ?_
  subst he
  exact ⟨_, rfl, post_of_below (pa := p0 ++ (p1 ++ (p2 ++ ([])))) (pv := []) hW' (fun _ _ _ => (trodAll_cons_mk (shut_bool Tryd.underlying4 _) trodAll_mk0)) (fun sp hsp => (trodAll_cons_mk (arg_stays laidOut (by kernel_rfl) (of_decide_eq_true (by kernel_rfl)) h0 hg (fun x hx => hW'.lt x (by simp [hx])) sp (fun x hx => hsp x (by simp [hx]))) (trodAll_cons_mk (arg_stays laidOut (by kernel_rfl) (of_decide_eq_true (by kernel_rfl)) h1 hg (fun x hx => hW'.lt x (by simp [hx])) sp (fun x hx => hsp x (by simp [hx]))) (trodAll_cons_mk (arg_stays laidOut (by kernel_rfl) (of_decide_eq_true (by kernel_rfl)) h2 hg (fun x hx => hW'.lt x (by simp [hx])) sp (fun x hx => hsp x (by simp [hx]))) trodAll_mk0)))) (fun _ _ => rfl) rfl
    hg (ok_one (by kernel_rfl) rfl (okWide_bool_mk Tryd.underlying4 _))⟩

/-- A world for the witness: the listed variables hold what the program lays. -/
noncomputable def laidWorld (os : Os) : World := World.laidAll Tryd.prog os Rows.uriCodesUptoRow.laid
set_option maxRecDepth 1000000 in
theorem laid_met (os : Os) : laidMet Tryd.prog Rows.uriCodesUptoRow.laid ((laidWorld os).forCall (fun _ _ => 0) ⟨#[], #[.string ⟨#[]⟩, .string ⟨#[]⟩, .int .u8 0], []⟩).memory :=
  laidMet_laidAll _ (by kernel_rfl) (by kernel_rfl)

theorem reads (os : Os) {H : Type} (enc : TypeId × Value → H) : ∃ places, DataW.whole enc Tryd.prog ((laidWorld os).forCall (fun _ _ => 0) ⟨#[], #[.string ⟨#[]⟩, .string ⟨#[]⟩, .int .u8 0], []⟩).memory Tryd.f7.params.toList Rows.uriCodesSpec.vars false #[.string ⟨#[]⟩, .string ⟨#[]⟩, .int .u8 0].toList 8 = some ([.lit (.string []), .lit (.string []), .lit (.int .u8 0)], [], places) :=
  ⟨[], by kernel_rfl⟩

set_option maxRecDepth 100000 in
theorem liftedUpto (os : Os) (started : os.Started) (H : Type) (enc : TypeId × Value → H) (F : Stop.Interp) :
    ReturnsInHanded {} Tryd.checked os 7 .any ((Rows.OpenSpec.upto Rows.uriCodesSpec).preRow enc Tryd.prog Tryd.f7 Rows.uriCodesUptoRow.domain false Rows.uriCodesUptoRow.laid) (((Rows.OpenSpec.upto Rows.uriCodesSpec).at F).post enc Tryd.prog Tryd.f7 false true false false) := by
  obtain ⟨places, hx⟩ := reads os enc
  refine returnsInHanded_of_row (C := Tryd.checked) (s := Rows.OpenSpec.upto Rows.uriCodesSpec) own started (by kernel_rfl) Tryd.func7
    (witness_row_atRef (enc := enc) (C := Tryd.checked) false (laidWorld os) #[.string ⟨#[]⟩, .string ⟨#[]⟩, .int .u8 0] (World.laidAll_os _ _ _) (by kernel_rfl) (by kernel_rfl) (by kernel_rfl)
      (OpenSpec.preRow_of_cond 8 hx (by kernel_rfl) (fun k hk => by cases hk; kernel_rfl) (by kernel_rfl) (laid_met os))) ?_
  intro W base args ds gs before hval hW g1 hcond g2 g3 g4 g5
  exact contract H enc W base args ds gs before hval hW (hcond _ rfl) (by first | exact maxl_of g4 | exact maxl_of g3 | exact maxl_of g2 | exact maxl_of g5 | exact maxl_of g1) (by first | exact err_of g3 | exact err_of g2 | exact err_of g4 | exact err_of g5 | exact err_of g1)

theorem saidUpto : Rows.UriCodesUptoSaid :=
  OpenClaim.holds_of_cond 7 Tryd.f7 rfl rfl rfl rfl rfl rfl rfl ⟨rfl, rfl, rfl, rfl, rfl⟩ rfl rfl rfl rfl rfl (by kernel_rfl) Tryd.func7 (by kernel_rfl)
    (of_decide_eq_true (by kernel_rfl)) (by unfold Func.isWrapper; first | (rw [if_pos (by decide +kernel)]; kernel_rfl) | (rw [if_neg (by decide +kernel)]; exact ⟨rfl, rfl⟩))
    (fun os started H enc _ F => by rw [OpenClaim.pre_eq_preRow]; exact liftedUpto os started H enc F)

theorem plain (f : FuncId) (fn : Func) (hf : Tryd.pinned.checked.prog.funcNamed "conduit/conduitlaw03.UriCodes" = some f) (hfn : Tryd.pinned.checked.prog.funcs[f]? = some fn) :
    true = Tryd.pinned.checked.prog.looks [] ∧ ∀ (j : Nat) t, fn.params[j]? = some t → Tryd.pinned.checked.prog.wantsStandIn t = false := by
  obtain rfl : f = 7 := Option.some.inj ((show Tryd.prog.funcNamed "conduit/conduitlaw03.UriCodes" = some 7 by kernel_rfl).symm.trans hf) |>.symm
  obtain rfl : fn = Tryd.f7 := (Option.some.inj (Tryd.func7.symm.trans hfn)).symm
  refine ⟨by kernel_rfl, fun j t ht => ?_⟩
  rw [Tryd.params7] at ht
  have hm := Array.mem_of_getElem? ht
  simp only [List.mem_toArray, List.mem_cons, List.not_mem_nil, or_false] at hm
  rcases hm with rfl | rfl | rfl
  · exact (show Tryd.prog.wantsStandIn 9 = false by kernel_rfl)
  · exact (show Tryd.prog.wantsStandIn 9 = false by kernel_rfl)
  · exact (show Tryd.prog.wantsStandIn 5 = false by kernel_rfl)

theorem proved : Rows.UriCodesUptoCardSaid :=
  Claim7.holds_tied_plain_at .later [] _ _ _ _ saidUpto (fun _ h => by cases h) (by kernel_rfl) (fun _ h => by cases h) uriCodesUpto_row_tie rfl ⟨rfl, rfl⟩ (by kernel_rfl) rfl plain (by kernel_rfl)
end Go.Proofs.YtdeaoagdjnnppaaDoor.uriCodes
