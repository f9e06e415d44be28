/- Walks of package date's and its reference's functions for days and civil dates: what each call computes. Conditions: the integers' bounds as premises. -/
import Derived.Test.YtfldfkipkfpdjaaDoorChecked
import Derived.Test.YtfldfkipkfpdjaaDoorDwA
import Derived.WalkKit
import Derived.WalkSpells
import Derived.WalkLawsBesides
import Derived.Lib.Hide
import Derived.Deep.Cut
set_option linter.unusedVariables false
set_option linter.unusedSimpArgs false
namespace Go.Proofs.YtfldfkipkfpdjaaDoor
open Go.RowKit
set_option maxHeartbeats 400000 in
theorem day_yes (y m d : Int) (w : World) (h : Cal.valid y m d) :
    Calls Tryd.prog 15 #[.int .i64 y, .int .i64 m, .int .i64 d] w fun e w' => e = .returned (.tuple #[.int .i64 (Cal.num y m d), .int .i64 0]) ∧ w = w' := by
  obtain ⟨a1, a2, a3, a4, a5, a6⟩ := id h
  have hl := Cal.len_bd y m
  have hf := Cal.fc_num y m d a3 a4
  have hn0 : 0 ≤ Cal.fc y m d := by rw [hf]; have := Cal.dby_bd y a1 (by omega); have := Cal.dbm_nn y m; unfold Cal.num; omega
  have hn1 : Cal.fc y m d ≤ 2932896 := by rw [hf]; have := Cal.dby_mono y 10000 (by omega); have := Cal.dby_max; have := Cal.dbm_top y m a3 a4; unfold Cal.num; omega
  obtain ⟨t1, t2, t3, t4, t5⟩ := Cal.tc_all (Cal.fc y m d) hn0 (by omega)
  obtain ⟨i1, i2, i3⟩ := Cal.num_inj _ _ _ y m d (t4 hn1) h (by rw [t5, hf])
  clear t1 t2 t3 t4 t5
  have H := Lib.hid hf; clear hf
  have H1 : Hid _ := i1; have H2 : Hid _ := i2; have H3 : Hid _ := i3; clear i1 i2 i3
  go_enter Tryd.func15, Tryd.ntmps15
  go_wp2_with (go_at_call 32; refine (fromCivil_any _ _ _ _ (by omega) (by omega) (by omega) (by omega) (by omega) (by omega)).mono ?_; rintro e w' ⟨rfl, rfl⟩)
  refine (toCivil_any _ _ (by omega) (by omega)).mono ?_
  rintro e w' ⟨rfl, rfl⟩
  rw [H1.out, H2.out, H3.out]
  go_wp2
  go_ret2
  exact ⟨ret_tup2 H.out rfl, rfl⟩


set_option maxHeartbeats 400000 in
theorem day_no (y m d : Int) (w : World) (h : ¬ Cal.valid y m d) :
    Calls Tryd.prog 15 #[.int .i64 y, .int .i64 m, .int .i64 d] w fun e w' => e = .returned (.tuple #[.int .i64 0, .int .i64 20]) ∧ w = w' := by
  by_cases hb : 1970 ≤ y ∧ y ≤ 9999 ∧ 1 ≤ m ∧ m ≤ 12 ∧ 1 ≤ d ∧ d ≤ 31
  · obtain ⟨a1, a2, a3, a4, a5, a6⟩ := hb
    have hf := Cal.fc_num y m d a3 a4
    have hdb := Cal.dby_bd y a1 (by omega)
    have hn0 : 0 ≤ Cal.fc y m d := by rw [hf]; have := Cal.dbm_nn y m; unfold Cal.num; omega
    have hn1 : Cal.fc y m d ≤ 2932896 + 3 := by
      rw [hf]; have := Cal.dby_mono y 10000 (by omega); have := Cal.dby_max; have := Cal.dbm_top y m a3 a4; have := Cal.len_bd y m; unfold Cal.num; omega
    obtain ⟨t1, t2, t3, t4, t5⟩ := Cal.tc_all (Cal.fc y m d) hn0 (by omega)
    have hne : ¬ (Cal.tcY ((Cal.fc y m d + 719468) / 146097) ((Cal.fc y m d + 719468) % 146097) = y ∧ Cal.tcM ((Cal.fc y m d + 719468) % 146097) = m ∧ Cal.tcD ((Cal.fc y m d + 719468) % 146097) = d) := by
      rintro ⟨g1, g2, g3⟩
      have hlast : Cal.fc y m d ≤ 2932896 := by
        rcases Int.lt_or_le 2932896 (Cal.fc y m d) with g | g
        · exfalso
          have t4' := Cal.tc_valid (Cal.fc y m d) hn0 (by omega)
          rw [g1, g2, g3] at t4'
          exact h ⟨a1, a2, a3, a4, a5, t4'⟩
        · exact g
      exact h (by have := t4 hlast; rwa [g1, g2, g3] at this)
    clear t1 t2 t3 t4 t5 hf
    have hk : (Cal.tcY ((Cal.fc y m d + 719468) / 146097) ((Cal.fc y m d + 719468) % 146097) != y) = true ∨ (Cal.tcY ((Cal.fc y m d + 719468) / 146097) ((Cal.fc y m d + 719468) % 146097) != y) = false ∧ ((Cal.tcM ((Cal.fc y m d + 719468) % 146097) != m) = true ∨ (Cal.tcM ((Cal.fc y m d + 719468) % 146097) != m) = false ∧ (Cal.tcD ((Cal.fc y m d + 719468) % 146097) != d) = true) := by
      simp only [bne_iff_ne, bne_eq_false_iff_eq]
      by_cases g1 : Cal.tcY ((Cal.fc y m d + 719468) / 146097) ((Cal.fc y m d + 719468) % 146097) = y
      · by_cases g2 : Cal.tcM ((Cal.fc y m d + 719468) % 146097) = m
        · exact Or.inr ⟨g1, Or.inr ⟨g2, fun g3 => hne ⟨g1, g2, g3⟩⟩⟩
        · exact Or.inr ⟨g1, Or.inl g2⟩
      · exact Or.inl g1
    clear hne
    have hk' := Lib.hid hk; clear hk
    go_enter Tryd.func15, Tryd.ntmps15
    go_wp2_with (go_at_call 32; refine (fromCivil_any _ _ _ _ (by omega) (by omega) (by omega) (by omega) (by omega) (by omega)).mono ?_; rintro e w' ⟨rfl, rfl⟩)
    refine (toCivil_any _ _ (by omega) (by omega)).mono ?_
    rintro e w' ⟨rfl, rfl⟩
    obtain hk | ⟨hk, hk1 | ⟨hk1, hk2⟩⟩ := hk'.out
    all_goals
      go_wp2
      go_ret2
      exact ⟨rfl, rfl⟩
  · go_enter Tryd.func15, Tryd.ntmps15
    go_wp2
    all_goals
      go_ret2
      exact ⟨rfl, rfl⟩

end Go.Proofs.YtfldfkipkfpdjaaDoor
