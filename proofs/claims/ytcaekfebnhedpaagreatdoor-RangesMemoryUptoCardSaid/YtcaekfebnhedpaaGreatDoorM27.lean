/- Joined texts: Does an If-Range hold: the program's and the reference's; Bytes copied and compared. The conditions stand in each line. -/
import Derived.Test.YtcaekfebnhedpaaGreatDoorM1
import Derived.Test.YtcaekfebnhedpaaGreatDoorM2
import Derived.Test.YtcaekfebnhedpaaGreatDoorM3
import Derived.Test.YtcaekfebnhedpaaGreatDoorM11
import Derived.Test.YtcaekfebnhedpaaGreatDoorM17
import Derived.Test.YtcaekfebnhedpaaGreatDoorM20
import Derived.Test.YtcaekfebnhedpaaGreatDoorM23
import Derived.Test.YtcaekfebnhedpaaGreatDoorM26
import Derived.Deep.QuietTactic
import Derived.BigQuiet
import Derived.Deep.Cut
import Derived.Deep.DeepCutAuto
set_option linter.unusedVariables false
set_option linter.unusedSimpArgs false
namespace Go.Proofs.YtcaekfebnhedpaaGreatDoor
open Go.RowKit

set_option maxRecDepth 100000
set_option maxHeartbeats 2000000 in
theorem holds_p (A : Option Addr) (n c : Nat) (q : List Fld) (st : Int) (rs : List UInt8) (minor : Int) (B : Option Addr) (m d : Nat) (l : List Fld) (w : World) (hq : RdF w A n q) (hn : n ≤ 1048576) (hqs : FlenS q) (hl : RdF w B m l) (hm : m ≤ 1048576) (hls : FlenS l) :
    Calls Tryz.prog 35 #[.slice A n c, respV st rs minor B m d] w fun x w' => x = .returned (.bool (Rg.holdsL q l)) ∧ Below w.heap.size w w' := by
  unfold respV
  have hb0 := alloc_below w (.cells #[.int .i64 st, .string (bs rs), .int .i64 minor, .slice B m d] 31)
  have hr1 := heap_alloc_new w (.cells #[.int .i64 st, .string (bs rs), .int .i64 minor, .slice B m d] 31)
  have hlq := Frs.get_len hqs (by rw [hq.1]; exact hn) Rg.irR
  have hlt := Frs.get_len hls (by rw [hl.1]; exact hm) Val.etagN
  have hlm := Frs.get_len hls (by rw [hl.1]; exact hm) Frs.lmN
  have HA : Hid (Rg.holdsL q l = ((valuesL q Rg.irR).isEmpty || (sameR (Frs.getL q Rg.irR) (Frs.getL l Val.etagN) true || (((Dt.dparse (Frs.getL l Frs.lmN)).2 == 0) && (Frs.getL q Rg.irR == Frs.getL l Frs.lmN))))) := Lib.hid rfl
  have HG1 : Hid (∀ W, Below w.heap.size w W → Calls Tryz.prog 24 #[.slice A n c, .string (bs Rg.irP)] W fun x w' => x = .returned (.tuple #[.string (bs (Frs.getL q Rg.irR)), .bool (!(valuesL q Rg.irR).isEmpty)]) ∧ Below W.heap.size W w') := Lib.hid fun W hb => by
    have h := get_any A n c q Rg.irP W (hq.step hb) hn hqs (by decide)
    change Calls Tryz.prog 24 _ _ fun x w' => x = .returned (.tuple #[.string (bs (Frs.getL q Rg.irP)), .bool _]) ∧ _ at h
    rw [show Frs.getL q Rg.irP = Frs.getL q Rg.irR from Frs.get_name rfl, show valuesL q Rg.irP = valuesL q Rg.irR from valuesL_nameG rfl] at h
    exact h
  have HG2 : Hid (∀ W, Below w.heap.size w W → Calls Tryz.prog 24 #[.slice B m d, .string (bs Val.EtagN)] W fun x w' => x = .returned (.tuple #[.string (bs (Frs.getL l Val.etagN)), .bool (!(valuesL l Val.etagN).isEmpty)]) ∧ Below W.heap.size W w') := Lib.hid fun W hb => by
    have h := get_any B m d l Val.EtagN W (hl.step hb) hm hls (by decide)
    change Calls Tryz.prog 24 _ _ fun x w' => x = .returned (.tuple #[.string (bs (Frs.getL l Val.EtagN)), .bool _]) ∧ _ at h
    rw [show Frs.getL l Val.EtagN = Frs.getL l Val.etagN from Frs.get_name rfl, show valuesL l Val.EtagN = valuesL l Val.etagN from valuesL_nameG rfl] at h
    exact h
  have HG3 : Hid (∀ W, Below w.heap.size w W → Calls Tryz.prog 24 #[.slice B m d, .string (bs Frs.LmN)] W fun x w' => x = .returned (.tuple #[.string (bs (Frs.getL l Frs.lmN)), .bool (!(valuesL l Frs.lmN).isEmpty)]) ∧ Below W.heap.size W w') := Lib.hid fun W hb => by
    have h := get_any B m d l Frs.LmN W (hl.step hb) hm hls (by decide)
    change Calls Tryz.prog 24 _ _ fun x w' => x = .returned (.tuple #[.string (bs (Frs.getL l Frs.LmN)), .bool _]) ∧ _ at h
    rw [show Frs.getL l Frs.LmN = Frs.getL l Frs.lmN from Frs.get_name rfl, show valuesL l Frs.LmN = valuesL l Frs.lmN from valuesL_nameG rfl] at h
    exact h
  have HP := Lib.hid fun W => parse_any (Frs.getL l Frs.lmN) W (by omega)
  have HS := Lib.hid fun W => same_p (Frs.getL q Rg.irR) (Frs.getL l Val.etagN) true W (by omega) (by omega)
  generalize sameR (Frs.getL q Rg.irR) (Frs.getL l Val.etagN) true = sm at *
  generalize Dt.dparse (Frs.getL l Frs.lmN) = dp at *
  generalize Frs.getL q Rg.irR = V at *
  generalize Frs.getL l Val.etagN = T at *
  generalize Frs.getL l Frs.lmN = M at *
  generalize (valuesL q Rg.irR).isEmpty = ve at *
  generalize (valuesL l Val.etagN).isEmpty = te at *
  generalize (valuesL l Frs.lmN).isEmpty = me at *
  generalize Rg.holdsL q l = R at *
  obtain ⟨d1, d2⟩ := dp
  dsimp only at HA HP
  clear hq hl hls hqs
  cases ve with
  | true =>
    have HR : Hid (R = true) := Lib.hid HA.out
    clear HA HG2 HG3 HP HS
    go_enter Tryz.func35, Tryz.ntmps35
    go_wp2_with fail
    refine (HG1.out _ hb0).mono ?_
    rintro x w1 ⟨rfl, hb1⟩
    replace hr1 := row_keep hr1 hb1
    replace hb0 := bnext hb0 hb1 hb0.size
    clear HG1 hb1
    obtain ⟨a0, a1, a2, a3, -⟩ := row_facts4 hr1
    go_wp2
    go_ret
    exact ⟨ret_bool HR.out.symm, hb0⟩
  | false =>
    cases sm with
    | true =>
      have HR : Hid (R = true) := Lib.hid HA.out
      clear HA
      go_enter Tryz.func35, Tryz.ntmps35
      go_wp2_with fail
      refine (HG1.out _ hb0).mono ?_
      rintro x w1 ⟨rfl, hb1⟩
      replace hr1 := row_keep hr1 hb1
      replace hb0 := bnext hb0 hb1 hb0.size
      clear HG1 hb1
      obtain ⟨a0, a1, a2, a3, -⟩ := row_facts4 hr1
      go_wp2_with fail
      refine (HG2.out _ hb0).mono ?_
      rintro x w2 ⟨rfl, hb2⟩
      replace hr1 := row_keep hr1 hb2
      replace hb0 := bnext hb0 hb2 hb0.size
      clear HG2 hb2 a0 a1 a2 a3
      obtain ⟨a0, a1, a2, a3, -⟩ := row_facts4 hr1
      go_wp2_with fail
      refine (HG3.out _ hb0).mono ?_
      rintro x w3 ⟨rfl, hb3⟩
      replace hb0 := bnext hb0 hb3 hb0.size
      clear HG3 hb3 a0 a1 a2 a3 hr1
      go_wp2_with fail
      refine (HP.out _).mono ?_
      rintro x w4 ⟨rfl, hb4⟩
      replace hb0 := bnext hb0 hb4 hb0.size
      clear HP hb4
      go_wp2_with fail
      refine (HS.out _).mono ?_
      rintro x w5 ⟨rfl, rfl⟩
      clear HS
      go_wp2
      go_ret
      exact ⟨ret_bool HR.out.symm, hb0⟩
    | false =>
      by_cases hd : d2 = 0
      · have hd2 : (d2 == 0) = true := by rw [beq_iff_eq]; exact hd
        have HR : Hid (R = (V == M)) := Lib.hid (by rw [HA.out, hd2]; simp)
        clear HA hd
        go_enter Tryz.func35, Tryz.ntmps35
        go_wp2_with fail
        refine (HG1.out _ hb0).mono ?_
        rintro x w1 ⟨rfl, hb1⟩
        replace hr1 := row_keep hr1 hb1
        replace hb0 := bnext hb0 hb1 hb0.size
        clear HG1 hb1
        obtain ⟨a0, a1, a2, a3, -⟩ := row_facts4 hr1
        go_wp2_with fail
        refine (HG2.out _ hb0).mono ?_
        rintro x w2 ⟨rfl, hb2⟩
        replace hr1 := row_keep hr1 hb2
        replace hb0 := bnext hb0 hb2 hb0.size
        clear HG2 hb2 a0 a1 a2 a3
        obtain ⟨a0, a1, a2, a3, -⟩ := row_facts4 hr1
        go_wp2_with fail
        refine (HG3.out _ hb0).mono ?_
        rintro x w3 ⟨rfl, hb3⟩
        replace hb0 := bnext hb0 hb3 hb0.size
        clear HG3 hb3 a0 a1 a2 a3 hr1
        go_wp2_with fail
        refine (HP.out _).mono ?_
        rintro x w4 ⟨rfl, hb4⟩
        replace hb0 := bnext hb0 hb4 hb0.size
        clear HP hb4
        go_wp2_with fail
        refine (HS.out _).mono ?_
        rintro x w5 ⟨rfl, rfl⟩
        clear HS
        go_wp2
        go_ret
        exact ⟨ret_bool HR.out.symm, hb0⟩
      · have hd2 : (d2 == 0) = false := by rw [beq_eq_false_iff_ne]; exact hd
        have HR : Hid (R = false) := Lib.hid (by rw [HA.out, hd2]; simp)
        clear HA hd
        go_enter Tryz.func35, Tryz.ntmps35
        go_wp2_with fail
        refine (HG1.out _ hb0).mono ?_
        rintro x w1 ⟨rfl, hb1⟩
        replace hr1 := row_keep hr1 hb1
        replace hb0 := bnext hb0 hb1 hb0.size
        clear HG1 hb1
        obtain ⟨a0, a1, a2, a3, -⟩ := row_facts4 hr1
        go_wp2_with fail
        refine (HG2.out _ hb0).mono ?_
        rintro x w2 ⟨rfl, hb2⟩
        replace hr1 := row_keep hr1 hb2
        replace hb0 := bnext hb0 hb2 hb0.size
        clear HG2 hb2 a0 a1 a2 a3
        obtain ⟨a0, a1, a2, a3, -⟩ := row_facts4 hr1
        go_wp2_with fail
        refine (HG3.out _ hb0).mono ?_
        rintro x w3 ⟨rfl, hb3⟩
        replace hb0 := bnext hb0 hb3 hb0.size
        clear HG3 hb3 a0 a1 a2 a3 hr1
        go_wp2_with fail
        refine (HP.out _).mono ?_
        rintro x w4 ⟨rfl, hb4⟩
        replace hb0 := bnext hb0 hb4 hb0.size
        clear HP hb4
        go_wp2_with fail
        refine (HS.out _).mono ?_
        rintro x w5 ⟨rfl, rfl⟩
        clear HS
        go_wp2
        go_ret
        exact ⟨ret_bool HR.out.symm, hb0⟩
set_option maxHeartbeats 2000000 in
theorem holds_r (A : Option Addr) (n c : Nat) (q : List Fld) (st : Int) (rs : List UInt8) (minor : Int) (B : Option Addr) (m d : Nat) (l : List Fld) (w : World) (hq : RdF w A n q) (hn : n ≤ 1048576) (hqs : FlenS q) (hl : RdF w B m l) (hm : m ≤ 1048576) (hls : FlenS l) :
    Calls Tryz.prog 44 #[.slice A n c, respV st rs minor B m d] w fun x w' => x = .returned (.bool (Rg.holdsL q l)) ∧ Below w.heap.size w w' := by
  unfold respV
  have hb0 := alloc_below w (.cells #[.int .i64 st, .string (bs rs), .int .i64 minor, .slice B m d] 31)
  have hr1 := heap_alloc_new w (.cells #[.int .i64 st, .string (bs rs), .int .i64 minor, .slice B m d] 31)
  have hlq := Frs.get_len hqs (by rw [hq.1]; exact hn) Rg.irR
  have hlt := Frs.get_len hls (by rw [hl.1]; exact hm) Val.etagN
  have hlm := Frs.get_len hls (by rw [hl.1]; exact hm) Frs.lmN
  have HA : Hid (Rg.holdsL q l = ((valuesL q Rg.irR).isEmpty || (sameR (Frs.getL q Rg.irR) (Frs.getL l Val.etagN) true || (((Dt.dparse (Frs.getL l Frs.lmN)).2 == 0) && (Frs.getL q Rg.irR == Frs.getL l Frs.lmN))))) := Lib.hid rfl
  have HG1 : Hid (∀ W, Below w.heap.size w W → Calls Tryz.prog 43 #[.slice A n c, .string (bs Rg.irR)] W fun x w' => x = .returned (.tuple #[.string (bs (Frs.getL q Rg.irR)), .bool (!(valuesL q Rg.irR).isEmpty)]) ∧ Below W.heap.size W w') := Lib.hid fun W hb => by
    have h := getR_any A n c q Rg.irR W (hq.step hb) hn hqs (by decide)
    change Calls Tryz.prog 43 _ _ fun x w' => x = .returned (.tuple #[.string (bs (Frs.getL q Rg.irR)), .bool _]) ∧ _ at h
    rw [show Frs.getL q Rg.irR = Frs.getL q Rg.irR from Frs.get_name rfl, show valuesL q Rg.irR = valuesL q Rg.irR from valuesL_nameG rfl] at h
    exact h
  have HG2 : Hid (∀ W, Below w.heap.size w W → Calls Tryz.prog 43 #[.slice B m d, .string (bs Val.etagN)] W fun x w' => x = .returned (.tuple #[.string (bs (Frs.getL l Val.etagN)), .bool (!(valuesL l Val.etagN).isEmpty)]) ∧ Below W.heap.size W w') := Lib.hid fun W hb => by
    have h := getR_any B m d l Val.etagN W (hl.step hb) hm hls (by decide)
    change Calls Tryz.prog 43 _ _ fun x w' => x = .returned (.tuple #[.string (bs (Frs.getL l Val.etagN)), .bool _]) ∧ _ at h
    rw [show Frs.getL l Val.etagN = Frs.getL l Val.etagN from Frs.get_name rfl, show valuesL l Val.etagN = valuesL l Val.etagN from valuesL_nameG rfl] at h
    exact h
  have HG3 : Hid (∀ W, Below w.heap.size w W → Calls Tryz.prog 43 #[.slice B m d, .string (bs Frs.lmN)] W fun x w' => x = .returned (.tuple #[.string (bs (Frs.getL l Frs.lmN)), .bool (!(valuesL l Frs.lmN).isEmpty)]) ∧ Below W.heap.size W w') := Lib.hid fun W hb => by
    have h := getR_any B m d l Frs.lmN W (hl.step hb) hm hls (by decide)
    change Calls Tryz.prog 43 _ _ fun x w' => x = .returned (.tuple #[.string (bs (Frs.getL l Frs.lmN)), .bool _]) ∧ _ at h
    rw [show Frs.getL l Frs.lmN = Frs.getL l Frs.lmN from Frs.get_name rfl, show valuesL l Frs.lmN = valuesL l Frs.lmN from valuesL_nameG rfl] at h
    exact h
  have HP := Lib.hid fun W => rparse_any (Frs.getL l Frs.lmN) W (by omega)
  rw [Dt.parse_eq] at HP
  have HS := Lib.hid fun W => same_r (Frs.getL q Rg.irR) (Frs.getL l Val.etagN) true W (by omega) (by omega)
  generalize sameR (Frs.getL q Rg.irR) (Frs.getL l Val.etagN) true = sm at *
  generalize Dt.dparse (Frs.getL l Frs.lmN) = dp at *
  generalize Frs.getL q Rg.irR = V at *
  generalize Frs.getL l Val.etagN = T at *
  generalize Frs.getL l Frs.lmN = M at *
  generalize (valuesL q Rg.irR).isEmpty = ve at *
  generalize (valuesL l Val.etagN).isEmpty = te at *
  generalize (valuesL l Frs.lmN).isEmpty = me at *
  generalize Rg.holdsL q l = R at *
  obtain ⟨d1, d2⟩ := dp
  dsimp only at HA HP
  clear hq hl hls hqs
  cases ve with
  | true =>
    have HR : Hid (R = true) := Lib.hid HA.out
    clear HA HG2 HG3 HP HS
    go_enter Tryz.func44, Tryz.ntmps44
    go_wp2_with fail
    refine (HG1.out _ hb0).mono ?_
    rintro x w1 ⟨rfl, hb1⟩
    replace hr1 := row_keep hr1 hb1
    replace hb0 := bnext hb0 hb1 hb0.size
    clear HG1 hb1
    obtain ⟨a0, a1, a2, a3, -⟩ := row_facts4 hr1
    go_wp2
    go_ret
    exact ⟨ret_bool HR.out.symm, hb0⟩
  | false =>
    cases sm with
    | true =>
      have HR : Hid (R = true) := Lib.hid HA.out
      clear HA
      go_enter Tryz.func44, Tryz.ntmps44
      go_wp2_with fail
      refine (HG1.out _ hb0).mono ?_
      rintro x w1 ⟨rfl, hb1⟩
      replace hr1 := row_keep hr1 hb1
      replace hb0 := bnext hb0 hb1 hb0.size
      clear HG1 hb1
      obtain ⟨a0, a1, a2, a3, -⟩ := row_facts4 hr1
      go_wp2_with fail
      refine (HG2.out _ hb0).mono ?_
      rintro x w2 ⟨rfl, hb2⟩
      replace hr1 := row_keep hr1 hb2
      replace hb0 := bnext hb0 hb2 hb0.size
      clear HG2 hb2 a0 a1 a2 a3
      obtain ⟨a0, a1, a2, a3, -⟩ := row_facts4 hr1
      go_wp2_with fail
      refine (HG3.out _ hb0).mono ?_
      rintro x w3 ⟨rfl, hb3⟩
      replace hb0 := bnext hb0 hb3 hb0.size
      clear HG3 hb3 a0 a1 a2 a3 hr1
      go_wp2_with fail
      refine (HP.out _).mono ?_
      rintro x w4 ⟨rfl, hb4⟩
      replace hb0 := bnext hb0 hb4 hb0.size
      clear HP hb4
      go_wp2_with fail
      refine (HS.out _).mono ?_
      rintro x w5 ⟨rfl, rfl⟩
      clear HS
      go_wp2
      go_ret
      exact ⟨ret_bool HR.out.symm, hb0⟩
    | false =>
      by_cases hd : d2 = 0
      · have hd2 : (d2 == 0) = true := by rw [beq_iff_eq]; exact hd
        have HR : Hid (R = (V == M)) := Lib.hid (by rw [HA.out, hd2]; simp)
        clear HA hd
        go_enter Tryz.func44, Tryz.ntmps44
        go_wp2_with fail
        refine (HG1.out _ hb0).mono ?_
        rintro x w1 ⟨rfl, hb1⟩
        replace hr1 := row_keep hr1 hb1
        replace hb0 := bnext hb0 hb1 hb0.size
        clear HG1 hb1
        obtain ⟨a0, a1, a2, a3, -⟩ := row_facts4 hr1
        go_wp2_with fail
        refine (HG2.out _ hb0).mono ?_
        rintro x w2 ⟨rfl, hb2⟩
        replace hr1 := row_keep hr1 hb2
        replace hb0 := bnext hb0 hb2 hb0.size
        clear HG2 hb2 a0 a1 a2 a3
        obtain ⟨a0, a1, a2, a3, -⟩ := row_facts4 hr1
        go_wp2_with fail
        refine (HG3.out _ hb0).mono ?_
        rintro x w3 ⟨rfl, hb3⟩
        replace hb0 := bnext hb0 hb3 hb0.size
        clear HG3 hb3 a0 a1 a2 a3 hr1
        go_wp2_with fail
        refine (HP.out _).mono ?_
        rintro x w4 ⟨rfl, hb4⟩
        replace hb0 := bnext hb0 hb4 hb0.size
        clear HP hb4
        go_wp2_with fail
        refine (HS.out _).mono ?_
        rintro x w5 ⟨rfl, rfl⟩
        clear HS
        go_wp2
        go_ret
        exact ⟨ret_bool HR.out.symm, hb0⟩
      · have hd2 : (d2 == 0) = false := by rw [beq_eq_false_iff_ne]; exact hd
        have HR : Hid (R = false) := Lib.hid (by rw [HA.out, hd2]; simp)
        clear HA hd
        go_enter Tryz.func44, Tryz.ntmps44
        go_wp2_with fail
        refine (HG1.out _ hb0).mono ?_
        rintro x w1 ⟨rfl, hb1⟩
        replace hr1 := row_keep hr1 hb1
        replace hb0 := bnext hb0 hb1 hb0.size
        clear HG1 hb1
        obtain ⟨a0, a1, a2, a3, -⟩ := row_facts4 hr1
        go_wp2_with fail
        refine (HG2.out _ hb0).mono ?_
        rintro x w2 ⟨rfl, hb2⟩
        replace hr1 := row_keep hr1 hb2
        replace hb0 := bnext hb0 hb2 hb0.size
        clear HG2 hb2 a0 a1 a2 a3
        obtain ⟨a0, a1, a2, a3, -⟩ := row_facts4 hr1
        go_wp2_with fail
        refine (HG3.out _ hb0).mono ?_
        rintro x w3 ⟨rfl, hb3⟩
        replace hb0 := bnext hb0 hb3 hb0.size
        clear HG3 hb3 a0 a1 a2 a3 hr1
        go_wp2_with fail
        refine (HP.out _).mono ?_
        rintro x w4 ⟨rfl, hb4⟩
        replace hb0 := bnext hb0 hb4 hb0.size
        clear HP hb4
        go_wp2_with fail
        refine (HS.out _).mono ?_
        rintro x w5 ⟨rfl, rfl⟩
        clear HS
        go_wp2
        go_ret
        exact ⟨ret_bool HR.out.symm, hb0⟩
end Go.Proofs.YtcaekfebnhedpaaGreatDoor
set_option linter.unusedVariables false
set_option linter.unusedSimpArgs false
namespace Go.Proofs.YtcaekfebnhedpaaGreatDoor
open Go.RowKit

set_option maxRecDepth 100000
theorem RdB.at_ {w : World} {A : Option Addr} {n : Nat} {l : List UInt8} (h : RdB w A n l) {k : Nat} (hk : k < n) : ∃ g o b, A = some ⟨g, o, none⟩ ∧ g < w.heap.size ∧ Hid (l[k]? = some b) ∧ w.cell? ⟨g, o + k, none⟩ = some (.int .u8 (b.toNat : Int)) ∧ b.toNat < 256 := by
  obtain ⟨g, o, e, hg, hc⟩ := h.2.2 (by omega)
  have hk' : k < l.length := by rw [h.1]; exact hk
  refine ⟨g, o, l[k], e, hg, Lib.hid (List.getElem?_eq_getElem hk'), hc k _ (by simp [hk', bytV]), UInt8.toNat_lt _⟩
set_option maxHeartbeats 400000 in
theorem copyBytes_own (A : Option Addr) (n c : Nat) (l : List UInt8) (w : World) (hl : RdB w A n l) (hn : n ≤ 1099511627776) :
    Calls Tryz.prog 23 #[.slice A n c] w fun e w' => ∃ A' n' c', e = .returned (.slice A' n' c') ∧ OwnB w' w.heap.size (.slice A' n' c') l ∧ Below w.heap.size w w' := by
  go_enter Tryz.func23, Tryz.ntmps23
  go_wp2_with
    (at_builtin
     refine wp_appB rfl (.tmp 5) (.tmp 6) rfl w.heap.size (.slice (some ⟨w.heap.size, 0, none⟩) 0 0) [] rfl (OwnB.made w) A n c l rfl ?hr ?hby ?hbase ?_
     case hr => exact hl.step (alloc_below _ _)
     case hby => simp; omega
     case hbase => simp
     intro A1 n1 c1 w1 hown1 hb1 hn1)
  go_ret
  exact ⟨A1, n1, c1, rfl, hown1, (alloc_below _ _).trans hb1⟩
theorem u8eq0 {a b : UInt8} (h : a = b) : ((a.toNat : Int) == (b.toNat : Int)) = true := by subst h; simp
theorem u8ne0 {a b : UInt8} (h : ¬ a = b) : ((a.toNat : Int) == (b.toNat : Int)) = false := by
  rw [beq_eq_false_iff_ne]; intro e; exact h (UInt8.toNat_inj.1 (by omega))
set_option maxHeartbeats 400000 in
theorem sameBytes_any (A B : Option Addr) (n m c d : Nat) (l r : List UInt8) (w : World) (hl : RdB w A n l) (hr : RdB w B m r) (hn : n ≤ 1099511627776) (hm : m ≤ 1099511627776) :
    Calls Tryz.prog 20 #[.slice A n c, .slice B m d] w fun e w' => e = .returned (.bool (l == r)) ∧ Below w.heap.size w w' := by
  by_cases hnm : n = m
  case neg =>
    have HF : Hid ((l == r) = false) := Lib.hid (by rw [beq_eq_false_iff_ne]; intro h; apply hnm; rw [← hl.1, ← hr.1, h])
    have hnm' : ((n : Int) != (m : Int)) = true := by simp; omega
    go_enter Tryz.func20, Tryz.ntmps20
    go_wp2
    go_ret
    exact ⟨ret_bool HF.out.symm, Below.refl _ _⟩
  subst hnm
  have HN : Hid (∀ k : Nat, ∀ x y : UInt8, l[k]? = some x → r[k]? = some y → x ≠ y → (l == r) = false) := Lib.hid fun k x y h1 h2 hne => by
    rw [beq_eq_false_iff_ne]; intro h; subst h; rw [h1] at h2; exact hne (Option.some.inj h2)
  have HT : Hid (l.take n = r.take n → (l == r) = true) := Lib.hid fun h => by
    rw [List.take_of_length_le (by rw [hl.1]; exact Nat.le_refl _), List.take_of_length_le (by rw [hr.1]; exact Nat.le_refl _)] at h; simpa using h
  go_enter Tryz.func20, Tryz.ntmps20
  go_wp2
  go_loopw [5] (fun t wr => ∃ k : Nat, k ≤ n ∧ t = .int .i64 k ∧ Hid (l.take k = r.take k) ∧ Below w.heap.size w wr) (fun t _ => n - (intOf t).toNat)
  case atStart => exact ⟨0, by omega, rfl, Lib.hid rfl, Below.refl _ _⟩
  case round =>
    obtain ⟨k, hk, rfl, HA, hbr⟩ := hrel
    by_cases hlt : k < n
    · obtain ⟨g, o, x, rfl, hg, HX, hc1, hx⟩ := (hl.step hbr).at_ hlt
      obtain ⟨g', o', y, rfl, hg', HY, hd1, hy⟩ := (hr.step hbr).at_ hlt
      clear hl hr
      have HS : Hid (x = y → l.take (k + 1) = r.take (k + 1)) := Lib.hid fun h => by rw [take_snoc? HX.out, take_snoc? HY.out, HA.out, h]
      have HF : Hid (x ≠ y → (l == r) = false) := Lib.hid fun h => HN.out k _ _ HX.out HY.out h
      clear HN HT
      by_cases hxy : x = y
      · have HS2 := Lib.hid (HS.out hxy)
        have e1 := u8eq0 hxy
        clear HS HF hxy
        go_wp2
        go_quiet (fail)
        go_wp2
        go_roundw
        case rel => exact ⟨k + 1, by omega, by go_num, HS2, below_drewN hbr _⟩
        case measure => simp [intOf]; omega
      · have HF2 := Lib.hid (HF.out hxy)
        have hne := u8ne0 hxy
        clear HS HF hxy
        go_wp2
        go_quiet (fail)
        go_wp2
        go_ret
        exact ⟨ret_bool HF2.out.symm, below_drewN hbr _⟩
    · obtain rfl : k = n := by omega
      have HT2 := Lib.hid (HT.out HA.out)
      go_wp2
      go_ret
      exact ⟨ret_bool HT2.out.symm, hbr⟩
end Go.Proofs.YtcaekfebnhedpaaGreatDoor
