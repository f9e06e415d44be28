/- Joined texts: Copies and comparisons of requests and responses; rows of four cells; Validators: moment, second, Ask and Unchanged, the program's and the reference's. The conditions stand in each line. -/
import Derived.Test.YtbigcdmkfcmegaaGreatDoorM5
import Derived.Test.YtbigcdmkfcmegaaGreatDoorM15
import Derived.Test.YtbigcdmkfcmegaaGreatDoorM18
import Derived.Test.YtbigcdmkfcmegaaGreatDoorM22
import Derived.BigQuiet
import Derived.Deep.QuietTactic
set_option linter.unusedVariables false
set_option linter.unusedSimpArgs false
namespace Go.Proofs.YtbigcdmkfcmegaaGreatDoor
open Go.RowKit

def reqV (m t : List UInt8) (minor : Int) (A : Option Addr) (n c : Nat) : Value := .agg #[.string (bs m), .string (bs t), .int .i64 minor, .slice A n c]
def respV (st : Int) (rs : List UInt8) (minor : Int) (A : Option Addr) (n c : Nat) : Value := .agg #[.int .i64 st, .string (bs rs), .int .i64 minor, .slice A n c]
/-- A row of the call's own stays behind a call that only makes memory. -/
theorem row_keep {w w' : World} {cs : Array Value} {t : TypeId} {B : Nat} (h : w.heap[B]? = some (.cells cs t (0, 0))) (hb : Below w.heap.size w w') : w'.heap[B]? = some (.cells cs t (0, 0)) := by
  rw [hb.block B (by exact (Array.getElem?_eq_some_iff.1 h).1)]; exact h
theorem row_facts4 {w : World} {v0 v1 v2 v3 : Value} {t : TypeId} {B : Nat} (h : w.heap[B]? = some (.cells #[v0, v1, v2, v3] t (0, 0))) :
    w.cell? ⟨B, 0, none⟩ = some v0 ∧ w.cell? ⟨B, 1, none⟩ = some v1 ∧ w.cell? ⟨B, 2, none⟩ = some v2 ∧ w.cell? ⟨B, 3, none⟩ = some v3 ∧ w.frozen? ⟨B, 0, none⟩ = false ∧ w.frozen? ⟨B, 1, none⟩ = false ∧ w.frozen? ⟨B, 2, none⟩ = false ∧ w.frozen? ⟨B, 3, none⟩ = false := by
  refine ⟨?_, ?_, ?_, ?_, ?_, ?_, ?_, ?_⟩
  iterate 4 (rw [cell_of_row _ _ _ _ _ _ h]; rfl)
  all_goals (simp only [World.frozen?, h]; rfl)
theorem own_setCell {w : World} {base : Nat} {e : TypeId} {size n : Nat} {v : Value} {xs : List Value} (h : w.ownsRow base e size v n xs) {p : Addr} (hp : p.block < base) (u : Value) : (w.setCell p u).ownsRow base e size v n xs :=
  h.kept (row := some p.block) ⟨rfl, rfl, rfl, by simp [World.setCell], fun i _ hne => Below.heap_setCell w p u i (fun he => hne (by rw [he]))⟩ (by
    cases hv : v.ownBlock with
    | none => simp
    | some k =>
      have := (h.lt k hv).1
      simp; omega)
theorem OwnF.setCell {w : World} {B : Nat} {v : Value} {l : List Fld} (h : OwnF w B v l) {p : Addr} (hp : p.block < B) (u : Value) : OwnF (w.setCell p u) B v l := own_setCell h hp u
set_option maxHeartbeats 1000000 in
theorem copyResponse_any (st : Int) (rs : List UInt8) (minor : Int) (A : Option Addr) (n c : Nat) (l : List Fld) (w : World) (hl : RdF w A n l) (hn : n ≤ 1048576) :
    Calls Tryz.prog 8 #[respV st rs minor A n c] w fun e w' => ∃ A' n' c', e = .returned (respV st rs minor A' n' c') ∧ RdF w' A' n' l ∧ Below w.heap.size w w' := by
  unfold respV
  have hal1 := alloc_below w (.cells #[.int .i64 st, .string (bs rs), .int .i64 minor, .slice A n c] 24)
  have hr1 := heap_alloc_new w (.cells #[.int .i64 st, .string (bs rs), .int .i64 minor, .slice A n c] 24)
  have hal2 := alloc_below (w.alloc (.cells #[.int .i64 st, .string (bs rs), .int .i64 minor, .slice A n c] 24)) (.cells #[.int .i64 0, .string ⟨#[]⟩, .int .i64 0, .slice none 0 0] 24)
  have hb0 := bnext hal1 hal2 hal1.size
  have hl2 := (hl.step hal1).step hal2
  have hr2 := heap_alloc_new (w.alloc (.cells #[.int .i64 st, .string (bs rs), .int .i64 minor, .slice A n c] 24)) (.cells #[.int .i64 0, .string ⟨#[]⟩, .int .i64 0, .slice none 0 0] 24)
  rw [show (w.alloc (.cells #[.int .i64 st, .string (bs rs), .int .i64 minor, .slice A n c] 24)).heap.size = w.heap.size + 1 by simp] at hr2
  have hr1a := row_keep hr1 hal2
  have hC := copyFields_own A n c l _ hl2 (by omega)
  clear hal1 hal2 hl hl2 hr1
  go_enter Tryz.func8, Tryz.ntmps8
  go_wp2_with fail
  refine hC.mono ?_
  rintro e w1 ⟨A', n', c', rfl, hown, hb1⟩
  have hr1b := row_keep hr1a hb1
  have hr2b := row_keep hr2 hb1
  have hbA := bnext hb0 hb1 hb0.size
  have hrd := hown.rd
  have hlt : w.heap.size + 2 ≤ w1.heap.size := by have := hb1.size; simpa using this
  obtain ⟨a0, a1, a2, a3, g0, g1, g2, g3⟩ := row_facts4 hr1b
  obtain ⟨c0, c1, c2, c3, f0, f1, f2, f3⟩ := row_facts4 hr2b
  clear hr1a hr2 hr1b hr2b hb1 hb0 hC
  rw [show ((w.alloc (.cells #[.int .i64 st, .string (bs rs), .int .i64 minor, .slice A n c] 24)).alloc (.cells #[.int .i64 0, .string ⟨#[]⟩, .int .i64 0, .slice none 0 0] 24)).heap.size = w.heap.size + 2 by simp] at hown
  go_wp2
  refine bodyPost_ret (v := .agg #[.int .i64 st, .string (bs rs), .int .i64 minor, .slice A' n' c']) (by simp [results, Tryz.results8, go_sem, c0, c1, c2, c3]) rfl ⟨A', n', c', rfl, (((((hown.setCell (by simp) _).setCell (by simp) _).setCell (by simp) _).setCell (by simp) _).setCell (by simp) _).rd, ((((hbA.setCell (by simp) _).setCell (by simp) _).setCell (by simp) _).setCell (by simp) _).setCell (by simp) _⟩
set_option maxHeartbeats 1000000 in
theorem sameResponse_any (st : Int) (rs : List UInt8) (minor : Int) (A B : Option Addr) (n c n' c' : Nat) (l : List Fld) (w : World) (hl : RdF w A n l) (hr : RdF w B n' l) (hn : n ≤ 1048576) (hn' : n' ≤ 1048576) :
    Calls Tryz.prog 12 #[respV st rs minor A n c, respV st rs minor B n' c'] w fun e w' => e = .returned (.bool true) ∧ Below w.heap.size w w' := by
  unfold respV
  have hal1 := alloc_below w (.cells #[.int .i64 st, .string (bs rs), .int .i64 minor, .slice A n c] 24)
  have hal2 := alloc_below (w.alloc (.cells #[.int .i64 st, .string (bs rs), .int .i64 minor, .slice A n c] 24)) (.cells #[.int .i64 st, .string (bs rs), .int .i64 minor, .slice B n' c'] 24)
  have hb0 := bnext hal1 hal2 hal1.size
  have hS := sameFields_any A B n n' c c' l l _ ((hl.step hal1).step hal2) ((hr.step hal1).step hal2) (by omega) (by omega)
  rw [show (l == l) = true by simp] at hS
  have q1 : (st == st) = true := by simp
  have q2 : (rs == rs) = true := by simp
  have q3 : (minor == minor) = true := by simp
  clear hal1 hal2 hl hr
  go_enter Tryz.func12, Tryz.ntmps12
  go_wp2_with fail
  refine hS.mono ?_
  rintro e w1 ⟨rfl, hb1⟩
  go_wp2
  go_ret
  exact ⟨rfl, bnext hb0 hb1 hb0.size⟩
end Go.Proofs.YtbigcdmkfcmegaaGreatDoor
set_option linter.unusedVariables false
set_option linter.unusedSimpArgs false
namespace Go.Proofs.YtbigcdmkfcmegaaGreatDoor
open Go.RowKit

set_option maxRecDepth 100000
theorem getLen {l : List Fld} {name : List UInt8} {M n : Nat} (hn : l.length ≤ n) (hvv : ∀ v ∈ valuesL l name, v.length ≤ M) : (Frs.getL l name).length ≤ n * (2 + M) := by
  unfold Frs.getL
  refine Nat.le_trans (join_len [44, 32] M _ hvv) ?_
  exact Nat.mul_le_mul (Nat.le_trans (values_le l name) hn) (Nat.le_refl _)
set_option maxHeartbeats 400000 in
theorem moment18_anyM (M : Nat) (A : Option Addr) (n c : Nat) (l : List Fld) (name : List UInt8) (w : World) (hl : RdF w A n l) (hn : n ≤ 1048576) (hls : FlenOK l) (hvv : ∀ v ∈ valuesL l name, v.length ≤ M) (hM : n * (2 + M) ≤ 4398046511104) (hnm : name.length ≤ 1048576) :
    Calls Tryz.prog 22 #[.slice A n c, .string (bs name)] w fun x w' => x = .returned (.tuple #[.string (bs (Frs.getL l name)), .int .i64 (Frs.momV l name), .bool (Frs.momO l name)]) ∧ Below w.heap.size w w' := by
  have hC := get_anyM M A n c l name w hl hn hls hvv (Nat.le_trans hM (by omega)) hnm
  have hgl := Nat.le_trans (getLen (n := n) (by rw [hl.1]; exact Nat.le_refl _) hvv) hM
  have HV : Hid (Frs.momV l name = (Dt.dparse (Frs.getL l name)).1) := Lib.hid rfl
  have HO : Hid (Frs.momO l name = ((Dt.dparse (Frs.getL l name)).2 == 0)) := Lib.hid rfl
  change Calls Tryz.prog 21 _ _ fun x w' => x = .returned (.tuple #[.string (bs (Frs.getL l name)), .bool _]) ∧ _ at hC
  generalize (!(valuesL l name).isEmpty) = r at *
  generalize Frs.momV l name = mv at *
  generalize Frs.momO l name = mo at *
  generalize Frs.getL l name = s at *
  have HP := fun W => parse_any s W (by omega)
  generalize Dt.dparse s = d at *
  go_enter Tryz.func22, Tryz.ntmps22
  go_wp2_with fail
  refine hC.mono ?_
  rintro x w1 ⟨rfl, hb1⟩
  clear hC
  go_wp2_with fail
  refine (HP _).mono ?_
  rintro x w2 ⟨rfl, hb2⟩
  clear HP
  go_wp2
  go_ret3
  exact ⟨by rw [HV.out, HO.out]; rfl, bnext hb1 hb2 hb1.size⟩
theorem moment18_any (A : Option Addr) (n c : Nat) (l : List Fld) (name : List UInt8) (w : World) (hl : RdF w A n l) (hn : n ≤ 1048576) (hls : FlenS l) (hnm : name.length ≤ 1048576) :
    Calls Tryz.prog 22 #[.slice A n c, .string (bs name)] w fun x w' => x = .returned (.tuple #[.string (bs (Frs.getL l name)), .int .i64 (Frs.momV l name), .bool (Frs.momO l name)]) ∧ Below w.heap.size w w' :=
  moment18_anyM 1048576 A n c l name w hl hn hls.ok (fun v hv => values_each hls hv) (Nat.le_trans (Nat.mul_le_mul hn (Nat.le_refl _)) (by omega)) hnm
set_option maxHeartbeats 400000 in
theorem second18_anyM (M : Nat) (A : Option Addr) (n c : Nat) (l : List Fld) (name : List UInt8) (w : World) (hl : RdF w A n l) (hn : n ≤ 1048576) (hls : FlenOK l) (hvv : ∀ v ∈ valuesL l name, v.length ≤ M) (hM : n * (2 + M) ≤ 4398046511104) (hnm : name.length ≤ 1048576) :
    Calls Tryz.prog 25 #[.slice A n c, .string (bs name)] w fun x w' => x = .returned (.int .i64 (Frs.secdL l name)) ∧ Below w.heap.size w w' := by
  have hC := getR_anyM M A n c l name w hl hn hls hvv (Nat.le_trans hM (by omega)) hnm
  have hgl := Nat.le_trans (getLen (n := n) (by rw [hl.1]; exact Nat.le_refl _) hvv) hM
  have HV : Hid (Frs.secdL l name = if (Dt.dparse (Frs.getL l name)).2 = 0 then (Dt.dparse (Frs.getL l name)).1 else -1) := Lib.hid (by
    unfold Frs.secdL Frs.momO Frs.momV
    by_cases h : (Dt.dparse (Frs.getL l name)).2 = 0
    · rw [if_pos h, if_pos (by simp [h])]
    · rw [if_neg h, if_neg (by simp [h])])
  change Calls Tryz.prog 23 _ _ fun x w' => x = .returned (.tuple #[.string (bs (Frs.getL l name)), .bool _]) ∧ _ at hC
  generalize (!(valuesL l name).isEmpty) = r at *
  generalize Frs.secdL l name = R at *
  generalize Frs.getL l name = s at *
  have HP := fun W => rparse_any s W (by omega)
  rw [Dt.parse_eq] at HP
  generalize Dt.dparse s = d at *
  by_cases hd : d.2 = 0
  · have HL : Hid (R = d.1) := Lib.hid (by rw [HV.out, if_pos hd])
    have qd : (d.2 != 0) = false := by simp [hd]
    clear hd HV
    go_enter Tryz.func25, Tryz.ntmps25
    go_wp2_with fail
    refine hC.mono ?_
    rintro x w1 ⟨rfl, hb1⟩
    clear hC
    go_wp2_with fail
    refine (HP _).mono ?_
    rintro x w2 ⟨rfl, hb2⟩
    clear HP
    go_wp2
    go_ret
    exact ⟨ret_int HL.out.symm, bnext hb1 hb2 hb1.size⟩
  · have HL : Hid (R = -1) := Lib.hid (by rw [HV.out, if_neg hd])
    have qd : (d.2 != 0) = true := by simpa using hd
    clear hd HV
    go_enter Tryz.func25, Tryz.ntmps25
    go_wp2_with fail
    refine hC.mono ?_
    rintro x w1 ⟨rfl, hb1⟩
    clear hC
    go_wp2_with fail
    refine (HP _).mono ?_
    rintro x w2 ⟨rfl, hb2⟩
    clear HP
    go_wp2
    go_ret
    exact ⟨ret_int HL.out.symm, bnext hb1 hb2 hb1.size⟩
theorem second18_any (A : Option Addr) (n c : Nat) (l : List Fld) (name : List UInt8) (w : World) (hl : RdF w A n l) (hn : n ≤ 1048576) (hls : FlenS l) (hnm : name.length ≤ 1048576) :
    Calls Tryz.prog 25 #[.slice A n c, .string (bs name)] w fun x w' => x = .returned (.int .i64 (Frs.secdL l name)) ∧ Below w.heap.size w w' :=
  second18_anyM 1048576 A n c l name w hl hn hls.ok (fun v hv => values_each hls hv) (Nat.le_trans (Nat.mul_le_mul hn (Nat.le_refl _)) (by omega)) hnm
set_option maxHeartbeats 2000000 in
theorem ask_p (st : Int) (rs : List UInt8) (minor : Int) (A : Option Addr) (n c : Nat) (l : List Fld) (w : World) (hl : RdF w A n l) (hn : n ≤ 1048576) (hls : FlenS l) :
    Calls Tryz.prog 10 #[respV st rs minor A n c] w fun x w' => ∃ A' n' c', x = .returned (.slice A' n' c') ∧ OwnF w' w.heap.size (.slice A' n' c') (Val.askL l) ∧ Below w.heap.size w w' := by
  unfold respV
  have hb0 := alloc_below w (.cells #[.int .i64 st, .string (bs rs), .int .i64 minor, .slice A n c] 24)
  have hr1 := heap_alloc_new w (.cells #[.int .i64 st, .string (bs rs), .int .i64 minor, .slice A n c] 24)
  have hsz : w.heap.size + 1 ≤ (w.alloc (.cells #[.int .i64 st, .string (bs rs), .int .i64 minor, .slice A n c] 24)).heap.size := by simp
  have hgl := Frs.get_len hls (by rw [hl.1]; exact hn) Val.etagN
  have HA : Hid (Val.askL l = (if (tgR (Frs.getL l Val.etagN)).2.2 = true then [(Val.InmN, Frs.getL l Val.etagN)] else []) ++ (if Frs.momO l Frs.lmN = true then [(Val.ImsN, Frs.getL l Frs.lmN)] else [])) := Lib.hid rfl
  generalize Val.askL l = R at *
  go_enter Tryz.func10, Tryz.ntmps10
  go_upto_region 1 with fail
  generalize w.alloc (.cells #[.int .i64 st, .string (bs rs), .int .i64 minor, .slice A n c] 24) = w2 at *
  have HG : Hid (∀ W, Below w.heap.size w W → Calls Tryz.prog 21 #[.slice A n c, .string (bs Val.EtagN)] W fun x w' => x = .returned (.tuple #[.string (bs (Frs.getL l Val.etagN)), .bool (!(valuesL l Val.EtagN).isEmpty)]) ∧ Below W.heap.size W w') := Lib.hid fun W hb => by
    have h := get_any A n c l Val.EtagN W (hl.step hb) hn hls (by decide)
    change Calls Tryz.prog 21 _ _ fun x w' => x = .returned (.tuple #[.string (bs (Frs.getL l Val.EtagN)), .bool _]) ∧ _ at h
    rw [show Frs.getL l Val.EtagN = Frs.getL l Val.etagN from Frs.get_name rfl] at h
    exact h
  have HMo : Hid (∀ W, Below w.heap.size w W → Calls Tryz.prog 22 #[.slice A n c, .string (bs Frs.LmN)] W fun x w' => x = .returned (.tuple #[.string (bs (Frs.getL l Frs.lmN)), .int .i64 (Frs.momV l Frs.lmN), .bool (Frs.momO l Frs.lmN)]) ∧ Below W.heap.size W w') := Lib.hid fun W hb => by
    have h := moment18_any A n c l Frs.LmN W (hl.step hb) hn hls (by decide)
    rw [show Frs.getL l Frs.LmN = Frs.getL l Frs.lmN from Frs.get_name rfl, show Frs.momV l Frs.LmN = Frs.momV l Frs.lmN from Frs.momV_name rfl, show Frs.momO l Frs.LmN = Frs.momO l Frs.lmN from Frs.momO_name rfl] at h
    exact h
  have hT := fun W => tag_p (Frs.getL l Val.etagN) W (by omega)
  unfold tgV at hT
  generalize (!(valuesL l Val.EtagN).isEmpty) = ve at *
  generalize tgR (Frs.getL l Val.etagN) = tr at *
  generalize Frs.getL l Val.etagN = T at *
  generalize Frs.getL l Frs.lmN = L at *
  generalize Frs.momO l Frs.lmN = mo at *
  generalize Frs.momV l Frs.lmN = mv at *
  obtain ⟨t1, t2, t3⟩ := tr
  dsimp only at *
  clear hl hls hgl
  obtain ⟨a0, a1, a2, a3, -⟩ := row_facts4 hr1
  have hC := HG.out _ hb0
  clear HG
  go_wp2_with fail
  refine hC.mono ?_
  rintro x w3 ⟨rfl, hb3⟩
  clear a0 a1 a2 a3
  clear hC
  replace hr1 := row_keep hr1 hb3
  replace hb0 := bnext hb0 hb3 hb0.size
  have hsz3 : w.heap.size + 1 ≤ w3.heap.size := Nat.le_trans hsz hb3.size
  clear hb3 hsz
  go_wp2_with fail
  refine (hT _).mono ?_
  rintro x w4 ⟨rfl, rfl⟩
  clear hT
  go_upto_if 24 with fail
  go_cut [3] (fun v wc => ∃ A1 n1 c1, v = .slice A1 n1 c1 ∧ OwnF wc (w.heap.size + 1) (.slice A1 n1 c1) (if t3 = true then [(Val.InmN, T)] else []) ∧ Below (w.heap.size + 1) w3 wc)
  case first =>
    cases t3 with
    | true =>
      go_wp2_with
        (at_builtin
         refine wp_appF rfl (.tmp 25) (.tmp 28) rfl (w.heap.size + 1) (.slice none 0 0) [] rfl ?ho (some ⟨w3.heap.size, 0, none⟩) 1 1 [(Val.InmN, T)] rfl ?hr ?hby ?hbase ?_
         case ho => exact OwnF.nil _ _
         case hr => exact one_rdF _ _ _ _
         case hby => simp
         case hbase => simp; omega
         intro A5 n5 c5 w5 hown5 hb5 hn5)
      have hbx : Below (w.heap.size + 1) w3 w5 := ((alloc_below w3 (.cells #[.string (bs Val.InmN), .string (bs T)] 37)).mono hsz3).trans hb5
      clear hb5 hn5
      go_wp2
      go_meet
      case rel => exact ⟨A5, n5, c5, rfl, hown5, hbx⟩
    | false =>
      go_wp2
      go_meet
      case rel => exact ⟨_, _, _, rfl, OwnF.nil _ _, Below.refl _ _⟩
  case rest =>
    obtain ⟨A1, n1, c1, rfl, hown, hb4⟩ := hcut
    have hlt : w.heap.size < w.heap.size + 1 := by omega
    replace hr1 : wc.heap[w.heap.size]? = _ := (hb4.block w.heap.size hlt).trans hr1
    replace hb0 : Below w.heap.size w wc := hb0.trans (hb4.mono (by omega))
    replace hsz3 : w.heap.size + 1 ≤ wc.heap.size := Nat.le_trans hsz3 hb4.size
    clear hb4 hlt
    obtain ⟨a0, a1, a2, a3, -⟩ := row_facts4 hr1
    have hC := HMo.out _ hb0
    clear HMo
    go_wp2_with fail
    refine hC.mono ?_
    rintro x w6 ⟨rfl, hb6⟩
    clear hC
    clear a0 a1 a2 a3
    replace hown := hown.step hb6
    replace hb0 := bnext hb0 hb6 hb0.size
    replace hsz3 := Nat.le_trans hsz3 hb6.size
    clear hb6 hr1
    have hla : (if t3 = true then [(Val.InmN, T)] else ([] : List Fld)).length ≤ 1 := by split <;> simp
    generalize hpre : (if t3 = true then [(Val.InmN, T)] else ([] : List Fld)) = pre at *
    have HP := Lib.hid hpre
    clear hpre
    cases mo with
    | true =>
      go_wp2_with
        (at_builtin
         refine wp_appF rfl (.tmp 38) (.tmp 41) rfl (w.heap.size + 1) (.slice A1 n1 c1) pre rfl ?ho (some ⟨w6.heap.size, 0, none⟩) 1 1 [(Val.ImsN, L)] rfl ?hr ?hby ?hbase ?_
         case ho => exact hown.step (alloc_below _ _)
         case hr => exact one_rdF _ _ _ _
         case hby => omega
         case hbase => simp; omega
         intro A5 n5 c5 w5 hown5 hb5 hn5)
      have hbx : Below w.heap.size w w5 := hb0.trans (((alloc_below w6 (.cells #[.string (bs Val.ImsN), .string (bs L)] 37)).mono (by omega)).trans (hb5.mono (by omega)))
      clear hb5 hn5
      go_wp2
      go_ret
      exact ⟨A5, n5, c5, rfl, by rw [HA.out]; exact hown5.mono (by omega), hbx⟩
    | false =>
      go_wp2
      go_ret
      exact ⟨A1, n1, c1, rfl, by rw [HA.out]; simpa using hown.mono (show w.heap.size ≤ w.heap.size + 1 by omega), hb0⟩
set_option maxHeartbeats 2000000 in
theorem ask_r (st : Int) (rs : List UInt8) (minor : Int) (A : Option Addr) (n c : Nat) (l : List Fld) (w : World) (hl : RdF w A n l) (hn : n ≤ 1048576) (hls : FlenS l) :
    Calls Tryz.prog 11 #[respV st rs minor A n c] w fun x w' => ∃ A' n' c', x = .returned (.slice A' n' c') ∧ OwnF w' w.heap.size (.slice A' n' c') (Val.askL l) ∧ Below w.heap.size w w' := by
  unfold respV
  have hb0 := alloc_below w (.cells #[.int .i64 st, .string (bs rs), .int .i64 minor, .slice A n c] 24)
  have hr1 := heap_alloc_new w (.cells #[.int .i64 st, .string (bs rs), .int .i64 minor, .slice A n c] 24)
  have hsz : w.heap.size + 1 ≤ (w.alloc (.cells #[.int .i64 st, .string (bs rs), .int .i64 minor, .slice A n c] 24)).heap.size := by simp
  have hgl := Frs.get_len hls (by rw [hl.1]; exact hn) Val.etagN
  have HA : Hid (Val.askL l = (if (tgR (Frs.getL l Val.etagN)).2.2 = true then [(Val.InmN, Frs.getL l Val.etagN)] else []) ++ (if Frs.momO l Frs.lmN = true then [(Val.ImsN, Frs.getL l Frs.lmN)] else [])) := Lib.hid rfl
  generalize Val.askL l = R at *
  go_enter Tryz.func11, Tryz.ntmps11
  go_upto_region 1 with fail
  generalize w.alloc (.cells #[.int .i64 st, .string (bs rs), .int .i64 minor, .slice A n c] 24) = w2 at *
  have HG : Hid (∀ W, Below w.heap.size w W → Calls Tryz.prog 23 #[.slice A n c, .string (bs Val.etagN)] W fun x w' => x = .returned (.tuple #[.string (bs (Frs.getL l Val.etagN)), .bool (!(valuesL l Val.etagN).isEmpty)]) ∧ Below W.heap.size W w') := Lib.hid fun W hb => by
    have h := getR_any A n c l Val.etagN W (hl.step hb) hn hls (by decide)
    change Calls Tryz.prog 23 _ _ fun x w' => x = .returned (.tuple #[.string (bs (Frs.getL l Val.etagN)), .bool _]) ∧ _ at h
    rw [show Frs.getL l Val.etagN = Frs.getL l Val.etagN from Frs.get_name rfl] at h
    exact h
  have HS : Hid (∀ W, Below w.heap.size w W → Calls Tryz.prog 25 #[.slice A n c, .string (bs Frs.lmN)] W fun x w' => x = .returned (.int .i64 (Frs.secdL l Frs.lmN)) ∧ Below W.heap.size W w') := Lib.hid fun W hb => second18_any A n c l Frs.lmN W (hl.step hb) hn hls (by decide)
  have HG2 : Hid (∀ W, Below w.heap.size w W → Calls Tryz.prog 23 #[.slice A n c, .string (bs Frs.lmN)] W fun x w' => x = .returned (.tuple #[.string (bs (Frs.getL l Frs.lmN)), .bool (!(valuesL l Frs.lmN).isEmpty)]) ∧ Below W.heap.size W w') := Lib.hid fun W hb => getR_any A n c l Frs.lmN W (hl.step hb) hn hls (by decide)
  have hsd : (Frs.momO l Frs.lmN = true ∧ 0 ≤ Frs.secdL l Frs.lmN) ∨ (Frs.momO l Frs.lmN = false ∧ Frs.secdL l Frs.lmN < 0) := by
    have hm := Frs.mom_bd l Frs.lmN
    unfold Frs.secdL
    cases Frs.momO l Frs.lmN
    · right; simp
    · left; simp [hm.1]
  generalize Frs.secdL l Frs.lmN = sd at *
  generalize (!(valuesL l Frs.lmN).isEmpty) = ve2 at *
  have hT := fun W => tag_r (Frs.getL l Val.etagN) W (by omega)
  unfold tgV at hT
  generalize (!(valuesL l Val.etagN).isEmpty) = ve at *
  generalize tgR (Frs.getL l Val.etagN) = tr at *
  generalize Frs.getL l Val.etagN = T at *
  generalize Frs.getL l Frs.lmN = L at *
  generalize Frs.momO l Frs.lmN = mo at *
  obtain ⟨t1, t2, t3⟩ := tr
  dsimp only at *
  clear hl hls hgl
  go_upto_region 2 with fail
  have hal := alloc_below w2 (.cells #[] 37)
  have ho0 : OwnF (w2.alloc (.cells #[] 37)) (w.heap.size + 1) (.slice (some ⟨w2.heap.size, 0, none⟩) 0 0) [] := (OwnF.made w2).mono hsz
  replace hr1 := row_keep hr1 hal
  replace hb0 := bnext hb0 hal hb0.size
  have hsz2 : w.heap.size + 1 ≤ (w2.alloc (.cells #[] 37)).heap.size := Nat.le_trans hsz hal.size
  generalize w2.alloc (.cells #[] 37) = w2b at *
  generalize w2.heap.size = g2 at *
  clear hal hsz
  obtain ⟨a0, a1, a2, a3, -⟩ := row_facts4 hr1
  have hC := HG.out _ hb0
  clear HG
  go_wp2_with fail
  refine hC.mono ?_
  rintro x w3 ⟨rfl, hb3⟩
  clear a0 a1 a2 a3
  clear hC
  replace hr1 := row_keep hr1 hb3
  replace hb0 := bnext hb0 hb3 hb0.size
  have hsz3 : w.heap.size + 1 ≤ w3.heap.size := Nat.le_trans hsz2 hb3.size
  have ho3 := ho0.step hb3
  clear ho0
  clear hb3 hsz2
  go_wp2_with fail
  refine (hT _).mono ?_
  rintro x w4 ⟨rfl, rfl⟩
  clear hT
  go_upto_if 24 with fail
  go_cut [3] (fun v wc => ∃ A1 n1 c1, v = .slice A1 n1 c1 ∧ OwnF wc (w.heap.size + 1) (.slice A1 n1 c1) (if t3 = true then [(Val.InmN, T)] else []) ∧ Below (w.heap.size + 1) w3 wc)
  case first =>
    cases t3 with
    | true =>
      go_wp2_with
        (at_builtin
         refine wp_appF rfl (.tmp 25) (.tmp 28) rfl (w.heap.size + 1) (.slice (some ⟨g2, 0, none⟩) 0 0) [] rfl ?ho (some ⟨w3.heap.size, 0, none⟩) 1 1 [(Val.InmN, T)] rfl ?hr ?hby ?hbase ?_
         case ho => exact ho3.step (alloc_below _ _)
         case hr => exact one_rdF _ _ _ _
         case hby => simp
         case hbase => simp; omega
         intro A5 n5 c5 w5 hown5 hb5 hn5)
      have hbx : Below (w.heap.size + 1) w3 w5 := ((alloc_below w3 (.cells #[.string (bs Val.InmN), .string (bs T)] 37)).mono hsz3).trans hb5
      clear hb5 hn5
      go_wp2
      go_meet
      case rel => exact ⟨A5, n5, c5, rfl, hown5, hbx⟩
    | false =>
      go_wp2
      go_meet
      case rel => exact ⟨_, _, _, rfl, ho3, Below.refl _ _⟩
  case rest =>
    obtain ⟨A1, n1, c1, rfl, hown, hb4⟩ := hcut
    have hlt : w.heap.size < w.heap.size + 1 := by omega
    replace hr1 : wc.heap[w.heap.size]? = _ := (hb4.block w.heap.size hlt).trans hr1
    replace hb0 : Below w.heap.size w wc := hb0.trans (hb4.mono (by omega))
    replace hsz3 : w.heap.size + 1 ≤ wc.heap.size := Nat.le_trans hsz3 hb4.size
    clear hb4 hlt
    obtain ⟨a0, a1, a2, a3, -⟩ := row_facts4 hr1
    have hC := HS.out _ hb0
    clear HS
    go_wp2_with fail
    refine hC.mono ?_
    rintro x w6 ⟨rfl, hb6⟩
    clear hC
    clear a0 a1 a2 a3
    replace hown := hown.step hb6
    replace hr1 := row_keep hr1 hb6
    replace hb0 := bnext hb0 hb6 hb0.size
    replace hsz3 := Nat.le_trans hsz3 hb6.size
    clear hb6
    have hla : (if t3 = true then [(Val.InmN, T)] else ([] : List Fld)).length ≤ 1 := by split <;> simp
    generalize hpre : (if t3 = true then [(Val.InmN, T)] else ([] : List Fld)) = pre at *
    have HP := Lib.hid hpre
    clear hpre
    rcases hsd with ⟨rfl, hs0⟩ | ⟨rfl, hs0⟩
    · obtain ⟨a0, a1, a2, a3, -⟩ := row_facts4 hr1
      have hC := HG2.out _ hb0
      clear HG2
      go_wp2_with fail
      refine hC.mono ?_
      rintro x w7 ⟨rfl, hb7⟩
      clear hC
      clear a0 a1 a2 a3
      replace hown := hown.step hb7
      replace hb0 := bnext hb0 hb7 hb0.size
      replace hsz3 := Nat.le_trans hsz3 hb7.size
      clear hb7 hr1
      go_wp2_with
        (at_builtin
         refine wp_appF rfl (.tmp 40) (.tmp 43) rfl (w.heap.size + 1) (.slice A1 n1 c1) pre rfl ?ho (some ⟨w7.heap.size, 0, none⟩) 1 1 [(Val.ImsN, L)] rfl ?hr ?hby ?hbase ?_
         case ho => exact hown.step (alloc_below _ _)
         case hr => exact one_rdF _ _ _ _
         case hby => omega
         case hbase => simp; omega
         intro A5 n5 c5 w5 hown5 hb5 hn5)
      have hbx : Below w.heap.size w w5 := hb0.trans (((alloc_below w7 (.cells #[.string (bs Val.ImsN), .string (bs L)] 37)).mono (by omega)).trans (hb5.mono (by omega)))
      clear hb5 hn5
      go_wp2
      go_ret
      exact ⟨A5, n5, c5, rfl, by rw [HA.out]; exact hown5.mono (by omega), hbx⟩
    · go_wp2
      go_ret
      exact ⟨A1, n1, c1, rfl, by rw [HA.out]; simpa using hown.mono (show w.heap.size ≤ w.heap.size + 1 by omega), hb0⟩
end Go.Proofs.YtbigcdmkfcmegaaGreatDoor
