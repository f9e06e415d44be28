/- Walks of an address's parts: a byte that is unreserved, a host, a port, a cut at a byte, an authority. Conditions: the text's length at most 2^31; the library's variable MaxLen holds some int. -/
import Derived.Test.YtdeaoagdjnnppaaGreatDoorShf
import Derived.Test.YtdeaoagdjnnppaaGreatDoorUrS
import Derived.Test.YtdeaoagdjnnppaaGreatDoorUrL
import Derived.Lib.SlTrimSet
import Derived.Deep.LoopGhost
import Derived.Deep.Cut
import Derived.Deep.DeepCutAuto
import Derived.Shelf.Vars
set_option linter.unusedVariables false
set_option linter.unusedSimpArgs false
namespace Go.Proofs.YtdeaoagdjnnppaaGreatDoor
open Go.RowKit

set_option maxRecDepth 100000
/-- The library's variable holds some int. -/
def MaxL (w : World) : Prop := ∃ m : Int, w.cell? ⟨0, 0, none⟩ = some (.int .i64 m)
theorem maxl_b {w w' : World} (h : MaxL w) (hb : Below w.heap.size w w') : MaxL w' := by
  obtain ⟨m, hm⟩ := h
  exact ⟨m, (World.cell?_of_block (hb.block _ (World.block_lt_of_cell? w _ hm))).trans hm⟩
theorem maxl_of {W : World} (h : W.ShapedOpen Tryz.prog) : MaxL W := cell_of_shapedOpen_int (k := .i64) h (of_decide_eq_true (by kernel_rfl)) (t := 3) (zero := #[.int .i64 0]) (by kernel_rfl) rfl (by kernel_rfl) (by kernel_rfl) Tryz.underlying3
theorem cut_any (s : List UInt8) (c : UInt8) (w : World) (hM : MaxL w) (hs : s.length ≤ 1073741824) :
    Calls Tryz.prog 13 #[.string (bs s), .string ⟨#[c]⟩] w fun e w' => e = .returned (.tuple #[.string (bs (Ur.cutA c s)), .string (bs (Ur.cutB c s)), .bool (Ur.hasC c s)]) ∧ Below w.heap.size w w' := by
  obtain ⟨m, hm⟩ := hM
  refine (Tryz.strings_Cut (bs s) ⟨#[c]⟩ m w (by simp; omega) hm).mono fun e w' h => ⟨?_, ?_⟩
  · have h1 := h.1
    rw [show (ByteArray.mk #[c]).data.toList = [c] from rfl, bs_data, Ur.lib_cut] at h1
    exact h1
  · obtain ⟨n, h2⟩ := h.2
    rw [h2]; exact below_drewN (Below.refl _ _) n
theorem unres_tab2 : ∀ n : Fin 256, Ur.unres (UInt8.ofNat n.val) = ((decide (48 ≤ (UInt8.ofNat n.val).toNat) && decide ((UInt8.ofNat n.val).toNat ≤ 57)) || (decide (97 ≤ (UInt8.ofNat n.val).toNat) && decide ((UInt8.ofNat n.val).toNat ≤ 122)) || (decide (65 ≤ (UInt8.ofNat n.val).toNat) && decide ((UInt8.ofNat n.val).toNat ≤ 90)) || decide ((UInt8.ofNat n.val).toNat = 45) || decide ((UInt8.ofNat n.val).toNat = 46) || decide ((UInt8.ofNat n.val).toNat = 95) || decide ((UInt8.ofNat n.val).toNat = 126)) := by decide +kernel
theorem unres_nat (c : UInt8) : Ur.unres c = ((decide (48 ≤ c.toNat) && decide (c.toNat ≤ 57)) || (decide (97 ≤ c.toNat) && decide (c.toNat ≤ 122)) || (decide (65 ≤ c.toNat) && decide (c.toNat ≤ 90)) || decide (c.toNat = 45) || decide (c.toNat = 46) || decide (c.toNat = 95) || decide (c.toNat = 126)) := by
  obtain ⟨n, rfl⟩ := Ur.u8_fin c
  exact unres_tab2 n
set_option maxHeartbeats 2000000 in
theorem unres_any (c : UInt8) (w : World) : Calls Tryz.prog 30 #[.int .u8 c.toNat] w fun e w' => e = .returned (.bool (Ur.unres c)) ∧ w = w' := by
  have HV := Lib.hid (unres_nat c)
  generalize Ur.unres c = V at *
  have h255 := c.toNat_lt
  have hr : (c.toNat < 45) ∨ (c.toNat = 45) ∨ (c.toNat = 46) ∨ (c.toNat = 47) ∨ (48 ≤ c.toNat ∧ c.toNat ≤ 57) ∨ (58 ≤ c.toNat ∧ c.toNat ≤ 64) ∨ (65 ≤ c.toNat ∧ c.toNat ≤ 90) ∨ (91 ≤ c.toNat ∧ c.toNat ≤ 94) ∨ (c.toNat = 95) ∨ (c.toNat = 96) ∨ (97 ≤ c.toNat ∧ c.toNat ≤ 122) ∨ (123 ≤ c.toNat ∧ c.toNat ≤ 125) ∨ (c.toNat = 126) ∨ (127 ≤ c.toNat) := by omega
  rcases hr with h | h | h | h | h | h | h | h | h | h | h | h | h | h
  · have HW : Hid (V = false) := Lib.hid (by rw [HV.out]; simp; omega)
    have a0 : ¬ 48 ≤ c.toNat := by omega
    have a1 : c.toNat ≤ 57 := by omega
    have a2 : ¬ 97 ≤ c.toNat := by omega
    have a3 : c.toNat ≤ 122 := by omega
    have a4 : ¬ 65 ≤ c.toNat := by omega
    have a5 : c.toNat ≤ 90 := by omega
    have e45 : ((c.toNat : Int) == 45) = false := by rw [beq_eq_false_iff_ne]; omega
    have e46 : ((c.toNat : Int) == 46) = false := by rw [beq_eq_false_iff_ne]; omega
    have e95 : ((c.toNat : Int) == 95) = false := by rw [beq_eq_false_iff_ne]; omega
    have e126 : ((c.toNat : Int) == 126) = false := by rw [beq_eq_false_iff_ne]; omega
    clear HV h h255
    go_enter Tryz.func30, Tryz.ntmps30
    go_wp2
    go_ret
    exact ⟨ret_bool HW.out.symm, rfl⟩
  · have HW : Hid (V = true) := Lib.hid (by rw [HV.out]; simp; omega)
    have a0 : ¬ 48 ≤ c.toNat := by omega
    have a1 : c.toNat ≤ 57 := by omega
    have a2 : ¬ 97 ≤ c.toNat := by omega
    have a3 : c.toNat ≤ 122 := by omega
    have a4 : ¬ 65 ≤ c.toNat := by omega
    have a5 : c.toNat ≤ 90 := by omega
    have e45 : ((c.toNat : Int) == 45) = true := by rw [beq_iff_eq]; omega
    have e46 : ((c.toNat : Int) == 46) = false := by rw [beq_eq_false_iff_ne]; omega
    have e95 : ((c.toNat : Int) == 95) = false := by rw [beq_eq_false_iff_ne]; omega
    have e126 : ((c.toNat : Int) == 126) = false := by rw [beq_eq_false_iff_ne]; omega
    clear HV h h255
    go_enter Tryz.func30, Tryz.ntmps30
    go_wp2
    go_ret
    exact ⟨ret_bool HW.out.symm, rfl⟩
  · have HW : Hid (V = true) := Lib.hid (by rw [HV.out]; simp; omega)
    have a0 : ¬ 48 ≤ c.toNat := by omega
    have a1 : c.toNat ≤ 57 := by omega
    have a2 : ¬ 97 ≤ c.toNat := by omega
    have a3 : c.toNat ≤ 122 := by omega
    have a4 : ¬ 65 ≤ c.toNat := by omega
    have a5 : c.toNat ≤ 90 := by omega
    have e45 : ((c.toNat : Int) == 45) = false := by rw [beq_eq_false_iff_ne]; omega
    have e46 : ((c.toNat : Int) == 46) = true := by rw [beq_iff_eq]; omega
    have e95 : ((c.toNat : Int) == 95) = false := by rw [beq_eq_false_iff_ne]; omega
    have e126 : ((c.toNat : Int) == 126) = false := by rw [beq_eq_false_iff_ne]; omega
    clear HV h h255
    go_enter Tryz.func30, Tryz.ntmps30
    go_wp2
    go_ret
    exact ⟨ret_bool HW.out.symm, rfl⟩
  · have HW : Hid (V = false) := Lib.hid (by rw [HV.out]; simp; omega)
    have a0 : ¬ 48 ≤ c.toNat := by omega
    have a1 : c.toNat ≤ 57 := by omega
    have a2 : ¬ 97 ≤ c.toNat := by omega
    have a3 : c.toNat ≤ 122 := by omega
    have a4 : ¬ 65 ≤ c.toNat := by omega
    have a5 : c.toNat ≤ 90 := by omega
    have e45 : ((c.toNat : Int) == 45) = false := by rw [beq_eq_false_iff_ne]; omega
    have e46 : ((c.toNat : Int) == 46) = false := by rw [beq_eq_false_iff_ne]; omega
    have e95 : ((c.toNat : Int) == 95) = false := by rw [beq_eq_false_iff_ne]; omega
    have e126 : ((c.toNat : Int) == 126) = false := by rw [beq_eq_false_iff_ne]; omega
    clear HV h h255
    go_enter Tryz.func30, Tryz.ntmps30
    go_wp2
    go_ret
    exact ⟨ret_bool HW.out.symm, rfl⟩
  · have HW : Hid (V = true) := Lib.hid (by rw [HV.out]; simp; omega)
    have a0 : 48 ≤ c.toNat := by omega
    have a1 : c.toNat ≤ 57 := by omega
    have a2 : ¬ 97 ≤ c.toNat := by omega
    have a3 : c.toNat ≤ 122 := by omega
    have a4 : ¬ 65 ≤ c.toNat := by omega
    have a5 : c.toNat ≤ 90 := by omega
    have e45 : ((c.toNat : Int) == 45) = false := by rw [beq_eq_false_iff_ne]; omega
    have e46 : ((c.toNat : Int) == 46) = false := by rw [beq_eq_false_iff_ne]; omega
    have e95 : ((c.toNat : Int) == 95) = false := by rw [beq_eq_false_iff_ne]; omega
    have e126 : ((c.toNat : Int) == 126) = false := by rw [beq_eq_false_iff_ne]; omega
    clear HV h h255
    go_enter Tryz.func30, Tryz.ntmps30
    go_wp2
    go_ret
    exact ⟨ret_bool HW.out.symm, rfl⟩
  · have HW : Hid (V = false) := Lib.hid (by rw [HV.out]; simp; omega)
    have a0 : 48 ≤ c.toNat := by omega
    have a1 : ¬ c.toNat ≤ 57 := by omega
    have a2 : ¬ 97 ≤ c.toNat := by omega
    have a3 : c.toNat ≤ 122 := by omega
    have a4 : ¬ 65 ≤ c.toNat := by omega
    have a5 : c.toNat ≤ 90 := by omega
    have e45 : ((c.toNat : Int) == 45) = false := by rw [beq_eq_false_iff_ne]; omega
    have e46 : ((c.toNat : Int) == 46) = false := by rw [beq_eq_false_iff_ne]; omega
    have e95 : ((c.toNat : Int) == 95) = false := by rw [beq_eq_false_iff_ne]; omega
    have e126 : ((c.toNat : Int) == 126) = false := by rw [beq_eq_false_iff_ne]; omega
    clear HV h h255
    go_enter Tryz.func30, Tryz.ntmps30
    go_wp2
    go_ret
    exact ⟨ret_bool HW.out.symm, rfl⟩
  · have HW : Hid (V = true) := Lib.hid (by rw [HV.out]; simp; omega)
    have a0 : 48 ≤ c.toNat := by omega
    have a1 : ¬ c.toNat ≤ 57 := by omega
    have a2 : ¬ 97 ≤ c.toNat := by omega
    have a3 : c.toNat ≤ 122 := by omega
    have a4 : 65 ≤ c.toNat := by omega
    have a5 : c.toNat ≤ 90 := by omega
    have e45 : ((c.toNat : Int) == 45) = false := by rw [beq_eq_false_iff_ne]; omega
    have e46 : ((c.toNat : Int) == 46) = false := by rw [beq_eq_false_iff_ne]; omega
    have e95 : ((c.toNat : Int) == 95) = false := by rw [beq_eq_false_iff_ne]; omega
    have e126 : ((c.toNat : Int) == 126) = false := by rw [beq_eq_false_iff_ne]; omega
    clear HV h h255
    go_enter Tryz.func30, Tryz.ntmps30
    go_wp2
    go_ret
    exact ⟨ret_bool HW.out.symm, rfl⟩
  · have HW : Hid (V = false) := Lib.hid (by rw [HV.out]; simp; omega)
    have a0 : 48 ≤ c.toNat := by omega
    have a1 : ¬ c.toNat ≤ 57 := by omega
    have a2 : ¬ 97 ≤ c.toNat := by omega
    have a3 : c.toNat ≤ 122 := by omega
    have a4 : 65 ≤ c.toNat := by omega
    have a5 : ¬ c.toNat ≤ 90 := by omega
    have e45 : ((c.toNat : Int) == 45) = false := by rw [beq_eq_false_iff_ne]; omega
    have e46 : ((c.toNat : Int) == 46) = false := by rw [beq_eq_false_iff_ne]; omega
    have e95 : ((c.toNat : Int) == 95) = false := by rw [beq_eq_false_iff_ne]; omega
    have e126 : ((c.toNat : Int) == 126) = false := by rw [beq_eq_false_iff_ne]; omega
    clear HV h h255
    go_enter Tryz.func30, Tryz.ntmps30
    go_wp2
    go_ret
    exact ⟨ret_bool HW.out.symm, rfl⟩
  · have HW : Hid (V = true) := Lib.hid (by rw [HV.out]; simp; omega)
    have a0 : 48 ≤ c.toNat := by omega
    have a1 : ¬ c.toNat ≤ 57 := by omega
    have a2 : ¬ 97 ≤ c.toNat := by omega
    have a3 : c.toNat ≤ 122 := by omega
    have a4 : 65 ≤ c.toNat := by omega
    have a5 : ¬ c.toNat ≤ 90 := by omega
    have e45 : ((c.toNat : Int) == 45) = false := by rw [beq_eq_false_iff_ne]; omega
    have e46 : ((c.toNat : Int) == 46) = false := by rw [beq_eq_false_iff_ne]; omega
    have e95 : ((c.toNat : Int) == 95) = true := by rw [beq_iff_eq]; omega
    have e126 : ((c.toNat : Int) == 126) = false := by rw [beq_eq_false_iff_ne]; omega
    clear HV h h255
    go_enter Tryz.func30, Tryz.ntmps30
    go_wp2
    go_ret
    exact ⟨ret_bool HW.out.symm, rfl⟩
  · have HW : Hid (V = false) := Lib.hid (by rw [HV.out]; simp; omega)
    have a0 : 48 ≤ c.toNat := by omega
    have a1 : ¬ c.toNat ≤ 57 := by omega
    have a2 : ¬ 97 ≤ c.toNat := by omega
    have a3 : c.toNat ≤ 122 := by omega
    have a4 : 65 ≤ c.toNat := by omega
    have a5 : ¬ c.toNat ≤ 90 := by omega
    have e45 : ((c.toNat : Int) == 45) = false := by rw [beq_eq_false_iff_ne]; omega
    have e46 : ((c.toNat : Int) == 46) = false := by rw [beq_eq_false_iff_ne]; omega
    have e95 : ((c.toNat : Int) == 95) = false := by rw [beq_eq_false_iff_ne]; omega
    have e126 : ((c.toNat : Int) == 126) = false := by rw [beq_eq_false_iff_ne]; omega
    clear HV h h255
    go_enter Tryz.func30, Tryz.ntmps30
    go_wp2
    go_ret
    exact ⟨ret_bool HW.out.symm, rfl⟩
  · have HW : Hid (V = true) := Lib.hid (by rw [HV.out]; simp; omega)
    have a0 : 48 ≤ c.toNat := by omega
    have a1 : ¬ c.toNat ≤ 57 := by omega
    have a2 : 97 ≤ c.toNat := by omega
    have a3 : c.toNat ≤ 122 := by omega
    have a4 : 65 ≤ c.toNat := by omega
    have a5 : ¬ c.toNat ≤ 90 := by omega
    have e45 : ((c.toNat : Int) == 45) = false := by rw [beq_eq_false_iff_ne]; omega
    have e46 : ((c.toNat : Int) == 46) = false := by rw [beq_eq_false_iff_ne]; omega
    have e95 : ((c.toNat : Int) == 95) = false := by rw [beq_eq_false_iff_ne]; omega
    have e126 : ((c.toNat : Int) == 126) = false := by rw [beq_eq_false_iff_ne]; omega
    clear HV h h255
    go_enter Tryz.func30, Tryz.ntmps30
    go_wp2
    go_ret
    exact ⟨ret_bool HW.out.symm, rfl⟩
  · have HW : Hid (V = false) := Lib.hid (by rw [HV.out]; simp; omega)
    have a0 : 48 ≤ c.toNat := by omega
    have a1 : ¬ c.toNat ≤ 57 := by omega
    have a2 : 97 ≤ c.toNat := by omega
    have a3 : ¬ c.toNat ≤ 122 := by omega
    have a4 : 65 ≤ c.toNat := by omega
    have a5 : ¬ c.toNat ≤ 90 := by omega
    have e45 : ((c.toNat : Int) == 45) = false := by rw [beq_eq_false_iff_ne]; omega
    have e46 : ((c.toNat : Int) == 46) = false := by rw [beq_eq_false_iff_ne]; omega
    have e95 : ((c.toNat : Int) == 95) = false := by rw [beq_eq_false_iff_ne]; omega
    have e126 : ((c.toNat : Int) == 126) = false := by rw [beq_eq_false_iff_ne]; omega
    clear HV h h255
    go_enter Tryz.func30, Tryz.ntmps30
    go_wp2
    go_ret
    exact ⟨ret_bool HW.out.symm, rfl⟩
  · have HW : Hid (V = true) := Lib.hid (by rw [HV.out]; simp; omega)
    have a0 : 48 ≤ c.toNat := by omega
    have a1 : ¬ c.toNat ≤ 57 := by omega
    have a2 : 97 ≤ c.toNat := by omega
    have a3 : ¬ c.toNat ≤ 122 := by omega
    have a4 : 65 ≤ c.toNat := by omega
    have a5 : ¬ c.toNat ≤ 90 := by omega
    have e45 : ((c.toNat : Int) == 45) = false := by rw [beq_eq_false_iff_ne]; omega
    have e46 : ((c.toNat : Int) == 46) = false := by rw [beq_eq_false_iff_ne]; omega
    have e95 : ((c.toNat : Int) == 95) = false := by rw [beq_eq_false_iff_ne]; omega
    have e126 : ((c.toNat : Int) == 126) = true := by rw [beq_iff_eq]; omega
    clear HV h h255
    go_enter Tryz.func30, Tryz.ntmps30
    go_wp2
    go_ret
    exact ⟨ret_bool HW.out.symm, rfl⟩
  · have HW : Hid (V = false) := Lib.hid (by rw [HV.out]; simp; omega)
    have a0 : 48 ≤ c.toNat := by omega
    have a1 : ¬ c.toNat ≤ 57 := by omega
    have a2 : 97 ≤ c.toNat := by omega
    have a3 : ¬ c.toNat ≤ 122 := by omega
    have a4 : 65 ≤ c.toNat := by omega
    have a5 : ¬ c.toNat ≤ 90 := by omega
    have e45 : ((c.toNat : Int) == 45) = false := by rw [beq_eq_false_iff_ne]; omega
    have e46 : ((c.toNat : Int) == 46) = false := by rw [beq_eq_false_iff_ne]; omega
    have e95 : ((c.toNat : Int) == 95) = false := by rw [beq_eq_false_iff_ne]; omega
    have e126 : ((c.toNat : Int) == 126) = false := by rw [beq_eq_false_iff_ne]; omega
    clear HV h h255
    go_enter Tryz.func30, Tryz.ntmps30
    go_wp2
    go_ret
    exact ⟨ret_bool HW.out.symm, rfl⟩
theorem hostC_unres : ∀ n : Fin 256, Ur.hostC (UInt8.ofNat n.val) = (Ur.unres (UInt8.ofNat n.val) && (!(UInt8.ofNat n.val == 95) && !(UInt8.ofNat n.val == 126))) := by decide +kernel
theorem hostC_un (c : UInt8) : Ur.hostC c = (Ur.unres c && (!(c == 95) && !(c == 126))) := by
  obtain ⟨n, rfl⟩ := Ur.u8_fin c
  exact hostC_unres n
theorem u8eqk {a b : UInt8} (h : a = b) (k : Int) (hk : ((b.toNat : Nat) : Int) = k) : ((a.toNat : Int) == k) = true := by subst h; subst hk; simp
theorem u8nek {a b : UInt8} (h : ¬ a = b) (k : Int) (hk : ((b.toNat : Nat) : Int) = k) : ((a.toNat : Int) == k) = false := by
  subst hk; rw [beq_eq_false_iff_ne]; intro e; exact h (UInt8.toNat_inj.1 (by omega))
theorem emp_no {s : List UInt8} (h : s ≠ []) : s.isEmpty = false := by cases s with
  | nil => exact absurd rfl h
  | cons a t => rfl
set_option maxHeartbeats 1000000 in
theorem isHost_any (s : List UInt8) (w : World) (hs : s.length ≤ 1073741824) :
    Calls Tryz.prog 14 #[.string (bs s)] w fun e w' => e = .returned (.bool (Ur.hostB s)) ∧ w = w' := by
  have HB : Hid (Ur.hostB s = (s.all Ur.hostC && (decide (1 ≤ s.length) && decide (s.length ≤ 255)))) := Lib.hid rfl
  generalize Ur.hostB s = R at *
  go_enter Tryz.func14, Tryz.ntmps14
  go_wp2
  go_loopg [6] s.length (fun r i wr => ∃ k : Nat, k ≤ s.length ∧ r + k = s.length ∧ i = .int .i64 k ∧ Hid ((s.take k).all Ur.hostC = true) ∧ wr = w)
  case atStart => exact ⟨0, by omega, by omega, rfl, Lib.hid (by simp), rfl⟩
  case round =>
    obtain ⟨k, hk, hr, rfl, HA, rfl⟩ := hrel
    by_cases hlt : k < s.length
    · have HS := Lib.hid (all_snoc Ur.hostC s k hlt)
      have HF : Hid (Ur.hostC s[k] = false → R = false) := Lib.hid (fun q => by rw [HB.out, all_stop Ur.hostC s k hlt q]; rfl)
      have HU := Lib.hid (hostC_un s[k])
      have hC := unres_any s[k] wr
      cases hu : Ur.unres s[k] with
      | false =>
        have HR : Hid (R = false) := Lib.hid (HF.out (by rw [HU.out, hu]; rfl))
        rw [hu] at hC
        clear HU HF HS hu HB
        go_wp2_with fail
        refine hC.mono ?_
        rintro e w1 ⟨rfl, rfl⟩
        clear hC
        go_wp2
        go_ret
        exact ⟨ret_bool HR.out.symm, rfl⟩
      | true =>
        rw [hu] at hC
        by_cases h95 : s[k] = 95
        · have e95 := u8eqk h95 95 rfl
          have HR : Hid (R = false) := Lib.hid (HF.out (by rw [HU.out, hu, h95]; rfl))
          clear HU HF HS hu h95 HB
          go_wp2_with fail
          refine hC.mono ?_
          rintro e w1 ⟨rfl, rfl⟩
          clear hC
          go_wp2
          go_ret
          exact ⟨ret_bool HR.out.symm, rfl⟩
        · have e95 := u8nek h95 95 rfl
          by_cases h126 : s[k] = 126
          · have e126 := u8eqk h126 126 rfl
            have HR : Hid (R = false) := Lib.hid (HF.out (by rw [HU.out, hu, h126]; rfl))
            clear HU HF HS hu h126 h95 HB
            go_wp2_with fail
            refine hC.mono ?_
            rintro e w1 ⟨rfl, rfl⟩
            clear hC
            go_wp2
            go_ret
            exact ⟨ret_bool HR.out.symm, rfl⟩
          · have e126 := u8nek h126 126 rfl
            have HAN : Hid ((s.take (k + 1)).all Ur.hostC = true) := Lib.hid (by rw [HS.out, HA.out, HU.out, hu]; simp [h95, h126])
            clear HU HF HS hu h126 h95
            go_wp2_with fail
            refine hC.mono ?_
            rintro e w1 ⟨rfl, rfl⟩
            clear hC
            go_wp2
            go_roundg (s.length - (k + 1))
            case measure => omega
            case rel => exact ⟨k + 1, by omega, by omega, by go_num, HAN, rfl⟩
    · obtain rfl : k = s.length := by omega
      have hall := all_full Ur.hostC s HA.out
      by_cases h0 : s = []
      · subst h0
        have HR : Hid (R = false) := Lib.hid (by rw [HB.out]; rfl)
        clear HB HA hall
        go_wp2
        go_ret
        exact ⟨ret_bool HR.out.symm, rfl⟩
      · have hne := emp_no h0
        have hpos : 1 ≤ s.length := by cases s with
          | nil => exact absurd rfl h0
          | cons a t => simp
        have HR : Hid (R = decide (s.length ≤ 255)) := Lib.hid (by rw [HB.out, hall]; simp [hpos])
        clear HB HA hall h0
        go_wp2
        all_goals
          go_ret
          refine ⟨ret_bool ?_, rfl⟩
          rw [HR.out]
          grind
theorem digits_contains (b : UInt8) : ([48, 49, 50, 51, 52, 53, 54, 55, 56, 57] : List UInt8).contains b = Dt.isD b := by
  have : ∀ n : Fin 256, ([48, 49, 50, 51, 52, 53, 54, 55, 56, 57] : List UInt8).contains (UInt8.ofNat n.val) = Dt.isD (UInt8.ofNat n.val) := by decide +kernel
  obtain ⟨n, rfl⟩ := Ur.u8_fin b
  exact this n
theorem dropW_all {f : UInt8 → Bool} : ∀ {l : List UInt8}, (l.dropWhile f = [] ↔ l.all f = true)
  | [] => by simp
  | b :: r => by
    rw [List.dropWhile_cons, List.all_cons]
    cases hb : f b
    · simp
    · simpa using dropW_all (l := r)
theorem trimD (s : List UInt8) : (Lib.trimS s [48, 49, 50, 51, 52, 53, 54, 55, 56, 57] = [] ↔ s.all Dt.isD = true) := by
  unfold Lib.trimS Lib.trimLeftS Lib.trimRightS
  have e : (fun x => ([48, 49, 50, 51, 52, 53, 54, 55, 56, 57] : List UInt8).contains x) = Dt.isD := funext digits_contains
  rw [e, dropW_all, List.all_reverse]
  constructor
  · intro h
    by_cases ha : s.all Dt.isD = true
    · exact ha
    · exfalso
      have h2 : s.reverse.dropWhile Dt.isD ≠ [] := fun h3 => ha (by rw [dropW_all, List.all_reverse] at h3; exact h3)
      obtain ⟨b, r, hb⟩ : ∃ b r, s.reverse.dropWhile Dt.isD = b :: r := by cases hd : s.reverse.dropWhile Dt.isD with
        | nil => exact absurd hd h2
        | cons b r => exact ⟨b, r, rfl⟩
      have hbf : Dt.isD b = false := by
        have := List.head?_dropWhile_not Dt.isD s.reverse
        rw [hb] at this
        simpa using this
      rw [hb] at h
      simp [hbf] at h
  · intro h
    rw [List.all_eq_true] at h ⊢
    exact fun b hb => h b (by simpa using (List.dropWhile_sublist _).mem hb)
theorem trimD_any (s : List UInt8) (w : World) (hs : s.length ≤ 1073741824) : Calls Tryz.prog 31 #[.string (bs s), .string ⟨#[48, 49, 50, 51, 52, 53, 54, 55, 56, 57]⟩] w fun e w' => e = .returned (.string (bs (Lib.trimS s [48, 49, 50, 51, 52, 53, 54, 55, 56, 57]))) ∧ Below w.heap.size w w' :=
  Tryz.strings_Trim_set (bs s) ⟨#[48, 49, 50, 51, 52, 53, 54, 55, 56, 57]⟩ w (by simp; omega) (by decide) (by
    intro j b hj
    have := List.mem_of_getElem? hj
    simp at this
    rcases this with rfl | rfl | rfl | rfl | rfl | rfl | rfl | rfl | rfl | rfl <;> decide)
theorem atoi_any {t : List UInt8} (hl : t ≠ []) (h : t.all Dt.isD = true) (h18 : t.length ≤ 18) (w : World) : Calls Tryz.prog 32 #[.string (bs t)] w fun e w' => e = .returned (.tuple #[.int .i64 (Dt.val t), .nilIface]) ∧ Below w.heap.size w w' :=
  (Tryz.strconv_Atoi (bs t) (Dt.val t) (by simpa using h18) (Dt.atoi_val hl h) w).mono fun e w' h => ⟨h.1, by obtain ⟨q, h2⟩ := h.2; rw [h2]; exact Lib.bytesWorld_below _ _ _⟩
def portE (s : List UInt8) : Int := if Ur.portV s = 0 then 33 else 0
set_option maxHeartbeats 1000000 in
theorem port_any (s : List UInt8) (w : World) (hs : s.length ≤ 1073741824) :
    Calls Tryz.prog 15 #[.string (bs s)] w fun e w' => e = .returned (.tuple #[.int .i64 (Ur.portV s), .int .i64 (portE s)]) ∧ Below w.heap.size w w' := by
  unfold portE
  by_cases h0 : s = []
  · subst h0
    have hP : Ur.portV [] = 0 := rfl
    rw [hP]
    go_enter Tryz.func15, Tryz.ntmps15
    go_wp2
    go_ret2
    exact ⟨rfl, Below.refl _ _⟩
  have hne := emp_no h0
  by_cases h5 : 5 < s.length
  · have hP : Ur.portV s = 0 := by unfold Ur.portV; rw [if_pos (.inr (.inl h5))]
    rw [hP]
    clear h0
    go_enter Tryz.func15, Tryz.ntmps15
    go_wp2
    go_ret2
    exact ⟨rfl, Below.refl _ _⟩
  have HT := Lib.hid (trimD s)
  have hC := trimD_any s w hs
  generalize Lib.trimS s [48, 49, 50, 51, 52, 53, 54, 55, 56, 57] = T at *
  by_cases hd : s.all Dt.isD = true
  · have hT : T = [] := HT.out.2 hd
    subst hT
    have hA := atoi_any h0 hd (by omega)
    have HP : Hid (Ur.portV s = if 65535 < Dt.val s then 0 else Dt.val s) := Lib.hid (by unfold Ur.portV; rw [if_neg (by simp [h0, hd]; omega)])
    have hv := (Dt.val_bd hd).1
    generalize Ur.portV s = R at *
    generalize Dt.val s = V at *
    clear hd HT h0
    by_cases hV : V < 1 ∨ 65535 < V
    · have HR : R = 0 := by rw [HP.out]; split <;> omega
      clear HP
      subst HR
      rcases hV with hV | hV
      · go_enter Tryz.func15, Tryz.ntmps15
        go_wp2_with fail
        refine hC.mono ?_
        rintro e w1 ⟨rfl, hb1⟩
        clear hC
        go_wp2_with fail
        refine (hA _).mono ?_
        rintro e w2 ⟨rfl, hb2⟩
        clear hA
        go_wp2
        go_ret2
        exact ⟨rfl, bnext hb1 hb2 hb1.size⟩
      · have hV2 : ¬ V < 1 := by omega
        go_enter Tryz.func15, Tryz.ntmps15
        go_wp2_with fail
        refine hC.mono ?_
        rintro e w1 ⟨rfl, hb1⟩
        clear hC
        go_wp2_with fail
        refine (hA _).mono ?_
        rintro e w2 ⟨rfl, hb2⟩
        clear hA
        go_wp2
        go_ret2
        exact ⟨rfl, bnext hb1 hb2 hb1.size⟩
    · have hV1 : ¬ V < 1 := by omega
      have hV2 : ¬ 65535 < V := by omega
      have HR : R = V := by rw [HP.out, if_neg hV2]
      clear HP hV
      subst HR
      rw [if_neg (show ¬ R = 0 by omega)]
      go_enter Tryz.func15, Tryz.ntmps15
      go_wp2_with fail
      refine hC.mono ?_
      rintro e w1 ⟨rfl, hb1⟩
      clear hC
      go_wp2_with fail
      refine (hA _).mono ?_
      rintro e w2 ⟨rfl, hb2⟩
      clear hA
      go_wp2
      go_ret2
      exact ⟨rfl, bnext hb1 hb2 hb1.size⟩
  · have hT : T ≠ [] := fun h => hd (HT.out.1 h)
    have hTn := emp_no hT
    have hP : Ur.portV s = 0 := by unfold Ur.portV; rw [if_pos (.inr (.inr (by simpa using hd)))]
    rw [hP]
    clear hd HT hT h0 hP
    go_enter Tryz.func15, Tryz.ntmps15
    go_wp2_with fail
    refine hC.mono ?_
    rintro e w1 ⟨rfl, hb1⟩
    clear hC
    go_wp2
    go_ret2
    exact ⟨rfl, hb1⟩
end Go.Proofs.YtdeaoagdjnnppaaGreatDoor
