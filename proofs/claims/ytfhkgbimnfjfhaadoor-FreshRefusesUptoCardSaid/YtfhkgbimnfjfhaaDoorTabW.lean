/- Walks of the table of a Cache-Control's arguments: has, number, patience. Conditions: names of at most 2^20 bytes. -/
import Derived.Test.YtfhkgbimnfjfhaaDoorCtlP
import Derived.Test.YtfhkgbimnfjfhaaDoorSec
set_option linter.unusedVariables false
set_option linter.unusedSimpArgs false
namespace Go.Proofs.YtfhkgbimnfjfhaaDoor
open Go.RowKit

set_option maxRecDepth 100000
set_option maxHeartbeats 400000 in
theorem has1_any (g mb B n : Nat) (D : List Ctl.Dir) (s : List UInt8) (w : World) (h1 : w.cell? ⟨g, 0, none⟩ = some (.map (some mb))) (h : TabW w B mb n D) (hs : s.length ≤ 140737488355328) :
    Calls Tryd.prog 44 #[.string (bs s), .pointer (some ⟨g, 0, none⟩)] w fun e w' => e = .returned (.bool (Ctl.hasD D s)) ∧ Below w.heap.size w w' := by
  have hL := h.look (s := s) (by unfold maxLen; omega)
  unfold argV at hL
  clear h
  generalize Ctl.hasD D s = R at *
  generalize (Ctl.argAt D s).1 = a at *
  generalize (Ctl.argAt D s).2 = b at *
  go_enter Tryd.func44, Tryd.ntmps44
  go_wp2
  go_ret
  exact ⟨rfl, alloc_below _ _⟩
set_option maxHeartbeats 400000 in
theorem tabhas_any (mb B n : Nat) (D : List Ctl.Dir) (A : Option Addr) (k c : Nat) (l : List (List UInt8)) (w : World) (h : TabW w B mb n D) (hl : RdS w A k l) (hk : k ≤ 140737488355328) (hls : ∀ s ∈ l, s.length ≤ 140737488355328) :
    Calls Tryd.prog 24 #[.map (some mb), .slice A k c] w fun e w' => e = .returned (.bool (l.any (Ctl.hasD D))) ∧ Below w.heap.size w w' := by
  have hal := alloc_below w (.cells #[.map (some mb)] 46)
  have h2 := h.step hal
  have hl2 := hl.step hal
  have hc : (w.alloc (.cells #[.map (some mb)] 46)).cell? ⟨w.heap.size, 0, none⟩ = some (.map (some mb)) := by
    rw [Lib.cell_of_heap (heap_alloc_new w (.cells #[.map (some mb)] 46))]; rfl
  have hP : PredS (w.alloc (.cells #[.map (some mb)] 46)) 44 #[.pointer (some ⟨w.heap.size, 0, none⟩)] (Ctl.hasD D) :=
    ⟨fun args W => by kernel_rfl, fun W s hb hs => has1_any w.heap.size mb B n D s W ((World.cell?_of_block (hb.block _ (by simp))).trans hc) (h2.step hb) hs⟩
  have hC := containsFuncS_any A k c l _ _ _ _ _ (Below.refl _ _) hl2 hk hls hP
  clear h h2 hl hl2 hc hP
  generalize l.any (Ctl.hasD D) = R at *
  go_enter Tryd.func24, Tryd.ntmps24
  go_wp2_with fail
  refine hC.mono ?_
  rintro e w1 ⟨rfl, hb1⟩
  go_wp2
  go_ret
  exact ⟨rfl, bnext hal hb1 (by simp)⟩
set_option maxHeartbeats 400000 in
theorem number_any (mb B n : Nat) (D : List Ctl.Dir) (s : List UInt8) (w : World) (h : TabW w B mb n D) (hD : ∀ d ∈ D, d.1.length ≤ 1048576 ∧ d.2.1.length ≤ 1048576) (hs : s.length ≤ 140737488355328) :
    Calls Tryd.prog 25 #[.map (some mb), .string (bs s)] w fun e w' => e = .returned (.int .i64 (Ctl.numD D s)) ∧ Below w.heap.size w w' := by
  have hL := h.look (s := s) (by unfold maxLen; omega)
  have HA := Lib.hid (Ctl.argAt_len hD s)
  have HR := Lib.hid (Ctl.numD_argAt D s)
  unfold argV at hL
  clear h hD
  generalize Ctl.numD D s = R at *
  generalize (Ctl.argAt D s).1 = a at *
  generalize (Ctl.argAt D s).2 = b at *
  cases hh : Ctl.hasD D s with
  | false =>
    rw [hh] at HR hL
    have HV : Hid (R = -1) := Lib.hid (by rw [HR.out]; rfl)
    clear HR hh HA
    go_enter Tryd.func25, Tryd.ntmps25
    go_wp2
    go_ret
    exact ⟨ret_int HV.out.symm, alloc_below _ _⟩
  | true =>
    rw [hh] at HR hL
    have HV : Hid (max 0 (Ctl.secL a) = R) := Lib.hid (by rw [HR.out, if_pos rfl]; split <;> omega)
    clear HR hh
    go_enter Tryd.func25, Tryd.ntmps25
    go_wp2_with fail
    refine (sec_any a _ (by have := HA.out; omega)).mono ?_
    rintro e w1 ⟨rfl, hb1⟩
    go_wp2
    go_ret
    exact ⟨ret_int HV.out, bnext (alloc_below _ _) hb1 (by simp)⟩
set_option maxHeartbeats 400000 in
theorem patience_any (mb B n : Nat) (D : List Ctl.Dir) (w : World) (h : TabW w B mb n D) (hD : ∀ d ∈ D, d.1.length ≤ 1048576 ∧ d.2.1.length ≤ 1048576) :
    Calls Tryd.prog 26 #[.map (some mb)] w fun e w' => e = .returned (.int .i64 (Ctl.patD D Ctl.maxStaleN)) ∧ Below w.heap.size w w' := by
  have hL := h.look (s := Ctl.maxStaleN) (by unfold maxLen; simp)
  rw [show bs Ctl.maxStaleN = ⟨#[109, 97, 120, 45, 115, 116, 97, 108, 101]⟩ from rfl] at hL
  have HA := Lib.hid (Ctl.argAt_len hD Ctl.maxStaleN)
  have HR := Lib.hid (Ctl.patD_argAt D Ctl.maxStaleN)
  unfold argV at hL
  clear h hD
  generalize Ctl.patD D Ctl.maxStaleN = R at *
  generalize (Ctl.argAt D Ctl.maxStaleN).1 = a at *
  generalize (Ctl.argAt D Ctl.maxStaleN).2 = b at *
  cases hh : Ctl.hasD D Ctl.maxStaleN with
  | false =>
    rw [hh] at HR hL
    have HV : Hid (R = -1) := Lib.hid (by rw [HR.out]; rfl)
    clear HR hh HA
    go_enter Tryd.func26, Tryd.ntmps26
    go_wp2
    go_ret
    exact ⟨ret_int HV.out.symm, alloc_below _ _⟩
  | true =>
    rw [hh, if_pos rfl] at HR
    rw [hh] at hL
    cases b with
    | false =>
      have HV : Hid (R = 2147483648) := Lib.hid (by rw [HR.out]; rfl)
      clear HR hh HA
      go_enter Tryd.func26, Tryd.ntmps26
      go_wp2
      go_ret
      exact ⟨ret_int HV.out.symm, alloc_below _ _⟩
    | true =>
      have HV : Hid (Ctl.secL a = R) := Lib.hid (by rw [HR.out]; rfl)
      clear HR hh
      go_enter Tryd.func26, Tryd.ntmps26
      go_wp2_with fail
      refine (sec_any a _ (by have := HA.out; omega)).mono ?_
      rintro e w1 ⟨rfl, hb1⟩
      go_wp2
      go_ret
      exact ⟨ret_int HV.out, bnext (alloc_below _ _) hb1 (by simp)⟩
end Go.Proofs.YtfhkgbimnfjfhaaDoor
