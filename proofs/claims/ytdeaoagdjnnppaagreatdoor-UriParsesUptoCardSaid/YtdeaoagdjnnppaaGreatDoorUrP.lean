/- strconv.ParseUint at two bytes, base 16, 8 bits. Conditions: the library's variable ErrSyntax holds some error. -/
import Derived.Test.YtdeaoagdjnnppaaGreatDoorUrA
set_option linter.unusedVariables false
set_option linter.unusedSimpArgs false
namespace Go.Proofs.YtdeaoagdjnnppaaGreatDoor
open Go.RowKit

set_option maxRecDepth 100000
def ErrS (w : World) : Prop := ∃ ev, w.cell? ⟨1, 0, none⟩ = some ev ∧ (ev = .nilIface ∨ ∃ te pe, ev = .iface te pe)
theorem errs_b {w w' : World} (h : ErrS w) (hb : Below w.heap.size w w') : ErrS w' := by
  obtain ⟨ev, h1, h2⟩ := h
  exact ⟨ev, (World.cell?_of_block (hb.block _ (World.block_lt_of_cell? w _ h1))).trans h1, h2⟩
theorem errs_of {W : World} {tp : TypeId} {p : Value} (h : W.var? Tryz.prog "strconv.ErrSyntax" = some #[.iface tp p]) : ErrS W :=
  ⟨.iface tp p, by have h0 := World.var?_cell (P := Tryz.prog) (n := "strconv.ErrSyntax") (g := 1) (by kernel_rfl) h 0; simpa using h0, .inr ⟨tp, p, rfl⟩⟩
/-- What the library's lower makes of a byte. -/
def lw (c : UInt8) : Int := bits .or .u8 (c.toNat : Int) 32
theorem lw_tab : ∀ n : Fin 256, (match Ur.hexv (UInt8.ofNat n.val) with
  | some x => decide (x < 16) && ((decide (48 ≤ (UInt8.ofNat n.val).toNat) && decide ((UInt8.ofNat n.val).toNat ≤ 57) && decide (((UInt8.ofNat n.val).toNat : Int) - 48 = (x : Int))) || (!(decide (48 ≤ (UInt8.ofNat n.val).toNat) && decide ((UInt8.ofNat n.val).toNat ≤ 57)) && decide (97 ≤ lw (UInt8.ofNat n.val)) && decide (lw (UInt8.ofNat n.val) ≤ 122) && decide (lw (UInt8.ofNat n.val) - 87 = (x : Int))))
  | none => !(decide (48 ≤ (UInt8.ofNat n.val).toNat) && decide ((UInt8.ofNat n.val).toNat ≤ 57)) && (decide (lw (UInt8.ofNat n.val) < 97) || decide (122 < lw (UInt8.ofNat n.val)) || (decide (103 ≤ lw (UInt8.ofNat n.val)) && decide (lw (UInt8.ofNat n.val) ≤ 122)))) = true := by decide +kernel
theorem lw_bd : ∀ n : Fin 256, (decide (0 ≤ lw (UInt8.ofNat n.val)) && decide (lw (UInt8.ofNat n.val) ≤ 255) && !((UInt8.ofNat n.val).toNat == 95 && (Ur.hexv (UInt8.ofNat n.val)).isSome)) = true := by decide +kernel
theorem lw_some {c : UInt8} {x : Nat} (h : Ur.hexv c = some x) : x < 16 ∧ ((48 ≤ c.toNat ∧ c.toNat ≤ 57 ∧ (c.toNat : Int) - 48 = x) ∨ (¬ (48 ≤ c.toNat ∧ c.toNat ≤ 57) ∧ 97 ≤ lw c ∧ lw c ≤ 122 ∧ lw c - 87 = x)) := by
  obtain ⟨n, rfl⟩ := Ur.u8_fin c
  have := lw_tab n
  rw [h] at this
  simp only [Bool.and_eq_true, Bool.or_eq_true, decide_eq_true_eq, Bool.not_eq_true', Bool.and_eq_false_iff, decide_eq_false_iff_not] at this
  omega
theorem lw_none {c : UInt8} (h : Ur.hexv c = none) : ¬ (48 ≤ c.toNat ∧ c.toNat ≤ 57) ∧ (lw c < 97 ∨ 122 < lw c ∨ (103 ≤ lw c ∧ lw c ≤ 122)) := by
  obtain ⟨n, rfl⟩ := Ur.u8_fin c
  have := lw_tab n
  rw [h] at this
  simp only [Bool.and_eq_true, Bool.or_eq_true, decide_eq_true_eq, Bool.not_eq_true', Bool.and_eq_false_iff, decide_eq_false_iff_not] at this
  omega
theorem lw_rng (c : UInt8) : 0 ≤ lw c ∧ lw c ≤ 255 := by
  obtain ⟨n, rfl⟩ := Ur.u8_fin c
  have := lw_bd n
  simp only [Bool.and_eq_true, decide_eq_true_eq] at this
  exact this.1
theorem lower_u8 (c : UInt8) (w : World) : Calls Tryz.prog 74 #[.int .u8 c.toNat] w fun e w' => e = .returned (.int .u8 (lw c)) ∧ w = w' := (Tryz.internal_strconv_lower (c.toNat : Int) w).mono fun e w' h => ⟨h.1, h.2.symm⟩
/-- The value of the first k digits. -/
def hexs : List UInt8 → Option Nat
  | [] => some 0
  | [a] => Ur.hexv a
  | a :: b :: _ => match Ur.hexv a, Ur.hexv b with | some x, some y => some (16 * x + y) | _, _ => none
/-- What ParseUint answers. -/
def puV (a b : UInt8) : Value := match Ur.hexv a, Ur.hexv b with
  | some x, some y => .tuple #[.int .u64 ((16 * x + y : Nat) : Int), .nilIface]
  | _, _ => .tuple #[.int .u64 0, .iface 84 (.int .i64 2)]
theorem pu_none {a b : UInt8} (h : Ur.hexv a = none ∨ Ur.hexv b = none) : puV a b = .tuple #[.int .u64 0, .iface 84 (.int .i64 2)] := by
  unfold puV
  rcases h with h | h
  · rw [h]
  · rw [h]; cases Ur.hexv a <;> rfl
theorem pu_some {a b : UInt8} {N : Nat} (h : hexs [a, b] = some N) : puV a b = .tuple #[.int .u64 (N : Int), .nilIface] := by
  unfold hexs at h
  dsimp only at h
  unfold puV
  cases ha : Ur.hexv a with
  | none => rw [ha] at h; cases h
  | some x =>
    cases hb : Ur.hexv b with
    | none => rw [ha, hb] at h; cases h
    | some y => rw [ha, hb] at h; cases h; rfl
set_option maxHeartbeats 4000000 in
theorem ipu_any (a b : UInt8) (w : World) :
    Calls Tryz.prog 57 #[.string (bs [a, b]), .int .i64 16, .int .i64 8] w fun e w' => e = .returned (puV a b) ∧ Below w.heap.size w w' := by
  have hcv := conv_sb
  have HNone := Lib.hid fun h => pu_none (a := a) (b := b) h
  have HSome := Lib.hid fun (N : Nat) (h : hexs [a, b] = some N) => pu_some h
  generalize puV a b = R at *
  go_enter Tryz.func57, Tryz.ntmps57
  go_upto_region 36 with fail
  clear hcv
  have hrow := bytesWorld_row w 5 [a, b]
  have hbel := bytesWorld_below w 5 (bs [a, b])
  generalize Lib.bytesWorld w 5 (bs [a, b]) = w0 at *
  have hca : w0.cell? ⟨w.heap.size, 0, none⟩ = some (.int .u8 a.toNat) := (hrow 0 a rfl).1
  have hcb : w0.cell? ⟨w.heap.size, 1, none⟩ = some (.int .u8 b.toNat) := (hrow 1 b rfl).1
  clear hrow
  go_loopg [12, 13, 101] 2 (fun r us nv ix wr => ∃ k N : Nat, k ≤ 2 ∧ r + k = 2 ∧ us = .bool false ∧ nv = .int .u64 (N : Int) ∧ ix = .int .i64 (k : Int) ∧ Hid (hexs ([a, b].take k) = some N) ∧ N < 256 ∧ (k ≤ 1 → N < 16) ∧ wr = w0)
  case atStart => exact ⟨0, 0, by omega, by omega, rfl, rfl, rfl, Lib.hid rfl, by omega, by omega, rfl⟩
  case round =>
    obtain ⟨k, N, hk, hr, rfl, rfl, rfl, HH, hN, hN1, rfl⟩ := hrel
    obtain ⟨w0, rfl⟩ : ∃ w0, w0 = wr := ⟨_, rfl⟩
    have hk3 : k = 0 ∨ k = 1 ∨ k = 2 := by omega
    rcases hk3 with rfl | rfl | rfl
    · have h0 : N = 0 := by have := HH.out; simp [hexs] at this; omega
      subst h0
      clear hN hN1 HH
      have hc255 := a.toNat_lt
      have hL := lower_u8 a
      obtain ⟨l0, l1⟩ := lw_rng a
      cases hx : Ur.hexv a with
      | none =>
        have HR : Hid (R = .tuple #[.int .u64 0, .iface 84 (.int .i64 2)]) := Lib.hid (HNone.out (.inl hx))
        obtain ⟨g1, g2⟩ := lw_none hx
        have hnd : ¬ 48 ≤ a.toNat ∨ ¬ a.toNat ≤ 57 := by omega
        clear hx HSome HNone g1
        generalize lw a = L at *
        have e95 : ((a.toNat : Int) == 95) = true ∨ ((a.toNat : Int) == 95) = false := by cases ((a.toNat : Int) == 95) <;> simp
        rcases e95 with e95 | e95
        all_goals
          rcases hnd with hd | hd
          all_goals
            rcases g2 with g2 | g2 | ⟨g2, g3⟩
            · have q1 : ¬ 97 ≤ L := by omega
              clear g2
              go_wp2_with fail
              refine (hL _).mono ?_
              rintro e w1 ⟨rfl, rfl⟩
              clear hL
              go_wp2
              go_ret2
              exact ⟨ret_v HR.out.symm, hbel⟩
            · have q1 : 97 ≤ L := by omega
              have q2 : ¬ L ≤ 122 := by omega
              clear g2
              go_wp2_with fail
              refine (hL _).mono ?_
              rintro e w1 ⟨rfl, rfl⟩
              go_wp2_with fail
              refine (hL _).mono ?_
              rintro e w1 ⟨rfl, rfl⟩
              clear hL
              go_wp2
              go_ret2
              exact ⟨ret_v HR.out.symm, hbel⟩
            · have q1 : 97 ≤ L := by omega
              have q2 : L ≤ 122 := g3
              have q3 : (16 : Int) ≤ L - 97 + 10 := by omega
              have q4 : (16 : Int) ≤ L - 87 := by omega
              have q5 : L - 97 + 10 ≤ 255 := by omega
              go_wp2_with fail
              refine (hL _).mono ?_
              rintro e w1 ⟨rfl, rfl⟩
              go_wp2_with fail
              refine (hL _).mono ?_
              rintro e w1 ⟨rfl, rfl⟩
              go_wp2_with fail
              refine (hL _).mono ?_
              rintro e w1 ⟨rfl, rfl⟩
              clear hL
              go_wp2
              go_ret2
              exact ⟨ret_v HR.out.symm, hbel⟩
      | some x =>
        obtain ⟨x16, hd⟩ := lw_some hx
        have HN : Hid (hexs ([a, b].take 1) = some x ∧ (0 : Int) * 16 + x = x) := Lib.hid ⟨hx, by omega⟩
        clear hx HSome HNone
        generalize lw a = L at *
        rcases hd with ⟨g1, g2, g3⟩ | ⟨g1, g2, g3, g4⟩
        · have q0 : ((a.toNat : Int) == 95) = false := by rw [beq_eq_false_iff_ne]; omega
          have q1 : ¬ (16 : Int) ≤ (a.toNat : Int) - 48 := by omega
          have q2 : (a.toNat : Int) = (x : Int) + 48 := by omega
          go_wp2
          go_roundg 1
          case measure => omega
          case rel => exact ⟨1, x, by omega, by omega, rfl, by first | rfl | (congr 1; omega) | (have hz := HNI.out; congr 1; omega), rfl, Lib.hid HN.out.1, by omega, by omega, rfl⟩
        · have hnd : ¬ 48 ≤ a.toNat ∨ ¬ a.toNat ≤ 57 := by omega
          have e95 : ((a.toNat : Int) == 95) = true ∨ ((a.toNat : Int) == 95) = false := by cases ((a.toNat : Int) == 95) <;> simp
          have q3 : ¬ (16 : Int) ≤ L - 97 + 10 := by omega
          have q4 : ¬ (16 : Int) ≤ L - 87 := by omega
          have q5 : L = (x : Int) + 87 := by omega
          subst q5
          clear g1
          rcases e95 with e95 | e95
          all_goals
            rcases hnd with hd | hd
            all_goals
              go_wp2_with fail
              refine (hL _).mono ?_
              rintro e w1 ⟨rfl, rfl⟩
              go_wp2_with fail
              refine (hL _).mono ?_
              rintro e w1 ⟨rfl, rfl⟩
              go_wp2_with fail
              refine (hL _).mono ?_
              rintro e w1 ⟨rfl, rfl⟩
              clear hL
              go_wp2
              go_roundg 1
              case measure => omega
              case rel => exact ⟨1, x, by omega, by omega, rfl, by first | rfl | (congr 1; omega) | (have hz := HNI.out; congr 1; omega), rfl, Lib.hid HN.out.1, by omega, by omega, rfl⟩
    · have h0 : Ur.hexv a = some N := HH.out
      have hN16 := hN1 (by omega)
      clear hN hN1 HH
      have HH := Lib.hid h0
      clear h0
      have hc255 := b.toNat_lt
      have hL := lower_u8 b
      obtain ⟨l0, l1⟩ := lw_rng b
      cases hx : Ur.hexv b with
      | none =>
        have HR : Hid (R = .tuple #[.int .u64 0, .iface 84 (.int .i64 2)]) := Lib.hid (HNone.out (.inr hx))
        obtain ⟨g1, g2⟩ := lw_none hx
        have hnd : ¬ 48 ≤ b.toNat ∨ ¬ b.toNat ≤ 57 := by omega
        clear hx HSome HNone g1
        generalize lw b = L at *
        have e95 : ((b.toNat : Int) == 95) = true ∨ ((b.toNat : Int) == 95) = false := by cases ((b.toNat : Int) == 95) <;> simp
        rcases e95 with e95 | e95
        all_goals
          rcases hnd with hd | hd
          all_goals
            rcases g2 with g2 | g2 | ⟨g2, g3⟩
            · have q1 : ¬ 97 ≤ L := by omega
              clear g2
              go_wp2_with fail
              refine (hL _).mono ?_
              rintro e w1 ⟨rfl, rfl⟩
              clear hL
              go_wp2
              go_ret2
              exact ⟨ret_v HR.out.symm, hbel⟩
            · have q1 : 97 ≤ L := by omega
              have q2 : ¬ L ≤ 122 := by omega
              clear g2
              go_wp2_with fail
              refine (hL _).mono ?_
              rintro e w1 ⟨rfl, rfl⟩
              go_wp2_with fail
              refine (hL _).mono ?_
              rintro e w1 ⟨rfl, rfl⟩
              clear hL
              go_wp2
              go_ret2
              exact ⟨ret_v HR.out.symm, hbel⟩
            · have q1 : 97 ≤ L := by omega
              have q2 : L ≤ 122 := g3
              have q3 : (16 : Int) ≤ L - 97 + 10 := by omega
              have q4 : (16 : Int) ≤ L - 87 := by omega
              have q5 : L - 97 + 10 ≤ 255 := by omega
              go_wp2_with fail
              refine (hL _).mono ?_
              rintro e w1 ⟨rfl, rfl⟩
              go_wp2_with fail
              refine (hL _).mono ?_
              rintro e w1 ⟨rfl, rfl⟩
              go_wp2_with fail
              refine (hL _).mono ?_
              rintro e w1 ⟨rfl, rfl⟩
              clear hL
              go_wp2
              go_ret2
              exact ⟨ret_v HR.out.symm, hbel⟩
      | some x =>
        obtain ⟨x16, hd⟩ := lw_some hx
        have HN : Hid (hexs ([a, b].take 2) = some (16 * N + x) ∧ (N : Int) * 16 + x = ((16 * N + x : Nat) : Int)) := Lib.hid ⟨by show hexs [a, b] = _; unfold hexs; dsimp only; rw [HH.out, hx], by omega⟩
        clear hx HSome HNone
        generalize lw b = L at *
        have n0 : 0 ≤ (N : Int) := by omega
        have n1 : (N : Int) < 16 := by omega
        generalize hNI : (N : Int) = NI at *
        have HNI := Lib.hid hNI
        clear hNI hN16
        rcases hd with ⟨g1, g2, g3⟩ | ⟨g1, g2, g3, g4⟩
        · have q0 : ((b.toNat : Int) == 95) = false := by rw [beq_eq_false_iff_ne]; omega
          have q1 : ¬ (16 : Int) ≤ (b.toNat : Int) - 48 := by omega
          have q2 : (b.toNat : Int) = (x : Int) + 48 := by omega
          go_wp2
          go_roundg 0
          case measure => omega
          case rel => exact ⟨2, (16 * N + x), by omega, by omega, rfl, by first | rfl | (congr 1; omega) | (have hz := HNI.out; congr 1; omega), rfl, Lib.hid HN.out.1, by have hz := HNI.out; omega, by omega, rfl⟩
        · have hnd : ¬ 48 ≤ b.toNat ∨ ¬ b.toNat ≤ 57 := by omega
          have e95 : ((b.toNat : Int) == 95) = true ∨ ((b.toNat : Int) == 95) = false := by cases ((b.toNat : Int) == 95) <;> simp
          have q3 : ¬ (16 : Int) ≤ L - 97 + 10 := by omega
          have q4 : ¬ (16 : Int) ≤ L - 87 := by omega
          have q5 : L = (x : Int) + 87 := by omega
          subst q5
          clear g1
          rcases e95 with e95 | e95
          all_goals
            rcases hnd with hd | hd
            all_goals
              go_wp2_with fail
              refine (hL _).mono ?_
              rintro e w1 ⟨rfl, rfl⟩
              go_wp2_with fail
              refine (hL _).mono ?_
              rintro e w1 ⟨rfl, rfl⟩
              go_wp2_with fail
              refine (hL _).mono ?_
              rintro e w1 ⟨rfl, rfl⟩
              clear hL
              go_wp2
              go_roundg 0
              case measure => omega
              case rel => exact ⟨2, (16 * N + x), by omega, by omega, rfl, by first | rfl | (congr 1; omega) | (have hz := HNI.out; congr 1; omega), rfl, Lib.hid HN.out.1, by have hz := HNI.out; omega, by omega, rfl⟩
    · have HR := Lib.hid (HSome.out N HH.out)
      clear HSome HNone HH hN1
      go_wp2
      go_ret2
      exact ⟨ret_v HR.out.symm, hbel⟩
end Go.Proofs.YtdeaoagdjnnppaaGreatDoor
