/- Joined texts: The reference's parts of a date's text: two, week, month, digits; A region in which every operation yields a fixed value in every world that keeps an invariant may be walked in one order. Plain theory over Derived.OrdersHeld. The conditions stand in each line. -/
import Derived.Test.YtcaekfebnhedpaaGreatDoorM10
import Derived.Test.YtcaekfebnhedpaaGreatDoorM13
import Derived.Test.YtcaekfebnhedpaaGreatDoorM23
import Derived.Deep.RegionHeld3
set_option linter.unusedVariables false
set_option linter.unusedSimpArgs false
namespace Go.Proofs.YtcaekfebnhedpaaGreatDoor
open Go.RowKit

set_option maxRecDepth 100000
set_option maxHeartbeats 1000000 in
theorem two_gen (k n : Nat) (w : World) (hk : (k : Int) ≤ 9223372036854775807) (hn : n ≤ 20) (hl : (Lib.decDigits k).length ≤ n) :
    Calls Tryz.prog 131 #[.int .i64 k, .int .i64 n] w fun e w' => e = .returned (.string (bs (List.replicate (n - (Lib.decDigits k).length) 48 ++ Lib.decDigits k))) ∧ Below w.heap.size w w' := by
  have hC := show_pos k w hk
  generalize Lib.decDigits k = D at *
  go_enter Tryz.func131, Tryz.ntmps131
  go_wp2_with fail
  refine hC.mono ?_
  rintro e w1 ⟨rfl, hb1⟩
  clear hC
  go_wp2
  go_loopg [5] n (fun r s wr => ∃ i : Nat, i + D.length ≤ n ∧ r + i = n ∧ s = .string (bs (List.replicate i 48 ++ D)) ∧ wr = w1)
  case atStart => exact ⟨0, by omega, by omega, by simp, rfl⟩
  case round =>
    obtain ⟨i, hi, hr, rfl, rfl⟩ := hrel
    have hll : (List.replicate i (48 : UInt8) ++ D).length = i + D.length := by simp
    have HS : Hid ([48] ++ (List.replicate i (48 : UInt8) ++ D) = List.replicate (i + 1) 48 ++ D) := Lib.hid rfl
    have HR : Hid (i + D.length = n → List.replicate i (48 : UInt8) ++ D = List.replicate (n - D.length) 48 ++ D) := Lib.hid fun h => by rw [show i = n - D.length by omega]
    generalize List.replicate i (48 : UInt8) ++ D = L at *
    by_cases hlt : i + D.length < n
    · go_wp2
      go_roundg (n - (i + 1))
      case measure => omega
      case rel => exact ⟨i + 1, by omega, by omega, by rw [← HS.out]; rfl, rfl⟩
    · have HF := Lib.hid (HR.out (by omega))
      clear HR HS
      go_wp2
      go_ret
      exact ⟨ret_str HF.out, hb1⟩
theorem two2_any (v : Int) (w : World) (h0 : 0 ≤ v) (h1 : v < 100) : Calls Tryz.prog 131 #[.int .i64 v, .int .i64 2] w fun e w' => e = .returned (.string (bs (Dt.pad2 v))) ∧ Below w.heap.size w w' := by
  obtain ⟨k, rfl⟩ : ∃ k : Nat, v = k := ⟨v.toNat, by omega⟩
  by_cases hk : k < 10
  · have hl : (Lib.decDigits k).length = 1 := by rw [Lib.decDigits_one hk]; rfl
    have := two_gen k 2 w (by omega) (by omega) (by omega)
    rw [hl] at this
    rw [← pad2_small hk]
    exact this
  · have hl : (Lib.decDigits k).length = 2 := by rw [Lib.decDigits_two hk (by omega)]; rfl
    have := two_gen k 2 w (by omega) (by omega) (by omega)
    rw [hl] at this
    rw [← pad2_big hk (by omega)]
    exact this
theorem two4_any (v : Int) (w : World) (h0 : 1000 ≤ v) (h1 : v < 10000) : Calls Tryz.prog 131 #[.int .i64 v, .int .i64 4] w fun e w' => e = .returned (.string (bs (Dt.pad4 v))) ∧ Below w.heap.size w w' := by
  obtain ⟨k, rfl⟩ : ∃ k : Nat, v = k := ⟨v.toNat, by omega⟩
  have he := dec_four (k := k) (by omega) (by omega)
  have hl : (Lib.decDigits k).length = 4 := by rw [he]; rfl
  have := two_gen k 4 w (by omega) (by omega) (by omega)
  rw [hl, he] at this
  exact this
theorem wk_cell (w : World) (k : Nat) (hk : k < 7) : (w.alloc (.cells #[.string (bs (Dt.wkN 0)), .string (bs (Dt.wkN 1)), .string (bs (Dt.wkN 2)), .string (bs (Dt.wkN 3)), .string (bs (Dt.wkN 4)), .string (bs (Dt.wkN 5)), .string (bs (Dt.wkN 6))] 132)).cell? ⟨w.heap.size, k, none⟩ = some (.string (bs (Dt.wkN k))) := by
  rw [cell_of_row _ _ _ _ _ _ (heap_alloc_new w _)]
  have hc : k = 0 ∨ k = 1 ∨ k = 2 ∨ k = 3 ∨ k = 4 ∨ k = 5 ∨ k = 6 := by omega
  rcases hc with rfl | rfl | rfl | rfl | rfl | rfl | rfl <;> rfl
theorem week_r (n : Int) (w : World) (h0 : 0 ≤ n) (h1 : n ≤ 3000000) : Calls Tryz.prog 132 #[.int .i64 n] w fun e w' => e = .returned (.string (bs (Dt.wkN (Dt.wd n)))) ∧ Below w.heap.size w w' := by
  have hal := alloc_below w (.cells #[.string (bs (Dt.wkN 0)), .string (bs (Dt.wkN 1)), .string (bs (Dt.wkN 2)), .string (bs (Dt.wkN 3)), .string (bs (Dt.wkN 4)), .string (bs (Dt.wkN 5)), .string (bs (Dt.wkN 6))] 132)
  have hc := wk_cell w (Dt.wd n) (Dt.wd_lt n)
  have hwd : (n % 7).toNat = Dt.wd n := rfl
  have hw0 : 0 ≤ n % 7 := by omega
  have hw1 : n % 7 < 7 := by omega
  have hw7 := Dt.wd_lt n
  have hwi := Dt.wd_int n
  generalize Dt.wd n = k at *
  go_enter Tryz.func132, Tryz.ntmps132
  go_wp2
  go_ret
  refine ⟨?_, hal⟩
  have hcs : k = 0 ∨ k = 1 ∨ k = 2 ∨ k = 3 ∨ k = 4 ∨ k = 5 ∨ k = 6 := by omega
  clear hc hwd hwi hal
  rcases hcs with rfl | rfl | rfl | rfl | rfl | rfl | rfl <;> rfl
theorem month_r (m : Int) (w : World) (h1 : 1 ≤ m) (h2 : m ≤ 12) : Calls Tryz.prog 93 #[.int .i64 m] w fun e w' => e = .returned (.string (bs (Dt.moN m.toNat))) ∧ w = w' := by
  obtain ⟨k, rfl⟩ : ∃ k : Nat, m = (k : Int) + 1 := ⟨(m - 1).toNat, by omega⟩
  have hp := monS_piece ⟨k, by omega⟩
  dsimp only at hp
  have hk1 : ((k : Int) + 1).toNat = k + 1 := by omega
  rw [hk1]
  have HP := Lib.hid hp
  have j0 : (0 : Int) ≤ 3 * ((k : Int) + 1) - 3 := by omega
  have j1 : (3 * ((k : Int) + 1) - 3).toNat = 3 * (k + 1) - 3 := by omega
  have j2 : (3 * ((k : Int) + 1)).toNat = 3 * (k + 1) := by omega
  clear hp hk1
  go_enter Tryz.func93, Tryz.ntmps93
  go_wp2
  have hp := HP.out
  unfold monS at hp
  rw [hp]
  go_ret
  exact ⟨rfl, rfl⟩
theorem piece_step {s : List UInt8} {i e : Nat} (h : i < e) (he : e ≤ s.length) : Dt.piece s i (e - i) = s[i] :: Dt.piece s (i + 1) (e - (i + 1)) := by
  unfold Dt.piece
  rw [List.drop_eq_getElem_cons (by omega), show e - i = (e - (i + 1)) + 1 by omega, List.take_succ_cons]
theorem pow9 : ∀ k : Fin 10, (10 : Int) ^ k.val ≤ 1000000000 := by decide
theorem piece_end (s : List UInt8) (e : Nat) : Dt.piece s e (e - e) = [] := by unfold Dt.piece; simp
set_option maxHeartbeats 2000000 in
theorem digits_any (s : List UInt8) (a e : Nat) (w : World) (hae : a ≤ e) (he : e ≤ s.length) (h9 : e - a ≤ 9) (hs : s.length ≤ 4398046511104) :
    Calls Tryz.prog 92 #[.string (bs s), .int .i64 a, .int .i64 e] w fun x w' => x = .returned (.int .i64 (Dt.digs s a (e - a))) ∧ w = w' := by
  have H0 : Hid (Dt.rdig true 0 (Dt.piece s a (e - a)) = Dt.digs s a (e - a)) := Lib.hid rfl
  generalize Dt.digs s a (e - a) = R at *
  go_enter Tryz.func92, Tryz.ntmps92
  go_wp2
  go_loopg [7, 8, 9] (e - a) (fun r v i c wr => ∃ (k : Nat) (x : Int), a + k ≤ e ∧ r + k = e - a ∧ v = .int .i64 x ∧ i = .int .i64 ((a + k : Nat) : Int) ∧ 0 ≤ x ∧ x < 10 ^ k ∧ Hid (Dt.rdig (decide (k = 0)) x (Dt.piece s (a + k) (e - (a + k))) = R) ∧ wr = w)
  case atStart => exact ⟨0, 0, by omega, by omega, rfl, rfl, by omega, by decide, H0, rfl⟩
  case round =>
    clear H0
    obtain ⟨k, x, hk, hr, rfl, rfl, hx0, hx1, HR, rfl⟩ := hrel
    have hx9 : x < 1000000000 := by
      have := pow9 ⟨k, by omega⟩
      dsimp only at this
      omega
    have HP10 : Hid ((10 : Int) ^ (k + 1) = 10 ^ k * 10) := Lib.hid (Int.pow_succ ..)
    by_cases hlt : a + k < e
    · have hp := piece_step hlt he
      have hlen : a + k < s.length := by omega
      have HST : Hid (Dt.rdig (decide (k = 0)) x (Dt.piece s (a + k) (e - (a + k))) = (if s[a + k].toNat = 32 ∧ decide (k = 0) = true then Dt.rdig false (x * 10) (Dt.piece s (a + k + 1) (e - (a + k + 1))) else if s[a + k].toNat < 48 ∨ 57 < s[a + k].toNat then -1 else Dt.rdig false (x * 10 + (s[a + k].toNat : Int) - 48) (Dt.piece s (a + k + 1) (e - (a + k + 1))))) := Lib.hid (by rw [hp]; rfl)
      have hc255 := s[a + k].toNat_lt
      have j0 : (0 : Int) ≤ ((a + k : Nat) : Int) := by omega
      have HDK : Hid (decide (k + 1 = 0) = false) := Lib.hid (by simp)
      clear hp
      rw [show a + k + 1 = a + (k + 1) by omega] at HST
      have hcs : (s[a + k].toNat = 32 ∧ k = 0) ∨ (¬ (s[a + k].toNat = 32 ∧ k = 0) ∧ (s[a + k].toNat < 48 ∨ 57 < s[a + k].toNat)) ∨ (¬ (s[a + k].toNat = 32 ∧ k = 0) ∧ 48 ≤ s[a + k].toNat ∧ s[a + k].toNat ≤ 57) := by omega
      rcases hcs with ⟨hb1, hb2⟩ | ⟨hb, hb1⟩ | ⟨hb, hb1, hb2⟩
      · have HN : Hid (Dt.rdig (decide (k + 1 = 0)) (x * 10) (Dt.piece s (a + (k + 1)) (e - (a + (k + 1)))) = R) := Lib.hid (by
          rw [HDK.out, ← HR.out, HST.out, if_pos ⟨hb1, by simp [hb2]⟩])
        have hxz : x = 0 := by subst hb2; simp at hx1; omega
        subst hb2 hxz
        have e1 : ((s[a].toNat : Int) == 32) = true := by
          have : s[a].toNat = 32 := hb1
          rw [this]; rfl
        clear HR HST hb1 HP10
        go_wp2
        go_roundg (e - a - 1)
        case measure => omega
        case rel => exact ⟨1, 0, by omega, by omega, rfl, by go_num, by omega, by decide, HN, rfl⟩
      · have HN : Hid (R = -1) := Lib.hid (by rw [← HR.out, HST.out, if_neg (by simpa using hb), if_pos hb1])
        have HB := Lib.hid hb
        clear HR HST HP10 hb
        by_cases hk0 : k = 0
        · subst hk0
          have hn32 : s[a].toNat ≠ 32 := fun h => HB.out ⟨h, rfl⟩
          have e1 : ((s[a].toNat : Int) == 32) = false := by rw [beq_eq_false_iff_ne]; omega
          have hb1' : s[a].toNat < 48 ∨ 57 < s[a].toNat := hb1
          clear hb1
          rcases hb1' with g1 | g1
          · go_wp2
            go_ret
            exact ⟨ret_int HN.out.symm, rfl⟩
          · have g2 : ¬ s[a].toNat < 48 := by omega
            go_wp2
            go_ret
            exact ⟨ret_int HN.out.symm, rfl⟩
        · have e2 : (((a + k : Nat) : Int) == (a : Int)) = false := by rw [beq_eq_false_iff_ne]; omega
          have e3 : ((a : Int) + (k : Int) == (a : Int)) = false := by rw [beq_eq_false_iff_ne]; omega
          have hc32 : ((s[a + k].toNat : Int) == 32) = true ∨ ((s[a + k].toNat : Int) == 32) = false := by cases ((s[a + k].toNat : Int) == 32) <;> simp
          rcases hb1 with g1 | g1
          · rcases hc32 with e1 | e1
            all_goals
              go_wp2
              go_ret
              exact ⟨ret_int HN.out.symm, rfl⟩
          · have g2 : ¬ s[a + k].toNat < 48 := by omega
            rcases hc32 with e1 | e1
            all_goals
              go_wp2
              go_ret
              exact ⟨ret_int HN.out.symm, rfl⟩
      · have HN : Hid (Dt.rdig (decide (k + 1 = 0)) (x * 10 + (s[a + k].toNat : Int) - 48) (Dt.piece s (a + (k + 1)) (e - (a + (k + 1)))) = R) := Lib.hid (by
          rw [HDK.out, ← HR.out, HST.out, if_neg (by simpa using hb), if_neg (by omega)])
        have g0 : ¬ s[a + k].toNat < 48 := by omega
        have g1 : ¬ 57 < s[a + k].toNat := by omega
        have HXB : Hid (0 ≤ x * 10 + (s[a + k].toNat : Int) - 48 ∧ x * 10 + (s[a + k].toNat : Int) - 48 < 10 ^ (k + 1)) := Lib.hid (by rw [HP10.out]; omega)
        have HREL : Hid (∃ (k1 : Nat) (x1 : Int), a + k1 ≤ e ∧ (e - (a + k + 1)) + k1 = e - a ∧ (Value.int IntKind.i64 (x * 10 + (s[a + k].toNat : Int) - 48)) = .int .i64 x1 ∧ (Value.int IntKind.i64 (((a + k : Nat) : Int) + 1)) = .int .i64 ((a + k1 : Nat) : Int) ∧ 0 ≤ x1 ∧ x1 < 10 ^ k1 ∧ Hid (Dt.rdig (decide (k1 = 0)) x1 (Dt.piece s (a + k1) (e - (a + k1))) = R) ∧ wr = wr) := Lib.hid ⟨k + 1, _, by omega, by omega, rfl, by go_num, HXB.out.1, HXB.out.2, HN, rfl⟩
        have e1 : ((s[a + k].toNat : Int) == 32) = false := by rw [beq_eq_false_iff_ne]; omega
        clear HR HST HP10 HN HXB hb
        by_cases hk0 : k = 0
        · subst hk0
          have e1' : ((s[a].toNat : Int) == 32) = false := e1
          have g0' : ¬ s[a].toNat < 48 := g0
          have g1' : ¬ 57 < s[a].toNat := g1
          clear e1 g0 g1 hb1 hb2
          go_wp2
          go_roundg (e - (a + 0 + 1))
          case measure => omega
          case rel => simpa using HREL.out
        · go_wp2
          go_roundg (e - (a + k + 1))
          case measure => omega
          case rel => simpa using HREL.out
    · obtain rfl : a + k = e := by omega
      have HF : Hid (x = R) := Lib.hid (by rw [← HR.out, piece_end]; rfl)
      clear HR
      go_wp2
      go_ret
      exact ⟨ret_int HF.out, rfl⟩
end Go.Proofs.YtcaekfebnhedpaaGreatDoor
set_option linter.unusedVariables false
set_option linter.unusedSimpArgs false
namespace Go.Proofs.YtcaekfebnhedpaaGreatDoor
open Go.RowKit

section
variable {P : Program} {ops : Array Oper} {Q : Exit → Act → World → Prop} {md : Region.Mode} {S : Array Bool → World → Prop}
/-- What an operation's run comes to. -/
def RunsTo (P : Program) (S : World → Prop) (v : Value) : Result Next → Prop
  | .ok (.value u) w' => u = v ∧ S w'
  | .ok .skip w' => v = undef ∧ S w'
  | .ok (.enter f args) w' => Calls P f args w' fun e w'' => e = .returned v ∧ S w''
  | _ => False
/-- In state a operation i yields v, in every world that keeps S. -/
def YS (P : Program) (ops : Array Oper) (S : Array Bool → World → Prop) (i : Nat) (o : Oper) (v : Value) (a : Act) : Prop :=
  (Region.wanted o (yielded ops a.tmps) = true ∧ ∀ L w, L.getD i true = false → S L w → RunsTo P (S (L.setIfInBounds i true)) v ((execOp a.eval o).run P w)) ∨
  (Region.wanted o (yielded ops a.tmps) = false ∧ v = undef ∧ ∀ L w, L.getD i true = false → S L w → S (L.setIfInBounds i true) w)
theorem YS.of_same {i : Nat} {o : Oper} {v : Value} {a a' : Act} (hy : YS P ops S i o v a) (he : execOp a'.eval o = execOp a.eval o)
    (hw : Region.wanted o (yielded ops a'.tmps) = Region.wanted o (yielded ops a.tmps)) : YS P ops S i o v a' := by
  unfold YS at *
  rw [he, hw]
  exact hy
theorem YS.put {i : Nat} {o : Oper} {v u : Value} {a : Act} {dst : Option Tmp} (hs : ∀ cs b, o.op ≠ .select cs b) (h : ∀ d, dst = some d → d ∉ o.looksAt ops) :
    YS P ops S i o v (a.put dst u) ↔ YS P ops S i o v a := by
  constructor
  · exact fun hy => hy.of_same (execOp_put o hs a dst u h).symm (wanted_put o a dst u h).symm
  · exact fun hy => hy.of_same (execOp_put o hs a dst u h) (wanted_put o a dst u h)
def DetS (P : Program) (md : Region.Mode) (ops : Array Oper) (Q : Exit → Act → World → Prop) (S : Array Bool → World → Prop) : Nat → Array Bool → Act → Prop
  | 0, listed, a => Region.ready md ops listed = [] ∧ ∀ w, S listed w → Q .normal a w
  | k + 1, listed, a => (Region.ready md ops listed = [] → ∀ w, S listed w → Q .normal a w) ∧
    ∀ i ∈ Region.ready md ops listed, ∃ o v, ops[i]? = some o ∧ YS P ops S i o v a ∧ DetS P md ops Q S k (listed.setIfInBounds i true) (a.put o.dst v)
theorem YS.wpOp {i : Nat} {o : Oper} {v : Value} {a : Act} {w : World} {listed : Array Bool} (hi : ops[i]? = some o) (hy : YS P ops S i o v a)
    (hl : listed.getD i true = false) (hS : S listed w) {K : Act → World → Prop} (h : ∀ w', S (listed.setIfInBounds i true) w' → K (a.put o.dst v) w') : wpOp P ops Q i K a w := by
  unfold Go.wpOp
  simp only [hi]
  rcases hy with ⟨hw, hv⟩ | ⟨hw, rfl, hk⟩
  · rw [if_pos hw]
    refine .inl ?_
    unfold Oper.wp
    have h9 := hv listed w hl hS
    generalize (execOp a.eval o).run P w = r at *
    unfold RunsTo at h9
    split at h9
    · obtain ⟨rfl, h9⟩ := h9; exact h _ h9
    · obtain ⟨rfl, h9⟩ := h9; exact h _ h9
    · refine Calls.mono h9 fun e w'' he => ?_
      obtain ⟨rfl, he⟩ := he
      exact h _ he
    · exact h9.elim
  · rw [if_neg (by rw [hw]; decide)]
    exact h _ (hk listed w hl hS)
theorem DetS.wpAny : ∀ (k : Nat) (listed : Array Bool) (a : Act) (w : World), DetS P md ops Q S k listed a → S listed w → wpAny P md ops Q k listed a w
  | 0, _, _, w, h, hS => ⟨h.1, h.2 w hS⟩
  | k + 1, listed, a, w, h, hS => ⟨fun h0 => h.1 h0 w hS, fun i hi => by
      obtain ⟨o, v, ho, hy, hn⟩ := h.2 i hi
      exact hy.wpOp ho (mem_ready.1 hi).1 hS fun w' h' => DetS.wpAny k _ _ w' hn h'⟩
theorem DetS.first {i : Nat} {oi : Oper} {v : Value} (hi : ops[i]? = some oi) (hsel : ∀ (j : Nat) (o : Oper) cs b, ops[j]? = some o → o.op ≠ .select cs b) :
    ∀ (k : Nat) (listed : Array Bool) (a : Act),
      (∀ j oj, ops[j]? = some oj → j ≠ i → listed.getD j true = false → (∀ e ∈ oj.after, Region.binds md e = true → e.on ≠ i) → oi.apart ops oj = true) →
      i ∈ Region.ready md ops listed → YS P ops S i oi v a →
      DetS P md ops Q S k (listed.setIfInBounds i true) (a.put oi.dst v) → DetS P md ops Q S (k + 1) listed a := by
  intro k
  induction k with
  | zero =>
    intro listed a _ hr hy H
    refine ⟨fun h => (by rw [h] at hr; cases hr), fun j hj => ?_⟩
    by_cases hji : j = i
    · subst hji; exact ⟨oi, v, hi, hy, H⟩
    · have := ready_mono hj hji
      rw [H.1] at this
      cases this
  | succ k ih =>
    intro listed a hfree hr hy H
    refine ⟨fun h => (by rw [h] at hr; cases hr), fun j hj => ?_⟩
    by_cases hji : j = i
    · subst hji; exact ⟨oi, v, hi, hy, H⟩
    · obtain ⟨oj', u, hoj', hyj, hn⟩ := H.2 j (ready_mono hj hji)
      obtain ⟨hjun, oj, hoj, hall⟩ := mem_ready.1 hj
      have he : oj' = oj := by rw [hoj] at hoj'; exact (Option.some.inj hoj').symm
      subst he
      have hnot : ∀ e ∈ oj'.after, Region.binds md e = true → e.on ≠ i := fun e he hb heq => by
        have h1 := hall e he hb
        have h0 := (mem_ready.1 hr).1
        rw [heq] at h1
        rcases Nat.lt_or_ge i listed.size with h' | h'
        · simp [h'] at h0 h1; rw [h0] at h1; cases h1
        · simp [Array.getElem?_eq_none h'] at h1
      obtain ⟨p1, p2, p3⟩ := Oper.apart_spec (hfree j oj' hoj hji hjun hnot)
      have hfree' : ∀ k ok, ops[k]? = some ok → k ≠ i → (listed.setIfInBounds j true).getD k true = false →
          (∀ e ∈ ok.after, Region.binds md e = true → e.on ≠ i) → oi.apart ops ok = true := fun k ok hk hki hun hno => by
        refine hfree k ok hk hki ?_ hno
        by_cases hjk : j = k
        · subst hjk; exact hjun
        · rw [getD_set_ne true hjk] at hun; exact hun
      refine ⟨oj', u, hoj, (YS.put (hsel j oj' · · hoj) p1).1 hyj, ?_⟩
      refine ih _ _ hfree' (ready_mono hr (Ne.symm hji)) ((YS.put (hsel i oi · · hi) p3).2 hy) ?_
      rw [Array.setIfInBounds_comm _ _ hji, ← Act.put_comm a v u p2]
      exact hn
theorem DetS.take {i : Nat} {oi : Oper} {v : Value} {k : Nat} {listed : Array Bool} {a : Act} (hi : ops[i]? = some oi)
    (hs : Region.noSelect ops = true) (hf : Region.free md ops listed i = true) (hr : (Region.ready md ops listed).contains i = true)
    (hy : YS P ops S i oi v a) (h : DetS P md ops Q S k (listed.setIfInBounds i true) (a.put oi.dst v)) : DetS P md ops Q S (k + 1) listed a :=
  DetS.first hi (Region.noSelect_spec hs) k listed a (Region.free_spec hi hf) (by simpa using hr) hy h
theorem DetS.takeL {l : List Oper} {i : Nat} {oi : Oper} {v : Value} {k : Nat} {listed : Array Bool} {a : Act} (hi : l[i]? = some oi)
    (hs : Region.noSelect l.toArray = true) (hf : Region.free md l.toArray listed i = true) (hr : (Region.ready md l.toArray listed).contains i = true)
    (hy : YS P l.toArray S i oi v a) (h : DetS P md l.toArray Q S k (listed.setIfInBounds i true) (a.put oi.dst v)) : DetS P md l.toArray Q S (k + 1) listed a :=
  DetS.take (by simpa using hi) hs hf hr hy h
theorem DetS.done {listed : Array Bool} {a : Act} (hr : Region.ready md ops listed = []) (h : ∀ w, S listed w → Q .normal a w) : ∀ k, DetS P md ops Q S k listed a
  | 0 => ⟨hr, h⟩
  | _ + 1 => ⟨fun _ => h, by rw [hr]; simp⟩
/-- The beginning. -/
theorem wp_region_det {id : Nat} {a : Act} {w : World} (hm : P.follows .mixedOrders = true) (hS : S (Array.replicate ops.size false) w.drew)
    (h : DetS P .any ops Q S ops.size (Array.replicate ops.size false) a) : (Code.region id ops true).wp P Q a w :=
  wp_region_any hm (DetS.wpAny _ _ _ _ h hS)
theorem wp_region_detN {n : Nat} {id : Nat} {a : Act} {w : World} (hm : P.follows .mixedOrders = true) (hn : ops.size = n) (hS : S (Array.replicate n false) w.drew)
    (h : DetS P .any ops Q S n (Array.replicate n false) a) : (Code.region id ops true).wp P Q a w := by
  subst hn
  exact wp_region_det hm hS h
/-- An operation that yields in every world of S, and leaves that world. -/
theorem YS.pure {i : Nat} {o : Oper} {v : Value} {a : Act} (hw : Region.wanted o (yielded ops a.tmps) = true)
    (hS : ∀ L w, L.getD i true = false → S L w → S (L.setIfInBounds i true) w)
    (hr : ∀ L w, S L w → (execOp a.eval o).run P w = .ok (.value v) w) : YS P ops S i o v a :=
  .inl ⟨hw, fun L w hl h => by rw [hr L w h]; exact ⟨rfl, hS L w hl h⟩⟩
/-- A call. -/
theorem YS.call {i : Nat} {o : Oper} {v : Value} {a : Act} {f : FuncId} {args : Array Value} (hw : Region.wanted o (yielded ops a.tmps) = true)
    (hr : ∀ w, (execOp a.eval o).run P w = .ok (.enter f args) w)
    (hc : ∀ L w, L.getD i true = false → S L w → Calls P f args w fun e w'' => e = .returned v ∧ S (L.setIfInBounds i true) w'') : YS P ops S i o v a :=
  .inl ⟨hw, fun L w hl h => by rw [hr w]; exact hc L w hl h⟩
/-- A store. -/
theorem YS.store {i : Nat} {o : Oper} {a : Act} {f : World → World} (hw : Region.wanted o (yielded ops a.tmps) = true)
    (hr : ∀ L w, L.getD i true = false → S L w → (execOp a.eval o).run P w = .ok .skip (f w) ∧ S (L.setIfInBounds i true) (f w)) : YS P ops S i o undef a :=
  .inl ⟨hw, fun L w hl h => by rw [(hr L w hl h).1]; exact ⟨rfl, (hr L w hl h).2⟩⟩
theorem getD_set_self {L : Array Bool} {i : Nat} (h : L.getD i true = false) : (L.setIfInBounds i true).getD i false = true := by
  have hlt : i < L.size := by
    rcases Nat.lt_or_ge i L.size with h' | h'
    · exact h'
    · simp [Array.getElem?_eq_none h'] at h
  simp [hlt]
theorem getD_un {L : Array Bool} {i : Nat} (h : L.getD i true = false) : L.getD i false = false := by
  rcases Nat.lt_or_ge i L.size with h' | h'
  · simpa [h'] using h
  · simp [Array.getElem?_eq_none h']
end
end Go.Proofs.YtcaekfebnhedpaaGreatDoor
