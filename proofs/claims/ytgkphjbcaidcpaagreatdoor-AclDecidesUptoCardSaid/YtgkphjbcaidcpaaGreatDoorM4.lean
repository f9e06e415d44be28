/- Joined texts: Dates as texts, in plain Lean: the three forms of a second; the program's scan as total functions of what is left and whether all was well; the reference's reading. The conditions stand in each line. -/
import Derived.Test.YtgkphjbcaidcpaaGreatDoorM3
import Derived.Lib.ItoaNum
import Derived.Lib.Atoi
set_option linter.unusedVariables false
set_option linter.unusedSimpArgs false
namespace Go.Proofs.YtgkphjbcaidcpaaGreatDoor
namespace Dt
def dgt (n : Int) : UInt8 := UInt8.ofNat (48 + (n % 10).toNat)
def pad2 (n : Int) : List UInt8 := [dgt (n / 10), dgt n]
def pad4 (n : Int) : List UInt8 := [dgt (n / 1000), dgt (n / 100), dgt (n / 10), dgt n]
def wkN : Nat → List UInt8
  | 0 => [84, 104, 117, 114, 115, 100, 97, 121]
  | 1 => [70, 114, 105, 100, 97, 121]
  | 2 => [83, 97, 116, 117, 114, 100, 97, 121]
  | 3 => [83, 117, 110, 100, 97, 121]
  | 4 => [77, 111, 110, 100, 97, 121]
  | 5 => [84, 117, 101, 115, 100, 97, 121]
  | _ => [87, 101, 100, 110, 101, 115, 100, 97, 121]
def wk3 (n : Nat) : List UInt8 := (wkN n).take 3
def moN : Nat → List UInt8
  | 1 => [74, 97, 110]
  | 2 => [70, 101, 98]
  | 3 => [77, 97, 114]
  | 4 => [65, 112, 114]
  | 5 => [77, 97, 121]
  | 6 => [74, 117, 110]
  | 7 => [74, 117, 108]
  | 8 => [65, 117, 103]
  | 9 => [83, 101, 112]
  | 10 => [79, 99, 116]
  | 11 => [78, 111, 118]
  | _ => [68, 101, 99]
def hms (r : Int) : List UInt8 := pad2 (r / 3600) ++ [58] ++ pad2 (r / 60 % 60) ++ [58] ++ pad2 (r % 60)
def cY (n : Int) : Int := Cal.tcY ((n + 719468) / 146097) ((n + 719468) % 146097)
def cM (n : Int) : Int := Cal.tcM ((n + 719468) % 146097)
def cD (n : Int) : Int := Cal.tcD ((n + 719468) % 146097)
def gmt : List UInt8 := [32, 71, 77, 84]
def f0 (i : Nat) (y m d r : Int) : List UInt8 := wk3 i ++ [44, 32] ++ pad2 d ++ [32] ++ moN m.toNat ++ [32] ++ pad4 y ++ [32] ++ hms r ++ gmt
def f1 (i : Nat) (y m d r : Int) : List UInt8 := wkN i ++ [44, 32] ++ pad2 d ++ [45] ++ moN m.toNat ++ [45] ++ pad2 (y % 100) ++ [32] ++ hms r ++ gmt
def dd2 (d : Int) : List UInt8 := if d < 10 then [32, dgt d] else pad2 d
def f2 (i : Nat) (y m d r : Int) : List UInt8 := wk3 i ++ [32] ++ moN m.toNat ++ [32] ++ dd2 d ++ [32] ++ hms r ++ [32] ++ pad4 y
def wd (n : Int) : Nat := (n % 7).toNat
def form0 (v : Int) : List UInt8 := f0 (wd (v / 86400)) (cY (v / 86400)) (cM (v / 86400)) (cD (v / 86400)) (v % 86400)
def form1 (v : Int) : List UInt8 := if cY (v / 86400) < 2070 then f1 (wd (v / 86400)) (cY (v / 86400)) (cM (v / 86400)) (cD (v / 86400)) (v % 86400) else []
def form2 (v : Int) : List UInt8 := f2 (wd (v / 86400)) (cY (v / 86400)) (cM (v / 86400)) (cD (v / 86400)) (v % 86400)
def inR (v : Int) : Prop := 0 ≤ v ∧ v ≤ 253402300799

/- digits -/
theorem dgt_nat (n : Int) : (dgt n).toNat = 48 + (n % 10).toNat := by
  unfold dgt
  rw [UInt8.toNat_ofNat']
  omega
def isD (c : UInt8) : Bool := decide (48 ≤ c.toNat) && decide (c.toNat ≤ 57)
theorem dgt_isD (n : Int) : isD (dgt n) = true := by
  unfold isD
  rw [dgt_nat]
  simp; omega
def val (l : List UInt8) : Int := l.foldl (fun a c => a * 10 + ((c.toNat : Int) - 48)) 0
theorem isD_bd {c : UInt8} (h : isD c = true) : 48 ≤ c.toNat ∧ c.toNat ≤ 57 := by
  unfold isD at h
  simpa using h
theorem dgt_of {c : UInt8} (h : isD c = true) (n : Int) (hn : n % 10 = (c.toNat : Int) - 48) : dgt n = c := by
  have := isD_bd h
  apply UInt8.toNat_inj.1
  rw [dgt_nat]; omega
theorem pad2_all (n : Int) : (pad2 n).all isD = true := by simp [pad2, dgt_isD]
theorem pad4_all (n : Int) : (pad4 n).all isD = true := by simp [pad4, dgt_isD]
theorem val_pad2 {n : Int} (h0 : 0 ≤ n) (h1 : n < 100) : val (pad2 n) = n := by
  simp only [val, pad2, List.foldl_cons, List.foldl_nil, dgt_nat]; omega
theorem val_pad4 {n : Int} (h0 : 0 ≤ n) (h1 : n < 10000) : val (pad4 n) = n := by
  simp only [val, pad4, List.foldl_cons, List.foldl_nil, dgt_nat]; omega
theorem val_one {n : Int} (h0 : 0 ≤ n) (h1 : n < 10) : val [dgt n] = n := by
  simp only [val, List.foldl_cons, List.foldl_nil, dgt_nat]; omega
theorem pad2_val {t : List UInt8} (hl : t.length = 2) (h : t.all isD = true) : pad2 (val t) = t ∧ 0 ≤ val t ∧ val t < 100 := by
  match t, hl with
  | [a, b], _ =>
    simp only [List.all_cons, List.all_nil, Bool.and_true, Bool.and_eq_true] at h
    have h1 := isD_bd h.1
    have h2 := isD_bd h.2
    simp only [val, List.foldl_cons, List.foldl_nil, pad2]
    refine ⟨?_, by omega, by omega⟩
    rw [dgt_of h.1 _ (by omega), dgt_of h.2 _ (by omega)]
theorem pad4_val {t : List UInt8} (hl : t.length = 4) (h : t.all isD = true) : pad4 (val t) = t ∧ 0 ≤ val t ∧ val t < 10000 := by
  match t, hl with
  | [a, b, c, d], _ =>
    simp only [List.all_cons, List.all_nil, Bool.and_true, Bool.and_eq_true] at h
    have h1 := isD_bd h.1
    have h2 := isD_bd h.2.1
    have h3 := isD_bd h.2.2.1
    have h4 := isD_bd h.2.2.2
    simp only [val, List.foldl_cons, List.foldl_nil, pad4]
    refine ⟨?_, by omega, by omega⟩
    rw [dgt_of h.1 _ (by omega), dgt_of h.2.1 _ (by omega), dgt_of h.2.2.1 _ (by omega), dgt_of h.2.2.2 _ (by omega)]
theorem one_val {t : List UInt8} (hl : t.length = 1) (h : t.all isD = true) : [dgt (val t)] = t ∧ 0 ≤ val t ∧ val t < 10 := by
  match t, hl with
  | [a], _ =>
    simp only [List.all_cons, List.all_nil, Bool.and_true] at h
    have h1 := isD_bd h
    simp only [val, List.foldl_cons, List.foldl_nil]
    refine ⟨?_, by omega, by omega⟩
    rw [dgt_of h _ (by omega)]
theorem val_bd {t : List UInt8} (h : t.all isD = true) : 0 ≤ val t ∧ val t < 10 ^ t.length := by
  have : ∀ (t : List UInt8) (a : Int), t.all isD = true → 0 ≤ a → 0 ≤ t.foldl (fun a c => a * 10 + ((c.toNat : Int) - 48)) a ∧ t.foldl (fun a c => a * 10 + ((c.toNat : Int) - 48)) a < (a + 1) * 10 ^ t.length := by
    intro t
    induction t with
    | nil => intro a _ h; simp; omega
    | cons c r ih =>
      intro a hc ha
      simp only [List.all_cons, Bool.and_eq_true] at hc
      have hb := isD_bd hc.1
      have := ih (a * 10 + ((c.toNat : Int) - 48)) hc.2 (by omega)
      simp only [List.foldl_cons, List.length_cons]
      refine ⟨this.1, Int.lt_of_lt_of_le this.2 ?_⟩
      rw [Int.pow_succ, Int.mul_comm (10 ^ r.length) 10, ← Int.mul_assoc]
      exact Int.mul_le_mul_of_nonneg_right (by omega) (Int.pow_nonneg (by omega))
  have h2 := this t 0 h (by omega)
  unfold val
  simpa using h2
theorem val_dec : ∀ (t : List UInt8), t.all isD = true → ∀ a : Nat, Lib.decFrom a t = some (t.foldl (fun a c => a * 10 + ((c.toNat : Int) - 48)) (a : Int)).toNat ∧ 0 ≤ t.foldl (fun a c => a * 10 + ((c.toNat : Int) - 48)) (a : Int)
  | [], _, a => ⟨by simp [Lib.decFrom], by simp⟩
  | c :: r, h, a => by
    simp only [List.all_cons, Bool.and_eq_true] at h
    have hb := isD_bd h.1
    have := val_dec r h.2 (a * 10 + (c.toNat - 48))
    simp only [List.foldl_cons]
    have e : (a : Int) * 10 + ((c.toNat : Int) - 48) = ((a * 10 + (c.toNat - 48) : Nat) : Int) := by omega
    rw [e]
    refine ⟨?_, this.2⟩
    unfold Lib.decFrom
    have hd : Lib.digitVal c = some (c.toNat - 48) := by unfold Lib.digitVal; rw [if_pos hb]
    rw [hd]
    exact this.1
theorem atoi_val {t : List UInt8} (hl : t ≠ []) (h : t.all isD = true) : Lib.atoi t = some (val t) := by
  match t, hl with
  | c :: r, _ =>
    have hc := h
    simp only [List.all_cons, Bool.and_eq_true] at hc
    have hb := isD_bd hc.1
    have e1 : (c == 45) = false := by rw [beq_eq_false_iff_ne]; rintro rfl; simp at hb
    have e2 : (c == 43) = false := by rw [beq_eq_false_iff_ne]; rintro rfl; simp at hb
    have hd := val_dec (c :: r) h 0
    have hv : Lib.decNat (c :: r) = some (val (c :: r)).toNat := by
      unfold Lib.decNat
      rw [if_neg (by simp), hd.1]
      rfl
    have h0 : 0 ≤ val (c :: r) := (val_bd h).1
    simp only [Lib.atoi, e1, e2, Bool.false_eq_true, if_false, hv, Option.map_some]
    congr 1
    omega

/- the scan -/
def take (n : Nat) (s : List UInt8) (ok : Bool) : List UInt8 × List UInt8 × Bool := if s.length < n then (List.replicate n 63, s, false) else (s.take n, s.drop n, ok)
def lit (want s : List UInt8) (ok : Bool) : List UInt8 × Bool := ((take want.length s ok).2.1, (take want.length s ok).2.2 && ((take want.length s ok).1 == want))
def num (w : Nat) (s : List UInt8) (ok : Bool) : Int × List UInt8 × Bool :=
  if (take w s ok).1.all isD = true then (val (take w s ok).1, (take w s ok).2.1, (take w s ok).2.2) else (0, (take w s ok).2.1, false)
def monF (t : List UInt8) : Option Nat := (List.range 12).find? fun i => moN (i + 1) == t
def mon (s : List UInt8) (ok : Bool) : Int × List UInt8 × Bool :=
  match monF (take 3 s ok).1 with
  | some i => ((i : Int) + 1, (take 3 s ok).2.1, (take 3 s ok).2.2)
  | none => (0, (take 3 s ok).2.1, false)
def clk (s : List UInt8) (ok : Bool) : Int × List UInt8 × Bool :=
  let h := num 2 s ok
  let p := lit [58] h.2.1 h.2.2
  let m := num 2 p.1 p.2
  let q := lit [58] m.2.1 m.2.2
  let c := num 2 q.1 q.2
  (h.1 * 3600 + m.1 * 60 + c.1, c.2.1, c.2.2 && !(decide (23 < h.1) || decide (59 < m.1) || decide (59 < c.1)))
def nm (whole : Bool) (i : Nat) : List UInt8 := if whole = true then wkN i else wk3 i
def weekF (whole : Bool) (s : List UInt8) : Option Nat := (List.range 7).find? fun i => (nm whole i).isPrefixOf s
def week (whole : Bool) (s : List UInt8) (ok : Bool) : Int × List UInt8 × Bool :=
  match weekF whole s with
  | some i => ((i : Int), s.drop (nm whole i).length, ok)
  | none => (0, s, false)
def doneV (w y m d r : Int) (s : List UInt8) (ok : Bool) : Int × Int := if ok = true ∧ s = [] ∧ Cal.valid y m d ∧ Cal.num y m d % 7 = w then (Cal.num y m d * 86400 + r, 0) else (0, 20)
def p0 (s : List UInt8) : Int × Int :=
  let w := week false s true
  let a := lit [44, 32] w.2.1 w.2.2
  let d := num 2 a.1 a.2
  let b := lit [32] d.2.1 d.2.2
  let m := mon b.1 b.2
  let c := lit [32] m.2.1 m.2.2
  let y := num 4 c.1 c.2
  let e := lit [32] y.2.1 y.2.2
  let r := clk e.1 e.2
  let f := lit gmt r.2.1 r.2.2
  doneV w.1 y.1 m.1 d.1 r.1 f.1 f.2
def y2 (y : Int) : Int := if y + 1900 < 1970 then y + 2000 else y + 1900
def p1 (s : List UInt8) : Int × Int :=
  let w := week true s true
  let a := lit [44, 32] w.2.1 w.2.2
  let d := num 2 a.1 a.2
  let b := lit [45] d.2.1 d.2.2
  let m := mon b.1 b.2
  let c := lit [45] m.2.1 m.2.2
  let y := num 2 c.1 c.2
  let e := lit [32] y.2.1 y.2.2
  let r := clk e.1 e.2
  let f := lit gmt r.2.1 r.2.2
  doneV w.1 (y2 y.1) m.1 d.1 r.1 f.1 f.2
def day2 (s : List UInt8) (ok : Bool) : Int × List UInt8 × Bool :=
  if [32].isPrefixOf s = true then num 1 (lit [32] s ok).1 (lit [32] s ok).2 else ((num 2 s ok).1, (num 2 s ok).2.1, (num 2 s ok).2.2 && !decide ((num 2 s ok).1 < 10))
def p2 (s : List UInt8) : Int × Int :=
  let w := week false s true
  let a := lit [32] w.2.1 w.2.2
  let m := mon a.1 a.2
  let b := lit [32] m.2.1 m.2.2
  let d := day2 b.1 b.2
  let c := lit [32] d.2.1 d.2.2
  let r := clk c.1 c.2
  let e := lit [32] r.2.1 r.2.2
  let y := num 4 e.1 e.2
  doneV w.1 y.1 m.1 d.1 r.1 y.2.1 y.2.2
def comma (s : List UInt8) : Int := match s.findIdx? (· == 44) with | some k => (k : Int) | none => -1
def dparse (s : List UInt8) : Int × Int := if comma s = 3 then p0 s else if 3 < comma s then p1 s else p2 s

/- what stands behind a step that went well -/
theorem take_inv {n : Nat} {s t s' : List UInt8} {ok : Bool} (h : take n s ok = (t, s', true)) : ok = true ∧ t.length = n ∧ s = t ++ s' := by
  unfold take at h
  split at h
  · simp at h
  · simp only [Prod.mk.injEq] at h
    obtain ⟨rfl, rfl, rfl⟩ := h
    exact ⟨rfl, by simp; omega, by simp⟩
theorem take_app (t s : List UInt8) (ok : Bool) (n : Nat) (hn : t.length = n) : take n (t ++ s) ok = (t, s, ok) := by
  subst hn
  unfold take
  rw [if_neg (by simp)]
  simp
theorem lit_inv {want s s' : List UInt8} {ok : Bool} (h : lit want s ok = (s', true)) : ok = true ∧ s = want ++ s' := by
  unfold lit at h
  generalize hE : take want.length s ok = r at h
  obtain ⟨t, u, k⟩ := r
  simp only [Prod.mk.injEq, Bool.and_eq_true, beq_iff_eq] at h
  obtain ⟨rfl, rfl, rfl⟩ := h
  obtain ⟨h1, h2, h3⟩ := take_inv hE
  exact ⟨h1, h3⟩
theorem lit_app (want s : List UInt8) (ok : Bool) : lit want (want ++ s) ok = (s, ok) := by
  unfold lit
  rw [take_app _ _ _ _ rfl]
  simp
theorem num_inv {w : Nat} {s s' : List UInt8} {v : Int} {ok : Bool} (h : num w s ok = (v, s', true)) : ok = true ∧ ∃ t : List UInt8, t.length = w ∧ t.all isD = true ∧ v = val t ∧ s = t ++ s' := by
  unfold num at h
  generalize hE : take w s ok = r at h
  obtain ⟨t, u, k⟩ := r
  split at h
  · rename_i ha
    simp only [Prod.mk.injEq] at h
    obtain ⟨rfl, rfl, rfl⟩ := h
    obtain ⟨h1, h2, h3⟩ := take_inv hE
    exact ⟨h1, t, h2, ha, rfl, h3⟩
  · simp at h
theorem num_app (t s : List UInt8) (ok : Bool) (w : Nat) (hw : t.length = w) (h : t.all isD = true) : num w (t ++ s) ok = (val t, s, ok) := by
  unfold num
  rw [take_app _ _ _ _ hw, if_pos h]
theorem num_bd (w : Nat) (s : List UInt8) (ok : Bool) : 0 ≤ (num w s ok).1 ∧ (num w s ok).1 < 10 ^ w := by
  have hp : (0 : Int) < 10 ^ w := Int.pow_pos (by omega)
  unfold num
  split
  · rename_i h
    have hb := val_bd h
    have hl : (take w s ok).1.length = w := by unfold take; split <;> simp; omega
    rw [hl] at hb
    exact hb
  · exact ⟨Int.le_refl _, hp⟩
theorem monF_some {t : List UInt8} {i : Nat} (h : monF t = some i) : i < 12 ∧ moN (i + 1) = t := by
  unfold monF at h
  have h1 := List.find?_some h
  have h2 := List.mem_of_find?_eq_some h
  exact ⟨List.mem_range.1 h2, by simpa using h1⟩
theorem mon_inv {s s' : List UInt8} {v : Int} {ok : Bool} (h : mon s ok = (v, s', true)) : ok = true ∧ 1 ≤ v ∧ v ≤ 12 ∧ s = moN v.toNat ++ s' := by
  unfold mon at h
  generalize hE : take 3 s ok = r at h
  obtain ⟨t, u, k⟩ := r
  cases hm : monF t with
  | none => rw [hm] at h; simp at h
  | some i =>
    rw [hm] at h
    simp only [Prod.mk.injEq] at h
    obtain ⟨rfl, rfl, rfl⟩ := h
    obtain ⟨h1, h2, h3⟩ := take_inv hE
    obtain ⟨h4, h5⟩ := monF_some hm
    refine ⟨h1, by omega, by omega, ?_⟩
    rw [h3, ← h5]
    congr 2
theorem mon_bd (s : List UInt8) (ok : Bool) : 0 ≤ (mon s ok).1 ∧ (mon s ok).1 ≤ 12 := by
  unfold mon
  cases hm : monF (take 3 s ok).1 with
  | none => exact ⟨Int.le_refl _, by simp⟩
  | some i => have := (monF_some hm).1; dsimp only; omega
theorem moN_len (n : Nat) : (moN n).length = 3 := by unfold moN; split <;> rfl
theorem monF_moN : ∀ i : Fin 12, monF (moN (i.val + 1)) = some i.val := by decide
theorem mon_app (m : Int) (s : List UInt8) (ok : Bool) (h1 : 1 ≤ m) (h2 : m ≤ 12) : mon (moN m.toNat ++ s) ok = (m, s, ok) := by
  unfold mon
  rw [take_app _ _ _ _ (moN_len _)]
  have := monF_moN ⟨(m - 1).toNat, by omega⟩
  rw [show (m - 1).toNat + 1 = m.toNat by omega] at this
  rw [this]
  dsimp only
  rw [show (((m - 1).toNat : Nat) : Int) + 1 = m by omega]
theorem hms_len (r : Int) : (hms r).length = 8 := rfl
theorem clk_inv {s s' : List UInt8} {v : Int} {ok : Bool} (h : clk s ok = (v, s', true)) : ok = true ∧ 0 ≤ v ∧ v < 86400 ∧ s = hms v ++ s' := by
  unfold clk at h
  dsimp only at h
  generalize hE1 : num 2 s ok = a at h; obtain ⟨x1, s1, k1⟩ := a; dsimp only at h
  generalize hE2 : lit [58] s1 k1 = a at h; obtain ⟨s2, k2⟩ := a; dsimp only at h
  generalize hE3 : num 2 s2 k2 = a at h; obtain ⟨x3, s3, k3⟩ := a; dsimp only at h
  generalize hE4 : lit [58] s3 k3 = a at h; obtain ⟨s4, k4⟩ := a; dsimp only at h
  generalize hE5 : num 2 s4 k4 = a at h; obtain ⟨x5, s5, k5⟩ := a; dsimp only at h
  simp only [Prod.mk.injEq, Bool.and_eq_true, Bool.not_eq_true', Bool.or_eq_false_iff, decide_eq_false_iff_not] at h
  obtain ⟨rfl, rfl, rfl, ⟨g1, g2⟩, g3⟩ := h
  obtain ⟨rfl, t5, l5, a5, rfl, rfl⟩ := num_inv hE5
  obtain ⟨rfl, rfl⟩ := lit_inv hE4
  obtain ⟨rfl, t3, l3, a3, rfl, rfl⟩ := num_inv hE3
  obtain ⟨rfl, rfl⟩ := lit_inv hE2
  obtain ⟨rfl, t1, l1, a1, rfl, rfl⟩ := num_inv hE1
  obtain ⟨e1, b1, c1⟩ := pad2_val l1 a1
  obtain ⟨e3, b3, c3⟩ := pad2_val l3 a3
  obtain ⟨e5, b5, c5⟩ := pad2_val l5 a5
  refine ⟨rfl, by omega, by omega, ?_⟩
  unfold hms
  rw [show (val t1 * 3600 + val t3 * 60 + val t5) / 3600 = val t1 by omega, show (val t1 * 3600 + val t3 * 60 + val t5) / 60 % 60 = val t3 by omega, show (val t1 * 3600 + val t3 * 60 + val t5) % 60 = val t5 by omega, e1, e3, e5]
  simp
theorem clk_bd (s : List UInt8) (ok : Bool) : 0 ≤ (clk s ok).1 ∧ (clk s ok).1 ≤ 1000000 := by
  have a := num_bd 2 s ok
  unfold clk
  dsimp only
  generalize num 2 s ok = x at *
  have b := num_bd 2 (lit [58] x.2.1 x.2.2).1 (lit [58] x.2.1 x.2.2).2
  generalize num 2 (lit [58] x.2.1 x.2.2).1 (lit [58] x.2.1 x.2.2).2 = y at *
  have c := num_bd 2 (lit [58] y.2.1 y.2.2).1 (lit [58] y.2.1 y.2.2).2
  generalize num 2 (lit [58] y.2.1 y.2.2).1 (lit [58] y.2.1 y.2.2).2 = z at *
  have e : (10 : Int) ^ 2 = 100 := by decide
  rw [e] at a b c
  omega
theorem clk_app (r : Int) (s : List UInt8) (ok : Bool) (h0 : 0 ≤ r) (h1 : r < 86400) : clk (hms r ++ s) ok = (r, s, ok) := by
  unfold clk hms
  simp only [List.append_assoc]
  rw [num_app _ _ _ 2 rfl (pad2_all _)]; dsimp only
  rw [lit_app]; dsimp only
  rw [num_app _ _ _ 2 rfl (pad2_all _)]; dsimp only
  rw [lit_app]; dsimp only
  rw [num_app _ _ _ 2 rfl (pad2_all _)]; dsimp only
  rw [val_pad2 (by omega) (by omega), val_pad2 (by omega) (by omega), val_pad2 (by omega) (by omega)]
  have g1 : decide (23 < r / 3600) = false := by simp; omega
  have g2 : decide (59 < r / 60 % 60) = false := by simp; omega
  have g3 : decide (59 < r % 60) = false := by simp; omega
  rw [g1, g2, g3]
  simp; omega
theorem weekF_some {b : Bool} {s : List UInt8} {i : Nat} (h : weekF b s = some i) : i < 7 ∧ (nm b i).isPrefixOf s = true := by
  unfold weekF at h
  have h2 := List.find?_some (p := fun i => (nm b i).isPrefixOf s) h
  exact ⟨List.mem_range.1 (List.mem_of_find?_eq_some h), h2⟩
theorem week_inv {b : Bool} {s s' : List UInt8} {v : Int} {ok : Bool} (h : week b s ok = (v, s', true)) : ok = true ∧ 0 ≤ v ∧ v < 7 ∧ s = nm b v.toNat ++ s' := by
  unfold week at h
  cases hm : weekF b s with
  | none => rw [hm] at h; simp at h
  | some i =>
    rw [hm] at h
    simp only [Prod.mk.injEq] at h
    obtain ⟨rfl, rfl, rfl⟩ := h
    obtain ⟨h1, h2⟩ := weekF_some hm
    obtain ⟨u, rfl⟩ := List.isPrefixOf_iff_prefix.1 h2
    exact ⟨rfl, by omega, by omega, by simp⟩
theorem week_bd (b : Bool) (s : List UInt8) (ok : Bool) : 0 ≤ (week b s ok).1 ∧ (week b s ok).1 ≤ 6 := by
  unfold week
  cases hm : weekF b s with
  | none => exact ⟨Int.le_refl _, by simp⟩
  | some i => have := (weekF_some hm).1; dsimp only; omega
theorem pre_fix : ∀ (b : Bool) (i j : Fin 7), ((nm b j.val).isPrefixOf (nm b i.val) = true ↔ i = j) ∧ (nm b j.val).length ≤ 9 := by decide
theorem week3_app (i : Nat) (s : List UInt8) (ok : Bool) (hi : i < 7) : week false (wk3 i ++ s) ok = ((i : Int), s, ok) := by
  unfold week
  have hc : i = 0 ∨ i = 1 ∨ i = 2 ∨ i = 3 ∨ i = 4 ∨ i = 5 ∨ i = 6 := by omega
  rcases hc with rfl | rfl | rfl | rfl | rfl | rfl | rfl <;> simp [weekF, nm, wk3, wkN, List.range, List.range.loop, List.find?, List.isPrefixOf]
theorem weekN_app (i : Nat) (s : List UInt8) (ok : Bool) (hi : i < 7) : week true (wkN i ++ s) ok = ((i : Int), s, ok) := by
  unfold week
  have hc : i = 0 ∨ i = 1 ∨ i = 2 ∨ i = 3 ∨ i = 4 ∨ i = 5 ∨ i = 6 := by omega
  rcases hc with rfl | rfl | rfl | rfl | rfl | rfl | rfl <;> simp [weekF, nm, wkN, List.range, List.range.loop, List.find?, List.isPrefixOf]
theorem wd_lt (n : Int) : wd n < 7 := by unfold wd; omega
theorem wd_int (n : Int) : ((wd n : Nat) : Int) = n % 7 := by unfold wd; omega
/- a second's day is a day -/
theorem civ {n : Int} (h0 : 0 ≤ n) (h1 : n ≤ 2932896) : Cal.valid (cY n) (cM n) (cD n) ∧ Cal.num (cY n) (cM n) (cD n) = n := by
  obtain ⟨-, -, -, t4, t5⟩ := Cal.tc_all n h0 (by omega)
  exact ⟨t4 h1, t5⟩
theorem num_bd2 {y m d : Int} (h : Cal.valid y m d) : 0 ≤ Cal.num y m d ∧ Cal.num y m d ≤ 2932896 := by
  obtain ⟨a1, a2, a3, a4, a5, a6⟩ := h
  have h1 := Cal.dby_bd y a1 (by omega)
  have h2 := Cal.dbm_nn y m
  have h3 := Cal.dby_mono y 10000 (by omega)
  have h4 := Cal.dby_max
  have h5 := Cal.dbm_top y m a3 a4
  unfold Cal.num
  omega
theorem civ_num {y m d : Int} (h : Cal.valid y m d) : cY (Cal.num y m d) = y ∧ cM (Cal.num y m d) = m ∧ cD (Cal.num y m d) = d := by
  obtain ⟨b0, b1⟩ := num_bd2 h
  obtain ⟨c1, c2⟩ := civ b0 b1
  exact Cal.num_inj _ _ _ _ _ _ c1 h c2
theorem sec_day {n r : Int} (h0 : 0 ≤ r) (h1 : r < 86400) : (n * 86400 + r) / 86400 = n ∧ (n * 86400 + r) % 86400 = r := by omega
theorem done_inv {w y m d r v : Int} {s : List UInt8} {ok : Bool} (h : doneV w y m d r s ok = (v, 0)) : ok = true ∧ s = [] ∧ Cal.valid y m d ∧ Cal.num y m d % 7 = w ∧ v = Cal.num y m d * 86400 + r := by
  unfold doneV at h
  split at h
  · rename_i hc
    simp only [Prod.mk.injEq, and_true] at h
    exact ⟨hc.1, hc.2.1, hc.2.2.1, hc.2.2.2, h.symm⟩
  · simp at h
theorem done_two (w y m d r : Int) (s : List UInt8) (ok : Bool) : (doneV w y m d r s ok).2 = 0 ∨ doneV w y m d r s ok = (0, 20) := by
  unfold doneV; split
  · exact .inl rfl
  · exact .inr rfl
def IsForm (s : List UInt8) (v : Int) : Prop := inR v ∧ (s = form0 v ∨ (cY (v / 86400) < 2070 ∧ s = form1 v) ∨ s = form2 v)
theorem form_of {y m d r : Int} (h : Cal.valid y m d) (h0 : 0 ≤ r) (h1 : r < 86400) : inR (Cal.num y m d * 86400 + r) ∧ form0 (Cal.num y m d * 86400 + r) = f0 (Cal.num y m d % 7).toNat y m d r ∧ (y < 2070 → form1 (Cal.num y m d * 86400 + r) = f1 (Cal.num y m d % 7).toNat y m d r) ∧ form2 (Cal.num y m d * 86400 + r) = f2 (Cal.num y m d % 7).toNat y m d r ∧ cY ((Cal.num y m d * 86400 + r) / 86400) = y := by
  obtain ⟨b0, b1⟩ := num_bd2 h
  obtain ⟨e1, e2⟩ := sec_day (n := Cal.num y m d) h0 h1
  obtain ⟨g1, g2, g3⟩ := civ_num h
  unfold form0 form1 form2 inR wd
  rw [e1, e2, g1, g2, g3]
  exact ⟨⟨by omega, by omega⟩, rfl, fun hy => by rw [if_pos hy], rfl, rfl⟩
theorem p0_inv {s : List UInt8} {v : Int} (h : p0 s = (v, 0)) : IsForm s v := by
  unfold p0 at h
  dsimp only at h
  generalize hE1 : week false s true = a at h; obtain ⟨x1, s1, k1⟩ := a; dsimp only at h
  generalize hE2 : lit [44, 32] s1 k1 = a at h; obtain ⟨s2, k2⟩ := a; dsimp only at h
  generalize hE3 : num 2 s2 k2 = a at h; obtain ⟨x3, s3, k3⟩ := a; dsimp only at h
  generalize hE4 : lit [32] s3 k3 = a at h; obtain ⟨s4, k4⟩ := a; dsimp only at h
  generalize hE5 : mon s4 k4 = a at h; obtain ⟨x5, s5, k5⟩ := a; dsimp only at h
  generalize hE6 : lit [32] s5 k5 = a at h; obtain ⟨s6, k6⟩ := a; dsimp only at h
  generalize hE7 : num 4 s6 k6 = a at h; obtain ⟨x7, s7, k7⟩ := a; dsimp only at h
  generalize hE8 : lit [32] s7 k7 = a at h; obtain ⟨s8, k8⟩ := a; dsimp only at h
  generalize hE9 : clk s8 k8 = a at h; obtain ⟨x9, s9, k9⟩ := a; dsimp only at h
  generalize hE10 : lit gmt s9 k9 = a at h; obtain ⟨s10, k10⟩ := a; dsimp only at h
  obtain ⟨rfl, rfl, hv, hw, rfl⟩ := done_inv h
  obtain ⟨rfl, rfl⟩ := lit_inv hE10
  obtain ⟨rfl, r0, r1, rfl⟩ := clk_inv hE9
  obtain ⟨rfl, rfl⟩ := lit_inv hE8
  obtain ⟨rfl, t7, l7, a7, rfl, rfl⟩ := num_inv hE7
  obtain ⟨rfl, rfl⟩ := lit_inv hE6
  obtain ⟨rfl, m0, m1, rfl⟩ := mon_inv hE5
  obtain ⟨rfl, rfl⟩ := lit_inv hE4
  obtain ⟨rfl, t3, l3, a3, rfl, rfl⟩ := num_inv hE3
  obtain ⟨rfl, rfl⟩ := lit_inv hE2
  obtain ⟨-, w0, w1, rfl⟩ := week_inv hE1
  obtain ⟨e7, -, -⟩ := pad4_val l7 a7
  obtain ⟨e3, -, -⟩ := pad2_val l3 a3
  obtain ⟨g1, g2, -, -, -⟩ := form_of hv r0 r1
  refine ⟨g1, .inl ?_⟩
  rw [g2, hw]
  unfold f0
  rw [e7, e3]
  simp [nm]
theorem y2_mod {y : Int} (h0 : 0 ≤ y) (h1 : y < 100) : y2 y % 100 = y ∧ 1970 ≤ y2 y ∧ y2 y < 2070 := by unfold y2; split <;> omega
theorem p1_inv {s : List UInt8} {v : Int} (h : p1 s = (v, 0)) : IsForm s v := by
  unfold p1 at h
  dsimp only at h
  generalize hE1 : week true s true = a at h; obtain ⟨x1, s1, k1⟩ := a; dsimp only at h
  generalize hE2 : lit [44, 32] s1 k1 = a at h; obtain ⟨s2, k2⟩ := a; dsimp only at h
  generalize hE3 : num 2 s2 k2 = a at h; obtain ⟨x3, s3, k3⟩ := a; dsimp only at h
  generalize hE4 : lit [45] s3 k3 = a at h; obtain ⟨s4, k4⟩ := a; dsimp only at h
  generalize hE5 : mon s4 k4 = a at h; obtain ⟨x5, s5, k5⟩ := a; dsimp only at h
  generalize hE6 : lit [45] s5 k5 = a at h; obtain ⟨s6, k6⟩ := a; dsimp only at h
  generalize hE7 : num 2 s6 k6 = a at h; obtain ⟨x7, s7, k7⟩ := a; dsimp only at h
  generalize hE8 : lit [32] s7 k7 = a at h; obtain ⟨s8, k8⟩ := a; dsimp only at h
  generalize hE9 : clk s8 k8 = a at h; obtain ⟨x9, s9, k9⟩ := a; dsimp only at h
  generalize hE10 : lit gmt s9 k9 = a at h; obtain ⟨s10, k10⟩ := a; dsimp only at h
  obtain ⟨rfl, rfl, hv, hw, rfl⟩ := done_inv h
  obtain ⟨rfl, rfl⟩ := lit_inv hE10
  obtain ⟨rfl, r0, r1, rfl⟩ := clk_inv hE9
  obtain ⟨rfl, rfl⟩ := lit_inv hE8
  obtain ⟨rfl, t7, l7, a7, rfl, rfl⟩ := num_inv hE7
  obtain ⟨rfl, rfl⟩ := lit_inv hE6
  obtain ⟨rfl, m0, m1, rfl⟩ := mon_inv hE5
  obtain ⟨rfl, rfl⟩ := lit_inv hE4
  obtain ⟨rfl, t3, l3, a3, rfl, rfl⟩ := num_inv hE3
  obtain ⟨rfl, rfl⟩ := lit_inv hE2
  obtain ⟨-, w0, w1, rfl⟩ := week_inv hE1
  obtain ⟨e7, q0, q1⟩ := pad2_val l7 a7
  obtain ⟨e3, -, -⟩ := pad2_val l3 a3
  obtain ⟨z1, z2, z3⟩ := y2_mod q0 q1
  obtain ⟨g1, -, g2, -, g3⟩ := form_of hv r0 r1
  refine ⟨g1, .inr (.inl ⟨by rw [g3]; exact z3, ?_⟩)⟩
  rw [g2 z3, hw]
  unfold f1
  rw [z1, e7, e3]
  simp [nm]
theorem day2_inv {s s' : List UInt8} {v : Int} {ok : Bool} (h : day2 s ok = (v, s', true)) : ok = true ∧ s = dd2 v ++ s' := by
  unfold day2 at h
  split at h
  · generalize hE1 : lit [32] s ok = a at h; obtain ⟨s1, k1⟩ := a; dsimp only at h
    obtain ⟨rfl, t, l, a, rfl, rfl⟩ := num_inv h
    obtain ⟨rfl, rfl⟩ := lit_inv hE1
    obtain ⟨e1, b0, b1⟩ := one_val l a
    refine ⟨rfl, ?_⟩
    unfold dd2
    rw [if_pos b1]
    rw [show [32, dgt (val t)] = [32] ++ [dgt (val t)] from rfl, e1]
    simp
  · generalize hE1 : num 2 s ok = a at h; obtain ⟨x1, s1, k1⟩ := a; dsimp only at h
    simp only [Prod.mk.injEq, Bool.and_eq_true, Bool.not_eq_true', decide_eq_false_iff_not] at h
    obtain ⟨rfl, rfl, rfl, g⟩ := h
    obtain ⟨rfl, t, l, a, rfl, rfl⟩ := num_inv hE1
    obtain ⟨e1, b0, b1⟩ := pad2_val l a
    refine ⟨rfl, ?_⟩
    unfold dd2
    rw [if_neg g, e1]
theorem p2_inv {s : List UInt8} {v : Int} (h : p2 s = (v, 0)) : IsForm s v := by
  unfold p2 at h
  dsimp only at h
  generalize hE1 : week false s true = a at h; obtain ⟨x1, s1, k1⟩ := a; dsimp only at h
  generalize hE2 : lit [32] s1 k1 = a at h; obtain ⟨s2, k2⟩ := a; dsimp only at h
  generalize hE5 : mon s2 k2 = a at h; obtain ⟨x5, s5, k5⟩ := a; dsimp only at h
  generalize hE6 : lit [32] s5 k5 = a at h; obtain ⟨s6, k6⟩ := a; dsimp only at h
  generalize hE3 : day2 s6 k6 = a at h; obtain ⟨x3, s3, k3⟩ := a; dsimp only at h
  generalize hE4 : lit [32] s3 k3 = a at h; obtain ⟨s4, k4⟩ := a; dsimp only at h
  generalize hE9 : clk s4 k4 = a at h; obtain ⟨x9, s9, k9⟩ := a; dsimp only at h
  generalize hE8 : lit [32] s9 k9 = a at h; obtain ⟨s8, k8⟩ := a; dsimp only at h
  generalize hE7 : num 4 s8 k8 = a at h; obtain ⟨x7, s7, k7⟩ := a; dsimp only at h
  obtain ⟨rfl, rfl, hv, hw, rfl⟩ := done_inv h
  obtain ⟨rfl, t7, l7, a7, rfl, rfl⟩ := num_inv hE7
  obtain ⟨rfl, rfl⟩ := lit_inv hE8
  obtain ⟨rfl, r0, r1, rfl⟩ := clk_inv hE9
  obtain ⟨rfl, rfl⟩ := lit_inv hE4
  obtain ⟨rfl, rfl⟩ := day2_inv hE3
  obtain ⟨rfl, rfl⟩ := lit_inv hE6
  obtain ⟨rfl, m0, m1, rfl⟩ := mon_inv hE5
  obtain ⟨rfl, rfl⟩ := lit_inv hE2
  obtain ⟨-, w0, w1, rfl⟩ := week_inv hE1
  obtain ⟨e7, -, -⟩ := pad4_val l7 a7
  obtain ⟨g1, -, -, g2, -⟩ := form_of hv r0 r1
  refine ⟨g1, .inr (.inr ?_)⟩
  rw [g2, hw]
  unfold f2
  rw [e7]
  simp [nm]
theorem dparse_inv {s : List UInt8} {v : Int} (h : dparse s = (v, 0)) : IsForm s v := by
  unfold dparse at h
  split at h
  · exact p0_inv h
  · split at h
    · exact p1_inv h
    · exact p2_inv h
theorem dparse_two (s : List UInt8) : (dparse s).2 = 0 ∨ dparse s = (0, 20) := by
  unfold dparse p0 p1 p2
  split
  · exact done_two ..
  · split
    · exact done_two ..
    · exact done_two ..
/- the other way: a form is read -/
theorem done_ok {n : Int} (h0 : 0 ≤ n) (h1 : n ≤ 2932896) (r : Int) : doneV (wd n : Int) (cY n) (cM n) (cD n) r [] true = (n * 86400 + r, 0) := by
  obtain ⟨c1, c2⟩ := civ h0 h1
  unfold doneV
  rw [if_pos ⟨rfl, rfl, c1, by rw [c2, wd_int]⟩, c2]
theorem nm_comma : ∀ i : Fin 7, ((wk3 i.val).all (· != 44) = true) ∧ (wk3 i.val).length = 3 ∧ ((wkN i.val).all (· != 44) = true) ∧ 6 ≤ (wkN i.val).length ∧ (wkN i.val).length ≤ 9 := by decide
theorem idx_app : ∀ (l r : List UInt8), l.all (· != 44) = true → (l ++ 44 :: r).findIdx? (· == 44) = some l.length
  | [], r, _ => by simp [List.findIdx?_cons]
  | a :: l, r, h => by
    simp only [List.all_cons, Bool.and_eq_true, bne_iff_ne] at h
    have h1 : (a == 44) = false := beq_eq_false_iff_ne.2 h.1
    rw [List.cons_append, List.findIdx?_cons, h1, idx_app l r h.2]
    simp
theorem p0_form {n r : Int} (h0 : 0 ≤ n) (h1 : n ≤ 2932896) (r0 : 0 ≤ r) (r1 : r < 86400) : p0 (f0 (wd n) (cY n) (cM n) (cD n) r) = (n * 86400 + r, 0) := by
  obtain ⟨c1, c2⟩ := civ h0 h1
  obtain ⟨a1, a2, a3, a4, a5, a6⟩ := id c1
  have hl := Cal.len_bd (cY n) (cM n)
  have hd := done_ok h0 h1 r
  unfold p0 f0
  simp only [List.append_assoc]
  rw [week3_app _ _ _ (wd_lt n)]; dsimp only
  rw [lit_app]; dsimp only
  rw [num_app _ _ _ 2 rfl (pad2_all _)]; dsimp only
  rw [lit_app]; dsimp only
  rw [mon_app _ _ _ a3 a4]; dsimp only
  rw [lit_app]; dsimp only
  rw [num_app _ _ _ 4 rfl (pad4_all _)]; dsimp only
  rw [lit_app]; dsimp only
  rw [clk_app _ _ _ r0 r1]; dsimp only
  have hg : lit gmt gmt true = ([], true) := by have := lit_app gmt [] true; simpa using this
  rw [hg]; dsimp only
  rw [val_pad2 (by omega) (by omega), val_pad4 (by omega) (by omega)]
  exact hd
theorem p1_form {n r : Int} (h0 : 0 ≤ n) (h1 : n ≤ 2932896) (r0 : 0 ≤ r) (r1 : r < 86400) (hy : cY n < 2070) : p1 (f1 (wd n) (cY n) (cM n) (cD n) r) = (n * 86400 + r, 0) := by
  obtain ⟨c1, c2⟩ := civ h0 h1
  obtain ⟨a1, a2, a3, a4, a5, a6⟩ := id c1
  have hl := Cal.len_bd (cY n) (cM n)
  have hd := done_ok h0 h1 r
  have hy2 : y2 (cY n % 100) = cY n := by unfold y2; split <;> omega
  unfold p1 f1
  simp only [List.append_assoc]
  rw [weekN_app _ _ _ (wd_lt n)]; dsimp only
  rw [lit_app]; dsimp only
  rw [num_app _ _ _ 2 rfl (pad2_all _)]; dsimp only
  rw [lit_app]; dsimp only
  rw [mon_app _ _ _ a3 a4]; dsimp only
  rw [lit_app]; dsimp only
  rw [num_app _ _ _ 2 rfl (pad2_all _)]; dsimp only
  rw [lit_app]; dsimp only
  rw [clk_app _ _ _ r0 r1]; dsimp only
  have hg : lit gmt gmt true = ([], true) := by have := lit_app gmt [] true; simpa using this
  rw [hg]; dsimp only
  rw [val_pad2 (n := cD n) (by omega) (by omega), val_pad2 (n := cY n % 100) (by omega) (by omega), hy2]
  exact hd
theorem dgt_ne32 (n : Int) : dgt n ≠ 32 := by
  intro h
  have := dgt_nat n
  rw [h] at this
  simp at this
  omega
theorem day2_app (d : Int) (s : List UInt8) (ok : Bool) (h0 : 1 ≤ d) (h1 : d ≤ 31) : day2 (dd2 d ++ s) ok = (d, s, ok) := by
  unfold day2 dd2
  by_cases h : d < 10
  · rw [if_pos h]
    have hp : [32].isPrefixOf ([32, dgt d] ++ s) = true := by simp [List.isPrefixOf]
    rw [if_pos hp]
    rw [show [32, dgt d] ++ s = [32] ++ ([dgt d] ++ s) by simp, lit_app]
    dsimp only
    rw [num_app _ _ _ 1 rfl (by simp [dgt_isD]), val_one (by omega) h]
  · rw [if_neg h]
    have hp : ¬ [32].isPrefixOf (pad2 d ++ s) = true := by
      simp [List.isPrefixOf, pad2]
      exact fun e => dgt_ne32 _ e.symm
    rw [if_neg hp, num_app _ _ _ 2 rfl (pad2_all _)]
    dsimp only
    rw [val_pad2 (by omega) (by omega)]
    simp [h]
theorem p2_form {n r : Int} (h0 : 0 ≤ n) (h1 : n ≤ 2932896) (r0 : 0 ≤ r) (r1 : r < 86400) : p2 (f2 (wd n) (cY n) (cM n) (cD n) r) = (n * 86400 + r, 0) := by
  obtain ⟨c1, c2⟩ := civ h0 h1
  obtain ⟨a1, a2, a3, a4, a5, a6⟩ := id c1
  have hl := Cal.len_bd (cY n) (cM n)
  have hd := done_ok h0 h1 r
  unfold p2 f2
  simp only [List.append_assoc]
  rw [week3_app _ _ _ (wd_lt n)]; dsimp only
  rw [lit_app]; dsimp only
  rw [mon_app _ _ _ a3 a4]; dsimp only
  rw [lit_app]; dsimp only
  rw [day2_app _ _ _ a5 (by omega)]; dsimp only
  rw [lit_app]; dsimp only
  rw [clk_app _ _ _ r0 r1]; dsimp only
  rw [lit_app]; dsimp only
  have hg : num 4 (pad4 (cY n)) true = (val (pad4 (cY n)), [], true) := by have := num_app (pad4 (cY n)) [] true 4 rfl (pad4_all _); simpa using this
  rw [hg]; dsimp only
  rw [val_pad4 (by omega) (by omega)]
  exact hd
theorem day_bd {v : Int} (h : inR v) : 0 ≤ v / 86400 ∧ v / 86400 ≤ 2932896 ∧ 0 ≤ v % 86400 ∧ v % 86400 < 86400 ∧ v / 86400 * 86400 + v % 86400 = v := by
  unfold inR at h; omega
theorem comma0 (i : Nat) (hi : i < 7) (r : List UInt8) : comma (wk3 i ++ [44, 32] ++ r) = 3 := by
  obtain ⟨a, b, -⟩ := nm_comma ⟨i, hi⟩
  unfold comma
  rw [show wk3 i ++ [44, 32] ++ r = wk3 i ++ 44 :: ([32] ++ r) by simp, idx_app _ _ a]
  simp [b]
theorem comma1 (i : Nat) (hi : i < 7) (r : List UInt8) : 3 < comma (wkN i ++ [44, 32] ++ r) := by
  obtain ⟨-, -, a, b, -⟩ := nm_comma ⟨i, hi⟩
  unfold comma
  rw [show wkN i ++ [44, 32] ++ r = wkN i ++ 44 :: ([32] ++ r) by simp, idx_app _ _ a]
  simp
  dsimp only at b
  omega
theorem dgt_ne44 (n : Int) : dgt n ≠ 44 := by
  intro h
  have := dgt_nat n
  rw [h] at this
  simp at this
  omega
theorem moN_comma : ∀ i : Fin 13, (moN i.val).all (· != 44) = true := by decide
theorem comma2 (i : Nat) (hi : i < 7) (y m d r : Int) (hm : m.toNat < 13) : comma (f2 i y m d r) = -1 := by
  have hn : (f2 i y m d r).all (· != 44) = true := by
    unfold f2 dd2 hms pad2 pad4
    have h1 := (nm_comma ⟨i, hi⟩).1
    have h2 := moN_comma ⟨m.toNat, hm⟩
    dsimp only at h1 h2
    split <;> simp only [List.all_append, h1, h2, Bool.and_true, Bool.true_and] <;> simp [dgt_ne44]
  unfold comma
  have : (f2 i y m d r).findIdx? (· == 44) = none := by
    rw [List.findIdx?_eq_none_iff]
    intro x hx
    have := List.all_eq_true.1 hn x hx
    simpa using this
  rw [this]
theorem dparse_form0 {v : Int} (h : inR v) : dparse (form0 v) = (v, 0) := by
  obtain ⟨h0, h1, h2, h3, h4⟩ := day_bd h
  have hc : comma (form0 v) = 3 := by
    unfold form0 f0
    simp only [List.append_assoc]
    have := comma0 (wd (v / 86400)) (wd_lt _)
    simp only [List.append_assoc] at this
    exact this _
  unfold dparse
  rw [if_pos hc]
  unfold form0
  rw [p0_form h0 h1 h2 h3, h4]
theorem dparse_form1 {v : Int} (h : inR v) (hy : cY (v / 86400) < 2070) : dparse (form1 v) = (v, 0) := by
  obtain ⟨h0, h1, h2, h3, h4⟩ := day_bd h
  have e : form1 v = f1 (wd (v / 86400)) (cY (v / 86400)) (cM (v / 86400)) (cD (v / 86400)) (v % 86400) := by unfold form1; rw [if_pos hy]
  have hc : 3 < comma (form1 v) := by
    rw [e]
    unfold f1
    simp only [List.append_assoc]
    have := comma1 (wd (v / 86400)) (wd_lt _)
    simp only [List.append_assoc] at this
    exact this _
  unfold dparse
  rw [if_neg (by omega), if_pos hc, e, p1_form h0 h1 h2 h3 hy, h4]
theorem dparse_form2 {v : Int} (h : inR v) : dparse (form2 v) = (v, 0) := by
  obtain ⟨h0, h1, h2, h3, h4⟩ := day_bd h
  obtain ⟨⟨a1, a2, a3, a4, a5, a6⟩, -⟩ := civ h0 h1
  have hc : comma (form2 v) = -1 := comma2 _ (wd_lt _) _ _ _ _ (by omega)
  unfold dparse
  rw [if_neg (by omega), if_neg (by omega)]
  unfold form2
  rw [p2_form h0 h1 h2 h3, h4]
theorem dparse_of {s : List UInt8} {v : Int} (h : IsForm s v) : dparse s = (v, 0) := by
  obtain ⟨h0, rfl | ⟨hy, rfl⟩ | rfl⟩ := h
  · exact dparse_form0 h0
  · exact dparse_form1 h0 hy
  · exact dparse_form2 h0
end Dt
end Go.Proofs.YtgkphjbcaidcpaaGreatDoor
