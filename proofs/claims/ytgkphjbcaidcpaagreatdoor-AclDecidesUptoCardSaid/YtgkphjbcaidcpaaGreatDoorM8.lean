/- Joined texts: strings.Split at one byte; the parser of networks; acl.parseNetwork; The words of a line as strings.FieldsFunc gives them. Plain laws. The conditions stand in each line. -/
import Derived.Test.YtgkphjbcaidcpaaGreatDoorM5
import Derived.Test.YtgkphjbcaidcpaaGreatDoorM7
import Derived.Lib.FieldsP
import Derived.Lib.FieldsU
set_option linter.unusedVariables false
set_option linter.unusedSimpArgs false
namespace Go.Proofs.YtgkphjbcaidcpaaGreatDoor
open Go.RowKit

set_option maxRecDepth 100000
theorem rdS_litA (w : World) (l : List (List UInt8)) (t : TypeId) (cs : Array Value) (h : cs = (strs l).toArray) : RdS (w.alloc (.cells cs t)) (some ⟨w.heap.size, 0, none⟩) l.length l := by
  subst h
  refine ⟨rfl, by simp [strs], fun _ => ⟨w.heap.size, 0, rfl, by simp, fun j u hu => ?_⟩⟩
  rw [Nat.zero_add, cell_of_row _ _ _ _ t (0, 0) (heap_alloc_new w _)]
  simpa using hu
theorem splitA_any (p : List UInt8) (c : UInt8) (w : World) (hM : MaxL w) (hs : p.length ≤ 1073741824) :
    Calls Tryz.prog 16 #[.string (bs p), .string ⟨#[c]⟩] w fun e w' => e = .returned (.slice (some ⟨w.heap.size, 0, none⟩) (Ur.splitc c p).length (Ur.splitc c p).length) ∧ RdS w' (some ⟨w.heap.size, 0, none⟩) (Ur.splitc c p).length (Ur.splitc c p) ∧ Below w.heap.size w w' := by
  obtain ⟨m, hm⟩ := hM
  refine (Tryz.strings_Split (bs p) ⟨#[c]⟩ m w (by simp; omega) hm (Nat.le_refl 1)).mono fun e w' h => ?_
  obtain ⟨rfl, rfl⟩ := h
  have hall := Lib.splitB_all ⟨#[c]⟩ (Nat.le_refl 1) 0 _ (bs p) rfl
  have hd := Lib.splitB_data ⟨#[c]⟩ 0 (Lib.countB (bs p) ⟨#[c]⟩) (bs p)
  rw [show (⟨#[c]⟩ : ByteArray).data.toList = [c] from rfl, bs_data] at hd
  have hcnt : Lib.countB (bs p) ⟨#[c]⟩ = p.count c := by
    show Lib.count (bs p).data.toList [c] = _
    rw [Lib.count_one]; rfl
  rw [Ur.lib_splitK c _ p (by rw [hcnt]; exact Nat.le_refl _)] at hd
  generalize Lib.splitB ⟨#[c]⟩ 0 (Lib.countB (bs p) ⟨#[c]⟩) (bs p) = L at *
  have hl : Lib.countB (bs p) ⟨#[c]⟩ + 1 = (Ur.splitc c p).length := by rw [← hall, ← hd, List.length_map]
  rw [hl]
  refine ⟨rfl, ?_, (Below.refl _ _).alloc (Nat.le_refl _) _⟩
  refine rdS_litA w _ _ _ ?_
  rw [← hd]
  unfold strs
  rw [List.map_map]
  congr 1
namespace Ac
theorem split_mem_len (c : UInt8) : ∀ (s : T), ∀ x ∈ Ur.splitc c s, x.length ≤ s.length
  | [], x, h => by simp [Ur.splitc] at h; subst h; simp
  | b :: r, x, h => by
    unfold Ur.splitc at h
    have ih := split_mem_len c r
    split at h
    · rcases List.mem_cons.1 h with rfl | h
      · simp
      · have := ih x h; simp; omega
    · rcases List.mem_cons.1 h with rfl | h
      · cases hs : Ur.splitc c r with
        | nil => exact absurd hs (Ur.splitc_ne c r)
        | cons y t => have := ih y (by rw [hs]; simp); simp; omega
      · have := ih x (List.mem_of_mem_tail h); simp; omega
theorem octs_snoc : ∀ (l : List T) (x : T), octs (l ++ [x]) = (octs l).bind fun a => (num x 3 255).map fun n => a ++ [n]
  | [], x => by
    show (match num x 3 255 with | some n => (octs []).map (n :: ·) | none => none) = _
    cases num x 3 255 <;> rfl
  | s :: r, x => by
    rw [List.cons_append, octs, octs]
    cases num s 3 255 with
    | none => rfl
    | some n =>
      simp only
      rw [octs_snoc r x]
      cases octs r with
      | none => rfl
      | some a => cases num x 3 255 <;> rfl
theorem octs_bad : ∀ (l : List T) (x : T), x ∈ l → num x 3 255 = none → octs l = none
  | s :: r, x, h, hn => by
    rw [octs]
    rcases List.mem_cons.1 h with rfl | h
    · rw [hn]
    · cases num s 3 255 with
      | none => rfl
      | some n => simp only; rw [octs_bad r x h hn]; rfl
theorem octs_len : ∀ (l : List T) (a : List Nat), octs l = some a → a.length = l.length
  | [], a, h => by cases h; rfl
  | s :: r, a, h => by
    rw [octs] at h
    cases hn : num s 3 255 with
    | none => rw [hn] at h; cases h
    | some n =>
      rw [hn] at h
      simp only at h
      cases hr : octs r with
      | none => rw [hr] at h; cases h
      | some b => rw [hr] at h; cases h; simp [octs_len r b hr]
theorem octs_lt : ∀ (l : List T) (a : List Nat), octs l = some a → ∀ n ∈ a, n < 256
  | [], a, h => by cases h; simp
  | s :: r, a, h => by
    rw [octs] at h
    cases hn : num s 3 255 with
    | none => rw [hn] at h; cases h
    | some n =>
      rw [hn] at h
      simp only at h
      cases hr : octs r with
      | none => rw [hr] at h; cases h
      | some b =>
        rw [hr] at h; cases h
        intro m hm
        rcases List.mem_cons.1 hm with rfl | hm
        · have := (num_yes (by omega) hn).2.2.2.1; omega
        · exact octs_lt r b hr m hm
theorem addr_snoc (l : List Nat) (n : Nat) : addr (l ++ [n]) = (addr l % 16777216) * 256 + n := by unfold addr; rw [List.foldl_append]; rfl
theorem addr_foldl (l : List Nat) : ∀ v, v < 4294967296 → (∀ n ∈ l, n < 256) → l.foldl (fun v n => (v % 16777216) * 256 + n) v < 4294967296 := by
  induction l with
  | nil => intro v h _; exact h
  | cons n r ih => intro v h hn; rw [List.foldl_cons]; exact ih _ (by have := hn n (by simp); omega) (fun m hm => hn m (by simp [hm]))
theorem addr_lt {l : List Nat} (h : ∀ n ∈ l, n < 256) : addr l < 4294967296 := addr_foldl l 0 (by omega) h
theorem net4_some {a : T} {b : Nat} {x : Nat × Nat} (h : net4 a b = some x) : x.2 = b ∧ x.1 < 4294967296 := by
  unfold net4 at h
  cases ho : octs (Ur.splitc 46 a) with
  | none => rw [ho] at h; cases h
  | some l =>
    rw [ho] at h
    simp only at h
    split at h
    · cases h; exact ⟨rfl, addr_lt (octs_lt _ _ ho)⟩
    · cases h
theorem net_lt {s : T} {n b : Nat} (h : net s = some (n, b)) : n < 4294967296 ∧ b ≤ 32 := by
  unfold net at h
  split at h
  · cases hb : num (Ur.cutB 47 s) 2 32 with
    | none => rw [hb] at h; cases h
    | some k =>
      rw [hb] at h
      simp only at h
      obtain ⟨h1, h2⟩ := net4_some h
      have := (num_yes (by omega) hb).2.2.2.1
      simp only at h1 h2
      omega
  · obtain ⟨h1, h2⟩ := net4_some h
    simp only at h1 h2
    omega
/-- The first k parts: the program's number so far. -/
def octK (l : List T) (k : Nat) (v : Nat) : Prop := ∃ a, octs (l.take k) = some a ∧ v = addr a
theorem octK_zero (l : List T) : octK l 0 0 := ⟨[], rfl, rfl⟩
theorem octK_lt {l : List T} {k v : Nat} (h : octK l k v) : v < 4294967296 := by
  obtain ⟨a, h1, rfl⟩ := h
  exact addr_lt (octs_lt _ _ h1)
theorem octK_succ {l : List T} {k v n : Nat} {x : T} (h : octK l k v) (hx : l[k]? = some x) (hn : num x 3 255 = some n) : octK l (k + 1) ((v % 16777216) * 256 + n) := by
  obtain ⟨a, h1, rfl⟩ := h
  refine ⟨a ++ [n], ?_, (addr_snoc a n).symm⟩
  rw [take_snoc? hx, octs_snoc, h1, hn]; rfl
theorem octK_all {l : List T} {v : Nat} (h : octK l l.length v) : ∃ a, octs l = some a ∧ v = addr a := by
  obtain ⟨a, h1, h2⟩ := h
  rw [List.take_length] at h1
  exact ⟨a, h1, h2⟩
theorem net4_good {s : T} {b v : Nat} {l : List T} (hl : Ur.splitc 46 s = l) (h : octK l l.length v) : net4 s b = if l.length = 4 then some (v, b) else none := by
  obtain ⟨a, h1, rfl⟩ := octK_all h
  unfold net4
  rw [hl, h1]
  simp only
  rw [octs_len l a h1]
theorem net4_bad {s : T} {b : Nat} {l : List T} {x : T} {k : Nat} (hl : Ur.splitc 46 s = l) (hx : l[k]? = some x) (hn : num x 3 255 = none) : net4 s b = none := by
  unfold net4
  rw [hl, octs_bad l x (mem_of_get? hx) hn]
end Ac
end Go.Proofs.YtgkphjbcaidcpaaGreatDoor
set_option linter.unusedVariables false
set_option linter.unusedSimpArgs false
namespace Go.Proofs.YtgkphjbcaidcpaaGreatDoor
open Go.RowKit

set_option maxRecDepth 100000
theorem or_oct (v n : Nat) (hv : v < 16777216) (hn : n < 256) : bits .or .u32 ((v : Int) * 256) (n : Int) = ((v * 256 + n : Nat) : Int) := by
  have h := bits_join .u32 32 (by decide) (fun n h0 h1 => by rw [IntKind.wrap_u32]; omega) 8 ((v : Int) * 256) (n : Int) (by omega) (by omega) (by omega) (by omega) (by omega) (by omega)
  rw [h]; omega
theorem Ac.mask_shl (b : Nat) (hb : b ≤ 32) : (4294967295 * (2 : Int) ^ (32 - b)) % 4294967296 = (Ac.mask b : Int) := by
  have key : (4294967295 * 2 ^ (32 - b)) % 4294967296 = Ac.mask b := by
    unfold Ac.mask
    rw [Nat.shiftLeft_eq]
    have h1 : 2 ^ b * 2 ^ (32 - b) = 4294967296 := by rw [← Nat.pow_add, show b + (32 - b) = 32 by omega]
    have h2 := Nat.two_pow_pos b
    have h3 := Nat.two_pow_pos (32 - b)
    have h4 : (2 ^ b - 1) * 2 ^ (32 - b) = 4294967296 - 2 ^ (32 - b) := by rw [Nat.sub_mul, Nat.one_mul, h1]
    rw [h4]
    have h6 : 2 ^ (32 - b) ≤ 4294967296 := by rw [← h1]; exact Nat.le_mul_of_pos_left _ h2
    generalize 2 ^ (32 - b) = P at *
    omega
  rw [← key, Int.natCast_emod, Int.natCast_mul, Int.natCast_pow]
  rfl
set_option maxHeartbeats 4000000 in
theorem parseNetwork_any (s : List UInt8) (w : World) (hM : MaxL w) (hl : s.length ≤ 4194304) :
    Calls Tryz.prog 50 #[.string (bs s)] w fun e w' => PaOut Ac.srcT s w e w' := by
  have hC := cut_any s 47 w hM (by omega)
  have hlen := cut_len 47 s
  have HRV := Lib.hid fun n b => repV_src (v := s) (n := n) (b := b)
  unfold PaOut
  rw [Ac.good_src]
  have hE : Ac.net s = if Ur.hasC 47 s = true then (match Ac.num (Ur.cutB 47 s) 2 32 with | some b => Ac.net4 (Ur.cutA 47 s) b | none => none) else Ac.net4 (Ur.cutA 47 s) 32 := by
    unfold Ac.net
    cases hc : Ur.hasC 47 s with
    | true => rfl
    | false => rw [Ur.cutA_no hc]; rfl
  generalize repV Ac.srcT s = RV at *
  generalize Ac.net s = R at *
  generalize Ur.hasC 47 s = has at *
  generalize Ur.cutA 47 s = x at *
  generalize Ur.cutB 47 s = y at *
  have hS := fun W (hb : Below w.heap.size w W) => splitA_any x 46 W (maxl_b hM hb) (by omega)
  have HSL : Hid (∀ p ∈ Ur.splitc 46 x, p.length ≤ 4194304) := Lib.hid fun p hp => by have := Ac.split_mem_len 46 x p hp; omega
  have hpnl : (Ur.splitc 46 x).length ≤ 4194305 := by rw [Ur.splitc_len]; have := List.count_le_length (a := (46 : UInt8)) (l := x); omega
  generalize hPS : Ur.splitc 46 x = PS at *
  cases has with
  | false =>
    rw [if_neg (by simp)] at hE
    have HGOOD : Hid (∀ v, Ac.octK PS PS.length v → R = if PS.length = 4 then some (v, 32) else none) := Lib.hid fun v h => by rw [hE]; exact Ac.net4_good hPS h
    have HBAD : Hid (∀ p k, PS[k]? = some p → Ac.num p 3 255 = none → R.isSome = false) := Lib.hid fun p k h1 h2 => by rw [hE, Ac.net4_bad hPS h1 h2]; rfl
    clear hE hPS
    have hmk := Ac.mask_shl 32 (by omega)
    go_enter Tryz.func50, Tryz.ntmps50
    go_wp2_with fail
    refine hC.mono ?_
    rintro e w1 ⟨rfl, hb1⟩
    clear hC
    go_wp2_with fail
    refine (hS _ hb1).mono ?_
    rintro e w2 ⟨rfl, hR, hb2⟩
    replace hb1 := bnext hb1 hb2 hb1.size
    generalize w1.heap.size = g at *
    clear hb2 hS
    generalize hPN : PS.length = pn at *
    have HPN := Lib.hid hPN
    clear hPN
    go_wp2
    go_loopw [11, 35] (fun u t wr => ∃ k v : Nat, k ≤ pn ∧ t = .int .i64 (k : Int) ∧ u = .int .u32 (v : Int) ∧ Hid (Ac.octK PS k v) ∧ Below w.heap.size w wr ∧ Below w2.heap.size w2 wr) (fun _ t _ => pn - (intOf t).toNat)
    case atStart => exact ⟨0, 0, by omega, rfl, rfl, Lib.hid (Ac.octK_zero _), hb1, Below.refl _ _⟩
    case round =>
      obtain ⟨k, v, hk, rfl, rfl, HO, hbr, hbr2⟩ := hrel
      by_cases hlt : k < pn
      · obtain ⟨g', o, p, hA, hg, HX, hc⟩ := (hR.step hbr2).at_ hlt
        injection hA with hA
        injection hA with hA1 hA2
        subst hA1 hA2
        simp only [Nat.zero_add] at hc
        have hpl := HSL.out p (mem_of_get? HX.out)
        cases hn : Ac.num p 3 255 with
        | none =>
          have h3 := fun W => acnum_none (s := p) W hn (by omega) (by omega) (by omega)
          have HR := Lib.hid (HBAD.out p k HX.out hn)
          clear hn HBAD HGOOD HO HRV HX
          go_wp2_with fail
          refine (h3 _).mono ?_
          rintro e w3 ⟨⟨v2, rfl⟩, hb3⟩
          go_wp2
          go_ret2
          rw [HR.out]; exact ⟨⟨_, rfl, fun h => by cases h⟩, bnext hbr hb3 hbr.size⟩
        | some n =>
          have h3 := fun W => acnum_yes (s := p) W hn (by omega) (by omega) (by omega)
          have HO2 := Lib.hid (Ac.octK_succ HO.out HX.out hn)
          have hv := Ac.octK_lt HO.out
          have hn2 := (Ac.num_yes (by omega) hn).2.2.2.1
          have hor : bits .or .u32 ((v : Int) % 16777216 * 256) (n : Int) = ((v % 16777216 * 256 + n : Nat) : Int) := by
            rw [show ((v : Int) % 16777216) = ((v % 16777216 : Nat) : Int) by omega]; exact or_oct (v % 16777216) n (by omega) (by omega)
          have HOR := Lib.hid hor
          clear hor
          have hv1 : ((v : Int) * 256) % 4294967296 = ((v % 16777216 : Nat) : Int) * 256 := by omega
          have hnw : (n : Int) % 4294967296 = (n : Int) := by omega
          clear hn HBAD HGOOD HRV HX HO
          go_wp2_with fail
          refine (h3 _).mono ?_
          rintro e w3 ⟨rfl, hb3⟩
          go_wp2
          go_roundw
          case rel => exact ⟨k + 1, v % 16777216 * 256 + n, by omega, by go_num, by rw [HOR.out], HO2, bnext hbr hb3 hbr.size, bnext hbr2 hb3 hbr2.size⟩
          case measure => simp [intOf]; omega
      · obtain rfl : k = pn := by omega
        have hv := Ac.octK_lt HO.out
        have HG := Lib.hid (HGOOD.out v HO.out)
        clear HBAD HGOOD HO
        by_cases h4 : k = 4
        · subst h4
          have HRV2 := Lib.hid (HRV.out v 32 (by rw [HG.out, if_pos rfl]))
          have HR : Hid (R.isSome = true) := Lib.hid (by rw [HG.out, if_pos rfl]; rfl)
          clear HRV HG
          go_wp2
          go_ret2
          rw [HR.out]; exact ⟨⟨_, rfl, fun _ => HRV2.out.symm⟩, hbr⟩
        · have HR : Hid (R.isSome = false) := Lib.hid (by rw [HG.out, if_neg h4]; rfl)
          have g4 : ((k : Int) == 4) = false := by rw [beq_eq_false_iff_ne]; omega
          clear HRV HG
          go_wp2
          go_ret2
          rw [HR.out]; exact ⟨⟨_, rfl, fun h => by cases h⟩, hbr⟩
  | true =>
    rw [if_pos rfl] at hE
    cases hy : Ac.num y 2 32 with
    | none =>
      rw [hy] at hE
      have HR : Hid (R.isSome = false) := Lib.hid (by rw [hE]; rfl)
      have hN := fun W => acnum_none (s := y) W hy (by omega) (by omega) (by omega)
      clear hE hy HRV hPS hS
      go_enter Tryz.func50, Tryz.ntmps50
      go_wp2_with fail
      refine hC.mono ?_
      rintro e w1 ⟨rfl, hb1⟩
      clear hC
      go_wp2_with fail
      refine (hN _).mono ?_
      rintro e w9 ⟨⟨v, rfl⟩, hb9⟩
      replace hb1 := bnext hb1 hb9 hb1.size
      go_wp2
      go_ret2
      rw [HR.out]; exact ⟨⟨_, rfl, fun h => by cases h⟩, hb1⟩
    | some bb =>
      rw [hy] at hE
      simp only at hE
      have hN := fun W => acnum_yes (s := y) W hy (by omega) (by omega) (by omega)
      have hbb := (Ac.num_yes (by omega) hy).2.2.2.1
      clear hy
      have HGOOD : Hid (∀ v, Ac.octK PS PS.length v → R = if PS.length = 4 then some (v, bb) else none) := Lib.hid fun v h => by rw [hE]; exact Ac.net4_good hPS h
      have HBAD : Hid (∀ p k, PS[k]? = some p → Ac.num p 3 255 = none → R.isSome = false) := Lib.hid fun p k h1 h2 => by rw [hE, Ac.net4_bad hPS h1 h2]; rfl
      clear hE hPS
      have hmk := Ac.mask_shl bb (by omega)
      go_enter Tryz.func50, Tryz.ntmps50
      go_wp2_with fail
      refine hC.mono ?_
      rintro e w0 ⟨rfl, hb0⟩
      clear hC
      go_wp2_with fail
      refine (hN _).mono ?_
      rintro e w1 ⟨rfl, hb1⟩
      replace hb1 := bnext hb0 hb1 hb0.size
      clear hb0 hN
      go_wp2_with fail
      refine (hS _ hb1).mono ?_
      rintro e w2 ⟨rfl, hR, hb2⟩
      replace hb1 := bnext hb1 hb2 hb1.size
      generalize w1.heap.size = g at *
      clear hb2 hS
      generalize hPN : PS.length = pn at *
      have HPN := Lib.hid hPN
      clear hPN
      go_wp2
      go_loopw [11, 35] (fun u t wr => ∃ k v : Nat, k ≤ pn ∧ t = .int .i64 (k : Int) ∧ u = .int .u32 (v : Int) ∧ Hid (Ac.octK PS k v) ∧ Below w.heap.size w wr ∧ Below w2.heap.size w2 wr) (fun _ t _ => pn - (intOf t).toNat)
      case atStart => exact ⟨0, 0, by omega, rfl, rfl, Lib.hid (Ac.octK_zero _), hb1, Below.refl _ _⟩
      case round =>
        obtain ⟨k, v, hk, rfl, rfl, HO, hbr, hbr2⟩ := hrel
        by_cases hlt : k < pn
        · obtain ⟨g', o, p, hA, hg, HX, hc⟩ := (hR.step hbr2).at_ hlt
          injection hA with hA
          injection hA with hA1 hA2
          subst hA1 hA2
          simp only [Nat.zero_add] at hc
          have hpl := HSL.out p (mem_of_get? HX.out)
          cases hn : Ac.num p 3 255 with
          | none =>
            have h3 := fun W => acnum_none (s := p) W hn (by omega) (by omega) (by omega)
            have HR := Lib.hid (HBAD.out p k HX.out hn)
            clear hn HBAD HGOOD HO HRV HX
            go_wp2_with fail
            refine (h3 _).mono ?_
            rintro e w3 ⟨⟨v2, rfl⟩, hb3⟩
            go_wp2
            go_ret2
            rw [HR.out]; exact ⟨⟨_, rfl, fun h => by cases h⟩, bnext hbr hb3 hbr.size⟩
          | some n =>
            have h3 := fun W => acnum_yes (s := p) W hn (by omega) (by omega) (by omega)
            have HO2 := Lib.hid (Ac.octK_succ HO.out HX.out hn)
            have hv := Ac.octK_lt HO.out
            have hn2 := (Ac.num_yes (by omega) hn).2.2.2.1
            have hor : bits .or .u32 ((v : Int) % 16777216 * 256) (n : Int) = ((v % 16777216 * 256 + n : Nat) : Int) := by
              rw [show ((v : Int) % 16777216) = ((v % 16777216 : Nat) : Int) by omega]; exact or_oct (v % 16777216) n (by omega) (by omega)
            have HOR := Lib.hid hor
            clear hor
            have hv1 : ((v : Int) * 256) % 4294967296 = ((v % 16777216 : Nat) : Int) * 256 := by omega
            have hnw : (n : Int) % 4294967296 = (n : Int) := by omega
            clear hn HBAD HGOOD HRV HX HO
            go_wp2_with fail
            refine (h3 _).mono ?_
            rintro e w3 ⟨rfl, hb3⟩
            go_wp2
            go_roundw
            case rel => exact ⟨k + 1, v % 16777216 * 256 + n, by omega, by go_num, by rw [HOR.out], HO2, bnext hbr hb3 hbr.size, bnext hbr2 hb3 hbr2.size⟩
            case measure => simp [intOf]; omega
        · obtain rfl : k = pn := by omega
          have hv := Ac.octK_lt HO.out
          have HG := Lib.hid (HGOOD.out v HO.out)
          clear HBAD HGOOD HO
          by_cases h4 : k = 4
          · subst h4
            have HRV2 := Lib.hid (HRV.out v bb (by rw [HG.out, if_pos rfl]))
            have HR : Hid (R.isSome = true) := Lib.hid (by rw [HG.out, if_pos rfl]; rfl)
            clear HRV HG
            go_wp2
            go_ret2
            rw [HR.out]; exact ⟨⟨_, rfl, fun _ => HRV2.out.symm⟩, hbr⟩
          · have HR : Hid (R.isSome = false) := Lib.hid (by rw [HG.out, if_neg h4]; rfl)
            have g4 : ((k : Int) == 4) = false := by rw [beq_eq_false_iff_ne]; omega
            clear HRV HG
            go_wp2
            go_ret2
            rw [HR.out]; exact ⟨⟨_, rfl, fun h => by cases h⟩, hbr⟩
end Go.Proofs.YtgkphjbcaidcpaaGreatDoor
set_option linter.unusedVariables false
set_option linter.unusedSimpArgs false
namespace Go.Proofs.YtgkphjbcaidcpaaGreatDoor
open Go.RowKit

namespace Ac
theorem wordsA_skip (x : T) (hx : ∀ b ∈ x, blk b = false) : ∀ (acc r : T), wordsA acc (x ++ r) = wordsA (acc ++ x) r := by
  induction x with
  | nil => intro acc r; simp
  | cons b x ih =>
    intro acc r
    rw [List.cons_append, wordsA, if_neg (by rw [hx b (by simp)]; decide), ih (fun c hc => hx c (by simp [hc])), List.append_assoc]; rfl
def blkR (x : Nat) : Bool := x == 32 || x == 9
theorem dec_low (s : ByteArray) (i : Nat) : ((s.get! i).toNat < 128 ∧ Utf8.decode s i = ((s.get! i).toNat, 1)) ∨ (128 ≤ (Utf8.decode s i).1 ∧ ∀ j, j < (Utf8.decode s i).2 → 128 ≤ (s.get! (i + j)).toNat) := by
  rw [Lib.decode_at]
  have hj : ∀ j, j < 4 → (j = 0 ∨ j = 1 ∨ j = 2 ∨ j = 3) := by intro j; omega
  generalize h0 : (s.get! i).toNat = b0
  generalize h1 : (s.get! (i + 1)).toNat = b1
  generalize h2 : (s.get! (i + 2)).toNat = b2
  generalize h3 : (s.get! (i + 3)).toNat = b3
  have key : ∀ k, k ≤ 4 → 128 ≤ b0 → (1 < k → 128 ≤ b1) → (2 < k → 128 ≤ b2) → (3 < k → 128 ≤ b3) → ∀ j, j < k → 128 ≤ (s.get! (i + j)).toNat := by
    intro k hk q0 q1 q2 q3 j hjk
    rcases hj j (by omega) with rfl | rfl | rfl | rfl
    · rw [Nat.add_zero, h0]; exact q0
    · rw [h1]; exact q1 hjk
    · rw [h2]; exact q2 hjk
    · rw [h3]; exact q3 hjk
  unfold Lib.decodeN
  by_cases c0 : b0 < 128
  · left; exact ⟨c0, by rw [if_pos c0]⟩
  · right
    rw [if_neg c0]
    repeat' split
    all_goals refine ⟨by simp only; omega, ?_⟩
    all_goals simp only
    all_goals apply key <;> omega
theorem blkR_byte {b : UInt8} : blkR b.toNat = blk b := by
  unfold blkR blk
  rw [Bool.eq_iff_iff]
  simp only [Bool.or_eq_true, beq_iff_eq]
  constructor
  · rintro (h | h)
    · exact .inl (UInt8.toNat_inj.1 (by simpa using h))
    · exact .inr (UInt8.toNat_inj.1 (by simpa using h))
  · rintro (rfl | rfl) <;> decide
theorem blk_high {b : UInt8} (h : 128 ≤ b.toNat) : blk b = false := by
  rw [← blkR_byte]; unfold blkR; rw [Bool.or_eq_false_iff, beq_eq_false_iff_ne, beq_eq_false_iff_ne]; omega
theorem getD_get (s : ByteArray) (i : Nat) : s.data.toList.getD i 0 = s.get! i := by
  cases s with
  | mk d =>
    show d.toList.getD i 0 = d[i]!
    by_cases h : i < d.size
    · rw [getElem!_pos d i h]; simp [List.getD, h]
    · rw [getElem!_neg d i h]; simp [List.getD, h]; rfl
theorem get_drop (s : ByteArray) {i : Nat} (h : i < s.size) : s.data.toList.drop i = s.get! i :: s.data.toList.drop (i + 1) := by
  have hl : i < s.data.toList.length := by rw [← Lib.size_eq]; exact h
  rw [List.drop_eq_getElem_cons hl]
  congr 1
  rw [← getD_get, List.getD_eq_getElem?_getD, List.getElem?_eq_getElem hl]; rfl
theorem take_high (s : ByteArray) (i k : Nat) (hk : i + k ≤ s.size) (h : ∀ j, j < k → 128 ≤ (s.get! (i + j)).toNat) : ∀ b ∈ (s.data.toList.drop i).take k, blk b = false := by
  intro b hb
  obtain ⟨j, hj, rfl⟩ := List.mem_iff_getElem.1 hb
  rw [List.length_take] at hj
  rw [List.getElem_take, List.getElem_drop]
  have hl : i + j < s.data.toList.length := by rw [← Lib.size_eq]; omega
  have := h j (by omega)
  rw [← getD_get, List.getD_eq_getElem?_getD, List.getElem?_eq_getElem hl] at this
  exact blk_high this
theorem spans_words (s : ByteArray) : ∀ (f pos : Nat) (st : Option Nat) (acc : List (Nat × Nat)), s.size ≤ pos + f → pos ≤ s.size → (∀ a, st = some a → a < pos) →
    acc.map (fun p => Lib.pieceU s.data.toList p.1 p.2) ++ wordsA (Lib.openPiece s.data.toList st pos) (s.data.toList.drop pos) = (Lib.closeSpans s (Lib.spansFromP blkR s f pos st acc)).map (fun p => Lib.pieceU s.data.toList p.1 p.2)
  | 0, pos, st, acc, h, hp, hst => by
    obtain rfl : pos = s.size := by omega
    have hd : s.data.toList.drop s.size = [] := List.drop_eq_nil_of_le (by rw [← Lib.size_eq]; exact Nat.le_refl _)
    rw [hd, wordsA]
    cases st with
    | none => simp [Lib.spansFromP, Lib.closeSpans, Lib.openPiece]
    | some a =>
      have := Lib.pieceU_ne s.data.toList a s.size (hst a rfl) (by rw [← Lib.size_eq]; exact Nat.le_refl _)
      simp [Lib.spansFromP, Lib.closeSpans, Lib.openPiece, this]
  | f + 1, pos, st, acc, h, hp, hst => by
    by_cases hlt : pos < s.size
    · have hw := Lib.width_pos s pos
      have hwn : pos + (Utf8.decode s pos).2 ≤ s.size := by
        have := Lib.decodeN_le_n' (s.size - pos) (s.get! pos).toNat (s.get! (pos + 1)).toNat (s.get! (pos + 2)).toNat (s.get! (pos + 3)).toNat (by omega)
        rw [← Lib.decode_at] at this
        omega
      simp only [Lib.spansFromP, if_pos hlt]
      rcases dec_low s pos with ⟨hb, hd⟩ | ⟨hb, hd⟩
      · rw [hd] at hw hwn ⊢
        simp only at hw hwn ⊢
        rw [blkR_byte, get_drop s hlt, wordsA]
        cases hbk : blk (s.get! pos) with
        | true =>
          simp only [if_true]
          cases st with
          | none =>
            have ih := spans_words s f (pos + 1) none acc (by omega) hwn (fun a h => by cases h)
            simpa [Lib.openPiece] using ih
          | some a =>
            have hpn := Lib.pieceU_ne s.data.toList a pos (hst a rfl) (by rw [← Lib.size_eq]; omega)
            have ih := spans_words s f (pos + 1) none (acc ++ [(a, pos)]) (by omega) hwn (fun a h => by cases h)
            simpa [Lib.openPiece, hpn] using ih
        | false =>
          simp only [Bool.false_eq_true, if_false]
          have e1 : [s.get! pos] = (s.data.toList.drop pos).take 1 := by rw [get_drop s hlt]; rfl
          cases st with
          | none =>
            have ih := spans_words s f (pos + 1) (some pos) acc (by omega) hwn (fun a h => by cases h; omega)
            have e : ([] : List UInt8) ++ (s.data.toList.drop pos).take 1 = Lib.pieceU s.data.toList pos (pos + 1) := by
              unfold Lib.pieceU
              rw [List.nil_append, Nat.add_sub_cancel_left]
            simp only [Lib.openPiece] at ih ⊢
            rw [e1, e]
            exact ih
          | some a =>
            have ih := spans_words s f (pos + 1) (some a) acc (by omega) hwn (fun b h => by cases h; have := hst a rfl; omega)
            simp only [Lib.openPiece] at ih ⊢
            rw [e1, Lib.pieceU_grow _ _ _ _ (Nat.le_of_lt (hst a rfl))]
            exact ih
      · have hnb : blkR (Utf8.decode s pos).1 = false := by unfold blkR; rw [Bool.or_eq_false_iff, beq_eq_false_iff_ne, beq_eq_false_iff_ne]; omega
        rw [hnb]
        simp only [Bool.false_eq_true, if_false]
        generalize (Utf8.decode s pos).2 = k at *
        have hsk := wordsA_skip ((s.data.toList.drop pos).take k) (take_high s pos k hwn hd)
        have hdd : s.data.toList.drop pos = (s.data.toList.drop pos).take k ++ s.data.toList.drop (pos + k) := by rw [← List.drop_drop, List.take_append_drop]
        cases st with
        | none =>
          have ih := spans_words s f (pos + k) (some pos) acc (by omega) hwn (fun a h => by cases h; omega)
          have e : ([] : List UInt8) ++ (s.data.toList.drop pos).take k = Lib.pieceU s.data.toList pos (pos + k) := by
            unfold Lib.pieceU
            rw [List.nil_append, Nat.add_sub_cancel_left]
          simp only [Lib.openPiece] at ih ⊢
          rw [hdd, hsk, e]
          exact ih
        | some a =>
          have ih := spans_words s f (pos + k) (some a) acc (by omega) hwn (fun b h => by cases h; have := hst a rfl; omega)
          simp only [Lib.openPiece] at ih ⊢
          rw [hdd, hsk, Lib.pieceU_grow _ _ _ _ (Nat.le_of_lt (hst a rfl))]
          exact ih
    · obtain rfl : pos = s.size := by omega
      have hd : s.data.toList.drop s.size = [] := List.drop_eq_nil_of_le (by rw [← Lib.size_eq]; exact Nat.le_refl _)
      rw [hd, wordsA, Lib.spansFromP_end _ s _ _ _ _ hlt]
      cases st with
      | none => simp [Lib.closeSpans, Lib.openPiece]
      | some a =>
        have := Lib.pieceU_ne s.data.toList a s.size (hst a rfl) (by rw [← Lib.size_eq]; exact Nat.le_refl _)
        simp [Lib.closeSpans, Lib.openPiece, this]
theorem words_eq (l : T) : (Lib.goFieldsP blkR (bs l)).map (fun x => x.data.toList) = words l := by
  have h := spans_words (bs l) (bs l).size 0 none [] (by omega) (Nat.zero_le _) (fun a h => by cases h)
  unfold Lib.goFieldsP Lib.spansOfP words
  rw [bs_data] at h
  rw [List.map_map]
  have h2 : wordsA [] l = (Lib.closeSpans (bs l) (Lib.spansFromP blkR (bs l) (bs l).size 0 none [])).map fun p => Lib.pieceU l p.1 p.2 := by simpa [Lib.openPiece] using h
  rw [h2]
  apply List.map_congr_left
  intro x _
  show ((bs l).extract x.1 x.2).data.toList = _
  rw [bs_extract, bs_data]; rfl
end Ac
end Go.Proofs.YtgkphjbcaidcpaaGreatDoor
