/- Joined texts: bytes.Contains; the boundary; the reference's occurs. The conditions stand in each line. -/
import Derived.Test.YtcaekfebnhedpaaGreatDoorM10
import Derived.Test.YtcaekfebnhedpaaGreatDoorM29
import Derived.Test.YtcaekfebnhedpaaGreatDoorM33
import Derived.Lib.IndexMore
set_option linter.unusedVariables false
set_option linter.unusedSimpArgs false
namespace Go.Proofs.YtcaekfebnhedpaaGreatDoor
open Go.RowKit

set_option maxRecDepth 100000
namespace Rg
theorem occ_at (s b : List UInt8) (i : Nat) : Lib.occAt b s i = atB s b i := by
  unfold Lib.occAt atB
  rw [Bool.eq_iff_iff, List.isPrefixOf_iff_prefix, beq_iff_eq]
  constructor
  · rintro ⟨t, h⟩
    rw [← h, List.take_left]
  · intro h
    exact ⟨(b.drop i).drop s.length, (congrArg (· ++ (b.drop i).drop s.length) h.symm).trans (List.take_append_drop _ _)⟩
theorem occ_contains {s b : List UInt8} (hs : 1 ≤ s.length) : Lib.contains b s = occB s b := by
  have hlen : ∀ i, atB s b i = true → i + s.length ≤ b.length := fun i h => by
    have := congrArg List.length (eq_of_beq h)
    rw [List.length_take, List.length_drop] at this; omega
  unfold Lib.contains occB
  rcases Lib.index_spec b s with ⟨e, h⟩ | ⟨i, e, h1, h2, _⟩
  · rw [e, decide_eq_false (by omega)]
    symm
    rw [List.any_eq_false]
    intro k hk
    rw [List.mem_range] at hk
    have := h k (by omega)
    rw [occ_at] at this
    rw [this]; decide
  · rw [e, decide_eq_true (by omega)]
    symm
    rw [List.any_eq_true]
    rw [occ_at] at h2
    have := hlen i h2
    exact ⟨i, by rw [List.mem_range]; omega, h2⟩
theorem occ_no {s b : List UInt8} (h : ∀ i, i + s.length ≤ b.length → atB s b i = false) : occB s b = false := by
  unfold occB
  rw [List.any_eq_false]
  intro k hk
  rw [List.mem_range] at hk
  rw [h k (by omega)]; decide
theorem occ_yes {s b : List UInt8} {i : Nat} (hi : i + s.length ≤ b.length) (h : atB s b i = true) : occB s b = true := by
  unfold occB
  rw [List.any_eq_true]
  exact ⟨i, by rw [List.mem_range]; omega, h⟩
end Rg
/-- A piece of a slice of bytes. -/
theorem RdB.sub {w : World} {g o n : Nat} {l : List UInt8} (h : RdB w (some ⟨g, o, none⟩) n l) {i k : Nat} (hik : i + k ≤ n) (hk : 0 < k) : RdB w (some ⟨g, o + i, none⟩) k ((l.drop i).take k) := by
  refine ⟨by rw [List.length_take, List.length_drop, h.1]; omega, by rw [List.length_map, List.length_take, List.length_drop, h.1]; omega, fun _ => ?_⟩
  obtain ⟨g', o', e, hg, hc⟩ := h.2.2 (by omega)
  injection e with e
  injection e with e1 e2
  subst e1 e2
  refine ⟨g, o + i, rfl, hg, fun j u hu => ?_⟩
  have hj : j < k := by
    have := (List.getElem?_eq_some_iff.1 hu).1
    rw [List.length_map, List.length_take] at this; omega
  rw [Nat.add_assoc]
  refine hc (i + j) u ?_
  rw [List.getElem?_map, List.getElem?_take, if_pos hj, List.getElem?_drop] at hu
  rw [List.getElem?_map]; exact hu
theorem ints_of_bytes (l : List UInt8) : Lib.bytesOf (l.map fun b => (b.toNat : Int)) = l := by
  unfold Lib.bytesOf
  rw [List.map_map]
  have h : ((fun n : Int => UInt8.ofNat n.toNat) ∘ fun b : UInt8 => (b.toNat : Int)) = id := by funext b; simp
  rw [h, List.map_id]
theorem RdB.ints {w : World} {A : Addr} {n : Nat} {l : List UInt8} (h : RdB w (some A) n l) (i : Nat) (hi : i < n) : w.cell? (A.add i) = some (.int .u8 ((l.map fun b => (b.toNat : Int)).getD i 0)) := by
  obtain ⟨g, o, e, _, hc⟩ := h.2.2 (by omega)
  injection e with e
  subst e
  have hi' : i < l.length := by rw [h.1]; exact hi
  rw [addr_add, hc i (bytV l[i]) (by simp [hi'])]
  simp [bytV, List.getD, hi']
theorem contains_any (A A2 : Option Addr) (n c n2 c2 : Nat) (b s : List UInt8) (w : World) (hM : MaxL w) (hb : RdB w A n b) (hs : RdB w A2 n2 s) (hn : n ≤ 1073741824) (hnc : n ≤ c) (h2 : 2 ≤ n2) (h3 : n2 ≤ 1073741824) :
    Calls Tryz.prog 63 #[.slice A n c, .slice A2 n2 c2] w fun e w' => e = .returned (.bool (Rg.occB s b)) ∧ Below w.heap.size w w' := by
  have hsl := hs.1
  by_cases hlt : n < n2
  · refine (Tryz.bytes_Contains_longer A A2 n c n2 c2 w h2 hlt (by omega)).mono fun e w' h => ⟨?_, by rw [h.2]; exact Below.refl _ _⟩
    rw [h.1, Rg.occ_no (fun i hi => absurd hi (by rw [hb.1, hs.1]; omega))]
  · obtain ⟨m, hm⟩ := hM
    obtain ⟨g, o, rfl, -, -⟩ := hb.2.2 (by omega)
    obtain ⟨g2, o2, rfl, -, -⟩ := hs.2.2 (by omega)
    have hr : ∀ l : List UInt8, ∀ x ∈ l.map (fun b => (b.toNat : Int)), 0 ≤ x ∧ x < 256 := fun l x hx => by
      obtain ⟨b, _, rfl⟩ := List.mem_map.1 hx
      have := b.toNat_lt
      omega
    refine (Tryz.bytes_Contains_at ⟨g, o, none⟩ ⟨g2, o2, none⟩ n c n2 c2 (b.map fun b => (b.toNat : Int)) (s.map fun b => (b.toNat : Int)) m w (by rw [List.length_map]; exact hb.1) (by rw [List.length_map]; exact hs.1) (hr b) (hr s) (fun i hi => hb.ints i hi) (fun i hi => hs.ints i hi) hnc (by omega) (by omega) hm).mono fun e w' h => ⟨?_, ?_⟩
    · rw [h.1, ints_of_bytes, ints_of_bytes, Rg.occ_contains (by omega)]
    · obtain ⟨q, h2⟩ := h.2
      rw [h2]; exact below_drewN (Below.refl _ _) q
set_option maxHeartbeats 2000000 in
theorem boundary_any (A : Option Addr) (n c : Nat) (b : List UInt8) (w : World) (ht : Tab w) (hM : MaxL w) (hb : RdB w A n b) (hn : n ≤ 4194304) (hnc : n ≤ c) :
    Calls Tryz.prog 41 #[.slice A n c] w fun e w' => e = .returned (.string (bs (Rg.markT (Rg.markN b)))) ∧ Below w.heap.size w w' := by
  obtain ⟨m1, m2, m3⟩ := Rg.mark_spec (b := b) (by rw [hb.1]; exact hn)
  have H2 := Lib.hid m2
  have H3 := Lib.hid m3
  generalize Rg.markN b = N at *
  clear m2 m3
  have hcv := conv_sb
  go_enter Tryz.func41, Tryz.ntmps41
  go_wp2
  go_loopw [3] (fun t wr => ∃ k : Nat, k ≤ N ∧ t = .int .i64 (k : Int) ∧ Below w.heap.size w wr) (fun t _ => N - (intOf t).toNat)
  case atStart => exact ⟨0, by omega, rfl, Below.refl _ _⟩
  case round =>
    obtain ⟨k, hk, rfl, hbr⟩ := hrel
    have hC := itoa_nat k wr (by omega) (tab_b ht hbr)
    have hL := dec_len (k := k) (by omega)
    have HD : Hid (Rg.markT k = Rg.conT ++ Lib.decDigits k) := Lib.hid rfl
    have H2' : Hid (k = N → Rg.occB (Rg.dashT ++ Rg.markT k) b = false) := Lib.hid fun h => by subst h; exact H2.out
    have H3' : Hid (k ≠ N → Rg.occB (Rg.dashT ++ Rg.markT k) b = true) := Lib.hid fun h => H3.out k (by omega)
    have HE : Hid (k = N → Rg.markT N = Rg.markT k) := Lib.hid fun h => by rw [h]
    rw [HD.out] at H2' H3' HE
    clear H2 H3 HD
    generalize Lib.decDigits k = D at *
    go_wp2_with fail
    refine hC.mono ?_
    rintro e w1 ⟨rfl, hb1⟩
    clear hC
    have hbA := bnext hbr hb1 hbr.size
    have hcv : ∀ W : World, (convert 9 32 (.string (⟨#[45, 45]⟩ ++ (⟨#[99, 111, 110, 100, 117, 105, 116, 45]⟩ ++ bs D)))).run Tryz.prog W = .ok (.slice (some ⟨W.heap.size, 0, none⟩) (Rg.dashT ++ (Rg.conT ++ D)).length (grownCap W (Rg.dashT ++ (Rg.conT ++ D)).length 0 5)) (Lib.bytesWorld W 5 (bs (Rg.dashT ++ (Rg.conT ++ D)))) := fun W => by
      rw [show (⟨#[45, 45]⟩ : ByteArray) = bs Rg.dashT from rfl, show (⟨#[99, 111, 110, 100, 117, 105, 116, 45]⟩ : ByteArray) = bs Rg.conT from rfl, bs_append, bs_append]
      exact conv_sb _ W
    have hM1 := maxl_b hM hbA
    have hbb := hb.step hbA
    have HL2 : Hid ((Rg.dashT ++ (Rg.conT ++ D)).length = 10 + D.length) := Lib.hid (by simp; omega)
    have hrow := bytesWorld_row w1 5 (Rg.dashT ++ (Rg.conT ++ D))
    have hbel := bytesWorld_below w1 5 (bs (Rg.dashT ++ (Rg.conT ++ D)))
    have hsz : w1.heap.size < (Lib.bytesWorld w1 5 (bs (Rg.dashT ++ (Rg.conT ++ D)))).heap.size := by rw [Lib.bytesWorld_size]; omega
    have hcw := hcv w1
    clear hcv
    have hrd := hrow.rd hsz
    have hlen : (Rg.dashT ++ (Rg.conT ++ D)).length ≤ 30 := by rw [HL2.out]; omega
    have hlen2 : 2 ≤ (Rg.dashT ++ (Rg.conT ++ D)).length := by rw [HL2.out]; omega
    generalize Lib.bytesWorld w1 5 (bs (Rg.dashT ++ (Rg.conT ++ D))) = w2 at *
    generalize (Rg.dashT ++ (Rg.conT ++ D)).length = L2 at *
    have HS : Hid (∃ S, S = Rg.dashT ++ (Rg.conT ++ D)) := Lib.hid ⟨_, rfl⟩
    have hC := fun c2 => contains_any A (some ⟨w1.heap.size, 0, none⟩) n c L2 c2 b (Rg.dashT ++ (Rg.conT ++ D)) w2 (maxl_b hM1 hbel) (hbb.step hbel) hrd (by omega) hnc hlen2 (by omega)
    have hbB := bnext hbA hbel hbA.size
    clear hrd hrow HS HL2 hb hbb
    by_cases hkN : k = N
    · have hf := H2'.out hkN
      have HE2 := Lib.hid (HE.out hkN)
      simp only [hf] at hC
      clear H2' H3' HE hf
      go_wp2_with fail
      refine (hC _).mono ?_
      rintro e w3 ⟨rfl, hb3⟩
      clear hC
      go_wp2
      go_ret
      exact ⟨ret_str (by rw [HE2.out]; rfl), bnext hbB hb3 hbB.size⟩
    · have hf := H3'.out hkN
      simp only [hf] at hC
      clear H2' H3' HE hf
      go_wp2_with fail
      refine (hC _).mono ?_
      rintro e w3 ⟨rfl, hb3⟩
      clear hC
      go_wp2
      go_roundw
      case rel => exact ⟨k + 1, by omega, by go_num, bnext hbB hb3 hbB.size⟩
      case measure => simp [intOf]; omega
set_option maxHeartbeats 2000000 in
theorem occurs_any (A : Option Addr) (n c : Nat) (b s : List UInt8) (w : World) (hb : RdB w A n b) (hn : n ≤ 1073741824) (hnc : n ≤ c) (hc : c ≤ maxLen) (hs : 1 ≤ s.length) (hs2 : s.length ≤ 1073741824) :
    Calls Tryz.prog 48 #[.string (bs s), .slice A n c] w fun e w' => e = .returned (.bool (Rg.occB s b)) ∧ w' = w := by
  have HY : Hid (∀ k, k + s.length ≤ n → ((b.drop k).take s.length == s) = true → Rg.occB s b = true) := Lib.hid fun k h1 h2 => Rg.occ_yes (by rw [hb.1]; exact h1) h2
  have HN : Hid ((∀ i, i < n + 1 - s.length → ((b.drop i).take s.length == s) = false) → Rg.occB s b = false) := Lib.hid fun h => Rg.occ_no fun i hi => h i (by rw [hb.1] at hi; omega)
  have hc2 : (c : Int) ≤ 9223372036854775807 := by unfold maxLen at hc; omega
  clear hc
  generalize Rg.occB s b = R at *
  go_enter Tryz.func48, Tryz.ntmps48
  go_wp2
  go_loopw [5] (fun t wr => ∃ k : Nat, k ≤ n + 1 - s.length ∧ t = .int .i64 (k : Int) ∧ Hid (∀ i, i < k → ((b.drop i).take s.length == s) = false) ∧ wr = w) (fun t _ => n + 2 - (intOf t).toNat)
  case atStart => exact ⟨0, by omega, rfl, Lib.hid (by simp), rfl⟩
  case round =>
    obtain ⟨k, hk, rfl, HA, hw⟩ := hrel
    subst hw
    by_cases hle : k + s.length ≤ n
    · obtain ⟨g, o, rfl, hg, -⟩ := hb.2.2 (by omega)
      have hsub := RdB.sub hb (i := k) (k := s.length) (by omega) (by omega)
      have hcv := fun c9 => conv_bs hsub c9
      have HK : Hid (∀ h9 : ((b.drop k).take s.length == s) = false, ∀ i, i < k + 1 → ((b.drop i).take s.length == s) = false) := Lib.hid fun h9 i hi => by
        by_cases hik : i = k
        · subst hik; exact h9
        · exact HA.out i (by omega)
      have HY2 := Lib.hid (HY.out k hle)
      clear hsub hb HA HN HY
      generalize (b.drop k).take s.length = P at *
      cases hq : (P == s) with
      | true =>
        have HR := Lib.hid (HY2.out hq)
        clear HK HY2
        go_wp2
        go_ret
        exact ⟨ret_bool HR.out.symm, rfl⟩
      | false =>
        have HK2 := Lib.hid (HK.out hq)
        clear HK HY2
        go_wp2
        go_roundw
        case rel => exact ⟨k + 1, by omega, by go_num, HK2, by trivial⟩
        case measure => simp [intOf]; omega
    · have HR := Lib.hid (HN.out (fun i hi => HA.out i (by omega)))
      clear HN HY HA
      go_wp2
      go_ret
      exact ⟨ret_bool HR.out.symm, rfl⟩
end Go.Proofs.YtcaekfebnhedpaaGreatDoor
