/- Joined texts: The words of a line as strings.FieldsFunc gives them. Plain laws. The conditions stand in each line. -/
import Derived.Test.YtgkphjbcaidcpaaGreatDoorM6
import Derived.Lib.FieldsP
import Derived.Lib.FieldsU
set_option linter.unusedVariables false
set_option linter.unusedSimpArgs false
namespace Go.Proofs.YtgkphjbcaidcpaaGreatDoor
open Go.RowKit

namespace Ac
theorem wordsA_skip (x : T) (hx : ∀ b ∈ x, blk b = false) : ∀ (acc r : T), wordsA acc (x ++ r) = wordsA (acc ++ x) r := by
  induction x with
  | nil => intro acc r; simp
  | cons b x ih =>
    intro acc r
    rw [List.cons_append, wordsA, if_neg (by rw [hx b (by simp)]; decide), ih (fun c hc => hx c (by simp [hc])), List.append_assoc]; rfl
def blkR (x : Nat) : Bool := x == 32 || x == 9
theorem dec_low (s : ByteArray) (i : Nat) : ((s.get! i).toNat < 128 ∧ Utf8.decode s i = ((s.get! i).toNat, 1)) ∨ (128 ≤ (Utf8.decode s i).1 ∧ ∀ j, j < (Utf8.decode s i).2 → 128 ≤ (s.get! (i + j)).toNat) := by
  rw [Lib.decode_at]
  have hj : ∀ j, j < 4 → (j = 0 ∨ j = 1 ∨ j = 2 ∨ j = 3) := by intro j; omega
  generalize h0 : (s.get! i).toNat = b0
  generalize h1 : (s.get! (i + 1)).toNat = b1
  generalize h2 : (s.get! (i + 2)).toNat = b2
  generalize h3 : (s.get! (i + 3)).toNat = b3
  have key : ∀ k, k ≤ 4 → 128 ≤ b0 → (1 < k → 128 ≤ b1) → (2 < k → 128 ≤ b2) → (3 < k → 128 ≤ b3) → ∀ j, j < k → 128 ≤ (s.get! (i + j)).toNat := by
    intro k hk q0 q1 q2 q3 j hjk
    rcases hj j (by omega) with rfl | rfl | rfl | rfl
    · rw [Nat.add_zero, h0]; exact q0
    · rw [h1]; exact q1 hjk
    · rw [h2]; exact q2 hjk
    · rw [h3]; exact q3 hjk
  unfold Lib.decodeN
  by_cases c0 : b0 < 128
  · left; exact ⟨c0, by rw [if_pos c0]⟩
  · right
    rw [if_neg c0]
    repeat' split
    all_goals refine ⟨by simp only; omega, ?_⟩
    all_goals simp only
    all_goals apply key <;> omega
theorem blkR_byte {b : UInt8} : blkR b.toNat = blk b := by
  unfold blkR blk
  rw [Bool.eq_iff_iff]
  simp only [Bool.or_eq_true, beq_iff_eq]
  constructor
  · rintro (h | h)
    · exact .inl (UInt8.toNat_inj.1 (by simpa using h))
    · exact .inr (UInt8.toNat_inj.1 (by simpa using h))
  · rintro (rfl | rfl) <;> decide
theorem blk_high {b : UInt8} (h : 128 ≤ b.toNat) : blk b = false := by
  rw [← blkR_byte]; unfold blkR; rw [Bool.or_eq_false_iff, beq_eq_false_iff_ne, beq_eq_false_iff_ne]; omega
theorem getD_get (s : ByteArray) (i : Nat) : s.data.toList.getD i 0 = s.get! i := by
  cases s with
  | mk d =>
    show d.toList.getD i 0 = d[i]!
    by_cases h : i < d.size
    · rw [getElem!_pos d i h]; simp [List.getD, h]
    · rw [getElem!_neg d i h]; simp [List.getD, h]; rfl
theorem get_drop (s : ByteArray) {i : Nat} (h : i < s.size) : s.data.toList.drop i = s.get! i :: s.data.toList.drop (i + 1) := by
  have hl : i < s.data.toList.length := by rw [← Lib.size_eq]; exact h
  rw [List.drop_eq_getElem_cons hl]
  congr 1
  rw [← getD_get, List.getD_eq_getElem?_getD, List.getElem?_eq_getElem hl]; rfl
theorem take_high (s : ByteArray) (i k : Nat) (hk : i + k ≤ s.size) (h : ∀ j, j < k → 128 ≤ (s.get! (i + j)).toNat) : ∀ b ∈ (s.data.toList.drop i).take k, blk b = false := by
  intro b hb
  obtain ⟨j, hj, rfl⟩ := List.mem_iff_getElem.1 hb
  rw [List.length_take] at hj
  rw [List.getElem_take, List.getElem_drop]
  have hl : i + j < s.data.toList.length := by rw [← Lib.size_eq]; omega
  have := h j (by omega)
  rw [← getD_get, List.getD_eq_getElem?_getD, List.getElem?_eq_getElem hl] at this
  exact blk_high this
theorem spans_words (s : ByteArray) : ∀ (f pos : Nat) (st : Option Nat) (acc : List (Nat × Nat)), s.size ≤ pos + f → pos ≤ s.size → (∀ a, st = some a → a < pos) →
    acc.map (fun p => Lib.pieceU s.data.toList p.1 p.2) ++ wordsA (Lib.openPiece s.data.toList st pos) (s.data.toList.drop pos) = (Lib.closeSpans s (Lib.spansFromP blkR s f pos st acc)).map (fun p => Lib.pieceU s.data.toList p.1 p.2)
  | 0, pos, st, acc, h, hp, hst => by
    obtain rfl : pos = s.size := by omega
    have hd : s.data.toList.drop s.size = [] := List.drop_eq_nil_of_le (by rw [← Lib.size_eq]; exact Nat.le_refl _)
    rw [hd, wordsA]
    cases st with
    | none => simp [Lib.spansFromP, Lib.closeSpans, Lib.openPiece]
    | some a =>
      have := Lib.pieceU_ne s.data.toList a s.size (hst a rfl) (by rw [← Lib.size_eq]; exact Nat.le_refl _)
      simp [Lib.spansFromP, Lib.closeSpans, Lib.openPiece, this]
  | f + 1, pos, st, acc, h, hp, hst => by
    by_cases hlt : pos < s.size
    · have hw := Lib.width_pos s pos
      have hwn : pos + (Utf8.decode s pos).2 ≤ s.size := by
        have := Lib.decodeN_le_n' (s.size - pos) (s.get! pos).toNat (s.get! (pos + 1)).toNat (s.get! (pos + 2)).toNat (s.get! (pos + 3)).toNat (by omega)
        rw [← Lib.decode_at] at this
        omega
      simp only [Lib.spansFromP, if_pos hlt]
      rcases dec_low s pos with ⟨hb, hd⟩ | ⟨hb, hd⟩
      · rw [hd] at hw hwn ⊢
        simp only at hw hwn ⊢
        rw [blkR_byte, get_drop s hlt, wordsA]
        cases hbk : blk (s.get! pos) with
        | true =>
          simp only [if_true]
          cases st with
          | none =>
            have ih := spans_words s f (pos + 1) none acc (by omega) hwn (fun a h => by cases h)
            simpa [Lib.openPiece] using ih
          | some a =>
            have hpn := Lib.pieceU_ne s.data.toList a pos (hst a rfl) (by rw [← Lib.size_eq]; omega)
            have ih := spans_words s f (pos + 1) none (acc ++ [(a, pos)]) (by omega) hwn (fun a h => by cases h)
            simpa [Lib.openPiece, hpn] using ih
        | false =>
          simp only [Bool.false_eq_true, if_false]
          have e1 : [s.get! pos] = (s.data.toList.drop pos).take 1 := by rw [get_drop s hlt]; rfl
          cases st with
          | none =>
            have ih := spans_words s f (pos + 1) (some pos) acc (by omega) hwn (fun a h => by cases h; omega)
            have e : ([] : List UInt8) ++ (s.data.toList.drop pos).take 1 = Lib.pieceU s.data.toList pos (pos + 1) := by
              unfold Lib.pieceU
              rw [List.nil_append, Nat.add_sub_cancel_left]
            simp only [Lib.openPiece] at ih ⊢
            rw [e1, e]
            exact ih
          | some a =>
            have ih := spans_words s f (pos + 1) (some a) acc (by omega) hwn (fun b h => by cases h; have := hst a rfl; omega)
            simp only [Lib.openPiece] at ih ⊢
            rw [e1, Lib.pieceU_grow _ _ _ _ (Nat.le_of_lt (hst a rfl))]
            exact ih
      · have hnb : blkR (Utf8.decode s pos).1 = false := by unfold blkR; rw [Bool.or_eq_false_iff, beq_eq_false_iff_ne, beq_eq_false_iff_ne]; omega
        rw [hnb]
        simp only [Bool.false_eq_true, if_false]
        generalize (Utf8.decode s pos).2 = k at *
        have hsk := wordsA_skip ((s.data.toList.drop pos).take k) (take_high s pos k hwn hd)
        have hdd : s.data.toList.drop pos = (s.data.toList.drop pos).take k ++ s.data.toList.drop (pos + k) := by rw [← List.drop_drop, List.take_append_drop]
        cases st with
        | none =>
          have ih := spans_words s f (pos + k) (some pos) acc (by omega) hwn (fun a h => by cases h; omega)
          have e : ([] : List UInt8) ++ (s.data.toList.drop pos).take k = Lib.pieceU s.data.toList pos (pos + k) := by
            unfold Lib.pieceU
            rw [List.nil_append, Nat.add_sub_cancel_left]
          simp only [Lib.openPiece] at ih ⊢
          rw [hdd, hsk, e]
          exact ih
        | some a =>
          have ih := spans_words s f (pos + k) (some a) acc (by omega) hwn (fun b h => by cases h; have := hst a rfl; omega)
          simp only [Lib.openPiece] at ih ⊢
          rw [hdd, hsk, Lib.pieceU_grow _ _ _ _ (Nat.le_of_lt (hst a rfl))]
          exact ih
    · obtain rfl : pos = s.size := by omega
      have hd : s.data.toList.drop s.size = [] := List.drop_eq_nil_of_le (by rw [← Lib.size_eq]; exact Nat.le_refl _)
      rw [hd, wordsA, Lib.spansFromP_end _ s _ _ _ _ hlt]
      cases st with
      | none => simp [Lib.closeSpans, Lib.openPiece]
      | some a =>
        have := Lib.pieceU_ne s.data.toList a s.size (hst a rfl) (by rw [← Lib.size_eq]; exact Nat.le_refl _)
        simp [Lib.closeSpans, Lib.openPiece, this]
theorem words_eq (l : T) : (Lib.goFieldsP blkR (bs l)).map (fun x => x.data.toList) = words l := by
  have h := spans_words (bs l) (bs l).size 0 none [] (by omega) (Nat.zero_le _) (fun a h => by cases h)
  unfold Lib.goFieldsP Lib.spansOfP words
  rw [bs_data] at h
  rw [List.map_map]
  have h2 : wordsA [] l = (Lib.closeSpans (bs l) (Lib.spansFromP blkR (bs l) (bs l).size 0 none [])).map fun p => Lib.pieceU l p.1 p.2 := by simpa [Lib.openPiece] using h
  rw [h2]
  apply List.map_congr_left
  intro x _
  show ((bs l).extract x.1 x.2).data.toList = _
  rw [bs_extract, bs_data]; rfl
end Ac
end Go.Proofs.YtgkphjbcaidcpaaGreatDoor
