/- tok.List and the reference's List: the elements of a list. Conditions: the length at most 2^40. -/
import Derived.Test.YtfhkgbimnfjfhaaDoorPiecesR
set_option linter.unusedVariables false
set_option linter.unusedSimpArgs false
namespace Go.Proofs.YtfhkgbimnfjfhaaDoor
open Go.RowKit

/-- The elements: the trimmed pieces that are not empty. -/
def keepE (l : List (List UInt8)) : List (List UInt8) := l.filter fun p => !p.isEmpty
theorem listL_eq (s : List UInt8) : listL s = keepE ((splitL 44 s).map trimL) := rfl
theorem keepE_snoc {l : List (List UInt8)} {k : Nat} {x : List UInt8} (h : l[k]? = some x) : keepE (l.take (k + 1)) = keepE (l.take k) ++ (if (!x.isEmpty) = true then [x] else []) := filter_snoc h
theorem keepE_le (l : List (List UInt8)) : (keepE l).length ≤ l.length := List.length_filter_le _ _
theorem pieces_len (c : UInt8) : ∀ (s : List UInt8) (q : Bool) (cur : List UInt8), (pieces c s q cur).length ≤ s.length + 1 ∧ ∀ p ∈ pieces c s q cur, p.length ≤ cur.length + s.length
  | [], q, cur => by simp [pieces]
  | [b], q, cur => by
    simp only [pieces]
    split
    · simp
    · split
      · simp
      · split <;> simp
  | b :: d :: r, q, cur => by
    have i1 := pieces_len c r q (cur ++ [b, d])
    have i2 := pieces_len c (d :: r) (!q) (cur ++ [b])
    have i3 := pieces_len c (d :: r) q []
    have i4 := pieces_len c (d :: r) q (cur ++ [b])
    simp only [pieces]
    simp only [List.length_append, List.length_cons, List.length_nil] at i1 i2 i3 i4 ⊢
    split
    · exact ⟨by have := i1.1; omega, fun p hp => by have := i1.2 p hp; omega⟩
    · split
      · exact ⟨by have := i2.1; omega, fun p hp => by have := i2.2 p hp; omega⟩
      · split
        · refine ⟨by simp only [List.length_cons]; have := i3.1; omega, fun p hp => ?_⟩
          rcases List.mem_cons.1 hp with rfl | hp
          · omega
          · have := i3.2 p hp; omega
        · exact ⟨by have := i4.1; omega, fun p hp => by have := i4.2 p hp; omega⟩
theorem split_len (c : UInt8) (s : List UInt8) : (splitL c s).length ≤ s.length + 1 := (pieces_len c s false []).1
theorem split_each (c : UInt8) (s : List UInt8) {k : Nat} {x : List UInt8} (h : (splitL c s)[k]? = some x) : x.length ≤ s.length := by
  have := (pieces_len c s false []).2 x (mem_of_get? h)
  simpa using this
theorem list_len (s : List UInt8) : (listL s).length ≤ s.length + 1 := Nat.le_trans (keepE_le _) (by rw [List.length_map]; exact split_len 44 s)
theorem list_each (s : List UInt8) {x : List UInt8} (h : x ∈ listL s) : x.length ≤ s.length := by
  obtain ⟨y, hy, rfl⟩ := List.mem_map.1 (List.mem_filter.1 h).1
  have := (pieces_len 44 s false []).2 y hy
  have := trimL_le y
  simp at *; omega
set_option maxHeartbeats 1000000 in
theorem list_own (s : List UInt8) (w : World) (hs : s.length ≤ 1099511627776) :
    Calls Tryd.prog 30 #[.string (bs s)] w fun e w' => ∃ A' n' c', e = .returned (.slice A' n' c') ∧ OwnS w' w.heap.size (.slice A' n' c') (listL s) ∧ Below w.heap.size w w' := by
  have HL : Hid (((splitL 44 s).map trimL).length ≤ s.length + 1) := Lib.hid (by rw [List.length_map]; exact split_len 44 s)
  have HF : Hid (∀ l, l = (splitL 44 s).map trimL → keepE l = listL s) := Lib.hid (fun l h => by rw [h]; rfl)
  go_enter Tryd.func30, Tryd.ntmps30
  go_wp2_with fail
  refine (split_own s 44 w hs).mono ?_
  rintro e w1 ⟨A, n, c, rfl, hS, hb1⟩
  have hrd := hS.rd
  clear hS
  generalize (splitL 44 s).map trimL = L at *
  have HF2 : Hid (keepE (L.take n) = listL s) := Lib.hid (by rw [List.take_of_length_le (by rw [hrd.1]; exact Nat.le_refl _)]; exact HF.out L rfl)
  have hnl : n ≤ s.length + 1 := by have := HL.out; rw [hrd.1] at this; exact this
  clear HF HL
  go_wp2
  go_loopw [3, 9] (fun v t wr => ∃ (k : Nat) (A' : Option Addr) (n' c' : Nat), k ≤ n ∧ t = .int .i64 k ∧ v = .slice A' n' c' ∧ OwnS wr w1.heap.size (.slice A' n' c') (keepE (L.take k)) ∧ Below w1.heap.size w1 wr) (fun _ t _ => n - (intOf t).toNat)
  case atStart => exact ⟨0, _, _, _, by omega, rfl, rfl, OwnS.nil _ _, Below.refl _ _⟩
  case round =>
    obtain ⟨k, A', n', c', hk, rfl, rfl, hown, hbr⟩ := hrel
    by_cases hlt : k < n
    · obtain ⟨g, o, x, rfl, hg, HX, hc1⟩ := (hrd.step hbr).at_ hlt
      have HS := Lib.hid (keepE_snoc HX.out)
      have HK : Hid ((keepE (L.take k)).length ≤ k) := Lib.hid (by have := keepE_le (L.take k); rw [List.length_take] at this; omega)
      clear hrd
      cases hx : (!x.isEmpty)
      · have HX2 := Lib.hid hx
        go_wp2
        go_roundw
        case rel => exact ⟨k + 1, A', n', c', by omega, by go_num, rfl, by rw [HS.out]; simp only [HX2.out, Bool.false_eq_true, if_false, List.append_nil]; exact hown, hbr⟩
        case measure => simp [intOf]; omega
      · have HX2 := Lib.hid hx
        go_wp2_with
          (at_builtin
           refine wp_appS rfl (.tmp 15) (.tmp 17) rfl w1.heap.size (.slice A' n' c') _ rfl (hown.step (alloc_below _ _)) _ 1 1 [x] rfl ?hr ?hby ?hbase ?_
           case hr => exact one_rdS' _ _ _ _ (by simp)
           case hby => have := HK.out; omega
           case hbase => have := hbr.size; simp; omega
           intro A3 n3 c3 w3 hown3 hb3 hn3)
        go_roundw
        case rel => exact ⟨k + 1, A3, n3, c3, by omega, by go_num, rfl, by rw [HS.out]; simp only [HX2.out, if_true]; exact hown3, (bnext hbr (alloc_below _ _) hbr.size).trans hb3⟩
        case measure => simp [intOf]; omega
    · obtain rfl : k = n := by omega
      go_wp2
      go_ret
      exact ⟨A', n', c', rfl, by rw [← HF2.out]; exact hown.mono hb1.size, bnext hb1 hbr hb1.size⟩
end Go.Proofs.YtfhkgbimnfjfhaaDoor
