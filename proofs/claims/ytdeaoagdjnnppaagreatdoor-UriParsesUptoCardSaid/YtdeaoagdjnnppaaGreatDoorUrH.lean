/- The reference's tidy. Conditions: the path's length at most 2^30. -/
import Derived.Test.YtdeaoagdjnnppaaGreatDoorUrC
import Derived.Test.YtdeaoagdjnnppaaGreatDoorUrR
set_option linter.unusedVariables false
set_option linter.unusedSimpArgs false
namespace Go.Proofs.YtdeaoagdjnnppaaGreatDoor
open Go.RowKit

set_option maxRecDepth 100000
/-- The piece under way at i, begun at f. -/
theorem tidy_next {p : List UInt8} {f i : Nat} (hf : f ≤ i) (hi : i < p.length) (h47 : p[i] = 47) (hs : ∀ j, f ≤ j → j < i → p[j]? ≠ some 47) : Ur.splitc 47 (p.drop f) = (p.take i).drop f :: Ur.splitc 47 (p.drop (i + 1)) := by
  have hfree : ∀ b ∈ (p.take i).drop f, b ≠ 47 := by
    intro b hb e47
    subst e47
    obtain ⟨j, hj, he⟩ := List.getElem_of_mem hb
    simp only [List.length_drop, List.length_take] at hj
    rw [List.getElem_drop, List.getElem_take] at he
    exact hs (f + j) (by omega) (by omega) (by rw [List.getElem?_eq_getElem (by omega), he])
  have e : p.drop f = (p.take i).drop f ++ 47 :: p.drop (i + 1) := by
    conv => lhs; rw [← List.take_append_drop i p]
    rw [List.drop_append, List.drop_eq_getElem_cons hi, h47]
    have h2 : f - (p.take i).length = 0 := by simp; omega
    rw [h2]; rfl
  rw [e, Ur.splitc_of hfree]
theorem tidy_last {p : List UInt8} {f : Nat} (hf : f ≤ p.length) (hs : ∀ j, f ≤ j → j < p.length → p[j]? ≠ some 47) : Ur.splitc 47 (p.drop f) = [p.drop f] := by
  refine Ur.splitc_one fun b hb e47 => ?_
  subst e47
  obtain ⟨j, hj, he⟩ := List.getElem_of_mem hb
  simp only [List.length_drop] at hj
  rw [List.getElem_drop] at he
  exact hs (f + j) (by omega) (by omega) (by rw [List.getElem?_eq_getElem (by omega), he])
theorem sub_take (p : List UInt8) (f i : Nat) : (p.drop f).take (i - f) = (p.take i).drop f := by rw [List.drop_take]
theorem flat_take (l : List (List UInt8)) (k : Nat) : (Ur.flatL (l.take k)).length ≤ (Ur.flatL l).length := by
  conv => rhs; rw [← List.take_append_drop k l, flat_len_app]
  omega
theorem segs_flat_len (p : List UInt8) : (Ur.flatL (Ur.segsL p)).length ≤ p.length + 1 := by
  have h1 := fold_flat (Ur.splitc 47 p) []
  rw [split_flat_len] at h1
  unfold Ur.segsL
  simpa [Ur.flatL] using h1
/-- What is known ahead of place i: the segments so far, the piece under way. -/
def TS (P : List UInt8) (out : List (List UInt8)) (f i : Nat) (sl : Bool) : Prop :=
  (i ≤ P.length ∧ (∀ j, f ≤ j → j < i → P[j]? ≠ some 47) ∧ (Ur.splitc 47 (P.drop f)).foldl Ur.seg out = Ur.segsL (P.drop 1) ∧ (Ur.splitc 47 (P.drop f)).getLastD [] = (Ur.splitc 47 (P.drop 1)).getLastD []) ∨
  (i = P.length + 1 ∧ out = Ur.segsL (P.drop 1) ∧ sl = Ur.lastDot (P.drop 1))
theorem TS.start (P : List UInt8) (h : 1 ≤ P.length) (sl : Bool) : TS P [] 1 1 sl := .inl ⟨h, fun j h1 h2 => absurd h2 (by omega), rfl, rfl⟩
theorem TS.skip {P : List UInt8} {out : List (List UInt8)} {f i : Nat} {sl : Bool} (h : TS P out f i sl) (hi : i < P.length) (h47 : ¬ P[i] = 47) : TS P out f (i + 1) sl := by
  rcases h with ⟨h1, h2, h3, h4⟩ | ⟨h1, _⟩
  · refine .inl ⟨by omega, fun j hj1 hj2 => ?_, h3, h4⟩
    rcases Nat.lt_or_ge j i with hj | hj
    · exact h2 j hj1 hj
    · obtain rfl : j = i := by omega
      rw [List.getElem?_eq_getElem hi]
      intro e; exact h47 (Option.some.inj e)
  · omega
theorem TS.piece {P : List UInt8} {out : List (List UInt8)} {f i : Nat} {sl : Bool} (h : TS P out f i sl) (hf : f ≤ i) (hi : i < P.length) (h47 : P[i] = 47) (sl' : Bool) : TS P (Ur.seg out (List.take (i - f) (List.drop f P))) (i + 1) (i + 1) sl' := by
  rcases h with ⟨h1, h2, h3, h4⟩ | ⟨h1, _⟩
  · have e := tidy_next hf hi h47 h2
    rw [e] at h3 h4
    rw [sub_take]
    refine .inl ⟨by omega, fun j hj1 hj2 => absurd hj2 (by omega), by rw [← h3]; rfl, ?_⟩
    rw [← h4]
    cases hs : Ur.splitc 47 (P.drop (i + 1)) with
    | nil => exact absurd hs (Ur.splitc_ne 47 _)
    | cons x r => simp [List.getLastD_cons]
  · omega
theorem TS.last {P : List UInt8} {out : List (List UInt8)} {f : Nat} {sl : Bool} (h : TS P out f P.length sl) (hf : f ≤ P.length) : TS P (Ur.seg out (List.take (P.length - f) (List.drop f P))) (P.length + 1) (P.length + 1) (Ur.dotB (List.take (P.length - f) (List.drop f P))) := by
  rcases h with ⟨h1, h2, h3, h4⟩ | ⟨h1, _⟩
  · have e := tidy_last hf h2
    rw [e] at h3 h4
    have e2 : List.take (P.length - f) (List.drop f P) = P.drop f := List.take_of_length_le (by simp)
    rw [e2]
    refine .inr ⟨rfl, by rw [← h3]; rfl, ?_⟩
    unfold Ur.lastDot
    rw [← h4]; rfl
  · omega
set_option maxHeartbeats 8000000 in
theorem tidy_any (P : List UInt8) (w : World) (hs : P.length ≤ 1073741824) :
    Calls Tryz.prog 23 #[.string (bs P)] w fun e w' => e = .returned (.string (bs (Ur.tidyL P))) ∧ Below w.heap.size w w' := by
  by_cases h0 : P = []
  · subst h0
    rw [show Ur.tidyL [] = [47] from rfl]
    go_enter Tryz.func23, Tryz.ntmps23
    go_wp2
    go_ret
    exact ⟨rfl, Below.refl _ _⟩
  have hne := emp_no h0
  have hp1 : 1 ≤ P.length := List.length_pos_iff.2 h0
  have HT : Hid (Ur.tidyL P = Ur.flatL (Ur.segsL (P.drop 1)) ++ (if Ur.lastDot (P.drop 1) = true then [47] else [])) := Lib.hid (by
    unfold Ur.tidyL Ur.outL
    rw [if_neg h0]
    split
    · rw [Ur.flatL_app]; rfl
    · rw [List.append_nil])
  have HE : Hid (Ur.lastDot (P.drop 1) = false → Ur.segsL (P.drop 1) ≠ []) := Lib.hid fun h => by
    have := Ur.outL_ne (P.drop 1)
    unfold Ur.outL at this
    rwa [h, if_neg (by simp)] at this
  have hfl := segs_flat_len (P.drop 1)
  have hfl2 : (Ur.flatL (Ur.segsL (P.drop 1))).length ≤ 1073741826 := by rw [List.length_drop] at hfl; omega
  have HS0 := Lib.hid fun sl => TS.start P hp1 sl
  clear hfl h0
  generalize Ur.tidyL P = R at *
  have hm := OwnS.made w
  have hbm := alloc_below w (.cells #[] 9)
  go_enter Tryz.func23, Tryz.ntmps23
  go_upto_region 7 with fail
  generalize hw1 : w.alloc (.cells #[] 9) = w1 at *
  clear hw1
  go_loopg [3, 4, 5, 6] (P.length + 1) (fun q sv fv slv iv wr => ∃ (i f : Nat) (sl : Bool) (out : List (List UInt8)) (A : Option Addr) (n c : Nat), f ≤ i ∧ 1 ≤ f ∧ i ≤ P.length + 1 ∧ q + i = P.length + 2 ∧ iv = .int .i64 (i : Int) ∧ fv = .int .i64 (f : Int) ∧ slv = .bool sl ∧ sv = .slice A n c ∧ OwnS wr w.heap.size (.slice A n c) out ∧ Hid (TS P out f i sl) ∧ out.length ≤ i ∧ Below w.heap.size w wr)
  case atStart => exact ⟨1, 1, false, [], _, 0, 0, by omega, by omega, by omega, by omega, rfl, rfl, rfl, rfl, hm, Lib.hid (HS0.out false), by simp, hbm⟩
  case round =>
    clear hm hbm HS0
    obtain ⟨i, f, sl, out, A, n, c, hfi, hf1, hi, hq, rfl, rfl, rfl, rfl, hown, HS, hol, hbr⟩ := hrel
    obtain ⟨wo, rfl⟩ : ∃ wo, wo = wr := ⟨_, rfl⟩
    have hno := hown.rd.1
    have hfi1 : (f : Int) ≤ (i : Int) := by omega
    by_cases hlt : i < P.length
    · have hile : (i : Int) ≤ (P.length : Int) := by omega
      have hilt : (i : Int) < (P.length : Int) := by omega
      by_cases h47 : P[i] = 47
      · have e47 : ((P[i].toNat : Int) != 47) = false := by rw [bne, u8eqk h47 47 rfl]; rfl
        have HX := HS.out.piece hfi hlt h47 (Ur.dotB (List.take (i - f) (List.drop f P)))
        clear h47 HS HT HE
        generalize hSP : List.take (i - f) (List.drop f P) = sp at *
        by_cases hdd : sp = [46, 46]
        · have s2 : (sp == [46, 46]) = true := by simpa using hdd
          have s1 : (sp == [46]) = false := by rw [hdd]; rfl
          have hseg : Ur.seg out sp = out.dropLast := by rw [hdd]; rfl
          have hdb : Ur.dotB sp = true := by rw [hdd]; rfl
          rw [hseg, hdb] at HX
          have HXX := Lib.hid HX
          clear hseg hdb hdd HX
          by_cases hoe : out = []
          · subst hoe
            have hn0 : n = 0 := by simpa using hno.symm
            subst hn0
            go_wp2
            go_roundg (P.length + 2 - (i + 1))
            case measure => omega
            case rel => exact ⟨i + 1, i + 1, true, [], A, 0, c, by omega, by omega, by omega, by omega, by go_num, by go_num, rfl, rfl, hown, HXX, by simp, hbr⟩
          · obtain ⟨j, rfl, hpop⟩ := own_popS hown hoe
            have hj1 : IntKind.i64.wrap (((j + 1 : Nat) : Int) - 1) = (j : Int) := by
              have e1 : ((j + 1 : Nat) : Int) - 1 = (j : Int) := by omega
              rw [e1]
              exact IntWalk.i64_in _ (by omega)
            have hj3 : (j : Int) ≤ (c : Int) := by have := own_cap hpop; omega
            have hj0 : (0 : Int) < ((j + 1 : Nat) : Int) := by omega
            have hdl : out.dropLast.length ≤ i + 1 := by simp; omega
            clear hoe hown
            go_wp2
            go_roundg (P.length + 2 - (i + 1))
            case measure => omega
            case rel => exact ⟨i + 1, i + 1, true, out.dropLast, A, j, c, by omega, by omega, by omega, by omega, by go_num, by go_num, rfl, rfl, hpop, HXX, hdl, hbr⟩
        · have s2 : (sp == [46, 46]) = false := by simpa using hdd
          by_cases hd : sp = [46]
          · have s1 : (sp == [46]) = true := by simpa using hd
            have hseg : Ur.seg out sp = out := by rw [hd]; rfl
            have hdb : Ur.dotB sp = true := by rw [hd]; rfl
            rw [hseg, hdb] at HX
            have HXX := Lib.hid HX
            clear hseg hdb hdd hd HX
            go_wp2
            go_roundg (P.length + 2 - (i + 1))
            case measure => omega
            case rel => exact ⟨i + 1, i + 1, true, out, A, n, c, by omega, by omega, by omega, by omega, by go_num, by go_num, rfl, rfl, hown, HXX, by omega, hbr⟩
          · have s1 : (sp == [46]) = false := by simpa using hd
            have hseg : Ur.seg out sp = out ++ [sp] := by unfold Ur.seg; rw [if_neg hdd, if_neg hd]
            have hdb : Ur.dotB sp = false := by unfold Ur.dotB; rw [s1, s2]; rfl
            rw [hseg, hdb] at HX
            have HXX := Lib.hid HX
            clear hseg hdb hdd hd HX
            go_wp2_with
              (at_builtin
               refine wp_appS rfl (.tmp 53) (.tmp 55) rfl w.heap.size (.slice A n c) _ rfl (hown.step (alloc_below _ _)) _ 1 1 [sp] rfl ?hr ?hby ?hbase ?_
               case hr => exact one_rdS' _ _ _ _ rfl
               case hby => first | omega | (simp; omega)
               case hbase => have := hbr.size; simp; omega
               intro A3 n3 c3 w3 hown3 hb3 hn3)
            go_roundg (P.length + 2 - (i + 1))
            case measure => omega
            case rel => exact ⟨i + 1, i + 1, false, out ++ [sp], A3, n3, c3, by omega, by omega, by omega, by omega, by go_num, by go_num, rfl, rfl, hown3, HXX, by simp; omega, (bnext hbr (alloc_below _ _) hbr.size).trans hb3⟩
      · have e47 : ((P[i].toNat : Int) != 47) = true := by rw [bne, u8nek h47 47 rfl]; rfl
        have HXX := Lib.hid (HS.out.skip hlt h47)
        clear h47 HS HT HE
        go_wp2
        go_roundg (P.length + 2 - (i + 1))
        case measure => omega
        case rel => exact ⟨i + 1, f, sl, out, A, n, c, by omega, by omega, by omega, by omega, by go_num, rfl, rfl, rfl, hown, HXX, by omega, hbr⟩
    · by_cases hend : P.length = i
      · have hile : (i : Int) ≤ (P.length : Int) := by omega
        have hilt : ¬ (i : Int) < (P.length : Int) := by omega
        have HX : TS P (Ur.seg out (List.take (i - f) (List.drop f P))) (i + 1) (i + 1) (Ur.dotB (List.take (i - f) (List.drop f P))) := by
          have h := HS.out
          subst hend
          exact h.last hfi
        clear HS HT HE hlt
        generalize hSP : List.take (i - f) (List.drop f P) = sp at *
        by_cases hdd : sp = [46, 46]
        · have s2 : (sp == [46, 46]) = true := by simpa using hdd
          have s1 : (sp == [46]) = false := by rw [hdd]; rfl
          have hseg : Ur.seg out sp = out.dropLast := by rw [hdd]; rfl
          have hdb : Ur.dotB sp = true := by rw [hdd]; rfl
          rw [hseg, hdb] at HX
          have HXX := Lib.hid HX
          clear hseg hdb hdd HX
          by_cases hoe : out = []
          · subst hoe
            have hn0 : n = 0 := by simpa using hno.symm
            subst hn0
            go_wp2
            go_roundg (P.length + 2 - (i + 1))
            case measure => omega
            case rel => exact ⟨i + 1, i + 1, true, [], A, 0, c, by omega, by omega, by omega, by omega, by go_num, by go_num, rfl, rfl, hown, HXX, by simp, hbr⟩
          · obtain ⟨j, rfl, hpop⟩ := own_popS hown hoe
            have hj1 : IntKind.i64.wrap (((j + 1 : Nat) : Int) - 1) = (j : Int) := by
              have e1 : ((j + 1 : Nat) : Int) - 1 = (j : Int) := by omega
              rw [e1]
              exact IntWalk.i64_in _ (by omega)
            have hj3 : (j : Int) ≤ (c : Int) := by have := own_cap hpop; omega
            have hj0 : (0 : Int) < ((j + 1 : Nat) : Int) := by omega
            have hdl : out.dropLast.length ≤ i + 1 := by simp; omega
            clear hoe hown
            go_wp2
            go_roundg (P.length + 2 - (i + 1))
            case measure => omega
            case rel => exact ⟨i + 1, i + 1, true, out.dropLast, A, j, c, by omega, by omega, by omega, by omega, by go_num, by go_num, rfl, rfl, hpop, HXX, hdl, hbr⟩
        · have s2 : (sp == [46, 46]) = false := by simpa using hdd
          by_cases hd : sp = [46]
          · have s1 : (sp == [46]) = true := by simpa using hd
            have hseg : Ur.seg out sp = out := by rw [hd]; rfl
            have hdb : Ur.dotB sp = true := by rw [hd]; rfl
            rw [hseg, hdb] at HX
            have HXX := Lib.hid HX
            clear hseg hdb hdd hd HX
            go_wp2
            go_roundg (P.length + 2 - (i + 1))
            case measure => omega
            case rel => exact ⟨i + 1, i + 1, true, out, A, n, c, by omega, by omega, by omega, by omega, by go_num, by go_num, rfl, rfl, hown, HXX, by omega, hbr⟩
          · have s1 : (sp == [46]) = false := by simpa using hd
            have hseg : Ur.seg out sp = out ++ [sp] := by unfold Ur.seg; rw [if_neg hdd, if_neg hd]
            have hdb : Ur.dotB sp = false := by unfold Ur.dotB; rw [s1, s2]; rfl
            rw [hseg, hdb] at HX
            have HXX := Lib.hid HX
            clear hseg hdb hdd hd HX
            go_wp2_with
              (at_builtin
               refine wp_appS rfl (.tmp 53) (.tmp 55) rfl w.heap.size (.slice A n c) _ rfl (hown.step (alloc_below _ _)) _ 1 1 [sp] rfl ?hr ?hby ?hbase ?_
               case hr => exact one_rdS' _ _ _ _ rfl
               case hby => first | omega | (simp; omega)
               case hbase => have := hbr.size; simp; omega
               intro A3 n3 c3 w3 hown3 hb3 hn3)
            go_roundg (P.length + 2 - (i + 1))
            case measure => omega
            case rel => exact ⟨i + 1, i + 1, false, out ++ [sp], A3, n3, c3, by omega, by omega, by omega, by omega, by go_num, by go_num, rfl, rfl, hown3, HXX, by simp; omega, (bnext hbr (alloc_below _ _) hbr.size).trans hb3⟩
      · have hi2 : i = P.length + 1 := by omega
        have hTS : out = Ur.segsL (P.drop 1) ∧ sl = Ur.lastDot (P.drop 1) := by
          rcases HS.out with ⟨h1, _⟩ | ⟨_, h2⟩
          · omega
          · exact h2
        have hile : ¬ (i : Int) ≤ (P.length : Int) := by omega
        rw [← hTS.1] at hfl2 HT HE
        rw [← hTS.2] at HT HE
        have hrd := hown.rd
        clear hTS HS hlt hend hi2
        go_upto_region 20 with fail
        go_loopg [8, 9] n (fun q ov iv wr => ∃ k : Nat, k ≤ n ∧ q + k = n ∧ iv = .int .i64 (k : Int) ∧ ov = .string (bs (Ur.flatL (out.take k))) ∧ wr = wo)
        case atStart => exact ⟨0, by omega, by omega, rfl, rfl, rfl⟩
        case round =>
          obtain ⟨k, hk, hq2, rfl, rfl, rfl⟩ := hrel
          have hflk := flat_take out k
          by_cases hltk : k < n
          · obtain ⟨g, o, x, rfl, hg, HX, hc⟩ := hrd.at_ hltk
            have hflk1 := flat_take out (k + 1)
            have hcat : Ur.flatL (out.take (k + 1)) = Ur.flatL (out.take k) ++ ([47] ++ x) := by rw [take_snoc? HX.out, Ur.flatL_app]; simp [Ur.flatL]
            have HCat := Lib.hid hcat
            rw [hcat] at hflk1
            clear HX hcat HT HE
            generalize Ur.flatL (out.take k) = F at *
            have hxl : F.length + (1 + x.length) ≤ 1073741826 := by simp at hflk1; omega
            clear hflk1 hflk hfl2
            go_wp2
            go_roundg (n - (k + 1))
            case measure => omega
            case rel => exact ⟨k + 1, by omega, by omega, by go_num, by rw [HCat.out, show (⟨#[47]⟩ : ByteArray) = bs [47] from rfl, bs_append, bs_append], rfl⟩
          · obtain rfl : k = n := by omega
            have hall : out.take k = out := List.take_of_length_le (by omega)
            rw [hall] at *
            cases sl with
            | true =>
              have HF : Hid (R = Ur.flatL out ++ [47]) := Lib.hid (by rw [HT.out, if_pos rfl])
              clear HT HE hall
              generalize Ur.flatL out = F at *
              go_wp2
              go_ret
              exact ⟨ret_str HF.out.symm, hbr⟩
            | false =>
              have hon := HE.out rfl
              have hfe : (Ur.flatL out).isEmpty = false := emp_no (by
                cases out with
                | nil => exact absurd rfl hon
                | cons y r => simp [Ur.flatL])
              have HF : Hid (R = Ur.flatL out) := Lib.hid (by rw [HT.out, if_neg (by simp), List.append_nil])
              clear HT HE hall hon
              generalize Ur.flatL out = F at *
              go_wp2
              go_ret
              exact ⟨ret_str HF.out.symm, hbr⟩
end Go.Proofs.YtdeaoagdjnnppaaGreatDoor
