/- clean: step 2 of the normal form, of a path. Conditions: the path's length at most 2^30; the library's variable MaxLen holds some int. -/
import Derived.Test.YtdeaoagdjnnppaaGreatDoorUrA
import Derived.Test.YtdeaoagdjnnppaaGreatDoorUrL
set_option linter.unusedVariables false
set_option linter.unusedSimpArgs false
namespace Go.Proofs.YtdeaoagdjnnppaaGreatDoor
open Go.RowKit

set_option maxRecDepth 100000
theorem bs_dt (x : ByteArray) : bs x.data.toList = x := rfl
theorem rdS_lit (w : World) (l : List (List UInt8)) (t : TypeId) (cs : Array Value) (h : cs = (strs l).toArray) : RdS (w.alloc (.cells cs t)) (some ⟨w.heap.size, 0, none⟩) l.length l := by
  subst h
  refine ⟨rfl, by simp [strs], fun _ => ⟨w.heap.size, 0, rfl, by simp, fun j u hu => ?_⟩⟩
  rw [Nat.zero_add, cell_of_row _ _ _ _ t (0, 0) (heap_alloc_new w _)]
  simpa using hu
theorem split_any (p : List UInt8) (w : World) (hM : MaxL w) (hs : p.length ≤ 1073741824) :
    Calls Tryz.prog 38 #[.string (bs p), .string ⟨#[47]⟩] w fun e w' => ∃ A n c, e = .returned (.slice A n c) ∧ RdS w' A n (Ur.splitc 47 p) ∧ Below w.heap.size w w' := by
  obtain ⟨m, hm⟩ := hM
  refine (Tryz.strings_Split (bs p) ⟨#[47]⟩ m w (by simp; omega) hm (by decide)).mono fun e w' h => ?_
  obtain ⟨rfl, rfl⟩ := h
  have hall := Lib.splitB_all ⟨#[47]⟩ (by decide) 0 _ (bs p) rfl
  have hd := Lib.splitB_data ⟨#[47]⟩ 0 (Lib.countB (bs p) ⟨#[47]⟩) (bs p)
  rw [show (⟨#[47]⟩ : ByteArray).data.toList = [47] from rfl, bs_data] at hd
  have hcnt : Lib.countB (bs p) ⟨#[47]⟩ = p.count 47 := by
    show Lib.count (bs p).data.toList [47] = _
    rw [Lib.count_one]; rfl
  rw [Ur.lib_splitK 47 _ p (by rw [hcnt]; exact Nat.le_refl _)] at hd
  generalize Lib.splitB ⟨#[47]⟩ 0 (Lib.countB (bs p) ⟨#[47]⟩) (bs p) = L at *
  refine ⟨_, _, _, rfl, ?_, (Below.refl _ _).alloc (Nat.le_refl _) _⟩
  have hl : Lib.countB (bs p) ⟨#[47]⟩ + 1 = (Ur.splitc 47 p).length := by rw [← hall, ← hd, List.length_map]
  rw [hl]
  refine rdS_lit w _ _ _ ?_
  rw [← hd]
  unfold strs
  rw [List.map_map]
  congr 1
theorem flat_len_cons (x : List UInt8) (r : List (List UInt8)) : (Ur.flatL (x :: r)).length = 1 + x.length + (Ur.flatL r).length := by simp [Ur.flatL]; omega
theorem flat_len_app (a b : List (List UInt8)) : (Ur.flatL (a ++ b)).length = (Ur.flatL a).length + (Ur.flatL b).length := by rw [Ur.flatL_app, List.length_append]
theorem flat_drop : ∀ l : List (List UInt8), (Ur.flatL l.dropLast).length ≤ (Ur.flatL l).length
  | [] => by simp
  | [x] => by simp [Ur.flatL]
  | x :: y :: r => by rw [List.dropLast_cons_cons, flat_len_cons, flat_len_cons x]; have := flat_drop (y :: r); omega
theorem seg_flat (out : List (List UInt8)) (x : List UInt8) : (Ur.flatL (Ur.seg out x)).length ≤ (Ur.flatL out).length + (1 + x.length) := by
  unfold Ur.seg
  split
  · have := flat_drop out; omega
  · split
    · omega
    · rw [flat_len_app, flat_len_cons]; simp [Ur.flatL]
theorem fold_flat : ∀ (l out : List (List UInt8)), (Ur.flatL (l.foldl Ur.seg out)).length ≤ (Ur.flatL out).length + (Ur.flatL l).length
  | [], out => by simp [Ur.flatL]
  | x :: r, out => by rw [List.foldl_cons, flat_len_cons]; have := fold_flat r (Ur.seg out x); have := seg_flat out x; omega
theorem split_flat_len : ∀ p : List UInt8, (Ur.flatL (Ur.splitc 47 p)).length = p.length + 1
  | [] => rfl
  | b :: r => by
    have ih := split_flat_len r
    unfold Ur.splitc
    by_cases hb : b = 47
    · rw [if_pos hb, flat_len_cons, ih]; simp; omega
    · rw [if_neg hb]
      cases hs : Ur.splitc 47 r with
      | nil => exact absurd hs (Ur.splitc_ne 47 r)
      | cons q t =>
        rw [hs] at ih
        rw [flat_len_cons] at ih ⊢
        simp at ih ⊢; omega
theorem out_flat_len (p : List UInt8) : (Ur.flatL (Ur.outL p)).length ≤ p.length + 2 := by
  have h1 := fold_flat (Ur.splitc 47 p) []
  rw [split_flat_len] at h1
  unfold Ur.outL
  split
  · rw [flat_len_app, flat_len_cons]; unfold Ur.segsL; simp [Ur.flatL] at h1 ⊢; omega
  · unfold Ur.segsL; simp [Ur.flatL] at h1 ⊢; omega
/-- The segments when k pieces are read. -/
def outK (p : List UInt8) (k : Nat) : List (List UInt8) := if k = (Ur.splitc 47 p).length then Ur.outL p else ((Ur.splitc 47 p).take k).foldl Ur.seg []
theorem outK_zero (p : List UInt8) : outK p 0 = [] := by
  have := Ur.splitc_ne 47 p
  unfold outK
  rw [if_neg (fun h => this (List.eq_nil_of_length_eq_zero h.symm))]; rfl
theorem outK_end (p : List UInt8) : outK p (Ur.splitc 47 p).length = Ur.outL p := by unfold outK; rw [if_pos rfl]
theorem outK_next {p x : List UInt8} {k : Nat} (h : (Ur.splitc 47 p)[k]? = some x) (hk : k ≠ (Ur.splitc 47 p).length) : outK p (k + 1) = Ur.seg (outK p k) x ++ (if k + 1 = (Ur.splitc 47 p).length ∧ Ur.dotB x = true then [[]] else []) := by
  have hlt := lt_of_get? h
  have hS : ((Ur.splitc 47 p).take (k + 1)).foldl Ur.seg [] = Ur.seg (((Ur.splitc 47 p).take k).foldl Ur.seg []) x := by rw [take_snoc? h, List.foldl_append]; rfl
  unfold outK
  rw [if_neg hk]
  by_cases he : k + 1 = (Ur.splitc 47 p).length
  · rw [if_pos he]
    have hl : (Ur.splitc 47 p).getLastD [] = x := by
      have e : Ur.splitc 47 p = (Ur.splitc 47 p).take k ++ [x] := by rw [← take_snoc? h, List.take_of_length_le (by omega)]
      rw [e, List.getLastD_concat]
    have hs : Ur.segsL p = Ur.seg (((Ur.splitc 47 p).take k).foldl Ur.seg []) x := by
      rw [← hS, List.take_of_length_le (by omega)]; rfl
    unfold Ur.outL Ur.lastDot
    rw [hl, hs]
    cases hd : Ur.dotB x
    · simp
    · simp [he]
  · rw [if_neg he, hS]; simp [he]
theorem own_popS {w : World} {B n c : Nat} {A : Option Addr} {l : List (List UInt8)} (h : OwnS w B (.slice A n c) l) (hn : l ≠ []) : ∃ k, n = k + 1 ∧ OwnS w B (.slice A k c) l.dropLast := by
  have hl := h.rd.1
  obtain ⟨k, rfl⟩ : ∃ k, n = k + 1 := ⟨n - 1, by cases l with
    | nil => exact absurd rfl hn
    | cons a r => simp at hl; omega⟩
  refine ⟨k, rfl, ?_⟩
  obtain ⟨i, x, hx⟩ : ∃ i x, l = i ++ [x] := ⟨_, _, (List.dropLast_concat_getLast hn).symm⟩
  subst hx
  have hik : i.length = k := by simp at hl; exact hl
  subst hik
  rw [List.dropLast_concat]
  unfold OwnS at h ⊢
  have h' := h
  rw [List.length_append, show strs (i ++ [x]) = strs i ++ strs [x] by simp [strs]] at h'
  rcases h'.2 with ⟨h0, _⟩ | ⟨g, cap, cur, hv, _⟩
  · cases h0
  · injection hv with h1 h2 h3
    subst h1
    exact ownsRow_pop (by simp [strs]) h'
theorem own_cap {w : World} {B n c : Nat} {A : Option Addr} {l : List (List UInt8)} (h : OwnS w B (.slice A n c) l) : n ≤ c := by
  rcases h.2 with ⟨h0, h1⟩ | ⟨g, cap, cur, hv, _, _, h1, _⟩
  · cases h0; omega
  · cases hv; exact h1
theorem join_any (A : Option Addr) (n c : Nat) (l : List (List UInt8)) (w : World) (hr : RdS w A n l) (hl : l ≠ []) (hc : n ≤ c) (hlen : (Ur.flatL l).length ≤ 1073741830) (hn : n ≤ 1073741830) :
    Calls Tryz.prog 39 #[.slice A n c, .string ⟨#[47]⟩] w fun e w' => ∃ j, e = .returned (.string (bs j)) ∧ 47 :: j = Ur.flatL l ∧ Below w.heap.size w w' := by
  obtain ⟨hln, hrd⟩ := hr
  subst hln
  have hpos : 0 < l.length := List.length_pos_iff.2 hl
  obtain ⟨g, o, rfl, hg, hcell⟩ := hrd.2 hpos
  obtain ⟨x, r, rfl⟩ : ∃ x r, l = x :: r := by cases l with
    | nil => exact absurd rfl hl
    | cons x r => exact ⟨x, r, rfl⟩
  have hjf := Ur.join_flat x r
  have hmm : ((x :: r).map bs).map (·.data.toList) = x :: r := by rw [List.map_map]; exact List.map_id _
  have hj := Tryz.strings_Join g o c ((x :: r).map bs) ⟨#[47]⟩ w (fun j u hu => by
    rw [List.getElem?_map] at hu
    cases hju : (x :: r)[j]? with
    | none => rw [hju] at hu; cases hu
    | some s =>
      rw [hju] at hu
      cases hu
      exact hcell j _ (by unfold strs; rw [List.getElem?_map, hju]; rfl)) hg (by rw [List.length_map]; omega) (by rw [List.length_map]; omega) (by
    rw [hmm]
    have := congrArg List.length hjf
    simp only [List.length_cons] at this
    show (Lib.join (x :: r) [47]).length ≤ _
    omega)
  rw [hmm, List.length_map] at hj
  exact hj.mono fun e w' h => ⟨_, h.1, hjf, h.2⟩
set_option maxHeartbeats 4000000 in
theorem clean_any (s : List UInt8) (w : World) (hM : MaxL w) (hs : s.length ≤ 1073741824) :
    Calls Tryz.prog 17 #[.string (bs s)] w fun e w' => e = .returned (.string (bs (Ur.tidyL s))) ∧ Below w.heap.size w w' := by
  cases s with
  | nil =>
    rw [show Ur.tidyL [] = [47] from rfl]
    go_enter Tryz.func17, Tryz.ntmps17
    go_wp2
    go_ret
    exact ⟨rfl, Below.refl _ _⟩
  | cons b0 p =>
  have h1s : (1 : Int) ≤ ((p.length : Int) + 1) := by omega
  have hpl : p.length + 1 ≤ 1073741824 := hs
  have HT : Hid (Ur.tidyL (b0 :: p) = Ur.flatL (Ur.outL p)) := Lib.hid rfl
  have hC := split_any p w hM (by omega)
  have hfl := out_flat_len p
  have hml : (Ur.splitc 47 p).length ≤ 1073741824 := by rw [Ur.splitc_len]; have := List.count_le_length (a := (47 : UInt8)) (l := p); omega
  have hfl2 : (Ur.flatL (Ur.outL p)).length ≤ 1073741826 := by omega
  have Z0 := Lib.hid (outK_zero p)
  have ZE := Lib.hid (outK_end p)
  have ZN := Lib.hid fun k x h hk => outK_next (p := p) (x := x) (k := k) h hk
  have hon := Ur.outL_ne p
  clear hfl hs
  generalize Ur.tidyL (b0 :: p) = R at *
  generalize Ur.outL p = OL at *
  generalize outK p = OK at *
  generalize hSG : Ur.splitc 47 p = SG at *
  clear hSG
  go_enter Tryz.func17, Tryz.ntmps17
  go_wp2_with fail
  refine hC.mono ?_
  rintro e w2 ⟨AS, m, cS, rfl, hrs, hb2⟩
  clear hC
  have hm := hrs.1
  have hmi : IntKind.i64.wrap ((m : Int) - 1) = (m : Int) - 1 := IntWalk.i64_in _ (by omega)
  go_wp2
  go_loopg [3, 15] m (fun q v ix wr => ∃ (k : Nat) (A : Option Addr) (n c : Nat) (out : List (List UInt8)), k ≤ m ∧ q + k = m ∧ ix = .int .i64 k ∧ v = .slice A n c ∧ OwnS wr w2.heap.size (.slice A n c) out ∧ Hid (out = OK k) ∧ out.length ≤ k + 1 ∧ Below w2.heap.size w2 wr)
  case atStart => exact ⟨0, none, 0, 0, [], by omega, by omega, rfl, rfl, OwnS.nil _ _, Lib.hid Z0.out.symm, by simp, Below.refl _ _⟩
  case round =>
    clear Z0
    obtain ⟨k, A, n, c, out, hk, hr, rfl, rfl, hown, HO, hol, hbr⟩ := hrel
    obtain ⟨wo, rfl⟩ : ∃ wo, wo = wr := ⟨_, rfl⟩
    have hno := hown.rd.1
    by_cases hlt : k < m
    · obtain ⟨g, o, x, rfl, hg, HX, hc⟩ := (hrs.step hbr).at_ hlt
      have HK := Lib.hid (ZN.out k x HX.out (by omega))
      rw [← HO.out] at HK
      clear HX HO ZN ZE HT
      rw [hm] at HK
      by_cases hdd : x = [46, 46]
      · subst hdd
        have hseg : Ur.seg out [46, 46] = out.dropLast := rfl
        rw [hseg, show Ur.dotB [46, 46] = true from rfl] at HK
        clear hseg
        have hdl : out.dropLast.length ≤ out.length := by simp
        by_cases hoe : out = []
        · subst hoe
          have hn0 : n = 0 := by simpa using hno.symm
          subst hn0
          by_cases hlast : k + 1 = m
          · have hkm : ((k : Int) == (m : Int) - 1) = true := by rw [beq_iff_eq]; omega
            have HN : Hid (([] : List (List UInt8)) ++ [[]] = OK (k + 1)) := Lib.hid (by rw [HK.out]; simp [hlast])
            clear HK
            go_wp2_with
              (at_builtin
               refine wp_appS rfl (.tmp 37) (.tmp 38) rfl w2.heap.size (.slice A 0 c) _ rfl (hown.step (alloc_below _ _)) _ 1 1 [[]] rfl ?hr ?hby ?hbase ?_
               case hr => exact one_rdS' _ _ _ _ rfl
               case hby => first | omega | (simp; omega)
               case hbase => have := hbr.size; simp; omega
               intro A3 n3 c3 w3 hown3 hb3 hn3)
            go_roundg (m - (k + 1))
            case measure => omega
            case rel => exact ⟨k + 1, A3, n3, c3, [] ++ [[]], by omega, by omega, by go_num, rfl, hown3, HN, by first | omega | (simp; done) | (simp; omega), (bnext hbr (alloc_below _ _) hbr.size).trans hb3⟩
          · have hkm : ((k : Int) == (m : Int) - 1) = false := by rw [beq_eq_false_iff_ne]; omega
            have HN : Hid (([] : List (List UInt8)) = OK (k + 1)) := Lib.hid (by rw [HK.out]; simp [hlast])
            clear HK
            go_wp2
            go_roundg (m - (k + 1))
            case measure => omega
            case rel => exact ⟨k + 1, A, 0, c, [], by omega, by omega, by go_num, rfl, hown, HN, by first | omega | (simp; done) | (simp; omega), hbr⟩
        · obtain ⟨j, rfl, hpop⟩ := own_popS hown hoe
          have hj1 : IntKind.i64.wrap (((j + 1 : Nat) : Int) - 1) = (j : Int) := by
            have e1 : ((j + 1 : Nat) : Int) - 1 = (j : Int) := by omega
            rw [e1]
            exact IntWalk.i64_in _ (by omega)
          have hj2 : max (0 : Int) (j : Int) = (j : Int) := by omega
          have hj3 : (j : Int) ≤ (c : Int) := by have := own_cap hpop; omega
          clear hoe hown
          by_cases hlast : k + 1 = m
          · have hkm : ((k : Int) == (m : Int) - 1) = true := by rw [beq_iff_eq]; omega
            have HN : Hid (out.dropLast ++ [[]] = OK (k + 1)) := Lib.hid (by rw [HK.out]; simp [hlast])
            clear HK
            go_wp2_with
              (at_builtin
               refine wp_appS rfl (.tmp 37) (.tmp 38) rfl w2.heap.size (.slice A j c) _ rfl (hpop.step (alloc_below _ _)) _ 1 1 [[]] rfl ?hr ?hby ?hbase ?_
               case hr => exact one_rdS' _ _ _ _ rfl
               case hby => first | omega | (simp; omega)
               case hbase => have := hbr.size; simp; omega
               intro A3 n3 c3 w3 hown3 hb3 hn3)
            go_roundg (m - (k + 1))
            case measure => omega
            case rel => exact ⟨k + 1, A3, n3, c3, out.dropLast ++ [[]], by omega, by omega, by go_num, rfl, hown3, HN, by first | omega | (simp; done) | (simp; omega), (bnext hbr (alloc_below _ _) hbr.size).trans hb3⟩
          · have hkm : ((k : Int) == (m : Int) - 1) = false := by rw [beq_eq_false_iff_ne]; omega
            have HN : Hid (out.dropLast = OK (k + 1)) := Lib.hid (by rw [HK.out]; simp [hlast])
            clear HK
            go_wp2
            go_roundg (m - (k + 1))
            case measure => omega
            case rel => exact ⟨k + 1, A, j, c, out.dropLast, by omega, by omega, by go_num, rfl, hpop, HN, by first | omega | (simp; done) | (simp; omega), hbr⟩
      · have hx2 : (x == [46, 46]) = false := by simpa using hdd
        by_cases hd : x = [46]
        · subst hd
          rw [show Ur.seg out [46] = out from rfl, show Ur.dotB [46] = true from rfl] at HK
          by_cases hlast : k + 1 = m
          · have hkm : ((k : Int) == (m : Int) - 1) = true := by rw [beq_iff_eq]; omega
            have HN : Hid (out ++ [[]] = OK (k + 1)) := Lib.hid (by rw [HK.out]; simp [hlast])
            clear HK hx2 hdd
            go_wp2_with
              (at_builtin
               refine wp_appS rfl (.tmp 37) (.tmp 38) rfl w2.heap.size (.slice A n c) _ rfl (hown.step (alloc_below _ _)) _ 1 1 [[]] rfl ?hr ?hby ?hbase ?_
               case hr => exact one_rdS' _ _ _ _ rfl
               case hby => first | omega | (simp; omega)
               case hbase => have := hbr.size; simp; omega
               intro A3 n3 c3 w3 hown3 hb3 hn3)
            go_roundg (m - (k + 1))
            case measure => omega
            case rel => exact ⟨k + 1, A3, n3, c3, out ++ [[]], by omega, by omega, by go_num, rfl, hown3, HN, by first | omega | (simp; done) | (simp; omega), (bnext hbr (alloc_below _ _) hbr.size).trans hb3⟩
          · have hkm : ((k : Int) == (m : Int) - 1) = false := by rw [beq_eq_false_iff_ne]; omega
            have HN : Hid (out = OK (k + 1)) := Lib.hid (by rw [HK.out]; simp [hlast])
            clear HK hx2 hdd
            go_wp2
            go_roundg (m - (k + 1))
            case measure => omega
            case rel => exact ⟨k + 1, A, n, c, out, by omega, by omega, by go_num, rfl, hown, HN, by first | omega | (simp; done) | (simp; omega), hbr⟩
        · have hx1 : (x == [46]) = false := by simpa using hd
          have HN : Hid (out ++ [x] = OK (k + 1)) := Lib.hid (by
            rw [HK.out, show Ur.seg out x = out ++ [x] by unfold Ur.seg; rw [if_neg hdd, if_neg hd], show Ur.dotB x = false by unfold Ur.dotB; rw [hx1, hx2]; rfl]
            simp)
          have hkm : ((k : Int) == (m : Int) - 1) = true ∨ ((k : Int) == (m : Int) - 1) = false := by cases ((k : Int) == (m : Int) - 1) <;> simp
          clear HK hd hdd
          rcases hkm with hkm | hkm
          all_goals
            go_wp2_with
              (at_builtin
               refine wp_appS rfl (.tmp 40) (.tmp 42) rfl w2.heap.size (.slice A n c) _ rfl (hown.step (alloc_below _ _)) _ 1 1 [x] rfl ?hr ?hby ?hbase ?_
               case hr => exact one_rdS' _ _ _ _ rfl
               case hby => first | omega | (simp; omega)
               case hbase => have := hbr.size; simp; omega
               intro A3 n3 c3 w3 hown3 hb3 hn3)
            go_roundg (m - (k + 1))
            case measure => omega
            case rel => exact ⟨k + 1, A3, n3, c3, out ++ [x], by omega, by omega, by go_num, rfl, hown3, HN, by first | omega | (simp; done) | (simp; omega), (bnext hbr (alloc_below _ _) hbr.size).trans hb3⟩
    · obtain rfl : k = m := by omega
      have hoo : out = OL := by rw [HO.out, ← hm, ZE.out]
      subst hoo
      have hJ := join_any A n c out wo hown.rd hon (own_cap hown) (by omega) (by omega)
      clear HO ZN ZE
      go_wp2_with fail
      refine hJ.mono ?_
      rintro e w4 ⟨j, rfl, hj, hb4⟩
      have hjl : j.length ≤ 1073741826 := by have := congrArg List.length hj; simp only [List.length_cons] at this; omega
      have HF : Hid (R = [47] ++ j) := Lib.hid (by rw [HT.out, ← hj]; rfl)
      go_wp2
      go_ret
      exact ⟨ret_str HF.out.symm, bnext (hb2.trans (hbr.mono hb2.size)) hb4 ((hb2.trans (hbr.mono hb2.size)).size)⟩
end Go.Proofs.YtdeaoagdjnnppaaGreatDoor
