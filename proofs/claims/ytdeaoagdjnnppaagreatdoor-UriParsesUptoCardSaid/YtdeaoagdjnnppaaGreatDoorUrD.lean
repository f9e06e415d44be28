/- strconv.ParseUint at two bytes, and decode: step 1 of the normal form. Conditions: the text's length at most 2^30; the library's variables MaxLen and ErrSyntax. -/
import Derived.Test.YtdeaoagdjnnppaaGreatDoorUrB
import Derived.Test.YtdeaoagdjnnppaaGreatDoorUrP
set_option linter.unusedVariables false
set_option linter.unusedSimpArgs false
namespace Go.Proofs.YtdeaoagdjnnppaaGreatDoor
open Go.RowKit

set_option maxRecDepth 100000
theorem UB.step {w w' : World} {B b : Nat} {l : List UInt8} (h : UB w B b l) (hb : Below w.heap.size w w') : UB w' B b l := by
  have hlt := Lib.BuilderAt.lt h
  obtain ⟨hB, v, h1, h2, h3⟩ := h
  exact ⟨hB, v, (hb.block _ hlt).trans h1, own_step h2 hb, h3⟩
theorem IB.step {w w' : World} {B b : Nat} {l : List UInt8} (h : IB w B b l) (hb : Below w.heap.size w w') : IB w' B b l := by
  rcases h with h | h
  · have hlt := Lib.BuilderAt.lt h
    obtain ⟨hB, v, h1, h2, h3⟩ := h
    exact .inl ⟨hB, v, (hb.block _ hlt).trans h1, own_step h2 hb, h3⟩
  · exact .inr (UB.step h hb)
theorem spu_some {a b : UInt8} {x y : Nat} (ha : Ur.hexv a = some x) (hb : Ur.hexv b = some y) (w : World) :
    Calls Tryz.prog 35 #[.string (bs [a, b]), .int .i64 16, .int .i64 8] w fun e w' => e = .returned (.tuple #[.int .u64 ((UInt8.ofNat (16 * x + y)).toNat : Int), .nilIface]) ∧ Below w.heap.size w w' := by
  have hx := Ur.hexv_lt ha
  have hy := Ur.hexv_lt hb
  have hc : (UInt8.ofNat (16 * x + y)).toNat = 16 * x + y := by rw [UInt8.toNat_ofNat']; omega
  have hC := ipu_any a b w
  have hp : puV a b = .tuple #[.int .u64 ((UInt8.ofNat (16 * x + y)).toNat : Int), .nilIface] := by unfold puV; rw [ha, hb, hc]
  rw [hp] at hC
  have c0 := (UInt8.ofNat (16 * x + y)).toNat_lt
  generalize UInt8.ofNat (16 * x + y) = c at *
  clear hc ha hb hp hx hy
  go_enter Tryz.func35, Tryz.ntmps35
  go_wp2_with fail
  refine hC.mono ?_
  rintro e w1 ⟨rfl, hb1⟩
  clear hC
  go_wp2
  go_ret2
  exact ⟨rfl, hb1⟩
theorem spu_none {a b : UInt8} (h : Ur.hexv a = none ∨ Ur.hexv b = none) (w : World) (hE : ErrS w) :
    Calls Tryz.prog 35 #[.string (bs [a, b]), .int .i64 16, .int .i64 8] w fun e w' => ∃ p, e = .returned (.tuple #[.int .u64 0, .iface 87 p]) ∧ Below w.heap.size w w' := by
  have hC := ipu_any a b w
  rw [pu_none h] at hC
  go_enter Tryz.func35, Tryz.ntmps35
  go_wp2_with fail
  refine hC.mono ?_
  rintro e w1 ⟨rfl, hb1⟩
  clear hC
  obtain ⟨ev, hv, hev⟩ := errs_b hE hb1
  have hT := Tryz.strconv_toError_syntax ⟨#[80, 97, 114, 115, 101, 85, 105, 110, 116]⟩ (bs [a, b]) 16 8 ev w1 (by simp) hv hev
  go_wp2_with fail
  refine hT.mono ?_
  rintro e w2 ⟨N, rfl, -, -, hb2⟩
  clear hT
  go_wp2
  go_ret2
  exact ⟨_, rfl, bnext hb1 hb2 hb1.size⟩
theorem upper2 {a b : UInt8} {x y : Nat} (ha : Ur.hexv a = some x) (hb : Ur.hexv b = some y) (w : World) :
    Calls Tryz.prog 37 #[.string (bs [a, b])] w fun e w' => e = .returned (.string (bs [Ur.hexU x, Ur.hexU y])) ∧ Below w.heap.size w w' := by
  have hlt : ∀ {c : UInt8} {z : Nat}, Ur.hexv c = some z → c.toNat < 128 := by
    intro c z h
    unfold Ur.hexv at h
    split at h
    · omega
    · split at h
      · omega
      · split at h
        · omega
        · cases h
  refine (Tryz.strings_ToUpper_ascii (bs [a, b]) w (by simp) ?_).mono fun e w' h => ⟨?_, h.2⟩
  · intro j c hj
    have hm : c ∈ [a, b] := List.mem_of_getElem? hj
    simp at hm
    rcases hm with rfl | rfl
    · exact hlt ha
    · exact hlt hb
  · have := h.1
    rw [show (bs [a, b]).data.toList = [a, b] from rfl] at this
    unfold Lib.toUpperA at this
    rw [List.map_cons, List.map_cons, List.map_nil, Ur.upper_hex ha, Ur.upper_hex hb] at this
    exact this
def decV (o : Option (List UInt8)) : Value := match o with
  | none => .tuple #[.string (bs []), .int .i64 30]
  | some r => .tuple #[.string (bs r), .int .i64 0]
theorem dec_next {r : List UInt8} {a b : UInt8} {x y : Nat} {t acc : List UInt8} {D : Option (List UInt8)} (hc : Ur.hasC 37 r = true) (ht : Ur.cutB 37 r = a :: b :: t) (ha : Ur.hexv a = some x) (hb : Ur.hexv b = some y)
    (h : (Ur.dec r).map (acc ++ ·) = D) : (Ur.dec t).map ((acc ++ Ur.cutA 37 r ++ Ur.code x y) ++ ·) = D := by
  rw [← h, Ur.dec_cut r, Ur.cut_yes hc, ht, Ur.dec_code t ha hb]
  cases Ur.dec t <;> simp
theorem dec_stop {r acc : List UInt8} {D : Option (List UInt8)} (hc : Ur.hasC 37 r = false) (h : (Ur.dec r).map (acc ++ ·) = D) : D = some (acc ++ Ur.cutA 37 r) := by
  rw [← h, Ur.dec_cut r, Ur.cut_no hc]; simp [Ur.dec_nil]
theorem dec_err1 {r acc : List UInt8} {D : Option (List UInt8)} (hc : Ur.hasC 37 r = true) (hl : (Ur.cutB 37 r).length < 2) (h : (Ur.dec r).map (acc ++ ·) = D) : D = none := by
  rw [← h, Ur.dec_cut r, Ur.cut_yes hc, Ur.dec_short hl]; rfl
theorem dec_err2 {r acc t : List UInt8} {a b : UInt8} {D : Option (List UInt8)} (hc : Ur.hasC 37 r = true) (ht : Ur.cutB 37 r = a :: b :: t) (hn : Ur.hexv a = none ∨ Ur.hexv b = none) (h : (Ur.dec r).map (acc ++ ·) = D) : D = none := by
  rw [← h, Ur.dec_cut r, Ur.cut_yes hc, ht, Ur.dec_bad t hn]; rfl
set_option maxHeartbeats 4000000 in
theorem decode_any (s : List UInt8) (w : World) (hM : MaxL w) (hE : ErrS w) (hs : s.length ≤ 1073741824) :
    Calls Tryz.prog 16 #[.string (bs s)] w fun e w' => e = .returned (decV (Ur.dec s)) ∧ Below w.heap.size w w' := by
  obtain ⟨D, hD⟩ : ∃ D, D = Ur.dec s := ⟨_, rfl⟩
  have H0 : Hid ((Ur.dec s).map (([] : List UInt8) ++ ·) = D) := Lib.hid (by rw [hD]; cases Ur.dec s <;> rfl)
  rw [← hD]
  clear hD
  have HN : Hid (∀ D : Option (List UInt8), D = none → decV D = .tuple #[.string (bs []), .int .i64 30]) := Lib.hid fun D h => by rw [h]; rfl
  have HS : Hid (∀ (D : Option (List UInt8)) r, D = some r → decV D = .tuple #[.string (bs r), .int .i64 0]) := Lib.hid fun D r h => by rw [h]; rfl
  have hib : IB (w.alloc (.cells #[.pointer none, .slice none 0 0] 57)) w.heap.size w.heap.size [] := Lib.fresh_isBuilder _ _ w
  have hal := alloc_below w (.cells #[.pointer none, .slice none 0 0] 57)
  go_enter Tryz.func16, Tryz.ntmps16
  go_upto_region 2 with fail
  generalize w.alloc (.cells #[.pointer none, .slice none 0 0] 57) = w1 at *
  go_loopg [0] s.length (fun q v wr => ∃ r acc : List UInt8, q = r.length ∧ v = .string (bs r) ∧ IB wr w.heap.size w.heap.size acc ∧ Hid ((Ur.dec r).map (acc ++ ·) = D) ∧ acc.length + r.length ≤ s.length ∧ Below w.heap.size w wr)
  case atStart => exact ⟨s, [], rfl, rfl, hib, H0, by simp, hal⟩
  case round =>
    clear hib hal H0
    obtain ⟨r, acc, rfl, rfl, hib, HR, hln, hbr⟩ := hrel
    obtain ⟨wo, rfl⟩ : ∃ wo, wo = wr := ⟨_, rfl⟩
    have hMr := maxl_b hM hbr
    have hC := cut_any r 37 _ hMr (by omega)
    have hlA := Ur.cutA_le 37 r
    have hlB := Ur.cutB_le 37 r
    have hsum : Ur.hasC 37 r = true → (Ur.cutA 37 r).length + 1 + (Ur.cutB 37 r).length = r.length := fun h => by
      have := congrArg List.length (Ur.cut_join h)
      simp at this; omega
    have K1 := Lib.hid fun h => dec_stop (r := r) (acc := acc) (D := D) h HR.out
    have K2 := Lib.hid fun h1 h2 => dec_err1 (r := r) (acc := acc) (D := D) h1 h2 HR.out
    have K3 := Lib.hid fun a b t h1 h2 h3 => dec_err2 (r := r) (acc := acc) (D := D) (a := a) (b := b) (t := t) h1 h2 h3 HR.out
    have K4 := Lib.hid fun a b t x y h1 h2 h3 h4 => dec_next (r := r) (acc := acc) (D := D) (a := a) (b := b) (t := t) (x := x) (y := y) h1 h2 h3 h4 HR.out
    clear HR hMr
    generalize Ur.cutA 37 r = A at *
    generalize Ur.cutB 37 r = T at *
    generalize Ur.hasC 37 r = H at *
    cases H with
    | false =>
      have HF := Lib.hid (HS.out _ _ (K1.out rfl))
      clear K1 K2 K3 K4 hsum HN HS hM hE
      go_wp2_with fail
      refine hC.mono ?_
      rintro e w2 ⟨rfl, hb2⟩
      have hib2 := hib.step hb2
      have hB2 := bnext hbr hb2 hbr.size
      clear hib hC hb2 hbr
      go_wp2_with fail
      refine (ws_any _ _ acc A _ hib2 (by omega) hB2.size).mono ?_
      rintro e w3 ⟨rfl, hub3, hb3⟩
      have hB3 := hB2.trans hb3
      clear hib2 hB2 hb3
      go_wp2_with fail
      refine (str_any _ _ (acc ++ A) _ (.inr hub3) hB3.size).mono ?_
      rintro e w4 ⟨rfl, hb4⟩
      have hB4 := hB3.trans hb4
      clear hub3 hB3 hb4
      go_wp2
      go_ret2
      exact ⟨ret_v HF.out.symm, hB4⟩
    | true =>
      have hsum := hsum rfl
      by_cases hl2 : T.length < 2
      · have HF := Lib.hid (HN.out _ (K2.out rfl hl2))
        clear K1 K2 K3 K4 HN HS hM hE
        go_wp2_with fail
        refine hC.mono ?_
        rintro e w2 ⟨rfl, hb2⟩
        have hib2 := hib.step hb2
        have hB2 := bnext hbr hb2 hbr.size
        clear hib hC hb2 hbr
        go_wp2_with fail
        refine (ws_any _ _ acc A _ hib2 (by omega) hB2.size).mono ?_
        rintro e w3 ⟨rfl, hub3, hb3⟩
        have hB3 := hB2.trans hb3
        clear hib2 hB2 hb3
        go_wp2
        go_ret2
        exact ⟨ret_v HF.out.symm, hB3⟩
      · obtain ⟨a, b, t, rfl⟩ : ∃ a b t, T = a :: b :: t := by
          match T, hl2 with
          | [], h => simp at h
          | [_], h => simp at h
          | a :: b :: t, _ => exact ⟨a, b, t, rfl⟩
        have htl : (2 : Int) ≤ ((a :: b :: t).length : Int) := by simp; omega
        rcases Classical.em (Ur.hexv a = none ∨ Ur.hexv b = none) with hn | hn
        · have HF := Lib.hid (HN.out _ (K3.out a b t rfl rfl hn))
          have hPU := spu_none hn
          clear K1 K2 K3 K4 HN HS hn
          go_wp2_with fail
          refine hC.mono ?_
          rintro e w2 ⟨rfl, hb2⟩
          have hib2 := hib.step hb2
          have hB2 := bnext hbr hb2 hbr.size
          clear hib hC hb2 hbr
          go_wp2_with fail
          refine (ws_any _ _ acc A _ hib2 (by omega) hB2.size).mono ?_
          rintro e w3 ⟨rfl, hub3, hb3⟩
          have hB3 := hB2.trans hb3
          clear hib2 hB2 hb3
          go_wp2_with fail
          refine (hPU _ (errs_b hE hB3)).mono ?_
          rintro e w4 ⟨p, rfl, hb4⟩
          have hB4 := bnext hB3 hb4 hB3.size
          clear hPU
          go_wp2
          go_ret2
          exact ⟨ret_v HF.out.symm, hB4⟩
        · obtain ⟨x, hx⟩ : ∃ x, Ur.hexv a = some x := by cases h : Ur.hexv a with
            | none => exact absurd (.inl h) hn
            | some x => exact ⟨x, rfl⟩
          obtain ⟨y, hy⟩ : ∃ y, Ur.hexv b = some y := by cases h : Ur.hexv b with
            | none => exact absurd (.inr h) hn
            | some x => exact ⟨x, rfl⟩
          have HD := Lib.hid (K4.out a b t x y rfl rfl hx hy)
          have hPU := spu_some hx hy
          have hUP := upper2 hx hy
          have HCo : Hid (Ur.code x y = if Ur.unres (UInt8.ofNat (16 * x + y)) = true then [UInt8.ofNat (16 * x + y)] else [37, Ur.hexU x, Ur.hexU y]) := Lib.hid rfl
          generalize Ur.code x y = CO at *
          generalize UInt8.ofNat (16 * x + y) = c at *
          generalize Ur.hexU x = X at *
          generalize Ur.hexU y = Y at *
          have hUn := unres_any c
          have hc255 := c.toNat_lt
          clear K1 K2 K3 K4 HN HS hn hx hy
          simp only [List.length_cons] at hsum hlB
          cases hu : Ur.unres c with
          | true =>
            have hCO : CO = [c] := by rw [HCo.out, if_pos hu]
            subst hCO
            rw [hu] at hUn
            clear hu HCo hUP
            go_wp2_with fail
            refine hC.mono ?_
            rintro e w2 ⟨rfl, hb2⟩
            have hib2 := hib.step hb2
            have hB2 := bnext hbr hb2 hbr.size
            clear hib hC hb2 hbr
            go_wp2_with fail
            refine (ws_any _ _ acc A _ hib2 (by omega) hB2.size).mono ?_
            rintro e w3 ⟨rfl, hub3, hb3⟩
            have hB3 := hB2.trans hb3
            clear hib2 hB2 hb3
            go_wp2_with fail
            refine (hPU _).mono ?_
            rintro e w4 ⟨rfl, hb4⟩
            have hB4 := bnext hB3 hb4 hB3.size
            have hub4 := hub3.step hb4
            clear hPU hub3 hB3 hb4
            go_wp2_with fail
            refine (hUn _).mono ?_
            rintro e w5 ⟨rfl, rfl⟩
            clear hUn
            go_wp2_with fail
            refine (wb_any _ _ (acc ++ A) c _ (.inr hub4) (by simp; omega) hB4.size).mono ?_
            rintro e w6 ⟨rfl, hub6, hb6⟩
            have hB6 := hB4.trans hb6
            clear hub4 hB4 hb6
            go_wp2
            go_roundg t.length
            case measure => omega
            case rel => exact ⟨t, acc ++ A ++ [c], rfl, by first | rfl | simp, .inr hub6, HD, by simp; omega, hB6⟩
          | false =>
            have hCO : CO = [37, X, Y] := by rw [HCo.out, if_neg (by rw [hu]; simp)]
            subst hCO
            rw [hu] at hUn
            clear hu HCo
            go_wp2_with fail
            refine hC.mono ?_
            rintro e w2 ⟨rfl, hb2⟩
            have hib2 := hib.step hb2
            have hB2 := bnext hbr hb2 hbr.size
            clear hib hC hb2 hbr
            go_wp2_with fail
            refine (ws_any _ _ acc A _ hib2 (by omega) hB2.size).mono ?_
            rintro e w3 ⟨rfl, hub3, hb3⟩
            have hB3 := hB2.trans hb3
            clear hib2 hB2 hb3
            go_wp2_with fail
            refine (hPU _).mono ?_
            rintro e w4 ⟨rfl, hb4⟩
            have hB4 := bnext hB3 hb4 hB3.size
            have hub4 := hub3.step hb4
            clear hPU hub3 hB3 hb4
            go_wp2_with fail
            refine (hUn _).mono ?_
            rintro e w5 ⟨rfl, rfl⟩
            clear hUn
            go_wp2_with fail
            refine (hUP _).mono ?_
            rintro e w6 ⟨rfl, hb6⟩
            have hB6 := bnext hB4 hb6 hB4.size
            have hub6 := hub4.step hb6
            clear hUP hub4 hB4 hb6
            go_wp2_with fail
            refine (ws_any _ _ (acc ++ A) [37, X, Y] _ (.inr hub6) (by simp; omega) hB6.size).mono ?_
            rintro e w7 ⟨rfl, hub7, hb7⟩
            have hB7 := hB6.trans hb7
            clear hub6 hB6 hb7
            go_wp2
            go_roundg t.length
            case measure => omega
            case rel => exact ⟨t, acc ++ A ++ [37, X, Y], rfl, by first | rfl | simp, .inr hub7, HD, by simp; omega, hB7⟩
end Go.Proofs.YtdeaoagdjnnppaaGreatDoor
