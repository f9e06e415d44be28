/- Joined texts: The reference's Apply where several spans are asked for. The conditions stand in each line. -/
import Derived.Test.YtcaekfebnhedpaaGreatDoorM37
import Derived.Test.YtcaekfebnhedpaaGreatDoorM39
set_option linter.unusedVariables false
set_option linter.unusedSimpArgs false
namespace Go.Proofs.YtcaekfebnhedpaaGreatDoor
open Go.RowKit

set_option maxRecDepth 100000
/-- bytes onto bytes, in a region that draws. -/
theorem step_appBr {w : World} {ops : Array Oper} {o : Oper} {a : Act} {K : Act → World → Prop} {Q : Exit → Act → World → Prop} {E : Prop} (hgd : o.guard = none) (s x : Operand) (ho : o.op = .call { callee := .builtin .append, args := #[s, x], argTypes := #[32, 32] })
    (base : Nat) (v : Value) (l : List UInt8) (hs : a.eval s = v) (hown : OwnB w base v l) (A : Option Addr) (m c : Nat) (news : List UInt8) (hx : a.eval x = .slice A m c) (hr : RdB w A m news)
    (hbytes : l.length + m ≤ 140737488355328) (hbase : base ≤ w.heap.size)
    (h : ∀ A' n' c' w', OwnB w' base (.slice A' n' c') (l ++ news) → Below base w w' → Hid (n' = l.length + m) → K (a.put o.dst (.slice A' n' c')) w') : if Region.wanted o (yielded ops a.tmps) = true then Oper.wp Tryz.prog o a w K Q else E := by
  obtain ⟨i0, hi, hz0, hz1, hz2⟩ := info_parts byt_info
  refine step_append_any w hgd s x 32 ho base 5 i0 (.int .u8 0) 1 1 Tryz.underlying32 hi hz0 hz1 hz2 rfl (by decide) v l.length (l.map bytV) hs hown A m c (news.map bytV) hx hr.2 (byts_one _) (by unfold maxLen; omega) (by omega) hbase fun v' w' h2 h3 _ => ?_
  obtain ⟨A', c', rfl⟩ := own_slice h2
  refine h A' _ c' w' ?_ ((Below.refl base w).grown h3 hbase fun k hk => (hown.lt k hk).1) (Lib.hid rfl)
  unfold OwnB
  rw [List.length_append, hr.1, List.map_append]
  exact h2
set_option maxHeartbeats 8000000 in
theorem rapply_many (A : Option Addr) (n c : Nat) (q : List Fld) (st : Int) (rs : List UInt8) (minor : Int) (B : Option Addr) (m d : Nat) (l : List Fld) (Y : Option Addr) (k e : Nat) (b : List UInt8) (w : World) (ht : Tab w) (hM : MaxL w)
    (hq : RdF w A n q) (hn : n ≤ 1048576) (hqs : FlenS q) (hqj : (Frs.getL q Rg.rngR).length ≤ 1073741824) (hl : RdF w B m l) (hm : m ≤ 1048576) (hls : FlenS l) (hb : RdB w Y k b) (hk : k ≤ 4194304) (hke : k ≤ e) (hee : e ≤ maxLen) (q0 : List Rg.Sp) (has : ¬ Rg.asIs q st l b) (hsp1 : Rg.parseL (Frs.getL q Rg.rngR) b.length = (q0, 0)) (hpin : ∀ p ∈ q0, 0 ≤ p.1 ∧ p.1 ≤ p.2 ∧ p.2 < (b.length : Int)) (hq1 : q0.length ≠ 1) (hq8 : q0.length ≤ 8) :
    Calls Tryz.prog 18 #[.slice A n c, respV st rs minor B m d, .slice Y k e] w fun x w' => ApOut w minor (Rg.manyA l b q0) x w' := by
  unfold respV
  have hee2 : (e : Int) ≤ 9223372036854775807 := by unfold maxLen at hee; omega
  have hb1 := alloc_below w (.cells #[.int .i64 st, .string (bs rs), .int .i64 minor, .slice B m d] 31)
  have hr1 := heap_alloc_new w (.cells #[.int .i64 st, .string (bs rs), .int .i64 minor, .slice B m d] 31)
  have hb2 := alloc_below (w.alloc (.cells #[.int .i64 st, .string (bs rs), .int .i64 minor, .slice B m d] 31)) (.cells #[.int .i64 0, .string ⟨#[]⟩, .int .i64 0, .slice none 0 0] 31)
  have hz2 := heap_alloc_new (w.alloc (.cells #[.int .i64 st, .string (bs rs), .int .i64 minor, .slice B m d] 31)) (.cells #[.int .i64 0, .string ⟨#[]⟩, .int .i64 0, .slice none 0 0] 31)
  rw [show (w.alloc (.cells #[.int .i64 st, .string (bs rs), .int .i64 minor, .slice B m d] 31)).heap.size = w.heap.size + 1 by simp] at hz2
  have hr2 := row_keep hr1 hb2
  have hb0 := bnext hb1 hb2 hb1.size
  have hsz2 : w.heap.size + 2 ≤ ((w.alloc (.cells #[.int .i64 st, .string (bs rs), .int .i64 minor, .slice B m d] 31)).alloc (.cells #[.int .i64 0, .string ⟨#[]⟩, .int .i64 0, .slice none 0 0] 31)).heap.size := by simp
  have hG : Hid (∀ W, Below w.heap.size w W → Calls Tryz.prog 43 #[.slice A n c, .string (bs Rg.rngR)] W fun x w' => x = .returned (.tuple #[.string (bs (Frs.getL q Rg.rngR)), .bool (!(valuesL q Rg.rngR).isEmpty)]) ∧ Below W.heap.size W w') := Lib.hid fun W hW => by
    have h := getR_any A n c q Rg.rngR W (hq.step hW) hn hqs (by decide)
    change Calls Tryz.prog 43 _ _ fun x w' => x = .returned (.tuple #[.string (bs (Frs.getL q Rg.rngR)), .bool (!(valuesL q Rg.rngR).isEmpty)]) ∧ _ at h
    rw [show Frs.getL q Rg.rngR = Frs.getL q Rg.rngR from Frs.get_name rfl, show valuesL q Rg.rngR = valuesL q Rg.rngR from valuesL_nameG rfl] at h
    exact h
  clear hr1 hb1 hb2
  have hPC : Hid (∀ W, Below w.heap.size w W → Calls Tryz.prog 12 #[.string (bs (Frs.getL q Rg.rngR)), .int .i64 (k : Int)] W fun x w' => RgOut W (Frs.getL q Rg.rngR) (k : Int) x w') := Lib.hid fun W hW => parse19_r (Frs.getL q Rg.rngR) (k : Int) W (maxl_b hM hW) hqj (by omega) (by omega)
  unfold RgOut at hPC
  have hHO : Hid (∀ W, Below w.heap.size w W → Calls Tryz.prog 44 #[.slice A n c, .agg #[.int .i64 st, .string (bs rs), .int .i64 minor, .slice B m d]] W fun x w' => x = .returned (.bool (Rg.holdsL q l)) ∧ Below W.heap.size W w') := Lib.hid fun W hW => holds_r A n c q st rs minor B m d l W (hq.step hW) hn hqs (hl.step hW) hm hls
  have h200 : st = 200 := Classical.byContradiction fun h => has (.inl h)
  have hvne : valuesL q Rg.rngR ≠ [] := fun h => has (.inr (.inl h))
  have h190 : (Rg.parseL (Frs.getL q Rg.rngR) b.length).2 ≠ 190 := fun h => has (.inr (.inr (.inl h)))
  have hhT : Rg.holdsL q l = true := by
    cases h : Rg.holdsL q l with
    | true => rfl
    | false => exact absurd (.inr (.inr (.inr h))) has
  have hbl := hb.1
  rw [hbl] at h190
  have hve2 : (!(valuesL q Rg.rngR).isEmpty) = true := by
    cases h : valuesL q Rg.rngR with
    | nil => exact absurd h hvne
    | cons x r => rfl
  subst h200
  clear has hvne
  rw [hbl] at hsp1 hpin
  have HA : Hid (Rg.manyA l b q0 = ⟨206, Rg.partT, Rg.putF (withoutF l [Rg.clP, Rg.crP]) Rg.ctP (Rg.mulT ++ Rg.markT (Rg.markN b)), Rg.partsL (Rg.markT (Rg.markN b)) (Frs.getL l Rg.ctR) (!(valuesL l Rg.ctR).isEmpty) b q0⟩) := Lib.hid rfl
  generalize Rg.manyA l b q0 = AN at *
  rw [hsp1] at hPC
  obtain ⟨m1, m2, m3⟩ := Rg.mark_spec (b := b) (by rw [hbl]; exact hk)
  have H2 := Lib.hid m2
  have H3 := Lib.hid m3
  have HMT : Hid (∀ j, Rg.markT j = Rg.conT ++ Lib.decDigits j) := Lib.hid fun j => rfl
  generalize Rg.markN b = N at *
  clear m2 m3
  have HGC : Hid (∀ W, Below w.heap.size w W → Calls Tryz.prog 43 #[.slice B m d, .string (bs Rg.ctR)] W fun x w' => x = .returned (.tuple #[.string (bs (Frs.getL l Rg.ctR)), .bool (!(valuesL l Rg.ctR).isEmpty)]) ∧ Below W.heap.size W w') := Lib.hid fun W hW => getR_any B m d l Rg.ctR W (hl.step hW) hm hls (by decide)
  have hkl := Frs.get_len hls (by rw [hl.1]; exact hm) Rg.ctR
  generalize Frs.getL l Rg.ctR = kind at *
  generalize (!(valuesL l Rg.ctR).isEmpty) = typed at *
  generalize Frs.getL q Rg.rngR = V at *
  rw [hve2] at hG
  rw [hhT] at hHO
  clear hve2 hhT h190 hsp1
  dsimp only at hPC
  go_enter Tryz.func18, Tryz.ntmps18
  go_upto_region 1 with fail
  generalize (w.alloc (.cells #[.int .i64 200, .string (bs rs), .int .i64 minor, .slice B m d] 31)).alloc (.cells #[.int .i64 0, .string ⟨#[]⟩, .int .i64 0, .slice none 0 0] 31) = w2 at *
  obtain ⟨a0, a1, a2, a3, -⟩ := row_facts4 hr2
  have hC := copyResponse_own 200 rs minor B m d l w2 (hl.step hb0) (by omega)
  unfold respV at hC
  go_wp2_with fail
  refine hC.mono ?_
  rintro xx w2b ⟨Ac, nc, cc, rfl, hW8, hb2b⟩
  clear hC a0 a1 a2 a3
  replace hr2 := row_keep hr2 hb2b
  replace hz2 := row_keep hz2 hb2b
  replace hb0 := bnext hb0 hb2b hb0.size
  replace hW8 := hW8.mono (show w.heap.size + 2 ≤ w2.heap.size from hsz2)
  replace hsz2 : w.heap.size + 2 ≤ w2b.heap.size := Nat.le_trans hsz2 hb2b.size
  clear hb2b
  have hal8 := alloc_below w2b (.cells #[.int .i64 200, .string (bs rs), .int .i64 minor, .slice Ac nc cc] 31)
  have h82 := heap_alloc_new w2b (.cells #[.int .i64 200, .string (bs rs), .int .i64 minor, .slice Ac nc cc] 31)
  have hg8a : w2b.heap.size < (w2b.alloc (.cells #[.int .i64 200, .string (bs rs), .int .i64 minor, .slice Ac nc cc] 31)).heap.size := by simp
  go_upto_region 2 with fail
  replace hr2 := row_keep hr2 hal8
  replace hz2 := row_keep hz2 hal8
  replace hW8 := hW8.step hal8
  replace hb0 := bnext hb0 hal8 hb0.size
  clear hal8
  generalize w2b.alloc (.cells #[.int .i64 200, .string (bs rs), .int .i64 minor, .slice Ac nc cc] 31) = w2c at *
  generalize w2b.heap.size = g8 at *
  go_wp2_with fail
  refine (hG.out _ hb0).mono ?_
  rintro xx w3 ⟨rfl, hb3⟩
  have hr3 := row_keep hr2 hb3
  have hz3 := row_keep hz2 hb3
  have h83 := row_keep h82 hb3
  replace hW8 := hW8.step hb3
  replace hb0 := bnext hb0 hb3 hb0.size
  have hg8b : g8 < w3.heap.size := Nat.lt_of_lt_of_le hg8a hb3.size
  clear hr2 hz2 h82 hg8a hb3 hG
  go_wp2_with fail
  refine (hPC.out _ hb0).mono ?_
  rintro xx w4 ⟨A4, n4, c4, rfl, hP, hb4⟩
  have hr4 := row_keep hr3 hb4
  have hz4 := row_keep hz3 hb4
  have h84 := row_keep h83 hb4
  replace hW8 := hW8.step hb4
  replace hP := hP.mono (show g8 + 1 ≤ w3.heap.size by omega)
  replace hb0 := bnext hb0 hb4 hb0.size
  have hg8 : g8 < w4.heap.size := Nat.lt_of_lt_of_le hg8b hb4.size
  clear hr3 hz3 h83 hg8b hb4 hPC
  obtain ⟨a0, a1, a2, a3, -⟩ := row_facts4 hr4
  go_wp2_with fail
  refine (hHO.out _ hb0).mono ?_
  rintro xx w4b ⟨rfl, hb4b⟩
  clear hHO a0 a1 a2 a3
  replace hr4 := row_keep hr4 hb4b
  replace hz4 := row_keep hz4 hb4b
  replace h84 := row_keep h84 hb4b
  replace hW8 := hW8.step hb4b
  replace hP := hP.step hb4b
  replace hb0 := bnext hb0 hb4b hb0.size
  replace hg8 : g8 < w4b.heap.size := Nat.lt_of_lt_of_le hg8 hb4b.size
  clear hb4b
  clear h84 hW8
  have hn4 : n4 = q0.length := hP.rd.1.symm
  have hn4b : ((n4 : Int) == 1) = false := by rw [beq_eq_false_iff_ne]; omega
  have hn48 : n4 ≤ 8 := by omega
  clear hn4
  obtain ⟨a0, a1, a2, a3, -⟩ := row_facts4 hr4
  have hal6 := alloc_below w4b (.cells #[.int .i64 206, .string ⟨#[80, 97, 114, 116, 105, 97, 108, 32, 67, 111, 110, 116, 101, 110, 116]⟩, .int .i64 minor, .slice none 0 0] 31)
  have ho6 := heap_alloc_new w4b (.cells #[.int .i64 206, .string ⟨#[80, 97, 114, 116, 105, 97, 108, 32, 67, 111, 110, 116, 101, 110, 116]⟩, .int .i64 minor, .slice none 0 0] 31)
  have hB6 := hal6
  go_upto_region 10 with fail
  clear a0 a1 a2 a3
  replace hr4 := row_keep hr4 hal6
  replace hz4 := row_keep hz4 hal6
  replace hb0 := bnext hb0 hal6 hb0.size
  have hg6 : g8 < w4b.heap.size := hg8
  have hg6b : w4b.heap.size < (w4b.alloc (.cells #[.int .i64 206, .string ⟨#[80, 97, 114, 116, 105, 97, 108, 32, 67, 111, 110, 116, 101, 110, 116]⟩, .int .i64 minor, .slice none 0 0] 31)).heap.size := by simp
  clear hal6 hg8
  generalize w4b.alloc (.cells #[.int .i64 206, .string ⟨#[80, 97, 114, 116, 105, 97, 108, 32, 67, 111, 110, 116, 101, 110, 116]⟩, .int .i64 minor, .slice none 0 0] 31) = w6 at *
  generalize hg6e9 : w4b.heap.size = g6 at *
  have hg6e : w4b.heap.size ≤ g6 := by omega
  have HG6 := Lib.hid hg6e9
  clear hg6e9
  go_upto_region 14 with fail
  go_wp2
  go_loopw [16] (fun t wr => ∃ kk : Nat, kk ≤ N ∧ t = .int .i64 (kk : Int) ∧ Below w6.heap.size w6 wr) (fun t _ => N - (intOf t).toNat)
  case atStart => exact ⟨0, by omega, rfl, Below.refl _ _⟩
  case round =>
    obtain ⟨kk, hkk, rfl, hbr⟩ := hrel
    have hbw := bnext hb0 hbr hb0.size
    have hSH := fun W => show_pos kk W (by omega)
    have hD := dec_len (k := kk) (by omega)
    have H2' : Hid (kk = N → Rg.occB (Rg.dashT ++ (Rg.conT ++ Lib.decDigits kk)) b = false) := Lib.hid fun h => by subst h; have := H2.out; rwa [HMT.out] at this
    have H3' : Hid (kk ≠ N → Rg.occB (Rg.dashT ++ (Rg.conT ++ Lib.decDigits kk)) b = true) := Lib.hid fun h => by have := H3.out kk (by omega); rwa [HMT.out] at this
    have HE : Hid (kk = N → Rg.markT N = Rg.conT ++ Lib.decDigits kk) := Lib.hid fun h => by rw [← h, HMT.out]
    clear H2 H3
    generalize Lib.decDigits kk = D at *
    have hcat : (⟨#[45, 45, 99, 111, 110, 100, 117, 105, 116, 45]⟩ : ByteArray) ++ bs D = bs (Rg.dashT ++ (Rg.conT ++ D)) := by apply ByteArray.ext; simp [bs]
    have hcat2 : (⟨#[99, 111, 110, 100, 117, 105, 116, 45]⟩ : ByteArray) ++ bs D = bs (Rg.conT ++ D) := by apply ByteArray.ext; simp [bs]
    have hol : 1 ≤ (Rg.dashT ++ (Rg.conT ++ D)).length ∧ (Rg.dashT ++ (Rg.conT ++ D)).length ≤ 100 := by constructor <;> simp <;> omega
    have hml : (Rg.conT ++ D).length ≤ 100 := by simp; omega
    have hOC := fun W hW => occurs_any Y k e b (Rg.dashT ++ (Rg.conT ++ D)) W (hb.step (hW : Below w.heap.size w W)) (by omega) hke hee hol.1 (by omega)
    generalize Rg.dashT ++ (Rg.conT ++ D) = OT at *
    generalize Rg.conT ++ D = MK at *
    go_wp2_with fail
    refine (hSH wr).mono ?_
    rintro xx w7 ⟨rfl, hb7⟩
    replace hbr := bnext hbr hb7 hbr.size
    replace hbw := bnext hbw hb7 hbw.size
    have hO7 := hOC w7 hbw
    clear hOC hb7
    by_cases hkN : kk = N
    · have hf := H2'.out hkN
      have HE2 := Lib.hid (HE.out hkN)
      rw [hf] at hO7
      clear H2' H3' HE hf hkN
      go_wp2_with fail
      refine hO7.mono ?_
      rintro xx w8 ⟨rfl, hw8⟩
      subst hw8
      clear hO7
      go_wp2_with fail
      refine (hSH _).mono ?_
      rintro xx w9 ⟨rfl, hb9⟩
      replace hbr := bnext hbr hb9 hbr.size
      replace hbw := bnext hbw hb9 hbw.size
      clear hb9 hSH
      have hr9 := row_keep hr4 hbr
      have hz9 := row_keep hz4 hbr
      have ho9 := row_keep ho6 hbr
      have hB9 := hB6.trans (hbr.mono (by omega))
      have hg9 : g6 < w9.heap.size := Nat.lt_of_lt_of_le hg6b hbr.size
      rw [HE2.out] at HA
      clear hr4 hz4 ho6 hB6 hg6b HE2
      obtain ⟨a0, a1, a2, a3, -⟩ := row_facts4 hr9
      go_wp2_with fail
      refine (HGC.out w9 hbw).mono ?_
      rintro xx w10 ⟨rfl, hb10⟩
      clear a0 a1 a2 a3 HGC hbr
      have hr10 := row_keep hr9 hb10
      have hz10 := row_keep hz9 hb10
      have ho10 := row_keep ho9 hb10
      replace hbw := bnext hbw hb10 hbw.size
      have hB10 := bnext hB9 hb10 (by omega)
      have hg10 : g6 < w10.heap.size := Nat.lt_of_lt_of_le hg9 hb10.size
      clear hr9 hz9 ho9 hB9 hg9 hb10
      have hmd := OwnB.made w10
      have hbm := alloc_below w10 (.cells #[] 5)
      obtain ⟨Bs, hBs⟩ : ∃ Bs, Bs = w10.heap.size := ⟨_, rfl⟩
      have hBs1 : Bs ≤ w10.heap.size := by omega
      have hBs2 : g6 < Bs := by omega
      replace hbm := hbm.mono hBs1
      have hBsz0 : Bs ≤ (w10.alloc (.cells #[] 5)).heap.size := by simp; omega
      replace hmd := hmd.mono hBs1
      clear hBs
      go_upto_region 20 with fail
      go_wp2
      cases typed with
      | true =>
        go_loopw [20, 21] (fun gv t wr => ∃ (ii : Nat) (A5 : Option Addr) (n5 c5 : Nat), ii ≤ n4 ∧ t = .int .i64 (ii : Int) ∧ gv = .slice A5 n5 c5 ∧ OwnB wr Bs (.slice A5 n5 c5) (((q0.take ii).map (Rg.partL MK kind true b)).flatten) ∧ (((q0.take ii).map (Rg.partL MK kind true b)).flatten).length ≤ ii * 1099600000000 ∧ Below Bs w10 wr) (fun _ t _ => n4 - (intOf t).toNat)
        case atStart => exact ⟨0, _, 0, 0, by omega, rfl, rfl, hmd, by simp, hbm⟩
        case round =>
          obtain ⟨ii, A5, n5, c5, hii, rfl, rfl, hown, hal2, hbr⟩ := hrel
          clear hmd hbm hBsz0
          have hBsz : Bs ≤ wr.heap.size := Nat.le_trans hBs1 hbr.size
          have hbwr := hbw.trans (hbr.mono (by omega))
          have hBr := hB10.trans (hbr.mono (by omega))
          by_cases hlt : ii < n4
          · obtain ⟨gs, os_, x, y, rfl, hgs, HX, s0, s1⟩ := (hP.rd.step (hBr.mono hg6e)).at_ hlt
            have hxy := hpin _ (mem_of_get? HX.out)
            obtain ⟨x0, x1, x2⟩ := hxy
            dsimp only at x0 x1 x2
            obtain ⟨i, rfl⟩ : ∃ i : Nat, x = i := ⟨x.toNat, by omega⟩
            obtain ⟨j, rfl⟩ : ∃ j : Nat, y = j := ⟨y.toNat, by omega⟩
            have HPT := Lib.hid fun W => place_r i j k W (by omega) (by omega) (by omega) (by omega) (by omega)
            have hpl := placeL_len ((i : Int), (j : Int)) k (by show (i : Int) < _; omega) (by show (j : Int) < _; omega) (by omega)
            have HACC : Hid (((q0.take (ii + 1)).map (Rg.partL MK kind true b)).flatten = ((q0.take ii).map (Rg.partL MK kind true b)).flatten ++ Rg.partL MK kind true b ((i : Int), (j : Int))) := Lib.hid (by rw [take_snoc? HX.out]; simp)
            have HPLEN := Lib.hid (partL_len MK kind true b ((i : Int), (j : Int)) hml hkl (by omega) (by rw [hbl]; exact hpl))
            have HPE : Hid (Rg.partL MK kind true b ((i : Int), (j : Int)) = ([13, 10, 45, 45] ++ MK ++ [13, 10]) ++ ((Rg.ctT ++ kind ++ [13, 10]) ++ ((Rg.crT ++ Rg.placeL ((i : Int), (j : Int)) k ++ [13, 10, 13, 10]) ++ (b.drop i).take (j + 1 - i)))) := Lib.hid (by unfold Rg.partL Rg.pieceL; rw [hbl]; simp)
            generalize ((q0.take ii).map (Rg.partL MK kind true b)).flatten = ACC at *
            generalize Rg.placeL ((i : Int), (j : Int)) k = PT at *
            have hacc : ACC.length ≤ 8796800000000 := by omega
            have hcv1 : (convert 9 32 (.string (((⟨#[13, 10, 45, 45]⟩ : ByteArray) ++ bs MK) ++ ⟨#[13, 10]⟩))).run Tryz.prog wr = .ok (.slice (some ⟨wr.heap.size, 0, none⟩) ([13, 10, 45, 45] ++ MK ++ [13, 10]).length (grownCap wr ([13, 10, 45, 45] ++ MK ++ [13, 10]).length 0 5)) (Lib.bytesWorld wr 5 (bs ([13, 10, 45, 45] ++ MK ++ [13, 10]))) := by
              rw [show (((⟨#[13, 10, 45, 45]⟩ : ByteArray) ++ bs MK) ++ ⟨#[13, 10]⟩ : ByteArray) = bs ([13, 10, 45, 45] ++ MK ++ [13, 10]) from by apply ByteArray.ext; simp [bs]]
              exact conv_sb _ _
            have hrow1 := bytesWorld_row wr 5 ([13, 10, 45, 45] ++ MK ++ [13, 10])
            have hbel1 := bytesWorld_below wr 5 (bs ([13, 10, 45, 45] ++ MK ++ [13, 10]))
            have hrd1 := hrow1.rd (by rw [Lib.bytesWorld_size]; omega)
            have hoq1 := hown.step hbel1
            have hll1 : ([13, 10, 45, 45] ++ MK ++ [13, 10]).length ≤ 1099513729000 := by simp; omega
            generalize Lib.bytesWorld wr 5 (bs ([13, 10, 45, 45] ++ MK ++ [13, 10])) = wq1 at *
            generalize grownCap wr ([13, 10, 45, 45] ++ MK ++ [13, 10]).length 0 5 = cq1 at *
            generalize hln1 : ([13, 10, 45, 45] ++ MK ++ [13, 10]).length = LN1 at *
            have HLN1 := Lib.hid hln1
            clear hln1
            go_upto_region 25 with
              (at_builtin; go_loud (
               refine wp_appB rfl (.tmp 127) (.tmp 131) rfl Bs (.slice A5 n5 c5) (ACC) rfl hoq1 _ _ _ ([13, 10, 45, 45] ++ MK ++ [13, 10]) rfl hrd1 ?hby1 ?hbase1 ?_
               case hby1 => omega
               case hbase1 => exact Nat.le_trans hBsz hbel1.size
               intro A1 n1 c1 w21 ho1 hbz1 hnz1))
            replace hbr := (bnext hbr hbel1 hBsz).trans hbz1
            replace hBsz : Bs ≤ w21.heap.size := Nat.le_trans hBsz (Nat.le_trans hbel1.size hbz1.size)
            clear hrow1 hbel1 hrd1 hoq1 hcv1 hbz1
            have hacc1 : (ACC ++ ([13, 10, 45, 45] ++ MK ++ [13, 10])).length ≤ 8796800001000 := by have := hll1; have := HLN1.out; rw [List.length_append]; omega
            generalize hAC1 : ACC ++ ([13, 10, 45, 45] ++ MK ++ [13, 10]) = ACC1 at *
            have HAC1 := Lib.hid hAC1
            clear hAC1 hown
            have hcv2 : (convert 9 32 (.string (((⟨#[67, 111, 110, 116, 101, 110, 116, 45, 84, 121, 112, 101, 58, 32]⟩ : ByteArray) ++ bs kind) ++ ⟨#[13, 10]⟩))).run Tryz.prog w21 = .ok (.slice (some ⟨w21.heap.size, 0, none⟩) (Rg.ctT ++ kind ++ [13, 10]).length (grownCap w21 (Rg.ctT ++ kind ++ [13, 10]).length 0 5)) (Lib.bytesWorld w21 5 (bs (Rg.ctT ++ kind ++ [13, 10]))) := by
              rw [show (((⟨#[67, 111, 110, 116, 101, 110, 116, 45, 84, 121, 112, 101, 58, 32]⟩ : ByteArray) ++ bs kind) ++ ⟨#[13, 10]⟩ : ByteArray) = bs (Rg.ctT ++ kind ++ [13, 10]) from by apply ByteArray.ext; simp [bs]]
              exact conv_sb _ _
            have hrow2 := bytesWorld_row w21 5 (Rg.ctT ++ kind ++ [13, 10])
            have hbel2 := bytesWorld_below w21 5 (bs (Rg.ctT ++ kind ++ [13, 10]))
            have hrd2 := hrow2.rd (by rw [Lib.bytesWorld_size]; omega)
            have hoq2 := ho1.step hbel2
            have hll2 : (Rg.ctT ++ kind ++ [13, 10]).length ≤ 1099513729000 := by simp; omega
            generalize Lib.bytesWorld w21 5 (bs (Rg.ctT ++ kind ++ [13, 10])) = wq2 at *
            generalize grownCap w21 (Rg.ctT ++ kind ++ [13, 10]).length 0 5 = cq2 at *
            generalize hln2 : (Rg.ctT ++ kind ++ [13, 10]).length = LN2 at *
            have HLN2 := Lib.hid hln2
            clear hln2
            go_upto_region 26 with
              (at_builtin; go_loud (
               refine wp_appB rfl (.tmp 134) (.tmp 138) rfl Bs (.slice A1 n1 c1) (ACC1) rfl hoq2 _ _ _ (Rg.ctT ++ kind ++ [13, 10]) rfl hrd2 ?hby2 ?hbase2 ?_
               case hby2 => omega
               case hbase2 => exact Nat.le_trans hBsz hbel2.size
               intro A2 n2 c2 w22 ho2 hbz2 hnz2))
            replace hbr := (bnext hbr hbel2 hBsz).trans hbz2
            replace hBsz : Bs ≤ w22.heap.size := Nat.le_trans hBsz (Nat.le_trans hbel2.size hbz2.size)
            clear hrow2 hbel2 hrd2 hoq2 hcv2 hbz2
            have hacc2 : (ACC1 ++ (Rg.ctT ++ kind ++ [13, 10])).length ≤ 9896800001000 := by have := hll2; have := HLN2.out; rw [List.length_append]; omega
            generalize hAC2 : ACC1 ++ (Rg.ctT ++ kind ++ [13, 10]) = ACC2 at *
            have HAC2 := Lib.hid hAC2
            clear hAC2 ho1
            have hB2 := hB10.trans (hbr.mono (by omega))
            obtain ⟨gs2, os2, x2, y2, hg2, hgs2, HX2, s02, s12⟩ := (hP.rd.step (hB2.mono hg6e)).at_ hlt
            injection hg2 with hg2
            injection hg2 with hg2 hg3
            subst hg2 hg3
            have hXY : ((x2, y2) : Int × Int) = ((i : Int), (j : Int)) := by have h1 := HX2.out; rw [HX.out] at h1; exact (Option.some.inj h1).symm
            injection hXY with hx2 hy2
            subst hx2 hy2
            clear HX2
            go_wp2_with fail
            refine (HPT.out _).mono ?_
            rintro xx w23 ⟨rfl, hb23⟩
            replace hbr := bnext hbr hb23 hBsz
            replace hBsz : Bs ≤ w23.heap.size := Nat.le_trans hBsz hb23.size
            have hoP := ho2.step hb23
            clear hb23 HPT
            have hcv3 : (convert 9 32 (.string (((⟨#[67, 111, 110, 116, 101, 110, 116, 45, 82, 97, 110, 103, 101, 58, 32]⟩ : ByteArray) ++ bs PT) ++ ⟨#[13, 10, 13, 10]⟩))).run Tryz.prog w23 = .ok (.slice (some ⟨w23.heap.size, 0, none⟩) (Rg.crT ++ PT ++ [13, 10, 13, 10]).length (grownCap w23 (Rg.crT ++ PT ++ [13, 10, 13, 10]).length 0 5)) (Lib.bytesWorld w23 5 (bs (Rg.crT ++ PT ++ [13, 10, 13, 10]))) := by
              rw [show (((⟨#[67, 111, 110, 116, 101, 110, 116, 45, 82, 97, 110, 103, 101, 58, 32]⟩ : ByteArray) ++ bs PT) ++ ⟨#[13, 10, 13, 10]⟩ : ByteArray) = bs (Rg.crT ++ PT ++ [13, 10, 13, 10]) from by apply ByteArray.ext; simp [bs]]
              exact conv_sb _ _
            have hrow3 := bytesWorld_row w23 5 (Rg.crT ++ PT ++ [13, 10, 13, 10])
            have hbel3 := bytesWorld_below w23 5 (bs (Rg.crT ++ PT ++ [13, 10, 13, 10]))
            have hrd3 := hrow3.rd (by rw [Lib.bytesWorld_size]; omega)
            have hoq3 := hoP.step hbel3
            have hll3 : (Rg.crT ++ PT ++ [13, 10, 13, 10]).length ≤ 1099513729000 := by simp; omega
            generalize Lib.bytesWorld w23 5 (bs (Rg.crT ++ PT ++ [13, 10, 13, 10])) = wq3 at *
            generalize grownCap w23 (Rg.crT ++ PT ++ [13, 10, 13, 10]).length 0 5 = cq3 at *
            generalize hln3 : (Rg.crT ++ PT ++ [13, 10, 13, 10]).length = LN3 at *
            have HLN3 := Lib.hid hln3
            clear hln3
            go_upto_region 27 with
              (at_builtin; go_loud (
               refine wp_appB rfl (.tmp 140) (.tmp 150) rfl Bs (.slice A2 n2 c2) (ACC2) rfl hoq3 _ _ _ (Rg.crT ++ PT ++ [13, 10, 13, 10]) rfl hrd3 ?hby3 ?hbase3 ?_
               case hby3 => omega
               case hbase3 => exact Nat.le_trans hBsz hbel3.size
               intro A3 n3 c3 w24 ho3 hbz3 hnz3))
            replace hbr := (bnext hbr hbel3 hBsz).trans hbz3
            replace hBsz : Bs ≤ w24.heap.size := Nat.le_trans hBsz (Nat.le_trans hbel3.size hbz3.size)
            clear hrow3 hbel3 hrd3 hoq3 hcv3 hbz3
            have hacc3 : (ACC2 ++ (Rg.crT ++ PT ++ [13, 10, 13, 10])).length ≤ 10996800002000 := by have := hll3; have := HLN3.out; rw [List.length_append]; omega
            generalize hAC3 : ACC2 ++ (Rg.crT ++ PT ++ [13, 10, 13, 10]) = ACC3 at *
            have HAC3 := Lib.hid hAC3
            clear hAC3 hoP
            have hB3 := hB10.trans (hbr.mono (by omega))
            obtain ⟨gs3, os3, x3, y3, hg3, hgs3, HX3, s03, s13⟩ := (hP.rd.step (hB3.mono hg6e)).at_ hlt
            injection hg3 with hg3
            injection hg3 with hg3 hg4
            subst hg3 hg4
            have hXY : ((x3, y3) : Int × Int) = ((i : Int), (j : Int)) := by have h1 := HX3.out; rw [HX.out] at h1; exact (Option.some.inj h1).symm
            injection hXY with hx3 hy3
            subst hx3 hy3
            clear HX3
            have hjj : IntKind.i64.wrap ((j : Int) + 1) = (j : Int) + 1 := IntWalk.i64_in _ (by omega)
            obtain ⟨gb, ob, rfl, hgb, -⟩ := hb.2.2 (by omega)
            have HPR : Hid (∀ W, Below w.heap.size w W → RdB W (some ⟨gb, ob + i, none⟩) (j + 1 - i) ((b.drop i).take (j + 1 - i))) := Lib.hid fun W hW => RdB.sub (hb.step hW) (by omega) (by omega)
            have hbw24 := hbw.trans (hbr.mono (by omega))
            have HFIN : Hid (((q0.take (ii + 1)).map (Rg.partL MK kind true b)).flatten = ACC3 ++ (b.drop i).take (j + 1 - i)) := Lib.hid (by rw [HACC.out, HPE.out, ← HAC3.out, ← HAC2.out, ← HAC1.out]; simp [List.append_assoc])
            have HLN9 : Hid ((((q0.take (ii + 1)).map (Rg.partL MK kind true b)).flatten).length ≤ (ii + 1) * 1099600000000) := Lib.hid (by rw [HACC.out, List.length_append]; have := HPLEN.out; omega)
            clear HPLEN HACC HPE HX hpin hll1 hll2 HLN2 hll3 HLN1 HLN3 HAC1 HAC2 HAC3
            have q1 : (0 : Int) ≤ (j : Int) + 1 := by omega
            have q2 : (j : Int) + 1 ≤ (e : Int) := by omega
            have q3 : i ≤ j + 1 := by omega
            have q4 : ¬ (e = i) := by omega
            have hby9 : ACC3.length + (j + 1 - i) ≤ 140737488355328 := by omega
            have hPR9 := HPR.out _ hbw24
            clear x0 x1 x2
            go_region_law (refine step_appBr rfl (.tmp 152) (.tmp 165) rfl Bs (.slice A3 n3 c3) ACC3 (by rfl) ho3 _ _ _ ((b.drop i).take (j + 1 - i)) (by rfl) hPR9 hby9 hBsz ?_; intro A7 n7 c7 w25 ho7 hb7 hn7)
            all_goals
              have hbrF : Below Bs w10 w25 := (by first | exact (below_drewN hbr 1).trans hb7 | exact (below_drewN hbr 2).trans hb7)
              clear hb7 hn7 hbr ho3 s03 s13 HPR hbw24 hB3 hPR9
              go_wp2
              go_roundw
              case measure => simp [intOf]; omega
              case rel => exact ⟨ii + 1, A7, n7, c7, by omega, by go_num, rfl, by rw [HFIN.out]; exact ho7, HLN9.out, hbrF⟩
          · obtain rfl : n4 = ii := by omega
            clear hlt
            have HTK : Hid (q0.take n4 = q0) := Lib.hid (List.take_of_length_le (by rw [hP.rd.1]; exact Nat.le_refl _))
            have HEND : Hid (Rg.partsL MK kind true b q0 = ((q0.take n4).map (Rg.partL MK kind true b)).flatten ++ ([13, 10, 45, 45] ++ MK ++ [45, 45, 13, 10])) := Lib.hid (by rw [HTK.out]; rfl)
            generalize ((q0.take n4).map (Rg.partL MK kind true b)).flatten = ACC at *
            have hacc : ACC.length ≤ 8796800000000 := by omega
            rw [HEND.out] at HA
            clear HEND HTK hP hpin hbwr hBr
            have hcv8 : (convert 9 32 (.string (((⟨#[13, 10, 45, 45]⟩ : ByteArray) ++ bs MK) ++ ⟨#[45, 45, 13, 10]⟩))).run Tryz.prog wr = .ok (.slice (some ⟨wr.heap.size, 0, none⟩) ([13, 10, 45, 45] ++ MK ++ [45, 45, 13, 10]).length (grownCap wr ([13, 10, 45, 45] ++ MK ++ [45, 45, 13, 10]).length 0 5)) (Lib.bytesWorld wr 5 (bs ([13, 10, 45, 45] ++ MK ++ [45, 45, 13, 10]))) := by
              rw [show (((⟨#[13, 10, 45, 45]⟩ : ByteArray) ++ bs MK) ++ ⟨#[45, 45, 13, 10]⟩ : ByteArray) = bs ([13, 10, 45, 45] ++ MK ++ [45, 45, 13, 10]) from by apply ByteArray.ext; simp [bs]]
              exact conv_sb _ _
            have hrow8 := bytesWorld_row wr 5 ([13, 10, 45, 45] ++ MK ++ [45, 45, 13, 10])
            have hbel8 := bytesWorld_below wr 5 (bs ([13, 10, 45, 45] ++ MK ++ [45, 45, 13, 10]))
            have hrd8 := hrow8.rd (by rw [Lib.bytesWorld_size]; omega)
            have hoq8 := hown.step hbel8
            have hll8 : ([13, 10, 45, 45] ++ MK ++ [45, 45, 13, 10]).length ≤ 1099513729000 := by simp; omega
            generalize Lib.bytesWorld wr 5 (bs ([13, 10, 45, 45] ++ MK ++ [45, 45, 13, 10])) = wq8 at *
            generalize grownCap wr ([13, 10, 45, 45] ++ MK ++ [45, 45, 13, 10]).length 0 5 = cq8 at *
            generalize hln8 : ([13, 10, 45, 45] ++ MK ++ [45, 45, 13, 10]).length = LN8 at *
            have HLN8 := Lib.hid hln8
            clear hln8
            go_upto_region 29 with
              (at_builtin; go_loud (
               refine wp_appB rfl (.tmp 167) (.tmp 171) rfl Bs (.slice A5 n5 c5) (ACC) rfl hoq8 _ _ _ ([13, 10, 45, 45] ++ MK ++ [45, 45, 13, 10]) rfl hrd8 ?hby8 ?hbase8 ?_
               case hby8 => omega
               case hbase8 => exact Nat.le_trans hBsz hbel8.size
               intro A8 n8 c8 w26 ho8 hbz8 hnz8))
            replace hbr := (bnext hbr hbel8 hBsz).trans hbz8
            replace hBsz : Bs ≤ w26.heap.size := Nat.le_trans hBsz (Nat.le_trans hbel8.size hbz8.size)
            clear hrow8 hbel8 hrd8 hoq8 hcv8 hbz8
            generalize hAC8 : ACC ++ ([13, 10, 45, 45] ++ MK ++ [45, 45, 13, 10]) = OUTB at *
            clear hAC8 hown
            have hg8s : w.heap.size + 2 ≤ g8 := by omega
            have hbw26 := hbw.trans (hbr.mono (by omega))
            have hr26 := (hbr.block w.heap.size (by omega)).trans hr10
            have hz26 := (hbr.block (w.heap.size + 1) (by omega)).trans hz10
            have ho26 := (hbr.block g6 (by omega)).trans ho10
            have hg26 : g6 < w26.heap.size := by have := hbr.size; omega
            clear hr10 hz10 ho10 hbr hB10 hbw
            obtain ⟨a0, a1, a2, a3, -⟩ := row_facts4 hr26
            have hal := alloc_below w26 (.cells #[.string (bs Rg.clR), .string (bs Rg.crR), .string (bs Rg.ctR)] 9)
            have hC := rwithout_own B (some ⟨w26.heap.size, 0, none⟩) m d 3 3 l [Rg.clR, Rg.crR, Rg.ctR] _ ((hl.step hbw26).step hal) (rdS_lit7 w26 [Rg.clR, Rg.crR, Rg.ctR] 9 _ rfl) (by omega) (by omega) hls.ok (by intro s hs; simp only [List.mem_cons, List.not_mem_nil, or_false] at hs; rcases hs with rfl | rfl | rfl <;> simp)
            rw [show ([Rg.clR, Rg.crR, Rg.ctR] : List (List UInt8)) = [Rg.clP, Rg.crP, Rg.ctP].map fold from by decide, wf_fold] at hC
            have HWn : Hid ((withoutF l [Rg.clP, Rg.crP, Rg.ctP]).length ≤ m) := Lib.hid (by rw [← hl.1]; exact List.length_filter_le _ _)
            have HPF : Hid (Rg.putF (withoutF l [Rg.clP, Rg.crP]) Rg.ctP (Rg.mulT ++ MK) = withoutF l [Rg.clP, Rg.crP, Rg.ctP] ++ [(Rg.ctP, Rg.mulT ++ MK)]) := Lib.hid (by unfold Rg.putF; rw [Rg.withoutF_comp]; rfl)
            rw [HPF.out] at HA
            clear HPF
            generalize withoutF l [Rg.clP, Rg.crP, Rg.ctP] = WF at *
            have hcatM : (⟨#[109, 117, 108, 116, 105, 112, 97, 114, 116, 47, 98, 121, 116, 101, 114, 97, 110, 103, 101, 115, 59, 32, 98, 111, 117, 110, 100, 97, 114, 121, 61]⟩ : ByteArray) ++ bs MK = bs (Rg.mulT ++ MK) := by rw [← bs_append]; rfl
            generalize Rg.mulT ++ MK = MV at *
            go_wp2_with fail
            refine hC.mono ?_
            rintro xx w27 ⟨A27, n27, c27, rfl, hF, hb27⟩
            clear hC a0 a1 a2 a3
            replace hb27 := hal.trans (hb27.mono hal.size)
            have hz27 := row_keep hz26 hb27
            have ho27 := row_keep ho26 hb27
            have hbw27 := bnext hbw26 hb27 hbw26.size
            replace hF := hF.mono (show w26.heap.size ≤ (w26.alloc (.cells #[.string (bs Rg.clR), .string (bs Rg.crR), .string (bs Rg.ctR)] 9)).heap.size by simp)
            have ho27B := ho8.step hb27
            have hsz26 : w26.heap.size ≤ w27.heap.size := hb27.size
            have hb26 := hb27
            have hg26s := hg26
            have hn27 : n27 ≤ 1048576 := by have := HWn.out; have := hF.rd.1; omega
            have hWL : WF.length ≤ 1048576 := by have := HWn.out; omega
            have hg27 : g6 < w27.heap.size := by have := hb27.size; omega
            clear hr26 hz26 ho26 hb27 hal hbw26 hg26
            have halF := alloc_below w27 (.cells #[.string (bs Rg.ctP), .string (bs MV)] 46)
            have hoF := hF.step halF
            have hzF := row_keep hz27 halF
            have hoF2 := row_keep ho27 halF
            have hbwF := bnext hbw27 halF hbw27.size
            have hrF := one_rdF' w27 Rg.ctP MV 46 _ rfl
            have hgF : w26.heap.size ≤ (w27.alloc (.cells #[.string (bs Rg.ctP), .string (bs MV)] 46)).heap.size := by simp; omega
            have hb26F := bnext hb26 halF hsz26
            generalize hsB : w26.heap.size = sB at *
            have HSB := Lib.hid hsB
            clear hsB
            clear hF halF hz27 ho27 ho27B hb26
            go_upto_region 31 with
              (at_builtin; go_loud (
               refine wp_appF rfl (.tmp 177) (.tmp 181) rfl sB (.slice A27 n27 c27) WF rfl hoF _ 1 1 [(Rg.ctP, MV)] rfl hrF ?hby30 ?hbase30 ?_
               case hby30 => omega
               case hbase30 => exact hgF
               intro A30 n30 c30 w30 ho30 hb30 hn30
               have hz30 := (hb30.block (w.heap.size + 1) (by omega)).trans hzF
               have hg30 := (hb30.block g6 hg26s).trans hoF2
               have hbw30 := hbwF.trans (hb30.mono (by omega))
               have hoB30 := ho8.step (HSB.out ▸ hb26F.trans hb30)
               have hsz30 : sB ≤ w30.heap.size := Nat.le_trans hgF hb30.size
               clear hb30 hoF hzF hoF2 hbwF hrF hgF hb26F ho8
               obtain ⟨p0, p1, p2, p3, f0, f1, f2, f3⟩ := row_facts4 hg30))
            clear p0 p1 p2 p3 f0 f1 f2 f3
            have hg31 := DA.heap_set hg30 3 (.slice A30 n30 c30)
            simp only [List.setIfInBounds_toArray, List.set_cons_zero, List.set_cons_succ] at hg31
            have hz31 := (DA.heap_rest (w := w30) (b := g6) (k := w.heap.size + 1) (by omega) 3 (.slice A30 n30 c30)).trans hz30
            have hbw31 : Below w.heap.size w (w30.setCell ⟨g6, 3, none⟩ (.slice A30 n30 c30)) := hbw30.setCell (by show w.heap.size ≤ g6; omega) _
            have hF31 : OwnF (w30.setCell ⟨g6, 3, none⟩ (.slice A30 n30 c30)) sB (.slice A30 n30 c30) (WF ++ [(Rg.ctP, MV)]) := own_setG ho30 hg26s _
            have hB31 : OwnB (w30.setCell ⟨g6, 3, none⟩ (.slice A30 n30 c30)) Bs (.slice A8 n8 c8) OUTB := own_setG hoB30 (by omega) _
            clear hg30 hz30 hbw30 ho30 hoB30
            generalize w30.setCell ⟨g6, 3, none⟩ (.slice A30 n30 c30) = w31 at *
            obtain ⟨p0, p1, p2, p3, -⟩ := row_facts4 hg31
            obtain ⟨z0, z1, z2, z3, y0, y1, y2, y3⟩ := row_facts4 hz31
            have hfin := heap_set4 (u0 := .int .i64 206) (u1 := .string ⟨#[80, 97, 114, 116, 105, 97, 108, 32, 67, 111, 110, 116, 101, 110, 116]⟩) (u2 := .int .i64 minor) (u3 := .slice A30 n30 c30) hz31
            have hbfin : Below w.heap.size w ((((w31.setCell ⟨w.heap.size + 1, 0, none⟩ (.int .i64 206)).setCell ⟨w.heap.size + 1, 1, none⟩ (.string ⟨#[80, 97, 114, 116, 105, 97, 108, 32, 67, 111, 110, 116, 101, 110, 116]⟩)).setCell ⟨w.heap.size + 1, 2, none⟩ (.int .i64 minor)).setCell ⟨w.heap.size + 1, 3, none⟩ (.slice A30 n30 c30)) := (((hbw31.setCell (by simp) _).setCell (by simp) _).setCell (by simp) _).setCell (by simp) _
            have hFfin : OwnF ((((w31.setCell ⟨w.heap.size + 1, 0, none⟩ (.int .i64 206)).setCell ⟨w.heap.size + 1, 1, none⟩ (.string ⟨#[80, 97, 114, 116, 105, 97, 108, 32, 67, 111, 110, 116, 101, 110, 116]⟩)).setCell ⟨w.heap.size + 1, 2, none⟩ (.int .i64 minor)).setCell ⟨w.heap.size + 1, 3, none⟩ (.slice A30 n30 c30)) sB (.slice A30 n30 c30) (WF ++ [(Rg.ctP, MV)]) := own_setG (own_setG (own_setG (own_setG hF31 (by omega) _) (by omega) _) (by omega) _) (by omega) _
            have hBfin : OwnB ((((w31.setCell ⟨w.heap.size + 1, 0, none⟩ (.int .i64 206)).setCell ⟨w.heap.size + 1, 1, none⟩ (.string ⟨#[80, 97, 114, 116, 105, 97, 108, 32, 67, 111, 110, 116, 101, 110, 116]⟩)).setCell ⟨w.heap.size + 1, 2, none⟩ (.int .i64 minor)).setCell ⟨w.heap.size + 1, 3, none⟩ (.slice A30 n30 c30)) Bs (.slice A8 n8 c8) OUTB := own_setG (own_setG (own_setG (own_setG hB31 (by omega) _) (by omega) _) (by omega) _) (by omega) _
            obtain ⟨c0, c1, c2, c3, -⟩ := row_facts4 hfin
            clear hbw31 hF31 hB31 hg31 hz31 hfin
            go_wp2
            refine bodyPost_ret (v := .tuple #[.agg #[.int .i64 206, .string ⟨#[80, 97, 114, 116, 105, 97, 108, 32, 67, 111, 110, 116, 101, 110, 116]⟩, .int .i64 minor, .slice A30 n30 c30], .slice A8 n8 c8]) (by simp [results, Tryz.results18, go_sem, c0, c1, c2, c3]) rfl ⟨_, _, _, _, _, _, by rw [HA.out]; rfl, ?_, ?_, hbfin⟩
            · rw [HA.out]; exact own_mono hFfin (by omega)
            · rw [HA.out]; exact own_mono hBfin (by omega)
      | false =>
        go_loopw [20, 21] (fun gv t wr => ∃ (ii : Nat) (A5 : Option Addr) (n5 c5 : Nat), ii ≤ n4 ∧ t = .int .i64 (ii : Int) ∧ gv = .slice A5 n5 c5 ∧ OwnB wr Bs (.slice A5 n5 c5) (((q0.take ii).map (Rg.partL MK kind false b)).flatten) ∧ (((q0.take ii).map (Rg.partL MK kind false b)).flatten).length ≤ ii * 1099600000000 ∧ Below Bs w10 wr) (fun _ t _ => n4 - (intOf t).toNat)
        case atStart => exact ⟨0, _, 0, 0, by omega, rfl, rfl, hmd, by simp, hbm⟩
        case round =>
          obtain ⟨ii, A5, n5, c5, hii, rfl, rfl, hown, hal2, hbr⟩ := hrel
          clear hmd hbm hBsz0
          have hBsz : Bs ≤ wr.heap.size := Nat.le_trans hBs1 hbr.size
          have hbwr := hbw.trans (hbr.mono (by omega))
          have hBr := hB10.trans (hbr.mono (by omega))
          by_cases hlt : ii < n4
          · obtain ⟨gs, os_, x, y, rfl, hgs, HX, s0, s1⟩ := (hP.rd.step (hBr.mono hg6e)).at_ hlt
            have hxy := hpin _ (mem_of_get? HX.out)
            obtain ⟨x0, x1, x2⟩ := hxy
            dsimp only at x0 x1 x2
            obtain ⟨i, rfl⟩ : ∃ i : Nat, x = i := ⟨x.toNat, by omega⟩
            obtain ⟨j, rfl⟩ : ∃ j : Nat, y = j := ⟨y.toNat, by omega⟩
            have HPT := Lib.hid fun W => place_r i j k W (by omega) (by omega) (by omega) (by omega) (by omega)
            have hpl := placeL_len ((i : Int), (j : Int)) k (by show (i : Int) < _; omega) (by show (j : Int) < _; omega) (by omega)
            have HACC : Hid (((q0.take (ii + 1)).map (Rg.partL MK kind false b)).flatten = ((q0.take ii).map (Rg.partL MK kind false b)).flatten ++ Rg.partL MK kind false b ((i : Int), (j : Int))) := Lib.hid (by rw [take_snoc? HX.out]; simp)
            have HPLEN := Lib.hid (partL_len MK kind false b ((i : Int), (j : Int)) hml hkl (by omega) (by rw [hbl]; exact hpl))
            have HPE : Hid (Rg.partL MK kind false b ((i : Int), (j : Int)) = ([13, 10, 45, 45] ++ MK ++ [13, 10]) ++ (((Rg.crT ++ Rg.placeL ((i : Int), (j : Int)) k ++ [13, 10, 13, 10]) ++ (b.drop i).take (j + 1 - i)))) := Lib.hid (by unfold Rg.partL Rg.pieceL; rw [hbl]; simp)
            generalize ((q0.take ii).map (Rg.partL MK kind false b)).flatten = ACC at *
            generalize Rg.placeL ((i : Int), (j : Int)) k = PT at *
            have hacc : ACC.length ≤ 8796800000000 := by omega
            have hcv1 : (convert 9 32 (.string (((⟨#[13, 10, 45, 45]⟩ : ByteArray) ++ bs MK) ++ ⟨#[13, 10]⟩))).run Tryz.prog wr = .ok (.slice (some ⟨wr.heap.size, 0, none⟩) ([13, 10, 45, 45] ++ MK ++ [13, 10]).length (grownCap wr ([13, 10, 45, 45] ++ MK ++ [13, 10]).length 0 5)) (Lib.bytesWorld wr 5 (bs ([13, 10, 45, 45] ++ MK ++ [13, 10]))) := by
              rw [show (((⟨#[13, 10, 45, 45]⟩ : ByteArray) ++ bs MK) ++ ⟨#[13, 10]⟩ : ByteArray) = bs ([13, 10, 45, 45] ++ MK ++ [13, 10]) from by apply ByteArray.ext; simp [bs]]
              exact conv_sb _ _
            have hrow1 := bytesWorld_row wr 5 ([13, 10, 45, 45] ++ MK ++ [13, 10])
            have hbel1 := bytesWorld_below wr 5 (bs ([13, 10, 45, 45] ++ MK ++ [13, 10]))
            have hrd1 := hrow1.rd (by rw [Lib.bytesWorld_size]; omega)
            have hoq1 := hown.step hbel1
            have hll1 : ([13, 10, 45, 45] ++ MK ++ [13, 10]).length ≤ 1099513729000 := by simp; omega
            generalize Lib.bytesWorld wr 5 (bs ([13, 10, 45, 45] ++ MK ++ [13, 10])) = wq1 at *
            generalize grownCap wr ([13, 10, 45, 45] ++ MK ++ [13, 10]).length 0 5 = cq1 at *
            generalize hln1 : ([13, 10, 45, 45] ++ MK ++ [13, 10]).length = LN1 at *
            have HLN1 := Lib.hid hln1
            clear hln1
            go_upto_region 26 with
              (at_builtin; go_loud (
               refine wp_appB rfl (.tmp 127) (.tmp 131) rfl Bs (.slice A5 n5 c5) (ACC) rfl hoq1 _ _ _ ([13, 10, 45, 45] ++ MK ++ [13, 10]) rfl hrd1 ?hbyu1 ?hbaseu1 ?_
               case hbyu1 => omega
               case hbaseu1 => exact Nat.le_trans hBsz hbel1.size
               intro A1 n1 c1 w21 ho1 hbz1 hnz1))
            replace hbr := (bnext hbr hbel1 hBsz).trans hbz1
            replace hBsz : Bs ≤ w21.heap.size := Nat.le_trans hBsz (Nat.le_trans hbel1.size hbz1.size)
            clear hrow1 hbel1 hrd1 hoq1 hcv1 hbz1
            have hacc1 : (ACC ++ ([13, 10, 45, 45] ++ MK ++ [13, 10])).length ≤ 8796800001000 := by have := hll1; have := HLN1.out; rw [List.length_append]; omega
            generalize hAC1 : ACC ++ ([13, 10, 45, 45] ++ MK ++ [13, 10]) = ACC1 at *
            have HAC1 := Lib.hid hAC1
            clear hAC1 hown
            have hB2 := hB10.trans (hbr.mono (by omega))
            obtain ⟨gs2, os2, x2, y2, hg2, hgs2, HX2, s02, s12⟩ := (hP.rd.step (hB2.mono hg6e)).at_ hlt
            injection hg2 with hg2
            injection hg2 with hg2 hg3
            subst hg2 hg3
            have hXY : ((x2, y2) : Int × Int) = ((i : Int), (j : Int)) := by have h1 := HX2.out; rw [HX.out] at h1; exact (Option.some.inj h1).symm
            injection hXY with hx2 hy2
            subst hx2 hy2
            clear HX2
            go_wp2_with fail
            refine (HPT.out _).mono ?_
            rintro xx w23 ⟨rfl, hb23⟩
            replace hbr := bnext hbr hb23 hBsz
            replace hBsz : Bs ≤ w23.heap.size := Nat.le_trans hBsz hb23.size
            have hoP := ho1.step hb23
            clear hb23 HPT
            have hcv3 : (convert 9 32 (.string (((⟨#[67, 111, 110, 116, 101, 110, 116, 45, 82, 97, 110, 103, 101, 58, 32]⟩ : ByteArray) ++ bs PT) ++ ⟨#[13, 10, 13, 10]⟩))).run Tryz.prog w23 = .ok (.slice (some ⟨w23.heap.size, 0, none⟩) (Rg.crT ++ PT ++ [13, 10, 13, 10]).length (grownCap w23 (Rg.crT ++ PT ++ [13, 10, 13, 10]).length 0 5)) (Lib.bytesWorld w23 5 (bs (Rg.crT ++ PT ++ [13, 10, 13, 10]))) := by
              rw [show (((⟨#[67, 111, 110, 116, 101, 110, 116, 45, 82, 97, 110, 103, 101, 58, 32]⟩ : ByteArray) ++ bs PT) ++ ⟨#[13, 10, 13, 10]⟩ : ByteArray) = bs (Rg.crT ++ PT ++ [13, 10, 13, 10]) from by apply ByteArray.ext; simp [bs]]
              exact conv_sb _ _
            have hrow3 := bytesWorld_row w23 5 (Rg.crT ++ PT ++ [13, 10, 13, 10])
            have hbel3 := bytesWorld_below w23 5 (bs (Rg.crT ++ PT ++ [13, 10, 13, 10]))
            have hrd3 := hrow3.rd (by rw [Lib.bytesWorld_size]; omega)
            have hoq3 := hoP.step hbel3
            have hll3 : (Rg.crT ++ PT ++ [13, 10, 13, 10]).length ≤ 1099513729000 := by simp; omega
            generalize Lib.bytesWorld w23 5 (bs (Rg.crT ++ PT ++ [13, 10, 13, 10])) = wq3 at *
            generalize grownCap w23 (Rg.crT ++ PT ++ [13, 10, 13, 10]).length 0 5 = cq3 at *
            generalize hln3 : (Rg.crT ++ PT ++ [13, 10, 13, 10]).length = LN3 at *
            have HLN3 := Lib.hid hln3
            clear hln3
            go_upto_region 27 with
              (at_builtin; go_loud (
               refine wp_appB rfl (.tmp 140) (.tmp 150) rfl Bs (.slice A1 n1 c1) (ACC1) rfl hoq3 _ _ _ (Rg.crT ++ PT ++ [13, 10, 13, 10]) rfl hrd3 ?hbyu3 ?hbaseu3 ?_
               case hbyu3 => omega
               case hbaseu3 => exact Nat.le_trans hBsz hbel3.size
               intro A3 n3 c3 w24 ho3 hbz3 hnz3))
            replace hbr := (bnext hbr hbel3 hBsz).trans hbz3
            replace hBsz : Bs ≤ w24.heap.size := Nat.le_trans hBsz (Nat.le_trans hbel3.size hbz3.size)
            clear hrow3 hbel3 hrd3 hoq3 hcv3 hbz3
            have hacc3 : (ACC1 ++ (Rg.crT ++ PT ++ [13, 10, 13, 10])).length ≤ 10996800002000 := by have := hll3; have := HLN3.out; rw [List.length_append]; omega
            generalize hAC3 : ACC1 ++ (Rg.crT ++ PT ++ [13, 10, 13, 10]) = ACC3 at *
            have HAC3 := Lib.hid hAC3
            clear hAC3 hoP
            have hB3 := hB10.trans (hbr.mono (by omega))
            obtain ⟨gs3, os3, x3, y3, hg3, hgs3, HX3, s03, s13⟩ := (hP.rd.step (hB3.mono hg6e)).at_ hlt
            injection hg3 with hg3
            injection hg3 with hg3 hg4
            subst hg3 hg4
            have hXY : ((x3, y3) : Int × Int) = ((i : Int), (j : Int)) := by have h1 := HX3.out; rw [HX.out] at h1; exact (Option.some.inj h1).symm
            injection hXY with hx3 hy3
            subst hx3 hy3
            clear HX3
            have hjj : IntKind.i64.wrap ((j : Int) + 1) = (j : Int) + 1 := IntWalk.i64_in _ (by omega)
            obtain ⟨gb, ob, rfl, hgb, -⟩ := hb.2.2 (by omega)
            have HPR : Hid (∀ W, Below w.heap.size w W → RdB W (some ⟨gb, ob + i, none⟩) (j + 1 - i) ((b.drop i).take (j + 1 - i))) := Lib.hid fun W hW => RdB.sub (hb.step hW) (by omega) (by omega)
            have hbw24 := hbw.trans (hbr.mono (by omega))
            have HFIN : Hid (((q0.take (ii + 1)).map (Rg.partL MK kind false b)).flatten = ACC3 ++ (b.drop i).take (j + 1 - i)) := Lib.hid (by rw [HACC.out, HPE.out, ← HAC3.out,  ← HAC1.out]; simp [List.append_assoc])
            have HLN9 : Hid ((((q0.take (ii + 1)).map (Rg.partL MK kind false b)).flatten).length ≤ (ii + 1) * 1099600000000) := Lib.hid (by rw [HACC.out, List.length_append]; have := HPLEN.out; omega)
            clear HPLEN HACC HPE HX hpin hll1  hll3 HLN1 HLN3 HAC1  HAC3
            have q1 : (0 : Int) ≤ (j : Int) + 1 := by omega
            have q2 : (j : Int) + 1 ≤ (e : Int) := by omega
            have q3 : i ≤ j + 1 := by omega
            have q4 : ¬ (e = i) := by omega
            have hby9 : ACC3.length + (j + 1 - i) ≤ 140737488355328 := by omega
            have hPR9 := HPR.out _ hbw24
            clear x0 x1 x2
            go_region_law (refine step_appBr rfl (.tmp 152) (.tmp 165) rfl Bs (.slice A3 n3 c3) ACC3 (by rfl) ho3 _ _ _ ((b.drop i).take (j + 1 - i)) (by rfl) hPR9 hby9 hBsz ?_; intro A7 n7 c7 w25 ho7 hb7 hn7)
            all_goals
              have hbrF : Below Bs w10 w25 := (by first | exact (below_drewN hbr 1).trans hb7 | exact (below_drewN hbr 2).trans hb7)
              clear hb7 hn7 hbr ho3 s03 s13 HPR hbw24 hB3 hPR9
              go_wp2
              go_roundw
              case measure => simp [intOf]; omega
              case rel => exact ⟨ii + 1, A7, n7, c7, by omega, by go_num, rfl, by rw [HFIN.out]; exact ho7, HLN9.out, hbrF⟩
          · obtain rfl : n4 = ii := by omega
            clear hlt
            have HTK : Hid (q0.take n4 = q0) := Lib.hid (List.take_of_length_le (by rw [hP.rd.1]; exact Nat.le_refl _))
            have HEND : Hid (Rg.partsL MK kind false b q0 = ((q0.take n4).map (Rg.partL MK kind false b)).flatten ++ ([13, 10, 45, 45] ++ MK ++ [45, 45, 13, 10])) := Lib.hid (by rw [HTK.out]; rfl)
            generalize ((q0.take n4).map (Rg.partL MK kind false b)).flatten = ACC at *
            have hacc : ACC.length ≤ 8796800000000 := by omega
            rw [HEND.out] at HA
            clear HEND HTK hP hpin hbwr hBr
            have hcv8 : (convert 9 32 (.string (((⟨#[13, 10, 45, 45]⟩ : ByteArray) ++ bs MK) ++ ⟨#[45, 45, 13, 10]⟩))).run Tryz.prog wr = .ok (.slice (some ⟨wr.heap.size, 0, none⟩) ([13, 10, 45, 45] ++ MK ++ [45, 45, 13, 10]).length (grownCap wr ([13, 10, 45, 45] ++ MK ++ [45, 45, 13, 10]).length 0 5)) (Lib.bytesWorld wr 5 (bs ([13, 10, 45, 45] ++ MK ++ [45, 45, 13, 10]))) := by
              rw [show (((⟨#[13, 10, 45, 45]⟩ : ByteArray) ++ bs MK) ++ ⟨#[45, 45, 13, 10]⟩ : ByteArray) = bs ([13, 10, 45, 45] ++ MK ++ [45, 45, 13, 10]) from by apply ByteArray.ext; simp [bs]]
              exact conv_sb _ _
            have hrow8 := bytesWorld_row wr 5 ([13, 10, 45, 45] ++ MK ++ [45, 45, 13, 10])
            have hbel8 := bytesWorld_below wr 5 (bs ([13, 10, 45, 45] ++ MK ++ [45, 45, 13, 10]))
            have hrd8 := hrow8.rd (by rw [Lib.bytesWorld_size]; omega)
            have hoq8 := hown.step hbel8
            have hll8 : ([13, 10, 45, 45] ++ MK ++ [45, 45, 13, 10]).length ≤ 1099513729000 := by simp; omega
            generalize Lib.bytesWorld wr 5 (bs ([13, 10, 45, 45] ++ MK ++ [45, 45, 13, 10])) = wq8 at *
            generalize grownCap wr ([13, 10, 45, 45] ++ MK ++ [45, 45, 13, 10]).length 0 5 = cq8 at *
            generalize hln8 : ([13, 10, 45, 45] ++ MK ++ [45, 45, 13, 10]).length = LN8 at *
            have HLN8 := Lib.hid hln8
            clear hln8
            go_upto_region 29 with
              (at_builtin; go_loud (
               refine wp_appB rfl (.tmp 167) (.tmp 171) rfl Bs (.slice A5 n5 c5) (ACC) rfl hoq8 _ _ _ ([13, 10, 45, 45] ++ MK ++ [45, 45, 13, 10]) rfl hrd8 ?hbyu8 ?hbaseu8 ?_
               case hbyu8 => omega
               case hbaseu8 => exact Nat.le_trans hBsz hbel8.size
               intro A8 n8 c8 w26 ho8 hbz8 hnz8))
            replace hbr := (bnext hbr hbel8 hBsz).trans hbz8
            replace hBsz : Bs ≤ w26.heap.size := Nat.le_trans hBsz (Nat.le_trans hbel8.size hbz8.size)
            clear hrow8 hbel8 hrd8 hoq8 hcv8 hbz8
            generalize hAC8 : ACC ++ ([13, 10, 45, 45] ++ MK ++ [45, 45, 13, 10]) = OUTB at *
            clear hAC8 hown
            have hg8s : w.heap.size + 2 ≤ g8 := by omega
            have hbw26 := hbw.trans (hbr.mono (by omega))
            have hr26 := (hbr.block w.heap.size (by omega)).trans hr10
            have hz26 := (hbr.block (w.heap.size + 1) (by omega)).trans hz10
            have ho26 := (hbr.block g6 (by omega)).trans ho10
            have hg26 : g6 < w26.heap.size := by have := hbr.size; omega
            clear hr10 hz10 ho10 hbr hB10 hbw
            obtain ⟨a0, a1, a2, a3, -⟩ := row_facts4 hr26
            have hal := alloc_below w26 (.cells #[.string (bs Rg.clR), .string (bs Rg.crR), .string (bs Rg.ctR)] 9)
            have hC := rwithout_own B (some ⟨w26.heap.size, 0, none⟩) m d 3 3 l [Rg.clR, Rg.crR, Rg.ctR] _ ((hl.step hbw26).step hal) (rdS_lit7 w26 [Rg.clR, Rg.crR, Rg.ctR] 9 _ rfl) (by omega) (by omega) hls.ok (by intro s hs; simp only [List.mem_cons, List.not_mem_nil, or_false] at hs; rcases hs with rfl | rfl | rfl <;> simp)
            rw [show ([Rg.clR, Rg.crR, Rg.ctR] : List (List UInt8)) = [Rg.clP, Rg.crP, Rg.ctP].map fold from by decide, wf_fold] at hC
            have HWn : Hid ((withoutF l [Rg.clP, Rg.crP, Rg.ctP]).length ≤ m) := Lib.hid (by rw [← hl.1]; exact List.length_filter_le _ _)
            have HPF : Hid (Rg.putF (withoutF l [Rg.clP, Rg.crP]) Rg.ctP (Rg.mulT ++ MK) = withoutF l [Rg.clP, Rg.crP, Rg.ctP] ++ [(Rg.ctP, Rg.mulT ++ MK)]) := Lib.hid (by unfold Rg.putF; rw [Rg.withoutF_comp]; rfl)
            rw [HPF.out] at HA
            clear HPF
            generalize withoutF l [Rg.clP, Rg.crP, Rg.ctP] = WF at *
            have hcatM : (⟨#[109, 117, 108, 116, 105, 112, 97, 114, 116, 47, 98, 121, 116, 101, 114, 97, 110, 103, 101, 115, 59, 32, 98, 111, 117, 110, 100, 97, 114, 121, 61]⟩ : ByteArray) ++ bs MK = bs (Rg.mulT ++ MK) := by rw [← bs_append]; rfl
            generalize Rg.mulT ++ MK = MV at *
            go_wp2_with fail
            refine hC.mono ?_
            rintro xx w27 ⟨A27, n27, c27, rfl, hF, hb27⟩
            clear hC a0 a1 a2 a3
            replace hb27 := hal.trans (hb27.mono hal.size)
            have hz27 := row_keep hz26 hb27
            have ho27 := row_keep ho26 hb27
            have hbw27 := bnext hbw26 hb27 hbw26.size
            replace hF := hF.mono (show w26.heap.size ≤ (w26.alloc (.cells #[.string (bs Rg.clR), .string (bs Rg.crR), .string (bs Rg.ctR)] 9)).heap.size by simp)
            have ho27B := ho8.step hb27
            have hsz26 : w26.heap.size ≤ w27.heap.size := hb27.size
            have hb26 := hb27
            have hg26s := hg26
            have hn27 : n27 ≤ 1048576 := by have := HWn.out; have := hF.rd.1; omega
            have hWL : WF.length ≤ 1048576 := by have := HWn.out; omega
            have hg27 : g6 < w27.heap.size := by have := hb27.size; omega
            clear hr26 hz26 ho26 hb27 hal hbw26 hg26
            have halF := alloc_below w27 (.cells #[.string (bs Rg.ctP), .string (bs MV)] 46)
            have hoF := hF.step halF
            have hzF := row_keep hz27 halF
            have hoF2 := row_keep ho27 halF
            have hbwF := bnext hbw27 halF hbw27.size
            have hrF := one_rdF' w27 Rg.ctP MV 46 _ rfl
            have hgF : w26.heap.size ≤ (w27.alloc (.cells #[.string (bs Rg.ctP), .string (bs MV)] 46)).heap.size := by simp; omega
            have hb26F := bnext hb26 halF hsz26
            generalize hsB : w26.heap.size = sB at *
            have HSB := Lib.hid hsB
            clear hsB
            clear hF halF hz27 ho27 ho27B hb26
            go_upto_region 31 with
              (at_builtin; go_loud (
               refine wp_appF rfl (.tmp 177) (.tmp 181) rfl sB (.slice A27 n27 c27) WF rfl hoF _ 1 1 [(Rg.ctP, MV)] rfl hrF ?hbyu30 ?hbaseu30 ?_
               case hbyu30 => omega
               case hbaseu30 => exact hgF
               intro A30 n30 c30 w30 ho30 hb30 hn30
               have hz30 := (hb30.block (w.heap.size + 1) (by omega)).trans hzF
               have hg30 := (hb30.block g6 hg26s).trans hoF2
               have hbw30 := hbwF.trans (hb30.mono (by omega))
               have hoB30 := ho8.step (HSB.out ▸ hb26F.trans hb30)
               have hsz30 : sB ≤ w30.heap.size := Nat.le_trans hgF hb30.size
               clear hb30 hoF hzF hoF2 hbwF hrF hgF hb26F ho8
               obtain ⟨p0, p1, p2, p3, f0, f1, f2, f3⟩ := row_facts4 hg30))
            clear p0 p1 p2 p3 f0 f1 f2 f3
            have hg31 := DA.heap_set hg30 3 (.slice A30 n30 c30)
            simp only [List.setIfInBounds_toArray, List.set_cons_zero, List.set_cons_succ] at hg31
            have hz31 := (DA.heap_rest (w := w30) (b := g6) (k := w.heap.size + 1) (by omega) 3 (.slice A30 n30 c30)).trans hz30
            have hbw31 : Below w.heap.size w (w30.setCell ⟨g6, 3, none⟩ (.slice A30 n30 c30)) := hbw30.setCell (by show w.heap.size ≤ g6; omega) _
            have hF31 : OwnF (w30.setCell ⟨g6, 3, none⟩ (.slice A30 n30 c30)) sB (.slice A30 n30 c30) (WF ++ [(Rg.ctP, MV)]) := own_setG ho30 hg26s _
            have hB31 : OwnB (w30.setCell ⟨g6, 3, none⟩ (.slice A30 n30 c30)) Bs (.slice A8 n8 c8) OUTB := own_setG hoB30 (by omega) _
            clear hg30 hz30 hbw30 ho30 hoB30
            generalize w30.setCell ⟨g6, 3, none⟩ (.slice A30 n30 c30) = w31 at *
            obtain ⟨p0, p1, p2, p3, -⟩ := row_facts4 hg31
            obtain ⟨z0, z1, z2, z3, y0, y1, y2, y3⟩ := row_facts4 hz31
            have hfin := heap_set4 (u0 := .int .i64 206) (u1 := .string ⟨#[80, 97, 114, 116, 105, 97, 108, 32, 67, 111, 110, 116, 101, 110, 116]⟩) (u2 := .int .i64 minor) (u3 := .slice A30 n30 c30) hz31
            have hbfin : Below w.heap.size w ((((w31.setCell ⟨w.heap.size + 1, 0, none⟩ (.int .i64 206)).setCell ⟨w.heap.size + 1, 1, none⟩ (.string ⟨#[80, 97, 114, 116, 105, 97, 108, 32, 67, 111, 110, 116, 101, 110, 116]⟩)).setCell ⟨w.heap.size + 1, 2, none⟩ (.int .i64 minor)).setCell ⟨w.heap.size + 1, 3, none⟩ (.slice A30 n30 c30)) := (((hbw31.setCell (by simp) _).setCell (by simp) _).setCell (by simp) _).setCell (by simp) _
            have hFfin : OwnF ((((w31.setCell ⟨w.heap.size + 1, 0, none⟩ (.int .i64 206)).setCell ⟨w.heap.size + 1, 1, none⟩ (.string ⟨#[80, 97, 114, 116, 105, 97, 108, 32, 67, 111, 110, 116, 101, 110, 116]⟩)).setCell ⟨w.heap.size + 1, 2, none⟩ (.int .i64 minor)).setCell ⟨w.heap.size + 1, 3, none⟩ (.slice A30 n30 c30)) sB (.slice A30 n30 c30) (WF ++ [(Rg.ctP, MV)]) := own_setG (own_setG (own_setG (own_setG hF31 (by omega) _) (by omega) _) (by omega) _) (by omega) _
            have hBfin : OwnB ((((w31.setCell ⟨w.heap.size + 1, 0, none⟩ (.int .i64 206)).setCell ⟨w.heap.size + 1, 1, none⟩ (.string ⟨#[80, 97, 114, 116, 105, 97, 108, 32, 67, 111, 110, 116, 101, 110, 116]⟩)).setCell ⟨w.heap.size + 1, 2, none⟩ (.int .i64 minor)).setCell ⟨w.heap.size + 1, 3, none⟩ (.slice A30 n30 c30)) Bs (.slice A8 n8 c8) OUTB := own_setG (own_setG (own_setG (own_setG hB31 (by omega) _) (by omega) _) (by omega) _) (by omega) _
            obtain ⟨c0, c1, c2, c3, -⟩ := row_facts4 hfin
            clear hbw31 hF31 hB31 hg31 hz31 hfin
            go_wp2
            refine bodyPost_ret (v := .tuple #[.agg #[.int .i64 206, .string ⟨#[80, 97, 114, 116, 105, 97, 108, 32, 67, 111, 110, 116, 101, 110, 116]⟩, .int .i64 minor, .slice A30 n30 c30], .slice A8 n8 c8]) (by simp [results, Tryz.results18, go_sem, c0, c1, c2, c3]) rfl ⟨_, _, _, _, _, _, by rw [HA.out]; rfl, ?_, ?_, hbfin⟩
            · rw [HA.out]; exact own_mono hFfin (by omega)
            · rw [HA.out]; exact own_mono hBfin (by omega)
    · have hf := H3'.out hkN
      rw [hf] at hO7
      clear H2' H3' HE hf
      go_wp2_with fail
      refine hO7.mono ?_
      rintro xx w8 ⟨rfl, hw8⟩
      subst hw8
      go_wp2
      go_roundw
      case rel => exact ⟨kk + 1, by omega, by go_num, hbr⟩
      case measure => simp [intOf]; omega
end Go.Proofs.YtcaekfebnhedpaaGreatDoor
