/- Joined texts: The body of several parts, put together in a bytes.Buffer. The conditions stand in each line. -/
import Derived.Test.YtcaekfebnhedpaaGreatDoorM15
import Derived.Test.YtcaekfebnhedpaaGreatDoorM34
import Derived.Lib.BufferOld
set_option linter.unusedVariables false
set_option linter.unusedSimpArgs false
namespace Go.Proofs.YtcaekfebnhedpaaGreatDoor
open Go.RowKit

set_option maxRecDepth 100000
theorem own_drew9 {w : World} {B : Nat} {v : Value} {l : List UInt8} (h : OwnB w B v l) (n : Nat) : OwnB (w.drewN n) B v l := OwnB.step h (below_drewN (Below.refl _ _) n)
theorem ws_any (B b : Nat) (acc l : List UInt8) (s : ByteArray) (w : World) (h : Lib.IsBuffer 87 5 B b (Lib.byteCells acc) w) (hBw : B ≤ w.heap.size) (hs : s.data.toList = l) (hlim : acc.length + l.length ≤ 140737488355328) :
    Calls Tryz.prog 64 #[.pointer (some ⟨b, 0, none⟩), .string s] w fun e w' => e = .returned (.tuple #[.int .i64 l.length, .nilIface]) ∧ Lib.IsBuffer 87 5 B b (Lib.byteCells (acc ++ l)) w' ∧ Below B w w' ∧ Lib.OthersKept 5 (some b) w w' := by
  subst hs
  have hsz : s.data.toList.length = s.size := Array.length_toList
  refine (Tryz.Buffer_WriteString_k B b (Lib.byteCells acc) s w h hBw (Lib.byteCells_one acc) (by rw [Lib.byteCells_length]; omega)).mono fun e w' hh => ⟨by rw [hh.1, hsz], by rw [Lib.byteCells_append]; exact hh.2.1, hh.2.2.1, hh.2.2.2⟩
theorem wr_any (B b : Nat) (acc l : List UInt8) (g o n c : Nat) (w : World) (h : Lib.IsBuffer 87 5 B b (Lib.byteCells acc) w) (hBw : B ≤ w.heap.size) (hr : RdB w (some ⟨g, o, none⟩) n l) (hgb : g ≠ b) (hn : 0 < n) (hlim : acc.length + l.length ≤ 140737488355328) :
    Calls Tryz.prog 65 #[.pointer (some ⟨b, 0, none⟩), .slice (some ⟨g, o, none⟩) n c] w fun e w' => e = .returned (.tuple #[.int .i64 n, .nilIface]) ∧ Lib.IsBuffer 87 5 B b (Lib.byteCells (acc ++ l)) w' ∧ Below B w w' ∧ Lib.OthersKept 5 (some b) w w' := by
  refine (Tryz.Buffer_Write_any B b (Lib.byteCells acc) (Lib.byteCells l) ⟨g, o, none⟩ n c w h hBw (Lib.byteCells_one acc) (by rw [Lib.byteCells_length]; exact hr.1) hgb (fun j v hj => ?_) (Lib.byteCells_one l) (by rw [Lib.byteCells_length]; have := hr.1; omega)).mono fun e w' hh => ⟨hh.1, by rw [Lib.byteCells_append]; exact hh.2.1, hh.2.2.1, hh.2.2.2⟩
  obtain ⟨g', o', e, _, hc⟩ := hr.2.2 hn
  injection e with e
  injection e with e1 e2
  subst e1 e2
  rw [addr_add]
  exact hc j v hj
set_option maxHeartbeats 1000000 in
theorem bufBytes_any (B b : Nat) (l : List UInt8) (w : World) (h : Lib.IsBuffer 87 5 B b (Lib.byteCells l) w) (hl : 0 < l.length) :
    Calls Tryz.prog 66 #[.pointer (some ⟨b, 0, none⟩)] w fun e w' => ∃ A n c, e = .returned (.slice A n c) ∧ OwnB w' B (.slice A n c) l ∧ Below w.heap.size w w' := by
  obtain ⟨hB, v, lr, hb, hown, -⟩ := h
  rw [Lib.byteCells_length] at hown
  obtain ⟨g, cap, hv, hBg, hgw⟩ := hown.form hl
  subst hv
  have hO : OwnB w B (.slice (some ⟨g, 0, none⟩) l.length cap) l := hown
  have hcap : l.length ≤ cap := by
    rcases hown.2 with ⟨h1, _⟩ | ⟨_, cp, _, h1, _, _, hc, _⟩
    · cases h1
    · injection h1 with h1 h2 h3
      subst h3
      exact hc
  have c0 : w.cell? ⟨b, 0, none⟩ = some (.slice (some ⟨g, 0, none⟩) l.length cap) := by rw [cell_of_row _ _ _ _ _ _ hb]; rfl
  have c1 : w.cell? ⟨b, 1, none⟩ = some (.int .i64 0) := by rw [cell_of_row _ _ _ _ _ _ hb]; rfl
  have HO := Lib.hid hO
  clear hown hb hO
  generalize hlen : l.length = n at *
  have HL := Lib.hid hlen
  clear hlen
  go_enter Tryz.func66, Tryz.ntmps66
  go_upto_region 1 with fail
  go_quiet (fail)
  go_wp2
  go_ret
  exact ⟨_, _, _, rfl, own_drew9 HO.out _, below_drewN (Below.refl _ _) _⟩
theorem partL_len (mark kind : List UInt8) (typed : Bool) (b : List UInt8) (p : Rg.Sp) (h1 : mark.length ≤ 100) (h2 : kind.length ≤ 1099513724928) (h3 : b.length ≤ 4194304) (h4 : (Rg.placeL p b.length).length ≤ 100) : (Rg.partL mark kind typed b p).length ≤ 1099600000000 := by
  unfold Rg.partL Rg.pieceL
  cases typed <;> simp <;> omega
theorem placeL_len (p : Rg.Sp) (n : Nat) (h1 : p.1 < 4611686018427387904) (h2 : p.2 < 4611686018427387904) (h3 : n < 4611686018427387904) : (Rg.placeL p n).length ≤ 100 := by
  have a := dec_len (k := p.1.toNat) (by omega)
  have b := dec_len (k := p.2.toNat) (by omega)
  have c := dec_len (k := n) (by omega)
  unfold Rg.placeL
  simp; omega
theorem fin_end (q : List Rg.Sp) (mark kind : List UInt8) (typed : Bool) (b : List UInt8) : (q.map (Rg.partL mark kind typed b)).flatten ++ Rg.endL mark = Rg.partsL mark kind typed b q := rfl
set_option maxHeartbeats 8000000 in
theorem parts_any (Pa : Option Addr) (pn pc : Nat) (q : List Rg.Sp) (st : Int) (rs : List UInt8) (minor : Int) (B : Option Addr) (m d : Nat) (l : List Fld) (A : Option Addr) (n c : Nat) (b mark : List UInt8) (w : World) (ht : Tab w)
    (hq : RdP w Pa pn q) (hpn : pn ≤ 8) (hin : ∀ p ∈ q, 0 ≤ p.1 ∧ p.1 ≤ p.2 ∧ p.2 < (n : Int)) (hl : RdF w B m l) (hm : m ≤ 1048576) (hls : FlenS l) (hb : RdB w A n b) (hn : n ≤ 4194304) (hnc : n ≤ c) (hc : c ≤ maxLen) (hmk : mark.length ≤ 100) :
    Calls Tryz.prog 42 #[.slice Pa pn pc, respV st rs minor B m d, .slice A n c, .string (bs mark)] w fun e w' => ∃ A' n' c', e = .returned (.slice A' n' c') ∧ OwnB w' w.heap.size (.slice A' n' c') (Rg.partsL mark (Frs.getL l Rg.ctR) (!(valuesL l Rg.ctR).isEmpty) b q) ∧ Below w.heap.size w w' := by
  unfold respV
  have hc2 : (c : Int) ≤ 9223372036854775807 := by unfold maxLen at hc; omega
  have hb1 := alloc_below w (.cells #[.int .i64 st, .string (bs rs), .int .i64 minor, .slice B m d] 31)
  have hr1 := heap_alloc_new w (.cells #[.int .i64 st, .string (bs rs), .int .i64 minor, .slice B m d] 31)
  have hsz1 : (w.alloc (.cells #[.int .i64 st, .string (bs rs), .int .i64 minor, .slice B m d] 31)).heap.size = w.heap.size + 1 := by simp
  have hI1 := Lib.fresh_isBuffer 87 5 (w.alloc (.cells #[.int .i64 st, .string (bs rs), .int .i64 minor, .slice B m d] 31))
  have hb2 := alloc_below (w.alloc (.cells #[.int .i64 st, .string (bs rs), .int .i64 minor, .slice B m d] 31)) (.cells #[.slice none 0 0, .int .i64 0, .int .i8 0] 87)
  rw [hsz1] at hI1
  have hr2 := row_keep hr1 hb2
  have hb0 := bnext hb1 hb2 hb1.size
  have hsz2 : w.heap.size + 2 ≤ ((w.alloc (.cells #[.int .i64 st, .string (bs rs), .int .i64 minor, .slice B m d] 31)).alloc (.cells #[.slice none 0 0, .int .i64 0, .int .i8 0] 87)).heap.size := by simp
  have hkl := Frs.get_len hls (by rw [hl.1]; exact hm) Rg.ctR
  have hG : Hid (∀ W, Below w.heap.size w W → Calls Tryz.prog 24 #[.slice B m d, .string (bs Rg.ctP)] W fun x w' => x = .returned (.tuple #[.string (bs (Frs.getL l Rg.ctR)), .bool (!(valuesL l Rg.ctR).isEmpty)]) ∧ Below W.heap.size W w') := Lib.hid fun W hW => by
    have h := get_any B m d l Rg.ctP W (hl.step hW) hm hls (by decide)
    change Calls Tryz.prog 24 _ _ fun x w' => x = .returned (.tuple #[.string (bs (Frs.getL l Rg.ctP)), .bool (!(valuesL l Rg.ctP).isEmpty)]) ∧ _ at h
    rw [show Frs.getL l Rg.ctP = Frs.getL l Rg.ctR from Frs.get_name rfl, show valuesL l Rg.ctP = valuesL l Rg.ctR from valuesL_nameG rfl] at h
    exact h
  have hbl := hb.1
  have HPL : Hid (∀ p ∈ q, (Rg.placeL p n).length ≤ 100) := Lib.hid fun p hp => by
    have := hin p hp
    exact placeL_len p n (by omega) (by omega) (by omega)
  have HPART : Hid (∀ (typed : Bool) (kind : List UInt8), kind.length ≤ 1099513724928 → ∀ p ∈ q, (Rg.partL mark kind typed b p).length ≤ 1099600000000) := Lib.hid fun typed kind hk p hp => partL_len mark kind typed b p hmk hk (by omega) (by rw [hbl]; exact HPL.out p hp)
  have HN : Hid (n = b.length) := Lib.hid hbl.symm
  clear hls hl hm
  generalize Frs.getL l Rg.ctR = kind at *
  generalize (!(valuesL l Rg.ctR).isEmpty) = typed at *
  have HPART2 := Lib.hid (HPART.out typed kind hkl)
  clear HPART hbl
  have HFIN := Lib.hid (fin_end q mark kind typed b)
  have HTK : Hid (q.take pn = q) := Lib.hid (List.take_of_length_le (by rw [hq.1]; exact Nat.le_refl _))
  generalize Rg.partsL mark kind typed b q = OUT at *
  go_enter Tryz.func42, Tryz.ntmps42
  go_upto_region 2 with fail
  clear hb1 hr1 hb2 hsz1
  generalize (w.alloc (.cells #[.int .i64 st, .string (bs rs), .int .i64 minor, .slice B m d] 31)).alloc (.cells #[.slice none 0 0, .int .i64 0, .int .i8 0] 87) = w2 at *
  obtain ⟨a0, a1, a2, a3, -⟩ := row_facts4 hr2
  go_wp2_with fail
  refine (hG.out _ hb0).mono ?_
  rintro e w3 ⟨rfl, hb3⟩
  clear a0 a1 a2 a3 hr2 hG
  have hI3 := hI1.old hb3
  replace hb0 := bnext hb0 hb3 hb0.size
  have hsz3 : w.heap.size + 2 ≤ w3.heap.size := Nat.le_trans hsz2 hb3.size
  clear hI1 hb3 hsz2
  have ht3 := tab_b ht hb0
  generalize hBB : w.heap.size + 1 = Bb at *
  have hBw : w.heap.size ≤ Bb := by omega
  have hB3 : Bb < w3.heap.size := by omega
  cases typed with
  | true =>
    have HPARTE : Hid (∀ i j : Nat, Rg.partL mark kind true b ((i : Int), (j : Int)) = [13, 10, 45, 45] ++ mark ++ [13, 10] ++ (Rg.ctT ++ kind ++ [13, 10]) ++ (Rg.crT ++ Rg.placeL ((i : Int), (j : Int)) b.length ++ [13, 10, 13, 10]) ++ (b.drop i).take (j + 1 - i)) := Lib.hid fun i j => by unfold Rg.partL Rg.pieceL; simp
    have HACC : Hid (∀ k x, q[k]? = some x → ((q.take (k + 1)).map (Rg.partL mark kind true b)).flatten = ((q.take k).map (Rg.partL mark kind true b)).flatten ++ Rg.partL mark kind true b x) := Lib.hid fun k x h => by rw [take_snoc? h]; simp
    go_wp2
    go_loopw [22] (fun t wr => ∃ k : Nat, k ≤ pn ∧ t = .int .i64 (k : Int) ∧ Lib.IsBuffer 87 5 Bb Bb (Lib.byteCells ((q.take k).map (Rg.partL mark kind true b)).flatten) wr ∧ ((q.take k).map (Rg.partL mark kind true b)).flatten.length ≤ k * 1099600000000 ∧ Below Bb w3 wr) (fun t _ => pn - (intOf t).toNat)
    case atStart => exact ⟨0, by omega, rfl, hI3, by simp, Below.refl _ _⟩
    case round =>
      obtain ⟨k, hk, rfl, hI, hal, hbr⟩ := hrel
      have hwr : Below w.heap.size w wr := hb0.trans (hbr.mono hBw)
      have hszr := hbr.size
      by_cases hlt : k < pn
      · obtain ⟨g, o, x, y, rfl, hg, HX, hc1, hc2⟩ := (hq.step hwr).at_ hlt
        have hxy := hin _ (mem_of_get? HX.out)
        obtain ⟨x0, x1, x2⟩ := hxy
        dsimp only at x0 x1 x2
        obtain ⟨i, rfl⟩ : ∃ i : Nat, x = i := ⟨x.toNat, by omega⟩
        obtain ⟨j, rfl⟩ : ∃ j : Nat, y = j := ⟨y.toNat, by omega⟩
        have HP1 := Lib.hid (HPART2.out _ (mem_of_get? HX.out))
        have HP2 := Lib.hid (HPL.out _ (mem_of_get? HX.out))
        have HAC := Lib.hid (HACC.out k _ HX.out)
        rw [HPARTE.out, ← HN.out] at HAC HP1
        have HPLC : Hid (∀ W, Tab W → Calls Tryz.prog 40 #[.agg #[.int .i64 (i : Int), .int .i64 (j : Int)], .int .i64 (n : Int)] W fun e w' => e = .returned (.string (bs (Rg.placeL ((i : Int), (j : Int)) n))) ∧ Below W.heap.size W w') := Lib.hid fun W hT => place_p i j n W hT (by omega) (by omega) (by omega) (by omega) (by omega)
        obtain ⟨gb, ob, rfl, hgb, -⟩ := hb.2.2 (by omega)
        have halx := alloc_below wr (.cells #[.int .i64 (i : Int), .int .i64 (j : Int)] 43)
        have hbox := heap_alloc_new wr (.cells #[.int .i64 (i : Int), .int .i64 (j : Int)] 43)
        have hI4 := hI.old halx
        have hs4 := halx.size
        have hgx : Bb < wr.heap.size := by omega
        go_upto_region 6 with fail
        generalize wr.alloc (.cells #[.int .i64 (i : Int), .int .i64 (j : Int)] 43) = w4 at *
        replace hbr := bnext hbr halx (by omega)
        generalize wr.heap.size = gx at *
        generalize ((q.take k).map (Rg.partL mark kind true b)).flatten = ACC at *
        generalize Rg.placeL ((i : Int), (j : Int)) n = PL at *
        have hal2 : ACC.length ≤ 8796800000000 := by omega
        have hpl := HP2.out
        clear halx hI hwr HX HPL HPART2 HP2 hc1 hc2 HACC HPARTE HN
        go_wp2_with fail
        refine (ws_any Bb Bb (ACC) ([13, 10, 45, 45] ++ mark ++ [13, 10]) _ w4 hI4 (by omega) (by simp [bs]) (by simp; omega)).mono ?_
        rintro e w5 ⟨rfl, hI5, hbx, hkx⟩
        replace hbox := hkx gx _ hbox (by simp; omega) (fun c fz h => by simp at h)
        replace hbr := hbr.trans hbx
        have hsw5 := hbx.size
        clear hbx hkx
        go_wp2_with fail
        refine (ws_any Bb Bb (ACC ++ ([13, 10, 45, 45] ++ mark ++ [13, 10])) (Rg.ctT ++ kind ++ [13, 10]) _ w5 hI5 (by omega) (by simp [bs]) (by simp; omega)).mono ?_
        rintro e w6 ⟨rfl, hI6, hbx, hkx⟩
        replace hbox := hkx gx _ hbox (by simp; omega) (fun c fz h => by simp at h)
        replace hbr := hbr.trans hbx
        have hsw6 := hbx.size
        clear hbx hkx
        obtain ⟨c0, c1, -⟩ := row_facts2s hbox
        have hwb := hb0.trans (hbr.mono hBw)
        go_wp2_with fail
        refine (HPLC.out w6 (tab_b ht hwb)).mono ?_
        rintro e w7 ⟨rfl, hb7⟩
        replace hbox := row_keep hbox hb7
        replace hbr := bnext hbr hb7 (Nat.le_trans (Nat.le_of_lt hB3) hbr.size)
        have hI7 := hI6.old hb7
        have hs7 := hb7.size
        clear c0 c1 hb7 hwb
        go_wp2_with fail
        refine (ws_any Bb Bb (ACC ++ ([13, 10, 45, 45] ++ mark ++ [13, 10]) ++ (Rg.ctT ++ kind ++ [13, 10])) (Rg.crT ++ PL ++ [13, 10, 13, 10]) _ w7 hI7 (by omega) (by simp [bs]) (by simp; omega)).mono ?_
        rintro e w8 ⟨rfl, hI8, hbx, hkx⟩
        replace hbox := hkx gx _ hbox (by simp; omega) (fun c fz h => by simp at h)
        replace hbr := hbr.trans hbx
        have hsw8 := hbx.size
        clear hbx hkx
        obtain ⟨c0, c1, -⟩ := row_facts2s hbox
        have hbs := (RdB.sub (hb.step (hb0.trans (hbr.mono hBw))) (i := i) (k := j + 1 - i) (by omega) (by omega))
        have HSL := Lib.hid hbs.1
        have hC := fun c9 => wr_any Bb Bb (ACC ++ ([13, 10, 45, 45] ++ mark ++ [13, 10]) ++ (Rg.ctT ++ kind ++ [13, 10]) ++ (Rg.crT ++ PL ++ [13, 10, 13, 10])) ((b.drop i).take (j + 1 - i)) gb (ob + i) (j + 1 - i) c9 w8 hI8 (by omega) hbs (by have := hgb; omega) (by omega) (by have := HSL.out; simp only [List.length_append]; simp; omega)
        generalize (b.drop i).take (j + 1 - i) = PC at *
        clear hbs
        go_wp2_with fail
        refine (hC _).mono ?_
        rintro e w9 ⟨rfl, hI9, hb9, -⟩
        go_wp2
        go_roundw
        case rel => exact ⟨k + 1, by omega, by go_num, by rw [HAC.out]; have h := hI9; simp only [List.append_assoc] at h ⊢; exact h, by rw [HAC.out, List.length_append]; have := HP1.out; omega, hbr.trans hb9⟩
        case measure => simp [intOf]; omega
      · obtain rfl : k = pn := by omega
        have HE := HFIN.out
        rw [HTK.out] at hI hal
        generalize (q.map (Rg.partL mark kind true b)).flatten = ACC at *
        have hal2 : ACC.length ≤ 8796800000000 := by omega
        go_wp2_with fail
        refine (ws_any Bb Bb ACC (Rg.endL mark) _ wr hI (by omega) (by simp [bs, Rg.endL]) (by unfold Rg.endL; simp; omega)).mono ?_
        rintro e w5 ⟨rfl, hI5, hb5, -⟩
        rw [HE] at hI5
        have hC := bufBytes_any Bb Bb OUT w5 hI5 (by rw [← HE]; unfold Rg.endL; simp; omega)
        have HE9 := Lib.hid HE
        clear HE
        go_wp2_with fail
        refine hC.mono ?_
        rintro e w6 ⟨A6, n6, c6, rfl, hown, hb6⟩
        go_wp2
        go_ret
        exact ⟨A6, n6, c6, rfl, hown.mono hBw, bnext (hwr.trans (hb5.mono hBw)) hb6 (by have := hwr.size; have := hb5.size; omega)⟩
  | false =>
    have HPARTE : Hid (∀ i j : Nat, Rg.partL mark kind false b ((i : Int), (j : Int)) = [13, 10, 45, 45] ++ mark ++ [13, 10] ++ (Rg.crT ++ Rg.placeL ((i : Int), (j : Int)) b.length ++ [13, 10, 13, 10]) ++ (b.drop i).take (j + 1 - i)) := Lib.hid fun i j => by unfold Rg.partL Rg.pieceL; simp
    have HACC : Hid (∀ k x, q[k]? = some x → ((q.take (k + 1)).map (Rg.partL mark kind false b)).flatten = ((q.take k).map (Rg.partL mark kind false b)).flatten ++ Rg.partL mark kind false b x) := Lib.hid fun k x h => by rw [take_snoc? h]; simp
    go_wp2
    go_loopw [22] (fun t wr => ∃ k : Nat, k ≤ pn ∧ t = .int .i64 (k : Int) ∧ Lib.IsBuffer 87 5 Bb Bb (Lib.byteCells ((q.take k).map (Rg.partL mark kind false b)).flatten) wr ∧ ((q.take k).map (Rg.partL mark kind false b)).flatten.length ≤ k * 1099600000000 ∧ Below Bb w3 wr) (fun t _ => pn - (intOf t).toNat)
    case atStart => exact ⟨0, by omega, rfl, hI3, by simp, Below.refl _ _⟩
    case round =>
      obtain ⟨k, hk, rfl, hI, hal, hbr⟩ := hrel
      have hwr : Below w.heap.size w wr := hb0.trans (hbr.mono hBw)
      have hszr := hbr.size
      by_cases hlt : k < pn
      · obtain ⟨g, o, x, y, rfl, hg, HX, hc1, hc2⟩ := (hq.step hwr).at_ hlt
        have hxy := hin _ (mem_of_get? HX.out)
        obtain ⟨x0, x1, x2⟩ := hxy
        dsimp only at x0 x1 x2
        obtain ⟨i, rfl⟩ : ∃ i : Nat, x = i := ⟨x.toNat, by omega⟩
        obtain ⟨j, rfl⟩ : ∃ j : Nat, y = j := ⟨y.toNat, by omega⟩
        have HP1 := Lib.hid (HPART2.out _ (mem_of_get? HX.out))
        have HP2 := Lib.hid (HPL.out _ (mem_of_get? HX.out))
        have HAC := Lib.hid (HACC.out k _ HX.out)
        rw [HPARTE.out, ← HN.out] at HAC HP1
        have HPLC : Hid (∀ W, Tab W → Calls Tryz.prog 40 #[.agg #[.int .i64 (i : Int), .int .i64 (j : Int)], .int .i64 (n : Int)] W fun e w' => e = .returned (.string (bs (Rg.placeL ((i : Int), (j : Int)) n))) ∧ Below W.heap.size W w') := Lib.hid fun W hT => place_p i j n W hT (by omega) (by omega) (by omega) (by omega) (by omega)
        obtain ⟨gb, ob, rfl, hgb, -⟩ := hb.2.2 (by omega)
        have halx := alloc_below wr (.cells #[.int .i64 (i : Int), .int .i64 (j : Int)] 43)
        have hbox := heap_alloc_new wr (.cells #[.int .i64 (i : Int), .int .i64 (j : Int)] 43)
        have hI4 := hI.old halx
        have hs4 := halx.size
        have hgx : Bb < wr.heap.size := by omega
        go_upto_region 6 with fail
        generalize wr.alloc (.cells #[.int .i64 (i : Int), .int .i64 (j : Int)] 43) = w4 at *
        replace hbr := bnext hbr halx (by omega)
        generalize wr.heap.size = gx at *
        generalize ((q.take k).map (Rg.partL mark kind false b)).flatten = ACC at *
        generalize Rg.placeL ((i : Int), (j : Int)) n = PL at *
        have hal2 : ACC.length ≤ 8796800000000 := by omega
        have hpl := HP2.out
        clear halx hI hwr HX HPL HPART2 HP2 hc1 hc2 HACC HPARTE HN
        go_wp2_with fail
        refine (ws_any Bb Bb (ACC) ([13, 10, 45, 45] ++ mark ++ [13, 10]) _ w4 hI4 (by omega) (by simp [bs]) (by simp; omega)).mono ?_
        rintro e w5 ⟨rfl, hI5, hbx, hkx⟩
        replace hbox := hkx gx _ hbox (by simp; omega) (fun c fz h => by simp at h)
        replace hbr := hbr.trans hbx
        have hsw5 := hbx.size
        clear hbx hkx
        obtain ⟨c0, c1, -⟩ := row_facts2s hbox
        have hwb := hb0.trans (hbr.mono hBw)
        go_wp2_with fail
        refine (HPLC.out w5 (tab_b ht hwb)).mono ?_
        rintro e w7 ⟨rfl, hb7⟩
        replace hbox := row_keep hbox hb7
        replace hbr := bnext hbr hb7 (Nat.le_trans (Nat.le_of_lt hB3) hbr.size)
        have hI7 := hI5.old hb7
        have hs7 := hb7.size
        clear c0 c1 hb7 hwb
        go_wp2_with fail
        refine (ws_any Bb Bb (ACC ++ ([13, 10, 45, 45] ++ mark ++ [13, 10])) (Rg.crT ++ PL ++ [13, 10, 13, 10]) _ w7 hI7 (by omega) (by simp [bs]) (by simp; omega)).mono ?_
        rintro e w8 ⟨rfl, hI8, hbx, hkx⟩
        replace hbox := hkx gx _ hbox (by simp; omega) (fun c fz h => by simp at h)
        replace hbr := hbr.trans hbx
        have hsw8 := hbx.size
        clear hbx hkx
        obtain ⟨c0, c1, -⟩ := row_facts2s hbox
        have hbs := (RdB.sub (hb.step (hb0.trans (hbr.mono hBw))) (i := i) (k := j + 1 - i) (by omega) (by omega))
        have HSL := Lib.hid hbs.1
        have hC := fun c9 => wr_any Bb Bb (ACC ++ ([13, 10, 45, 45] ++ mark ++ [13, 10]) ++ (Rg.crT ++ PL ++ [13, 10, 13, 10])) ((b.drop i).take (j + 1 - i)) gb (ob + i) (j + 1 - i) c9 w8 hI8 (by omega) hbs (by have := hgb; omega) (by omega) (by have := HSL.out; simp only [List.length_append]; simp; omega)
        generalize (b.drop i).take (j + 1 - i) = PC at *
        clear hbs
        go_wp2_with fail
        refine (hC _).mono ?_
        rintro e w9 ⟨rfl, hI9, hb9, -⟩
        go_wp2
        go_roundw
        case rel => exact ⟨k + 1, by omega, by go_num, by rw [HAC.out]; have h := hI9; simp only [List.append_assoc] at h ⊢; exact h, by rw [HAC.out, List.length_append]; have := HP1.out; omega, hbr.trans hb9⟩
        case measure => simp [intOf]; omega
      · obtain rfl : k = pn := by omega
        have HE := HFIN.out
        rw [HTK.out] at hI hal
        generalize (q.map (Rg.partL mark kind false b)).flatten = ACC at *
        have hal2 : ACC.length ≤ 8796800000000 := by omega
        go_wp2_with fail
        refine (ws_any Bb Bb ACC (Rg.endL mark) _ wr hI (by omega) (by simp [bs, Rg.endL]) (by unfold Rg.endL; simp; omega)).mono ?_
        rintro e w5 ⟨rfl, hI5, hb5, -⟩
        rw [HE] at hI5
        have hC := bufBytes_any Bb Bb OUT w5 hI5 (by rw [← HE]; unfold Rg.endL; simp; omega)
        have HE9 := Lib.hid HE
        clear HE
        go_wp2_with fail
        refine hC.mono ?_
        rintro e w6 ⟨A6, n6, c6, rfl, hown, hb6⟩
        go_wp2
        go_ret
        exact ⟨A6, n6, c6, rfl, hown.mono hBw, bnext (hwr.trans (hb5.mono hBw)) hb6 (by have := hwr.size; have := hb5.size; omega)⟩
end Go.Proofs.YtcaekfebnhedpaaGreatDoor
