/- Joined texts: The reference's line, whole, and its Parse; FOR A PROOF OF AN '..UptoSaid': WHAT THE BOUND GIVES. Copy it as <Name>Bulk.lean (put your seat's Name for YtgkphjbcaidcpaaGreatDoor, the bound of 'uptoSmall' for 1048576), name it in GOCLAIM.json's 'order' behind <Name>Rows. By an AI agent, Sun Nov 15 2026; Small lemmas for the last step of a row: what a call left is known below the old heap alone ('Below'). Lines of the guide's worked small lemmas turned to this claim; no conditions of ours; The laws' arguments opened: texts, fields. From the form's reading to 'bs', 'RdF'; no conditions but the bound of the second form; An ask as an argument. The conditions stand in each line. -/
import Derived.Test.YtgkphjbcaidcpaaGreatDoorRows
import Derived.Test.YtgkphjbcaidcpaaGreatDoorM1
import Derived.Test.YtgkphjbcaidcpaaGreatDoorM2
import Derived.Test.YtgkphjbcaidcpaaGreatDoorM6
import Derived.Test.YtgkphjbcaidcpaaGreatDoorM23
import Derived.Below
import Derived.ChangeSame
import Derived.Deep.SlicePairs
import Derived.ProofKit
import Derived.OpenShut
import Derived.SizedLaws
import Derived.JoinedCond
set_option linter.unusedVariables false
set_option linter.unusedSimpArgs false
namespace Go.Proofs.YtgkphjbcaidcpaaGreatDoor
open Go.RowKit

set_option maxRecDepth 100000
theorem rline_any (B : Nat) (E : Option Addr) (en ec : Nat) (R : Option Addr) (rn rc : Nat) (L : Ac.LS) (no : Nat) (h : List UInt8) (r : List (List UInt8)) (g' o' m mc : Nat) (w : World) (hL : RLB B w E en R rn L) (hBw : B ≤ w.heap.size) (hBg : B ≤ g') (hW : RdS w (some ⟨g', o', none⟩) (m + 1) (h :: r)) (hwd : ∀ s ∈ h :: r, 1 ≤ s.length ∧ s.length ≤ 4194304)
    (hm : m + 1 ≤ 4194304) (hmc : m ≤ mc ∧ mc + 1 ≤ maxLen) (hcap : ∀ e ∈ L.els, e.vs.length + m ≤ 4194304) (hel : L.els.length + 1 ≤ 4194304) (hru : L.rus.length + 1 ≤ 4194304) :
    Calls Tryz.prog 22 #[rlV E en ec R rn rc, .slice (some ⟨g', o', none⟩) (m + 1) (mc + 1), .int .i64 (no : Int)] w fun x w' => LnOut B w (Ac.line L no (h :: r)) x w' := by
  have hrl : r.length = m := by have := hW.1; simpa using this
  by_cases h1 : h = Ac.aclT
  · rw [Ac.line_acl h1]
    rcases r with _ | ⟨nm, _ | ⟨kd, _ | ⟨v, vs⟩⟩⟩
    · exact rline_short B E en ec R rn rc L no h _ g' o' m mc w hW (by simp at hrl; omega) h1
    · exact rline_short B E en ec R rn rc L no h _ g' o' m mc w hW (by simp at hrl; omega) h1
    · exact rline_short B E en ec R rn rc L no h _ g' o' m mc w hW (by simp at hrl; omega) h1
    · obtain ⟨n, rfl⟩ : ∃ n, m = n + 2 := ⟨m - 2, by simp at hrl; omega⟩
      obtain ⟨c, rfl⟩ : ∃ c, mc = c + 2 := ⟨mc - 2, by omega⟩
      have hn : 1 ≤ n := by simp at hrl; omega
      have hwd2 : ∀ s ∈ nm :: kd :: v :: vs, 1 ≤ s.length ∧ s.length ≤ 4194304 := fun s hs => hwd s (List.mem_cons_of_mem _ hs)
      cases ht : Ac.tok nm with
      | false => exact rline_tok B E en ec R rn rc L no h nm kd v vs g' o' n c w hW hwd2 ⟨hn, by omega⟩ ⟨by omega, by omega⟩ h1 ht
      | true => exact rline_def B E en ec R rn rc L no h nm kd v vs g' o' n c w hW hwd2 ⟨hn, by omega⟩ ⟨by omega, by omega⟩ h1 ht hL hBw hBg (fun e he => by have := hcap e he; omega) hel
  · by_cases h2 : h = Ac.allowT
    · rw [Ac.line_allow h1 h2]
      exact rline_rule_true B E en ec R rn rc L no h r g' o' m mc w hL hBw hBg hW hwd hm hmc h2 hru
    · by_cases h3 : h = Ac.denyT
      · rw [Ac.line_deny h1 h2 h3]
        exact rline_rule_false B E en ec R rn rc L no h r g' o' m mc w hL hBw hBg hW hwd hm hmc h3 hru
      · exact rline_none B E en ec R rn rc L no h r g' o' m mc w hL hBw hBg hW hwd hm hmc h1 h2 h3
namespace Ac
theorem LOK.nil : LOK LS.nil := ⟨fun e h => by simp [LS.nil] at h, fun r h => by simp [LS.nil] at h⟩
theorem ruleL_lok {L L' : LS} {no : Nat} {al : Bool} {ns : List T} (h : ruleL L no al ns = some L') (hL : LOK L) (hw : ∀ n ∈ ns, 1 ≤ n.length ∧ n.length ≤ 4194304) : LOK L' ∧ L'.els.length ≤ L.els.length + 1 := by
  unfold ruleL at h
  split at h
  · rename_i ha
    injection h with h
    subst h
    refine ⟨⟨hL.els, fun r hr n hn => ?_⟩, by simp⟩
    rcases List.mem_append.1 hr with hr | hr
    · exact hL.rus r hr n hn
    · rw [List.mem_singleton.1 hr] at hn
      exact ⟨(hw n hn).1, (hw n hn).2, List.all_eq_true.1 ha n hn⟩
  · cases h
theorem define_lok {L L' : LS} {wd : List T} (h : define L wd = some L') (hL : LOK L) (hw : ∀ n ∈ wd, 1 ≤ n.length ∧ n.length ≤ 4194304) : LOK L' ∧ L'.els.length ≤ L.els.length + 1 := by
  rcases wd with _ | ⟨nm, _ | ⟨k, _ | ⟨v, vs⟩⟩⟩
  · rw [define_short (by simp)] at h; cases h
  · rw [define_short (by simp)] at h; cases h
  · rw [define_short (by simp)] at h; cases h
  · rw [define_eq] at h
    split at h
    · rename_i ha
      have hg : ∀ x ∈ v :: vs, ValOK k x := fun x hx => ⟨List.all_eq_true.1 ha.2 x hx, (hw x (List.mem_cons_of_mem _ (List.mem_cons_of_mem _ hx))).2, (hw x (List.mem_cons_of_mem _ (List.mem_cons_of_mem _ hx))).1⟩
      unfold defB at h
      split at h
      · injection h with h
        subst h
        refine ⟨⟨fun e he => ?_, fun r hr n hn => ?_⟩, by simp⟩
        · rcases List.mem_append.1 he with he | he
          · exact hL.els e he
          · rw [List.mem_singleton.1 he]; exact hg
        · obtain ⟨q1, q2, q3⟩ := hL.rus r hr n hn
          refine ⟨q1, q2, ?_⟩
          obtain ⟨i, hi⟩ := Option.isSome_iff_exists.1 q3
          show (atI (L.els ++ [_]) _).isSome = true
          rw [atI_snoc, hi]; rfl
      · rename_i i hi
        split at h
        · rename_i e he
          split at h
          · rename_i hk
            injection h with h
            subst h
            refine ⟨⟨fun e' he' => ?_, fun r hr n hn => ?_⟩, by simp⟩
            · rcases List.mem_or_eq_of_mem_set he' with he' | he'
              · exact hL.els e' he'
              · rw [he']
                intro x hx
                rcases List.mem_append.1 hx with hx | hx
                · exact hL.els e (mem_of_get? he) x hx
                · show ValOK e.kd x
                  rw [hk]; exact hg x hx
            · obtain ⟨q1, q2, q3⟩ := hL.rus r hr n hn
              refine ⟨q1, q2, ?_⟩
              show (atI (L.els.set i _) _).isSome = true
              rw [atI_set L.els i (e' := ⟨e.nm, e.kd, e.vs ++ v :: vs⟩) he rfl]; exact q3
          · cases h
        · cases h
    · cases h
theorem line_lok {L L' : LS} {no : Nat} {wd : List T} (h : line L no wd = some L') (hL : LOK L) (hw : ∀ n ∈ wd, 1 ≤ n.length ∧ n.length ≤ 4194304) : LOK L' ∧ L'.els.length ≤ L.els.length + 1 := by
  rcases wd with _ | ⟨a, r⟩
  · cases h
  · have hw2 : ∀ n ∈ r, 1 ≤ n.length ∧ n.length ≤ 4194304 := fun n hn => hw n (List.mem_cons_of_mem _ hn)
    rw [line_cons] at h
    split at h
    · exact define_lok h hL hw2
    · split at h
      · exact ruleL_lok h hL hw2
      · split at h
        · exact ruleL_lok h hL hw2
        · cases h
end Ac
theorem gb_trans {a b c : World} {g : Nat} (h : a.grownBy b (some g)) (k : b.grownBy c (some g)) : a.grownBy c (some g) :=
  ⟨k.os.trans h.os, k.tape.trans h.tape, k.output.trans h.output, Nat.le_trans h.size k.size, fun i hi hne => (k.block i (Nat.lt_of_lt_of_le hi h.size) hne).trans (h.block i hi hne)⟩
theorem gb_below {w w' : World} (hb : Below w.heap.size w w') (g : Nat) : w.grownBy w' (some g) := ⟨hb.os, hb.tape, hb.output, hb.size, fun k hk _ => hb.block k hk⟩
theorem gb_two {w W : World} {g : Nat} (h : w.grownBy W (some g)) (u v : Value) : w.grownBy ((W.setCell ⟨g, 0, none⟩ u).setCell ⟨g, 1, none⟩ v) (some g) := gb_trans (gb_trans h (grown_set W g 0 u)) (grown_set _ g 1 v)
/-- What the reference's Parse leaves. -/
def ParseR (w : World) (r : Ac.LS × Nat × Int) (e : Ending) (w' : World) : Prop :=
  ∃ E en ec R rn rc, e = .returned (.tuple #[rlV E en ec R rn rc, .int .i64 (r.2.1 : Int), .int .i64 r.2.2]) ∧ (r.2.2 = 0 → RLst w' E en R rn r.1 ∧ Ac.LOK r.1) ∧ Below w.heap.size w w'
theorem ownS_form {w : World} {B n c : Nat} {A : Option Addr} {l : List (List UInt8)} (h : OwnS w B (.slice A n c) l) (hl : 0 < l.length) : ∃ g, A = some ⟨g, 0, none⟩ ∧ B ≤ g ∧ g < w.heap.size ∧ n ≤ c ∧ c ≤ maxLen := by
  rcases h.2 with ⟨h1, h2⟩ | ⟨g, cap, cur, h1, h2, h3, h4, h5, _⟩
  · omega
  · injection h1 with h1 h6 h7
    subst h1 h7
    exact ⟨g, rfl, h2, (Array.getElem?_eq_some_iff.1 h3).1, by omega, h5⟩
set_option maxHeartbeats 8000000 in
theorem rparse_any (p : List UInt8) (w : World) (hp : p.length ≤ 4194304) :
    Calls Tryz.prog 9 #[.string (bs p)] w fun e w' => ParseR w (Ac.parse p) e w' := by
  have HML := Lib.hid (fun x hx => Nat.le_trans (Ac.split_mem_len 10 p x hx) hp)
  have HTOT := Lib.hid (Nat.le_trans (Ac.tot_split 10 p) hp)
  have hne := Ur.splitc_ne 10 p
  have HPA : Hid (Ac.parse p = Ac.parseLs (Ur.splitc 10 p)) := Lib.hid rfl
  generalize Ac.parse p = RES at *
  have hC := fun W => rcut_any p 10 W (by omega)
  generalize Ur.splitc 10 p = ls at *
  have hal0 := alloc_below w (.cells #[.slice none 0 0, .slice none 0 0] 31)
  have hr0 := heap_alloc_new w (.cells #[.slice none 0 0, .slice none 0 0] 31)
  by_cases h200 : 200 < ls.length
  · have HR : Hid (RES = (Ac.LS.nil, 0, 101)) := Lib.hid (by rw [HPA.out]; unfold Ac.parseLs; rw [if_pos h200])
    clear HPA HML HTOT
    go_enter Tryz.func9, Tryz.ntmps9
    go_upto_region 1 with fail
    generalize w.alloc (.cells #[.slice none 0 0, .slice none 0 0] 31) = w1 at *
    go_wp2_with fail
    refine (hC w1).mono ?_
    rintro x w2 ⟨A, n, c, rfl, hS, hb2⟩
    have hn : (200 : Int) < (n : Int) := by have := hS.rd.1; omega
    have hr2 := (hb2.block _ (Array.getElem?_eq_some_iff.1 hr0).1).trans hr0
    obtain ⟨z0, z1⟩ := row_facts2w hr2
    obtain ⟨f0, f1⟩ := row_frz2 hr2
    have HB := Lib.hid (below_two (bnext hal0 hb2 hal0.size) (b := w.heap.size) (Nat.le_refl _) (.slice none 0 0) (.slice none 0 0))
    clear hC hS hb2 h200
    go_wp2
    refine bodyPost_ret (v := .tuple #[.agg #[.slice none 0 0, .slice none 0 0], .int .i64 0, .int .i64 101]) (by simp [results, Tryz.results9, go_sem, z0, z1]) rfl ?_
    rw [HR.out]
    exact ⟨none, 0, 0, none, 0, 0, rfl, (fun h => by cases h), HB.out⟩
  · have HR : Hid (RES = Ac.parseF Ac.LS.nil 0 ls) := Lib.hid (by rw [HPA.out]; unfold Ac.parseLs; rw [if_neg h200])
    have hlp : 0 < ls.length := List.length_pos_iff.2 hne
    have hl2 : ls.length ≤ 200 := by omega
    clear HPA hne h200
    go_enter Tryz.func9, Tryz.ntmps9
    go_upto_region 1 with fail
    generalize w.alloc (.cells #[.slice none 0 0, .slice none 0 0] 31) = w1 at *
    go_wp2_with fail
    refine (hC w1).mono ?_
    rintro x w2 ⟨A, n, c, rfl, hS, hb2⟩
    have hls := hS.rd
    obtain ⟨gl, rfl, hgl1, hgl2, -, -⟩ := ownS_form hS hlp
    obtain rfl : ls.length = n := hls.1
    have hn : ¬ ((200 : Int) < (ls.length : Int)) := by omega
    have hr2 := (hb2.block _ (Array.getElem?_eq_some_iff.1 hr0).1).trans hr0
    have hrb : w.heap.size < w2.heap.size := (Array.getElem?_eq_some_iff.1 hr2).1
    have hbw2 := bnext hal0 hb2 hal0.size
    clear hC hS hb2 hr0 hal0 hgl1
    go_upto_region 5 with fail
    have halz := alloc_below w2 (.cells #[.slice none 0 0, .slice none 0 0] 31)
    have hrz := heap_alloc_new w2 (.cells #[.slice none 0 0, .slice none 0 0] 31)
    have hrb3 := (halz.block _ hrb).trans hr2
    have hls3 := hls.step halz
    have hbw3 := bnext hbw2 halz hbw2.size
    have hlb3 : w2.heap.size < (w2.alloc (.cells #[.slice none 0 0, .slice none 0 0] 31)).heap.size := (Array.getElem?_eq_some_iff.1 hrz).1
    have hw02 : w.heap.size ≤ w2.heap.size := Nat.le_of_lt hrb
    have hRL0 := RLB.nil (w2.heap.size + 1) (w2.alloc (.cells #[.slice none 0 0, .slice none 0 0] 31))
    clear hls hr2 halz hbw2
    generalize w2.alloc (.cells #[.slice none 0 0, .slice none 0 0] 31) = w4 at *
    generalize w2.heap.size = lb at *
    have HBW : Hid (∀ W, w4.grownBy W (some lb) → Below w.heap.size w W) := Lib.hid fun W hW => hbw3.grown hW hbw3.size (fun k hk => by cases hk; exact hw02)
    have HLS : Hid (∀ W, w4.grownBy W (some lb) → RdS W (some ⟨gl, 0, none⟩) ls.length ls) := Lib.hid fun W hW => ⟨rfl, hls3.2.same hW.size (fun g o e => by
      injection e with e
      injection e with e1 e2
      subst e1
      exact hW.block _ (by omega) (fun e => by injection e with e; omega))⟩
    have HRB : Hid (∀ W, w4.grownBy W (some lb) → W.heap[w.heap.size]? = some (.cells #[.slice none 0 0, .slice none 0 0] 31 (0, 0))) := Lib.hid fun W hW => (hW.block _ (by omega) (fun e => by injection e with e; omega)).trans hrb3
    clear hls3 hbw3 hrb3
    go_wp2_with fail
    go_loopw [7] (fun t wr => ∃ (k : Nat) (L : Ac.LS) (E : Option Addr) (en ec : Nat) (R : Option Addr) (rn rc : Nat), k ≤ ls.length ∧ t = .int .i64 (k : Int) ∧ Hid (wr.heap[lb]? = some (.cells #[.slice E en ec, .slice R rn rc] 31 (0, 0))) ∧ Hid (RLB (lb + 1) wr E en R rn L) ∧ Hid (RES = Ac.parseF L k (ls.drop k)) ∧ Hid (Ac.Cap L (Ac.tot (ls.take k)) k) ∧ Hid (L.els.length ≤ k) ∧ Hid (Ac.LOK L) ∧ Hid (w4.grownBy wr (some lb))) (fun t _ => ls.length - (intOf t).toNat)
    case atStart => exact ⟨0, Ac.LS.nil, none, 0, 0, none, 0, 0, by omega, rfl, Lib.hid hrz, Lib.hid hRL0, Lib.hid HR.out, Lib.hid ⟨fun e he => by simp [Ac.LS.nil] at he, by simp [Ac.LS.nil]⟩, Lib.hid (by simp [Ac.LS.nil]), Lib.hid Ac.LOK.nil, Lib.hid (World.grownBy.refl _ _)⟩
    case round =>
      obtain ⟨k, L, E, en, ec, R, rn, rc, hk, rfl, HX, HL, HE, HC, HEL, HOK, HF⟩ := hrel
      clear hrz hRL0
      have hszr : lb + 1 ≤ wr.heap.size := Nat.le_trans hlb3 HF.out.size
      by_cases hlt : k < ls.length
      · obtain ⟨g9, o9, s, e9, hg9, HS, hc⟩ := (HLS.out wr HF.out).at_ hlt
        injection e9 with e9
        injection e9 with e9 e10
        subst e9 e10
        rw [Nat.zero_add] at hc
        have hsl := HML.out s (mem_of_get? HS.out)
        have hW := rwords_any s wr (by omega)
        have hwl := Ac.words_len s
        have HWM := Lib.hid (fun x (hx : x ∈ Ac.words s) => Ac.words_mem hx)
        have HE2 := HE.out
        rw [Ac.drop_get HS.out] at HE2
        have HT1 := Lib.hid (Ac.tot_snoc HS.out)
        have hT2 := Ac.tot_take ls (k + 1)
        have hT3 := HTOT.out
        cases hwd : Ac.words s with
        | nil =>
          have HR9 := Lib.hid (HE2.trans (Ac.parseF_skip (by rw [hwd]; rfl)))
          have HC9 := Lib.hid (HC.out.le (M' := Ac.tot (ls.take (k + 1))) (N' := k + 1) (by rw [HT1.out]; omega) (by omega))
          have HEL9 : Hid (L.els.length ≤ k + 1) := Lib.hid (by have := HEL.out; omega)
          rw [hwd] at hW
          clear HE2 hwd hg9
          go_wp2_with fail
          refine hW.mono ?_
          rintro x w5 ⟨A2, n2, c2, rfl, hO2, hb5⟩
          obtain rfl : 0 = n2 := hO2.rd.1
          have HX5 := Lib.hid ((hb5.block lb (by omega)).trans HX.out)
          have HL5 := Lib.hid (HL.out.step hb5)
          have HF5 := Lib.hid (gb_trans HF.out (gb_below hb5 lb))
          clear hW hb5 hc hO2
          go_wp2
          go_roundw
          case rel => exact ⟨k + 1, L, E, en, ec, R, rn, rc, by omega, by go_num, HX5, HL5, HR9, HC9, HEL9, HOK, HF5⟩
          case measure => simp [intOf] <;> omega
        | cons h r =>
          have hh := HWM.out h (by rw [hwd]; simp)
          have h0 : 0 < h.length := by omega
          have hrl : r.length + 1 ≤ s.length := by have h9 := hwl; rw [hwd] at h9; simpa using h9
          have hhd : h.head? = some h[0] := by cases h with | nil => simp at h0 | cons a b => rfl
          by_cases hb : (h[0].toNat : Int) = 35
          · have i1 : ((h[0].toNat : Int) == 35) = true := by rw [beq_iff_eq]; exact hb
            have hb9 : h[0] = 35 := UInt8.toNat_inj.1 (by show h[0].toNat = 35; omega)
            have HR9 := Lib.hid (HE2.trans (Ac.parseF_skip (by rw [hwd]; show (!(h.head? == some 35)) = false; rw [hhd, hb9]; rfl)))
            have HC9 := Lib.hid (HC.out.le (M' := Ac.tot (ls.take (k + 1))) (N' := k + 1) (by rw [HT1.out]; omega) (by omega))
            have HEL9 : Hid (L.els.length ≤ k + 1) := Lib.hid (by have := HEL.out; omega)
            rw [hwd] at hW
            clear HE2 hwd hb hb9 hhd hg9
            go_wp2_with fail
            refine hW.mono ?_
            rintro x w5 ⟨A2, n2, c2, rfl, hO2, hb5⟩
            obtain ⟨g2, rfl, -, hg2, -, -⟩ := ownS_form hO2 (by simp)
            obtain rfl : r.length + 1 = n2 := hO2.rd.1
            obtain ⟨g8, o8, e8, _, hc8⟩ := hO2.rd.2.2 (by omega)
            injection e8 with e8
            injection e8 with e8 e7
            subst e8 e7
            have c2 : w5.cell? ⟨g2, 0, none⟩ = some (.string (bs h)) := hc8 0 _ rfl
            have HX5 := Lib.hid ((hb5.block lb (by omega)).trans HX.out)
            have HL5 := Lib.hid (HL.out.step hb5)
            have HF5 := Lib.hid (gb_trans HF.out (gb_below hb5 lb))
            clear hW hb5 hc hO2 hc8
            go_wp2
            go_roundw
            case rel => exact ⟨k + 1, L, E, en, ec, R, rn, rc, by omega, by go_num, HX5, HL5, HR9, HC9, HEL9, HOK, HF5⟩
            case measure => simp [intOf] <;> omega
          · have i1 : ((h[0].toNat : Int) == 35) = false := by rw [beq_eq_false_iff_ne]; exact hb
            have hsd : Ac.said (Ac.words s) = true := by
              rw [hwd]
              show (!(h.head? == some 35)) = true
              have h9 : h[0] ≠ 35 := fun e => hb (by rw [e]; rfl)
              rw [hhd]; simp [h9]
            have HWD : Hid (∀ x ∈ h :: r, 1 ≤ x.length ∧ x.length ≤ 4194304) := Lib.hid fun x hx => by have := HWM.out x (by rw [hwd]; exact hx); omega
            have HLN := Lib.hid fun g2 c2 W hBw hBg hRW hmc hLL => rline_any (lb + 1) E en ec R rn rc L (k + 1) h r g2 0 r.length c2 W hLL hBw hBg hRW HWD.out (by omega) hmc (fun e he => by have := HC.out.1 e he; have := HT1.out; omega) (by have := HEL.out; omega) (by have := HC.out.2; omega)
            cases hl9 : Ac.line L (k + 1) (h :: r) with
            | none =>
              have HR9 := Lib.hid (HE2.trans (Ac.parseF_bad hsd (by rw [hwd]; exact hl9)))
              rw [hl9] at HLN
              rw [hwd] at hW
              clear HE2 hwd hb hhd hl9 hsd hg9 HC HEL HOK HWD HE
              go_wp2_with fail
              refine hW.mono ?_
              rintro x w5 ⟨A2, n2, c2, rfl, hO2, hb5⟩
              obtain ⟨g2, rfl, hg2b, hg2, hnc, hcm⟩ := ownS_form hO2 (by simp)
              obtain rfl : r.length + 1 = n2 := hO2.rd.1
              obtain ⟨mc, rfl⟩ : ∃ mc, c2 = mc + 1 := ⟨c2 - 1, by omega⟩
              have hrd2 := hO2.rd
              obtain ⟨g8, o8, e8, _, hc8⟩ := hrd2.2.2 (by omega)
              injection e8 with e8
              injection e8 with e8 e7
              subst e8 e7
              have c2 : w5.cell? ⟨g2, 0, none⟩ = some (.string (bs h)) := hc8 0 _ rfl
              have HX5 := (hb5.block lb (by omega)).trans HX.out
              obtain ⟨l0, l1⟩ := row_facts2w HX5
              have hsz5 := hb5.size
              have HF5 := gb_trans HF.out (gb_below hb5 lb)
              have hLN := HLN.out g2 mc w5 (by omega) (by omega) hrd2 ⟨by omega, by omega⟩ (HL.out.step hb5)
              have HF5h := Lib.hid HF5
              have HX5h := Lib.hid HX5
              unfold LnOut rlV at hLN
              rw [show ((k + 1 : Nat) : Int) = (k : Int) + 1 by omega] at hLN
              clear hW hb5 hc hO2 hc8 hrd2 HF5 HX5
              go_wp2_with fail
              refine hLN.mono ?_
              rintro x w6 ⟨E6, en6, ec6, R6, rn6, rc6, rfl, hL6, hb6⟩
              have hsz6 := hb6.size
              have HF6 := Lib.hid (gb_trans HF5h.out (gb_below hb6 lb))
              have hX6 := (hb6.block lb (by omega)).trans HX5h.out
              have HX6 := Lib.hid hX6
              clear hLN l0 l1 c2
              have hlt6 : w.heap.size < w6.heap.size := by omega
              obtain ⟨z0, z1⟩ := row_facts2w (HRB.out _ HF6.out)
              obtain ⟨f0, f1⟩ := row_frz2 (HRB.out _ HF6.out)
              have hB8 := below_two (HBW.out _ HF6.out) (b := w.heap.size) (Nat.le_refl _) (.slice none 0 0) (.slice none 0 0)
              have hal9 := alloc_below ((w6.setCell ⟨w.heap.size, 0, none⟩ (.slice none 0 0)).setCell ⟨w.heap.size, 1, none⟩ (.slice none 0 0)) (.cells #[.slice E6 en6 ec6, .slice R6 rn6 rc6] 31)
              have HB9 := Lib.hid (bnext hB8 hal9 hB8.size)
              have hX9 := (hal9.block w.heap.size (by simp [World.setCell]; exact hlt6)).trans (heap_setJ (heap_setJ (HRB.out _ HF6.out) 0 (.slice none 0 0)) 1 (.slice none 0 0))
              obtain ⟨r0, r1⟩ := row_facts2w hX9
              clear hal9 hB8 hX9
              clear hb6 hX6 hL6
              go_wp2
              refine bodyPost_ret (v := .tuple #[.agg #[.slice none 0 0, .slice none 0 0], .int .i64 ((k : Int) + 1), .int .i64 210]) (by simp [results, Tryz.results9, go_sem, z0, z1, r0, r1]) rfl ?_
              rw [HR9.out]
              exact ⟨none, 0, 0, none, 0, 0, rfl, (fun h => by cases h), HB9.out⟩
            | some L' =>
              have HR9 := Lib.hid (HE2.trans (Ac.parseF_next hsd (by rw [hwd]; exact hl9)))
              have HC9 := Lib.hid ((Ac.line_cap hl9 HC.out).le (M' := Ac.tot (ls.take (k + 1))) (N' := k + 1) (by rw [HT1.out, List.length_cons]; omega) (Nat.le_refl _))
              have hlok := Ac.line_lok hl9 HOK.out HWD.out
              have HOK9 := Lib.hid hlok.1
              have HEL9 : Hid (L'.els.length ≤ k + 1) := Lib.hid (by have := HEL.out; have := hlok.2; omega)
              rw [hl9] at HLN
              rw [hwd] at hW
              clear HE2 hwd hb hhd hl9 hsd hg9 HC HEL HOK HWD HE hlok
              go_wp2_with fail
              refine hW.mono ?_
              rintro x w5 ⟨A2, n2, c2, rfl, hO2, hb5⟩
              obtain ⟨g2, rfl, hg2b, hg2, hnc, hcm⟩ := ownS_form hO2 (by simp)
              obtain rfl : r.length + 1 = n2 := hO2.rd.1
              obtain ⟨mc, rfl⟩ : ∃ mc, c2 = mc + 1 := ⟨c2 - 1, by omega⟩
              have hrd2 := hO2.rd
              obtain ⟨g8, o8, e8, _, hc8⟩ := hrd2.2.2 (by omega)
              injection e8 with e8
              injection e8 with e8 e7
              subst e8 e7
              have c2 : w5.cell? ⟨g2, 0, none⟩ = some (.string (bs h)) := hc8 0 _ rfl
              have HX5 := (hb5.block lb (by omega)).trans HX.out
              obtain ⟨l0, l1⟩ := row_facts2w HX5
              have hsz5 := hb5.size
              have HF5 := gb_trans HF.out (gb_below hb5 lb)
              have hLN := HLN.out g2 mc w5 (by omega) (by omega) hrd2 ⟨by omega, by omega⟩ (HL.out.step hb5)
              have HF5h := Lib.hid HF5
              have HX5h := Lib.hid HX5
              unfold LnOut rlV at hLN
              rw [show ((k + 1 : Nat) : Int) = (k : Int) + 1 by omega] at hLN
              clear hW hb5 hc hO2 hc8 hrd2 HF5 HX5
              go_wp2_with fail
              refine hLN.mono ?_
              rintro x w6 ⟨E6, en6, ec6, R6, rn6, rc6, rfl, hL6, hb6⟩
              have hsz6 := hb6.size
              have HF6 := Lib.hid (gb_trans HF5h.out (gb_below hb6 lb))
              have hX6 := (hb6.block lb (by omega)).trans HX5h.out
              have HX6 := Lib.hid hX6
              clear hLN l0 l1 c2
              have HL6 := Lib.hid (hL6 L' rfl)
              have hlb6 : lb < w6.heap.size := by omega
              obtain ⟨l0, l1⟩ := row_facts2w hX6
              obtain ⟨f0, f1⟩ := row_frz2 hX6
              have hal7 := alloc_below ((w6.setCell ⟨lb, 0, none⟩ (.slice E6 en6 ec6)).setCell ⟨lb, 1, none⟩ (.slice R6 rn6 rc6)) (.cells #[.slice E6 en6 ec6, .slice R6 rn6 rc6] 31)
              have HX9 := Lib.hid ((hal7.block lb (by simp [World.setCell]; exact hlb6)).trans (heap_setJ (heap_setJ hX6 0 (.slice E6 en6 ec6)) 1 (.slice R6 rn6 rc6)))
              have HL9 := Lib.hid (((HL6.out.set (b := lb) (Nat.lt_succ_self _) 0 (.slice E6 en6 ec6)).set (b := lb) (Nat.lt_succ_self _) 1 (.slice R6 rn6 rc6)).step hal7)
              have HF9 := Lib.hid (gb_trans (gb_two HF6.out (.slice E6 en6 ec6) (.slice R6 rn6 rc6)) (gb_below hal7 lb))
              clear hb6 hX6 hL6 hal7
              go_wp2
              go_roundw
              case rel => exact ⟨k + 1, L', E6, en6, ec6, R6, rn6, rc6, by omega, by go_num, HX9, HL9, HR9, HC9, HEL9, HOK9, HF9⟩
              case measure => simp [intOf] <;> omega
      · obtain rfl : k = ls.length := by omega
        have hE := HE.out
        rw [List.drop_length] at hE
        have HN : Hid (RES = (L, 0, 0)) := Lib.hid (by rw [hE]; rfl)
        obtain ⟨l0, l1⟩ := row_facts2w HX.out
        obtain ⟨z0, z1⟩ := row_facts2w (HRB.out _ HF.out)
        obtain ⟨f0, f1⟩ := row_frz2 (HRB.out _ HF.out)
        have hlt9 : w.heap.size < lb + 1 := by omega
        have HL9 := Lib.hid ((HL.out.set hlt9 0 (.slice E en ec)).set hlt9 1 (.slice R rn rc)).r
        have HB9 := Lib.hid (below_two (HBW.out _ HF.out) (b := w.heap.size) (Nat.le_refl _) (.slice E en ec) (.slice R rn rc))
        clear hE
        go_wp2
        refine bodyPost_ret (v := .tuple #[.agg #[.slice E en ec, .slice R rn rc], .int .i64 0, .int .i64 0]) (by simp [results, Tryz.results9, go_sem, z0, z1, l0, l1]) rfl ?_
        rw [HN.out]
        exact ⟨E, en, ec, R, rn, rc, rfl, fun _ => ⟨HL9.out, HOK.out⟩, HB9.out⟩
end Go.Proofs.YtgkphjbcaidcpaaGreatDoor
namespace Go.Proofs.YtgkphjbcaidcpaaGreatDoor.bulks

theorem one_le {H : Type} (d : DataW H) : 1 ≤ Rows.uptoBulk d := by
  cases d with
  | lit l => cases l <;> simp [Rows.uptoBulk]
  | nil => simp [Rows.uptoBulk]
  | ptr d => simp [Rows.uptoBulk]
  | slice elems spare => simp [Rows.uptoBulk]
  | agg parts => simp [Rows.uptoBulk]
  | iface t d => simp [Rows.uptoBulk]
  | map entries => simp [Rows.uptoBulk]
  | held h => simp [Rows.uptoBulk]

/-- a part's bulk is at most the whole's -/
theorem part_le {H : Type} {d : DataW H} {l : List (DataW H)} (h : d ∈ l) : Rows.uptoBulk d ≤ Rows.uptoBulkAll l := by
  induction l with
  | nil => cases h
  | cons x r ih =>
    simp only [Rows.uptoBulkAll]
    cases List.mem_cons.1 h with
    | inl e => subst e; omega
    | inr e => have := ih e; omega

theorem append {H : Type} (l r : List (DataW H)) : Rows.uptoBulkAll (l ++ r) = Rows.uptoBulkAll l + Rows.uptoBulkAll r := by
  induction l with
  | nil => simp [Rows.uptoBulkAll]
  | cons x l ih => simp only [List.cons_append, Rows.uptoBulkAll, ih]; omega

/-- so many values at the most -/
theorem length_le {H : Type} (l : List (DataW H)) : l.length ≤ Rows.uptoBulkAll l := by
  induction l with
  | nil => simp [Rows.uptoBulkAll]
  | cons x r ih => have := one_le x; simp only [Rows.uptoBulkAll, List.length_cons]; omega

/-- a slice's places, and what they hold -/
theorem slice_le {H : Type} (elems spare : List (DataW H)) : elems.length + spare.length + 1 ≤ Rows.uptoBulk (.slice elems spare) := by
  have h1 := length_le elems
  have h2 := length_le spare
  simp only [Rows.uptoBulk]
  omega
theorem slice_elems {H : Type} (elems spare : List (DataW H)) : Rows.uptoBulkAll elems + 1 ≤ Rows.uptoBulk (.slice elems spare) := by
  simp only [Rows.uptoBulk]
  omega

/-- a string's letters -/
theorem string_eq {H : Type} (bytes : List UInt8) : Rows.uptoBulk (DataW.lit (H := H) (.string bytes)) = bytes.length + 1 := by
  simp [Rows.uptoBulk]

/-- THE BOUND, as the builder hands it over ('hk') -/
theorem bound {H : Type} {l : List (DataW H)} (hk : Rows.uptoSmall H l = true) : Rows.uptoBulkAll l ≤ 1048576 := by
  simpa [Rows.uptoSmall] using hk

/-- ROOM: a slice of n elements of b bytes, grown by append: below the 2^48 bytes that append, make and a Builder bear. Here n up to 2^21, b up to 4,096: put your own numbers. -/
theorem room {n b : Nat} (hn : n ≤ 2097152) (hb : b ≤ 4096) : (n + n / 4 + 192) * b ≤ 281474976710656 := by
  have h : (n + n / 4 + 192) * b ≤ 2621632 * 4096 := Nat.mul_le_mul (by omega) hb
  omega

end Go.Proofs.YtgkphjbcaidcpaaGreatDoor.bulks
set_option linter.unusedVariables false
namespace Go.Proofs.YtgkphjbcaidcpaaGreatDoor
open Go.RowKit Go.WideShapes Go.ChangeShapes

section
variable {H : Type} {enc : TypeId × Value → H} {P : Program}
theorem post_of_below {f : Func} {s : ChangeSpec} {apart fresh handsOn again : Bool} {W W' : World} {args : Array Value} {v : Value} {ds gs : List (DataW H)} {before pa pv : List MemPlace}
    (hW : DataW.Whole enc P f.params.toList s.vars apart W args.toList ds gs before)
    (hres : ∀ (b : Nat) (sp : Nat → Bool) (hd : Bool), DataW.TrodAll enc P W' b sp hd f.resultTypes.toList (v.resultList f.resultTypes.size) (s.fn H (ds ++ gs)).results [])
    (hargs : ∀ sp : Nat → Bool, (∀ p ∈ before, sp p.block = true) → DataW.TrodAll enc P W' 0 sp true f.params.toList args.toList (s.fn H (ds ++ gs)).args pa)
    (hvars : ∀ sp : Nat → Bool, (∀ p ∈ before, sp p.block = true) → DataW.TrodVars enc P W' sp s.vars (s.fn H (ds ++ gs)).vars pv)
    (hps : before = pa ++ pv) (hb : Below W.heap.size W W')
    (hok : ∀ (j : Nat) (t : TypeId) (r : Value), f.resultTypes[j]? = some t → (v.resultList f.resultTypes.size)[j]? = some r → Value.okWide P W' .any 0 t r) :
    s.post enc P f apart fresh handsOn again W args v W' := by
  have hlt : ∀ p ∈ before, p.block < W.heap.size := fun p hp => hW.lt p hp
  have hold : ∀ p ∈ before, (fun b => decide (b < W.heap.size)) p.block = true := fun p hp => by simpa using hlt p hp
  refine ⟨ds, gs, before, [], pa, pv, hW, hres _ _ _, hargs _ hold, hvars _ hold, World.keptBut_mono (fun p hp => ⟨hp, ?_⟩) (hb.frame (· ∈ before)), fun _ => ?_⟩
  · rw [hps, List.mem_append] at hp
    exact Or.inr hp
  · obtain ⟨_, _, _, _, _, hz, hn⟩ := hW
    refine ⟨hok, _, _, ([] ++ pa) ++ pv, ⟨[] ++ pa, pv, trodAll_append (hargs _ (fun _ _ => rfl)) (hres _ _ _), hvars _ (fun _ _ => rfl), rfl, ?_, ?_⟩, ?_⟩
    · intro b off hp
      have hin : MemPlace.cell b off ∈ before := by rw [hps]; simpa using hp
      rw [hb.frozen (hlt _ hin)]
      exact hz b off hin
    · intro ha
      have := hn ha
      rw [hps] at this
      simpa using this
    · intro p hp _
      rw [hps]
      simpa using hp
end

end Go.Proofs.YtgkphjbcaidcpaaGreatDoor
set_option linter.unusedVariables false
set_option linter.unusedSimpArgs false
set_option maxRecDepth 100000
namespace Go.Proofs.YtgkphjbcaidcpaaGreatDoor
open Go.ChangeShapes Go.WideShapes Go.ChangeAt Go.RowKit Go.Deep

/-- An argument reads as it did where below the old heap all stands. -/
theorem arg_stays {H : Type} {enc : TypeId × Value → H} {P : Program} {t : TypeId} (hl : laidOutB P = true) (hr : P.readableRec t = true) (hrow : t < P.types.size) {W W' : World} {v : Value} {d : DataW H} {ps : List MemPlace}
    (h : DataW.Trod enc P W 0 (fun _ => true) true t v d ps) (hb : Below W.heap.size W W') (hlt : ∀ x ∈ ps, x.block < W.heap.size) (sp : Nat → Bool) (hsp : ∀ x ∈ ps, sp x.block = true) :
    DataW.Trod enc P W' 0 sp true t v d ps :=
  WideElems.Trod_stays hl hr hrow h (fun x hx => hb.same (hlt x hx)) hsp
theorem laidOut : laidOutB Tryz.prog = true := by kernel_rfl

theorem str_of_trod {H : Type} {enc : TypeId × Value → H} {W : World} {base : Nat} {sp : Nat → Bool} {n : Nat} {v : Value} {d : DataW H} {ps : List MemPlace}
    (h : DataW.trod enc Tryz.prog W base sp true n 9 [v] = some (d, ps)) : ∃ l : List UInt8, v = .string (bs l) ∧ d = .lit (.string l) := by
  obtain ⟨s, e1, e2⟩ := DataW.trod_string Tryz.underlying9 h
  simp at e1 e2
  obtain ⟨⟨rfl, _⟩, _⟩ := e2
  exact ⟨s.data.toList, e1, rfl⟩
/-- A text as an argument. -/
theorem opS {H : Type} {enc : TypeId × Value → H} {W : World} {base : Nat} {v : Value} {d : DataW H} {ps : List MemPlace} (hv : Value.okWide Tryz.prog W .any base 9 v)
    (h : DataW.Trod enc Tryz.prog W 0 (fun _ => true) true 9 v d ps) : ∃ l : List UInt8, v = .string (bs l) ∧ d = .lit (.string l) := by
  obtain ⟨s, rfl, rfl, _, _⟩ := Go.ChangeMaps.open_string Tryz.underlying9 hv h
  exact ⟨s.data.toList, rfl, rfl⟩
/-- A number as an argument. -/
theorem opI {H : Type} {enc : TypeId × Value → H} {W : World} {base : Nat} {v : Value} {d : DataW H} {ps : List MemPlace} (hv : Value.okWide Tryz.prog W .any base 3 v)
    (h : DataW.Trod enc Tryz.prog W 0 (fun _ => true) true 3 v d ps) : ∃ n : Int, v = .int .i64 n ∧ -9223372036854775808 ≤ n ∧ n ≤ 9223372036854775807 := by
  obtain ⟨n, rfl, _, _, wf⟩ := open_int Tryz.underlying3 hv h
  refine ⟨n, rfl, ?_⟩
  simpa [Lit.wf, IntKind.min, IntKind.max, IntKind.signed, IntKind.bits] using wf
theorem spot_of_cell {w : World} {a : Addr} {v : Value} (h : w.cell? a = some v) : a.spot = none := by
  unfold World.cell? at h
  split at h
  · split at h
    · cases h
    · rename_i h'; simpa using h'
  · cases h
end Go.Proofs.YtgkphjbcaidcpaaGreatDoor
set_option linter.unusedVariables false
set_option linter.unusedSimpArgs false
namespace Go.Proofs.YtgkphjbcaidcpaaGreatDoor
open Go.RowKit

set_option maxRecDepth 100000
open Go.ChangeShapes Go.WideShapes Go.ChangeAt Go.RowKit Go.Deep
/-- A struct by value, opened: each field's cells with their reading. -/
theorem open_aggN {H : Type} {enc : TypeId × Value → H} {P : Program} {W : World} {base b0 : Nat} {sp : Nat → Bool} {held : Bool} {r : Reach} {t : TypeId} {fs : Array Field} {v : Value} {d : DataW H} {p : List MemPlace} (hs : P.underlying t = some (.struct fs))
    (hv : Value.okWide P W r b0 t v) (h : DataW.Trod enc P W base sp held t v d p) :
    ∃ (vs : Array Value) (ys : List (DataW H × List MemPlace)) (n : Nat), v = .agg vs ∧ vs.size = P.cellsOf t ∧ d = .agg (ys.map (·.1)) ∧ ys.length = fs.size ∧
      ∀ (i : Nat) (f : Field), fs[i]? = some f → ∃ y, ys[i]? = some y ∧ DataW.trod enc P W base sp held n f.type ((vs.toList.drop f.offset).take (P.cellsOf f.type)) = some y := by
  obtain ⟨cs, rfl, hsz⟩ := okWide_struct hs hv
  obtain ⟨fuel, hf⟩ := h
  obtain ⟨xs, n, _, hx, _, hlen, hall⟩ := DataW.trod_struct hs hf
  simp only [Prod.mk.injEq] at hx
  refine ⟨cs, xs, n, rfl, hsz, hx.1, hlen, fun i f hi => ?_⟩
  have hlt : i < xs.length := by rw [hlen]; exact (Array.getElem?_eq_some_iff.1 hi).1
  refine ⟨xs[i], List.getElem?_eq_getElem hlt, ?_⟩
  rw [← List.getElem?_eq_getElem hlt]
  simpa [Value.cells] using hall i f hi
theorem fields_of {fs : Array Field} {k : List (TypeId × Nat)} (h : fs.toList.map (fun f => (f.type, f.offset)) = k) {i : Nat} {t : TypeId} {o : Nat} (hk : k[i]? = some (t, o)) : ∃ f, fs[i]? = some f ∧ f.type = t ∧ f.offset = o := by
  subst h
  rw [List.getElem?_map] at hk
  cases hf : fs.toList[i]? with
  | none => rw [hf] at hk; cases hk
  | some f =>
    rw [hf] at hk
    simp at hk
    exact ⟨f, by simpa using hf, hk.1, hk.2⟩
theorem ys6 {α : Type} {l : List α} (h : l.length = 6) : ∃ a b c d e f, l = [a, b, c, d, e, f] := by
  match l, h with
  | [a, b, c, d, e, f], _ => exact ⟨a, b, c, d, e, f, rfl⟩
theorem int_of_trod {H : Type} {enc : TypeId × Value → H} {W : World} {base : Nat} {sp : Nat → Bool} {n : Nat} {v : Value} {d : DataW H} {ps : List MemPlace}
    (h : DataW.trod enc Tryz.prog W base sp true n 3 [v] = some (d, ps)) : ∃ i : Int, v = .int .i64 i ∧ -9223372036854775808 ≤ i ∧ i ≤ 9223372036854775807 ∧ d = .lit (.int .i64 i) := by
  obtain ⟨i, e1, e2, wf⟩ := DataW.trod_int Tryz.underlying3 h
  simp at e1 e2
  obtain ⟨rfl, _⟩ := e2
  refine ⟨i, e1, ?_, ?_, rfl⟩ <;> simp [Lit.wf, IntKind.min, IntKind.max, IntKind.signed, IntKind.bits] at wf <;> omega
theorem array6 {α : Type} {cs : Array α} (h : cs.size = 6) : ∃ c0 c1 c2 c3 c4 c5, cs = #[c0, c1, c2, c3, c4, c5] := by
  obtain ⟨l⟩ := cs
  match l, h with
  | [c0, c1, c2, c3, c4, c5], _ => exact ⟨c0, c1, c2, c3, c4, c5, rfl⟩
theorem ask_desc : Tryz.prog.underlying 37 = some (.struct (Tryz.prog.fieldsOf 37)) := by kernel_rfl
theorem ask_shape : (Tryz.prog.fieldsOf 37).toList.map (fun f => (f.type, f.offset)) = [(3, 0), (9, 1), (3, 2), (9, 3), (9, 4), (3, 5)] := by kernel_rfl
theorem ask_cells : Tryz.prog.cellsOf 37 = 6 := by kernel_rfl
theorem askStr_cells : Tryz.prog.cellsOf 9 = 1 := by kernel_rfl
theorem askInt_cells : Tryz.prog.cellsOf 3 = 1 := by kernel_rfl
/-- An ask as an argument. -/
theorem opAsk {H : Type} {enc : TypeId × Value → H} {W : World} {base : Nat} {v : Value} {d : DataW H} {ps : List MemPlace} {b : Nat} (hv : Value.okWide Tryz.prog W .any base 37 v)
    (h : DataW.Trod enc Tryz.prog W 0 (fun _ => true) true 37 v d ps) (hb : Rows.uptoBulk d ≤ b) :
    ∃ a : Ac.Ask, v = askV a ∧ a.host.length ≤ b ∧ a.meth.length ≤ b ∧ a.path.length ≤ b ∧ -9223372036854775808 ≤ a.now ∧ a.now ≤ 9223372036854775807 := by
  obtain ⟨vs, ys, n, rfl, hsz, rfl, hlen, hall⟩ := open_aggN ask_desc hv h
  rw [ask_cells] at hsz
  obtain ⟨c0, c1, c2, c3, c4, c5, rfl⟩ := array6 hsz
  have hfs : (Tryz.prog.fieldsOf 37).size = 6 := by have := congrArg List.length ask_shape; simpa using this
  rw [hfs] at hlen
  obtain ⟨y0, y1, y2, y3, y4, y5, rfl⟩ := ys6 hlen
  have key : ∀ i t o, [((3 : TypeId), 0), (9, 1), (3, 2), (9, 3), (9, 4), (3, 5)][i]? = some (t, o) →
      ∃ y, [y0, y1, y2, y3, y4, y5][i]? = some y ∧ DataW.trod enc Tryz.prog W 0 (fun _ => true) true n t (([c0, c1, c2, c3, c4, c5].drop o).take (Tryz.prog.cellsOf t)) = some y := fun i t o hi => by
    obtain ⟨f, hf, rfl, rfl⟩ := fields_of ask_shape hi
    obtain ⟨y, hy1, hy2⟩ := hall i f hf
    exact ⟨y, hy1, hy2⟩
  obtain ⟨z0, k0, g0⟩ := key 0 _ _ rfl
  obtain ⟨z1, k1, g1⟩ := key 1 _ _ rfl
  obtain ⟨z2, k2, g2⟩ := key 2 _ _ rfl
  obtain ⟨z3, k3, g3⟩ := key 3 _ _ rfl
  obtain ⟨z4, k4, g4⟩ := key 4 _ _ rfl
  obtain ⟨z5, k5, g5⟩ := key 5 _ _ rfl
  simp only [List.getElem?_cons_zero, List.getElem?_cons_succ, Option.some.injEq] at k0 k1 k2 k3 k4 k5
  subst k0 k1 k2 k3 k4 k5
  rw [askStr_cells] at g1 g3 g4
  rw [askInt_cells] at g0 g2 g5
  obtain ⟨y0a, y0b⟩ := y0
  obtain ⟨y1a, y1b⟩ := y1
  obtain ⟨y2a, y2b⟩ := y2
  obtain ⟨y3a, y3b⟩ := y3
  obtain ⟨y4a, y4b⟩ := y4
  obtain ⟨y5a, y5b⟩ := y5
  obtain ⟨i0, rfl, l0, u0, rfl⟩ := int_of_trod g0
  obtain ⟨s1, rfl, rfl⟩ := str_of_trod g1
  obtain ⟨i2, rfl, l2, u2, rfl⟩ := int_of_trod g2
  obtain ⟨s3, rfl, rfl⟩ := str_of_trod g3
  obtain ⟨s4, rfl, rfl⟩ := str_of_trod g4
  obtain ⟨i5, rfl, l5, u5, rfl⟩ := int_of_trod g5
  simp only [Rows.uptoBulk, Rows.uptoBulkAll, List.map_cons, List.map_nil] at hb
  exact ⟨⟨i0, s1, i2, s3, s4, i5⟩, rfl, by show s1.length ≤ b; omega, by show s3.length ≤ b; omega, by show s4.length ≤ b; omega, l5, u5⟩
end Go.Proofs.YtgkphjbcaidcpaaGreatDoor
