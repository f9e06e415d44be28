/- Joined texts: acl.Parse; alive: calls whose answers the document fixes. Condition: the library's variable MaxLen holds some int; Lines joined; lines without a byte 10; lines copied; The reference's bare. Condition: the name is not empty. The conditions stand in each line. -/
import Derived.Test.YtgkphjbcaidcpaaGreatDoorM14
set_option linter.unusedVariables false
set_option linter.unusedSimpArgs false
namespace Go.Proofs.YtgkphjbcaidcpaaGreatDoor
open Go.RowKit

set_option maxRecDepth 100000
namespace Ac
theorem parseF_skip {L : LS} {no : Nat} {s : T} {r : List T} (h : said (words s) = false) : parseF L no (s :: r) = parseF L (no + 1) r := by
  have e : parseF L no (s :: r) = if said (words s) = true then (match line L (no + 1) (words s) with | none => (LS.nil, no + 1, 210) | some L' => parseF L' (no + 1) r) else parseF L (no + 1) r := rfl
  rw [e, if_neg (by rw [h]; decide)]
theorem parseF_bad {L : LS} {no : Nat} {s : T} {r : List T} (h : said (words s) = true) (h2 : line L (no + 1) (words s) = none) : parseF L no (s :: r) = (LS.nil, no + 1, 210) := by
  have e : parseF L no (s :: r) = if said (words s) = true then (match line L (no + 1) (words s) with | none => (LS.nil, no + 1, 210) | some L' => parseF L' (no + 1) r) else parseF L (no + 1) r := rfl
  rw [e, if_pos h, h2]
theorem parseF_next {L L' : LS} {no : Nat} {s : T} {r : List T} (h : said (words s) = true) (h2 : line L (no + 1) (words s) = some L') : parseF L no (s :: r) = parseF L' (no + 1) r := by
  have e : parseF L no (s :: r) = if said (words s) = true then (match line L (no + 1) (words s) with | none => (LS.nil, no + 1, 210) | some L' => parseF L' (no + 1) r) else parseF L (no + 1) r := rfl
  rw [e, if_pos h, h2]
/-- What a line adds. -/
def Cap (L : LS) (M N : Nat) : Prop := (∀ e ∈ L.els, e.vs.length ≤ M) ∧ L.rus.length ≤ N
theorem defB_cap {L L' : LS} {nm k : T} {vs : List T} {M N : Nat} (h : defB L nm k vs = some L') (hc : Cap L M N) : Cap L' (M + vs.length) N := by
  unfold defB at h
  split at h
  · injection h with h
    subst h
    refine ⟨fun e he => ?_, hc.2⟩
    rcases List.mem_append.1 he with h1 | h1
    · have := hc.1 e h1; omega
    · rw [List.mem_singleton.1 h1]; simp
  · split at h
    · rename_i i _ e0 he0
      split at h
      · injection h with h
        subst h
        refine ⟨fun e he => ?_, hc.2⟩
        rcases List.mem_or_eq_of_mem_set he with h1 | h1
        · have := hc.1 e h1; omega
        · rw [h1]
          have := hc.1 e0 (mem_of_get? he0)
          simp; omega
      · cases h
    · cases h
theorem define_cap {L L' : LS} {w : List T} {M N : Nat} (h : define L w = some L') (hc : Cap L M N) : Cap L' (M + w.length) N := by
  rcases w with _ | ⟨a, _ | ⟨b, _ | ⟨c, r⟩⟩⟩
  · cases h
  · cases h
  · cases h
  · rw [define_eq] at h
    split at h
    · have := defB_cap h hc
      exact ⟨fun e he => by have h9 := this.1 e he; simp at h9 ⊢; omega, this.2⟩
    · cases h
theorem ruleL_cap {L L' : LS} {no : Nat} {al : Bool} {w : List T} {M N : Nat} (h : ruleL L no al w = some L') (hc : Cap L M N) : Cap L' M (N + 1) := by
  unfold ruleL at h
  split at h
  · injection h with h
    subst h
    exact ⟨hc.1, by have := hc.2; simp; omega⟩
  · cases h
theorem Cap.le {L : LS} {M N M' N' : Nat} (h : Cap L M N) (h1 : M ≤ M') (h2 : N ≤ N') : Cap L M' N' := ⟨fun e he => Nat.le_trans (h.1 e he) h1, Nat.le_trans h.2 h2⟩
theorem line_cap {L L' : LS} {no : Nat} {w : List T} {M N : Nat} (h : line L no w = some L') (hc : Cap L M N) : Cap L' (M + w.length) (N + 1) := by
  rcases w with _ | ⟨a, r⟩
  · cases h
  · rw [line_cons] at h
    split at h
    · exact (define_cap h hc).le (by simp) (by omega)
    · split at h
      · exact (ruleL_cap h hc).le (by omega) (by omega)
      · split at h
        · exact (ruleL_cap h hc).le (by omega) (by omega)
        · cases h
def tot (l : List T) : Nat := (l.map List.length).sum
theorem tot_snoc {l : List T} {k : Nat} {s : T} (h : l[k]? = some s) : tot (l.take (k + 1)) = tot (l.take k) + s.length := by
  unfold tot; rw [take_snoc? h, List.map_append, List.sum_append]; simp
theorem tot_take (l : List T) (k : Nat) : tot (l.take k) ≤ tot l := by
  have h : tot l = tot (l.take k) + tot (l.drop k) := by
    unfold tot
    rw [← List.sum_append, ← List.map_append, List.take_append_drop]
  omega
theorem tot_split (c : UInt8) : ∀ s : T, tot (Ur.splitc c s) ≤ s.length
  | [] => by simp [Ur.splitc, tot]
  | b :: r => by
    have ih := tot_split c r
    unfold Ur.splitc
    have hne := Ur.splitc_ne c r
    split
    · unfold tot at *; simp; omega
    · cases h : Ur.splitc c r with
      | nil => exact absurd h hne
      | cons x y => rw [h] at ih; unfold tot at *; simp at ih ⊢; omega
theorem drop_get {l : List T} {k : Nat} {s : T} (h : l[k]? = some s) : l.drop k = s :: l.drop (k + 1) := by
  obtain ⟨hk, rfl⟩ := List.getElem?_eq_some_iff.1 h
  exact List.drop_eq_getElem_cons hk
end Ac
theorem PWx.mono {w : World} {B g mb N M : Nat} {L : Ac.LS} (h : PWx w B g mb N L) (hN : N ≤ M) : PWx w B g mb M L := by
  obtain ⟨bx, A, n, c, R, rn, rc, h⟩ := h
  exact ⟨bx, A, n, c, R, rn, rc, h.base, h.list, h.map.mono hN, h.els, h.rus⟩
theorem PWx.step {w w' : World} {B g mb N : Nat} {L : Ac.LS} (h : PWx w B g mb N L) (hb : Below w.heap.size w w') : PWx w' B g mb N L := by
  obtain ⟨bx, A, n, c, R, rn, rc, h⟩ := h
  exact ⟨bx, A, n, c, R, rn, rc, h.step hb⟩
theorem PWx.lt {w : World} {B g mb N : Nat} {L : Ac.LS} (h : PWx w B g mb N L) : B ≤ w.heap.size := by
  obtain ⟨bx, A, n, c, R, rn, rc, h⟩ := h
  exact Nat.le_of_lt (Nat.lt_of_le_of_lt h.base.1 (Array.getElem?_eq_some_iff.1 h.list).1)
theorem PWx.plist {w : World} {B g mb N : Nat} {L : Ac.LS} (h : PWx w B g mb N L) (hc : Ac.Cap L 4194304 4194304) : PList w g L := by
  obtain ⟨bx, A, n, c, R, rn, rc, h⟩ := h
  obtain ⟨prs, h1, h2, h3⟩ := h.rus.ex
  have hl : prs.length = rn := by have := h1.1; rw [rcells_length] at this; omega
  refine ⟨bx, .map (some mb), R, rn, rc, prs, h.list, ⟨hl, Rd.of_own h1⟩, by have := hc.2; omega, ⟨h2, fun i p r k1 k2 => ?_⟩, fun k e he => ?_⟩
  · obtain ⟨q1, q2, q3, pts, q4, q5⟩ := h3 i p r k1 k2
    have hp : pts.length = p.n := by have := q4.1; rw [tcells_length] at this; omega
    exact ⟨q1, q2, q3, pts, ⟨hp, Rd.of_own q4⟩, q5⟩
  · have hb := h.els.box k e he
    have hr := h.els.row k e he
    refine ⟨A k, n k, c k, hb.2, ⟨hr.1.symm, Rd.of_own hr.2⟩, by have := hc.1 e (mem_of_get? he); omega, h.els.ok k e he⟩
theorem PWx.made (w : World) : PWx ((w.alloc (.map #[] 0)).alloc (.cells #[.map (some w.heap.size), .slice none 0 0] 50)) w.heap.size (w.heap.size + 1) w.heap.size 0 Ac.LS.nil := by
  have hal := alloc_below (w.alloc (.map #[] 0)) (.cells #[.map (some w.heap.size), .slice none 0 0] 50)
  have hr := heap_alloc_new (w.alloc (.map #[] 0)) (.cells #[.map (some w.heap.size), .slice none 0 0] 50)
  have hs : (w.alloc (.map #[] 0)).heap.size = w.heap.size + 1 := by simp
  rw [hs] at hr
  have hm0 := World.ownsMap_made w Tryz.prog 9 ptrR
  refine ⟨fun _ => 0, fun _ => none, fun _ => 0, fun _ => 0, none, 0, 0, ⟨by omega, Nat.le_refl _⟩, hr, ⟨_, hm0.kept (row := none) (grown_below hal) (by simp), fun s _ => rfl⟩, ⟨fun k e h => by simp [Ac.LS.nil] at h, fun k e h => by simp [Ac.LS.nil] at h, fun k e h => by simp [Ac.LS.nil] at h, fun i j h => by simp [Ac.LS.nil] at h, fun i j h => by simp [Ac.LS.nil] at h⟩, ⟨[], World.ownsRow_nil _ _ _ 3, rfl, fun i p r h => by simp at h⟩⟩
theorem own_lift {w W' : World} {B m size : Nat} {e : TypeId} {v : Value} {xs : List Value} (h : w.ownsRow B e size v m xs) (hW : ∀ k, B ≤ k → k < w.heap.size → W'.heap[k]? = w.heap[k]?) : W'.ownsRow B e size v m xs := by
  refine ⟨h.1, ?_⟩
  rcases h.2 with h1 | ⟨g, cap, cur, rfl, hb, hgg, rest⟩
  · exact .inl h1
  · exact .inr ⟨g, cap, cur, rfl, hb, (hW g hb (Array.getElem?_eq_some_iff.1 hgg).1).trans hgg, rest⟩
theorem PWx.lift {w W' : World} {B g mb N : Nat} {L : Ac.LS} (h : PWx w B g mb N L) (hW : ∀ k, B ≤ k → k < w.heap.size → W'.heap[k]? = w.heap[k]?) : PWx W' B g mb N L := by
  obtain ⟨bx, A, n, c, R, rn, rc, h⟩ := h
  have hb : ∀ {k : Nat} {o : Obj}, B ≤ k → w.heap[k]? = some o → W'.heap[k]? = some o := fun hk ho => (hW _ hk (Array.getElem?_eq_some_iff.1 ho).1).trans ho
  obtain ⟨D, ⟨es, cl, hm, F, hs, e⟩, h2⟩ := h.map
  obtain ⟨prs, q1, q2, q3⟩ := h.rus.ex
  exact ⟨bx, A, n, c, R, rn, rc, h.base, hb h.base.1 h.list, ⟨D, ⟨es, cl, hb h.base.2 hm, F, hs, e⟩, h2⟩, ⟨fun k e he => ⟨(h.els.box k e he).1, hb (h.els.box k e he).1 (h.els.box k e he).2⟩, fun k e he => ⟨(h.els.row k e he).1, own_lift (h.els.row k e he).2 hW⟩, h.els.ok, h.els.injB, h.els.injR⟩, ⟨prs, own_lift q1 hW, q2, fun i p r k1 k2 => by
    obtain ⟨m1, m2, m3, pts, m4, m5⟩ := q3 i p r k1 k2
    exact ⟨m1, m2, m3, pts, own_lift m4 hW, m5⟩⟩⟩
/-- What Parse leaves. -/
def ParseOut (w : World) (r : Ac.LS × Nat × Int) (e : Ending) (w' : World) : Prop :=
  ∃ v, e = .returned (.tuple #[v, .int .i64 (r.2.1 : Int), .int .i64 r.2.2]) ∧ (r.2.2 = 0 → ∃ g, v = .pointer (some ⟨g, 0, none⟩) ∧ ∀ W' : World, (∀ k, w.heap.size ≤ k → k < w'.heap.size → W'.heap[k]? = w'.heap[k]?) → PList W' g r.1) ∧ (r.2.2 ≠ 0 → v = .pointer none) ∧ Below w.heap.size w w'
theorem maxl_lt {w : World} (h : MaxL w) : 0 < w.heap.size := by
  obtain ⟨m, hm⟩ := h
  exact World.block_lt_of_cell? w _ hm
set_option maxHeartbeats 4000000 in
theorem parse_any (p : List UInt8) (w : World) (hM : MaxL w) (hp : p.length ≤ 4194304) :
    Calls Tryz.prog 8 #[.string (bs p)] w fun e w' => ParseOut w (Ac.parse p) e w' := by
  have hS := splitA_any p 10 w hM (by omega)
  have hmm := @run_makeMap Tryz.prog
  have HML := Lib.hid (fun x hx => Nat.le_trans (Ac.split_mem_len 10 p x hx) hp)
  have HTOT := Lib.hid (Nat.le_trans (Ac.tot_split 10 p) hp)
  have HPA : Hid (Ac.parse p = Ac.parseLs (Ur.splitc 10 p)) := Lib.hid rfl
  generalize Ac.parse p = RES at *
  generalize Ur.splitc 10 p = ls at *
  by_cases h200 : 200 < ls.length
  · have HR : Hid (RES = (Ac.LS.nil, 0, 101)) := Lib.hid (by rw [HPA.out]; unfold Ac.parseLs; rw [if_pos h200])
    have hi : (200 : Int) < (ls.length : Int) := by omega
    clear HPA HML HTOT h200
    go_enter Tryz.func8, Tryz.ntmps8
    go_wp2_with fail
    refine hS.mono ?_
    rintro x w1 ⟨rfl, -, hb1⟩
    clear hS
    go_wp2
    go_ret3
    rw [HR.out]
    exact ⟨_, rfl, (fun h => by cases h), (fun _ => rfl), hb1⟩
  · have HR : Hid (RES = Ac.parseF Ac.LS.nil 0 ls) := Lib.hid (by rw [HPA.out]; unfold Ac.parseLs; rw [if_neg h200])
    have hi : ¬ ((200 : Int) < (ls.length : Int)) := by omega
    clear HPA
    go_enter Tryz.func8, Tryz.ntmps8
    go_wp2_with fail
    refine hS.mono ?_
    rintro x w1 ⟨rfl, hls, hb1⟩
    clear hS
    go_upto_region 5 with fail
    have hPW := PWx.made w1
    have hal := (alloc_below w1 (.map #[] 0)).trans ((alloc_below (w1.alloc (.map #[] 0)) (.cells #[.map (some w1.heap.size), .slice none 0 0] 50)).mono (by simp))
    have HML2 : Hid (0 < w1.heap.size) := Lib.hid (Nat.lt_of_lt_of_le (maxl_lt hM) hb1.size)
    have hM1 := maxl_b hM hb1
    have HLS := Lib.hid hls
    generalize (w1.alloc (.map #[] 0)).alloc (.cells #[.map (some w1.heap.size), .slice none 0 0] 50) = w3 at *
    have hF3 : AFr w1.heap.size w1 w3 := AFr.refl.next hal (Nat.le_refl _)
    clear hls
    go_wp2_with fail
    go_loopw [20] (fun t wr => ∃ (k : Nat) (L : Ac.LS), k ≤ ls.length ∧ t = .int .i64 (k : Int) ∧ Hid (PWx wr w1.heap.size (w1.heap.size + 1) w1.heap.size k L) ∧ Hid (RES = Ac.parseF L k (ls.drop k)) ∧ Hid (Ac.Cap L (Ac.tot (ls.take k)) k) ∧ Hid (AFr w1.heap.size w1 wr)) (fun t _ => ls.length - (intOf t).toNat)
    case atStart => exact ⟨0, Ac.LS.nil, by omega, rfl, Lib.hid hPW, HR, Lib.hid ⟨fun e he => by simp [Ac.LS.nil] at he, by simp [Ac.LS.nil]⟩, Lib.hid hF3⟩
    case round =>
      obtain ⟨k, L, hk, rfl, HP, HE, HC, HF⟩ := hrel
      have hMr : MaxL wr := maxl_fr hM1 HF.out HML2.out
      have HB9 : Hid (∀ W, AFr w1.heap.size w1 W → Below w.heap.size w W) := Lib.hid fun W hW => bnext hb1 hW.below hb1.size
      by_cases hlt : k < ls.length
      · have hls9 := HLS.out.step (w' := wr) HF.out.below
        obtain ⟨g9, o9, s, e9, hg9, HS, hc⟩ := hls9.at_ hlt
        injection e9 with e9
        injection e9 with e9 e10
        subst e9 e10
        rw [Nat.zero_add] at hc
        have hsl := HML.out s (mem_of_get? HS.out)
        have hW := words_any s wr hsl
        have hwl := Ac.words_len s
        have HWM := Lib.hid (fun x (hx : x ∈ Ac.words s) => Ac.words_mem hx)
        have HE2 := HE.out
        rw [Ac.drop_get HS.out] at HE2
        have HT1 := Lib.hid (Ac.tot_snoc HS.out)
        have hT2 := Ac.tot_take ls (k + 1)
        have hT3 := HTOT.out
        cases hwd : Ac.words s with
        | nil =>
          have HR9 := Lib.hid (HE2.trans (Ac.parseF_skip (by rw [hwd]; rfl)))
          have HC9 := Lib.hid (HC.out.le (M' := Ac.tot (ls.take (k + 1))) (N' := k + 1) (by rw [HT1.out]; omega) (by omega))
          rw [hwd] at hW
          simp only [List.length_nil] at hW
          clear HE2 hls9 hwd
          go_wp2_with fail
          refine hW.mono ?_
          rintro x w2 ⟨A2, rfl, -, hb2⟩
          have HF2 := Lib.hid (HF.out.next hb2 HF.out.below.size)
          have HP2 := Lib.hid ((HP.out.step hb2).mono (Nat.le_succ k))
          clear hW hb2 hc
          go_wp2
          go_roundw
          case rel => exact ⟨k + 1, L, by omega, by go_num, HP2, HR9, HC9, HF2⟩
          case measure => simp [intOf]; omega
        | cons h r =>
          have hh := HWM.out h (by rw [hwd]; simp)
          have h0 : 0 < h.length := by omega
          have hrl : r.length + 1 ≤ s.length := by have h9 := hwl; rw [hwd] at h9; simpa using h9
          have r0 : (0 : Int) < (r.length : Int) + 1 := by omega
          have hhd : h.head? = some h[0] := by cases h with | nil => simp at h0 | cons a b => rfl
          by_cases hb : (h[0].toNat : Int) = 35
          · have i1 : ((h[0].toNat : Int) != 35) = false := by rw [bne_eq_false_iff_eq]; exact hb
            have hb9 : h[0] = 35 := UInt8.toNat_inj.1 (by show h[0].toNat = 35; omega)
            have HR9 := Lib.hid (HE2.trans (Ac.parseF_skip (by rw [hwd]; show (!(h.head? == some 35)) = false; rw [hhd, hb9]; rfl)))
            have HC9 := Lib.hid (HC.out.le (M' := Ac.tot (ls.take (k + 1))) (N' := k + 1) (by rw [HT1.out]; omega) (by omega))
            rw [hwd] at hW
            simp only [List.length_cons] at hW
            clear HE2 hls9 hwd hb hb9 hhd
            go_wp2_with fail
            refine hW.mono ?_
            rintro x w2 ⟨A2, rfl, hw2, hb2⟩
            obtain ⟨g2, o2, e2, _, hc2⟩ := hw2.1.2.2 (by omega)
            injection e2 with e2
            injection e2 with e2 e3
            subst e2 e3
            have c2 : w2.cell? ⟨A2, 0, none⟩ = some (.string (bs h)) := hc2 0 _ rfl
            have HF2 := Lib.hid (HF.out.next hb2 HF.out.below.size)
            have HP2 := Lib.hid ((HP.out.step hb2).mono (Nat.le_succ k))
            clear hW hb2 hc hw2 hc2
            go_wp2
            go_roundw
            case rel => exact ⟨k + 1, L, by omega, by go_num, HP2, HR9, HC9, HF2⟩
            case measure => simp [intOf]; omega
          · have i1 : ((h[0].toNat : Int) != 35) = true := by rw [bne_iff_ne]; exact hb
            have hsd : Ac.said (Ac.words s) = true := by
              rw [hwd]
              show (!(h.head? == some 35)) = true
              have h9 : h[0] ≠ 35 := fun e => hb (by rw [e]; rfl)
              rw [hhd]; simp [h9]
            have hln := fun A2 w2 (hF2 : AFr w1.heap.size w1 w2) hR hP => line_any L (k + 1) (h :: r) w1.heap.size (w1.heap.size + 1) w1.heap.size k (some ⟨A2, 0, none⟩) (r.length + 1) (r.length + 1) w2 (maxl_fr hM1 hF2 HML2.out) HML2.out hR hP (fun x hx => by have := HWM.out x (by rw [hwd]; exact hx); omega) ⟨by omega, by omega⟩ ⟨Nat.le_refl _, by unfold maxLen; omega⟩ (fun e he => by have := HC.out.1 e he; have := HT1.out; omega) (by have := HC.out.2; omega) (by unfold maxLen; omega)
            have e1 : (((k + 1 : Nat)) : Int) = (k : Int) + 1 := by omega
            simp only [e1] at hln
            have HLN := Lib.hid hln
            have hwd2 := hwd
            rw [hwd] at hW hsd
            simp only [List.length_cons] at hW
            cases hl9 : Ac.line L (k + 1) (h :: r) with
            | none =>
              have HR9 := Lib.hid (HE2.trans (Ac.parseF_bad (by rw [hwd]; exact hsd) (by rw [hwd]; exact hl9)))
              rw [hl9] at HLN
              clear HE2 hls9 hwd hwd2 hb hhd hln hl9 hsd e1
              go_wp2_with fail
              refine hW.mono ?_
              rintro x w2 ⟨A2, rfl, hw2, hb2⟩
              obtain ⟨g2, o2, e2, _, hc2⟩ := hw2.1.2.2 (by omega)
              injection e2 with e2
              injection e2 with e2 e3
              subst e2 e3
              have c2 : w2.cell? ⟨A2, 0, none⟩ = some (.string (bs h)) := hc2 0 _ rfl
              have hF2 := HF.out.next hb2 HF.out.below.size
              have hL2 := HLN.out A2 w2 hF2 hw2 (HP.out.step hb2)
              have HF2 := Lib.hid hF2
              unfold DefOut at hL2
              clear hW hb2 hc hw2 hc2 hF2
              go_wp2_with fail
              refine hL2.mono ?_
              rintro x w4 ⟨rfl, hf4, -⟩
              clear hL2 c2
              go_wp2
              go_ret3
              rw [HR9.out]
              exact ⟨_, by rfl, (fun h => by cases h), (fun _ => rfl), HB9.out _ (HF2.out.trans hf4)⟩
            | some L' =>
              have HR9 := Lib.hid (HE2.trans (Ac.parseF_next (by rw [hwd]; exact hsd) (by rw [hwd]; exact hl9)))
              have HC9 := Lib.hid ((Ac.line_cap hl9 HC.out).le (M' := Ac.tot (ls.take (k + 1))) (N' := k + 1) (by rw [HT1.out, List.length_cons]; omega) (Nat.le_refl _))
              rw [hl9] at HLN
              clear HE2 hls9 hwd hwd2 hb hhd hln hl9 hsd e1
              go_wp2_with fail
              refine hW.mono ?_
              rintro x w2 ⟨A2, rfl, hw2, hb2⟩
              obtain ⟨g2, o2, e2, _, hc2⟩ := hw2.1.2.2 (by omega)
              injection e2 with e2
              injection e2 with e2 e3
              subst e2 e3
              have c2 : w2.cell? ⟨A2, 0, none⟩ = some (.string (bs h)) := hc2 0 _ rfl
              have hF2 := HF.out.next hb2 HF.out.below.size
              have hL2 := HLN.out A2 w2 hF2 hw2 (HP.out.step hb2)
              have HF2 := Lib.hid hF2
              unfold DefOut at hL2
              clear hW hb2 hc hw2 hc2 hF2
              go_wp2_with fail
              refine hL2.mono ?_
              rintro x w4 ⟨rfl, hf4, hp4⟩
              have HP4 := Lib.hid (hp4 L' rfl)
              have HF4 := Lib.hid (HF2.out.trans hf4)
              clear hL2 c2 hf4 hp4
              go_wp2
              go_roundw
              case rel => exact ⟨k + 1, L', by omega, by go_num, HP4, HR9, HC9, HF4⟩
              case measure => simp [intOf]; omega
      · obtain rfl : k = ls.length := by omega
        have hE := HE.out
        rw [List.drop_length] at hE
        have HN : Hid (RES = (L, 0, 0)) := Lib.hid (by rw [hE]; rfl)
        have HPL := Lib.hid (fun (W' : World) (hW : ∀ q, w.heap.size ≤ q → q < wr.heap.size → W'.heap[q]? = wr.heap[q]?) => (HP.out.lift (fun q h1 h2 => hW q (Nat.le_trans hb1.size h1) h2)).plist (HC.out.le (by have := Ac.tot_take ls ls.length; have := HTOT.out; omega) (by omega)))
        clear hE
        go_wp2
        go_ret3
        rw [HN.out]
        exact ⟨_, rfl, (fun _ => ⟨_, rfl, HPL.out⟩), (fun h => absurd rfl h), HB9.out _ HF.out⟩
end Go.Proofs.YtgkphjbcaidcpaaGreatDoor
set_option linter.unusedVariables false
set_option linter.unusedSimpArgs false
namespace Go.Proofs.YtgkphjbcaidcpaaGreatDoor
open Go.RowKit

set_option maxRecDepth 100000
namespace Ac
def little : T := [97, 99, 108, 32, 109, 101, 32, 115, 114, 99, 32, 49, 48, 46, 48, 46, 48, 46, 48, 47, 56, 10, 97, 99, 108, 32, 98, 97, 100, 32, 104, 111, 115, 116, 32, 46, 101, 118, 105, 108, 46, 111, 114, 103, 10, 100, 101, 110, 121, 32, 98, 97, 100, 10, 97, 108, 108, 111, 119, 32, 109, 101]
def meT : T := [109, 101]
def badT : T := [98, 97, 100]
def littleL : LS := ⟨[⟨meT, srcT, [[49, 48, 46, 48, 46, 48, 46, 48, 47, 56]]⟩, ⟨badT, hostT, [[46, 101, 118, 105, 108, 46, 111, 114, 103]]⟩], [⟨3, false, [badT]⟩, ⟨4, true, [meT]⟩]⟩
theorem parse_little : parse little = (littleL, 0, 0) := by kernel_rfl
def ask1 : Ask := ⟨167903747, [101, 118, 105, 108, 46, 111, 114, 103], 0, [], [], 0⟩
def ask2 : Ask := ⟨167903747, [97, 46, 111, 114, 103], 0, [], [], 0⟩
def ask3 : Ask := ⟨1, [], 0, [], [], 0⟩
theorem little1 : decide_ littleL ask1 = (false, 3) := by kernel_rfl
theorem little2 : decide_ littleL ask2 = (true, 4) := by kernel_rfl
theorem little3 : decide_ littleL ask3 = (false, 0) := by kernel_rfl
end Ac
theorem ask_ok {s : Int} {h : List UInt8} (hh : h.length ≤ 4194304) : AskOK ⟨s, h, 0, [], [], 0⟩ := ⟨hh, by simp, by simp, by simp, by simp⟩
theorem dec_lit (g : Nat) (a : Ac.Ask) (b : Bool) (n : Nat) (h : Ac.decide_ Ac.littleL a = (b, n)) : decV Ac.littleL a = .tuple #[.bool b, .int .i64 (n : Int)] := by unfold decV; rw [h]
set_option maxHeartbeats 2000000 in
theorem alive_any (w : World) (hM : MaxL w) : Calls Tryz.prog 7 #[] w fun e w' => e = .returned (.bool true) ∧ Below w.heap.size w w' := by
  have hP := parse_any Ac.little w hM (by decide)
  unfold ParseOut at hP
  rw [Ac.parse_little] at hP
  have hD := fun g a W hM ha hP => decide_any g Ac.littleL a W hM ha hP
  have k1 := dec_lit 0 Ac.ask1 _ _ Ac.little1
  have k2 := dec_lit 0 Ac.ask2 _ _ Ac.little2
  have k3 := dec_lit 0 Ac.ask3 _ _ Ac.little3
  have HD := Lib.hid hD
  clear hD
  go_enter Tryz.func7, Tryz.ntmps7
  go_wp2_with fail
  refine hP.mono ?_
  rintro x w1 ⟨v, rfl, hy, -, hb1⟩
  obtain ⟨g, rfl, hL⟩ := hy (by trivial)
  replace hL := hL w1 (fun _ _ _ => rfl)
  have hM1 := maxl_b hM hb1
  have hD1 := HD.out g Ac.ask1 w1 hM1 (ask_ok (by decide)) hL
  have HL := Lib.hid hL
  rw [k1] at hD1
  clear hP hy hL k1
  go_wp2_with fail
  refine hD1.mono ?_
  rintro x w2 ⟨rfl, hb2⟩
  have hL2 := HL.out.step hb2
  have hM2 := maxl_b hM1 hb2
  have hD2 := HD.out g Ac.ask2 w2 hM2 (ask_ok (by decide)) hL2
  have HL2 := Lib.hid hL2
  rw [k2] at hD2
  clear hD1 hL2 k2
  go_wp2_with fail
  refine hD2.mono ?_
  rintro x w3 ⟨rfl, hb3⟩
  have hD3 := HD.out g Ac.ask3 w3 (maxl_b hM2 hb3) (ask_ok (by decide)) (HL2.out.step hb3)
  rw [k3] at hD3
  clear hD2 k3
  go_wp2_with fail
  refine hD3.mono ?_
  rintro x w4 ⟨rfl, hb4⟩
  clear hD3
  go_wp2
  go_ret
  exact ⟨rfl, bnext (bnext (bnext hb1 hb2 hb1.size) hb3 (Nat.le_trans hb1.size hb2.size)) hb4 (Nat.le_trans hb1.size (Nat.le_trans hb2.size hb3.size))⟩
end Go.Proofs.YtgkphjbcaidcpaaGreatDoor
set_option linter.unusedVariables false
set_option linter.unusedSimpArgs false
namespace Go.Proofs.YtgkphjbcaidcpaaGreatDoor
open Go.RowKit

set_option maxRecDepth 100000
namespace Ac
def join : List T → T
  | [] => []
  | x :: r => x ++ r.flatMap (10 :: ·)
theorem join_snoc (l : List T) (s : T) : join (l ++ [s]) = join l ++ (if 0 < l.length then [10] else []) ++ s := by
  cases l with
  | nil => simp [join]
  | cons x r => simp [join]
theorem join_cons (x y : T) (r : List T) : join (x :: y :: r) = x ++ 10 :: join (y :: r) := by simp [join]
def wholeL (l : List T) : Bool := l.all fun s => s.all (· != 10)
theorem split_join : ∀ l : List T, l ≠ [] → wholeL l = true → Ur.splitc 10 (join l) = l
  | [], h, _ => absurd rfl h
  | [x], _, h => by
    have hx : ∀ b ∈ x, b ≠ 10 := by simpa [wholeL] using h
    rw [show join [x] = x by simp [join], Ur.splitc_one hx]
  | x :: y :: r, _, h => by
    have h2 : (x.all (· != 10)) = true ∧ wholeL (y :: r) = true := by
      unfold wholeL at h ⊢
      rw [List.all_cons, Bool.and_eq_true] at h
      exact h
    have hx : ∀ b ∈ x, b ≠ 10 := by simpa using h2.1
    rw [join_cons, Ur.splitc_of hx, split_join (y :: r) (by simp) h2.2]
end Ac
theorem all_nat {s : List UInt8} {k : Nat} (hk : k < s.length) (h : (s.take k).all (· != 10) = true) (h2 : s[k] ≠ 10) : (s.take (k + 1)).all (· != 10) = true := by
  rw [take_snoc s k hk, List.all_append, h]; simp [h2]
set_option maxHeartbeats 2000000 in
theorem whole_any (A : Option Addr) (n c : Nat) (l : List (List UInt8)) (w : World) (hl : RdS w A n l) (hn : n ≤ 4194304) (hlen : ∀ s ∈ l, s.length ≤ 4194304) :
    Calls Tryz.prog 12 #[.slice A n c] w fun e w' => e = .returned (.bool (Ac.wholeL l)) ∧ w' = w := by
  have HF : Hid (∀ (i : Nat) (s : List UInt8), l[i]? = some s → s.all (· != 10) = false → Ac.wholeL l = false) := Lib.hid fun i s h1 h2 => by
    unfold Ac.wholeL
    exact all_noX _ h1 h2
  have HE : Hid ((l.take n).all (fun s => s.all (· != 10)) = true → Ac.wholeL l = true) := Lib.hid fun h => by rw [List.take_of_length_le (by rw [hl.1]; exact Nat.le_refl _)] at h; exact h
  generalize Ac.wholeL l = R at *
  go_enter Tryz.func12, Tryz.ntmps12
  go_wp2
  go_loop [3] (fun t => ∃ i : Nat, i ≤ n ∧ t = .int .i64 (i : Int) ∧ Hid ((l.take i).all (fun s => s.all (· != 10)) = true)) (fun t => n - (intOf t).toNat)
  case atStart => exact ⟨0, by omega, rfl, Lib.hid rfl⟩
  case round =>
    obtain ⟨i, hi, rfl, HI⟩ := hrel
    by_cases hlt : i < n
    · obtain ⟨g, o, s, rfl, hg, HS, hc⟩ := hl.at_ hlt
      have hsl := hlen s (mem_of_get? HS.out)
      go_wp2
      go_loop [4] (fun t => ∃ k : Nat, k ≤ s.length ∧ t = .int .i64 (k : Int) ∧ Hid ((s.take k).all (· != 10) = true)) (fun t => s.length - (intOf t).toNat)
      case atStart => exact ⟨0, by omega, rfl, Lib.hid rfl⟩
      case round =>
        obtain ⟨k, hk, rfl, HK⟩ := hrel
        by_cases hlt2 : k < s.length
        · by_cases q1 : (s[k].toNat : Int) = 10
          · have i1 : ((s[k].toNat : Int) == 10) = true := by rw [beq_iff_eq]; exact q1
            have HR : Hid (R = false) := Lib.hid (HF.out i s HS.out (by
              have h9 : s[k] = 10 := UInt8.toNat_inj.1 (by show s[k].toNat = 10; omega)
              rw [← Bool.not_eq_true, List.all_eq_true]
              intro h
              have := h s[k] (List.getElem_mem hlt2)
              rw [h9] at this
              exact absurd this (by decide)))
            clear q1
            go_wp2
            go_ret
            exact ⟨by rw [HR.out]; rfl, rfl⟩
          · have i1 : ((s[k].toNat : Int) == 10) = false := by rw [beq_eq_false_iff_ne]; exact q1
            have HK2 := Lib.hid (all_nat hlt2 HK.out (fun e => q1 (by rw [e]; rfl)))
            clear q1
            go_wp2
            go_round
            case rel => exact ⟨k + 1, by omega, by go_num, HK2⟩
            case measure => simp [intOf]; omega
        · obtain rfl : k = s.length := by omega
          have HI2 : Hid ((l.take (i + 1)).all (fun s => s.all (· != 10)) = true) := Lib.hid (by
            have h9 := HK.out
            rw [List.take_length] at h9
            rw [allQ_snoc _ HS.out, HI.out, h9]; rfl)
          go_wp2
          go_round
          case rel => exact ⟨i + 1, by omega, by go_num, HI2⟩
          case measure => simp [intOf]; omega
    · obtain rfl : i = n := by omega
      have HR := Lib.hid (HE.out HI.out)
      go_wp2
      go_ret
      exact ⟨by rw [HR.out]; rfl, rfl⟩
end Go.Proofs.YtgkphjbcaidcpaaGreatDoor
set_option linter.unusedVariables false
set_option linter.unusedSimpArgs false
namespace Go.Proofs.YtgkphjbcaidcpaaGreatDoor
open Go.RowKit

set_option maxRecDepth 100000
set_option maxHeartbeats 1000000 in
theorem rbare_any (s : List UInt8) (w : World) (h0 : 0 < s.length) (hs : s.length ≤ 4194304) :
    Calls Tryz.prog 25 #[.string (bs s)] w fun e w' => e = .returned (.string (bs (Ac.bare s))) ∧ w' = w := by
  have hhd : s.head? = some s[0] := by cases s with | nil => simp at h0 | cons a b => rfl
  have h1i : (1 : Int) ≤ (s.length : Int) := by omega
  by_cases hb : (s[0].toNat : Int) = 33
  · have i1 : ((s[0].toNat : Int) == 33) = true := by rw [beq_iff_eq]; exact hb
    have HE : Hid (Ac.bare s = s.drop 1) := Lib.hid (by
      have h9 : s[0] = 33 := UInt8.toNat_inj.1 (by show s[0].toNat = 33; omega)
      unfold Ac.bare; rw [if_pos (by rw [hhd, h9])])
    generalize Ac.bare s = R at *
    clear hb hhd
    go_enter Tryz.func25, Tryz.ntmps25
    go_wp2
    go_ret
    have h9 : (s.tail).take (s.length - 1) = s.drop 1 := by rw [List.take_of_length_le (by simp)]; simp
    exact ⟨by rw [HE.out, ← h9]; rfl, rfl⟩
  · have i1 : ((s[0].toNat : Int) == 33) = false := by rw [beq_eq_false_iff_ne]; exact hb
    have HE : Hid (Ac.bare s = s) := Lib.hid (by
      unfold Ac.bare; rw [if_neg (by rw [hhd]; intro e; injection e with e; exact hb (by rw [e]; rfl))])
    generalize Ac.bare s = R at *
    clear hb hhd
    go_enter Tryz.func25, Tryz.ntmps25
    go_wp2
    go_ret
    exact ⟨by rw [HE.out]; rfl, rfl⟩
end Go.Proofs.YtgkphjbcaidcpaaGreatDoor
