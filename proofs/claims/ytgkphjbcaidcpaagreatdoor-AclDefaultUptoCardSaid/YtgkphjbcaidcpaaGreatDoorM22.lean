/- Joined texts: The words of a line, as acl.Parse has them; acl.Parse. The conditions stand in each line. -/
import Derived.Test.YtgkphjbcaidcpaaGreatDoorM12
import Derived.Test.YtgkphjbcaidcpaaGreatDoorM21
set_option linter.unusedVariables false
set_option linter.unusedSimpArgs false
namespace Go.Proofs.YtgkphjbcaidcpaaGreatDoor
open Go.RowKit

set_option maxRecDepth 100000
namespace Ac
theorem wordsA_law (s : T) : ∀ acc : T, (wordsA acc s).length ≤ acc.length + s.length ∧ ∀ x ∈ wordsA acc s, 1 ≤ x.length ∧ x.length ≤ acc.length + s.length := by
  induction s with
  | nil =>
    intro acc
    unfold wordsA
    by_cases h : acc = []
    · rw [if_pos h]; exact ⟨by simp, fun x hx => by cases hx⟩
    · rw [if_neg h]
      have := List.length_pos_iff.2 h
      exact ⟨by simp; omega, fun x hx => by rw [List.mem_singleton.1 hx]; simp; omega⟩
  | cons b r ih =>
    intro acc
    unfold wordsA
    by_cases hb : blk b = true
    · rw [if_pos hb]
      have h0 := ih []
      simp only [List.length_nil, Nat.zero_add] at h0
      by_cases h : acc = []
      · rw [if_pos h]; exact ⟨by have := h0.1; simp; omega, fun x hx => by have := h0.2 x hx; simp; omega⟩
      · rw [if_neg h]
        have := List.length_pos_iff.2 h
        refine ⟨by have := h0.1; simp; omega, fun x hx => ?_⟩
        rcases List.mem_cons.1 hx with rfl | hx
        · simp; omega
        · have := h0.2 x hx; simp; omega
    · rw [if_neg hb]
      have h0 := ih (acc ++ [b])
      simp only [List.length_append, List.length_singleton] at h0
      exact ⟨by have := h0.1; simp; omega, fun x hx => by have := h0.2 x hx; simp; omega⟩
theorem words_len (s : T) : (words s).length ≤ s.length := by have := (wordsA_law s []).1; simpa [words] using this
theorem words_mem {s x : T} (h : x ∈ words s) : 1 ≤ x.length ∧ x.length ≤ s.length := by have := (wordsA_law s []).2 x h; simpa using this
end Ac
theorem blkF_any (x : Nat) (w : World) : Calls Tryz.prog 18 #[encR x] w fun e w' => e = .returned (.bool (Ac.blkR x)) ∧ w' = w := by
  have HE : Hid (Ac.blkR x = (x == 32 || x == 9)) := Lib.hid rfl
  generalize Ac.blkR x = R at *
  unfold encR
  by_cases h1 : x = 32
  · subst h1
    go_enter Tryz.func18, Tryz.ntmps18
    go_wp2
    go_ret
    exact ⟨by rw [HE.out]; rfl, rfl⟩
  · have i1 : ((x : Int) == 32) = false := by rw [beq_eq_false_iff_ne]; omega
    have i2 : ¬ ((x : Int) = 32) := by omega
    have HE2 : Hid (R = (x == 9)) := Lib.hid (by rw [HE.out]; simp [h1])
    clear HE
    go_enter Tryz.func18, Tryz.ntmps18
    go_wp2
    go_ret
    refine ⟨?_, rfl⟩
    have e9 : ((x : Int) == 9) = (x == 9) := by rw [Bool.eq_iff_iff]; simp; omega
    rw [HE2.out, ← e9]
    rfl
theorem words_any (s : List UInt8) (w : World) (hs : s.length ≤ 4194304) :
    Calls Tryz.prog 17 #[.string (bs s), .func (.func 18) #[] #[]] w fun e w' => ∃ A, e = .returned (.slice (some ⟨A, 0, none⟩) (Ac.words s).length (Ac.words s).length) ∧ RdW w' (some ⟨A, 0, none⟩) (Ac.words s).length (Ac.words s) ∧ Below w.heap.size w w' := by
  refine (Tryz.strings_FieldsFunc 18 #[] (fun _ _ => by kernel_rfl) Ac.blkR (bs s) w (by simp; omega) (fun W x hb => (blkF_any x W).mono fun e w' h => ⟨h.1, 0, h.2⟩)).mono fun e w' h => ?_
  obtain ⟨A, rfl, hA, ho, hb⟩ := h
  have hw := Ac.words_eq s
  have hl : (Lib.goFieldsP Ac.blkR (bs s)).length = (Ac.words s).length := by rw [← hw, List.length_map]
  have hst : (Lib.goFieldsP Ac.blkR (bs s)).map Value.string = strs (Ac.words s) := by
    rw [← hw]
    unfold strs
    rw [List.map_map]
    exact List.map_congr_left fun x _ => by cases x; simp [strV, bs]
  rw [hl, hst] at ho
  refine ⟨A, by rw [hl], ⟨⟨rfl, Rd.of_own ho⟩, fun g o e _ => ?_⟩, hb⟩
  injection e with e
  injection e with e1 e2
  subst e1 e2
  rcases ho.2 with ⟨h1, _⟩ | ⟨g', cap, cur, h1, _, hg', _⟩
  · cases h1
  · injection h1 with h1
    injection h1 with h1
    injection h1 with h1
    subst h1
    exact ⟨cur, 9, _, hg', by decide⟩
end Go.Proofs.YtgkphjbcaidcpaaGreatDoor
set_option linter.unusedVariables false
set_option linter.unusedSimpArgs false
namespace Go.Proofs.YtgkphjbcaidcpaaGreatDoor
open Go.RowKit

set_option maxRecDepth 100000
namespace Ac
theorem parseF_skip {L : LS} {no : Nat} {s : T} {r : List T} (h : said (words s) = false) : parseF L no (s :: r) = parseF L (no + 1) r := by
  have e : parseF L no (s :: r) = if said (words s) = true then (match line L (no + 1) (words s) with | none => (LS.nil, no + 1, 210) | some L' => parseF L' (no + 1) r) else parseF L (no + 1) r := rfl
  rw [e, if_neg (by rw [h]; decide)]
theorem parseF_bad {L : LS} {no : Nat} {s : T} {r : List T} (h : said (words s) = true) (h2 : line L (no + 1) (words s) = none) : parseF L no (s :: r) = (LS.nil, no + 1, 210) := by
  have e : parseF L no (s :: r) = if said (words s) = true then (match line L (no + 1) (words s) with | none => (LS.nil, no + 1, 210) | some L' => parseF L' (no + 1) r) else parseF L (no + 1) r := rfl
  rw [e, if_pos h, h2]
theorem parseF_next {L L' : LS} {no : Nat} {s : T} {r : List T} (h : said (words s) = true) (h2 : line L (no + 1) (words s) = some L') : parseF L no (s :: r) = parseF L' (no + 1) r := by
  have e : parseF L no (s :: r) = if said (words s) = true then (match line L (no + 1) (words s) with | none => (LS.nil, no + 1, 210) | some L' => parseF L' (no + 1) r) else parseF L (no + 1) r := rfl
  rw [e, if_pos h, h2]
/-- What a line adds. -/
def Cap (L : LS) (M N : Nat) : Prop := (∀ e ∈ L.els, e.vs.length ≤ M) ∧ L.rus.length ≤ N
theorem defB_cap {L L' : LS} {nm k : T} {vs : List T} {M N : Nat} (h : defB L nm k vs = some L') (hc : Cap L M N) : Cap L' (M + vs.length) N := by
  unfold defB at h
  split at h
  · injection h with h
    subst h
    refine ⟨fun e he => ?_, hc.2⟩
    rcases List.mem_append.1 he with h1 | h1
    · have := hc.1 e h1; omega
    · rw [List.mem_singleton.1 h1]; simp
  · split at h
    · rename_i i _ e0 he0
      split at h
      · injection h with h
        subst h
        refine ⟨fun e he => ?_, hc.2⟩
        rcases List.mem_or_eq_of_mem_set he with h1 | h1
        · have := hc.1 e h1; omega
        · rw [h1]
          have := hc.1 e0 (mem_of_get? he0)
          simp; omega
      · cases h
    · cases h
theorem define_cap {L L' : LS} {w : List T} {M N : Nat} (h : define L w = some L') (hc : Cap L M N) : Cap L' (M + w.length) N := by
  rcases w with _ | ⟨a, _ | ⟨b, _ | ⟨c, r⟩⟩⟩
  · cases h
  · cases h
  · cases h
  · rw [define_eq] at h
    split at h
    · have := defB_cap h hc
      exact ⟨fun e he => by have h9 := this.1 e he; simp at h9 ⊢; omega, this.2⟩
    · cases h
theorem ruleL_cap {L L' : LS} {no : Nat} {al : Bool} {w : List T} {M N : Nat} (h : ruleL L no al w = some L') (hc : Cap L M N) : Cap L' M (N + 1) := by
  unfold ruleL at h
  split at h
  · injection h with h
    subst h
    exact ⟨hc.1, by have := hc.2; simp; omega⟩
  · cases h
theorem Cap.le {L : LS} {M N M' N' : Nat} (h : Cap L M N) (h1 : M ≤ M') (h2 : N ≤ N') : Cap L M' N' := ⟨fun e he => Nat.le_trans (h.1 e he) h1, Nat.le_trans h.2 h2⟩
theorem line_cap {L L' : LS} {no : Nat} {w : List T} {M N : Nat} (h : line L no w = some L') (hc : Cap L M N) : Cap L' (M + w.length) (N + 1) := by
  rcases w with _ | ⟨a, r⟩
  · cases h
  · rw [line_cons] at h
    split at h
    · exact (define_cap h hc).le (by simp) (by omega)
    · split at h
      · exact (ruleL_cap h hc).le (by omega) (by omega)
      · split at h
        · exact (ruleL_cap h hc).le (by omega) (by omega)
        · cases h
def tot (l : List T) : Nat := (l.map List.length).sum
theorem tot_snoc {l : List T} {k : Nat} {s : T} (h : l[k]? = some s) : tot (l.take (k + 1)) = tot (l.take k) + s.length := by
  unfold tot; rw [take_snoc? h, List.map_append, List.sum_append]; simp
theorem tot_take (l : List T) (k : Nat) : tot (l.take k) ≤ tot l := by
  have h : tot l = tot (l.take k) + tot (l.drop k) := by
    unfold tot
    rw [← List.sum_append, ← List.map_append, List.take_append_drop]
  omega
theorem tot_split (c : UInt8) : ∀ s : T, tot (Ur.splitc c s) ≤ s.length
  | [] => by simp [Ur.splitc, tot]
  | b :: r => by
    have ih := tot_split c r
    unfold Ur.splitc
    have hne := Ur.splitc_ne c r
    split
    · unfold tot at *; simp; omega
    · cases h : Ur.splitc c r with
      | nil => exact absurd h hne
      | cons x y => rw [h] at ih; unfold tot at *; simp at ih ⊢; omega
theorem drop_get {l : List T} {k : Nat} {s : T} (h : l[k]? = some s) : l.drop k = s :: l.drop (k + 1) := by
  obtain ⟨hk, rfl⟩ := List.getElem?_eq_some_iff.1 h
  exact List.drop_eq_getElem_cons hk
end Ac
theorem PWx.mono {w : World} {B g mb N M : Nat} {L : Ac.LS} (h : PWx w B g mb N L) (hN : N ≤ M) : PWx w B g mb M L := by
  obtain ⟨bx, A, n, c, R, rn, rc, h⟩ := h
  exact ⟨bx, A, n, c, R, rn, rc, h.base, h.list, h.map.mono hN, h.els, h.rus⟩
theorem PWx.step {w w' : World} {B g mb N : Nat} {L : Ac.LS} (h : PWx w B g mb N L) (hb : Below w.heap.size w w') : PWx w' B g mb N L := by
  obtain ⟨bx, A, n, c, R, rn, rc, h⟩ := h
  exact ⟨bx, A, n, c, R, rn, rc, h.step hb⟩
theorem PWx.lt {w : World} {B g mb N : Nat} {L : Ac.LS} (h : PWx w B g mb N L) : B ≤ w.heap.size := by
  obtain ⟨bx, A, n, c, R, rn, rc, h⟩ := h
  exact Nat.le_of_lt (Nat.lt_of_le_of_lt h.base.1 (Array.getElem?_eq_some_iff.1 h.list).1)
theorem PWx.plist {w : World} {B g mb N : Nat} {L : Ac.LS} (h : PWx w B g mb N L) (hc : Ac.Cap L 4194304 4194304) : PList w g L := by
  obtain ⟨bx, A, n, c, R, rn, rc, h⟩ := h
  obtain ⟨prs, h1, h2, h3⟩ := h.rus.ex
  have hl : prs.length = rn := by have := h1.1; rw [rcells_length] at this; omega
  refine ⟨bx, .map (some mb), R, rn, rc, prs, h.list, ⟨hl, Rd.of_own h1⟩, by have := hc.2; omega, ⟨h2, fun i p r k1 k2 => ?_⟩, fun k e he => ?_⟩
  · obtain ⟨q1, q2, q3, pts, q4, q5⟩ := h3 i p r k1 k2
    have hp : pts.length = p.n := by have := q4.1; rw [tcells_length] at this; omega
    exact ⟨q1, q2, q3, pts, ⟨hp, Rd.of_own q4⟩, q5⟩
  · have hb := h.els.box k e he
    have hr := h.els.row k e he
    refine ⟨A k, n k, c k, hb.2, ⟨hr.1.symm, Rd.of_own hr.2⟩, by have := hc.1 e (mem_of_get? he); omega, h.els.ok k e he⟩
theorem PWx.made (w : World) : PWx ((w.alloc (.map #[] 0)).alloc (.cells #[.map (some w.heap.size), .slice none 0 0] 50)) w.heap.size (w.heap.size + 1) w.heap.size 0 Ac.LS.nil := by
  have hal := alloc_below (w.alloc (.map #[] 0)) (.cells #[.map (some w.heap.size), .slice none 0 0] 50)
  have hr := heap_alloc_new (w.alloc (.map #[] 0)) (.cells #[.map (some w.heap.size), .slice none 0 0] 50)
  have hs : (w.alloc (.map #[] 0)).heap.size = w.heap.size + 1 := by simp
  rw [hs] at hr
  have hm0 := World.ownsMap_made w Tryz.prog 9 ptrR
  refine ⟨fun _ => 0, fun _ => none, fun _ => 0, fun _ => 0, none, 0, 0, ⟨by omega, Nat.le_refl _⟩, hr, ⟨_, hm0.kept (row := none) (grown_below hal) (by simp), fun s _ => rfl⟩, ⟨fun k e h => by simp [Ac.LS.nil] at h, fun k e h => by simp [Ac.LS.nil] at h, fun k e h => by simp [Ac.LS.nil] at h, fun i j h => by simp [Ac.LS.nil] at h, fun i j h => by simp [Ac.LS.nil] at h⟩, ⟨[], World.ownsRow_nil _ _ _ 3, rfl, fun i p r h => by simp at h⟩⟩
theorem own_lift {w W' : World} {B m size : Nat} {e : TypeId} {v : Value} {xs : List Value} (h : w.ownsRow B e size v m xs) (hW : ∀ k, B ≤ k → k < w.heap.size → W'.heap[k]? = w.heap[k]?) : W'.ownsRow B e size v m xs := by
  refine ⟨h.1, ?_⟩
  rcases h.2 with h1 | ⟨g, cap, cur, rfl, hb, hgg, rest⟩
  · exact .inl h1
  · exact .inr ⟨g, cap, cur, rfl, hb, (hW g hb (Array.getElem?_eq_some_iff.1 hgg).1).trans hgg, rest⟩
theorem PWx.lift {w W' : World} {B g mb N : Nat} {L : Ac.LS} (h : PWx w B g mb N L) (hW : ∀ k, B ≤ k → k < w.heap.size → W'.heap[k]? = w.heap[k]?) : PWx W' B g mb N L := by
  obtain ⟨bx, A, n, c, R, rn, rc, h⟩ := h
  have hb : ∀ {k : Nat} {o : Obj}, B ≤ k → w.heap[k]? = some o → W'.heap[k]? = some o := fun hk ho => (hW _ hk (Array.getElem?_eq_some_iff.1 ho).1).trans ho
  obtain ⟨D, ⟨es, cl, hm, F, hs, e⟩, h2⟩ := h.map
  obtain ⟨prs, q1, q2, q3⟩ := h.rus.ex
  exact ⟨bx, A, n, c, R, rn, rc, h.base, hb h.base.1 h.list, ⟨D, ⟨es, cl, hb h.base.2 hm, F, hs, e⟩, h2⟩, ⟨fun k e he => ⟨(h.els.box k e he).1, hb (h.els.box k e he).1 (h.els.box k e he).2⟩, fun k e he => ⟨(h.els.row k e he).1, own_lift (h.els.row k e he).2 hW⟩, h.els.ok, h.els.injB, h.els.injR⟩, ⟨prs, own_lift q1 hW, q2, fun i p r k1 k2 => by
    obtain ⟨m1, m2, m3, pts, m4, m5⟩ := q3 i p r k1 k2
    exact ⟨m1, m2, m3, pts, own_lift m4 hW, m5⟩⟩⟩
/-- What Parse leaves. -/
def ParseOut (w : World) (r : Ac.LS × Nat × Int) (e : Ending) (w' : World) : Prop :=
  ∃ v, e = .returned (.tuple #[v, .int .i64 (r.2.1 : Int), .int .i64 r.2.2]) ∧ (r.2.2 = 0 → ∃ g, v = .pointer (some ⟨g, 0, none⟩) ∧ ∀ W' : World, (∀ k, w.heap.size ≤ k → k < w'.heap.size → W'.heap[k]? = w'.heap[k]?) → PList W' g r.1) ∧ (r.2.2 ≠ 0 → v = .pointer none) ∧ Below w.heap.size w w'
theorem maxl_lt {w : World} (h : MaxL w) : 0 < w.heap.size := by
  obtain ⟨m, hm⟩ := h
  exact World.block_lt_of_cell? w _ hm
set_option maxHeartbeats 4000000 in
theorem parse_any (p : List UInt8) (w : World) (hM : MaxL w) (hp : p.length ≤ 4194304) :
    Calls Tryz.prog 8 #[.string (bs p)] w fun e w' => ParseOut w (Ac.parse p) e w' := by
  have hS := splitA_any p 10 w hM (by omega)
  have hmm := @run_makeMap Tryz.prog
  have HML := Lib.hid (fun x hx => Nat.le_trans (Ac.split_mem_len 10 p x hx) hp)
  have HTOT := Lib.hid (Nat.le_trans (Ac.tot_split 10 p) hp)
  have HPA : Hid (Ac.parse p = Ac.parseLs (Ur.splitc 10 p)) := Lib.hid rfl
  generalize Ac.parse p = RES at *
  generalize Ur.splitc 10 p = ls at *
  by_cases h200 : 200 < ls.length
  · have HR : Hid (RES = (Ac.LS.nil, 0, 101)) := Lib.hid (by rw [HPA.out]; unfold Ac.parseLs; rw [if_pos h200])
    have hi : (200 : Int) < (ls.length : Int) := by omega
    clear HPA HML HTOT h200
    go_enter Tryz.func8, Tryz.ntmps8
    go_wp2_with fail
    refine hS.mono ?_
    rintro x w1 ⟨rfl, -, hb1⟩
    clear hS
    go_wp2
    go_ret3
    rw [HR.out]
    exact ⟨_, rfl, (fun h => by cases h), (fun _ => rfl), hb1⟩
  · have HR : Hid (RES = Ac.parseF Ac.LS.nil 0 ls) := Lib.hid (by rw [HPA.out]; unfold Ac.parseLs; rw [if_neg h200])
    have hi : ¬ ((200 : Int) < (ls.length : Int)) := by omega
    clear HPA
    go_enter Tryz.func8, Tryz.ntmps8
    go_wp2_with fail
    refine hS.mono ?_
    rintro x w1 ⟨rfl, hls, hb1⟩
    clear hS
    go_upto_region 5 with fail
    have hPW := PWx.made w1
    have hal := (alloc_below w1 (.map #[] 0)).trans ((alloc_below (w1.alloc (.map #[] 0)) (.cells #[.map (some w1.heap.size), .slice none 0 0] 50)).mono (by simp))
    have HML2 : Hid (0 < w1.heap.size) := Lib.hid (Nat.lt_of_lt_of_le (maxl_lt hM) hb1.size)
    have hM1 := maxl_b hM hb1
    have HLS := Lib.hid hls
    generalize (w1.alloc (.map #[] 0)).alloc (.cells #[.map (some w1.heap.size), .slice none 0 0] 50) = w3 at *
    have hF3 : AFr w1.heap.size w1 w3 := AFr.refl.next hal (Nat.le_refl _)
    clear hls
    go_wp2_with fail
    go_loopw [20] (fun t wr => ∃ (k : Nat) (L : Ac.LS), k ≤ ls.length ∧ t = .int .i64 (k : Int) ∧ Hid (PWx wr w1.heap.size (w1.heap.size + 1) w1.heap.size k L) ∧ Hid (RES = Ac.parseF L k (ls.drop k)) ∧ Hid (Ac.Cap L (Ac.tot (ls.take k)) k) ∧ Hid (AFr w1.heap.size w1 wr)) (fun t _ => ls.length - (intOf t).toNat)
    case atStart => exact ⟨0, Ac.LS.nil, by omega, rfl, Lib.hid hPW, HR, Lib.hid ⟨fun e he => by simp [Ac.LS.nil] at he, by simp [Ac.LS.nil]⟩, Lib.hid hF3⟩
    case round =>
      obtain ⟨k, L, hk, rfl, HP, HE, HC, HF⟩ := hrel
      have hMr : MaxL wr := maxl_fr hM1 HF.out HML2.out
      have HB9 : Hid (∀ W, AFr w1.heap.size w1 W → Below w.heap.size w W) := Lib.hid fun W hW => bnext hb1 hW.below hb1.size
      by_cases hlt : k < ls.length
      · have hls9 := HLS.out.step (w' := wr) HF.out.below
        obtain ⟨g9, o9, s, e9, hg9, HS, hc⟩ := hls9.at_ hlt
        injection e9 with e9
        injection e9 with e9 e10
        subst e9 e10
        rw [Nat.zero_add] at hc
        have hsl := HML.out s (mem_of_get? HS.out)
        have hW := words_any s wr hsl
        have hwl := Ac.words_len s
        have HWM := Lib.hid (fun x (hx : x ∈ Ac.words s) => Ac.words_mem hx)
        have HE2 := HE.out
        rw [Ac.drop_get HS.out] at HE2
        have HT1 := Lib.hid (Ac.tot_snoc HS.out)
        have hT2 := Ac.tot_take ls (k + 1)
        have hT3 := HTOT.out
        cases hwd : Ac.words s with
        | nil =>
          have HR9 := Lib.hid (HE2.trans (Ac.parseF_skip (by rw [hwd]; rfl)))
          have HC9 := Lib.hid (HC.out.le (M' := Ac.tot (ls.take (k + 1))) (N' := k + 1) (by rw [HT1.out]; omega) (by omega))
          rw [hwd] at hW
          simp only [List.length_nil] at hW
          clear HE2 hls9 hwd
          go_wp2_with fail
          refine hW.mono ?_
          rintro x w2 ⟨A2, rfl, -, hb2⟩
          have HF2 := Lib.hid (HF.out.next hb2 HF.out.below.size)
          have HP2 := Lib.hid ((HP.out.step hb2).mono (Nat.le_succ k))
          clear hW hb2 hc
          go_wp2
          go_roundw
          case rel => exact ⟨k + 1, L, by omega, by go_num, HP2, HR9, HC9, HF2⟩
          case measure => simp [intOf]; omega
        | cons h r =>
          have hh := HWM.out h (by rw [hwd]; simp)
          have h0 : 0 < h.length := by omega
          have hrl : r.length + 1 ≤ s.length := by have h9 := hwl; rw [hwd] at h9; simpa using h9
          have r0 : (0 : Int) < (r.length : Int) + 1 := by omega
          have hhd : h.head? = some h[0] := by cases h with | nil => simp at h0 | cons a b => rfl
          by_cases hb : (h[0].toNat : Int) = 35
          · have i1 : ((h[0].toNat : Int) != 35) = false := by rw [bne_eq_false_iff_eq]; exact hb
            have hb9 : h[0] = 35 := UInt8.toNat_inj.1 (by show h[0].toNat = 35; omega)
            have HR9 := Lib.hid (HE2.trans (Ac.parseF_skip (by rw [hwd]; show (!(h.head? == some 35)) = false; rw [hhd, hb9]; rfl)))
            have HC9 := Lib.hid (HC.out.le (M' := Ac.tot (ls.take (k + 1))) (N' := k + 1) (by rw [HT1.out]; omega) (by omega))
            rw [hwd] at hW
            simp only [List.length_cons] at hW
            clear HE2 hls9 hwd hb hb9 hhd
            go_wp2_with fail
            refine hW.mono ?_
            rintro x w2 ⟨A2, rfl, hw2, hb2⟩
            obtain ⟨g2, o2, e2, _, hc2⟩ := hw2.1.2.2 (by omega)
            injection e2 with e2
            injection e2 with e2 e3
            subst e2 e3
            have c2 : w2.cell? ⟨A2, 0, none⟩ = some (.string (bs h)) := hc2 0 _ rfl
            have HF2 := Lib.hid (HF.out.next hb2 HF.out.below.size)
            have HP2 := Lib.hid ((HP.out.step hb2).mono (Nat.le_succ k))
            clear hW hb2 hc hw2 hc2
            go_wp2
            go_roundw
            case rel => exact ⟨k + 1, L, by omega, by go_num, HP2, HR9, HC9, HF2⟩
            case measure => simp [intOf]; omega
          · have i1 : ((h[0].toNat : Int) != 35) = true := by rw [bne_iff_ne]; exact hb
            have hsd : Ac.said (Ac.words s) = true := by
              rw [hwd]
              show (!(h.head? == some 35)) = true
              have h9 : h[0] ≠ 35 := fun e => hb (by rw [e]; rfl)
              rw [hhd]; simp [h9]
            have hln := fun A2 w2 (hF2 : AFr w1.heap.size w1 w2) hR hP => line_any L (k + 1) (h :: r) w1.heap.size (w1.heap.size + 1) w1.heap.size k (some ⟨A2, 0, none⟩) (r.length + 1) (r.length + 1) w2 (maxl_fr hM1 hF2 HML2.out) HML2.out hR hP (fun x hx => by have := HWM.out x (by rw [hwd]; exact hx); omega) ⟨by omega, by omega⟩ ⟨Nat.le_refl _, by unfold maxLen; omega⟩ (fun e he => by have := HC.out.1 e he; have := HT1.out; omega) (by have := HC.out.2; omega) (by unfold maxLen; omega)
            have e1 : (((k + 1 : Nat)) : Int) = (k : Int) + 1 := by omega
            simp only [e1] at hln
            have HLN := Lib.hid hln
            have hwd2 := hwd
            rw [hwd] at hW hsd
            simp only [List.length_cons] at hW
            cases hl9 : Ac.line L (k + 1) (h :: r) with
            | none =>
              have HR9 := Lib.hid (HE2.trans (Ac.parseF_bad (by rw [hwd]; exact hsd) (by rw [hwd]; exact hl9)))
              rw [hl9] at HLN
              clear HE2 hls9 hwd hwd2 hb hhd hln hl9 hsd e1
              go_wp2_with fail
              refine hW.mono ?_
              rintro x w2 ⟨A2, rfl, hw2, hb2⟩
              obtain ⟨g2, o2, e2, _, hc2⟩ := hw2.1.2.2 (by omega)
              injection e2 with e2
              injection e2 with e2 e3
              subst e2 e3
              have c2 : w2.cell? ⟨A2, 0, none⟩ = some (.string (bs h)) := hc2 0 _ rfl
              have hF2 := HF.out.next hb2 HF.out.below.size
              have hL2 := HLN.out A2 w2 hF2 hw2 (HP.out.step hb2)
              have HF2 := Lib.hid hF2
              unfold DefOut at hL2
              clear hW hb2 hc hw2 hc2 hF2
              go_wp2_with fail
              refine hL2.mono ?_
              rintro x w4 ⟨rfl, hf4, -⟩
              clear hL2 c2
              go_wp2
              go_ret3
              rw [HR9.out]
              exact ⟨_, by rfl, (fun h => by cases h), (fun _ => rfl), HB9.out _ (HF2.out.trans hf4)⟩
            | some L' =>
              have HR9 := Lib.hid (HE2.trans (Ac.parseF_next (by rw [hwd]; exact hsd) (by rw [hwd]; exact hl9)))
              have HC9 := Lib.hid ((Ac.line_cap hl9 HC.out).le (M' := Ac.tot (ls.take (k + 1))) (N' := k + 1) (by rw [HT1.out, List.length_cons]; omega) (Nat.le_refl _))
              rw [hl9] at HLN
              clear HE2 hls9 hwd hwd2 hb hhd hln hl9 hsd e1
              go_wp2_with fail
              refine hW.mono ?_
              rintro x w2 ⟨A2, rfl, hw2, hb2⟩
              obtain ⟨g2, o2, e2, _, hc2⟩ := hw2.1.2.2 (by omega)
              injection e2 with e2
              injection e2 with e2 e3
              subst e2 e3
              have c2 : w2.cell? ⟨A2, 0, none⟩ = some (.string (bs h)) := hc2 0 _ rfl
              have hF2 := HF.out.next hb2 HF.out.below.size
              have hL2 := HLN.out A2 w2 hF2 hw2 (HP.out.step hb2)
              have HF2 := Lib.hid hF2
              unfold DefOut at hL2
              clear hW hb2 hc hw2 hc2 hF2
              go_wp2_with fail
              refine hL2.mono ?_
              rintro x w4 ⟨rfl, hf4, hp4⟩
              have HP4 := Lib.hid (hp4 L' rfl)
              have HF4 := Lib.hid (HF2.out.trans hf4)
              clear hL2 c2 hf4 hp4
              go_wp2
              go_roundw
              case rel => exact ⟨k + 1, L', by omega, by go_num, HP4, HR9, HC9, HF4⟩
              case measure => simp [intOf]; omega
      · obtain rfl : k = ls.length := by omega
        have hE := HE.out
        rw [List.drop_length] at hE
        have HN : Hid (RES = (L, 0, 0)) := Lib.hid (by rw [hE]; rfl)
        have HPL := Lib.hid (fun (W' : World) (hW : ∀ q, w.heap.size ≤ q → q < wr.heap.size → W'.heap[q]? = wr.heap[q]?) => (HP.out.lift (fun q h1 h2 => hW q (Nat.le_trans hb1.size h1) h2)).plist (HC.out.le (by have := Ac.tot_take ls ls.length; have := HTOT.out; omega) (by omega)))
        clear hE
        go_wp2
        go_ret3
        rw [HN.out]
        exact ⟨_, rfl, (fun _ => ⟨_, rfl, HPL.out⟩), (fun h => absurd rfl h), HB9.out _ HF.out⟩
end Go.Proofs.YtgkphjbcaidcpaaGreatDoor
