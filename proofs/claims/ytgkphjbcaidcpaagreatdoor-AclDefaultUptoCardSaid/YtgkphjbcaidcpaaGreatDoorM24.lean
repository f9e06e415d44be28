/- Joined texts: AclNot: the plain law; AclDefault: the plain law; The reference's CopyTexts; FOR A PROOF OF AN '..UptoSaid': WHAT THE BOUND GIVES. Copy it as <Name>Bulk.lean (put your seat's Name for YtgkphjbcaidcpaaGreatDoor, the bound of 'uptoSmall' for 1048576), name it in GOCLAIM.json's 'order' behind <Name>Rows. By an AI agent, Sun Nov 15 2026; Small lemmas for the last step of a row: what a call left is known below the old heap alone ('Below'). Lines of the guide's worked small lemmas turned to this claim; no conditions of ours. The conditions stand in each line. -/
import Derived.Test.YtgkphjbcaidcpaaGreatDoorRows
import Derived.Test.YtgkphjbcaidcpaaGreatDoorM23
import Derived.Below
import Derived.ChangeSame
set_option linter.unusedVariables false
set_option linter.unusedSimpArgs false
namespace Go.Proofs.YtgkphjbcaidcpaaGreatDoor
open Go.RowKit

set_option maxRecDepth 100000
namespace Ac
theorem wordsA_end {nm : T} (hb : ∀ b ∈ nm, blk b = false) (acc : T) (h : acc ++ nm ≠ []) : wordsA acc nm = [acc ++ nm] := by
  have e := wordsA_skip nm hb acc []
  rw [List.append_nil] at e
  rw [e]; unfold wordsA; rw [if_neg h]
theorem words_deny {nm : T} (hb : ∀ b ∈ nm, blk b = false) (h : nm ≠ []) : words (100 :: 101 :: 110 :: 121 :: 32 :: nm) = [denyT, nm] := by
  have e : words (100 :: 101 :: 110 :: 121 :: 32 :: nm) = denyT :: wordsA [] nm := rfl
  rw [e, wordsA_end hb [] h]; rfl
theorem words_allow {nm : T} (hb : ∀ b ∈ nm, blk b = false) : words (97 :: 108 :: 108 :: 111 :: 119 :: 32 :: 33 :: nm) = [allowT, 33 :: nm] := by
  have e : words (97 :: 108 :: 108 :: 111 :: 119 :: 32 :: 33 :: nm) = allowT :: wordsA [33] nm := rfl
  rw [e, wordsA_end hb [33] (by simp)]; rfl
theorem words_both {nm : T} (hb : ∀ b ∈ nm, blk b = false) (h : nm ≠ []) : words (100 :: 101 :: 110 :: 121 :: 32 :: (nm ++ 32 :: 33 :: nm)) = [denyT, nm, 33 :: nm] := by
  have e : words (100 :: 101 :: 110 :: 121 :: 32 :: (nm ++ 32 :: 33 :: nm)) = denyT :: wordsA [] (nm ++ 32 :: 33 :: nm) := rfl
  have e2 : wordsA nm (32 :: 33 :: nm) = nm :: wordsA [33] nm := by
    conv => lhs; unfold wordsA
    rw [if_pos (by decide), if_neg h]
    rfl
  rw [e, wordsA_skip nm hb [] _, List.nil_append, e2, wordsA_end hb [33] (by simp)]; rfl
/-- The first line, as it is kept. -/
def first (ln : T) : Option LS := if said (words ln) = true then line LS.nil 1 (words ln) else some LS.nil
theorem parseF_first {ln : T} {r : List T} : (∃ L0, first ln = some L0 ∧ parseF LS.nil 0 (ln :: r) = parseF L0 1 r) ∨ (first ln = none ∧ parseF LS.nil 0 (ln :: r) = (LS.nil, 1, 210)) := by
  unfold first
  by_cases hs : said (words ln) = true
  · rw [if_pos hs]
    cases hl : line LS.nil 1 (words ln) with
    | none => exact .inr ⟨rfl, parseF_bad hs hl⟩
    | some L0 => exact .inl ⟨L0, rfl, parseF_next hs hl⟩
  · rw [if_neg hs]
    exact .inl ⟨LS.nil, rfl, parseF_skip (by simpa using hs)⟩
theorem first_els {ln : T} {L0 : LS} (h : first ln = some L0) {s : T} {k : Nat} (hk : atI L0.els s = some k) : ∃ e, L0 = ⟨[e], []⟩ ∧ e.nm = s := by
  have hne : L0.els ≠ [] := fun e => by rw [e] at hk; cases hk
  have key : ∃ e, L0 = ⟨[e], []⟩ := by
    unfold first at h
    split at h
    · rcases hw : words ln with _ | ⟨a, r⟩
      · rw [hw] at h; cases h
      · rw [hw, line_cons] at h
        split at h
        · rcases r with _ | ⟨n0, _ | ⟨k0, _ | ⟨v0, vs⟩⟩⟩
          · cases h
          · cases h
          · cases h
          · rw [define_eq] at h
            split at h
            · have e : defB LS.nil n0 k0 (v0 :: vs) = some ⟨[⟨n0, k0, v0 :: vs⟩], []⟩ := rfl
              rw [e] at h
              injection h with h
              exact ⟨_, h.symm⟩
            · cases h
        · have hr : ∀ al, ruleL LS.nil 1 al r = some L0 → False := fun al h => by
            unfold ruleL at h
            split at h
            · injection h with h; subst h; exact hne rfl
            · cases h
          split at h
          · exact (hr _ h).elim
          · split at h
            · exact (hr _ h).elim
            · cases h
    · injection h with h; subst h; exact absurd rfl hne
  obtain ⟨e, rfl⟩ := key
  obtain ⟨e', he', hn⟩ := atI_get hk
  have : k = 0 := by have := atI_lt hk; simp at this; exact this
  subst this
  have : e = e' := by simpa using he'
  subst this
  exact ⟨e, rfl, hn⟩
theorem ruleL_some {L L' : LS} {no : Nat} {al : Bool} {ns : List T} (h : ruleL L no al ns = some L') : L' = ⟨L.els, L.rus ++ [⟨no, al, ns⟩]⟩ ∧ ∀ s ∈ ns, ∃ k, atI L.els (bare s) = some k := by
  unfold ruleL at h
  split at h
  · rename_i ha
    injection h with h
    exact ⟨h.symm, fun s hs => Option.isSome_iff_exists.1 (List.all_eq_true.1 ha s hs)⟩
  · cases h
/-- One line behind. -/
theorem parseF_ok {L : LS} {no : Nat} {s : T} {r : List T} (hs : said (words s) = true) (h : (parseF L no (s :: r)).2.2 = 0) : ∃ L', line L (no + 1) (words s) = some L' ∧ parseF L no (s :: r) = parseF L' (no + 1) r := by
  cases hl : line L (no + 1) (words s) with
  | none => rw [parseF_bad hs hl] at h; cases h
  | some L' => exact ⟨L', rfl, parseF_next hs hl⟩
def lines1 (ln nm : T) : List T := [ln, 100 :: 101 :: 110 :: 121 :: 32 :: nm, 97 :: 108 :: 108 :: 111 :: 119 :: 32 :: 33 :: nm, denyT]
def lines2 (ln nm : T) : List T := [ln, 100 :: 101 :: 110 :: 121 :: 32 :: (nm ++ 32 :: 33 :: nm), allowT]
theorem bare_self {nm : T} (h : nm ≠ []) (hb : bare nm = nm) : bang nm = false := by
  unfold bare at hb
  unfold bang
  split at hb
  · have := congrArg List.length hb
    have := List.length_pos_iff.2 h
    simp at *; omega
  · rename_i h2; simpa using h2
theorem not1 {ln nm : T} (hb : ∀ b ∈ nm, blk b = false) (h : nm ≠ []) (he : (parseF LS.nil 0 (lines1 ln nm)).2.2 = 0) : ∃ e, first ln = some ⟨[e], []⟩ ∧ e.nm = nm ∧ bang nm = false ∧ bare nm = nm ∧
    parseF LS.nil 0 (lines1 ln nm) = (⟨[e], [⟨2, false, [nm]⟩, ⟨3, true, [33 :: nm]⟩, ⟨4, false, []⟩]⟩, 0, 0) := by
  unfold lines1 at he ⊢
  rcases parseF_first (ln := ln) (r := [100 :: 101 :: 110 :: 121 :: 32 :: nm, 97 :: 108 :: 108 :: 111 :: 119 :: 32 :: 33 :: nm, denyT]) with ⟨L0, hf, e1⟩ | ⟨_, e1⟩
  · rw [e1] at he ⊢
    obtain ⟨La, ha, e2⟩ := parseF_ok (by rw [words_deny hb h]; rfl) he
    rw [e2] at he ⊢
    rw [words_deny hb h, line_deny (by decide) (by decide) rfl] at ha
    obtain ⟨rfl, ha2⟩ := ruleL_some ha
    obtain ⟨Lb, hc, e3⟩ := parseF_ok (by rw [words_allow hb]; rfl) he
    rw [e3] at he ⊢
    rw [words_allow hb, line_allow (by decide) rfl] at hc
    obtain ⟨rfl, hc2⟩ := ruleL_some hc
    obtain ⟨k1, hk1⟩ := ha2 nm (by simp)
    obtain ⟨k2, hk2⟩ := hc2 (33 :: nm) (by simp)
    obtain ⟨e, rfl, hn⟩ := first_els hf (s := nm) hk2
    obtain ⟨e', he', hn'⟩ := first_els hf (s := bare nm) hk1
    have : e = e' := by injection he' with h1; simpa using h1
    subst this
    have hbn : bare nm = nm := hn'.symm.trans hn
    refine ⟨e, hf, hn, bare_self h hbn, hbn, ?_⟩
    rw [parseF_next (L' := ⟨[e], [⟨2, false, [nm]⟩, ⟨3, true, [33 :: nm]⟩, ⟨4, false, []⟩]⟩) rfl rfl]
    rfl
  · rw [e1] at he; cases he
theorem not2 {ln nm : T} {e : El} (hb : ∀ b ∈ nm, blk b = false) (h : nm ≠ []) (hf : first ln = some ⟨[e], []⟩) (he : (parseF LS.nil 0 (lines2 ln nm)).2.2 = 0) :
    parseF LS.nil 0 (lines2 ln nm) = (⟨[e], [⟨2, false, [nm, 33 :: nm]⟩, ⟨3, true, []⟩]⟩, 0, 0) := by
  unfold lines2 at he ⊢
  rcases parseF_first (ln := ln) (r := [100 :: 101 :: 110 :: 121 :: 32 :: (nm ++ 32 :: 33 :: nm), allowT]) with ⟨L0, hf2, e1⟩ | ⟨_, e1⟩
  · rw [hf] at hf2
    injection hf2 with hf2
    subst hf2
    rw [e1] at he ⊢
    obtain ⟨La, ha, e2⟩ := parseF_ok (by rw [words_both hb h]; rfl) he
    rw [e2] at he ⊢
    rw [words_both hb h, line_deny (by decide) (by decide) rfl] at ha
    obtain ⟨rfl, ha2⟩ := ruleL_some ha
    rw [parseF_next (L' := ⟨[e], [⟨2, false, [nm, 33 :: nm]⟩, ⟨3, true, []⟩]⟩) rfl rfl]
    rfl
  · rw [e1] at he; cases he
theorem named_same (e : El) (rs rs' : List Ru) (n : T) (a : Ask) : named ⟨[e], rs⟩ n a = named ⟨[e], rs'⟩ n a := rfl
theorem not1_dec {e : El} {nm : T} (h1 : bang nm = false) (h2 : bare nm = nm) (a : Ask) : decide_ ⟨[e], [⟨2, false, [nm]⟩, ⟨3, true, [33 :: nm]⟩, ⟨4, false, []⟩]⟩ a = (false, 2) ∨ decide_ ⟨[e], [⟨2, false, [nm]⟩, ⟨3, true, [33 :: nm]⟩, ⟨4, false, []⟩]⟩ a = (true, 3) := by
  have r2 : ruleM ⟨[e], [⟨2, false, [nm]⟩, ⟨3, true, [33 :: nm]⟩, ⟨4, false, []⟩]⟩ ⟨2, false, [nm]⟩ a = named ⟨[e], []⟩ nm a := by
    unfold ruleM
    simp only [List.all_cons, List.all_nil, h1, h2, Bool.and_true]
    rw [named_same e _ [] nm a]
    cases named ⟨[e], []⟩ nm a <;> rfl
  have r3 : ruleM ⟨[e], [⟨2, false, [nm]⟩, ⟨3, true, [33 :: nm]⟩, ⟨4, false, []⟩]⟩ ⟨3, true, [33 :: nm]⟩ a = !named ⟨[e], []⟩ nm a := by
    unfold ruleM
    have b1 : bare (33 :: nm) = nm := rfl
    have b2 : bang (33 :: nm) = true := rfl
    simp only [List.all_cons, List.all_nil, b1, b2, Bool.and_true]
    rw [named_same e _ [] nm a]
    cases named ⟨[e], []⟩ nm a <;> rfl
  unfold decide_
  cases hn : named ⟨[e], []⟩ nm a with
  | true =>
    left
    rw [hn] at r2
    rw [List.find?_cons_of_pos (p := fun r => ruleM _ r a) r2]
  | false =>
    right
    rw [hn] at r2 r3
    rw [List.find?_cons_of_neg (p := fun r => ruleM _ r a) (by rw [r2]; decide), List.find?_cons_of_pos (p := fun r => ruleM _ r a) r3]
theorem not2_dec {e : El} {nm : T} (h1 : bang nm = false) (h2 : bare nm = nm) (a : Ask) : decide_ ⟨[e], [⟨2, false, [nm, 33 :: nm]⟩, ⟨3, true, []⟩]⟩ a = (true, 3) := by
  have r2 : ruleM ⟨[e], [⟨2, false, [nm, 33 :: nm]⟩, ⟨3, true, []⟩]⟩ ⟨2, false, [nm, 33 :: nm]⟩ a = false := by
    unfold ruleM
    have b1 : bare (33 :: nm) = nm := rfl
    have b2 : bang (33 :: nm) = true := rfl
    simp only [List.all_cons, List.all_nil, b1, b2, h1, h2, Bool.and_true]
    cases named ⟨[e], [⟨2, false, [nm, 33 :: nm]⟩, ⟨3, true, []⟩]⟩ nm a <;> rfl
  unfold decide_
  rw [List.find?_cons_of_neg (p := fun r => ruleM _ r a) (by rw [r2]; decide), List.find?_cons_of_pos (p := fun r => ruleM _ r a) rfl]
theorem parse_lines (l : List T) (h : l ≠ []) (hw : wholeL l = true) (hn : l.length ≤ 200) : parse (join l) = parseF LS.nil 0 l := by
  unfold parse parseLs
  rw [split_join l h hw, if_neg (by omega)]
theorem whole_lines1 {ln nm : T} (h : wholeL [ln, nm] = true) : wholeL (lines1 ln nm) = true ∧ wholeL (lines2 ln nm) = true := by
  have h1 : (ln.all (· != 10)) = true ∧ (nm.all (· != 10)) = true := by simpa [wholeL] using h
  constructor
  · unfold wholeL lines1
    simp only [List.all_cons, List.all_nil, h1.1, h1.2]
    rfl
  · unfold wholeL lines2
    simp only [List.all_cons, List.all_nil, List.all_append, h1.1, h1.2]
    rfl
end Ac
end Go.Proofs.YtgkphjbcaidcpaaGreatDoor
set_option linter.unusedVariables false
set_option linter.unusedSimpArgs false
namespace Go.Proofs.YtgkphjbcaidcpaaGreatDoor
open Go.RowKit

set_option maxRecDepth 100000
namespace Ac
/-- What a line does depends on the elements alone. -/
theorem line_els {L L' : LS} {no : Nat} {w : List T} (h : line L no w = some L') (M : List Ru) (no' : Nat) : ∃ rs, line ⟨L.els, M⟩ no' w = some ⟨L'.els, M ++ rs⟩ ∧ (∃ rs', L'.rus = L.rus ++ rs' ∧ ∀ r ∈ rs', r.ln = no) := by
  rcases w with _ | ⟨a, r⟩
  · cases h
  · rw [line_cons] at h ⊢
    split at h
    · rename_i h1
      rw [if_pos h1]
      rcases r with _ | ⟨n0, _ | ⟨k0, _ | ⟨v0, vs⟩⟩⟩
      · cases h
      · cases h
      · cases h
      · rw [define_eq] at h ⊢
        split at h
        · rename_i hg
          rw [if_pos hg]
          unfold defB at h ⊢
          simp only at h ⊢
          split at h
          · injection h with h
            subst h
            exact ⟨[], by simp, [], by simp, fun r hr => by cases hr⟩
          · split at h
            · split at h
              · rename_i hk
                injection h with h
                subst h
                refine ⟨[], ?_, [], by simp, fun r hr => by cases hr⟩
                rw [if_pos hk]; simp
              · cases h
            · cases h
        · cases h
    · rename_i h1
      rw [if_neg h1]
      have key : ∀ al, ruleL L no al r = some L' → ∃ rs, ruleL ⟨L.els, M⟩ no' al r = some ⟨L'.els, M ++ rs⟩ ∧ (∃ rs', L'.rus = L.rus ++ rs' ∧ ∀ r ∈ rs', r.ln = no) := fun al h => by
        obtain ⟨rfl, h2⟩ := ruleL_some h
        exact ⟨[⟨no', al, r⟩], ruleL_yes (L := ⟨L.els, M⟩) h2, [⟨no, al, r⟩], rfl, fun r hr => by rw [List.mem_singleton.1 hr]⟩
      split at h
      · rename_i h2; rw [if_pos h2]; exact key _ h
      · rename_i h2
        rw [if_neg h2]
        split at h
        · rename_i h3; rw [if_pos h3]; exact key _ h
        · cases h
/-- Well-formed lines under other rules ahead. -/
theorem parseF_more : ∀ (l : List T) (L : LS) (no : Nat) (M : List Ru) (no' : Nat), (parseF L no l).2.2 = 0 → ∃ L1 rs, parseF L no l = (L1, 0, 0) ∧ parseF ⟨L.els, M⟩ no' l = (⟨L1.els, M ++ rs⟩, 0, 0) ∧ ∃ rs', L1.rus = L.rus ++ rs' ∧ ∀ r ∈ rs', no < r.ln ∧ r.ln ≤ no + l.length
  | [], L, no, M, no', _ => ⟨L, [], rfl, by simp [parseF], [], by simp, fun r hr => by cases hr⟩
  | s :: r, L, no, M, no', h => by
    by_cases hs : said (words s) = true
    · obtain ⟨La, ha, e⟩ := parseF_ok hs h
      rw [e] at h
      obtain ⟨ra, hb, ra', hra, hra2⟩ := line_els ha M (no' + 1)
      obtain ⟨L1, rs, e1, e2, rs', e3, e4⟩ := parseF_more r La (no + 1) (M ++ ra) (no' + 1) h
      refine ⟨L1, ra ++ rs, e.trans e1, by rw [parseF_next hs hb, e2, List.append_assoc], ra' ++ rs', by rw [e3, hra, List.append_assoc], fun q hq => ?_⟩
      rcases List.mem_append.1 hq with h5 | h5
      · have := hra2 q h5; simp; omega
      · have := e4 q h5; simp; omega
    · have hs' : said (words s) = false := by simpa using hs
      rw [parseF_skip hs'] at h
      obtain ⟨L1, rs, e1, e2, rs', e3, e4⟩ := parseF_more r L (no + 1) M (no' + 1) h
      exact ⟨L1, rs, (parseF_skip hs').trans e1, (parseF_skip hs').trans e2, rs', e3, fun q hq => by have := e4 q hq; simp; omega⟩
theorem parseF_snoc : ∀ (l : List T) (L L1 : LS) (no : Nat) (s : T), parseF L no l = (L1, 0, 0) → parseF L no (l ++ [s]) = parseF L1 (no + l.length) [s]
  | [], L, L1, no, s, h => by
    have : L = L1 := by have h' : (L, 0, (0 : Int)) = (L1, 0, 0) := h; injection h'
    subst this
    rfl
  | x :: r, L, L1, no, s, h => by
    by_cases hs : said (words x) = true
    · obtain ⟨La, ha, e⟩ := parseF_ok hs (by rw [h])
      rw [e] at h
      rw [List.cons_append, parseF_next hs ha, parseF_snoc r La L1 (no + 1) s h, List.length_cons, show no + 1 + r.length = no + (r.length + 1) by omega]
    · have hs' : said (words x) = false := by simpa using hs
      rw [parseF_skip hs'] at h
      rw [List.cons_append, parseF_skip hs', parseF_snoc r L L1 (no + 1) s h, List.length_cons, show no + 1 + r.length = no + (r.length + 1) by omega]
/-- The law. -/
theorem default_ok {l : List T} {a : Ask} (he : (parseF LS.nil 0 l).2.2 = 0) :
    ((decide_ (parseF LS.nil 0 l).1 a).2 ≤ l.length) ∧ ((parseF LS.nil 0 (l ++ [allowT])).2.2 = 0) ∧ ((parseF LS.nil 0 (denyT :: l)).2.2 = 0) ∧
    (0 < (decide_ (parseF LS.nil 0 l).1 a).2 → decide_ (parseF LS.nil 0 (l ++ [allowT])).1 a = decide_ (parseF LS.nil 0 l).1 a) ∧
    ((decide_ (parseF LS.nil 0 l).1 a).2 = 0 → decide_ (parseF LS.nil 0 (l ++ [allowT])).1 a = (true, l.length + 1) ∧ decide_ (parseF LS.nil 0 (denyT :: l)).1 a = (false, 1)) := by
  obtain ⟨L1, rs, e1, e2, rs', e3, e4⟩ := parseF_more l LS.nil 0 [⟨1, false, []⟩] 1 he
  have e5 : parseF LS.nil 0 (denyT :: l) = (⟨L1.els, [⟨1, false, []⟩] ++ rs⟩, 0, 0) := by
    rw [parseF_next (L' := ⟨[], [⟨1, false, []⟩]⟩) rfl rfl]
    exact e2
  have e6 : parseF LS.nil 0 (l ++ [allowT]) = (⟨L1.els, L1.rus ++ [⟨l.length + 1, true, []⟩]⟩, 0, 0) := by
    rw [parseF_snoc l LS.nil L1 0 allowT e1, Nat.zero_add]
    rw [parseF_next (L' := ⟨L1.els, L1.rus ++ [⟨l.length + 1, true, []⟩]⟩) rfl rfl]
    rfl
  have e3' : L1.rus = rs' := by simpa [LS.nil] using e3
  rw [e1, e5, e6]
  have hm : ∀ (r : Ru), ruleM ⟨L1.els, L1.rus ++ [⟨l.length + 1, true, []⟩]⟩ r a = ruleM L1 r a := fun r => rfl
  simp only
  refine ⟨?_, trivial, trivial, fun h => ?_, fun h => ⟨?_, rfl⟩⟩
  · unfold decide_
    cases hf : L1.rus.find? (fun r => ruleM L1 r a) with
    | none => simp
    | some r =>
      have := e4 r (by rw [← e3']; exact List.mem_of_find?_eq_some hf)
      simp only; omega
  · unfold decide_ at h ⊢
    simp only [hm]
    rw [List.find?_append]
    cases hf : L1.rus.find? (fun r => ruleM L1 r a) with
    | none => rw [hf] at h; simp at h
    | some r => rfl
  · unfold decide_ at h ⊢
    simp only [hm]
    rw [List.find?_append]
    cases hf : L1.rus.find? (fun r => ruleM L1 r a) with
    | none => rfl
    | some r =>
      rw [hf] at h
      have := e4 r (by rw [← e3']; exact List.mem_of_find?_eq_some hf)
      simp only at h
      omega
end Ac
end Go.Proofs.YtgkphjbcaidcpaaGreatDoor
set_option linter.unusedVariables false
set_option linter.unusedSimpArgs false
namespace Go.Proofs.YtgkphjbcaidcpaaGreatDoor
open Go.RowKit

set_option maxHeartbeats 400000 in
theorem copyTexts_own (A : Option Addr) (n c : Nat) (l : List (List UInt8)) (w : World) (hl : RdS w A n l) (hn : n ≤ 4194304) :
    Calls Tryz.prog 14 #[.slice A n c] w fun e w' => ∃ A' n' c', e = .returned (.slice A' n' c') ∧ OwnS w' w.heap.size (.slice A' n' c') l ∧ Below w.heap.size w w' := by
  go_enter Tryz.func14, Tryz.ntmps14
  go_wp2_with
    (at_builtin
     refine wp_appS rfl (.tmp 5) (.tmp 6) rfl w.heap.size (.slice (some ⟨w.heap.size, 0, none⟩) 0 0) [] rfl (OwnS.made w) A n c l rfl ?hr ?hby ?hbase ?_
     case hr => exact hl.step (alloc_below _ _)
     case hby => simp; omega
     case hbase => simp
     intro A1 n1 c1 w1 hown1 hb1 hn1)
  go_ret
  exact ⟨A1, n1, c1, rfl, hown1, (alloc_below _ _).trans hb1⟩
end Go.Proofs.YtgkphjbcaidcpaaGreatDoor
namespace Go.Proofs.YtgkphjbcaidcpaaGreatDoor.bulks

theorem one_le {H : Type} (d : DataW H) : 1 ≤ Rows.uptoBulk d := by
  cases d with
  | lit l => cases l <;> simp [Rows.uptoBulk]
  | nil => simp [Rows.uptoBulk]
  | ptr d => simp [Rows.uptoBulk]
  | slice elems spare => simp [Rows.uptoBulk]
  | agg parts => simp [Rows.uptoBulk]
  | iface t d => simp [Rows.uptoBulk]
  | map entries => simp [Rows.uptoBulk]
  | held h => simp [Rows.uptoBulk]

/-- a part's bulk is at most the whole's -/
theorem part_le {H : Type} {d : DataW H} {l : List (DataW H)} (h : d ∈ l) : Rows.uptoBulk d ≤ Rows.uptoBulkAll l := by
  induction l with
  | nil => cases h
  | cons x r ih =>
    simp only [Rows.uptoBulkAll]
    cases List.mem_cons.1 h with
    | inl e => subst e; omega
    | inr e => have := ih e; omega

theorem append {H : Type} (l r : List (DataW H)) : Rows.uptoBulkAll (l ++ r) = Rows.uptoBulkAll l + Rows.uptoBulkAll r := by
  induction l with
  | nil => simp [Rows.uptoBulkAll]
  | cons x l ih => simp only [List.cons_append, Rows.uptoBulkAll, ih]; omega

/-- so many values at the most -/
theorem length_le {H : Type} (l : List (DataW H)) : l.length ≤ Rows.uptoBulkAll l := by
  induction l with
  | nil => simp [Rows.uptoBulkAll]
  | cons x r ih => have := one_le x; simp only [Rows.uptoBulkAll, List.length_cons]; omega

/-- a slice's places, and what they hold -/
theorem slice_le {H : Type} (elems spare : List (DataW H)) : elems.length + spare.length + 1 ≤ Rows.uptoBulk (.slice elems spare) := by
  have h1 := length_le elems
  have h2 := length_le spare
  simp only [Rows.uptoBulk]
  omega
theorem slice_elems {H : Type} (elems spare : List (DataW H)) : Rows.uptoBulkAll elems + 1 ≤ Rows.uptoBulk (.slice elems spare) := by
  simp only [Rows.uptoBulk]
  omega

/-- a string's letters -/
theorem string_eq {H : Type} (bytes : List UInt8) : Rows.uptoBulk (DataW.lit (H := H) (.string bytes)) = bytes.length + 1 := by
  simp [Rows.uptoBulk]

/-- THE BOUND, as the builder hands it over ('hk') -/
theorem bound {H : Type} {l : List (DataW H)} (hk : Rows.uptoSmall H l = true) : Rows.uptoBulkAll l ≤ 1048576 := by
  simpa [Rows.uptoSmall] using hk

/-- ROOM: a slice of n elements of b bytes, grown by append: below the 2^48 bytes that append, make and a Builder bear. Here n up to 2^21, b up to 4,096: put your own numbers. -/
theorem room {n b : Nat} (hn : n ≤ 2097152) (hb : b ≤ 4096) : (n + n / 4 + 192) * b ≤ 281474976710656 := by
  have h : (n + n / 4 + 192) * b ≤ 2621632 * 4096 := Nat.mul_le_mul (by omega) hb
  omega

end Go.Proofs.YtgkphjbcaidcpaaGreatDoor.bulks
set_option linter.unusedVariables false
namespace Go.Proofs.YtgkphjbcaidcpaaGreatDoor
open Go.RowKit Go.WideShapes Go.ChangeShapes

section
variable {H : Type} {enc : TypeId × Value → H} {P : Program}
theorem post_of_below {f : Func} {s : ChangeSpec} {apart fresh handsOn again : Bool} {W W' : World} {args : Array Value} {v : Value} {ds gs : List (DataW H)} {before pa pv : List MemPlace}
    (hW : DataW.Whole enc P f.params.toList s.vars apart W args.toList ds gs before)
    (hres : ∀ (b : Nat) (sp : Nat → Bool) (hd : Bool), DataW.TrodAll enc P W' b sp hd f.resultTypes.toList (v.resultList f.resultTypes.size) (s.fn H (ds ++ gs)).results [])
    (hargs : ∀ sp : Nat → Bool, (∀ p ∈ before, sp p.block = true) → DataW.TrodAll enc P W' 0 sp true f.params.toList args.toList (s.fn H (ds ++ gs)).args pa)
    (hvars : ∀ sp : Nat → Bool, (∀ p ∈ before, sp p.block = true) → DataW.TrodVars enc P W' sp s.vars (s.fn H (ds ++ gs)).vars pv)
    (hps : before = pa ++ pv) (hb : Below W.heap.size W W')
    (hok : ∀ (j : Nat) (t : TypeId) (r : Value), f.resultTypes[j]? = some t → (v.resultList f.resultTypes.size)[j]? = some r → Value.okWide P W' .any 0 t r) :
    s.post enc P f apart fresh handsOn again W args v W' := by
  have hlt : ∀ p ∈ before, p.block < W.heap.size := fun p hp => hW.lt p hp
  have hold : ∀ p ∈ before, (fun b => decide (b < W.heap.size)) p.block = true := fun p hp => by simpa using hlt p hp
  refine ⟨ds, gs, before, [], pa, pv, hW, hres _ _ _, hargs _ hold, hvars _ hold, World.keptBut_mono (fun p hp => ⟨hp, ?_⟩) (hb.frame (· ∈ before)), fun _ => ?_⟩
  · rw [hps, List.mem_append] at hp
    exact Or.inr hp
  · obtain ⟨_, _, _, _, _, hz, hn⟩ := hW
    refine ⟨hok, _, _, ([] ++ pa) ++ pv, ⟨[] ++ pa, pv, trodAll_append (hargs _ (fun _ _ => rfl)) (hres _ _ _), hvars _ (fun _ _ => rfl), rfl, ?_, ?_⟩, ?_⟩
    · intro b off hp
      have hin : MemPlace.cell b off ∈ before := by rw [hps]; simpa using hp
      rw [hb.frozen (hlt _ hin)]
      exact hz b off hin
    · intro ha
      have := hn ha
      rw [hps] at this
      simpa using this
    · intro p hp _
      rw [hps]
      simpa using hp
end

end Go.Proofs.YtgkphjbcaidcpaaGreatDoor
