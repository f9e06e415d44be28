/- Joined texts: AclNot: the plain law; FOR A PROOF OF AN '..UptoSaid': WHAT THE BOUND GIVES. Copy it as <Name>Bulk.lean (put your seat's Name for YtgkphjbcaidcpaaGreatDoor, the bound of 'uptoSmall' for 1048576), name it in GOCLAIM.json's 'order' behind <Name>Rows. By an AI agent, Sun Nov 15 2026; Small lemmas for the last step of a row: what a call left is known below the old heap alone ('Below'). Lines of the guide's worked small lemmas turned to this claim; no conditions of ours; The laws' arguments opened: texts, fields. From the form's reading to 'bs', 'RdF'; no conditions but the bound of the second form; An ask as an argument. The conditions stand in each line. -/
import Derived.Test.YtgkphjbcaidcpaaGreatDoorRows
import Derived.Test.YtgkphjbcaidcpaaGreatDoorM2
import Derived.Test.YtgkphjbcaidcpaaGreatDoorM9
import Derived.Test.YtgkphjbcaidcpaaGreatDoorM23
import Derived.Below
import Derived.ChangeSame
import Derived.Deep.SlicePairs
import Derived.ProofKit
import Derived.OpenShut
import Derived.SizedLaws
import Derived.JoinedCond
set_option linter.unusedVariables false
set_option linter.unusedSimpArgs false
namespace Go.Proofs.YtgkphjbcaidcpaaGreatDoor
open Go.RowKit

set_option maxRecDepth 100000
namespace Ac
theorem wordsA_end {nm : T} (hb : ∀ b ∈ nm, blk b = false) (acc : T) (h : acc ++ nm ≠ []) : wordsA acc nm = [acc ++ nm] := by
  have e := wordsA_skip nm hb acc []
  rw [List.append_nil] at e
  rw [e]; unfold wordsA; rw [if_neg h]
theorem words_deny {nm : T} (hb : ∀ b ∈ nm, blk b = false) (h : nm ≠ []) : words (100 :: 101 :: 110 :: 121 :: 32 :: nm) = [denyT, nm] := by
  have e : words (100 :: 101 :: 110 :: 121 :: 32 :: nm) = denyT :: wordsA [] nm := rfl
  rw [e, wordsA_end hb [] h]; rfl
theorem words_allow {nm : T} (hb : ∀ b ∈ nm, blk b = false) : words (97 :: 108 :: 108 :: 111 :: 119 :: 32 :: 33 :: nm) = [allowT, 33 :: nm] := by
  have e : words (97 :: 108 :: 108 :: 111 :: 119 :: 32 :: 33 :: nm) = allowT :: wordsA [33] nm := rfl
  rw [e, wordsA_end hb [33] (by simp)]; rfl
theorem words_both {nm : T} (hb : ∀ b ∈ nm, blk b = false) (h : nm ≠ []) : words (100 :: 101 :: 110 :: 121 :: 32 :: (nm ++ 32 :: 33 :: nm)) = [denyT, nm, 33 :: nm] := by
  have e : words (100 :: 101 :: 110 :: 121 :: 32 :: (nm ++ 32 :: 33 :: nm)) = denyT :: wordsA [] (nm ++ 32 :: 33 :: nm) := rfl
  have e2 : wordsA nm (32 :: 33 :: nm) = nm :: wordsA [33] nm := by
    conv => lhs; unfold wordsA
    rw [if_pos (by decide), if_neg h]
    rfl
  rw [e, wordsA_skip nm hb [] _, List.nil_append, e2, wordsA_end hb [33] (by simp)]; rfl
/-- The first line, as it is kept. -/
def first (ln : T) : Option LS := if said (words ln) = true then line LS.nil 1 (words ln) else some LS.nil
theorem parseF_first {ln : T} {r : List T} : (∃ L0, first ln = some L0 ∧ parseF LS.nil 0 (ln :: r) = parseF L0 1 r) ∨ (first ln = none ∧ parseF LS.nil 0 (ln :: r) = (LS.nil, 1, 210)) := by
  unfold first
  by_cases hs : said (words ln) = true
  · rw [if_pos hs]
    cases hl : line LS.nil 1 (words ln) with
    | none => exact .inr ⟨rfl, parseF_bad hs hl⟩
    | some L0 => exact .inl ⟨L0, rfl, parseF_next hs hl⟩
  · rw [if_neg hs]
    exact .inl ⟨LS.nil, rfl, parseF_skip (by simpa using hs)⟩
theorem first_els {ln : T} {L0 : LS} (h : first ln = some L0) {s : T} {k : Nat} (hk : atI L0.els s = some k) : ∃ e, L0 = ⟨[e], []⟩ ∧ e.nm = s := by
  have hne : L0.els ≠ [] := fun e => by rw [e] at hk; cases hk
  have key : ∃ e, L0 = ⟨[e], []⟩ := by
    unfold first at h
    split at h
    · rcases hw : words ln with _ | ⟨a, r⟩
      · rw [hw] at h; cases h
      · rw [hw, line_cons] at h
        split at h
        · rcases r with _ | ⟨n0, _ | ⟨k0, _ | ⟨v0, vs⟩⟩⟩
          · cases h
          · cases h
          · cases h
          · rw [define_eq] at h
            split at h
            · have e : defB LS.nil n0 k0 (v0 :: vs) = some ⟨[⟨n0, k0, v0 :: vs⟩], []⟩ := rfl
              rw [e] at h
              injection h with h
              exact ⟨_, h.symm⟩
            · cases h
        · have hr : ∀ al, ruleL LS.nil 1 al r = some L0 → False := fun al h => by
            unfold ruleL at h
            split at h
            · injection h with h; subst h; exact hne rfl
            · cases h
          split at h
          · exact (hr _ h).elim
          · split at h
            · exact (hr _ h).elim
            · cases h
    · injection h with h; subst h; exact absurd rfl hne
  obtain ⟨e, rfl⟩ := key
  obtain ⟨e', he', hn⟩ := atI_get hk
  have : k = 0 := by have := atI_lt hk; simp at this; exact this
  subst this
  have : e = e' := by simpa using he'
  subst this
  exact ⟨e, rfl, hn⟩
theorem ruleL_some {L L' : LS} {no : Nat} {al : Bool} {ns : List T} (h : ruleL L no al ns = some L') : L' = ⟨L.els, L.rus ++ [⟨no, al, ns⟩]⟩ ∧ ∀ s ∈ ns, ∃ k, atI L.els (bare s) = some k := by
  unfold ruleL at h
  split at h
  · rename_i ha
    injection h with h
    exact ⟨h.symm, fun s hs => Option.isSome_iff_exists.1 (List.all_eq_true.1 ha s hs)⟩
  · cases h
/-- One line behind. -/
theorem parseF_ok {L : LS} {no : Nat} {s : T} {r : List T} (hs : said (words s) = true) (h : (parseF L no (s :: r)).2.2 = 0) : ∃ L', line L (no + 1) (words s) = some L' ∧ parseF L no (s :: r) = parseF L' (no + 1) r := by
  cases hl : line L (no + 1) (words s) with
  | none => rw [parseF_bad hs hl] at h; cases h
  | some L' => exact ⟨L', rfl, parseF_next hs hl⟩
def lines1 (ln nm : T) : List T := [ln, 100 :: 101 :: 110 :: 121 :: 32 :: nm, 97 :: 108 :: 108 :: 111 :: 119 :: 32 :: 33 :: nm, denyT]
def lines2 (ln nm : T) : List T := [ln, 100 :: 101 :: 110 :: 121 :: 32 :: (nm ++ 32 :: 33 :: nm), allowT]
theorem bare_self {nm : T} (h : nm ≠ []) (hb : bare nm = nm) : bang nm = false := by
  unfold bare at hb
  unfold bang
  split at hb
  · have := congrArg List.length hb
    have := List.length_pos_iff.2 h
    simp at *; omega
  · rename_i h2; simpa using h2
theorem not1 {ln nm : T} (hb : ∀ b ∈ nm, blk b = false) (h : nm ≠ []) (he : (parseF LS.nil 0 (lines1 ln nm)).2.2 = 0) : ∃ e, first ln = some ⟨[e], []⟩ ∧ e.nm = nm ∧ bang nm = false ∧ bare nm = nm ∧
    parseF LS.nil 0 (lines1 ln nm) = (⟨[e], [⟨2, false, [nm]⟩, ⟨3, true, [33 :: nm]⟩, ⟨4, false, []⟩]⟩, 0, 0) := by
  unfold lines1 at he ⊢
  rcases parseF_first (ln := ln) (r := [100 :: 101 :: 110 :: 121 :: 32 :: nm, 97 :: 108 :: 108 :: 111 :: 119 :: 32 :: 33 :: nm, denyT]) with ⟨L0, hf, e1⟩ | ⟨_, e1⟩
  · rw [e1] at he ⊢
    obtain ⟨La, ha, e2⟩ := parseF_ok (by rw [words_deny hb h]; rfl) he
    rw [e2] at he ⊢
    rw [words_deny hb h, line_deny (by decide) (by decide) rfl] at ha
    obtain ⟨rfl, ha2⟩ := ruleL_some ha
    obtain ⟨Lb, hc, e3⟩ := parseF_ok (by rw [words_allow hb]; rfl) he
    rw [e3] at he ⊢
    rw [words_allow hb, line_allow (by decide) rfl] at hc
    obtain ⟨rfl, hc2⟩ := ruleL_some hc
    obtain ⟨k1, hk1⟩ := ha2 nm (by simp)
    obtain ⟨k2, hk2⟩ := hc2 (33 :: nm) (by simp)
    obtain ⟨e, rfl, hn⟩ := first_els hf (s := nm) hk2
    obtain ⟨e', he', hn'⟩ := first_els hf (s := bare nm) hk1
    have : e = e' := by injection he' with h1; simpa using h1
    subst this
    have hbn : bare nm = nm := hn'.symm.trans hn
    refine ⟨e, hf, hn, bare_self h hbn, hbn, ?_⟩
    rw [parseF_next (L' := ⟨[e], [⟨2, false, [nm]⟩, ⟨3, true, [33 :: nm]⟩, ⟨4, false, []⟩]⟩) rfl rfl]
    rfl
  · rw [e1] at he; cases he
theorem not2 {ln nm : T} {e : El} (hb : ∀ b ∈ nm, blk b = false) (h : nm ≠ []) (hf : first ln = some ⟨[e], []⟩) (he : (parseF LS.nil 0 (lines2 ln nm)).2.2 = 0) :
    parseF LS.nil 0 (lines2 ln nm) = (⟨[e], [⟨2, false, [nm, 33 :: nm]⟩, ⟨3, true, []⟩]⟩, 0, 0) := by
  unfold lines2 at he ⊢
  rcases parseF_first (ln := ln) (r := [100 :: 101 :: 110 :: 121 :: 32 :: (nm ++ 32 :: 33 :: nm), allowT]) with ⟨L0, hf2, e1⟩ | ⟨_, e1⟩
  · rw [hf] at hf2
    injection hf2 with hf2
    subst hf2
    rw [e1] at he ⊢
    obtain ⟨La, ha, e2⟩ := parseF_ok (by rw [words_both hb h]; rfl) he
    rw [e2] at he ⊢
    rw [words_both hb h, line_deny (by decide) (by decide) rfl] at ha
    obtain ⟨rfl, ha2⟩ := ruleL_some ha
    rw [parseF_next (L' := ⟨[e], [⟨2, false, [nm, 33 :: nm]⟩, ⟨3, true, []⟩]⟩) rfl rfl]
    rfl
  · rw [e1] at he; cases he
theorem named_same (e : El) (rs rs' : List Ru) (n : T) (a : Ask) : named ⟨[e], rs⟩ n a = named ⟨[e], rs'⟩ n a := rfl
theorem not1_dec {e : El} {nm : T} (h1 : bang nm = false) (h2 : bare nm = nm) (a : Ask) : decide_ ⟨[e], [⟨2, false, [nm]⟩, ⟨3, true, [33 :: nm]⟩, ⟨4, false, []⟩]⟩ a = (false, 2) ∨ decide_ ⟨[e], [⟨2, false, [nm]⟩, ⟨3, true, [33 :: nm]⟩, ⟨4, false, []⟩]⟩ a = (true, 3) := by
  have r2 : ruleM ⟨[e], [⟨2, false, [nm]⟩, ⟨3, true, [33 :: nm]⟩, ⟨4, false, []⟩]⟩ ⟨2, false, [nm]⟩ a = named ⟨[e], []⟩ nm a := by
    unfold ruleM
    simp only [List.all_cons, List.all_nil, h1, h2, Bool.and_true]
    rw [named_same e _ [] nm a]
    cases named ⟨[e], []⟩ nm a <;> rfl
  have r3 : ruleM ⟨[e], [⟨2, false, [nm]⟩, ⟨3, true, [33 :: nm]⟩, ⟨4, false, []⟩]⟩ ⟨3, true, [33 :: nm]⟩ a = !named ⟨[e], []⟩ nm a := by
    unfold ruleM
    have b1 : bare (33 :: nm) = nm := rfl
    have b2 : bang (33 :: nm) = true := rfl
    simp only [List.all_cons, List.all_nil, b1, b2, Bool.and_true]
    rw [named_same e _ [] nm a]
    cases named ⟨[e], []⟩ nm a <;> rfl
  unfold decide_
  cases hn : named ⟨[e], []⟩ nm a with
  | true =>
    left
    rw [hn] at r2
    rw [List.find?_cons_of_pos (p := fun r => ruleM _ r a) r2]
  | false =>
    right
    rw [hn] at r2 r3
    rw [List.find?_cons_of_neg (p := fun r => ruleM _ r a) (by rw [r2]; decide), List.find?_cons_of_pos (p := fun r => ruleM _ r a) r3]
theorem not2_dec {e : El} {nm : T} (h1 : bang nm = false) (h2 : bare nm = nm) (a : Ask) : decide_ ⟨[e], [⟨2, false, [nm, 33 :: nm]⟩, ⟨3, true, []⟩]⟩ a = (true, 3) := by
  have r2 : ruleM ⟨[e], [⟨2, false, [nm, 33 :: nm]⟩, ⟨3, true, []⟩]⟩ ⟨2, false, [nm, 33 :: nm]⟩ a = false := by
    unfold ruleM
    have b1 : bare (33 :: nm) = nm := rfl
    have b2 : bang (33 :: nm) = true := rfl
    simp only [List.all_cons, List.all_nil, b1, b2, h1, h2, Bool.and_true]
    cases named ⟨[e], [⟨2, false, [nm, 33 :: nm]⟩, ⟨3, true, []⟩]⟩ nm a <;> rfl
  unfold decide_
  rw [List.find?_cons_of_neg (p := fun r => ruleM _ r a) (by rw [r2]; decide), List.find?_cons_of_pos (p := fun r => ruleM _ r a) rfl]
theorem parse_lines (l : List T) (h : l ≠ []) (hw : wholeL l = true) (hn : l.length ≤ 200) : parse (join l) = parseF LS.nil 0 l := by
  unfold parse parseLs
  rw [split_join l h hw, if_neg (by omega)]
theorem whole_lines1 {ln nm : T} (h : wholeL [ln, nm] = true) : wholeL (lines1 ln nm) = true ∧ wholeL (lines2 ln nm) = true := by
  have h1 : (ln.all (· != 10)) = true ∧ (nm.all (· != 10)) = true := by simpa [wholeL] using h
  constructor
  · unfold wholeL lines1
    simp only [List.all_cons, List.all_nil, h1.1, h1.2]
    rfl
  · unfold wholeL lines2
    simp only [List.all_cons, List.all_nil, List.all_append, h1.1, h1.2]
    rfl
end Ac
end Go.Proofs.YtgkphjbcaidcpaaGreatDoor
namespace Go.Proofs.YtgkphjbcaidcpaaGreatDoor.bulks

theorem one_le {H : Type} (d : DataW H) : 1 ≤ Rows.uptoBulk d := by
  cases d with
  | lit l => cases l <;> simp [Rows.uptoBulk]
  | nil => simp [Rows.uptoBulk]
  | ptr d => simp [Rows.uptoBulk]
  | slice elems spare => simp [Rows.uptoBulk]
  | agg parts => simp [Rows.uptoBulk]
  | iface t d => simp [Rows.uptoBulk]
  | map entries => simp [Rows.uptoBulk]
  | held h => simp [Rows.uptoBulk]

/-- a part's bulk is at most the whole's -/
theorem part_le {H : Type} {d : DataW H} {l : List (DataW H)} (h : d ∈ l) : Rows.uptoBulk d ≤ Rows.uptoBulkAll l := by
  induction l with
  | nil => cases h
  | cons x r ih =>
    simp only [Rows.uptoBulkAll]
    cases List.mem_cons.1 h with
    | inl e => subst e; omega
    | inr e => have := ih e; omega

theorem append {H : Type} (l r : List (DataW H)) : Rows.uptoBulkAll (l ++ r) = Rows.uptoBulkAll l + Rows.uptoBulkAll r := by
  induction l with
  | nil => simp [Rows.uptoBulkAll]
  | cons x l ih => simp only [List.cons_append, Rows.uptoBulkAll, ih]; omega

/-- so many values at the most -/
theorem length_le {H : Type} (l : List (DataW H)) : l.length ≤ Rows.uptoBulkAll l := by
  induction l with
  | nil => simp [Rows.uptoBulkAll]
  | cons x r ih => have := one_le x; simp only [Rows.uptoBulkAll, List.length_cons]; omega

/-- a slice's places, and what they hold -/
theorem slice_le {H : Type} (elems spare : List (DataW H)) : elems.length + spare.length + 1 ≤ Rows.uptoBulk (.slice elems spare) := by
  have h1 := length_le elems
  have h2 := length_le spare
  simp only [Rows.uptoBulk]
  omega
theorem slice_elems {H : Type} (elems spare : List (DataW H)) : Rows.uptoBulkAll elems + 1 ≤ Rows.uptoBulk (.slice elems spare) := by
  simp only [Rows.uptoBulk]
  omega

/-- a string's letters -/
theorem string_eq {H : Type} (bytes : List UInt8) : Rows.uptoBulk (DataW.lit (H := H) (.string bytes)) = bytes.length + 1 := by
  simp [Rows.uptoBulk]

/-- THE BOUND, as the builder hands it over ('hk') -/
theorem bound {H : Type} {l : List (DataW H)} (hk : Rows.uptoSmall H l = true) : Rows.uptoBulkAll l ≤ 1048576 := by
  simpa [Rows.uptoSmall] using hk

/-- ROOM: a slice of n elements of b bytes, grown by append: below the 2^48 bytes that append, make and a Builder bear. Here n up to 2^21, b up to 4,096: put your own numbers. -/
theorem room {n b : Nat} (hn : n ≤ 2097152) (hb : b ≤ 4096) : (n + n / 4 + 192) * b ≤ 281474976710656 := by
  have h : (n + n / 4 + 192) * b ≤ 2621632 * 4096 := Nat.mul_le_mul (by omega) hb
  omega

end Go.Proofs.YtgkphjbcaidcpaaGreatDoor.bulks
set_option linter.unusedVariables false
namespace Go.Proofs.YtgkphjbcaidcpaaGreatDoor
open Go.RowKit Go.WideShapes Go.ChangeShapes

section
variable {H : Type} {enc : TypeId × Value → H} {P : Program}
theorem post_of_below {f : Func} {s : ChangeSpec} {apart fresh handsOn again : Bool} {W W' : World} {args : Array Value} {v : Value} {ds gs : List (DataW H)} {before pa pv : List MemPlace}
    (hW : DataW.Whole enc P f.params.toList s.vars apart W args.toList ds gs before)
    (hres : ∀ (b : Nat) (sp : Nat → Bool) (hd : Bool), DataW.TrodAll enc P W' b sp hd f.resultTypes.toList (v.resultList f.resultTypes.size) (s.fn H (ds ++ gs)).results [])
    (hargs : ∀ sp : Nat → Bool, (∀ p ∈ before, sp p.block = true) → DataW.TrodAll enc P W' 0 sp true f.params.toList args.toList (s.fn H (ds ++ gs)).args pa)
    (hvars : ∀ sp : Nat → Bool, (∀ p ∈ before, sp p.block = true) → DataW.TrodVars enc P W' sp s.vars (s.fn H (ds ++ gs)).vars pv)
    (hps : before = pa ++ pv) (hb : Below W.heap.size W W')
    (hok : ∀ (j : Nat) (t : TypeId) (r : Value), f.resultTypes[j]? = some t → (v.resultList f.resultTypes.size)[j]? = some r → Value.okWide P W' .any 0 t r) :
    s.post enc P f apart fresh handsOn again W args v W' := by
  have hlt : ∀ p ∈ before, p.block < W.heap.size := fun p hp => hW.lt p hp
  have hold : ∀ p ∈ before, (fun b => decide (b < W.heap.size)) p.block = true := fun p hp => by simpa using hlt p hp
  refine ⟨ds, gs, before, [], pa, pv, hW, hres _ _ _, hargs _ hold, hvars _ hold, World.keptBut_mono (fun p hp => ⟨hp, ?_⟩) (hb.frame (· ∈ before)), fun _ => ?_⟩
  · rw [hps, List.mem_append] at hp
    exact Or.inr hp
  · obtain ⟨_, _, _, _, _, hz, hn⟩ := hW
    refine ⟨hok, _, _, ([] ++ pa) ++ pv, ⟨[] ++ pa, pv, trodAll_append (hargs _ (fun _ _ => rfl)) (hres _ _ _), hvars _ (fun _ _ => rfl), rfl, ?_, ?_⟩, ?_⟩
    · intro b off hp
      have hin : MemPlace.cell b off ∈ before := by rw [hps]; simpa using hp
      rw [hb.frozen (hlt _ hin)]
      exact hz b off hin
    · intro ha
      have := hn ha
      rw [hps] at this
      simpa using this
    · intro p hp _
      rw [hps]
      simpa using hp
end

end Go.Proofs.YtgkphjbcaidcpaaGreatDoor
set_option linter.unusedVariables false
set_option linter.unusedSimpArgs false
set_option maxRecDepth 100000
namespace Go.Proofs.YtgkphjbcaidcpaaGreatDoor
open Go.ChangeShapes Go.WideShapes Go.ChangeAt Go.RowKit Go.Deep

/-- An argument reads as it did where below the old heap all stands. -/
theorem arg_stays {H : Type} {enc : TypeId × Value → H} {P : Program} {t : TypeId} (hl : laidOutB P = true) (hr : P.readableRec t = true) (hrow : t < P.types.size) {W W' : World} {v : Value} {d : DataW H} {ps : List MemPlace}
    (h : DataW.Trod enc P W 0 (fun _ => true) true t v d ps) (hb : Below W.heap.size W W') (hlt : ∀ x ∈ ps, x.block < W.heap.size) (sp : Nat → Bool) (hsp : ∀ x ∈ ps, sp x.block = true) :
    DataW.Trod enc P W' 0 sp true t v d ps :=
  WideElems.Trod_stays hl hr hrow h (fun x hx => hb.same (hlt x hx)) hsp
theorem laidOut : laidOutB Tryz.prog = true := by kernel_rfl

theorem str_of_trod {H : Type} {enc : TypeId × Value → H} {W : World} {base : Nat} {sp : Nat → Bool} {n : Nat} {v : Value} {d : DataW H} {ps : List MemPlace}
    (h : DataW.trod enc Tryz.prog W base sp true n 9 [v] = some (d, ps)) : ∃ l : List UInt8, v = .string (bs l) ∧ d = .lit (.string l) := by
  obtain ⟨s, e1, e2⟩ := DataW.trod_string Tryz.underlying9 h
  simp at e1 e2
  obtain ⟨⟨rfl, _⟩, _⟩ := e2
  exact ⟨s.data.toList, e1, rfl⟩
/-- A text as an argument. -/
theorem opS {H : Type} {enc : TypeId × Value → H} {W : World} {base : Nat} {v : Value} {d : DataW H} {ps : List MemPlace} (hv : Value.okWide Tryz.prog W .any base 9 v)
    (h : DataW.Trod enc Tryz.prog W 0 (fun _ => true) true 9 v d ps) : ∃ l : List UInt8, v = .string (bs l) ∧ d = .lit (.string l) := by
  obtain ⟨s, rfl, rfl, _, _⟩ := Go.ChangeMaps.open_string Tryz.underlying9 hv h
  exact ⟨s.data.toList, rfl, rfl⟩
/-- A number as an argument. -/
theorem opI {H : Type} {enc : TypeId × Value → H} {W : World} {base : Nat} {v : Value} {d : DataW H} {ps : List MemPlace} (hv : Value.okWide Tryz.prog W .any base 3 v)
    (h : DataW.Trod enc Tryz.prog W 0 (fun _ => true) true 3 v d ps) : ∃ n : Int, v = .int .i64 n ∧ -9223372036854775808 ≤ n ∧ n ≤ 9223372036854775807 := by
  obtain ⟨n, rfl, _, _, wf⟩ := open_int Tryz.underlying3 hv h
  refine ⟨n, rfl, ?_⟩
  simpa [Lit.wf, IntKind.min, IntKind.max, IntKind.signed, IntKind.bits] using wf
theorem spot_of_cell {w : World} {a : Addr} {v : Value} (h : w.cell? a = some v) : a.spot = none := by
  unfold World.cell? at h
  split at h
  · split at h
    · cases h
    · rename_i h'; simpa using h'
  · cases h
end Go.Proofs.YtgkphjbcaidcpaaGreatDoor
set_option linter.unusedVariables false
set_option linter.unusedSimpArgs false
namespace Go.Proofs.YtgkphjbcaidcpaaGreatDoor
open Go.RowKit

set_option maxRecDepth 100000
open Go.ChangeShapes Go.WideShapes Go.ChangeAt Go.RowKit Go.Deep
/-- A struct by value, opened: each field's cells with their reading. -/
theorem open_aggN {H : Type} {enc : TypeId × Value → H} {P : Program} {W : World} {base b0 : Nat} {sp : Nat → Bool} {held : Bool} {r : Reach} {t : TypeId} {fs : Array Field} {v : Value} {d : DataW H} {p : List MemPlace} (hs : P.underlying t = some (.struct fs))
    (hv : Value.okWide P W r b0 t v) (h : DataW.Trod enc P W base sp held t v d p) :
    ∃ (vs : Array Value) (ys : List (DataW H × List MemPlace)) (n : Nat), v = .agg vs ∧ vs.size = P.cellsOf t ∧ d = .agg (ys.map (·.1)) ∧ ys.length = fs.size ∧
      ∀ (i : Nat) (f : Field), fs[i]? = some f → ∃ y, ys[i]? = some y ∧ DataW.trod enc P W base sp held n f.type ((vs.toList.drop f.offset).take (P.cellsOf f.type)) = some y := by
  obtain ⟨cs, rfl, hsz⟩ := okWide_struct hs hv
  obtain ⟨fuel, hf⟩ := h
  obtain ⟨xs, n, _, hx, _, hlen, hall⟩ := DataW.trod_struct hs hf
  simp only [Prod.mk.injEq] at hx
  refine ⟨cs, xs, n, rfl, hsz, hx.1, hlen, fun i f hi => ?_⟩
  have hlt : i < xs.length := by rw [hlen]; exact (Array.getElem?_eq_some_iff.1 hi).1
  refine ⟨xs[i], List.getElem?_eq_getElem hlt, ?_⟩
  rw [← List.getElem?_eq_getElem hlt]
  simpa [Value.cells] using hall i f hi
theorem fields_of {fs : Array Field} {k : List (TypeId × Nat)} (h : fs.toList.map (fun f => (f.type, f.offset)) = k) {i : Nat} {t : TypeId} {o : Nat} (hk : k[i]? = some (t, o)) : ∃ f, fs[i]? = some f ∧ f.type = t ∧ f.offset = o := by
  subst h
  rw [List.getElem?_map] at hk
  cases hf : fs.toList[i]? with
  | none => rw [hf] at hk; cases hk
  | some f =>
    rw [hf] at hk
    simp at hk
    exact ⟨f, by simpa using hf, hk.1, hk.2⟩
theorem ys6 {α : Type} {l : List α} (h : l.length = 6) : ∃ a b c d e f, l = [a, b, c, d, e, f] := by
  match l, h with
  | [a, b, c, d, e, f], _ => exact ⟨a, b, c, d, e, f, rfl⟩
theorem int_of_trod {H : Type} {enc : TypeId × Value → H} {W : World} {base : Nat} {sp : Nat → Bool} {n : Nat} {v : Value} {d : DataW H} {ps : List MemPlace}
    (h : DataW.trod enc Tryz.prog W base sp true n 3 [v] = some (d, ps)) : ∃ i : Int, v = .int .i64 i ∧ -9223372036854775808 ≤ i ∧ i ≤ 9223372036854775807 ∧ d = .lit (.int .i64 i) := by
  obtain ⟨i, e1, e2, wf⟩ := DataW.trod_int Tryz.underlying3 h
  simp at e1 e2
  obtain ⟨rfl, _⟩ := e2
  refine ⟨i, e1, ?_, ?_, rfl⟩ <;> simp [Lit.wf, IntKind.min, IntKind.max, IntKind.signed, IntKind.bits] at wf <;> omega
theorem array6 {α : Type} {cs : Array α} (h : cs.size = 6) : ∃ c0 c1 c2 c3 c4 c5, cs = #[c0, c1, c2, c3, c4, c5] := by
  obtain ⟨l⟩ := cs
  match l, h with
  | [c0, c1, c2, c3, c4, c5], _ => exact ⟨c0, c1, c2, c3, c4, c5, rfl⟩
theorem ask_desc : Tryz.prog.underlying 37 = some (.struct (Tryz.prog.fieldsOf 37)) := by kernel_rfl
theorem ask_shape : (Tryz.prog.fieldsOf 37).toList.map (fun f => (f.type, f.offset)) = [(3, 0), (9, 1), (3, 2), (9, 3), (9, 4), (3, 5)] := by kernel_rfl
theorem ask_cells : Tryz.prog.cellsOf 37 = 6 := by kernel_rfl
theorem askStr_cells : Tryz.prog.cellsOf 9 = 1 := by kernel_rfl
theorem askInt_cells : Tryz.prog.cellsOf 3 = 1 := by kernel_rfl
/-- An ask as an argument. -/
theorem opAsk {H : Type} {enc : TypeId × Value → H} {W : World} {base : Nat} {v : Value} {d : DataW H} {ps : List MemPlace} {b : Nat} (hv : Value.okWide Tryz.prog W .any base 37 v)
    (h : DataW.Trod enc Tryz.prog W 0 (fun _ => true) true 37 v d ps) (hb : Rows.uptoBulk d ≤ b) :
    ∃ a : Ac.Ask, v = askV a ∧ a.host.length ≤ b ∧ a.meth.length ≤ b ∧ a.path.length ≤ b ∧ -9223372036854775808 ≤ a.now ∧ a.now ≤ 9223372036854775807 := by
  obtain ⟨vs, ys, n, rfl, hsz, rfl, hlen, hall⟩ := open_aggN ask_desc hv h
  rw [ask_cells] at hsz
  obtain ⟨c0, c1, c2, c3, c4, c5, rfl⟩ := array6 hsz
  have hfs : (Tryz.prog.fieldsOf 37).size = 6 := by have := congrArg List.length ask_shape; simpa using this
  rw [hfs] at hlen
  obtain ⟨y0, y1, y2, y3, y4, y5, rfl⟩ := ys6 hlen
  have key : ∀ i t o, [((3 : TypeId), 0), (9, 1), (3, 2), (9, 3), (9, 4), (3, 5)][i]? = some (t, o) →
      ∃ y, [y0, y1, y2, y3, y4, y5][i]? = some y ∧ DataW.trod enc Tryz.prog W 0 (fun _ => true) true n t (([c0, c1, c2, c3, c4, c5].drop o).take (Tryz.prog.cellsOf t)) = some y := fun i t o hi => by
    obtain ⟨f, hf, rfl, rfl⟩ := fields_of ask_shape hi
    obtain ⟨y, hy1, hy2⟩ := hall i f hf
    exact ⟨y, hy1, hy2⟩
  obtain ⟨z0, k0, g0⟩ := key 0 _ _ rfl
  obtain ⟨z1, k1, g1⟩ := key 1 _ _ rfl
  obtain ⟨z2, k2, g2⟩ := key 2 _ _ rfl
  obtain ⟨z3, k3, g3⟩ := key 3 _ _ rfl
  obtain ⟨z4, k4, g4⟩ := key 4 _ _ rfl
  obtain ⟨z5, k5, g5⟩ := key 5 _ _ rfl
  simp only [List.getElem?_cons_zero, List.getElem?_cons_succ, Option.some.injEq] at k0 k1 k2 k3 k4 k5
  subst k0 k1 k2 k3 k4 k5
  rw [askStr_cells] at g1 g3 g4
  rw [askInt_cells] at g0 g2 g5
  obtain ⟨y0a, y0b⟩ := y0
  obtain ⟨y1a, y1b⟩ := y1
  obtain ⟨y2a, y2b⟩ := y2
  obtain ⟨y3a, y3b⟩ := y3
  obtain ⟨y4a, y4b⟩ := y4
  obtain ⟨y5a, y5b⟩ := y5
  obtain ⟨i0, rfl, l0, u0, rfl⟩ := int_of_trod g0
  obtain ⟨s1, rfl, rfl⟩ := str_of_trod g1
  obtain ⟨i2, rfl, l2, u2, rfl⟩ := int_of_trod g2
  obtain ⟨s3, rfl, rfl⟩ := str_of_trod g3
  obtain ⟨s4, rfl, rfl⟩ := str_of_trod g4
  obtain ⟨i5, rfl, l5, u5, rfl⟩ := int_of_trod g5
  simp only [Rows.uptoBulk, Rows.uptoBulkAll, List.map_cons, List.map_nil] at hb
  exact ⟨⟨i0, s1, i2, s3, s4, i5⟩, rfl, by show s1.length ≤ b; omega, by show s3.length ≤ b; omega, by show s4.length ≤ b; omega, l5, u5⟩
end Go.Proofs.YtgkphjbcaidcpaaGreatDoor
