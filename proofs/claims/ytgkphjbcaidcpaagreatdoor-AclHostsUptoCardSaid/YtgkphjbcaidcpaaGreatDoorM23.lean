/- Joined texts: alive: calls whose answers the document fixes. Condition: the library's variable MaxLen holds some int; AclHosts: the plain law; FOR A PROOF OF AN '..UptoSaid': WHAT THE BOUND GIVES. Copy it as <Name>Bulk.lean (put your seat's Name for YtgkphjbcaidcpaaGreatDoor, the bound of 'uptoSmall' for 1048576), name it in GOCLAIM.json's 'order' behind <Name>Rows. By an AI agent, Sun Nov 15 2026; Small lemmas for the last step of a row: what a call left is known below the old heap alone ('Below'). Lines of the guide's worked small lemmas turned to this claim; no conditions of ours; The laws' arguments opened: texts, fields. From the form's reading to 'bs', 'RdF'; no conditions but the bound of the second form; An ask as an argument. The conditions stand in each line. -/
import Derived.Test.YtgkphjbcaidcpaaGreatDoorRows
import Derived.Test.YtgkphjbcaidcpaaGreatDoorM2
import Derived.Test.YtgkphjbcaidcpaaGreatDoorM9
import Derived.Test.YtgkphjbcaidcpaaGreatDoorM22
import Derived.Below
import Derived.ChangeSame
import Derived.Deep.SlicePairs
import Derived.ProofKit
import Derived.OpenShut
import Derived.SizedLaws
import Derived.JoinedCond
set_option linter.unusedVariables false
set_option linter.unusedSimpArgs false
namespace Go.Proofs.YtgkphjbcaidcpaaGreatDoor
open Go.RowKit

set_option maxRecDepth 100000
namespace Ac
def little : T := [97, 99, 108, 32, 109, 101, 32, 115, 114, 99, 32, 49, 48, 46, 48, 46, 48, 46, 48, 47, 56, 10, 97, 99, 108, 32, 98, 97, 100, 32, 104, 111, 115, 116, 32, 46, 101, 118, 105, 108, 46, 111, 114, 103, 10, 100, 101, 110, 121, 32, 98, 97, 100, 10, 97, 108, 108, 111, 119, 32, 109, 101]
def meT : T := [109, 101]
def badT : T := [98, 97, 100]
def littleL : LS := ⟨[⟨meT, srcT, [[49, 48, 46, 48, 46, 48, 46, 48, 47, 56]]⟩, ⟨badT, hostT, [[46, 101, 118, 105, 108, 46, 111, 114, 103]]⟩], [⟨3, false, [badT]⟩, ⟨4, true, [meT]⟩]⟩
theorem parse_little : parse little = (littleL, 0, 0) := by kernel_rfl
def ask1 : Ask := ⟨167903747, [101, 118, 105, 108, 46, 111, 114, 103], 0, [], [], 0⟩
def ask2 : Ask := ⟨167903747, [97, 46, 111, 114, 103], 0, [], [], 0⟩
def ask3 : Ask := ⟨1, [], 0, [], [], 0⟩
theorem little1 : decide_ littleL ask1 = (false, 3) := by kernel_rfl
theorem little2 : decide_ littleL ask2 = (true, 4) := by kernel_rfl
theorem little3 : decide_ littleL ask3 = (false, 0) := by kernel_rfl
end Ac
theorem ask_ok {s : Int} {h : List UInt8} (hh : h.length ≤ 4194304) : AskOK ⟨s, h, 0, [], [], 0⟩ := ⟨hh, by simp, by simp, by simp, by simp⟩
theorem dec_lit (g : Nat) (a : Ac.Ask) (b : Bool) (n : Nat) (h : Ac.decide_ Ac.littleL a = (b, n)) : decV Ac.littleL a = .tuple #[.bool b, .int .i64 (n : Int)] := by unfold decV; rw [h]
set_option maxHeartbeats 2000000 in
theorem alive_any (w : World) (hM : MaxL w) : Calls Tryz.prog 7 #[] w fun e w' => e = .returned (.bool true) ∧ Below w.heap.size w w' := by
  have hP := parse_any Ac.little w hM (by decide)
  unfold ParseOut at hP
  rw [Ac.parse_little] at hP
  have hD := fun g a W hM ha hP => decide_any g Ac.littleL a W hM ha hP
  have k1 := dec_lit 0 Ac.ask1 _ _ Ac.little1
  have k2 := dec_lit 0 Ac.ask2 _ _ Ac.little2
  have k3 := dec_lit 0 Ac.ask3 _ _ Ac.little3
  have HD := Lib.hid hD
  clear hD
  go_enter Tryz.func7, Tryz.ntmps7
  go_wp2_with fail
  refine hP.mono ?_
  rintro x w1 ⟨v, rfl, hy, -, hb1⟩
  obtain ⟨g, rfl, hL⟩ := hy (by trivial)
  replace hL := hL w1 (fun _ _ _ => rfl)
  have hM1 := maxl_b hM hb1
  have hD1 := HD.out g Ac.ask1 w1 hM1 (ask_ok (by decide)) hL
  have HL := Lib.hid hL
  rw [k1] at hD1
  clear hP hy hL k1
  go_wp2_with fail
  refine hD1.mono ?_
  rintro x w2 ⟨rfl, hb2⟩
  have hL2 := HL.out.step hb2
  have hM2 := maxl_b hM1 hb2
  have hD2 := HD.out g Ac.ask2 w2 hM2 (ask_ok (by decide)) hL2
  have HL2 := Lib.hid hL2
  rw [k2] at hD2
  clear hD1 hL2 k2
  go_wp2_with fail
  refine hD2.mono ?_
  rintro x w3 ⟨rfl, hb3⟩
  have hD3 := HD.out g Ac.ask3 w3 (maxl_b hM2 hb3) (ask_ok (by decide)) (HL2.out.step hb3)
  rw [k3] at hD3
  clear hD2 k3
  go_wp2_with fail
  refine hD3.mono ?_
  rintro x w4 ⟨rfl, hb4⟩
  clear hD3
  go_wp2
  go_ret
  exact ⟨rfl, bnext (bnext (bnext hb1 hb2 hb1.size) hb3 (Nat.le_trans hb1.size hb2.size)) hb4 (Nat.le_trans hb1.size (Nat.le_trans hb2.size hb3.size))⟩
end Go.Proofs.YtgkphjbcaidcpaaGreatDoor
set_option linter.unusedVariables false
set_option linter.unusedSimpArgs false
namespace Go.Proofs.YtgkphjbcaidcpaaGreatDoor
open Go.RowKit

set_option maxRecDepth 100000
namespace Ac
def hosts1 : T := [97, 99, 108, 32, 120, 32, 104, 111, 115, 116, 32, 46]
def hosts2 : T := [97, 108, 108, 111, 119, 32, 120]
def hostsL (h : T) : LS := ⟨[⟨[120], hostT, [46 :: h]⟩], [⟨2, true, [[120]]⟩]⟩
theorem words_hosts (h : T) (hb : ∀ b ∈ h, blk b = false) : words (hosts1 ++ h) = [aclT, [120], hostT, 46 :: h] := by
  have e : words (hosts1 ++ h) = aclT :: [120] :: hostT :: wordsA [46] h := rfl
  have e2 := wordsA_skip h hb [46] []
  rw [List.append_nil] at e2
  rw [e, e2]
  rfl
theorem line_hosts (h : T) : line LS.nil 1 [aclT, [120], hostT, 46 :: h] = if good hostT (46 :: h) = true then some ⟨[⟨[120], hostT, [46 :: h]⟩], []⟩ else none := by
  rw [line_acl rfl]
  by_cases hg : good hostT (46 :: h) = true
  · rw [if_pos hg, define_new (by decide) rfl (by simp [hg])]
    rfl
  · rw [if_neg hg, define_all (by simp at hg; simp [hg])]
theorem parse_hosts (h : T) (hb : ∀ b ∈ h, blk b = false) (h10 : ∀ b ∈ h, b ≠ 10) : parse (hosts1 ++ h ++ 10 :: hosts2) = if good hostT (46 :: h) = true then (hostsL h, 0, 0) else (LS.nil, 1, 210) := by
  have hs : Ur.splitc 10 (hosts1 ++ h ++ 10 :: hosts2) = [hosts1 ++ h, hosts2] := by
    have hc1 : ∀ b ∈ hosts1, b ≠ 10 := by decide
    rw [Ur.splitc_of (fun b hb => by
      rcases List.mem_append.1 hb with h1 | h1
      · exact hc1 b h1
      · exact h10 b h1)]
    rw [Ur.splitc_one (by decide)]
  unfold parse parseLs
  rw [hs, if_neg (by simp)]
  have hw := words_hosts h hb
  by_cases hg : good hostT (46 :: h) = true
  · have h1 := line_hosts h
    rw [if_pos hg] at h1
    rw [if_pos hg, parseF_next (by rw [hw]; rfl) (by rw [hw]; exact h1)]
    rw [parseF_next (L' := hostsL h) rfl rfl]
    rfl
  · have h1 := line_hosts h
    rw [if_neg hg] at h1
    rw [if_neg hg, parseF_bad (by rw [hw]; rfl) (by rw [hw]; exact h1)]
theorem decide_hosts (h : T) (a : Ask) (hh : holds hostT (46 :: h) a = true) : decide_ (hostsL h) a = (true, 2) := by
  have e : ruleM (hostsL h) ⟨2, true, [[120]]⟩ a = true := by
    unfold ruleM
    have : named (hostsL h) (bare [120]) a = true := by
      rw [named_of (k := 0) (e := ⟨[120], hostT, [46 :: h]⟩) rfl rfl]
      unfold elH
      simp [hh]
    simp only [List.all_cons, List.all_nil, this]
    rfl
  unfold decide_
  rw [show (hostsL h).rus = [⟨2, true, [[120]]⟩] from rfl, List.find?_cons_of_pos (p := fun r => ruleM (hostsL h) r a) e]
theorem low46 : low 46 = 46 := by decide
theorem fold46 (h : T) : fold (46 :: h) = 46 :: fold h := by unfold fold; rw [List.map_cons, low46]
theorem hosts_eq (h : T) (a : Ask) (hh : fold a.host = fold h) : holds hostT (46 :: h) a = true := by
  rw [holds_suf (by rw [fold46]; rfl), fold46, hh]
  simp
theorem hosts_suf (h x : T) (a : Ask) (hh : a.host = x ++ 46 :: h) : holds hostT (46 :: h) a = true := by
  rw [holds_suf (by rw [fold46]; rfl), hh]
  have e : fold (x ++ 46 :: h) = fold x ++ fold (46 :: h) := by unfold fold; rw [List.map_append]
  have e2 : sufB (fold (46 :: h)) (fold (x ++ 46 :: h)) = true := by
    rw [e]; unfold sufB
    simp
  rw [e2, Bool.or_true]
theorem low_low (b : UInt8) : low (low b) = low b := by
  by_cases h : 65 ≤ b.toNat ∧ b.toNat ≤ 90
  · have := low_yes h.1 h.2
    rw [low_no (c := low b) (by omega)]
  · rw [low_no h, low_no h]
theorem fold_fold2 (h : T) : fold (fold h) = fold h := by
  unfold fold
  rw [List.map_map]
  exact List.map_congr_left fun b _ => low_low b
end Ac
/-- The law's ask in its box, while its host turns. -/
structure HSt (w w3 W : World) (s2 : Nat) (a : Ac.Ask) (z : ByteArray) : Prop where
  row : W.heap[w.heap.size]? = some (.cells #[.int .i64 a.src, .string z, .int .i64 a.port, .string (bs a.meth), .string (bs a.path), .int .i64 a.now] 37 (0, 0))
  st : ∀ k, s2 ≤ k → k < w3.heap.size → W.heap[k]? = w3.heap[k]?
  big : w3.heap.size ≤ W.heap.size
  low : w.heap.size < s2
  mx : 0 < w.heap.size
  ml : MaxL W
  bl : Below w.heap.size w W
theorem HSt.set {w w3 W : World} {s2 : Nat} {a : Ac.Ask} {z : ByteArray} (h : HSt w w3 W s2 a z) (z' : ByteArray) : HSt w w3 (W.setCell ⟨w.heap.size, 1, none⟩ (.string z')) s2 a z' := by
  have hgs := grown_set W w.heap.size 1 (.string z')
  have ho : ∀ k, k ≠ w.heap.size → (W.setCell ⟨w.heap.size, 1, none⟩ (.string z')).heap[k]? = W.heap[k]? := fun k hk => heap_setCell_other W ⟨w.heap.size, 1, none⟩ k _ hk
  have hlow := h.low
  have hmx := h.mx
  refine ⟨by rw [heap_setCell_same W w.heap.size 1 _ _ _ h.row]; rfl, fun k h1 h2 => (ho k (by omega)).trans (h.st k h1 h2), Nat.le_trans h.big hgs.size, h.low, h.mx, ?_, h.bl.grown hgs h.bl.size (fun k e => by cases e; exact Nat.le_refl _)⟩
  obtain ⟨m, hm⟩ := h.ml
  exact ⟨m, (World.cell?_of_block (w := W) (ho 0 (by omega))).trans hm⟩
theorem HSt.step {w w3 W W' : World} {s2 : Nat} {a : Ac.Ask} {z : ByteArray} (h : HSt w w3 W s2 a z) (hb : Below W.heap.size W W') : HSt w w3 W' s2 a z :=
  ⟨(hb.block _ (Array.getElem?_eq_some_iff.1 h.row).1).trans h.row, fun k h1 h2 => (hb.block k (Nat.lt_of_lt_of_le h2 h.big)).trans (h.st k h1 h2), Nat.le_trans h.big hb.size, h.low, h.mx, maxl_b h.ml hb, bnext h.bl hb h.bl.size⟩
theorem HSt.facts {w w3 W : World} {s2 : Nat} {a : Ac.Ask} {z : ByteArray} (h : HSt w w3 W s2 a z) : W.cell? ⟨w.heap.size, 0, none⟩ = some (.int .i64 a.src) ∧ W.cell? ⟨w.heap.size, 1, none⟩ = some (.string z) ∧ W.cell? ⟨w.heap.size, 2, none⟩ = some (.int .i64 a.port) ∧ W.cell? ⟨w.heap.size, 3, none⟩ = some (.string (bs a.meth)) ∧ W.cell? ⟨w.heap.size, 4, none⟩ = some (.string (bs a.path)) ∧ W.cell? ⟨w.heap.size, 5, none⟩ = some (.int .i64 a.now) ∧ W.frozen? ⟨w.heap.size, 1, none⟩ = false :=
  ⟨by rw [cell_of_row _ _ _ _ _ _ h.row]; rfl, by rw [cell_of_row _ _ _ _ _ _ h.row]; rfl, by rw [cell_of_row _ _ _ _ _ _ h.row]; rfl, by rw [cell_of_row _ _ _ _ _ _ h.row]; rfl, by rw [cell_of_row _ _ _ _ _ _ h.row]; rfl, by rw [cell_of_row _ _ _ _ _ _ h.row]; rfl, by simp only [World.frozen?, h.row]; rfl⟩
theorem dec_hosts (g : Nat) (h : List UInt8) (a : Ac.Ask) (y : List UInt8) (W : World) (hM : MaxL W) (ha : a.meth.length ≤ 1048576 ∧ a.path.length ≤ 1048576 ∧ -9223372036854775808 ≤ a.now ∧ a.now ≤ 9223372036854775807) (hy : y.length ≤ 4194304) (hh : Ac.holds Ac.hostT (46 :: h) ⟨a.src, y, a.port, a.meth, a.path, a.now⟩ = true) (hL : PList W g (Ac.hostsL h)) :
    Calls Tryz.prog 10 #[.pointer (some ⟨g, 0, none⟩), .agg #[.int .i64 a.src, .string (bs y), .int .i64 a.port, .string (bs a.meth), .string (bs a.path), .int .i64 a.now]] W fun e w' => e = .returned (.tuple #[.bool true, .int .i64 2]) ∧ Below W.heap.size W w' :=
  (decide_any g (Ac.hostsL h) ⟨a.src, y, a.port, a.meth, a.path, a.now⟩ W hM ⟨hy, by show a.meth.length ≤ _; omega, by show a.path.length ≤ _; omega, ha.2.2.1, ha.2.2.2⟩ hL).mono fun e w' hx => ⟨hx.1.trans (by unfold decV; rw [Ac.decide_hosts h _ hh]; rfl), hx.2⟩
end Go.Proofs.YtgkphjbcaidcpaaGreatDoor
namespace Go.Proofs.YtgkphjbcaidcpaaGreatDoor.bulks

theorem one_le {H : Type} (d : DataW H) : 1 ≤ Rows.uptoBulk d := by
  cases d with
  | lit l => cases l <;> simp [Rows.uptoBulk]
  | nil => simp [Rows.uptoBulk]
  | ptr d => simp [Rows.uptoBulk]
  | slice elems spare => simp [Rows.uptoBulk]
  | agg parts => simp [Rows.uptoBulk]
  | iface t d => simp [Rows.uptoBulk]
  | map entries => simp [Rows.uptoBulk]
  | held h => simp [Rows.uptoBulk]

/-- a part's bulk is at most the whole's -/
theorem part_le {H : Type} {d : DataW H} {l : List (DataW H)} (h : d ∈ l) : Rows.uptoBulk d ≤ Rows.uptoBulkAll l := by
  induction l with
  | nil => cases h
  | cons x r ih =>
    simp only [Rows.uptoBulkAll]
    cases List.mem_cons.1 h with
    | inl e => subst e; omega
    | inr e => have := ih e; omega

theorem append {H : Type} (l r : List (DataW H)) : Rows.uptoBulkAll (l ++ r) = Rows.uptoBulkAll l + Rows.uptoBulkAll r := by
  induction l with
  | nil => simp [Rows.uptoBulkAll]
  | cons x l ih => simp only [List.cons_append, Rows.uptoBulkAll, ih]; omega

/-- so many values at the most -/
theorem length_le {H : Type} (l : List (DataW H)) : l.length ≤ Rows.uptoBulkAll l := by
  induction l with
  | nil => simp [Rows.uptoBulkAll]
  | cons x r ih => have := one_le x; simp only [Rows.uptoBulkAll, List.length_cons]; omega

/-- a slice's places, and what they hold -/
theorem slice_le {H : Type} (elems spare : List (DataW H)) : elems.length + spare.length + 1 ≤ Rows.uptoBulk (.slice elems spare) := by
  have h1 := length_le elems
  have h2 := length_le spare
  simp only [Rows.uptoBulk]
  omega
theorem slice_elems {H : Type} (elems spare : List (DataW H)) : Rows.uptoBulkAll elems + 1 ≤ Rows.uptoBulk (.slice elems spare) := by
  simp only [Rows.uptoBulk]
  omega

/-- a string's letters -/
theorem string_eq {H : Type} (bytes : List UInt8) : Rows.uptoBulk (DataW.lit (H := H) (.string bytes)) = bytes.length + 1 := by
  simp [Rows.uptoBulk]

/-- THE BOUND, as the builder hands it over ('hk') -/
theorem bound {H : Type} {l : List (DataW H)} (hk : Rows.uptoSmall H l = true) : Rows.uptoBulkAll l ≤ 1048576 := by
  simpa [Rows.uptoSmall] using hk

/-- ROOM: a slice of n elements of b bytes, grown by append: below the 2^48 bytes that append, make and a Builder bear. Here n up to 2^21, b up to 4,096: put your own numbers. -/
theorem room {n b : Nat} (hn : n ≤ 2097152) (hb : b ≤ 4096) : (n + n / 4 + 192) * b ≤ 281474976710656 := by
  have h : (n + n / 4 + 192) * b ≤ 2621632 * 4096 := Nat.mul_le_mul (by omega) hb
  omega

end Go.Proofs.YtgkphjbcaidcpaaGreatDoor.bulks
set_option linter.unusedVariables false
namespace Go.Proofs.YtgkphjbcaidcpaaGreatDoor
open Go.RowKit Go.WideShapes Go.ChangeShapes

section
variable {H : Type} {enc : TypeId × Value → H} {P : Program}
theorem post_of_below {f : Func} {s : ChangeSpec} {apart fresh handsOn again : Bool} {W W' : World} {args : Array Value} {v : Value} {ds gs : List (DataW H)} {before pa pv : List MemPlace}
    (hW : DataW.Whole enc P f.params.toList s.vars apart W args.toList ds gs before)
    (hres : ∀ (b : Nat) (sp : Nat → Bool) (hd : Bool), DataW.TrodAll enc P W' b sp hd f.resultTypes.toList (v.resultList f.resultTypes.size) (s.fn H (ds ++ gs)).results [])
    (hargs : ∀ sp : Nat → Bool, (∀ p ∈ before, sp p.block = true) → DataW.TrodAll enc P W' 0 sp true f.params.toList args.toList (s.fn H (ds ++ gs)).args pa)
    (hvars : ∀ sp : Nat → Bool, (∀ p ∈ before, sp p.block = true) → DataW.TrodVars enc P W' sp s.vars (s.fn H (ds ++ gs)).vars pv)
    (hps : before = pa ++ pv) (hb : Below W.heap.size W W')
    (hok : ∀ (j : Nat) (t : TypeId) (r : Value), f.resultTypes[j]? = some t → (v.resultList f.resultTypes.size)[j]? = some r → Value.okWide P W' .any 0 t r) :
    s.post enc P f apart fresh handsOn again W args v W' := by
  have hlt : ∀ p ∈ before, p.block < W.heap.size := fun p hp => hW.lt p hp
  have hold : ∀ p ∈ before, (fun b => decide (b < W.heap.size)) p.block = true := fun p hp => by simpa using hlt p hp
  refine ⟨ds, gs, before, [], pa, pv, hW, hres _ _ _, hargs _ hold, hvars _ hold, World.keptBut_mono (fun p hp => ⟨hp, ?_⟩) (hb.frame (· ∈ before)), fun _ => ?_⟩
  · rw [hps, List.mem_append] at hp
    exact Or.inr hp
  · obtain ⟨_, _, _, _, _, hz, hn⟩ := hW
    refine ⟨hok, _, _, ([] ++ pa) ++ pv, ⟨[] ++ pa, pv, trodAll_append (hargs _ (fun _ _ => rfl)) (hres _ _ _), hvars _ (fun _ _ => rfl), rfl, ?_, ?_⟩, ?_⟩
    · intro b off hp
      have hin : MemPlace.cell b off ∈ before := by rw [hps]; simpa using hp
      rw [hb.frozen (hlt _ hin)]
      exact hz b off hin
    · intro ha
      have := hn ha
      rw [hps] at this
      simpa using this
    · intro p hp _
      rw [hps]
      simpa using hp
end

end Go.Proofs.YtgkphjbcaidcpaaGreatDoor
set_option linter.unusedVariables false
set_option linter.unusedSimpArgs false
set_option maxRecDepth 100000
namespace Go.Proofs.YtgkphjbcaidcpaaGreatDoor
open Go.ChangeShapes Go.WideShapes Go.ChangeAt Go.RowKit Go.Deep

/-- An argument reads as it did where below the old heap all stands. -/
theorem arg_stays {H : Type} {enc : TypeId × Value → H} {P : Program} {t : TypeId} (hl : laidOutB P = true) (hr : P.readableRec t = true) (hrow : t < P.types.size) {W W' : World} {v : Value} {d : DataW H} {ps : List MemPlace}
    (h : DataW.Trod enc P W 0 (fun _ => true) true t v d ps) (hb : Below W.heap.size W W') (hlt : ∀ x ∈ ps, x.block < W.heap.size) (sp : Nat → Bool) (hsp : ∀ x ∈ ps, sp x.block = true) :
    DataW.Trod enc P W' 0 sp true t v d ps :=
  WideElems.Trod_stays hl hr hrow h (fun x hx => hb.same (hlt x hx)) hsp
theorem laidOut : laidOutB Tryz.prog = true := by kernel_rfl

theorem str_of_trod {H : Type} {enc : TypeId × Value → H} {W : World} {base : Nat} {sp : Nat → Bool} {n : Nat} {v : Value} {d : DataW H} {ps : List MemPlace}
    (h : DataW.trod enc Tryz.prog W base sp true n 9 [v] = some (d, ps)) : ∃ l : List UInt8, v = .string (bs l) ∧ d = .lit (.string l) := by
  obtain ⟨s, e1, e2⟩ := DataW.trod_string Tryz.underlying9 h
  simp at e1 e2
  obtain ⟨⟨rfl, _⟩, _⟩ := e2
  exact ⟨s.data.toList, e1, rfl⟩
/-- A text as an argument. -/
theorem opS {H : Type} {enc : TypeId × Value → H} {W : World} {base : Nat} {v : Value} {d : DataW H} {ps : List MemPlace} (hv : Value.okWide Tryz.prog W .any base 9 v)
    (h : DataW.Trod enc Tryz.prog W 0 (fun _ => true) true 9 v d ps) : ∃ l : List UInt8, v = .string (bs l) ∧ d = .lit (.string l) := by
  obtain ⟨s, rfl, rfl, _, _⟩ := Go.ChangeMaps.open_string Tryz.underlying9 hv h
  exact ⟨s.data.toList, rfl, rfl⟩
/-- A number as an argument. -/
theorem opI {H : Type} {enc : TypeId × Value → H} {W : World} {base : Nat} {v : Value} {d : DataW H} {ps : List MemPlace} (hv : Value.okWide Tryz.prog W .any base 3 v)
    (h : DataW.Trod enc Tryz.prog W 0 (fun _ => true) true 3 v d ps) : ∃ n : Int, v = .int .i64 n ∧ -9223372036854775808 ≤ n ∧ n ≤ 9223372036854775807 := by
  obtain ⟨n, rfl, _, _, wf⟩ := open_int Tryz.underlying3 hv h
  refine ⟨n, rfl, ?_⟩
  simpa [Lit.wf, IntKind.min, IntKind.max, IntKind.signed, IntKind.bits] using wf
theorem spot_of_cell {w : World} {a : Addr} {v : Value} (h : w.cell? a = some v) : a.spot = none := by
  unfold World.cell? at h
  split at h
  · split at h
    · cases h
    · rename_i h'; simpa using h'
  · cases h
end Go.Proofs.YtgkphjbcaidcpaaGreatDoor
set_option linter.unusedVariables false
set_option linter.unusedSimpArgs false
namespace Go.Proofs.YtgkphjbcaidcpaaGreatDoor
open Go.RowKit

set_option maxRecDepth 100000
open Go.ChangeShapes Go.WideShapes Go.ChangeAt Go.RowKit Go.Deep
/-- A struct by value, opened: each field's cells with their reading. -/
theorem open_aggN {H : Type} {enc : TypeId × Value → H} {P : Program} {W : World} {base b0 : Nat} {sp : Nat → Bool} {held : Bool} {r : Reach} {t : TypeId} {fs : Array Field} {v : Value} {d : DataW H} {p : List MemPlace} (hs : P.underlying t = some (.struct fs))
    (hv : Value.okWide P W r b0 t v) (h : DataW.Trod enc P W base sp held t v d p) :
    ∃ (vs : Array Value) (ys : List (DataW H × List MemPlace)) (n : Nat), v = .agg vs ∧ vs.size = P.cellsOf t ∧ d = .agg (ys.map (·.1)) ∧ ys.length = fs.size ∧
      ∀ (i : Nat) (f : Field), fs[i]? = some f → ∃ y, ys[i]? = some y ∧ DataW.trod enc P W base sp held n f.type ((vs.toList.drop f.offset).take (P.cellsOf f.type)) = some y := by
  obtain ⟨cs, rfl, hsz⟩ := okWide_struct hs hv
  obtain ⟨fuel, hf⟩ := h
  obtain ⟨xs, n, _, hx, _, hlen, hall⟩ := DataW.trod_struct hs hf
  simp only [Prod.mk.injEq] at hx
  refine ⟨cs, xs, n, rfl, hsz, hx.1, hlen, fun i f hi => ?_⟩
  have hlt : i < xs.length := by rw [hlen]; exact (Array.getElem?_eq_some_iff.1 hi).1
  refine ⟨xs[i], List.getElem?_eq_getElem hlt, ?_⟩
  rw [← List.getElem?_eq_getElem hlt]
  simpa [Value.cells] using hall i f hi
theorem fields_of {fs : Array Field} {k : List (TypeId × Nat)} (h : fs.toList.map (fun f => (f.type, f.offset)) = k) {i : Nat} {t : TypeId} {o : Nat} (hk : k[i]? = some (t, o)) : ∃ f, fs[i]? = some f ∧ f.type = t ∧ f.offset = o := by
  subst h
  rw [List.getElem?_map] at hk
  cases hf : fs.toList[i]? with
  | none => rw [hf] at hk; cases hk
  | some f =>
    rw [hf] at hk
    simp at hk
    exact ⟨f, by simpa using hf, hk.1, hk.2⟩
theorem ys6 {α : Type} {l : List α} (h : l.length = 6) : ∃ a b c d e f, l = [a, b, c, d, e, f] := by
  match l, h with
  | [a, b, c, d, e, f], _ => exact ⟨a, b, c, d, e, f, rfl⟩
theorem int_of_trod {H : Type} {enc : TypeId × Value → H} {W : World} {base : Nat} {sp : Nat → Bool} {n : Nat} {v : Value} {d : DataW H} {ps : List MemPlace}
    (h : DataW.trod enc Tryz.prog W base sp true n 3 [v] = some (d, ps)) : ∃ i : Int, v = .int .i64 i ∧ -9223372036854775808 ≤ i ∧ i ≤ 9223372036854775807 ∧ d = .lit (.int .i64 i) := by
  obtain ⟨i, e1, e2, wf⟩ := DataW.trod_int Tryz.underlying3 h
  simp at e1 e2
  obtain ⟨rfl, _⟩ := e2
  refine ⟨i, e1, ?_, ?_, rfl⟩ <;> simp [Lit.wf, IntKind.min, IntKind.max, IntKind.signed, IntKind.bits] at wf <;> omega
theorem array6 {α : Type} {cs : Array α} (h : cs.size = 6) : ∃ c0 c1 c2 c3 c4 c5, cs = #[c0, c1, c2, c3, c4, c5] := by
  obtain ⟨l⟩ := cs
  match l, h with
  | [c0, c1, c2, c3, c4, c5], _ => exact ⟨c0, c1, c2, c3, c4, c5, rfl⟩
theorem ask_desc : Tryz.prog.underlying 37 = some (.struct (Tryz.prog.fieldsOf 37)) := by kernel_rfl
theorem ask_shape : (Tryz.prog.fieldsOf 37).toList.map (fun f => (f.type, f.offset)) = [(3, 0), (9, 1), (3, 2), (9, 3), (9, 4), (3, 5)] := by kernel_rfl
theorem ask_cells : Tryz.prog.cellsOf 37 = 6 := by kernel_rfl
theorem askStr_cells : Tryz.prog.cellsOf 9 = 1 := by kernel_rfl
theorem askInt_cells : Tryz.prog.cellsOf 3 = 1 := by kernel_rfl
/-- An ask as an argument. -/
theorem opAsk {H : Type} {enc : TypeId × Value → H} {W : World} {base : Nat} {v : Value} {d : DataW H} {ps : List MemPlace} {b : Nat} (hv : Value.okWide Tryz.prog W .any base 37 v)
    (h : DataW.Trod enc Tryz.prog W 0 (fun _ => true) true 37 v d ps) (hb : Rows.uptoBulk d ≤ b) :
    ∃ a : Ac.Ask, v = askV a ∧ a.host.length ≤ b ∧ a.meth.length ≤ b ∧ a.path.length ≤ b ∧ -9223372036854775808 ≤ a.now ∧ a.now ≤ 9223372036854775807 := by
  obtain ⟨vs, ys, n, rfl, hsz, rfl, hlen, hall⟩ := open_aggN ask_desc hv h
  rw [ask_cells] at hsz
  obtain ⟨c0, c1, c2, c3, c4, c5, rfl⟩ := array6 hsz
  have hfs : (Tryz.prog.fieldsOf 37).size = 6 := by have := congrArg List.length ask_shape; simpa using this
  rw [hfs] at hlen
  obtain ⟨y0, y1, y2, y3, y4, y5, rfl⟩ := ys6 hlen
  have key : ∀ i t o, [((3 : TypeId), 0), (9, 1), (3, 2), (9, 3), (9, 4), (3, 5)][i]? = some (t, o) →
      ∃ y, [y0, y1, y2, y3, y4, y5][i]? = some y ∧ DataW.trod enc Tryz.prog W 0 (fun _ => true) true n t (([c0, c1, c2, c3, c4, c5].drop o).take (Tryz.prog.cellsOf t)) = some y := fun i t o hi => by
    obtain ⟨f, hf, rfl, rfl⟩ := fields_of ask_shape hi
    obtain ⟨y, hy1, hy2⟩ := hall i f hf
    exact ⟨y, hy1, hy2⟩
  obtain ⟨z0, k0, g0⟩ := key 0 _ _ rfl
  obtain ⟨z1, k1, g1⟩ := key 1 _ _ rfl
  obtain ⟨z2, k2, g2⟩ := key 2 _ _ rfl
  obtain ⟨z3, k3, g3⟩ := key 3 _ _ rfl
  obtain ⟨z4, k4, g4⟩ := key 4 _ _ rfl
  obtain ⟨z5, k5, g5⟩ := key 5 _ _ rfl
  simp only [List.getElem?_cons_zero, List.getElem?_cons_succ, Option.some.injEq] at k0 k1 k2 k3 k4 k5
  subst k0 k1 k2 k3 k4 k5
  rw [askStr_cells] at g1 g3 g4
  rw [askInt_cells] at g0 g2 g5
  obtain ⟨y0a, y0b⟩ := y0
  obtain ⟨y1a, y1b⟩ := y1
  obtain ⟨y2a, y2b⟩ := y2
  obtain ⟨y3a, y3b⟩ := y3
  obtain ⟨y4a, y4b⟩ := y4
  obtain ⟨y5a, y5b⟩ := y5
  obtain ⟨i0, rfl, l0, u0, rfl⟩ := int_of_trod g0
  obtain ⟨s1, rfl, rfl⟩ := str_of_trod g1
  obtain ⟨i2, rfl, l2, u2, rfl⟩ := int_of_trod g2
  obtain ⟨s3, rfl, rfl⟩ := str_of_trod g3
  obtain ⟨s4, rfl, rfl⟩ := str_of_trod g4
  obtain ⟨i5, rfl, l5, u5, rfl⟩ := int_of_trod g5
  simp only [Rows.uptoBulk, Rows.uptoBulkAll, List.map_cons, List.map_nil] at hb
  exact ⟨⟨i0, s1, i2, s3, s4, i5⟩, rfl, by show s1.length ≤ b; omega, by show s3.length ≤ b; omega, by show s4.length ≤ b; omega, l5, u5⟩
end Go.Proofs.YtgkphjbcaidcpaaGreatDoor
