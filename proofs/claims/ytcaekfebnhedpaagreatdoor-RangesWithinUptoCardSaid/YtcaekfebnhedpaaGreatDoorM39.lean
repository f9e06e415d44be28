/- Joined texts: Apply in every case; alive; FOR A PROOF OF AN '..UptoSaid': WHAT THE BOUND GIVES. Copy it as <Name>Bulk.lean (put your seat's Name for YtcaekfebnhedpaaGreatDoor, the bound of 'uptoSmall' for 1048576), name it in GOCLAIM.json's 'order' behind <Name>Rows. By an AI agent, Sun Nov 15 2026; Small lemmas for the last step of a row: what a call left is known below the old heap alone ('Below'). Lines of the guide's worked small lemmas turned to this claim; no conditions of ours; The laws' arguments opened: texts and numbers. The conditions stand in each line. -/
import Derived.Test.YtcaekfebnhedpaaGreatDoorRows
import Derived.Test.YtcaekfebnhedpaaGreatDoorM2
import Derived.Test.YtcaekfebnhedpaaGreatDoorM3
import Derived.Test.YtcaekfebnhedpaaGreatDoorM32
import Derived.Test.YtcaekfebnhedpaaGreatDoorM33
import Derived.Test.YtcaekfebnhedpaaGreatDoorM35
import Derived.Test.YtcaekfebnhedpaaGreatDoorM37
import Derived.Test.YtcaekfebnhedpaaGreatDoorM38
import Derived.Lib.SlBytesConst
import Derived.Below
import Derived.ChangeSame
import Derived.Deep.SlicePairs
import Derived.ProofKit
import Derived.OpenShut
import Derived.SizedLaws
import Derived.JoinedCond
set_option linter.unusedVariables false
set_option linter.unusedSimpArgs false
namespace Go.Proofs.YtcaekfebnhedpaaGreatDoor
open Go.RowKit

set_option maxRecDepth 100000
set_option maxHeartbeats 8000000 in
theorem apply_any (A : Option Addr) (n c : Nat) (q : List Fld) (st : Int) (rs : List UInt8) (minor : Int) (B : Option Addr) (m d : Nat) (l : List Fld) (Y : Option Addr) (k e : Nat) (b : List UInt8) (w : World) (ht : Tab w) (hM : MaxL w)
    (hq : RdF w A n q) (hn : n ≤ 1048576) (hqs : FlenS q) (hqj : (Frs.getL q Rg.rngR).length ≤ 1073741824) (hl : RdF w B m l) (hm : m ≤ 1048576) (hls : FlenS l) (hb : RdB w Y k b) (hk : k ≤ 4194304) (hke : k ≤ e) (hee : e ≤ maxLen) :
    Calls Tryz.prog 17 #[.slice A n c, respV st rs minor B m d, .slice Y k e] w fun x w' => ApOut w minor (Rg.applyL q st rs l b) x w' := by
  by_cases has : Rg.asIs q st l b
  · have h := apply_keep A n c q st rs minor B m d l Y k e b w ht hM hq hn hqs hqj hl hm hls hb hk hke hee has
    unfold Rg.applyL
    rw [if_pos has]; exact h
  · have hp := Rg.parse_in (Frs.getL q Rg.rngR) b.length
    have h190 : (Rg.parseL (Frs.getL q Rg.rngR) b.length).2 ≠ 190 := fun h => has (.inr (.inr (.inl h)))
    by_cases h191 : (Rg.parseL (Frs.getL q Rg.rngR) b.length).2 = 191
    · have h := apply_unsat A n c q st rs minor B m d l Y k e b w ht hM hq hn hqs hqj hl hm hls hb hk hke hee has h191
      unfold Rg.applyL
      rw [if_neg has, if_pos h191]; exact h
    · have h0 : (Rg.parseL (Frs.getL q Rg.rngR) b.length).2 = 0 := by rcases hp.1 with h | h | h; exact h; exact absurd h h190; exact absurd h h191
      obtain ⟨p1, p2, p3⟩ := hp.2.2 h0
      have he : Rg.parseL (Frs.getL q Rg.rngR) b.length = ((Rg.parseL (Frs.getL q Rg.rngR) b.length).1, 0) := by rw [← h0]
      by_cases hl1 : (Rg.parseL (Frs.getL q Rg.rngR) b.length).1.length = 1
      · have hA : Rg.applyL q st rs l b = Rg.oneA l b ((Rg.parseL (Frs.getL q Rg.rngR) b.length).1[0]'(by omega)) := by
          unfold Rg.applyL
          rw [if_neg has, if_neg h191, dif_pos hl1]
        obtain ⟨p, hp1⟩ := List.length_eq_one_iff.1 hl1
        have hx : (Rg.parseL (Frs.getL q Rg.rngR) b.length).1[0]'(by omega) = p := by rw [List.getElem_of_eq hp1 (by omega)]; rfl
        rw [hA, hx]
        rw [hp1] at he p1
        exact apply_one A n c q st rs minor B m d l Y k e b w ht hM hq hn hqs hqj hl hm hls hb hk hke hee p has he (p1 p (by simp))
      · have hA : Rg.applyL q st rs l b = Rg.manyA l b (Rg.parseL (Frs.getL q Rg.rngR) b.length).1 := by
          unfold Rg.applyL
          rw [if_neg has, if_neg h191, dif_neg hl1]
        rw [hA]
        exact apply_many A n c q st rs minor B m d l Y k e b w ht hM hq hn hqs hqj hl hm hls hb hk hke hee _ has he p1 hl1 p3
theorem rdB_lit (w : World) (l : List UInt8) (t : TypeId) (cs : Array Value) (fr : Nat × Nat) (h : cs = (l.map bytV).toArray) : RdB (w.alloc (.cells cs t fr)) (some ⟨w.heap.size, 0, none⟩) l.length l := by
  subst h
  refine ⟨rfl, by simp, fun _ => ⟨w.heap.size, 0, rfl, by simp, fun j u hu => ?_⟩⟩
  rw [Nat.zero_add, cell_of_row _ _ _ _ t fr (heap_alloc_new w _)]
  simpa using hu
namespace Rg
abbrev al1 : List UInt8 := [98, 121, 116, 101, 115, 61, 48, 45, 49, 44, 32, 45, 49, 44, 32, 57, 45]
abbrev al2 : List UInt8 := [98, 121, 116, 101, 115, 61, 49, 45, 50]
theorem al_parse : parseL al1 5 = ([(0, 1), (4, 4)], 0) := by decide +kernel
theorem al_parse2 : parseL al2 4 = ([(1, 2)], 0) := by decide +kernel
theorem al_get : Frs.getL [(rngP, al2)] rngR = al2 := by decide +kernel
theorem al_val : valuesL [(rngP, al2)] rngR = [al2] := by decide +kernel
theorem al_has : ¬ asIs [(rngP, al2)] 200 [] [97, 98, 99, 100] := by
  unfold asIs
  rw [al_get, al_val]
  rintro (h | h | h | h)
  · exact h rfl
  · cases h
  · have := al_parse2
    simp only [List.length_cons, List.length_nil] at h
    rw [show ((0 + 1 + 1 + 1 + 1 : Nat) : Int) = 4 from rfl, this] at h; cases h
  · have : holdsL [(rngP, al2)] [] = true := by decide +kernel
    rw [this] at h; cases h
end Rg
set_option maxHeartbeats 4000000 in
theorem alive19_any (w : World) (ht : Tab w) (hM : MaxL w) : Calls Tryz.prog 10 #[] w fun e w' => e = .returned (.bool true) ∧ Below w.heap.size w w' := by
  have hC := parse19_p Rg.al1 5 w hM (by simp) (by omega) (by omega)
  unfold RgOut at hC
  rw [Rg.al_parse] at hC
  dsimp only at hC
  go_enter Tryz.func10, Tryz.ntmps10
  go_wp2_with fail
  refine hC.mono ?_
  rintro e w1 ⟨A1, n1, c1, rfl, hP, hb1⟩
  clear hC
  have hn1 : n1 = 2 := by have := hP.rd.1; simpa using this.symm
  subst hn1
  have hal1 := alloc_below w1 (.cells #[.string (bs Rg.rngP), .string (bs Rg.al2)] 46)
  have hf := one_rdF w1 Rg.rngP Rg.al2 46
  have hal2 := alloc_below (w1.alloc (.cells #[.string (bs Rg.rngP), .string (bs Rg.al2)] 46)) (.cells #[.int .u8 97, .int .u8 98, .int .u8 99, .int .u8 100] 5 (4, 5))
  have hby := rdB_lit (w1.alloc (.cells #[.string (bs Rg.rngP), .string (bs Rg.al2)] 46)) [97, 98, 99, 100] 5 _ (4, 5) rfl
  rw [show (w1.alloc (.cells #[.string (bs Rg.rngP), .string (bs Rg.al2)] 46)).heap.size = w1.heap.size + 1 by simp] at hby
  have hcvc : (convert 32 32 (.slice (some ⟨w1.heap.size + 1, 0, none⟩) 4 4)).run Tryz.prog ((w1.alloc (.cells #[.string ⟨#[82, 97, 110, 103, 101]⟩, .string ⟨#[98, 121, 116, 101, 115, 61, 49, 45, 50]⟩] 46)).alloc (.cells #[.int .u8 97, .int .u8 98, .int .u8 99, .int .u8 100] 5)) = .ok (.slice (some ⟨w1.heap.size + 1, 0, none⟩) 4 4) ((w1.alloc (.cells #[.string (bs Rg.rngP), .string (bs Rg.al2)] 46)).alloc (.cells #[.int .u8 97, .int .u8 98, .int .u8 99, .int .u8 100] 5 (4, 5))) := by
    have h := Lib.run_convert_bytes_const (P := Tryz.prog) (w1.alloc (.cells #[.string (bs Rg.rngP), .string (bs Rg.al2)] 46)) 32 5 #[.int .u8 97, .int .u8 98, .int .u8 99, .int .u8 100] 4 4 Tryz.underlying32 Tryz.underlying5
    rw [show (w1.alloc (.cells #[.string (bs Rg.rngP), .string (bs Rg.al2)] 46)).heap.size = w1.heap.size + 1 by simp] at h
    exact h
  have hf2 := hf.step hal2
  have hbb := bnext (bnext hb1 hal1 hb1.size) hal2 (by have := hb1.size; simp; omega)
  have hP2 := (hP.step hal1).step hal2
  have hC := apply_one (some ⟨w1.heap.size, 0, none⟩) 1 1 [(Rg.rngP, Rg.al2)] 200 [] 0 none 0 0 [] (some ⟨w1.heap.size + 1, 0, none⟩) 4 4 [97, 98, 99, 100] _ (tab_b ht hbb) (maxl_b hM hbb) hf2 (by omega) (by intro f hf; rw [List.mem_singleton] at hf; subst hf; simp) (by rw [Rg.al_get]; simp) (RdF.nil _ _) (by omega) (by intro f hf; cases hf) hby (by omega) (by omega) (by unfold maxLen; omega) (1, 2) Rg.al_has (by rw [Rg.al_get]; exact Rg.al_parse2) (by simp)
  unfold ApOut respV Rg.oneA at hC
  dsimp only at hC
  clear hf hf2 hby hal1 hal2 hb1 hP
  go_wp2_with fail
  refine hC.mono ?_
  rintro e w2 ⟨A2, n2, c2, Y2, k2, e2, rfl, hF, hB, hb2⟩
  clear hC
  have hb3 := bnext hbb hb2 hbb.size
  have hP3 := (hP2.step hb2).rd
  have hal3 := alloc_below w2 (.cells #[.int .i64 206, .string (bs Rg.partT), .int .i64 0, .slice A2 n2 c2] 31)
  have hB3 := hB.rd.step hal3
  have hcv := fun c9 => conv_bs hB3 c9
  rw [show Rg.pieceL (1, 2) [97, 98, 99, 100] = [98, 99] from rfl] at hcv
  obtain ⟨g, oo, x, y, rfl, hg, HX, s0, s1⟩ := (hP3.step hal3).at_ (k := 1) (by omega)
  have hXY := HX.out
  simp only [List.getElem?_cons_succ, List.getElem?_cons_zero, Option.some.injEq, Prod.mk.injEq] at hXY
  obtain ⟨rfl, rfl⟩ := hXY
  simp only [Nat.one_mul] at s0 s1
  have hb4 := bnext hb3 hal3 hb3.size
  clear hP2 hP3 hB hB3 hF hb2 HX hal3
  go_wp2
  go_ret
  exact ⟨rfl, hb4⟩
end Go.Proofs.YtcaekfebnhedpaaGreatDoor
namespace Go.Proofs.YtcaekfebnhedpaaGreatDoor.bulks

theorem one_le {H : Type} (d : DataW H) : 1 ≤ Rows.uptoBulk d := by
  cases d with
  | lit l => cases l <;> simp [Rows.uptoBulk]
  | nil => simp [Rows.uptoBulk]
  | ptr d => simp [Rows.uptoBulk]
  | slice elems spare => simp [Rows.uptoBulk]
  | agg parts => simp [Rows.uptoBulk]
  | iface t d => simp [Rows.uptoBulk]
  | map entries => simp [Rows.uptoBulk]
  | held h => simp [Rows.uptoBulk]

/-- a part's bulk is at most the whole's -/
theorem part_le {H : Type} {d : DataW H} {l : List (DataW H)} (h : d ∈ l) : Rows.uptoBulk d ≤ Rows.uptoBulkAll l := by
  induction l with
  | nil => cases h
  | cons x r ih =>
    simp only [Rows.uptoBulkAll]
    cases List.mem_cons.1 h with
    | inl e => subst e; omega
    | inr e => have := ih e; omega

theorem append {H : Type} (l r : List (DataW H)) : Rows.uptoBulkAll (l ++ r) = Rows.uptoBulkAll l + Rows.uptoBulkAll r := by
  induction l with
  | nil => simp [Rows.uptoBulkAll]
  | cons x l ih => simp only [List.cons_append, Rows.uptoBulkAll, ih]; omega

/-- so many values at the most -/
theorem length_le {H : Type} (l : List (DataW H)) : l.length ≤ Rows.uptoBulkAll l := by
  induction l with
  | nil => simp [Rows.uptoBulkAll]
  | cons x r ih => have := one_le x; simp only [Rows.uptoBulkAll, List.length_cons]; omega

/-- a slice's places, and what they hold -/
theorem slice_le {H : Type} (elems spare : List (DataW H)) : elems.length + spare.length + 1 ≤ Rows.uptoBulk (.slice elems spare) := by
  have h1 := length_le elems
  have h2 := length_le spare
  simp only [Rows.uptoBulk]
  omega
theorem slice_elems {H : Type} (elems spare : List (DataW H)) : Rows.uptoBulkAll elems + 1 ≤ Rows.uptoBulk (.slice elems spare) := by
  simp only [Rows.uptoBulk]
  omega

/-- a string's letters -/
theorem string_eq {H : Type} (bytes : List UInt8) : Rows.uptoBulk (DataW.lit (H := H) (.string bytes)) = bytes.length + 1 := by
  simp [Rows.uptoBulk]

/-- THE BOUND, as the builder hands it over ('hk') -/
theorem bound {H : Type} {l : List (DataW H)} (hk : Rows.uptoSmall H l = true) : Rows.uptoBulkAll l ≤ 1048576 := by
  simpa [Rows.uptoSmall] using hk

/-- ROOM: a slice of n elements of b bytes, grown by append: below the 2^48 bytes that append, make and a Builder bear. Here n up to 2^21, b up to 4,096: put your own numbers. -/
theorem room {n b : Nat} (hn : n ≤ 2097152) (hb : b ≤ 4096) : (n + n / 4 + 192) * b ≤ 281474976710656 := by
  have h : (n + n / 4 + 192) * b ≤ 2621632 * 4096 := Nat.mul_le_mul (by omega) hb
  omega

end Go.Proofs.YtcaekfebnhedpaaGreatDoor.bulks
set_option linter.unusedVariables false
namespace Go.Proofs.YtcaekfebnhedpaaGreatDoor
open Go.RowKit Go.WideShapes Go.ChangeShapes

section
variable {H : Type} {enc : TypeId × Value → H} {P : Program}
theorem post_of_below {f : Func} {s : ChangeSpec} {apart fresh handsOn again : Bool} {W W' : World} {args : Array Value} {v : Value} {ds gs : List (DataW H)} {before pa pv : List MemPlace}
    (hW : DataW.Whole enc P f.params.toList s.vars apart W args.toList ds gs before)
    (hres : ∀ (b : Nat) (sp : Nat → Bool) (hd : Bool), DataW.TrodAll enc P W' b sp hd f.resultTypes.toList (v.resultList f.resultTypes.size) (s.fn H (ds ++ gs)).results [])
    (hargs : ∀ sp : Nat → Bool, (∀ p ∈ before, sp p.block = true) → DataW.TrodAll enc P W' 0 sp true f.params.toList args.toList (s.fn H (ds ++ gs)).args pa)
    (hvars : ∀ sp : Nat → Bool, (∀ p ∈ before, sp p.block = true) → DataW.TrodVars enc P W' sp s.vars (s.fn H (ds ++ gs)).vars pv)
    (hps : before = pa ++ pv) (hb : Below W.heap.size W W')
    (hok : ∀ (j : Nat) (t : TypeId) (r : Value), f.resultTypes[j]? = some t → (v.resultList f.resultTypes.size)[j]? = some r → Value.okWide P W' .any 0 t r) :
    s.post enc P f apart fresh handsOn again W args v W' := by
  have hlt : ∀ p ∈ before, p.block < W.heap.size := fun p hp => hW.lt p hp
  have hold : ∀ p ∈ before, (fun b => decide (b < W.heap.size)) p.block = true := fun p hp => by simpa using hlt p hp
  refine ⟨ds, gs, before, [], pa, pv, hW, hres _ _ _, hargs _ hold, hvars _ hold, World.keptBut_mono (fun p hp => ⟨hp, ?_⟩) (hb.frame (· ∈ before)), fun _ => ?_⟩
  · rw [hps, List.mem_append] at hp
    exact Or.inr hp
  · obtain ⟨_, _, _, _, _, hz, hn⟩ := hW
    refine ⟨hok, _, _, ([] ++ pa) ++ pv, ⟨[] ++ pa, pv, trodAll_append (hargs _ (fun _ _ => rfl)) (hres _ _ _), hvars _ (fun _ _ => rfl), rfl, ?_, ?_⟩, ?_⟩
    · intro b off hp
      have hin : MemPlace.cell b off ∈ before := by rw [hps]; simpa using hp
      rw [hb.frozen (hlt _ hin)]
      exact hz b off hin
    · intro ha
      have := hn ha
      rw [hps] at this
      simpa using this
    · intro p hp _
      rw [hps]
      simpa using hp
end

end Go.Proofs.YtcaekfebnhedpaaGreatDoor
set_option linter.unusedVariables false
set_option linter.unusedSimpArgs false
set_option maxRecDepth 100000
namespace Go.Proofs.YtcaekfebnhedpaaGreatDoor
open Go.ChangeShapes Go.WideShapes Go.ChangeAt Go.RowKit Go.Deep

/-- An argument reads as it did where below the old heap all stands. -/
theorem arg_stays {H : Type} {enc : TypeId × Value → H} {P : Program} {t : TypeId} (hl : laidOutB P = true) (hr : P.readableRec t = true) (hrow : t < P.types.size) {W W' : World} {v : Value} {d : DataW H} {ps : List MemPlace}
    (h : DataW.Trod enc P W 0 (fun _ => true) true t v d ps) (hb : Below W.heap.size W W') (hlt : ∀ x ∈ ps, x.block < W.heap.size) (sp : Nat → Bool) (hsp : ∀ x ∈ ps, sp x.block = true) :
    DataW.Trod enc P W' 0 sp true t v d ps :=
  WideElems.Trod_stays hl hr hrow h (fun x hx => hb.same (hlt x hx)) hsp
theorem laidOut : laidOutB Tryz.prog = true := by kernel_rfl

theorem str_of_trod {H : Type} {enc : TypeId × Value → H} {W : World} {base : Nat} {sp : Nat → Bool} {n : Nat} {v : Value} {d : DataW H} {ps : List MemPlace}
    (h : DataW.trod enc Tryz.prog W base sp true n 9 [v] = some (d, ps)) : ∃ l : List UInt8, v = .string (bs l) ∧ d = .lit (.string l) := by
  obtain ⟨s, e1, e2⟩ := DataW.trod_string Tryz.underlying9 h
  simp at e1 e2
  obtain ⟨⟨rfl, _⟩, _⟩ := e2
  exact ⟨s.data.toList, e1, rfl⟩
/-- A text as an argument. -/
theorem opS {H : Type} {enc : TypeId × Value → H} {W : World} {base : Nat} {v : Value} {d : DataW H} {ps : List MemPlace} (hv : Value.okWide Tryz.prog W .any base 9 v)
    (h : DataW.Trod enc Tryz.prog W 0 (fun _ => true) true 9 v d ps) : ∃ l : List UInt8, v = .string (bs l) ∧ d = .lit (.string l) := by
  obtain ⟨s, rfl, rfl, _, _⟩ := Go.ChangeMaps.open_string Tryz.underlying9 hv h
  exact ⟨s.data.toList, rfl, rfl⟩
/-- A number as an argument. -/
theorem opI {H : Type} {enc : TypeId × Value → H} {W : World} {base : Nat} {v : Value} {d : DataW H} {ps : List MemPlace} (hv : Value.okWide Tryz.prog W .any base 3 v)
    (h : DataW.Trod enc Tryz.prog W 0 (fun _ => true) true 3 v d ps) : ∃ n : Int, v = .int .i64 n ∧ -9223372036854775808 ≤ n ∧ n ≤ 9223372036854775807 := by
  obtain ⟨n, rfl, _, _, wf⟩ := open_int Tryz.underlying3 hv h
  refine ⟨n, rfl, ?_⟩
  simpa [Lit.wf, IntKind.min, IntKind.max, IntKind.signed, IntKind.bits] using wf
end Go.Proofs.YtcaekfebnhedpaaGreatDoor
