/- Joined texts: Apply in every case; alive; Ranges that a law writes, in plain Lean: one span told by its numbers is read as that span; FOR A PROOF OF AN '..UptoSaid': WHAT THE BOUND GIVES. Copy it as <Name>Bulk.lean (put your seat's Name for YtcaekfebnhedpaaGreatDoor, the bound of 'uptoSmall' for 1048576), name it in GOCLAIM.json's 'order' behind <Name>Rows. By an AI agent, Sun Nov 15 2026; Small lemmas for the last step of a row: what a call left is known below the old heap alone ('Below'). Lines of the guide's worked small lemmas turned to this claim; no conditions of ours. The conditions stand in each line. -/
import Derived.Test.YtcaekfebnhedpaaGreatDoorRows
import Derived.Test.YtcaekfebnhedpaaGreatDoorM13
import Derived.Test.YtcaekfebnhedpaaGreatDoorM18
import Derived.Test.YtcaekfebnhedpaaGreatDoorM20
import Derived.Test.YtcaekfebnhedpaaGreatDoorM32
import Derived.Test.YtcaekfebnhedpaaGreatDoorM33
import Derived.Test.YtcaekfebnhedpaaGreatDoorM35
import Derived.Test.YtcaekfebnhedpaaGreatDoorM37
import Derived.Test.YtcaekfebnhedpaaGreatDoorM38
import Derived.Lib.SlBytesConst
import Derived.Below
import Derived.ChangeSame
set_option linter.unusedVariables false
set_option linter.unusedSimpArgs false
namespace Go.Proofs.YtcaekfebnhedpaaGreatDoor
open Go.RowKit

set_option maxRecDepth 100000
set_option maxHeartbeats 8000000 in
theorem apply_any (A : Option Addr) (n c : Nat) (q : List Fld) (st : Int) (rs : List UInt8) (minor : Int) (B : Option Addr) (m d : Nat) (l : List Fld) (Y : Option Addr) (k e : Nat) (b : List UInt8) (w : World) (ht : Tab w) (hM : MaxL w)
    (hq : RdF w A n q) (hn : n ≤ 1048576) (hqs : FlenS q) (hqj : (Frs.getL q Rg.rngR).length ≤ 1073741824) (hl : RdF w B m l) (hm : m ≤ 1048576) (hls : FlenS l) (hb : RdB w Y k b) (hk : k ≤ 4194304) (hke : k ≤ e) (hee : e ≤ maxLen) :
    Calls Tryz.prog 17 #[.slice A n c, respV st rs minor B m d, .slice Y k e] w fun x w' => ApOut w minor (Rg.applyL q st rs l b) x w' := by
  by_cases has : Rg.asIs q st l b
  · have h := apply_keep A n c q st rs minor B m d l Y k e b w ht hM hq hn hqs hqj hl hm hls hb hk hke hee has
    unfold Rg.applyL
    rw [if_pos has]; exact h
  · have hp := Rg.parse_in (Frs.getL q Rg.rngR) b.length
    have h190 : (Rg.parseL (Frs.getL q Rg.rngR) b.length).2 ≠ 190 := fun h => has (.inr (.inr (.inl h)))
    by_cases h191 : (Rg.parseL (Frs.getL q Rg.rngR) b.length).2 = 191
    · have h := apply_unsat A n c q st rs minor B m d l Y k e b w ht hM hq hn hqs hqj hl hm hls hb hk hke hee has h191
      unfold Rg.applyL
      rw [if_neg has, if_pos h191]; exact h
    · have h0 : (Rg.parseL (Frs.getL q Rg.rngR) b.length).2 = 0 := by rcases hp.1 with h | h | h; exact h; exact absurd h h190; exact absurd h h191
      obtain ⟨p1, p2, p3⟩ := hp.2.2 h0
      have he : Rg.parseL (Frs.getL q Rg.rngR) b.length = ((Rg.parseL (Frs.getL q Rg.rngR) b.length).1, 0) := by rw [← h0]
      by_cases hl1 : (Rg.parseL (Frs.getL q Rg.rngR) b.length).1.length = 1
      · have hA : Rg.applyL q st rs l b = Rg.oneA l b ((Rg.parseL (Frs.getL q Rg.rngR) b.length).1[0]'(by omega)) := by
          unfold Rg.applyL
          rw [if_neg has, if_neg h191, dif_pos hl1]
        obtain ⟨p, hp1⟩ := List.length_eq_one_iff.1 hl1
        have hx : (Rg.parseL (Frs.getL q Rg.rngR) b.length).1[0]'(by omega) = p := by rw [List.getElem_of_eq hp1 (by omega)]; rfl
        rw [hA, hx]
        rw [hp1] at he p1
        exact apply_one A n c q st rs minor B m d l Y k e b w ht hM hq hn hqs hqj hl hm hls hb hk hke hee p has he (p1 p (by simp))
      · have hA : Rg.applyL q st rs l b = Rg.manyA l b (Rg.parseL (Frs.getL q Rg.rngR) b.length).1 := by
          unfold Rg.applyL
          rw [if_neg has, if_neg h191, dif_neg hl1]
        rw [hA]
        exact apply_many A n c q st rs minor B m d l Y k e b w ht hM hq hn hqs hqj hl hm hls hb hk hke hee _ has he p1 hl1 p3
theorem rdB_lit (w : World) (l : List UInt8) (t : TypeId) (cs : Array Value) (fr : Nat × Nat) (h : cs = (l.map bytV).toArray) : RdB (w.alloc (.cells cs t fr)) (some ⟨w.heap.size, 0, none⟩) l.length l := by
  subst h
  refine ⟨rfl, by simp, fun _ => ⟨w.heap.size, 0, rfl, by simp, fun j u hu => ?_⟩⟩
  rw [Nat.zero_add, cell_of_row _ _ _ _ t fr (heap_alloc_new w _)]
  simpa using hu
namespace Rg
abbrev al1 : List UInt8 := [98, 121, 116, 101, 115, 61, 48, 45, 49, 44, 32, 45, 49, 44, 32, 57, 45]
abbrev al2 : List UInt8 := [98, 121, 116, 101, 115, 61, 49, 45, 50]
theorem al_parse : parseL al1 5 = ([(0, 1), (4, 4)], 0) := by decide +kernel
theorem al_parse2 : parseL al2 4 = ([(1, 2)], 0) := by decide +kernel
theorem al_get : Frs.getL [(rngP, al2)] rngR = al2 := by decide +kernel
theorem al_val : valuesL [(rngP, al2)] rngR = [al2] := by decide +kernel
theorem al_has : ¬ asIs [(rngP, al2)] 200 [] [97, 98, 99, 100] := by
  unfold asIs
  rw [al_get, al_val]
  rintro (h | h | h | h)
  · exact h rfl
  · cases h
  · have := al_parse2
    simp only [List.length_cons, List.length_nil] at h
    rw [show ((0 + 1 + 1 + 1 + 1 : Nat) : Int) = 4 from rfl, this] at h; cases h
  · have : holdsL [(rngP, al2)] [] = true := by decide +kernel
    rw [this] at h; cases h
end Rg
set_option maxHeartbeats 4000000 in
theorem alive19_any (w : World) (ht : Tab w) (hM : MaxL w) : Calls Tryz.prog 10 #[] w fun e w' => e = .returned (.bool true) ∧ Below w.heap.size w w' := by
  have hC := parse19_p Rg.al1 5 w hM (by simp) (by omega) (by omega)
  unfold RgOut at hC
  rw [Rg.al_parse] at hC
  dsimp only at hC
  go_enter Tryz.func10, Tryz.ntmps10
  go_wp2_with fail
  refine hC.mono ?_
  rintro e w1 ⟨A1, n1, c1, rfl, hP, hb1⟩
  clear hC
  have hn1 : n1 = 2 := by have := hP.rd.1; simpa using this.symm
  subst hn1
  have hal1 := alloc_below w1 (.cells #[.string (bs Rg.rngP), .string (bs Rg.al2)] 46)
  have hf := one_rdF w1 Rg.rngP Rg.al2 46
  have hal2 := alloc_below (w1.alloc (.cells #[.string (bs Rg.rngP), .string (bs Rg.al2)] 46)) (.cells #[.int .u8 97, .int .u8 98, .int .u8 99, .int .u8 100] 5 (4, 5))
  have hby := rdB_lit (w1.alloc (.cells #[.string (bs Rg.rngP), .string (bs Rg.al2)] 46)) [97, 98, 99, 100] 5 _ (4, 5) rfl
  rw [show (w1.alloc (.cells #[.string (bs Rg.rngP), .string (bs Rg.al2)] 46)).heap.size = w1.heap.size + 1 by simp] at hby
  have hcvc : (convert 32 32 (.slice (some ⟨w1.heap.size + 1, 0, none⟩) 4 4)).run Tryz.prog ((w1.alloc (.cells #[.string ⟨#[82, 97, 110, 103, 101]⟩, .string ⟨#[98, 121, 116, 101, 115, 61, 49, 45, 50]⟩] 46)).alloc (.cells #[.int .u8 97, .int .u8 98, .int .u8 99, .int .u8 100] 5)) = .ok (.slice (some ⟨w1.heap.size + 1, 0, none⟩) 4 4) ((w1.alloc (.cells #[.string (bs Rg.rngP), .string (bs Rg.al2)] 46)).alloc (.cells #[.int .u8 97, .int .u8 98, .int .u8 99, .int .u8 100] 5 (4, 5))) := by
    have h := Lib.run_convert_bytes_const (P := Tryz.prog) (w1.alloc (.cells #[.string (bs Rg.rngP), .string (bs Rg.al2)] 46)) 32 5 #[.int .u8 97, .int .u8 98, .int .u8 99, .int .u8 100] 4 4 Tryz.underlying32 Tryz.underlying5
    rw [show (w1.alloc (.cells #[.string (bs Rg.rngP), .string (bs Rg.al2)] 46)).heap.size = w1.heap.size + 1 by simp] at h
    exact h
  have hf2 := hf.step hal2
  have hbb := bnext (bnext hb1 hal1 hb1.size) hal2 (by have := hb1.size; simp; omega)
  have hP2 := (hP.step hal1).step hal2
  have hC := apply_one (some ⟨w1.heap.size, 0, none⟩) 1 1 [(Rg.rngP, Rg.al2)] 200 [] 0 none 0 0 [] (some ⟨w1.heap.size + 1, 0, none⟩) 4 4 [97, 98, 99, 100] _ (tab_b ht hbb) (maxl_b hM hbb) hf2 (by omega) (by intro f hf; rw [List.mem_singleton] at hf; subst hf; simp) (by rw [Rg.al_get]; simp) (RdF.nil _ _) (by omega) (by intro f hf; cases hf) hby (by omega) (by omega) (by unfold maxLen; omega) (1, 2) Rg.al_has (by rw [Rg.al_get]; exact Rg.al_parse2) (by simp)
  unfold ApOut respV Rg.oneA at hC
  dsimp only at hC
  clear hf hf2 hby hal1 hal2 hb1 hP
  go_wp2_with fail
  refine hC.mono ?_
  rintro e w2 ⟨A2, n2, c2, Y2, k2, e2, rfl, hF, hB, hb2⟩
  clear hC
  have hb3 := bnext hbb hb2 hbb.size
  have hP3 := (hP2.step hb2).rd
  have hal3 := alloc_below w2 (.cells #[.int .i64 206, .string (bs Rg.partT), .int .i64 0, .slice A2 n2 c2] 31)
  have hB3 := hB.rd.step hal3
  have hcv := fun c9 => conv_bs hB3 c9
  rw [show Rg.pieceL (1, 2) [97, 98, 99, 100] = [98, 99] from rfl] at hcv
  obtain ⟨g, oo, x, y, rfl, hg, HX, s0, s1⟩ := (hP3.step hal3).at_ (k := 1) (by omega)
  have hXY := HX.out
  simp only [List.getElem?_cons_succ, List.getElem?_cons_zero, Option.some.injEq, Prod.mk.injEq] at hXY
  obtain ⟨rfl, rfl⟩ := hXY
  simp only [Nat.one_mul] at s0 s1
  have hb4 := bnext hb3 hal3 hb3.size
  clear hP2 hP3 hB hB3 hF hb2 HX hal3
  go_wp2
  go_ret
  exact ⟨rfl, hb4⟩
end Go.Proofs.YtcaekfebnhedpaaGreatDoor
set_option linter.unusedVariables false
set_option linter.unusedSimpArgs false
namespace Go.Proofs.YtcaekfebnhedpaaGreatDoor
open Go.RowKit

set_option maxRecDepth 100000
namespace Rg
theorem pieces_pl (c : UInt8) : ∀ (s cur : List UInt8), (∀ b ∈ s, b ≠ 34 ∧ b ≠ c) → pieces c s false cur = [cur ++ s]
  | [], cur, _ => by simp [pieces]
  | b :: r, cur, h => by
    obtain ⟨h1, h2⟩ := h b (by simp)
    have ih := pieces_pl c r (cur ++ [b]) (fun x hx => h x (by simp [hx]))
    cases r with
    | nil =>
      simp only [pieces, Bool.false_and, Bool.not_false, Bool.true_and]
      simp [h1, h2, pieces]
    | cons d t =>
      simp only [pieces, Bool.false_and, Bool.not_false, Bool.true_and] at ih ⊢
      rw [if_neg (by simp), if_neg (by simpa using h1), if_neg (by simpa using h2)]
      simpa using ih
theorem decFrom_snoc {b : UInt8} {d : Nat} (hb : Lib.digitVal b = some d) : ∀ (s : List UInt8) (a n : Nat), Lib.decFrom a s = some n → Lib.decFrom a (s ++ [b]) = some (n * 10 + d)
  | [], a, n, h => by
    injection h with h; subst h
    rw [List.nil_append, Lib.decFrom, hb]; rfl
  | x :: r, a, n, h => by
    rw [List.cons_append]
    rw [Lib.decFrom] at h ⊢
    cases hx : Lib.digitVal x with
    | none => rw [hx] at h; cases h
    | some e => rw [hx] at h; exact decFrom_snoc hb r _ n h
theorem dig_ok (j : Nat) (h : j < 10) : digB (UInt8.ofNat (48 + j)) = true ∧ Lib.digitVal (UInt8.ofNat (48 + j)) = some j := by
  have ht : (UInt8.ofNat (48 + j)).toNat = 48 + j := by rw [UInt8.toNat_ofNat']; omega
  have hd : digB (UInt8.ofNat (48 + j)) = true := by unfold digB; rw [ht]; exact decide_eq_true (by omega)
  refine ⟨hd, ?_⟩
  rw [digitVal_yes hd, ht]; congr 1; omega
theorem dec_all (k : Nat) : (Lib.decDigits k).all digB = true ∧ Lib.decFrom 0 (Lib.decDigits k) = some k ∧ Lib.decDigits k ≠ [] := by
  induction k using Nat.strongRecOn with
  | _ k ih =>
    rw [Lib.decDigits]
    split
    · obtain ⟨h1, h2⟩ := dig_ok k (by omega)
      refine ⟨by rw [List.all_cons, h1]; rfl, ?_, by simp⟩
      rw [Lib.decFrom, h2]
      show Lib.decFrom (0 * 10 + k) [] = some k
      rw [Nat.zero_mul, Nat.zero_add]; rfl
    · obtain ⟨h1, h2⟩ := dig_ok (k % 10) (by omega)
      obtain ⟨i1, i2, i3⟩ := ih (k / 10) (by omega)
      refine ⟨by rw [List.all_append, i1, List.all_cons, h1]; rfl, ?_, by simp⟩
      rw [decFrom_snoc h2 _ _ _ i2]
      congr 1; omega
theorem dec_le : ∀ (d k : Nat), k < 10 ^ (d + 1) → (Lib.decDigits k).length ≤ d + 1
  | 0, k, h => by rw [Lib.decDigits_one (by simpa using h)]; simp
  | d + 1, k, h => by
    rw [Lib.decDigits]
    split
    · simp
    · have := dec_le d (k / 10) (by rw [Nat.pow_succ] at h; omega)
      rw [List.length_append]; simp; omega
theorem num_dec {k : Nat} (h : k < 100000000) : numL (Lib.decDigits k) = (k : Int) := by
  obtain ⟨h1, h2, h3⟩ := dec_all k
  have hl := dec_le 7 k (by simpa using h)
  obtain ⟨n, e, _, e2, _⟩ := numL_good h1 h3 (by omega)
  rw [h2] at e2
  rw [e, Option.some.inj e2]
theorem dig_ne {s : List UInt8} (h : s.all digB = true) : ∀ b ∈ s, 48 ≤ b.toNat ∧ b.toNat ≤ 57 := fun b hb => of_decide_eq_true (List.all_eq_true.1 h b hb)
/-- What stands behind the unit is one element. -/
theorem list_rng {s t : List UInt8} (hs : s.all digB = true) (ht : t.all digB = true) (hne : s ≠ []) : listL (s ++ 45 :: t) = [s ++ 45 :: t] := by
  have hb : ∀ b ∈ s ++ 45 :: t, (48 ≤ b.toNat ∧ b.toNat ≤ 57) ∨ b = 45 := fun b hm => by
    rcases List.mem_append.1 hm with hm | hm
    · exact .inl (dig_ne hs b hm)
    · rcases List.mem_cons.1 hm with rfl | hm
      · exact .inr rfl
      · exact .inl (dig_ne ht b hm)
  have hp : splitL 44 (s ++ 45 :: t) = [s ++ 45 :: t] := by
    unfold splitL
    rw [pieces_pl 44 _ [] (fun b hm => by
      rcases hb b hm with h | rfl
      · constructor <;> (rintro rfl; exact absurd h (by decide))
      · decide)]
    rfl
  have hbl : ∀ b ∈ s ++ 45 :: t, blankB b = false := fun b hm => by
    rcases hb b hm with h | rfl
    · cases hx : blankB b with
      | false => rfl
      | true =>
        unfold blankB at hx
        simp at hx
        rcases hx with rfl | rfl <;> exact absurd h (by decide)
    · rfl
  unfold listL
  rw [hp, List.map_cons, List.map_nil, Val.trim_plainV (by simp) (fun b h => hbl b (mem_of_get? h)) (fun b h => hbl b (mem_of_get? h))]
  simp
theorem span_rng {s t : List UInt8} {size : Int} {a : Nat} (hs : s.all digB = true) (hne : s ≠ []) (ha : numL s = (a : Int)) (hB : t = [] ∨ ((a : Int) ≤ numL t)) :
    spanL size (s ++ 45 :: t) = some ((a : Int), min (if numL t < 0 then size else numL t) (size - 1)) := by
  have hfree : ∀ b ∈ s, b ≠ 45 := fun b hm => by
    have := dig_ne hs b hm
    rintro rfl; exact absurd this (by decide)
  obtain ⟨c1, c2⟩ := Ur.cut_of (c := 45) t s hfree
  have e2 : Ur.cutB 45 (s ++ 45 :: t) = t := by unfold Ur.cutB; rw [c2]; rfl
  have e3 : Ur.hasC 45 (s ++ 45 :: t) = true := by unfold Ur.hasC; rw [c2]; rfl
  unfold spanL
  rw [c1, e2, e3, ha]
  rw [if_neg (by decide)]
  rcases hB with rfl | hB
  · rw [if_neg (by simp), if_neg hne, if_neg (by rw [numL_nil]; omega)]
  · rw [if_neg (by omega), if_neg hne, if_neg (by omega)]
theorem parse_rng {pre s t : List UInt8} {k a : Nat} (hp : pre.length = 6) (hf : fold pre = unitB) (hs : s.all digB = true) (ht : t.all digB = true) (hne : s ≠ []) (ha : numL s = (a : Int)) (hB : t = [] ∨ ((a : Int) ≤ numL t)) (hak : a < k) :
    parseL (pre ++ (s ++ 45 :: t)) (k : Int) = ([((a : Int), min (if numL t < 0 then (k : Int) else numL t) ((k : Int) - 1))], 0) := by
  have htk : (pre ++ (s ++ 45 :: t)).take 6 = pre := by rw [← hp, List.take_left]
  have hdr : (pre ++ (s ++ 45 :: t)).drop 6 = s ++ 45 :: t := by rw [← hp, List.drop_left]
  have hh : headB (pre ++ (s ++ 45 :: t)) = true := by
    unfold headB
    rw [htk, hf, decide_eq_true (by rw [List.length_append]; omega)]; rfl
  have hl := list_rng hs ht hne
  have hg := parse_good (v := pre ++ (s ++ 45 :: t)) (size := (k : Int)) (by omega) hh (by rw [hdr, hl]; simp) (by rw [hdr, hl]; simp)
  rw [hdr, hl] at hg
  refine hg.2.2 _ ?_ (by simp)
  unfold spansL
  rw [span_rng hs hne ha hB]
  unfold spansL
  have hnb := num_bd t
  show some (if fullB _ = true then [_] else []) = _
  rw [if_pos]
  unfold fullB
  refine decide_eq_true ?_
  show (a : Int) ≤ min _ _
  rcases hB with rfl | hB
  · rw [numL_nil, if_pos (by omega)]; omega
  · rw [if_neg (by omega)]; omega
theorem rng_two (pre : List UInt8) {k a b : Nat} (hp : pre.length = 6) (hf : fold pre = unitB) (hak : a < k) (hab : a ≤ b) (ha : a < 100000000) (hb : b < 100000000) :
    parseL (pre ++ (Lib.decDigits a ++ 45 :: Lib.decDigits b)) (k : Int) = ([((a : Int), min (b : Int) ((k : Int) - 1))], 0) := by
  have h := parse_rng hp hf (dec_all a).1 (dec_all b).1 (dec_all a).2.2 (num_dec ha) (.inr (by rw [num_dec hb]; omega)) hak
  rw [num_dec hb, if_neg (by omega)] at h
  exact h
theorem rng_open (pre : List UInt8) {k a : Nat} (hp : pre.length = 6) (hf : fold pre = unitB) (hak : a < k) (ha : a < 100000000) :
    parseL (pre ++ (Lib.decDigits a ++ [45])) (k : Int) = ([((a : Int), (k : Int) - 1)], 0) := by
  have h := parse_rng (t := []) hp hf (dec_all a).1 rfl (dec_all a).2.2 (num_dec ha) (.inl rfl) hak
  rw [numL_nil, if_pos (by omega), show min (k : Int) ((k : Int) - 1) = (k : Int) - 1 by omega] at h
  exact h
/-- A request with one Range. -/
theorem one_has {nm v : List UInt8} {l : List Fld} {b : List UInt8} {p : Sp} (hn : fold nm = rngR) (hp : parseL v b.length = ([p], 0)) (hir : fold nm ≠ fold irR) :
    Frs.getL [(nm, v)] rngR = v ∧ ¬ asIs [(nm, v)] 200 l b := by
  have hv : valuesL [(nm, v)] rngR = [v] := by
    unfold valuesL isB
    rw [List.filter_cons]
    dsimp only
    rw [hn, show fold rngR = rngR from rfl, if_pos (by simp)]
    rfl
  have hi : valuesL [(nm, v)] irR = [] := by
    unfold valuesL isB
    rw [List.filter_cons]
    dsimp only
    rw [if_neg (by simpa using hir)]
    rfl
  have hg : Frs.getL [(nm, v)] rngR = v := by unfold Frs.getL; rw [hv]; exact Lib.join_one _ _
  refine ⟨hg, ?_⟩
  unfold asIs
  rw [hg, hp, hv]
  rintro (h | h | h | h)
  · exact h rfl
  · cases h
  · cases h
  · unfold holdsL at h
    rw [hi] at h
    cases h
end Rg
end Go.Proofs.YtcaekfebnhedpaaGreatDoor
namespace Go.Proofs.YtcaekfebnhedpaaGreatDoor.bulks

theorem one_le {H : Type} (d : DataW H) : 1 ≤ Rows.uptoBulk d := by
  cases d with
  | lit l => cases l <;> simp [Rows.uptoBulk]
  | nil => simp [Rows.uptoBulk]
  | ptr d => simp [Rows.uptoBulk]
  | slice elems spare => simp [Rows.uptoBulk]
  | agg parts => simp [Rows.uptoBulk]
  | iface t d => simp [Rows.uptoBulk]
  | map entries => simp [Rows.uptoBulk]
  | held h => simp [Rows.uptoBulk]

/-- a part's bulk is at most the whole's -/
theorem part_le {H : Type} {d : DataW H} {l : List (DataW H)} (h : d ∈ l) : Rows.uptoBulk d ≤ Rows.uptoBulkAll l := by
  induction l with
  | nil => cases h
  | cons x r ih =>
    simp only [Rows.uptoBulkAll]
    cases List.mem_cons.1 h with
    | inl e => subst e; omega
    | inr e => have := ih e; omega

theorem append {H : Type} (l r : List (DataW H)) : Rows.uptoBulkAll (l ++ r) = Rows.uptoBulkAll l + Rows.uptoBulkAll r := by
  induction l with
  | nil => simp [Rows.uptoBulkAll]
  | cons x l ih => simp only [List.cons_append, Rows.uptoBulkAll, ih]; omega

/-- so many values at the most -/
theorem length_le {H : Type} (l : List (DataW H)) : l.length ≤ Rows.uptoBulkAll l := by
  induction l with
  | nil => simp [Rows.uptoBulkAll]
  | cons x r ih => have := one_le x; simp only [Rows.uptoBulkAll, List.length_cons]; omega

/-- a slice's places, and what they hold -/
theorem slice_le {H : Type} (elems spare : List (DataW H)) : elems.length + spare.length + 1 ≤ Rows.uptoBulk (.slice elems spare) := by
  have h1 := length_le elems
  have h2 := length_le spare
  simp only [Rows.uptoBulk]
  omega
theorem slice_elems {H : Type} (elems spare : List (DataW H)) : Rows.uptoBulkAll elems + 1 ≤ Rows.uptoBulk (.slice elems spare) := by
  simp only [Rows.uptoBulk]
  omega

/-- a string's letters -/
theorem string_eq {H : Type} (bytes : List UInt8) : Rows.uptoBulk (DataW.lit (H := H) (.string bytes)) = bytes.length + 1 := by
  simp [Rows.uptoBulk]

/-- THE BOUND, as the builder hands it over ('hk') -/
theorem bound {H : Type} {l : List (DataW H)} (hk : Rows.uptoSmall H l = true) : Rows.uptoBulkAll l ≤ 1048576 := by
  simpa [Rows.uptoSmall] using hk

/-- ROOM: a slice of n elements of b bytes, grown by append: below the 2^48 bytes that append, make and a Builder bear. Here n up to 2^21, b up to 4,096: put your own numbers. -/
theorem room {n b : Nat} (hn : n ≤ 2097152) (hb : b ≤ 4096) : (n + n / 4 + 192) * b ≤ 281474976710656 := by
  have h : (n + n / 4 + 192) * b ≤ 2621632 * 4096 := Nat.mul_le_mul (by omega) hb
  omega

end Go.Proofs.YtcaekfebnhedpaaGreatDoor.bulks
set_option linter.unusedVariables false
namespace Go.Proofs.YtcaekfebnhedpaaGreatDoor
open Go.RowKit Go.WideShapes Go.ChangeShapes

section
variable {H : Type} {enc : TypeId × Value → H} {P : Program}
theorem post_of_below {f : Func} {s : ChangeSpec} {apart fresh handsOn again : Bool} {W W' : World} {args : Array Value} {v : Value} {ds gs : List (DataW H)} {before pa pv : List MemPlace}
    (hW : DataW.Whole enc P f.params.toList s.vars apart W args.toList ds gs before)
    (hres : ∀ (b : Nat) (sp : Nat → Bool) (hd : Bool), DataW.TrodAll enc P W' b sp hd f.resultTypes.toList (v.resultList f.resultTypes.size) (s.fn H (ds ++ gs)).results [])
    (hargs : ∀ sp : Nat → Bool, (∀ p ∈ before, sp p.block = true) → DataW.TrodAll enc P W' 0 sp true f.params.toList args.toList (s.fn H (ds ++ gs)).args pa)
    (hvars : ∀ sp : Nat → Bool, (∀ p ∈ before, sp p.block = true) → DataW.TrodVars enc P W' sp s.vars (s.fn H (ds ++ gs)).vars pv)
    (hps : before = pa ++ pv) (hb : Below W.heap.size W W')
    (hok : ∀ (j : Nat) (t : TypeId) (r : Value), f.resultTypes[j]? = some t → (v.resultList f.resultTypes.size)[j]? = some r → Value.okWide P W' .any 0 t r) :
    s.post enc P f apart fresh handsOn again W args v W' := by
  have hlt : ∀ p ∈ before, p.block < W.heap.size := fun p hp => hW.lt p hp
  have hold : ∀ p ∈ before, (fun b => decide (b < W.heap.size)) p.block = true := fun p hp => by simpa using hlt p hp
  refine ⟨ds, gs, before, [], pa, pv, hW, hres _ _ _, hargs _ hold, hvars _ hold, World.keptBut_mono (fun p hp => ⟨hp, ?_⟩) (hb.frame (· ∈ before)), fun _ => ?_⟩
  · rw [hps, List.mem_append] at hp
    exact Or.inr hp
  · obtain ⟨_, _, _, _, _, hz, hn⟩ := hW
    refine ⟨hok, _, _, ([] ++ pa) ++ pv, ⟨[] ++ pa, pv, trodAll_append (hargs _ (fun _ _ => rfl)) (hres _ _ _), hvars _ (fun _ _ => rfl), rfl, ?_, ?_⟩, ?_⟩
    · intro b off hp
      have hin : MemPlace.cell b off ∈ before := by rw [hps]; simpa using hp
      rw [hb.frozen (hlt _ hin)]
      exact hz b off hin
    · intro ha
      have := hn ha
      rw [hps] at this
      simpa using this
    · intro p hp _
      rw [hps]
      simpa using hp
end

end Go.Proofs.YtcaekfebnhedpaaGreatDoor
