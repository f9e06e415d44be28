/- Joined texts: Apply in every case; alive; The reference's Apply in every case; How long Apply's answers are; the document's Spare. The conditions stand in each line. -/
import Derived.Test.YtcaekfebnhedpaaGreatDoorM32
import Derived.Test.YtcaekfebnhedpaaGreatDoorM33
import Derived.Test.YtcaekfebnhedpaaGreatDoorM38
import Derived.Test.YtcaekfebnhedpaaGreatDoorM40
import Derived.Test.YtcaekfebnhedpaaGreatDoorM41
import Derived.Test.YtcaekfebnhedpaaGreatDoorM42
import Derived.Test.YtcaekfebnhedpaaGreatDoorM43
import Derived.Lib.SlBytesConst
set_option linter.unusedVariables false
set_option linter.unusedSimpArgs false
namespace Go.Proofs.YtcaekfebnhedpaaGreatDoor
open Go.RowKit

set_option maxRecDepth 100000
set_option maxHeartbeats 8000000 in
theorem apply_any (A : Option Addr) (n c : Nat) (q : List Fld) (st : Int) (rs : List UInt8) (minor : Int) (B : Option Addr) (m d : Nat) (l : List Fld) (Y : Option Addr) (k e : Nat) (b : List UInt8) (w : World) (ht : Tab w) (hM : MaxL w)
    (hq : RdF w A n q) (hn : n ≤ 1048576) (hqs : FlenS q) (hqj : (Frs.getL q Rg.rngR).length ≤ 1073741824) (hl : RdF w B m l) (hm : m ≤ 1048576) (hls : FlenS l) (hb : RdB w Y k b) (hk : k ≤ 4194304) (hke : k ≤ e) (hee : e ≤ maxLen) :
    Calls Tryz.prog 17 #[.slice A n c, respV st rs minor B m d, .slice Y k e] w fun x w' => ApOut w minor (Rg.applyL q st rs l b) x w' := by
  by_cases has : Rg.asIs q st l b
  · have h := apply_keep A n c q st rs minor B m d l Y k e b w ht hM hq hn hqs hqj hl hm hls hb hk hke hee has
    unfold Rg.applyL
    rw [if_pos has]; exact h
  · have hp := Rg.parse_in (Frs.getL q Rg.rngR) b.length
    have h190 : (Rg.parseL (Frs.getL q Rg.rngR) b.length).2 ≠ 190 := fun h => has (.inr (.inr (.inl h)))
    by_cases h191 : (Rg.parseL (Frs.getL q Rg.rngR) b.length).2 = 191
    · have h := apply_unsat A n c q st rs minor B m d l Y k e b w ht hM hq hn hqs hqj hl hm hls hb hk hke hee has h191
      unfold Rg.applyL
      rw [if_neg has, if_pos h191]; exact h
    · have h0 : (Rg.parseL (Frs.getL q Rg.rngR) b.length).2 = 0 := by rcases hp.1 with h | h | h; exact h; exact absurd h h190; exact absurd h h191
      obtain ⟨p1, p2, p3⟩ := hp.2.2 h0
      have he : Rg.parseL (Frs.getL q Rg.rngR) b.length = ((Rg.parseL (Frs.getL q Rg.rngR) b.length).1, 0) := by rw [← h0]
      by_cases hl1 : (Rg.parseL (Frs.getL q Rg.rngR) b.length).1.length = 1
      · have hA : Rg.applyL q st rs l b = Rg.oneA l b ((Rg.parseL (Frs.getL q Rg.rngR) b.length).1[0]'(by omega)) := by
          unfold Rg.applyL
          rw [if_neg has, if_neg h191, dif_pos hl1]
        obtain ⟨p, hp1⟩ := List.length_eq_one_iff.1 hl1
        have hx : (Rg.parseL (Frs.getL q Rg.rngR) b.length).1[0]'(by omega) = p := by rw [List.getElem_of_eq hp1 (by omega)]; rfl
        rw [hA, hx]
        rw [hp1] at he p1
        exact apply_one A n c q st rs minor B m d l Y k e b w ht hM hq hn hqs hqj hl hm hls hb hk hke hee p has he (p1 p (by simp))
      · have hA : Rg.applyL q st rs l b = Rg.manyA l b (Rg.parseL (Frs.getL q Rg.rngR) b.length).1 := by
          unfold Rg.applyL
          rw [if_neg has, if_neg h191, dif_neg hl1]
        rw [hA]
        exact apply_many A n c q st rs minor B m d l Y k e b w ht hM hq hn hqs hqj hl hm hls hb hk hke hee _ has he p1 hl1 p3
theorem rdB_lit (w : World) (l : List UInt8) (t : TypeId) (cs : Array Value) (fr : Nat × Nat) (h : cs = (l.map bytV).toArray) : RdB (w.alloc (.cells cs t fr)) (some ⟨w.heap.size, 0, none⟩) l.length l := by
  subst h
  refine ⟨rfl, by simp, fun _ => ⟨w.heap.size, 0, rfl, by simp, fun j u hu => ?_⟩⟩
  rw [Nat.zero_add, cell_of_row _ _ _ _ t fr (heap_alloc_new w _)]
  simpa using hu
namespace Rg
abbrev al1 : List UInt8 := [98, 121, 116, 101, 115, 61, 48, 45, 49, 44, 32, 45, 49, 44, 32, 57, 45]
abbrev al2 : List UInt8 := [98, 121, 116, 101, 115, 61, 49, 45, 50]
theorem al_parse : parseL al1 5 = ([(0, 1), (4, 4)], 0) := by decide +kernel
theorem al_parse2 : parseL al2 4 = ([(1, 2)], 0) := by decide +kernel
theorem al_get : Frs.getL [(rngP, al2)] rngR = al2 := by decide +kernel
theorem al_val : valuesL [(rngP, al2)] rngR = [al2] := by decide +kernel
theorem al_has : ¬ asIs [(rngP, al2)] 200 [] [97, 98, 99, 100] := by
  unfold asIs
  rw [al_get, al_val]
  rintro (h | h | h | h)
  · exact h rfl
  · cases h
  · have := al_parse2
    simp only [List.length_cons, List.length_nil] at h
    rw [show ((0 + 1 + 1 + 1 + 1 : Nat) : Int) = 4 from rfl, this] at h; cases h
  · have : holdsL [(rngP, al2)] [] = true := by decide +kernel
    rw [this] at h; cases h
end Rg
set_option maxHeartbeats 4000000 in
theorem alive19_any (w : World) (ht : Tab w) (hM : MaxL w) : Calls Tryz.prog 10 #[] w fun e w' => e = .returned (.bool true) ∧ Below w.heap.size w w' := by
  have hC := parse19_p Rg.al1 5 w hM (by simp) (by omega) (by omega)
  unfold RgOut at hC
  rw [Rg.al_parse] at hC
  dsimp only at hC
  go_enter Tryz.func10, Tryz.ntmps10
  go_wp2_with fail
  refine hC.mono ?_
  rintro e w1 ⟨A1, n1, c1, rfl, hP, hb1⟩
  clear hC
  have hn1 : n1 = 2 := by have := hP.rd.1; simpa using this.symm
  subst hn1
  have hal1 := alloc_below w1 (.cells #[.string (bs Rg.rngP), .string (bs Rg.al2)] 46)
  have hf := one_rdF w1 Rg.rngP Rg.al2 46
  have hal2 := alloc_below (w1.alloc (.cells #[.string (bs Rg.rngP), .string (bs Rg.al2)] 46)) (.cells #[.int .u8 97, .int .u8 98, .int .u8 99, .int .u8 100] 5 (4, 5))
  have hby := rdB_lit (w1.alloc (.cells #[.string (bs Rg.rngP), .string (bs Rg.al2)] 46)) [97, 98, 99, 100] 5 _ (4, 5) rfl
  rw [show (w1.alloc (.cells #[.string (bs Rg.rngP), .string (bs Rg.al2)] 46)).heap.size = w1.heap.size + 1 by simp] at hby
  have hcvc : (convert 32 32 (.slice (some ⟨w1.heap.size + 1, 0, none⟩) 4 4)).run Tryz.prog ((w1.alloc (.cells #[.string ⟨#[82, 97, 110, 103, 101]⟩, .string ⟨#[98, 121, 116, 101, 115, 61, 49, 45, 50]⟩] 46)).alloc (.cells #[.int .u8 97, .int .u8 98, .int .u8 99, .int .u8 100] 5)) = .ok (.slice (some ⟨w1.heap.size + 1, 0, none⟩) 4 4) ((w1.alloc (.cells #[.string (bs Rg.rngP), .string (bs Rg.al2)] 46)).alloc (.cells #[.int .u8 97, .int .u8 98, .int .u8 99, .int .u8 100] 5 (4, 5))) := by
    have h := Lib.run_convert_bytes_const (P := Tryz.prog) (w1.alloc (.cells #[.string (bs Rg.rngP), .string (bs Rg.al2)] 46)) 32 5 #[.int .u8 97, .int .u8 98, .int .u8 99, .int .u8 100] 4 4 Tryz.underlying32 Tryz.underlying5
    rw [show (w1.alloc (.cells #[.string (bs Rg.rngP), .string (bs Rg.al2)] 46)).heap.size = w1.heap.size + 1 by simp] at h
    exact h
  have hf2 := hf.step hal2
  have hbb := bnext (bnext hb1 hal1 hb1.size) hal2 (by have := hb1.size; simp; omega)
  have hP2 := (hP.step hal1).step hal2
  have hC := apply_one (some ⟨w1.heap.size, 0, none⟩) 1 1 [(Rg.rngP, Rg.al2)] 200 [] 0 none 0 0 [] (some ⟨w1.heap.size + 1, 0, none⟩) 4 4 [97, 98, 99, 100] _ (tab_b ht hbb) (maxl_b hM hbb) hf2 (by omega) (by intro f hf; rw [List.mem_singleton] at hf; subst hf; simp) (by rw [Rg.al_get]; simp) (RdF.nil _ _) (by omega) (by intro f hf; cases hf) hby (by omega) (by omega) (by unfold maxLen; omega) (1, 2) Rg.al_has (by rw [Rg.al_get]; exact Rg.al_parse2) (by simp)
  unfold ApOut respV Rg.oneA at hC
  dsimp only at hC
  clear hf hf2 hby hal1 hal2 hb1 hP
  go_wp2_with fail
  refine hC.mono ?_
  rintro e w2 ⟨A2, n2, c2, Y2, k2, e2, rfl, hF, hB, hb2⟩
  clear hC
  have hb3 := bnext hbb hb2 hbb.size
  have hP3 := (hP2.step hb2).rd
  have hal3 := alloc_below w2 (.cells #[.int .i64 206, .string (bs Rg.partT), .int .i64 0, .slice A2 n2 c2] 31)
  have hB3 := hB.rd.step hal3
  have hcv := fun c9 => conv_bs hB3 c9
  rw [show Rg.pieceL (1, 2) [97, 98, 99, 100] = [98, 99] from rfl] at hcv
  obtain ⟨g, oo, x, y, rfl, hg, HX, s0, s1⟩ := (hP3.step hal3).at_ (k := 1) (by omega)
  have hXY := HX.out
  simp only [List.getElem?_cons_succ, List.getElem?_cons_zero, Option.some.injEq, Prod.mk.injEq] at hXY
  obtain ⟨rfl, rfl⟩ := hXY
  simp only [Nat.one_mul] at s0 s1
  have hb4 := bnext hb3 hal3 hb3.size
  clear hP2 hP3 hB hB3 hF hb2 HX hal3
  go_wp2
  go_ret
  exact ⟨rfl, hb4⟩
end Go.Proofs.YtcaekfebnhedpaaGreatDoor
set_option linter.unusedVariables false
set_option linter.unusedSimpArgs false
namespace Go.Proofs.YtcaekfebnhedpaaGreatDoor
open Go.RowKit

set_option maxRecDepth 100000
set_option maxHeartbeats 8000000 in
theorem rapply_any (A : Option Addr) (n c : Nat) (q : List Fld) (st : Int) (rs : List UInt8) (minor : Int) (B : Option Addr) (m d : Nat) (l : List Fld) (Y : Option Addr) (k e : Nat) (b : List UInt8) (w : World) (ht : Tab w) (hM : MaxL w)
    (hq : RdF w A n q) (hn : n ≤ 1048576) (hqs : FlenS q) (hqj : (Frs.getL q Rg.rngR).length ≤ 1073741824) (hl : RdF w B m l) (hm : m ≤ 1048576) (hls : FlenS l) (hb : RdB w Y k b) (hk : k ≤ 4194304) (hke : k ≤ e) (hee : e ≤ maxLen) :
    Calls Tryz.prog 18 #[.slice A n c, respV st rs minor B m d, .slice Y k e] w fun x w' => ApOut w minor (Rg.applyL q st rs l b) x w' := by
  by_cases has : Rg.asIs q st l b
  · have h := rapply_keep A n c q st rs minor B m d l Y k e b w ht hM hq hn hqs hqj hl hm hls hb hk hke hee has
    unfold Rg.applyL
    rw [if_pos has]; exact h
  · have hp := Rg.parse_in (Frs.getL q Rg.rngR) b.length
    have h190 : (Rg.parseL (Frs.getL q Rg.rngR) b.length).2 ≠ 190 := fun h => has (.inr (.inr (.inl h)))
    by_cases h191 : (Rg.parseL (Frs.getL q Rg.rngR) b.length).2 = 191
    · have h := rapply_unsat A n c q st rs minor B m d l Y k e b w ht hM hq hn hqs hqj hl hm hls hb hk hke hee has h191
      unfold Rg.applyL
      rw [if_neg has, if_pos h191]; exact h
    · have h0 : (Rg.parseL (Frs.getL q Rg.rngR) b.length).2 = 0 := by rcases hp.1 with h | h | h; exact h; exact absurd h h190; exact absurd h h191
      obtain ⟨p1, p2, p3⟩ := hp.2.2 h0
      have he : Rg.parseL (Frs.getL q Rg.rngR) b.length = ((Rg.parseL (Frs.getL q Rg.rngR) b.length).1, 0) := by rw [← h0]
      by_cases hl1 : (Rg.parseL (Frs.getL q Rg.rngR) b.length).1.length = 1
      · have hA : Rg.applyL q st rs l b = Rg.oneA l b ((Rg.parseL (Frs.getL q Rg.rngR) b.length).1[0]'(by omega)) := by
          unfold Rg.applyL
          rw [if_neg has, if_neg h191, dif_pos hl1]
        obtain ⟨p, hp1⟩ := List.length_eq_one_iff.1 hl1
        have hx : (Rg.parseL (Frs.getL q Rg.rngR) b.length).1[0]'(by omega) = p := by rw [List.getElem_of_eq hp1 (by omega)]; rfl
        rw [hA, hx]
        rw [hp1] at he p1
        exact rapply_one A n c q st rs minor B m d l Y k e b w ht hM hq hn hqs hqj hl hm hls hb hk hke hee p has he (p1 p (by simp))
      · have hA : Rg.applyL q st rs l b = Rg.manyA l b (Rg.parseL (Frs.getL q Rg.rngR) b.length).1 := by
          unfold Rg.applyL
          rw [if_neg has, if_neg h191, dif_neg hl1]
        rw [hA]
        exact rapply_many A n c q st rs minor B m d l Y k e b w ht hM hq hn hqs hqj hl hm hls hb hk hke hee _ has he p1 hl1 p3
end Go.Proofs.YtcaekfebnhedpaaGreatDoor
set_option linter.unusedVariables false
set_option linter.unusedSimpArgs false
namespace Go.Proofs.YtcaekfebnhedpaaGreatDoor
open Go.RowKit

set_option maxRecDepth 100000
theorem withoutF_leR (l : List Fld) (a : List (List UInt8)) : (withoutF l a).length ≤ l.length := List.length_filter_le _ _
theorem putF_leR (l : List Fld) (n v : List UInt8) : (Rg.putF l n v).length ≤ l.length + 1 := by
  unfold Rg.putF
  rw [List.length_append]
  have := withoutF_leR l [n]
  simp only [List.length_cons, List.length_nil]; omega
theorem partL_lenR (mark kind : List UInt8) (typed : Bool) (b : List UInt8) (p : Rg.Sp) (h1 : mark.length ≤ 100) (h2 : kind.length ≤ 4194304) (h3 : b.length ≤ 4194304) (h4 : (Rg.placeL p b.length).length ≤ 100) : (Rg.partL mark kind typed b p).length ≤ 8400000 := by
  unfold Rg.partL Rg.pieceL
  cases typed <;> simp <;> omega
theorem flat_lenR (f : Rg.Sp → List UInt8) (k : Nat) : ∀ q : List Rg.Sp, (∀ p ∈ q, (f p).length ≤ k) → (q.map f).flatten.length ≤ q.length * k
  | [], _ => by simp
  | p :: q, h => by
    have h1 := h p (by simp)
    have h2 := flat_lenR f k q (fun x hx => h x (by simp [hx]))
    rw [List.map_cons, List.flatten_cons, List.length_append, List.length_cons, Nat.succ_mul]
    omega
theorem applyL_len (q : List Fld) (st : Int) (rs : List UInt8) (l : List Fld) (b : List UInt8) (hk : (Frs.getL l Rg.ctR).length ≤ 4194304) (hb : b.length ≤ 4194304) :
    (Rg.applyL q st rs l b).l.length ≤ l.length + 1 ∧ (Rg.applyL q st rs l b).b.length ≤ 100000000 := by
  have hp := Rg.parse_in (Frs.getL q Rg.rngR) b.length
  unfold Rg.applyL
  split
  · exact ⟨by show l.length ≤ _; omega, by show b.length ≤ _; omega⟩
  · rename_i has
    split
    · refine ⟨?_, by show (0 : Nat) ≤ _; omega⟩
      have h1 := putF_leR (withoutF l [Rg.clP, Rg.ctP]) Rg.crP (Rg.starT ++ Lib.decDigits b.length)
      have h2 := withoutF_leR l [Rg.clP, Rg.ctP]
      show (Rg.putF (withoutF l [Rg.clP, Rg.ctP]) Rg.crP (Rg.starT ++ Lib.decDigits b.length)).length ≤ _
      omega
    · rename_i h191
      have h190 : (Rg.parseL (Frs.getL q Rg.rngR) b.length).2 ≠ 190 := fun h => has (.inr (.inr (.inl h)))
      have h0 : (Rg.parseL (Frs.getL q Rg.rngR) b.length).2 = 0 := by rcases hp.1 with h | h | h; exact h; exact absurd h h190; exact absurd h h191
      obtain ⟨p1, p2, p3⟩ := hp.2.2 h0
      split
      · rename_i hl1
        generalize (Rg.parseL (Frs.getL q Rg.rngR) b.length).1[0]'(by omega) = p
        refine ⟨?_, ?_⟩
        · have h1 := putF_leR (withoutF l [Rg.clP]) Rg.crP (Rg.placeL p b.length)
          have h2 := withoutF_leR l [Rg.clP]
          show (Rg.putF (withoutF l [Rg.clP]) Rg.crP (Rg.placeL p b.length)).length ≤ _
          omega
        · show (Rg.pieceL p b).length ≤ _
          unfold Rg.pieceL
          simp only [List.length_take, List.length_drop]
          omega
      · have hmk : (Rg.markT (Rg.markN b)).length ≤ 100 := by
          have h1 := (Rg.mark_spec hb).1
          have h2 := dec_len (k := Rg.markN b) (by omega)
          unfold Rg.markT
          rw [List.length_append]
          have h3 : Rg.conT.length = 8 := rfl
          omega
        refine ⟨?_, ?_⟩
        · have h1 := putF_leR (withoutF l [Rg.clP, Rg.crP]) Rg.ctP (Rg.mulT ++ Rg.markT (Rg.markN b))
          have h2 := withoutF_leR l [Rg.clP, Rg.crP]
          show (Rg.putF (withoutF l [Rg.clP, Rg.crP]) Rg.ctP (Rg.mulT ++ Rg.markT (Rg.markN b))).length ≤ _
          omega
        · show (Rg.partsL (Rg.markT (Rg.markN b)) (Frs.getL l Rg.ctR) (!(valuesL l Rg.ctR).isEmpty) b (Rg.parseL (Frs.getL q Rg.rngR) b.length).1).length ≤ _
          unfold Rg.partsL Rg.endL
          have h1 := flat_lenR (Rg.partL (Rg.markT (Rg.markN b)) (Frs.getL l Rg.ctR) (!(valuesL l Rg.ctR).isEmpty) b) 8400000 (Rg.parseL (Frs.getL q Rg.rngR) b.length).1 (fun p hp9 => by
            have := p1 p hp9
            exact partL_lenR _ _ _ b p hmk hk hb (placeL_len p b.length (by omega) (by omega) (by omega)))
          have h2 : (Rg.parseL (Frs.getL q Rg.rngR) b.length).1.length * 8400000 ≤ 8 * 8400000 := Nat.mul_le_mul_right _ p3
          rw [List.length_append]
          simp only [List.length_append, List.length_cons, List.length_nil]
          omega
def spareL : List UInt8 := [201, 202, 203, 204, 205, 206, 207, 208]
theorem spare_at {k : Nat} (h : k < 8) : spareL.take (k + 1) = spareL.take k ++ [UInt8.ofNat (201 + k)] := by
  have : ∀ k : Fin 8, spareL.take (k.val + 1) = spareL.take k.val ++ [UInt8.ofNat (201 + k.val)] := by decide
  exact this ⟨k, h⟩
set_option maxHeartbeats 2000000 in
theorem spare_any (A : Option Addr) (n c : Nat) (l : List UInt8) (w : World) (hl : RdB w A n l) (hn : n ≤ 1099511627776) :
    Calls Tryz.prog 16 #[.slice A n c] w fun e w' => ∃ A' n' c', e = .returned (.slice A' n' c') ∧ OwnB w' w.heap.size (.slice A' n' c') (l ++ spareL) ∧ Below w.heap.size w w' := by
  have hC := copyBytes_own A n c l w hl hn
  have hll := hl.1
  have HL8 : Hid (spareL.length = 8) := Lib.hid rfl
  have HST : Hid (∀ k : Nat, k < 8 → l ++ spareL.take (k + 1) = (l ++ spareL.take k) ++ [UInt8.ofNat (201 + k)]) := Lib.hid fun k hk => by rw [spare_at hk, List.append_assoc]
  have HTK : Hid (spareL.take 8 = spareL) := Lib.hid rfl
  have HT0 : Hid (l ++ spareL.take 0 = l) := Lib.hid (by simp)
  generalize spareL = SL at *
  go_enter Tryz.func16, Tryz.ntmps16
  go_wp2_with fail
  refine hC.mono ?_
  rintro e w1 ⟨A1, n1, c1, rfl, hO, hb1⟩
  clear hC hl
  go_wp2
  go_loopw [3, 4] (fun v t wr => ∃ (k : Nat) (A : Option Addr) (n c : Nat), k ≤ 8 ∧ t = .int .i64 (k : Int) ∧ v = .slice A n c ∧ OwnB wr w.heap.size (.slice A n c) (l ++ SL.take k) ∧ Below w.heap.size w wr) (fun _ t _ => 8 - (intOf t).toNat)
  case atStart => exact ⟨0, _, _, _, by omega, rfl, rfl, by rw [HT0.out]; exact hO, hb1⟩
  case round =>
    obtain ⟨k, A2, n2, c2, hk, rfl, rfl, hown, hbr⟩ := hrel
    clear hO hb1
    by_cases hlt : k < 8
    · have HS := Lib.hid (HST.out k hlt)
      have hlk : (l ++ SL.take k).length ≤ 1099511627776 + 8 := by rw [List.length_append, List.length_take]; omega
      have HV : Hid ((201 + (k : Int)) = (((UInt8.ofNat (201 + k)).toNat : Nat) : Int)) := Lib.hid (by rw [UInt8.toNat_ofNat']; omega)
      generalize l ++ SL.take k = ACC at *
      generalize UInt8.ofNat (201 + k) = b at *
      have hb8 := b.toNat_lt
      have hal := alloc_below wr (.cells #[.int .u8 (b.toNat : Int)] 5)
      have hone := one_rdB wr b 5
      go_wp2_with
        (at_builtin
         rw [HV.out]
         refine wp_appB rfl (.tmp 11) (.tmp 15) rfl w.heap.size (.slice A2 n2 c2) ACC rfl (hown.step hal) _ 1 1 [b] rfl hone ?hby ?hbase ?_
         case hby => omega
         case hbase => exact Nat.le_trans hbr.size hal.size
         intro A3 n3 c3 w3 ho3 hb3 hn3)
      go_roundw
      case rel => exact ⟨k + 1, A3, n3, c3, by omega, by go_num, rfl, by rw [HS.out]; exact ho3, (bnext hbr hal hbr.size).trans hb3⟩
      case measure => simp [intOf]; omega
    · obtain rfl : k = 8 := by omega
      rw [HTK.out] at hown
      go_wp2
      go_ret
      exact ⟨A2, n2, c2, rfl, hown, hbr⟩
end Go.Proofs.YtcaekfebnhedpaaGreatDoor
