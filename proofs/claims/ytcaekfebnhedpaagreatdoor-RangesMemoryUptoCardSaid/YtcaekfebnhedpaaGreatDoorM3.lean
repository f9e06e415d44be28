/- Joined texts: Rows of bytes in memory, and the conversions between texts and bytes. Conditions stand in each line; tok.Fold: letters A to Z made small. The conditions stand in each line. -/
import Derived.Test.YtcaekfebnhedpaaGreatDoorChecked
import Derived.Test.YtcaekfebnhedpaaGreatDoorM1
import Derived.Test.YtcaekfebnhedpaaGreatDoorM2
import Derived.Lib.ConvBytes
import Derived.Laws.BytesArg
import Derived.Deep.Cut
import Derived.Deep.DeepCutAuto
set_option linter.unusedVariables false
set_option linter.unusedSimpArgs false
namespace Go.Proofs.YtcaekfebnhedpaaGreatDoor
open Go.RowKit

def bytV (b : UInt8) : Value := .int .u8 b.toNat
/-- Block g holds these bytes from place o on, and they may be written. -/
def RowB (w : World) (g o : Nat) (l : List UInt8) : Prop := ∀ j b, l[j]? = some b → w.cell? ⟨g, o + j, none⟩ = some (.int .u8 b.toNat) ∧ w.frozen? ⟨g, o + j, none⟩ = false
/-- A slice of bytes that reads as l. -/
def RdB (w : World) (A : Option Addr) (n : Nat) (l : List UInt8) : Prop := l.length = n ∧ Rd w 1 A n (l.map bytV)
theorem RdB.step {w w' : World} {A : Option Addr} {n : Nat} {l : List UInt8} (h : RdB w A n l) (hb : Below w.heap.size w w') : RdB w' A n l := ⟨h.1, h.2.step hb⟩
theorem RdB.nil (w : World) (A : Option Addr) : RdB w A 0 [] := ⟨rfl, Rd.nil w 1 A⟩
theorem RowB.rd {w : World} {g o : Nat} {l : List UInt8} (h : RowB w g o l) (hg : g < w.heap.size) : RdB w (some ⟨g, o, none⟩) l.length l := by
  refine ⟨rfl, by simp, fun _ => ⟨g, o, rfl, hg, fun j u hu => ?_⟩⟩
  rw [List.getElem?_map] at hu
  cases hj : l[j]? with
  | none => rw [hj] at hu; cases hu
  | some b => rw [hj] at hu; cases hu; exact (h j b hj).1
theorem RowB.set {w : World} {g o : Nat} {l : List UInt8} (h : RowB w g o l) (k : Nat) (b : UInt8) : RowB (w.setCell ⟨g, o + k, none⟩ (.int .u8 b.toNat)) g o (l.set k b) := by
  intro j c hj
  by_cases hk : j = k
  · subst hk
    have hlt : j < l.length := by
      have := (List.getElem?_eq_some_iff.1 hj).1
      simpa using this
    have hc : c = b := by rw [List.getElem?_set_self hlt] at hj; exact (Option.some.inj hj).symm
    subst hc
    have h0 := h j _ (List.getElem?_eq_getElem hlt)
    refine ⟨?_, by rw [World.frozen?_setCell]; exact h0.2⟩
    exact World.cell?_setCell_same w _ _ h0.1
  · have hj' : l[j]? = some c := by rwa [List.getElem?_set_ne (Ne.symm hk)] at hj
    have h0 := h j c hj'
    refine ⟨?_, by rw [World.frozen?_setCell]; exact h0.2⟩
    rw [World.cell?_setCell_other _ _ _ _ (fun e => by injection e with _ e; omega)]
    exact h0.1
theorem RowB.keep {w w' : World} {g o : Nat} {l : List UInt8} (h : RowB w g o l) (hb : w'.heap[g]? = w.heap[g]?) : RowB w' g o l := fun j b hj =>
  ⟨(World.cell?_of_block (w := w) (w' := w') hb).trans (h j b hj).1, (World.frozen?_of_block (w := w) (w' := w') hb).trans (h j b hj).2⟩
theorem RowB.drewN {w : World} {g o : Nat} {l : List UInt8} (h : RowB w g o l) (n : Nat) : RowB (w.drewN n) g o l := h

theorem bytesWorld_row (w : World) (e : TypeId) (l : List UInt8) : RowB (Lib.bytesWorld w e (bs l)) w.heap.size 0 l := by
  intro j b hj
  obtain ⟨hlt, rfl⟩ := List.getElem?_eq_some_iff.1 hj
  have h1 := Lib.bytesWorld_cell w e (bs l) j (by simpa using hlt)
  rw [bs_data] at h1
  refine ⟨by rw [Nat.zero_add, h1]; simp [List.getD, hlt], ?_⟩
  simp only [World.frozen?, Lib.bytesWorld_at_new]
  have : l.length ≤ (Lib.bytesCells w e (bs l)).size := by simp [Lib.bytesCells, bs]
  simp; omega
theorem bytesWorld_below (w : World) (e : TypeId) (s : ByteArray) : Below w.heap.size w (Lib.bytesWorld w e s) := by
  refine ⟨?_, ?_, ?_, by rw [Lib.bytesWorld_size]; omega, fun k hk => Lib.bytesWorld_at_old w e s k hk⟩ <;> simp [Lib.bytesWorld, World.freeze, World.alloc, World.drew, -World.alloc_eq, -World.drew_eq]
theorem conv_sb (l : List UInt8) (w : World) : (convert 9 32 (.string (bs l))).run Tryz.prog w = .ok (.slice (some ⟨w.heap.size, 0, none⟩) l.length (grownCap w l.length 0 5)) (Lib.bytesWorld w 5 (bs l)) := by
  have h := Lib.run_convert_string_bytes (P := Tryz.prog) w 9 32 5 (bs l) Tryz.underlying9 Tryz.underlying32 Tryz.underlying5
  rw [bs_size] at h
  exact h
theorem u8_back (b : UInt8) : UInt8.ofNat (b.toNat : Int).toNat = b := by simp
set_option maxRecDepth 100000 in
theorem conv_bs {w : World} {A : Option Addr} {n : Nat} {l : List UInt8} (h : RdB w A n l) (c : Nat) : (convert 32 9 (.slice A n c)).run Tryz.prog w = .ok (.string (bs l)) w := by
  rcases Nat.eq_zero_or_pos n with h0 | h0
  · subst h0
    have hl : l = [] := List.eq_nil_of_length_eq_zero h.1
    subst hl
    cases A with
    | none => exact run_convert_bytes_nil (P := Tryz.prog) w _ _ Tryz.underlying32 Tryz.underlying5 0 c _ Tryz.underlying9
    | some a =>
      rw [run_convert_bytes_string w _ _ _ (some a) 0 c Tryz.underlying32 Tryz.underlying5 Tryz.underlying9]
      have hl0 : (loadCells a 0).run Tryz.prog w = .ok #[] w := by simpa using run_loadCells_list (P := Tryz.prog) w a [] (fun j v h => by simp at h)
      rw [run_bytesToString w a 0 c [] (by simpa using hl0)]
      rfl
  · obtain ⟨g, o, rfl, _, hc⟩ := h.2.2 h0
    have := run_convert_bytes_arg (P := Tryz.prog) w 32 5 Tryz.underlying32 Tryz.underlying5 g o n c (l.map fun b => (b.toNat : Int)) (by simpa using h.1) (fun i hi => by
      have hi' : i < l.length := by rw [h.1]; exact hi
      rw [hc i (bytV l[i]) (by simp [hi'])]
      simp [bytV, List.getD, hi']) 9 Tryz.underlying9
    rw [this]
    congr 2
    apply ByteArray.ext
    simp [strOfNums, bs, Function.comp_def]
theorem byt_info : (Tryz.prog.info? 5).map (fun i => (i.zero, i.size, i.bytes)) = some (some (.int .u8 0), 1, 1) := by kernel_rfl
/-- A slice of the call's own that holds these bytes. -/
def OwnB (w : World) (B : Nat) (v : Value) (l : List UInt8) : Prop := w.ownsRow B 5 1 v l.length (l.map bytV)
theorem OwnB.rd {w : World} {B n c : Nat} {A : Option Addr} {l : List UInt8} (h : OwnB w B (.slice A n c) l) : RdB w A n l := by
  have h' : w.ownsRow B 5 1 (.slice A n c) l.length (l.map bytV) := h
  obtain ⟨A', c', e⟩ := own_slice h'
  injection e with e1 e2 e3
  subst e1 e2
  exact ⟨rfl, Rd.of_own h'⟩
theorem OwnB.nil (w : World) (B : Nat) : OwnB w B (.slice none 0 0) [] := World.ownsRow_nil w B _ 1
theorem OwnB.made (w : World) : OwnB (w.alloc (.cells #[] 5)) w.heap.size (.slice (some ⟨w.heap.size, 0, none⟩) 0 0) [] := own_made0 w _ 1 #[] rfl
theorem OwnB.step {w w' : World} {B : Nat} {v : Value} {l : List UInt8} (h : OwnB w B v l) (hb : Below w.heap.size w w') : OwnB w' B v l := own_step h hb
theorem OwnB.mono {w : World} {B B' : Nat} {v : Value} {l : List UInt8} (h : OwnB w B v l) (hb : B' ≤ B) : OwnB w B' v l := own_mono h hb
theorem byts_one (l : List UInt8) : ∀ u ∈ l.map bytV, u.oneCell' = true := by
  intro u hu; simp only [List.mem_map] at hu; obtain ⟨s, _, rfl⟩ := hu; rfl
/-- bytes onto bytes -/
theorem wp_appB {w : World} {ops : Array Oper} {rest : List Oper} {o : Oper} {a : Act} {Q : Exit → Act → World → Prop} (hgd : o.guard = none) (s x : Operand) (ho : o.op = .call { callee := .builtin .append, args := #[s, x], argTypes := #[32, 32] })
    (base : Nat) (v : Value) (l : List UInt8) (hs : a.eval s = v) (hown : OwnB w base v l) (A : Option Addr) (m c : Nat) (news : List UInt8) (hx : a.eval x = .slice A m c) (hr : RdB w A m news)
    (hbytes : l.length + m ≤ 140737488355328) (hbase : base ≤ w.heap.size)
    (h : ∀ A' n' c' w', OwnB w' base (.slice A' n' c') (l ++ news) → Below base w w' → Hid (n' = l.length + m) → wpList Tryz.prog ops Q rest (a.put o.dst (.slice A' n' c')) w') : wpList Tryz.prog ops Q (o :: rest) a w := by
  obtain ⟨i0, hi, hz0, hz1, hz2⟩ := info_parts byt_info
  refine wpList_app Tryz.underlying32 hi hz0 hz1 hz2 rfl (by omega) (by omega) hgd s x ho base v l.length (l.map bytV) hs hown A m c (news.map bytV) hx hr.2 (byts_one _) (by omega) hbase fun A' c' w' h1 h2 => h A' _ c' w' ?_ h2 (Lib.hid rfl)
  unfold OwnB
  rw [List.length_append, hr.1, List.map_append]
  exact h1
theorem one_rdB (w : World) (b : UInt8) (t : TypeId) : RdB (w.alloc (.cells #[.int .u8 b.toNat] t)) (some ⟨w.heap.size, 0, none⟩) 1 [b] := ⟨rfl, cell1_rd w _ t⟩
end Go.Proofs.YtcaekfebnhedpaaGreatDoor
set_option linter.unusedVariables false
set_option linter.unusedSimpArgs false
namespace Go.Proofs.YtcaekfebnhedpaaGreatDoor
open Go.RowKit

def low (c : UInt8) : UInt8 := if 65 ≤ c.toNat ∧ c.toNat ≤ 90 then c + 32 else c
def fold (s : List UInt8) : List UInt8 := s.map low
theorem fold_length (s : List UInt8) : (fold s).length = s.length := by simp [fold]
theorem low_yes {c : UInt8} (h1 : 65 ≤ c.toNat) (h2 : c.toNat ≤ 90) : (low c).toNat = c.toNat + 32 := by
  unfold low; rw [if_pos ⟨h1, h2⟩, UInt8.toNat_add]; simp; omega
theorem low_no {c : UInt8} (h : ¬ (65 ≤ c.toNat ∧ c.toNat ≤ 90)) : low c = c := by unfold low; rw [if_neg h]
/-- Half way: k letters are done. -/
def foldTo (k : Nat) (s : List UInt8) : List UInt8 := (s.take k).map low ++ s.drop k
theorem foldTo_zero (s : List UInt8) : foldTo 0 s = s := by simp [foldTo]
theorem foldTo_all (s : List UInt8) (k : Nat) (h : s.length ≤ k) : foldTo k s = fold s := by simp [foldTo, fold, List.take_of_length_le h, List.drop_eq_nil_of_le h]
theorem foldTo_length (s : List UInt8) (k : Nat) : (foldTo k s).length = s.length := by simp [foldTo]; omega
theorem foldTo_at (s : List UInt8) (k : Nat) (h : k < s.length) : (foldTo k s)[k]? = some s[k] := by
  unfold foldTo
  rw [List.getElem?_append_right (by simp; omega)]
  simp [Nat.min_eq_left (Nat.le_of_lt h), h]
theorem foldTo_set (s : List UInt8) (k : Nat) (h : k < s.length) : (foldTo k s).set k (low s[k]) = foldTo (k + 1) s := by
  unfold foldTo
  rw [List.set_append_right _ _ (by simp; omega)]
  simp only [List.length_map, List.length_take, Nat.min_eq_left (Nat.le_of_lt h), Nat.sub_self]
  have hd : s.drop k = s[k] :: s.drop (k + 1) := List.drop_eq_getElem_cons h
  rw [take_snoc s k h, List.map_append, hd, List.append_assoc]
  rfl
theorem foldTo_skip (s : List UInt8) (k : Nat) (h : k < s.length) (hl : low s[k] = s[k]) : foldTo (k + 1) s = foldTo k s := by
  rw [← foldTo_set s k h, hl]
  obtain ⟨h1, h2⟩ := List.getElem?_eq_some_iff.1 (foldTo_at s k h)
  rw [← h2]
  exact List.set_getElem_self h1

set_option maxHeartbeats 400000 in
theorem fold_any (s : List UInt8) (w : World) (hs : s.length ≤ 140737488355328) :
    Calls Tryz.prog 29 #[.string (bs s)] w fun e w' => e = .returned (.string (bs (fold s))) ∧ Below w.heap.size w w' := by
  have hcv := conv_sb
  have HL : Hid ((fold s).length = s.length) := fold_length s
  go_enter Tryz.func29, Tryz.ntmps29
  go_upto_region 2 with fail
  clear hcv
  have hrow := bytesWorld_row w 5 s
  have hbel := bytesWorld_below w 5 (bs s)
  have hsz : w.heap.size < (Lib.bytesWorld w 5 (bs s)).heap.size := by rw [Lib.bytesWorld_size]; omega
  generalize Lib.bytesWorld w 5 (bs s) = w0 at *
  generalize grownCap w s.length 0 5 = cp at *
  go_wp2
  go_loopw [10] (fun t wr => ∃ k : Nat, k ≤ s.length ∧ t = .int .i64 k ∧ RowB wr w.heap.size 0 (foldTo k s) ∧ Below w.heap.size w wr ∧ w.heap.size < wr.heap.size) (fun t _ => s.length - (intOf t).toNat)
  case atStart => exact ⟨0, by omega, rfl, by rw [foldTo_zero]; exact hrow, hbel, hsz⟩
  case round =>
    obtain ⟨k, hk, rfl, hrw, hbr, hszr⟩ := hrel
    clear hrow hbel hsz
    by_cases hlt : k < s.length
    · have hcell := (hrw k _ (foldTo_at s k hlt)).1
      have hfz := (hrw k _ (foldTo_at s k hlt)).2
      simp only [Nat.zero_add] at hcell hfz
      have hc255 : (s[k].toNat : Int) ≤ 255 := by have := s[k].toNat_lt; omega
      by_cases hup : 65 ≤ s[k].toNat ∧ s[k].toNat ≤ 90
      · obtain ⟨hu1, hu2⟩ := hup
        have HS : Hid ((s[k].toNat : Int) + 97 - 65 = ((low s[k]).toNat : Int)) := Lib.hid (by rw [low_yes hu1 hu2]; omega)
        have HR := Lib.hid (hrw.set k (low s[k]))
        have HT := Lib.hid (foldTo_set s k hlt)
        go_wp2
        go_roundw
        case rel => exact ⟨k + 1, by omega, by go_num, by rw [HS.out, ← HT.out]; have h := HR.out; rwa [Nat.zero_add] at h, hbr.setCell (p := ⟨w.heap.size, k, none⟩) (Nat.le_refl _) _, by simpa [World.setCell] using hszr⟩
        case measure => simp [intOf]; omega
      · have HT := Lib.hid (foldTo_skip s k hlt (low_no hup))
        go_wp2
        all_goals
          go_roundw
          case rel => exact ⟨k + 1, by omega, by go_num, by rw [HT.out]; exact hrw, hbr, hszr⟩
          case measure => simp [intOf]; omega
    · obtain rfl : k = s.length := by omega
      go_upto_region 8 with fail
      have hcb := conv_bs (w := wr) (A := some ⟨w.heap.size, 0, none⟩) (n := s.length) (l := fold s) (by rw [← foldTo_all s _ (Nat.le_refl _)]; have := hrw.rd hszr; rwa [foldTo_length] at this)
      go_wp2
      go_ret
      exact ⟨rfl, hbr⟩
end Go.Proofs.YtcaekfebnhedpaaGreatDoor
