/- Rows of bytes in memory, and the conversions between texts and bytes. Conditions stand in each line. -/
import Derived.Test.YtfhkgbimnfjfhaaDoorChecked
import Derived.Test.YtfhkgbimnfjfhaaDoorStr
import Derived.Test.YtfhkgbimnfjfhaaDoorMem
import Derived.Test.YtfhkgbimnfjfhaaDoorApp
import Derived.Test.YtfhkgbimnfjfhaaDoorTy
import Derived.Lib.ConvBytes
import Derived.Laws.BytesArg
set_option linter.unusedVariables false
set_option linter.unusedSimpArgs false
namespace Go.Proofs.YtfhkgbimnfjfhaaDoor
open Go.RowKit

def bytV (b : UInt8) : Value := .int .u8 b.toNat
/-- Block g holds these bytes from place o on, and they may be written. -/
def RowB (w : World) (g o : Nat) (l : List UInt8) : Prop := ∀ j b, l[j]? = some b → w.cell? ⟨g, o + j, none⟩ = some (.int .u8 b.toNat) ∧ w.frozen? ⟨g, o + j, none⟩ = false
/-- A slice of bytes that reads as l. -/
def RdB (w : World) (A : Option Addr) (n : Nat) (l : List UInt8) : Prop := l.length = n ∧ Rd w 1 A n (l.map bytV)
theorem RdB.step {w w' : World} {A : Option Addr} {n : Nat} {l : List UInt8} (h : RdB w A n l) (hb : Below w.heap.size w w') : RdB w' A n l := ⟨h.1, h.2.step hb⟩
theorem RdB.nil (w : World) (A : Option Addr) : RdB w A 0 [] := ⟨rfl, Rd.nil w 1 A⟩
theorem RowB.rd {w : World} {g o : Nat} {l : List UInt8} (h : RowB w g o l) (hg : g < w.heap.size) : RdB w (some ⟨g, o, none⟩) l.length l := by
  refine ⟨rfl, by simp, fun _ => ⟨g, o, rfl, hg, fun j u hu => ?_⟩⟩
  rw [List.getElem?_map] at hu
  cases hj : l[j]? with
  | none => rw [hj] at hu; cases hu
  | some b => rw [hj] at hu; cases hu; exact (h j b hj).1
theorem RowB.set {w : World} {g o : Nat} {l : List UInt8} (h : RowB w g o l) (k : Nat) (b : UInt8) : RowB (w.setCell ⟨g, o + k, none⟩ (.int .u8 b.toNat)) g o (l.set k b) := by
  intro j c hj
  by_cases hk : j = k
  · subst hk
    have hlt : j < l.length := by
      have := (List.getElem?_eq_some_iff.1 hj).1
      simpa using this
    have hc : c = b := by rw [List.getElem?_set_self hlt] at hj; exact (Option.some.inj hj).symm
    subst hc
    have h0 := h j _ (List.getElem?_eq_getElem hlt)
    refine ⟨?_, by rw [World.frozen?_setCell]; exact h0.2⟩
    exact World.cell?_setCell_same w _ _ h0.1
  · have hj' : l[j]? = some c := by rwa [List.getElem?_set_ne (Ne.symm hk)] at hj
    have h0 := h j c hj'
    refine ⟨?_, by rw [World.frozen?_setCell]; exact h0.2⟩
    rw [World.cell?_setCell_other _ _ _ _ (fun e => by injection e with _ e; omega)]
    exact h0.1
theorem RowB.keep {w w' : World} {g o : Nat} {l : List UInt8} (h : RowB w g o l) (hb : w'.heap[g]? = w.heap[g]?) : RowB w' g o l := fun j b hj =>
  ⟨(World.cell?_of_block (w := w) (w' := w') hb).trans (h j b hj).1, (World.frozen?_of_block (w := w) (w' := w') hb).trans (h j b hj).2⟩
theorem RowB.drewN {w : World} {g o : Nat} {l : List UInt8} (h : RowB w g o l) (n : Nat) : RowB (w.drewN n) g o l := h

theorem bytesWorld_row (w : World) (e : TypeId) (l : List UInt8) : RowB (Lib.bytesWorld w e (bs l)) w.heap.size 0 l := by
  intro j b hj
  obtain ⟨hlt, rfl⟩ := List.getElem?_eq_some_iff.1 hj
  have h1 := Lib.bytesWorld_cell w e (bs l) j (by simpa using hlt)
  rw [bs_data] at h1
  refine ⟨by rw [Nat.zero_add, h1]; simp [List.getD, hlt], ?_⟩
  simp only [World.frozen?, Lib.bytesWorld_at_new]
  have : l.length ≤ (Lib.bytesCells w e (bs l)).size := by simp [Lib.bytesCells, bs]
  simp; omega
theorem bytesWorld_below (w : World) (e : TypeId) (s : ByteArray) : Below w.heap.size w (Lib.bytesWorld w e s) := by
  refine ⟨?_, ?_, ?_, by rw [Lib.bytesWorld_size]; omega, fun k hk => Lib.bytesWorld_at_old w e s k hk⟩ <;> simp [Lib.bytesWorld, World.freeze, World.alloc, World.drew, -World.alloc_eq, -World.drew_eq]
theorem conv_sb (l : List UInt8) (w : World) : (convert 9 78 (.string (bs l))).run Tryd.prog w = .ok (.slice (some ⟨w.heap.size, 0, none⟩) l.length (grownCap w l.length 0 5)) (Lib.bytesWorld w 5 (bs l)) := by
  have h := Lib.run_convert_string_bytes (P := Tryd.prog) w 9 78 5 (bs l) Tryd.underlying9 Tryd.underlying78 Tryd.underlying5
  rw [bs_size] at h
  exact h
theorem u8_back (b : UInt8) : UInt8.ofNat (b.toNat : Int).toNat = b := by simp
set_option maxRecDepth 100000 in
theorem conv_bs {w : World} {A : Option Addr} {n : Nat} {l : List UInt8} (h : RdB w A n l) (c : Nat) : (convert 78 9 (.slice A n c)).run Tryd.prog w = .ok (.string (bs l)) w := by
  rcases Nat.eq_zero_or_pos n with h0 | h0
  · subst h0
    have hl : l = [] := List.eq_nil_of_length_eq_zero h.1
    subst hl
    cases A with
    | none => exact run_convert_bytes_nil (P := Tryd.prog) w _ _ Tryd.underlying78 Tryd.underlying5 0 c _ Tryd.underlying9
    | some a =>
      rw [run_convert_bytes_string w _ _ _ (some a) 0 c Tryd.underlying78 Tryd.underlying5 Tryd.underlying9]
      have hl0 : (loadCells a 0).run Tryd.prog w = .ok #[] w := by simpa using run_loadCells_list (P := Tryd.prog) w a [] (fun j v h => by simp at h)
      rw [run_bytesToString w a 0 c [] (by simpa using hl0)]
      rfl
  · obtain ⟨g, o, rfl, _, hc⟩ := h.2.2 h0
    have := run_convert_bytes_arg (P := Tryd.prog) w 78 5 Tryd.underlying78 Tryd.underlying5 g o n c (l.map fun b => (b.toNat : Int)) (by simpa using h.1) (fun i hi => by
      have hi' : i < l.length := by rw [h.1]; exact hi
      rw [hc i (bytV l[i]) (by simp [hi'])]
      simp [bytV, List.getD, hi']) 9 Tryd.underlying9
    rw [this]
    congr 2
    apply ByteArray.ext
    simp [strOfNums, bs, Function.comp_def]
theorem byt_info : (Tryd.prog.info? 5).map (fun i => (i.zero, i.size, i.bytes)) = some (some (.int .u8 0), 1, 1) := by kernel_rfl
/-- A slice of the call's own that holds these bytes. -/
def OwnB (w : World) (B : Nat) (v : Value) (l : List UInt8) : Prop := w.ownsRow B 5 1 v l.length (l.map bytV)
theorem OwnB.rd {w : World} {B n c : Nat} {A : Option Addr} {l : List UInt8} (h : OwnB w B (.slice A n c) l) : RdB w A n l := by
  have h' : w.ownsRow B 5 1 (.slice A n c) l.length (l.map bytV) := h
  obtain ⟨A', c', e⟩ := own_slice h'
  injection e with e1 e2 e3
  subst e1 e2
  exact ⟨rfl, Rd.of_own h'⟩
theorem OwnB.nil (w : World) (B : Nat) : OwnB w B (.slice none 0 0) [] := World.ownsRow_nil w B _ 1
theorem OwnB.made (w : World) : OwnB (w.alloc (.cells #[] 5)) w.heap.size (.slice (some ⟨w.heap.size, 0, none⟩) 0 0) [] := own_made0 w _ 1 #[] rfl
theorem OwnB.step {w w' : World} {B : Nat} {v : Value} {l : List UInt8} (h : OwnB w B v l) (hb : Below w.heap.size w w') : OwnB w' B v l := own_step h hb
theorem OwnB.mono {w : World} {B B' : Nat} {v : Value} {l : List UInt8} (h : OwnB w B v l) (hb : B' ≤ B) : OwnB w B' v l := own_mono h hb
theorem byts_one (l : List UInt8) : ∀ u ∈ l.map bytV, u.oneCell' = true := by
  intro u hu; simp only [List.mem_map] at hu; obtain ⟨s, _, rfl⟩ := hu; rfl
/-- bytes onto bytes -/
theorem wp_appB {w : World} {ops : Array Oper} {rest : List Oper} {o : Oper} {a : Act} {Q : Exit → Act → World → Prop} (hgd : o.guard = none) (s x : Operand) (ho : o.op = .call { callee := .builtin .append, args := #[s, x], argTypes := #[78, 78] })
    (base : Nat) (v : Value) (l : List UInt8) (hs : a.eval s = v) (hown : OwnB w base v l) (A : Option Addr) (m c : Nat) (news : List UInt8) (hx : a.eval x = .slice A m c) (hr : RdB w A m news)
    (hbytes : l.length + m ≤ 140737488355328) (hbase : base ≤ w.heap.size)
    (h : ∀ A' n' c' w', OwnB w' base (.slice A' n' c') (l ++ news) → Below base w w' → Hid (n' = l.length + m) → wpList Tryd.prog ops Q rest (a.put o.dst (.slice A' n' c')) w') : wpList Tryd.prog ops Q (o :: rest) a w := by
  obtain ⟨i0, hi, hz0, hz1, hz2⟩ := info_parts byt_info
  refine wpList_app Tryd.underlying78 hi hz0 hz1 hz2 rfl (by omega) (by omega) hgd s x ho base v l.length (l.map bytV) hs hown A m c (news.map bytV) hx hr.2 (byts_one _) (by omega) hbase fun A' c' w' h1 h2 => h A' _ c' w' ?_ h2 (Lib.hid rfl)
  unfold OwnB
  rw [List.length_append, hr.1, List.map_append]
  exact h1
theorem one_rdB (w : World) (b : UInt8) (t : TypeId) : RdB (w.alloc (.cells #[.int .u8 b.toNat] t)) (some ⟨w.heap.size, 0, none⟩) 1 [b] := ⟨rfl, cell1_rd w _ t⟩
end Go.Proofs.YtfhkgbimnfjfhaaDoor
