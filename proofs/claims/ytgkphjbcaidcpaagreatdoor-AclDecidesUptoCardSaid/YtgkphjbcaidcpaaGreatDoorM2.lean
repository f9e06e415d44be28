/- Joined texts: Rows of bytes in memory, and the conversions between texts and bytes. Conditions stand in each line; tok.Fold: letters A to Z made small; The contracts of the library that this seat leans on, laid at its own dump by the kit: no condition beyond those that each states; tok.Trim and the reference's Trim: a text without blanks at its ends; tok.split and the reference's Pieces: the pieces of a text at a byte outside of quoted stretches; The reference's Pieces: the pieces of a text at a byte outside of quoted stretches; tok.List and the reference's List: the elements of a list. The conditions stand in each line. -/
import Derived.Test.YtgkphjbcaidcpaaGreatDoorChecked
import Derived.Test.YtgkphjbcaidcpaaGreatDoorProg
import Derived.Test.YtgkphjbcaidcpaaGreatDoorM1
import Derived.Lib.ConvBytes
import Derived.Laws.BytesArg
import Derived.Deep.Cut
import Derived.Deep.DeepCutAuto
import Derived.Shelf.Strings.Trim
import Derived.Shelf.Small.Utf8
import Derived.Shelf.Small.Strs
import Derived.Shelf.Small.Wraps
import Derived.Shelf.Strconv.Atoi
import Derived.Shelf.Strconv.Itoa0
import Derived.Shelf.Strconv.AtoiErrFast
import Derived.Shelf.Strconv.ParseIntEmpty
import Derived.Shelf.Strconv.AtoiFail
import Derived.Shelf.LaysM
import Derived.Shelf.Strconv.Clone
import Derived.Shelf.Strconv.SyntaxError
import Derived.Shelf.LaysC
import Derived.Shelf.Strconv.ToError
import Derived.Shelf.Strconv.Lower
import Derived.Shelf.Strconv.ParseUint10
import Derived.Shelf.Strconv.ParseUint10Empty
import Derived.Shelf.Strconv.ParseUint10Any
import Derived.Shelf.Strconv.ParseInt10
import Derived.Shelf.Strconv.AtoiLong
import Derived.Shelf.Strconv.AtoiInnerAll
import Derived.Shelf.Strconv.RangeError
import Derived.Shelf.Strconv.ToErrorRange
import Derived.Shelf.Strconv.AtoiAll
import Derived.Shelf.Strconv.ErrVarAll
import Derived.Shelf.Strconv.ParseUintEmpty
import Derived.Shelf.Strconv.ParseUint10b64
import Derived.Shelf.Strconv.ParseUint10b32
import Derived.Shelf.Strconv.ParseUint10b16
import Derived.Shelf.Strconv.ParseUint10b8
import Derived.Shelf.Strconv.ParseUint10At
import Derived.Shelf.Strconv.ParseInt10At64
import Derived.Shelf.Strconv.ParseInt10At32
import Derived.Shelf.Strconv.ParseInt10At16
import Derived.Shelf.Strconv.ParseInt10At8
import Derived.Shelf.Strconv.ParseInt10All
import Derived.Shelf.Strings.Search1
import Derived.Shelf.Strings.Search2
import Derived.Shelf.Strings.Search3
import Derived.Shelf.Strings.Cut
import Derived.Shelf.Strings.Count
import Derived.Shelf.Strings.Shaped
import Derived.Shelf.Strings.Prefix
import Derived.Shelf.Strings.Split
import Derived.Shelf.Strings.Runes
import Derived.Shelf.Strings.AsciiSet
import Derived.Shelf.Unicode.DecodeSlow
import Derived.Shelf.Strings.FieldsFuncAny
import Derived.Shelf.Strings.SlTrimAscii
set_option linter.unusedVariables false
set_option linter.unusedSimpArgs false
namespace Go.Proofs.YtgkphjbcaidcpaaGreatDoor
open Go.RowKit

def bytV (b : UInt8) : Value := .int .u8 b.toNat
/-- Block g holds these bytes from place o on, and they may be written. -/
def RowB (w : World) (g o : Nat) (l : List UInt8) : Prop := ∀ j b, l[j]? = some b → w.cell? ⟨g, o + j, none⟩ = some (.int .u8 b.toNat) ∧ w.frozen? ⟨g, o + j, none⟩ = false
/-- A slice of bytes that reads as l. -/
def RdB (w : World) (A : Option Addr) (n : Nat) (l : List UInt8) : Prop := l.length = n ∧ Rd w 1 A n (l.map bytV)
theorem RdB.step {w w' : World} {A : Option Addr} {n : Nat} {l : List UInt8} (h : RdB w A n l) (hb : Below w.heap.size w w') : RdB w' A n l := ⟨h.1, h.2.step hb⟩
theorem RdB.nil (w : World) (A : Option Addr) : RdB w A 0 [] := ⟨rfl, Rd.nil w 1 A⟩
theorem RowB.rd {w : World} {g o : Nat} {l : List UInt8} (h : RowB w g o l) (hg : g < w.heap.size) : RdB w (some ⟨g, o, none⟩) l.length l := by
  refine ⟨rfl, by simp, fun _ => ⟨g, o, rfl, hg, fun j u hu => ?_⟩⟩
  rw [List.getElem?_map] at hu
  cases hj : l[j]? with
  | none => rw [hj] at hu; cases hu
  | some b => rw [hj] at hu; cases hu; exact (h j b hj).1
theorem RowB.set {w : World} {g o : Nat} {l : List UInt8} (h : RowB w g o l) (k : Nat) (b : UInt8) : RowB (w.setCell ⟨g, o + k, none⟩ (.int .u8 b.toNat)) g o (l.set k b) := by
  intro j c hj
  by_cases hk : j = k
  · subst hk
    have hlt : j < l.length := by
      have := (List.getElem?_eq_some_iff.1 hj).1
      simpa using this
    have hc : c = b := by rw [List.getElem?_set_self hlt] at hj; exact (Option.some.inj hj).symm
    subst hc
    have h0 := h j _ (List.getElem?_eq_getElem hlt)
    refine ⟨?_, by rw [World.frozen?_setCell]; exact h0.2⟩
    exact World.cell?_setCell_same w _ _ h0.1
  · have hj' : l[j]? = some c := by rwa [List.getElem?_set_ne (Ne.symm hk)] at hj
    have h0 := h j c hj'
    refine ⟨?_, by rw [World.frozen?_setCell]; exact h0.2⟩
    rw [World.cell?_setCell_other _ _ _ _ (fun e => by injection e with _ e; omega)]
    exact h0.1
theorem RowB.keep {w w' : World} {g o : Nat} {l : List UInt8} (h : RowB w g o l) (hb : w'.heap[g]? = w.heap[g]?) : RowB w' g o l := fun j b hj =>
  ⟨(World.cell?_of_block (w := w) (w' := w') hb).trans (h j b hj).1, (World.frozen?_of_block (w := w) (w' := w') hb).trans (h j b hj).2⟩
theorem RowB.drewN {w : World} {g o : Nat} {l : List UInt8} (h : RowB w g o l) (n : Nat) : RowB (w.drewN n) g o l := h

theorem bytesWorld_row (w : World) (e : TypeId) (l : List UInt8) : RowB (Lib.bytesWorld w e (bs l)) w.heap.size 0 l := by
  intro j b hj
  obtain ⟨hlt, rfl⟩ := List.getElem?_eq_some_iff.1 hj
  have h1 := Lib.bytesWorld_cell w e (bs l) j (by simpa using hlt)
  rw [bs_data] at h1
  refine ⟨by rw [Nat.zero_add, h1]; simp [List.getD, hlt], ?_⟩
  simp only [World.frozen?, Lib.bytesWorld_at_new]
  have : l.length ≤ (Lib.bytesCells w e (bs l)).size := by simp [Lib.bytesCells, bs]
  simp; omega
theorem bytesWorld_below (w : World) (e : TypeId) (s : ByteArray) : Below w.heap.size w (Lib.bytesWorld w e s) := by
  refine ⟨?_, ?_, ?_, by rw [Lib.bytesWorld_size]; omega, fun k hk => Lib.bytesWorld_at_old w e s k hk⟩ <;> simp [Lib.bytesWorld, World.freeze, World.alloc, World.drew, -World.alloc_eq, -World.drew_eq]
theorem conv_sb (l : List UInt8) (w : World) : (convert 9 65 (.string (bs l))).run Tryz.prog w = .ok (.slice (some ⟨w.heap.size, 0, none⟩) l.length (grownCap w l.length 0 5)) (Lib.bytesWorld w 5 (bs l)) := by
  have h := Lib.run_convert_string_bytes (P := Tryz.prog) w 9 65 5 (bs l) Tryz.underlying9 Tryz.underlying65 Tryz.underlying5
  rw [bs_size] at h
  exact h
theorem u8_back (b : UInt8) : UInt8.ofNat (b.toNat : Int).toNat = b := by simp
set_option maxRecDepth 100000 in
theorem conv_bs {w : World} {A : Option Addr} {n : Nat} {l : List UInt8} (h : RdB w A n l) (c : Nat) : (convert 65 9 (.slice A n c)).run Tryz.prog w = .ok (.string (bs l)) w := by
  rcases Nat.eq_zero_or_pos n with h0 | h0
  · subst h0
    have hl : l = [] := List.eq_nil_of_length_eq_zero h.1
    subst hl
    cases A with
    | none => exact run_convert_bytes_nil (P := Tryz.prog) w _ _ Tryz.underlying65 Tryz.underlying5 0 c _ Tryz.underlying9
    | some a =>
      rw [run_convert_bytes_string w _ _ _ (some a) 0 c Tryz.underlying65 Tryz.underlying5 Tryz.underlying9]
      have hl0 : (loadCells a 0).run Tryz.prog w = .ok #[] w := by simpa using run_loadCells_list (P := Tryz.prog) w a [] (fun j v h => by simp at h)
      rw [run_bytesToString w a 0 c [] (by simpa using hl0)]
      rfl
  · obtain ⟨g, o, rfl, _, hc⟩ := h.2.2 h0
    have := run_convert_bytes_arg (P := Tryz.prog) w 65 5 Tryz.underlying65 Tryz.underlying5 g o n c (l.map fun b => (b.toNat : Int)) (by simpa using h.1) (fun i hi => by
      have hi' : i < l.length := by rw [h.1]; exact hi
      rw [hc i (bytV l[i]) (by simp [hi'])]
      simp [bytV, List.getD, hi']) 9 Tryz.underlying9
    rw [this]
    congr 2
    apply ByteArray.ext
    simp [strOfNums, bs, Function.comp_def]
theorem byt_info : (Tryz.prog.info? 5).map (fun i => (i.zero, i.size, i.bytes)) = some (some (.int .u8 0), 1, 1) := by kernel_rfl
/-- A slice of the call's own that holds these bytes. -/
def OwnB (w : World) (B : Nat) (v : Value) (l : List UInt8) : Prop := w.ownsRow B 5 1 v l.length (l.map bytV)
theorem OwnB.rd {w : World} {B n c : Nat} {A : Option Addr} {l : List UInt8} (h : OwnB w B (.slice A n c) l) : RdB w A n l := by
  have h' : w.ownsRow B 5 1 (.slice A n c) l.length (l.map bytV) := h
  obtain ⟨A', c', e⟩ := own_slice h'
  injection e with e1 e2 e3
  subst e1 e2
  exact ⟨rfl, Rd.of_own h'⟩
theorem OwnB.nil (w : World) (B : Nat) : OwnB w B (.slice none 0 0) [] := World.ownsRow_nil w B _ 1
theorem OwnB.made (w : World) : OwnB (w.alloc (.cells #[] 5)) w.heap.size (.slice (some ⟨w.heap.size, 0, none⟩) 0 0) [] := own_made0 w _ 1 #[] rfl
theorem OwnB.step {w w' : World} {B : Nat} {v : Value} {l : List UInt8} (h : OwnB w B v l) (hb : Below w.heap.size w w') : OwnB w' B v l := own_step h hb
theorem OwnB.mono {w : World} {B B' : Nat} {v : Value} {l : List UInt8} (h : OwnB w B v l) (hb : B' ≤ B) : OwnB w B' v l := own_mono h hb
theorem byts_one (l : List UInt8) : ∀ u ∈ l.map bytV, u.oneCell' = true := by
  intro u hu; simp only [List.mem_map] at hu; obtain ⟨s, _, rfl⟩ := hu; rfl
/-- bytes onto bytes -/
theorem wp_appB {w : World} {ops : Array Oper} {rest : List Oper} {o : Oper} {a : Act} {Q : Exit → Act → World → Prop} (hgd : o.guard = none) (s x : Operand) (ho : o.op = .call { callee := .builtin .append, args := #[s, x], argTypes := #[65, 65] })
    (base : Nat) (v : Value) (l : List UInt8) (hs : a.eval s = v) (hown : OwnB w base v l) (A : Option Addr) (m c : Nat) (news : List UInt8) (hx : a.eval x = .slice A m c) (hr : RdB w A m news)
    (hbytes : l.length + m ≤ 140737488355328) (hbase : base ≤ w.heap.size)
    (h : ∀ A' n' c' w', OwnB w' base (.slice A' n' c') (l ++ news) → Below base w w' → Hid (n' = l.length + m) → wpList Tryz.prog ops Q rest (a.put o.dst (.slice A' n' c')) w') : wpList Tryz.prog ops Q (o :: rest) a w := by
  obtain ⟨i0, hi, hz0, hz1, hz2⟩ := info_parts byt_info
  refine wpList_app Tryz.underlying65 hi hz0 hz1 hz2 rfl (by omega) (by omega) hgd s x ho base v l.length (l.map bytV) hs hown A m c (news.map bytV) hx hr.2 (byts_one _) (by omega) hbase fun A' c' w' h1 h2 => h A' _ c' w' ?_ h2 (Lib.hid rfl)
  unfold OwnB
  rw [List.length_append, hr.1, List.map_append]
  exact h1
theorem one_rdB (w : World) (b : UInt8) (t : TypeId) : RdB (w.alloc (.cells #[.int .u8 b.toNat] t)) (some ⟨w.heap.size, 0, none⟩) 1 [b] := ⟨rfl, cell1_rd w _ t⟩
end Go.Proofs.YtgkphjbcaidcpaaGreatDoor
set_option linter.unusedVariables false
set_option linter.unusedSimpArgs false
namespace Go.Proofs.YtgkphjbcaidcpaaGreatDoor
open Go.RowKit

def low (c : UInt8) : UInt8 := if 65 ≤ c.toNat ∧ c.toNat ≤ 90 then c + 32 else c
def fold (s : List UInt8) : List UInt8 := s.map low
theorem fold_length (s : List UInt8) : (fold s).length = s.length := by simp [fold]
theorem low_yes {c : UInt8} (h1 : 65 ≤ c.toNat) (h2 : c.toNat ≤ 90) : (low c).toNat = c.toNat + 32 := by
  unfold low; rw [if_pos ⟨h1, h2⟩, UInt8.toNat_add]; simp; omega
theorem low_no {c : UInt8} (h : ¬ (65 ≤ c.toNat ∧ c.toNat ≤ 90)) : low c = c := by unfold low; rw [if_neg h]
/-- Half way: k letters are done. -/
def foldTo (k : Nat) (s : List UInt8) : List UInt8 := (s.take k).map low ++ s.drop k
theorem foldTo_zero (s : List UInt8) : foldTo 0 s = s := by simp [foldTo]
theorem foldTo_all (s : List UInt8) (k : Nat) (h : s.length ≤ k) : foldTo k s = fold s := by simp [foldTo, fold, List.take_of_length_le h, List.drop_eq_nil_of_le h]
theorem foldTo_length (s : List UInt8) (k : Nat) : (foldTo k s).length = s.length := by simp [foldTo]; omega
theorem foldTo_at (s : List UInt8) (k : Nat) (h : k < s.length) : (foldTo k s)[k]? = some s[k] := by
  unfold foldTo
  rw [List.getElem?_append_right (by simp; omega)]
  simp [Nat.min_eq_left (Nat.le_of_lt h), h]
theorem foldTo_set (s : List UInt8) (k : Nat) (h : k < s.length) : (foldTo k s).set k (low s[k]) = foldTo (k + 1) s := by
  unfold foldTo
  rw [List.set_append_right _ _ (by simp; omega)]
  simp only [List.length_map, List.length_take, Nat.min_eq_left (Nat.le_of_lt h), Nat.sub_self]
  have hd : s.drop k = s[k] :: s.drop (k + 1) := List.drop_eq_getElem_cons h
  rw [take_snoc s k h, List.map_append, hd, List.append_assoc]
  rfl
theorem foldTo_skip (s : List UInt8) (k : Nat) (h : k < s.length) (hl : low s[k] = s[k]) : foldTo (k + 1) s = foldTo k s := by
  rw [← foldTo_set s k h, hl]
  obtain ⟨h1, h2⟩ := List.getElem?_eq_some_iff.1 (foldTo_at s k h)
  rw [← h2]
  exact List.set_getElem_self h1

set_option maxHeartbeats 400000 in
theorem fold_any (s : List UInt8) (w : World) (hs : s.length ≤ 140737488355328) :
    Calls Tryz.prog 66 #[.string (bs s)] w fun e w' => e = .returned (.string (bs (fold s))) ∧ Below w.heap.size w w' := by
  have hcv := conv_sb
  have HL : Hid ((fold s).length = s.length) := fold_length s
  go_enter Tryz.func66, Tryz.ntmps66
  go_upto_region 2 with fail
  clear hcv
  have hrow := bytesWorld_row w 5 s
  have hbel := bytesWorld_below w 5 (bs s)
  have hsz : w.heap.size < (Lib.bytesWorld w 5 (bs s)).heap.size := by rw [Lib.bytesWorld_size]; omega
  generalize Lib.bytesWorld w 5 (bs s) = w0 at *
  generalize grownCap w s.length 0 5 = cp at *
  go_wp2
  go_loopw [10] (fun t wr => ∃ k : Nat, k ≤ s.length ∧ t = .int .i64 k ∧ RowB wr w.heap.size 0 (foldTo k s) ∧ Below w.heap.size w wr ∧ w.heap.size < wr.heap.size) (fun t _ => s.length - (intOf t).toNat)
  case atStart => exact ⟨0, by omega, rfl, by rw [foldTo_zero]; exact hrow, hbel, hsz⟩
  case round =>
    obtain ⟨k, hk, rfl, hrw, hbr, hszr⟩ := hrel
    clear hrow hbel hsz
    by_cases hlt : k < s.length
    · have hcell := (hrw k _ (foldTo_at s k hlt)).1
      have hfz := (hrw k _ (foldTo_at s k hlt)).2
      simp only [Nat.zero_add] at hcell hfz
      have hc255 : (s[k].toNat : Int) ≤ 255 := by have := s[k].toNat_lt; omega
      by_cases hup : 65 ≤ s[k].toNat ∧ s[k].toNat ≤ 90
      · obtain ⟨hu1, hu2⟩ := hup
        have HS : Hid ((s[k].toNat : Int) + 97 - 65 = ((low s[k]).toNat : Int)) := Lib.hid (by rw [low_yes hu1 hu2]; omega)
        have HR := Lib.hid (hrw.set k (low s[k]))
        have HT := Lib.hid (foldTo_set s k hlt)
        go_wp2
        go_roundw
        case rel => exact ⟨k + 1, by omega, by go_num, by rw [HS.out, ← HT.out]; have h := HR.out; rwa [Nat.zero_add] at h, hbr.setCell (p := ⟨w.heap.size, k, none⟩) (Nat.le_refl _) _, by simpa [World.setCell] using hszr⟩
        case measure => simp [intOf]; omega
      · have HT := Lib.hid (foldTo_skip s k hlt (low_no hup))
        go_wp2
        all_goals
          go_roundw
          case rel => exact ⟨k + 1, by omega, by go_num, by rw [HT.out]; exact hrw, hbr, hszr⟩
          case measure => simp [intOf]; omega
    · obtain rfl : k = s.length := by omega
      go_upto_region 8 with fail
      have hcb := conv_bs (w := wr) (A := some ⟨w.heap.size, 0, none⟩) (n := s.length) (l := fold s) (by rw [← foldTo_all s _ (Nat.le_refl _)]; have := hrw.rd hszr; rwa [foldTo_length] at this)
      go_wp2
      go_ret
      exact ⟨rfl, hbr⟩
end Go.Proofs.YtgkphjbcaidcpaaGreatDoor
namespace Go.Proofs
open Go.RowKit
open Go.Shelf
def Tryz.lays160_ren : Go.Shelf.Ren := ⟨fun | 160 => 72 | 232 => 75 | 231 => 74 | 227 => 76 | 234 => 78 | 233 => 77 | 236 => 80 | 235 => 79 | 228 => 83 | 271 => 85 | 151 => 84 | 197 => 46 | 120 => 92 | 152 => 91 | 260 => 58 | 137 => 63 | 119 => 97 | 224 => 61 | 225 => 60 | 217 => 59 | 266 => 69 | n => n, fun | 9 => 9 | 4 => 4 | 3 => 3 | 5 => 5 | 117 => 131 | 116 => 130 | 0 => 0 | 124 => 134 | 21 => 21 | 105 => 97 | 46 => 96 | 119 => 117 | 139 => 120 | 138 => 119 | n => n, fun | 3 => 1 | 4 => 2 | n => n⟩

theorem Tryz.lays160 : Go.Proofs.Lays.n160 Tryz.prog Tryz.lays160_ren := {
  mixed := by kernel_rfl
  f119 := Tryz.func97.trans (congrArg some (by kernel_rfl))
  f120 := Tryz.func92.trans (congrArg some (by kernel_rfl))
  f137 := Tryz.func63.trans (congrArg some (by kernel_rfl))
  f151 := Tryz.func84.trans (congrArg some (by kernel_rfl))
  f152 := Tryz.func91.trans (congrArg some (by kernel_rfl))
  f160 := Tryz.func72.trans (congrArg some (by kernel_rfl))
  f197 := Tryz.func46.trans (congrArg some (by kernel_rfl))
  f217 := Tryz.func59.trans (congrArg some (by kernel_rfl))
  f224 := Tryz.func61.trans (congrArg some (by kernel_rfl))
  f225 := Tryz.func60.trans (congrArg some (by kernel_rfl))
  f227 := Tryz.func76.trans (congrArg some (by kernel_rfl))
  f228 := Tryz.func83.trans (congrArg some (by kernel_rfl))
  f231 := Tryz.func74.trans (congrArg some (by kernel_rfl))
  f232 := Tryz.func75.trans (congrArg some (by kernel_rfl))
  f233 := Tryz.func77.trans (congrArg some (by kernel_rfl))
  f234 := Tryz.func78.trans (congrArg some (by kernel_rfl))
  f235 := Tryz.func79.trans (congrArg some (by kernel_rfl))
  f236 := Tryz.func80.trans (congrArg some (by kernel_rfl))
  f260 := Tryz.func58.trans (congrArg some (by kernel_rfl))
  f266 := Tryz.func69.trans (congrArg some (by kernel_rfl))
  f271 := Tryz.func85.trans (congrArg some (by kernel_rfl))
  t0 := Tryz.underlying0
  a0 := Tryz.isAgg0
  z0 := Tryz.sizeOf0
  v0 := Tryz.zeroValue0
  t3 := Tryz.underlying3
  a3 := Tryz.isAgg3
  z3 := Tryz.sizeOf3
  v3 := Tryz.zeroValue3
  t4 := Tryz.underlying4
  a4 := Tryz.isAgg4
  z4 := Tryz.sizeOf4
  v4 := Tryz.zeroValue4
  t5 := Tryz.underlying5
  a5 := Tryz.isAgg5
  z5 := Tryz.sizeOf5
  v5 := Tryz.zeroValue5
  t9 := Tryz.underlying9
  a9 := Tryz.isAgg9
  z9 := Tryz.sizeOf9
  v9 := Tryz.zeroValue9
  t21 := Tryz.underlying21
  a21 := Tryz.isAgg21
  z21 := Tryz.sizeOf21
  v21 := Tryz.zeroValue21
  t46 := Tryz.underlying96
  a46 := Tryz.isAgg96
  z46 := Tryz.sizeOf96
  v46 := Tryz.zeroValue96
  t105 := Tryz.underlying97
  a105 := Tryz.isAgg97
  z105 := Tryz.sizeOf97
  v105 := Tryz.zeroValue97
  t116 := Tryz.underlying130
  a116 := Tryz.isAgg130
  z116 := Tryz.sizeOf130
  t117 := Tryz.underlying131
  a117 := Tryz.isAgg131
  z117 := Tryz.sizeOf131
  v117 := Tryz.zeroValue131
  t119 := Tryz.underlying117
  a119 := Tryz.isAgg117
  z119 := Tryz.sizeOf117
  t124 := Tryz.underlying134
  a124 := Tryz.isAgg134
  z124 := Tryz.sizeOf134
  v124 := Tryz.zeroValue134
  t138 := Tryz.underlying119
  a138 := Tryz.isAgg119
  z138 := Tryz.sizeOf119
  v138 := Tryz.zeroValue119
  t139 := Tryz.underlying120
  a139 := Tryz.isAgg120
  z139 := Tryz.sizeOf120
  v139 := Tryz.zeroValue120
  g3 := by kernel_rfl
  g4 := by kernel_rfl }

open Go.RowKit in

theorem Tryz.strings_Trim_one (s : ByteArray) (c : UInt8) (hc : c.toNat < 128) (w : World) (hs : s.size ≤ 9223372036854775807) :
    Calls Tryz.prog 72 #[.string s, .string ⟨#[c]⟩] w fun e w' => e = .returned (.string ⟨(Lib.trimB s.data.toList c).toArray⟩) ∧ (w' = w ∨ w' = w.drew) := Any.strings_Trim_one Tryz.lays160 s c hc w hs

def Tryz.lays137_ren : Go.Shelf.Ren := ⟨fun | 137 => 63 | 217 => 59 | 266 => 69 | n => n, fun | 9 => 9 | 5 => 5 | 3 => 3 | n => n, fun | n => n⟩

theorem Tryz.lays137 : Go.Proofs.Lays.n137 Tryz.prog Tryz.lays137_ren := {
  mixed := by kernel_rfl
  f137 := Tryz.func63.trans (congrArg some (by kernel_rfl))
  f217 := Tryz.func59.trans (congrArg some (by kernel_rfl))
  f266 := Tryz.func69.trans (congrArg some (by kernel_rfl))
  t3 := Tryz.underlying3
  a3 := Tryz.isAgg3
  z3 := Tryz.sizeOf3
  v3 := Tryz.zeroValue3
  t5 := Tryz.underlying5
  a5 := Tryz.isAgg5
  z5 := Tryz.sizeOf5
  v5 := Tryz.zeroValue5
  t9 := Tryz.underlying9
  a9 := Tryz.isAgg9
  z9 := Tryz.sizeOf9
  v9 := Tryz.zeroValue9 }

open Go.RowKit in

theorem Tryz.strings_IndexByte (s : ByteArray) (c : Int) (w : World) :
    Calls Tryz.prog 63 #[.string s, .int .u8 c] w fun e w' => e = .returned (.int .i64 (Lib.indexByte s.data.toList c.toNat.toUInt8)) ∧ w' = w := Any.strings_IndexByte Tryz.lays137 s c w

def Tryz.lays172_ren : Go.Shelf.Ren := ⟨fun | 172 => 73 | 244 => 81 | 245 => 82 | 247 => 86 | 279 => 87 | 280 => 88 | 281 => 89 | 282 => 90 | 287 => 93 | 316 => 94 | 171 => 96 | 205 => 95 | 321 => 98 | 322 => 99 | 243 => 100 | 246 => 101 | 283 => 102 | 284 => 103 | 285 => 104 | 286 => 105 | 129 => 107 | 317 => 106 | 318 => 108 | 319 => 109 | 320 => 110 | 337 => 111 | 338 => 112 | n => n, fun | 9 => 9 | 3 => 3 | 75 => 125 | 76 => 126 | 4 => 4 | 5 => 5 | 167 => 137 | 37 => 65 | 0 => 0 | 85 => 138 | 2 => 2 | 168 => 140 | 53 => 144 | 175 => 145 | 46 => 96 | 210 => 148 | 127 => 152 | 145 => 155 | 143 => 153 | 21 => 21 | 171 => 157 | 173 => 160 | 212 => 163 | 51 => 95 | 20 => 20 | 213 => 164 | 232 => 168 | 233 => 169 | 80 => 170 | n => n, fun | 15 => 3 | 16 => 4 | 17 => 5 | 18 => 6 | 19 => 7 | n => n⟩

theorem Tryz.lays172 : Go.Proofs.Lays.n172 Tryz.prog Tryz.lays172_ren := {
  mixed := by kernel_rfl
  f129 := Tryz.func107.trans (congrArg some (by kernel_rfl))
  f171 := Tryz.func96.trans (congrArg some (by kernel_rfl))
  f172 := Tryz.func73.trans (congrArg some (by kernel_rfl))
  f205 := Tryz.func95.trans (congrArg some (by kernel_rfl))
  f243 := Tryz.func100.trans (congrArg some (by kernel_rfl))
  f244 := Tryz.func81.trans (congrArg some (by kernel_rfl))
  f245 := Tryz.func82.trans (congrArg some (by kernel_rfl))
  f246 := Tryz.func101.trans (congrArg some (by kernel_rfl))
  f247 := Tryz.func86.trans (congrArg some (by kernel_rfl))
  f279 := Tryz.func87.trans (congrArg some (by kernel_rfl))
  f280 := Tryz.func88.trans (congrArg some (by kernel_rfl))
  f281 := Tryz.func89.trans (congrArg some (by kernel_rfl))
  f282 := Tryz.func90.trans (congrArg some (by kernel_rfl))
  f283 := Tryz.func102.trans (congrArg some (by kernel_rfl))
  f284 := Tryz.func103.trans (congrArg some (by kernel_rfl))
  f285 := Tryz.func104.trans (congrArg some (by kernel_rfl))
  f286 := Tryz.func105.trans (congrArg some (by kernel_rfl))
  f287 := Tryz.func93.trans (congrArg some (by kernel_rfl))
  f316 := Tryz.func94.trans (congrArg some (by kernel_rfl))
  f317 := Tryz.func106.trans (congrArg some (by kernel_rfl))
  f318 := Tryz.func108.trans (congrArg some (by kernel_rfl))
  f319 := Tryz.func109.trans (congrArg some (by kernel_rfl))
  f320 := Tryz.func110.trans (congrArg some (by kernel_rfl))
  f321 := Tryz.func98.trans (congrArg some (by kernel_rfl))
  f322 := Tryz.func99.trans (congrArg some (by kernel_rfl))
  f337 := Tryz.func111.trans (congrArg some (by kernel_rfl))
  f338 := Tryz.func112.trans (congrArg some (by kernel_rfl))
  t0 := Tryz.underlying0
  a0 := Tryz.isAgg0
  z0 := Tryz.sizeOf0
  v0 := Tryz.zeroValue0
  t2 := Tryz.underlying2
  a2 := Tryz.isAgg2
  z2 := Tryz.sizeOf2
  v2 := Tryz.zeroValue2
  t3 := Tryz.underlying3
  a3 := Tryz.isAgg3
  z3 := Tryz.sizeOf3
  v3 := Tryz.zeroValue3
  t4 := Tryz.underlying4
  a4 := Tryz.isAgg4
  z4 := Tryz.sizeOf4
  v4 := Tryz.zeroValue4
  t5 := Tryz.underlying5
  a5 := Tryz.isAgg5
  z5 := Tryz.sizeOf5
  v5 := Tryz.zeroValue5
  t9 := Tryz.underlying9
  a9 := Tryz.isAgg9
  z9 := Tryz.sizeOf9
  v9 := Tryz.zeroValue9
  t20 := Tryz.underlying20
  a20 := Tryz.isAgg20
  z20 := Tryz.sizeOf20
  v20 := Tryz.zeroValue20
  t21 := Tryz.underlying21
  a21 := Tryz.isAgg21
  z21 := Tryz.sizeOf21
  v21 := Tryz.zeroValue21
  t37 := Tryz.underlying65
  a37 := Tryz.isAgg65
  z37 := Tryz.sizeOf65
  v37 := Tryz.zeroValue65
  t46 := Tryz.underlying96
  a46 := Tryz.isAgg96
  z46 := Tryz.sizeOf96
  v46 := Tryz.zeroValue96
  t51 := Tryz.underlying95
  a51 := Tryz.isAgg95
  z51 := Tryz.sizeOf95
  v51 := Tryz.zeroValue95
  t53 := Tryz.underlying144
  a53 := Tryz.isAgg144
  z53 := Tryz.sizeOf144
  v53 := Tryz.zeroValue144
  t75 := Tryz.underlying125
  a75 := Tryz.isAgg125
  z75 := Tryz.sizeOf125
  v75 := Tryz.zeroValue125
  t76 := Tryz.underlying126
  a76 := Tryz.isAgg126
  z76 := Tryz.sizeOf126
  v76 := Tryz.zeroValue126
  t85 := Tryz.underlying138
  a85 := Tryz.isAgg138
  z85 := Tryz.sizeOf138
  v85 := Tryz.zeroValue138
  t127 := Tryz.underlying152
  a127 := Tryz.isAgg152
  z127 := Tryz.sizeOf152
  v127 := Tryz.zeroValue152
  t143 := Tryz.underlying153
  a143 := Tryz.isAgg153
  z143 := Tryz.sizeOf153
  v143 := Tryz.zeroValue153
  t145 := Tryz.underlying155
  a145 := Tryz.isAgg155
  z145 := Tryz.sizeOf155
  v145 := Tryz.zeroValue155
  t167 := Tryz.underlying137
  a167 := Tryz.isAgg137
  z167 := Tryz.sizeOf137
  v167 := Tryz.zeroValue137
  t168 := Tryz.underlying140
  a168 := Tryz.isAgg140
  z168 := Tryz.sizeOf140
  v168 := Tryz.zeroValue140
  t171 := Tryz.underlying157
  a171 := Tryz.isAgg157
  z171 := Tryz.sizeOf157
  v171 := Tryz.zeroValue157
  t173 := Tryz.underlying160
  a173 := Tryz.isAgg160
  z173 := Tryz.sizeOf160
  v173 := Tryz.zeroValue160
  t175 := Tryz.underlying145
  a175 := Tryz.isAgg145
  z175 := Tryz.sizeOf145
  v175 := Tryz.zeroValue145
  t210 := Tryz.underlying148
  a210 := Tryz.isAgg148
  z210 := Tryz.sizeOf148
  v210 := Tryz.zeroValue148
  t212 := Tryz.underlying163
  a212 := Tryz.isAgg163
  z212 := Tryz.sizeOf163
  v212 := Tryz.zeroValue163
  t213 := Tryz.underlying164
  a213 := Tryz.isAgg164
  z213 := Tryz.sizeOf164
  t232 := Tryz.underlying168
  a232 := Tryz.isAgg168
  z232 := Tryz.sizeOf168
  v232 := Tryz.zeroValue168
  t233 := Tryz.underlying169
  a233 := Tryz.isAgg169
  z233 := Tryz.sizeOf169
  v233 := Tryz.zeroValue169
  g15 := by kernel_rfl
  g16 := by kernel_rfl
  g17 := by kernel_rfl
  g18 := by kernel_rfl
  g19 := by kernel_rfl }

open Go.RowKit in

theorem Tryz.strconv_Atoi (s : ByteArray) (n : Int) (hl : s.size ≤ 18) (h : Lib.atoi s.data.toList = some n) (w : World) :
    Calls Tryz.prog 73 #[.string s] w fun e w' => e = .returned (.tuple #[.int .i64 n, .nilIface]) ∧ ∃ t, w' = Lib.bytesWorld w 5 t := Any.strconv_Atoi Tryz.lays172 s n hl h w

def Tryz.lays145_ren : Go.Shelf.Ren := ⟨fun | 145 => 64 | 220 => 71 | 219 => 48 | 217 => 59 | 225 => 60 | 224 => 61 | 267 => 62 | 266 => 69 | 314 => 70 | n => n, fun | 9 => 9 | 4 => 4 | 59 => 105 | 3 => 3 | 5 => 5 | 46 => 96 | 146 => 121 | 51 => 95 | n => n, fun | 1 => 0 | n => n⟩

theorem Tryz.lays145 : Go.Proofs.Lays.n145 Tryz.prog Tryz.lays145_ren := {
  mixed := by kernel_rfl
  f145 := Tryz.func64.trans (congrArg some (by kernel_rfl))
  f217 := Tryz.func59.trans (congrArg some (by kernel_rfl))
  f219 := Tryz.func48.trans (congrArg some (by kernel_rfl))
  f220 := Tryz.func71.trans (congrArg some (by kernel_rfl))
  f224 := Tryz.func61.trans (congrArg some (by kernel_rfl))
  f225 := Tryz.func60.trans (congrArg some (by kernel_rfl))
  f266 := Tryz.func69.trans (congrArg some (by kernel_rfl))
  f267 := Tryz.func62.trans (congrArg some (by kernel_rfl))
  f314 := Tryz.func70.trans (congrArg some (by kernel_rfl))
  t3 := Tryz.underlying3
  a3 := Tryz.isAgg3
  z3 := Tryz.sizeOf3
  v3 := Tryz.zeroValue3
  t4 := Tryz.underlying4
  a4 := Tryz.isAgg4
  z4 := Tryz.sizeOf4
  v4 := Tryz.zeroValue4
  t5 := Tryz.underlying5
  a5 := Tryz.isAgg5
  z5 := Tryz.sizeOf5
  v5 := Tryz.zeroValue5
  t9 := Tryz.underlying9
  a9 := Tryz.isAgg9
  z9 := Tryz.sizeOf9
  v9 := Tryz.zeroValue9
  t46 := Tryz.underlying96
  a46 := Tryz.isAgg96
  z46 := Tryz.sizeOf96
  v46 := Tryz.zeroValue96
  t51 := Tryz.underlying95
  a51 := Tryz.isAgg95
  z51 := Tryz.sizeOf95
  v51 := Tryz.zeroValue95
  t59 := Tryz.underlying105
  a59 := Tryz.isAgg105
  z59 := Tryz.sizeOf105
  v59 := Tryz.zeroValue105
  t146 := Tryz.underlying121
  a146 := Tryz.isAgg121
  z146 := Tryz.sizeOf121
  v146 := Tryz.zeroValue121
  g1 := by kernel_rfl }

open Go.RowKit Go.Lib in

theorem Tryz.strings_Cut (s sep : ByteArray) (m : Int) (w : World) (hs : s.size < 4294967281) (hm : w.cell? ⟨0, 0, none⟩ = some (.int .i64 m)) :
    Calls Tryz.prog 64 #[.string s, .string sep] w fun e w' => e = .returned (.tuple #[.string ⟨(Lib.cut s.data.toList sep.data.toList).1.toArray⟩, .string ⟨(Lib.cut s.data.toList sep.data.toList).2.1.toArray⟩, .bool (Lib.cut s.data.toList sep.data.toList).2.2]) ∧ ∃ n, w' = w.drewN n := Any.strings_Cut Tryz.lays145 s sep m w hs hm

def Tryz.lays146_ren : Go.Shelf.Ren := ⟨fun | 146 => 16 | 221 => 26 | 268 => 34 | 138 => 35 | 143 => 36 | 195 => 45 | 197 => 46 | 218 => 47 | 219 => 48 | 260 => 58 | 217 => 59 | 225 => 60 | 224 => 61 | 267 => 62 | 266 => 69 | 314 => 70 | n => n, fun | 9 => 9 | 31 => 39 | 3 => 3 | 4 => 4 | 0 => 0 | 105 => 97 | 21 => 21 | 5 => 5 | 46 => 96 | 119 => 117 | 139 => 120 | 138 => 119 | 146 => 121 | 51 => 95 | n => n, fun | 1 => 0 | 3 => 1 | 4 => 2 | n => n⟩

theorem Tryz.lays146 : Go.Proofs.Lays.n146 Tryz.prog Tryz.lays146_ren := {
  mixed := by kernel_rfl
  f138 := Tryz.func35.trans (congrArg some (by kernel_rfl))
  f143 := Tryz.func36.trans (congrArg some (by kernel_rfl))
  f146 := Tryz.func16.trans (congrArg some (by kernel_rfl))
  f195 := Tryz.func45.trans (congrArg some (by kernel_rfl))
  f197 := Tryz.func46.trans (congrArg some (by kernel_rfl))
  f217 := Tryz.func59.trans (congrArg some (by kernel_rfl))
  f218 := Tryz.func47.trans (congrArg some (by kernel_rfl))
  f219 := Tryz.func48.trans (congrArg some (by kernel_rfl))
  f221 := Tryz.func26.trans (congrArg some (by kernel_rfl))
  f224 := Tryz.func61.trans (congrArg some (by kernel_rfl))
  f225 := Tryz.func60.trans (congrArg some (by kernel_rfl))
  f260 := Tryz.func58.trans (congrArg some (by kernel_rfl))
  f266 := Tryz.func69.trans (congrArg some (by kernel_rfl))
  f267 := Tryz.func62.trans (congrArg some (by kernel_rfl))
  f268 := Tryz.func34.trans (congrArg some (by kernel_rfl))
  f314 := Tryz.func70.trans (congrArg some (by kernel_rfl))
  t0 := Tryz.underlying0
  a0 := Tryz.isAgg0
  z0 := Tryz.sizeOf0
  v0 := Tryz.zeroValue0
  t3 := Tryz.underlying3
  a3 := Tryz.isAgg3
  z3 := Tryz.sizeOf3
  v3 := Tryz.zeroValue3
  t4 := Tryz.underlying4
  a4 := Tryz.isAgg4
  z4 := Tryz.sizeOf4
  v4 := Tryz.zeroValue4
  t5 := Tryz.underlying5
  a5 := Tryz.isAgg5
  z5 := Tryz.sizeOf5
  v5 := Tryz.zeroValue5
  t9 := Tryz.underlying9
  a9 := Tryz.isAgg9
  z9 := Tryz.sizeOf9
  v9 := Tryz.zeroValue9
  t21 := Tryz.underlying21
  a21 := Tryz.isAgg21
  z21 := Tryz.sizeOf21
  v21 := Tryz.zeroValue21
  t31 := Tryz.underlying39
  a31 := Tryz.isAgg39
  z31 := Tryz.sizeOf39
  v31 := Tryz.zeroValue39
  t46 := Tryz.underlying96
  a46 := Tryz.isAgg96
  z46 := Tryz.sizeOf96
  v46 := Tryz.zeroValue96
  t51 := Tryz.underlying95
  a51 := Tryz.isAgg95
  z51 := Tryz.sizeOf95
  v51 := Tryz.zeroValue95
  t105 := Tryz.underlying97
  a105 := Tryz.isAgg97
  z105 := Tryz.sizeOf97
  v105 := Tryz.zeroValue97
  t119 := Tryz.underlying117
  a119 := Tryz.isAgg117
  z119 := Tryz.sizeOf117
  t138 := Tryz.underlying119
  a138 := Tryz.isAgg119
  z138 := Tryz.sizeOf119
  v138 := Tryz.zeroValue119
  t139 := Tryz.underlying120
  a139 := Tryz.isAgg120
  z139 := Tryz.sizeOf120
  v139 := Tryz.zeroValue120
  t146 := Tryz.underlying121
  a146 := Tryz.isAgg121
  z146 := Tryz.sizeOf121
  v146 := Tryz.zeroValue121
  g1 := by kernel_rfl
  g3 := by kernel_rfl
  g4 := by kernel_rfl }

open Go.RowKit Go.Lib in

theorem Tryz.strings_Split (s sep : ByteArray) (m : Int) (w : World) (hs : s.size < 4294967281) (hm : w.cell? ⟨0, 0, none⟩ = some (.int .i64 m)) (h1 : 1 ≤ sep.size) :
    Calls Tryz.prog 16 #[.string s, .string sep] w fun e w' =>
      e = .returned (.slice (some ⟨w.heap.size, 0, none⟩) (Lib.countB s sep + 1) (Lib.countB s sep + 1)) ∧ w' = w.alloc (.cells ((Lib.splitB sep 0 (Lib.countB s sep) s).map Value.string).toArray 9) := Any.strings_Split Tryz.lays146 (by kernel_rfl) s sep m w hs hm h1

def Tryz.lays229_ren : Go.Shelf.Ren := ⟨fun | 229 => 17 | n => n, fun | 9 => 9 | 40 => 52 | 31 => 39 | 152 => 67 | 3 => 3 | 0 => 0 | 4 => 4 | 21 => 21 | 154 => 69 | n => n, fun | n => n⟩

theorem Tryz.lays229 : Go.Proofs.Lays.n229 Tryz.prog Tryz.lays229_ren := {
  mixed := by kernel_rfl
  f229 := Tryz.func17.trans (congrArg some (by kernel_rfl))
  t0 := Tryz.underlying0
  a0 := Tryz.isAgg0
  z0 := Tryz.sizeOf0
  v0 := Tryz.zeroValue0
  t3 := Tryz.underlying3
  a3 := Tryz.isAgg3
  z3 := Tryz.sizeOf3
  v3 := Tryz.zeroValue3
  t4 := Tryz.underlying4
  a4 := Tryz.isAgg4
  z4 := Tryz.sizeOf4
  v4 := Tryz.zeroValue4
  t9 := Tryz.underlying9
  a9 := Tryz.isAgg9
  z9 := Tryz.sizeOf9
  v9 := Tryz.zeroValue9
  t21 := Tryz.underlying21
  a21 := Tryz.isAgg21
  z21 := Tryz.sizeOf21
  v21 := Tryz.zeroValue21
  t31 := Tryz.underlying39
  a31 := Tryz.isAgg39
  z31 := Tryz.sizeOf39
  v31 := Tryz.zeroValue39
  t40 := Tryz.underlying52
  a40 := Tryz.isAgg52
  z40 := Tryz.sizeOf52
  v40 := Tryz.zeroValue52
  t152 := Tryz.underlying67
  a152 := Tryz.isAgg67
  z152 := Tryz.sizeOf67
  v152 := Tryz.zeroValue67
  t154 := Tryz.underlying69
  a154 := Tryz.isAgg69
  z154 := Tryz.sizeOf69
  v154 := Tryz.zeroValue69 }

open Go.RowKit Go.Lib in

theorem Tryz.strings_FieldsFunc (g : Nat) (lb : Array Value) (eg : ∀ args w, (callFunc g args).run Tryz.prog w = .ok (.enter g args) w) (p : Nat → Bool) (s : ByteArray) (w : World) (hs : s.size ≤ 4294967296) (hp : PredAt Tryz.prog g lb encR p w) :
    Calls Tryz.prog 17 #[.string s, .func (.func g) #[] lb] w fun e w' => ∃ A, e = .returned (.slice (some ⟨A, 0, none⟩) (Lib.goFieldsP p s).length (Lib.goFieldsP p s).length) ∧ w.heap.size ≤ A ∧
      w'.ownsRow w.heap.size 9 1 (.slice (some ⟨A, 0, none⟩) (Lib.goFieldsP p s).length (Lib.goFieldsP p s).length) (Lib.goFieldsP p s).length ((Lib.goFieldsP p s).map Value.string) ∧ Below w.heap.size w w' := Any.strings_FieldsFunc Tryz.lays229 g lb eg p s w hs hp (by kernel_rfl) (by kernel_rfl)

theorem Tryz.strings_Trim_set (s cutset : ByteArray) (w : World) (hs : s.size ≤ 9223372036854775807) (hcs : cutset.size < 4294967281) (hascii : ∀ (j : Nat) b, cutset.data.toList[j]? = some b → b.toNat < 128) :
    Calls Tryz.prog 72 #[.string s, .string cutset] w fun e w2 => e = .returned (.string ⟨(Lib.trimS s.data.toList cutset.data.toList).toArray⟩) ∧ Below w.heap.size w w2 := Any.strings_Trim_laid Tryz.lays160 (by kernel_rfl) s cutset w hs hcs hascii
end Go.Proofs
set_option linter.unusedVariables false
set_option linter.unusedSimpArgs false
namespace Go.Proofs.YtgkphjbcaidcpaaGreatDoor
open Go.RowKit

end Go.Proofs.YtgkphjbcaidcpaaGreatDoor
set_option linter.unusedVariables false
set_option linter.unusedSimpArgs false
namespace Go.Proofs.YtgkphjbcaidcpaaGreatDoor
open Go.RowKit

theorem u8eq {a b : UInt8} (h : a = b) : ((a.toNat : Int) == (b.toNat : Int)) = true := by subst h; simp
theorem u8ne {a b : UInt8} (h : ¬ a = b) : ((a.toNat : Int) == (b.toNat : Int)) = false := by
  rw [beq_eq_false_iff_ne]; intro e; exact h (UInt8.toNat_inj.1 (by omega))
theorem u8eqk {a b : UInt8} (h : a = b) (k : Int) (hk : ((b.toNat : Nat) : Int) = k) : ((a.toNat : Int) == k) = true := by subst h; subst hk; simp
theorem u8nek {a b : UInt8} (h : ¬ a = b) (k : Int) (hk : ((b.toNat : Nat) : Int) = k) : ((a.toNat : Int) == k) = false := by subst hk; exact u8ne h
theorem span_slice (s : List UInt8) (f i : Nat) : (s.drop f).take (i - f) = span s f i := rfl
theorem span_len (s : List UInt8) (f i : Nat) : (span s f i).length ≤ s.length := by unfold span; rw [List.length_take, List.length_drop]; omega
theorem rest_map_end {c : UInt8} {s : List UInt8} {f i : Nat} {q : Bool} (g : List UInt8 → List UInt8) (h : s.length ≤ i) : (rest c s f i q).map g = [g (s.drop f)] := by rw [rest_end h]; rfl

end Go.Proofs.YtgkphjbcaidcpaaGreatDoor
set_option linter.unusedVariables false
set_option linter.unusedSimpArgs false
namespace Go.Proofs.YtgkphjbcaidcpaaGreatDoor
open Go.RowKit

end Go.Proofs.YtgkphjbcaidcpaaGreatDoor
set_option linter.unusedVariables false
set_option linter.unusedSimpArgs false
namespace Go.Proofs.YtgkphjbcaidcpaaGreatDoor
open Go.RowKit

/-- The elements: the trimmed pieces that are not empty. -/
def keepE (l : List (List UInt8)) : List (List UInt8) := l.filter fun p => !p.isEmpty
theorem listL_eq (s : List UInt8) : listL s = keepE ((splitL 44 s).map trimL) := rfl
theorem keepE_snoc {l : List (List UInt8)} {k : Nat} {x : List UInt8} (h : l[k]? = some x) : keepE (l.take (k + 1)) = keepE (l.take k) ++ (if (!x.isEmpty) = true then [x] else []) := filter_snoc h
theorem keepE_le (l : List (List UInt8)) : (keepE l).length ≤ l.length := List.length_filter_le _ _
theorem pieces_len (c : UInt8) : ∀ (s : List UInt8) (q : Bool) (cur : List UInt8), (pieces c s q cur).length ≤ s.length + 1 ∧ ∀ p ∈ pieces c s q cur, p.length ≤ cur.length + s.length
  | [], q, cur => by simp [pieces]
  | [b], q, cur => by
    simp only [pieces]
    split
    · simp
    · split
      · simp
      · split <;> simp
  | b :: d :: r, q, cur => by
    have i1 := pieces_len c r q (cur ++ [b, d])
    have i2 := pieces_len c (d :: r) (!q) (cur ++ [b])
    have i3 := pieces_len c (d :: r) q []
    have i4 := pieces_len c (d :: r) q (cur ++ [b])
    simp only [pieces]
    simp only [List.length_append, List.length_cons, List.length_nil] at i1 i2 i3 i4 ⊢
    split
    · exact ⟨by have := i1.1; omega, fun p hp => by have := i1.2 p hp; omega⟩
    · split
      · exact ⟨by have := i2.1; omega, fun p hp => by have := i2.2 p hp; omega⟩
      · split
        · refine ⟨by simp only [List.length_cons]; have := i3.1; omega, fun p hp => ?_⟩
          rcases List.mem_cons.1 hp with rfl | hp
          · omega
          · have := i3.2 p hp; omega
        · exact ⟨by have := i4.1; omega, fun p hp => by have := i4.2 p hp; omega⟩
theorem split_len (c : UInt8) (s : List UInt8) : (splitL c s).length ≤ s.length + 1 := (pieces_len c s false []).1
theorem split_each (c : UInt8) (s : List UInt8) {k : Nat} {x : List UInt8} (h : (splitL c s)[k]? = some x) : x.length ≤ s.length := by
  have := (pieces_len c s false []).2 x (mem_of_get? h)
  simpa using this
theorem list_len (s : List UInt8) : (listL s).length ≤ s.length + 1 := Nat.le_trans (keepE_le _) (by rw [List.length_map]; exact split_len 44 s)
theorem list_each (s : List UInt8) {x : List UInt8} (h : x ∈ listL s) : x.length ≤ s.length := by
  obtain ⟨y, hy, rfl⟩ := List.mem_map.1 (List.mem_filter.1 h).1
  have := (pieces_len 44 s false []).2 y hy
  have := trimL_le y
  simp at *; omega
end Go.Proofs.YtgkphjbcaidcpaaGreatDoor
