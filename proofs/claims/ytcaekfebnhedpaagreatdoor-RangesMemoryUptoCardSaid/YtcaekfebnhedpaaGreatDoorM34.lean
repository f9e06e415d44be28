/- Joined texts: The contracts of the library that this seat leans on, laid at its own dump by the kit: no condition beyond those that each states; bytes.Contains; the boundary; the reference's occurs. The conditions stand in each line. -/
import Derived.Test.YtcaekfebnhedpaaGreatDoorProg
import Derived.Test.YtcaekfebnhedpaaGreatDoorM10
import Derived.Test.YtcaekfebnhedpaaGreatDoorM29
import Derived.Shelf.Strings.Builder1
import Derived.Shelf.Strings.Builder2
import Derived.Shelf.Strings.OnBuilder
import Derived.Shelf.Strings.Trim
import Derived.Shelf.Small.Utf8
import Derived.Shelf.Small.Strs
import Derived.Shelf.Strings.BuilderF
import Derived.Shelf.Strings.BuilderK
import Derived.Shelf.Strings.Builder2Cap
import Derived.Shelf.Strconv.Atoi
import Derived.Shelf.Strconv.Itoa0
import Derived.Shelf.Strconv.Itoa1
import Derived.Shelf.LaysM
import Derived.Shelf.Strconv.Itoa2
import Derived.Shelf.Strconv.Itoa3
import Derived.Shelf.Bytes.Len
import Derived.Shelf.Bytes.TryGrow
import Derived.Shelf.Bytes.GrowSliceCatch
import Derived.Shelf.Bytes.GrowSlice
import Derived.Shelf.Strconv.AtoiErrFast
import Derived.Shelf.Strconv.ParseIntEmpty
import Derived.Shelf.Strconv.AtoiFail
import Derived.Shelf.Strconv.Clone
import Derived.Shelf.Strconv.SyntaxError
import Derived.Shelf.LaysC
import Derived.Shelf.Strconv.ToError
import Derived.Shelf.Strconv.Lower
import Derived.Shelf.Strconv.ParseUint10
import Derived.Shelf.Strconv.ParseUint10Empty
import Derived.Shelf.Strconv.ParseUint10Any
import Derived.Shelf.Strconv.ParseInt10
import Derived.Shelf.Strconv.AtoiLong
import Derived.Shelf.Strconv.AtoiInnerAll
import Derived.Shelf.Strconv.RangeError
import Derived.Shelf.Strconv.ToErrorRange
import Derived.Shelf.Strconv.AtoiAll
import Derived.Shelf.Strconv.ParseUintEmpty
import Derived.Shelf.Strconv.ParseUint10b64
import Derived.Shelf.Strconv.ParseUint10b32
import Derived.Shelf.Strconv.ParseUint10b16
import Derived.Shelf.Strconv.ParseUint10b8
import Derived.Shelf.Strconv.ParseUint10At
import Derived.Shelf.Strconv.ParseInt10At64
import Derived.Shelf.Strconv.ParseInt10At32
import Derived.Shelf.Strconv.ParseInt10At16
import Derived.Shelf.Strconv.ParseInt10At8
import Derived.Shelf.Strconv.ParseInt10All
import Derived.Shelf.Strings.Search1
import Derived.Shelf.Bytes.GrowRow0Kept
import Derived.Shelf.Strings.Search2
import Derived.Shelf.Bytes.GrowRowKept
import Derived.Shelf.Bytes.GrowNilKept
import Derived.Shelf.Strings.Cut
import Derived.Shelf.Bytes.GrowKept
import Derived.Shelf.Strings.Shaped
import Derived.Shelf.Bytes.WriteStringKept
import Derived.Shelf.Bytes.ResetKept
import Derived.Shelf.Bytes.WriteKept
import Derived.Shelf.Bytes.BufferK
import Derived.Shelf.Bytes.GrowRow0Own
import Derived.Shelf.Bytes.GrowRowOwn
import Derived.Shelf.Bytes.GrowNilOwn
import Derived.Shelf.Bytes.GrowOwn
import Derived.Shelf.Bytes.WriteAny
import Derived.Shelf.Strings.Prefix
import Derived.Shelf.Strings.Runes
import Derived.Shelf.Strings.AsciiSet
import Derived.Shelf.Bits.Mul64
import Derived.Shelf.Strings.Repeat
import Derived.Shelf.Unicode.DecodeSlow
import Derived.Shelf.Strings.BuilderCap
import Derived.Shelf.Bytes.SlIndexSmall
import Derived.Shelf.Bytes.SlIndexAt
import Derived.Shelf.Bytes.SlSearch0
import Derived.Shelf.Bytes.SlSearch1
import Derived.Shelf.Bytes.SlSearch2
import Derived.Shelf.Bytes.SlIndexWhole
import Derived.Shelf.Bytes.Small
import Derived.Shelf.Bytes.IndexByte
import Derived.Shelf.Strings.SlTrimAscii
import Derived.Lib.IndexMore
namespace Go.Proofs
open Go.RowKit
open Go.Shelf
def Tryz.laysM178_ren : Go.Shelf.Ren := ⟨fun | 178 => 64 | 251 => 90 | 252 => 91 | 181 => 125 | 184 => 126 | 290 => 127 | 324 => 160 | n => n, fun | 130 => 116 | 9 => 9 | 3 => 3 | 75 => 89 | 0 => 0 | 93 => 87 | 91 => 85 | 131 => 75 | 4 => 4 | 37 => 32 | 20 => 20 | 80 => 98 | 5 => 5 | n => n, fun | 14 => 1 | n => n⟩

theorem Tryz.laysM178 : Go.Proofs.LaysM.n178 Tryz.prog Tryz.laysM178_ren := {
  mixed := by kernel_rfl
  f178 := Tryz.func64.trans (congrArg some (by kernel_rfl))
  f181 := Tryz.func125.trans (congrArg some (by kernel_rfl))
  f184 := Tryz.func126.trans (congrArg some (by kernel_rfl))
  f251 := Tryz.func90.trans (congrArg some (by kernel_rfl))
  f252 := Tryz.func91.trans (congrArg some (by kernel_rfl))
  f290 := Tryz.func127.trans (congrArg some (by kernel_rfl))
  f324 := Tryz.func160.trans (congrArg some (by kernel_rfl))
  t0 := Tryz.underlying0
  a0 := Tryz.isAgg0
  z0 := Tryz.sizeOf0
  v0 := Tryz.zeroValue0
  t3 := Tryz.underlying3
  a3 := Tryz.isAgg3
  z3 := Tryz.sizeOf3
  v3 := Tryz.zeroValue3
  t4 := Tryz.underlying4
  a4 := Tryz.isAgg4
  z4 := Tryz.sizeOf4
  v4 := Tryz.zeroValue4
  t9 := Tryz.underlying9
  a9 := Tryz.isAgg9
  z9 := Tryz.sizeOf9
  v9 := Tryz.zeroValue9
  t20 := Tryz.underlying20
  a20 := Tryz.isAgg20
  z20 := Tryz.sizeOf20
  v20 := Tryz.zeroValue20
  t37 := Tryz.underlying32
  a37 := Tryz.isAgg32
  z37 := Tryz.sizeOf32
  v37 := Tryz.zeroValue32
  t75 := Tryz.underlying89
  a75 := Tryz.isAgg89
  z75 := Tryz.sizeOf89
  v75 := Tryz.zeroValue89
  t91 := Tryz.underlying85
  a91 := Tryz.isAgg85
  z91 := Tryz.sizeOf85
  v91 := Tryz.zeroValue85
  t93 := Tryz.underlying87
  a93 := Tryz.isAgg87
  z93 := Tryz.sizeOf87
  v93 := Tryz.zeroValue87
  t130 := Tryz.underlying116
  a130 := Tryz.isAgg116
  z130 := Tryz.sizeOf116
  v130 := Tryz.zeroValue116
  t131 := Tryz.underlying75
  a131 := Tryz.isAgg75
  z131 := Tryz.sizeOf75
  v131 := Tryz.zeroValue75
  g14 := by kernel_rfl
  t5 := Tryz.underlying5
  a5 := Tryz.isAgg5
  z5 := Tryz.sizeOf5
  v5 := Tryz.zeroValue5
  t80 := Tryz.underlying98
  a80 := Tryz.isAgg98
  z80 := Tryz.sizeOf98
  v80 := Tryz.zeroValue98
  i0 := by kernel_rfl
  i3 := by kernel_rfl
  i4 := by kernel_rfl
  i5 := by kernel_rfl
  i9 := by kernel_rfl
  i20 := by kernel_rfl
  i37 := by kernel_rfl
  i75 := by kernel_rfl
  i80 := by kernel_rfl
  i91 := by kernel_rfl
  i93 := by kernel_rfl
  i130 := by kernel_rfl
  i131 := by kernel_rfl
  m14 := by kernel_rfl }

def Tryz.laysM180_ren : Go.Shelf.Ren := ⟨fun | 180 => 65 | 251 => 90 | 252 => 91 | 181 => 125 | 184 => 126 | 290 => 127 | 324 => 160 | n => n, fun | 130 => 116 | 37 => 32 | 3 => 3 | 75 => 89 | 0 => 0 | 93 => 87 | 91 => 85 | 131 => 75 | 4 => 4 | 20 => 20 | 5 => 5 | 80 => 98 | 9 => 9 | n => n, fun | 14 => 1 | n => n⟩

theorem Tryz.laysM180 : Go.Proofs.LaysM.n180 Tryz.prog Tryz.laysM180_ren := {
  mixed := by kernel_rfl
  f180 := Tryz.func65.trans (congrArg some (by kernel_rfl))
  f181 := Tryz.func125.trans (congrArg some (by kernel_rfl))
  f184 := Tryz.func126.trans (congrArg some (by kernel_rfl))
  f251 := Tryz.func90.trans (congrArg some (by kernel_rfl))
  f252 := Tryz.func91.trans (congrArg some (by kernel_rfl))
  f290 := Tryz.func127.trans (congrArg some (by kernel_rfl))
  f324 := Tryz.func160.trans (congrArg some (by kernel_rfl))
  t0 := Tryz.underlying0
  a0 := Tryz.isAgg0
  z0 := Tryz.sizeOf0
  v0 := Tryz.zeroValue0
  t3 := Tryz.underlying3
  a3 := Tryz.isAgg3
  z3 := Tryz.sizeOf3
  v3 := Tryz.zeroValue3
  t4 := Tryz.underlying4
  a4 := Tryz.isAgg4
  z4 := Tryz.sizeOf4
  v4 := Tryz.zeroValue4
  t20 := Tryz.underlying20
  a20 := Tryz.isAgg20
  z20 := Tryz.sizeOf20
  v20 := Tryz.zeroValue20
  t37 := Tryz.underlying32
  a37 := Tryz.isAgg32
  z37 := Tryz.sizeOf32
  v37 := Tryz.zeroValue32
  t75 := Tryz.underlying89
  a75 := Tryz.isAgg89
  z75 := Tryz.sizeOf89
  v75 := Tryz.zeroValue89
  t91 := Tryz.underlying85
  a91 := Tryz.isAgg85
  z91 := Tryz.sizeOf85
  v91 := Tryz.zeroValue85
  t93 := Tryz.underlying87
  a93 := Tryz.isAgg87
  z93 := Tryz.sizeOf87
  v93 := Tryz.zeroValue87
  t130 := Tryz.underlying116
  a130 := Tryz.isAgg116
  z130 := Tryz.sizeOf116
  v130 := Tryz.zeroValue116
  t131 := Tryz.underlying75
  a131 := Tryz.isAgg75
  z131 := Tryz.sizeOf75
  v131 := Tryz.zeroValue75
  g14 := by kernel_rfl
  t5 := Tryz.underlying5
  a5 := Tryz.isAgg5
  z5 := Tryz.sizeOf5
  v5 := Tryz.zeroValue5
  t9 := Tryz.underlying9
  a9 := Tryz.isAgg9
  z9 := Tryz.sizeOf9
  v9 := Tryz.zeroValue9
  t80 := Tryz.underlying98
  a80 := Tryz.isAgg98
  z80 := Tryz.sizeOf98
  v80 := Tryz.zeroValue98
  i0 := by kernel_rfl
  i3 := by kernel_rfl
  i4 := by kernel_rfl
  i5 := by kernel_rfl
  i9 := by kernel_rfl
  i20 := by kernel_rfl
  i37 := by kernel_rfl
  i75 := by kernel_rfl
  i80 := by kernel_rfl
  i91 := by kernel_rfl
  i93 := by kernel_rfl
  i130 := by kernel_rfl
  i131 := by kernel_rfl
  m14 := by kernel_rfl }

open Go.RowKit in
theorem Tryz.Buffer_WriteString_k (B b : Nat) (bs : List Value) (s : ByteArray) (w : World) (h : Lib.IsBuffer 87 5 B b bs w) (hBw : B ≤ w.heap.size) (h1 : ∀ v ∈ bs, v.oneCell' = true) (hlim : bs.length + s.size ≤ 140737488355328) :
    Calls Tryz.prog 64 #[.pointer (some ⟨b, 0, none⟩), .string s] w fun e w' => e = .returned (.tuple #[.int .i64 s.size, .nilIface]) ∧ Lib.IsBuffer 87 5 B b (bs ++ Lib.byteCells s.data.toList) w' ∧ Below B w w' ∧ Lib.OthersKept 5 (some b) w w' := Any.Buffer_WriteString_k Tryz.laysM178 B b bs s w h hBw h1 hlim

open Go.RowKit in

theorem Tryz.Buffer_Write_any (B b : Nat) (bs cs : List Value) (a : Addr) (n c : Nat) (w : World) (h : Lib.IsBuffer 87 5 B b bs w) (hBw : B ≤ w.heap.size) (h1 : ∀ v ∈ bs, v.oneCell' = true) (hn : cs.length = n) (hab : a.block ≠ b) (hsrc : ∀ j v, cs[j]? = some v → w.cell? (a.add j) = some v) (h1c : ∀ v ∈ cs, v.oneCell' = true) (hlim : bs.length + n ≤ 140737488355328) :
    Calls Tryz.prog 65 #[.pointer (some ⟨b, 0, none⟩), .slice (some a) n c] w fun e w' => e = .returned (.tuple #[.int .i64 n, .nilIface]) ∧ Lib.IsBuffer 87 5 B b (bs ++ cs) w' ∧ Below B w w' ∧ Lib.OthersKept 5 (some b) w w' := Any.Buffer_Write_any Tryz.laysM180 B b bs cs a n c w h hBw h1 hn hab hsrc h1c hlim

def Tryz.lays186_ren : Go.Shelf.Ren := ⟨fun | 186 => 63 | 185 => 89 | 187 => 120 | 115 => 121 | 253 => 122 | 224 => 123 | 254 => 124 | 255 => 158 | 291 => 159 | n => n, fun | 37 => 32 | 4 => 4 | 3 => 3 | 0 => 0 | 5 => 5 | 46 => 143 | 9 => 9 | 146 => 171 | 51 => 168 | n => n, fun | 1 => 0 | n => n⟩

theorem Tryz.lays186 : Go.Proofs.Lays.n186 Tryz.prog Tryz.lays186_ren := {
  mixed := by kernel_rfl
  f115 := Tryz.func121.trans (congrArg some (by kernel_rfl))
  f185 := Tryz.func89.trans (congrArg some (by kernel_rfl))
  f186 := Tryz.func63.trans (congrArg some (by kernel_rfl))
  f187 := Tryz.func120.trans (congrArg some (by kernel_rfl))
  f224 := Tryz.func123.trans (congrArg some (by kernel_rfl))
  f253 := Tryz.func122.trans (congrArg some (by kernel_rfl))
  f254 := Tryz.func124.trans (congrArg some (by kernel_rfl))
  f255 := Tryz.func158.trans (congrArg some (by kernel_rfl))
  f291 := Tryz.func159.trans (congrArg some (by kernel_rfl))
  t0 := Tryz.underlying0
  a0 := Tryz.isAgg0
  z0 := Tryz.sizeOf0
  v0 := Tryz.zeroValue0
  t3 := Tryz.underlying3
  a3 := Tryz.isAgg3
  z3 := Tryz.sizeOf3
  v3 := Tryz.zeroValue3
  t4 := Tryz.underlying4
  a4 := Tryz.isAgg4
  z4 := Tryz.sizeOf4
  v4 := Tryz.zeroValue4
  t5 := Tryz.underlying5
  a5 := Tryz.isAgg5
  z5 := Tryz.sizeOf5
  v5 := Tryz.zeroValue5
  t9 := Tryz.underlying9
  a9 := Tryz.isAgg9
  z9 := Tryz.sizeOf9
  v9 := Tryz.zeroValue9
  t37 := Tryz.underlying32
  a37 := Tryz.isAgg32
  z37 := Tryz.sizeOf32
  v37 := Tryz.zeroValue32
  t46 := Tryz.underlying143
  a46 := Tryz.isAgg143
  z46 := Tryz.sizeOf143
  v46 := Tryz.zeroValue143
  t51 := Tryz.underlying168
  a51 := Tryz.isAgg168
  z51 := Tryz.sizeOf168
  v51 := Tryz.zeroValue168
  t146 := Tryz.underlying171
  a146 := Tryz.isAgg171
  z146 := Tryz.sizeOf171
  v146 := Tryz.zeroValue171
  g1 := by kernel_rfl }

open Go.RowKit Go.Lib in

theorem Tryz.bytes_Contains_longer (p q : Option Addr) (n c m d : Nat) (w : World) (h2 : 2 ≤ m) (hnm : n < m) (hm : m ≤ 9223372036854775807) :
    Calls Tryz.prog 63 #[.slice p n c, .slice q m d] w fun e w' => e = .returned (.bool false) ∧ w' = w := Any.bytes_Contains_longer Tryz.lays186 p q n c m d w h2 hnm hm

open Go.Proofs Go.RowKit Go.Lib in

theorem Tryz.bytes_Contains_at (a1 a2 : Addr) (n c1 k c2 : Nat) (xs ys : List Int) (m : Int) (w : World) (hx : xs.length = n) (hy : ys.length = k) (hr1 : ∀ x ∈ xs, 0 ≤ x ∧ x < 256) (hr2 : ∀ y ∈ ys, 0 ≤ y ∧ y < 256) (hc1 : ∀ i, i < n → w.cell? (a1.add i) = some (.int .u8 (xs.getD i 0))) (hc2 : ∀ i, i < k → w.cell? (a2.add i) = some (.int .u8 (ys.getD i 0))) (hcap : n ≤ c1) (hs : n < 4294967281) (hk : k ≤ 9223372036854775807) (hm : w.cell? ⟨0, 0, none⟩ = some (.int .i64 m)) :
    Calls Tryz.prog 63 #[.slice (some a1) n c1, .slice (some a2) k c2] w fun e w' => e = .returned (.bool (Lib.contains (Lib.bytesOf xs) (Lib.bytesOf ys))) ∧ ∃ q, w' = w.drewN q := Any.bytes_Contains_at Tryz.lays186 a1 a2 n c1 k c2 xs ys m w hx hy hr1 hr2 hc1 hc2 hcap hs hk hm
end Go.Proofs
set_option linter.unusedVariables false
set_option linter.unusedSimpArgs false
namespace Go.Proofs.YtcaekfebnhedpaaGreatDoor
open Go.RowKit

set_option maxRecDepth 100000
namespace Rg
theorem occ_at (s b : List UInt8) (i : Nat) : Lib.occAt b s i = atB s b i := by
  unfold Lib.occAt atB
  rw [Bool.eq_iff_iff, List.isPrefixOf_iff_prefix, beq_iff_eq]
  constructor
  · rintro ⟨t, h⟩
    rw [← h, List.take_left]
  · intro h
    exact ⟨(b.drop i).drop s.length, (congrArg (· ++ (b.drop i).drop s.length) h.symm).trans (List.take_append_drop _ _)⟩
theorem occ_contains {s b : List UInt8} (hs : 1 ≤ s.length) : Lib.contains b s = occB s b := by
  have hlen : ∀ i, atB s b i = true → i + s.length ≤ b.length := fun i h => by
    have := congrArg List.length (eq_of_beq h)
    rw [List.length_take, List.length_drop] at this; omega
  unfold Lib.contains occB
  rcases Lib.index_spec b s with ⟨e, h⟩ | ⟨i, e, h1, h2, _⟩
  · rw [e, decide_eq_false (by omega)]
    symm
    rw [List.any_eq_false]
    intro k hk
    rw [List.mem_range] at hk
    have := h k (by omega)
    rw [occ_at] at this
    rw [this]; decide
  · rw [e, decide_eq_true (by omega)]
    symm
    rw [List.any_eq_true]
    rw [occ_at] at h2
    have := hlen i h2
    exact ⟨i, by rw [List.mem_range]; omega, h2⟩
theorem occ_no {s b : List UInt8} (h : ∀ i, i + s.length ≤ b.length → atB s b i = false) : occB s b = false := by
  unfold occB
  rw [List.any_eq_false]
  intro k hk
  rw [List.mem_range] at hk
  rw [h k (by omega)]; decide
theorem occ_yes {s b : List UInt8} {i : Nat} (hi : i + s.length ≤ b.length) (h : atB s b i = true) : occB s b = true := by
  unfold occB
  rw [List.any_eq_true]
  exact ⟨i, by rw [List.mem_range]; omega, h⟩
end Rg
/-- A piece of a slice of bytes. -/
theorem RdB.sub {w : World} {g o n : Nat} {l : List UInt8} (h : RdB w (some ⟨g, o, none⟩) n l) {i k : Nat} (hik : i + k ≤ n) (hk : 0 < k) : RdB w (some ⟨g, o + i, none⟩) k ((l.drop i).take k) := by
  refine ⟨by rw [List.length_take, List.length_drop, h.1]; omega, by rw [List.length_map, List.length_take, List.length_drop, h.1]; omega, fun _ => ?_⟩
  obtain ⟨g', o', e, hg, hc⟩ := h.2.2 (by omega)
  injection e with e
  injection e with e1 e2
  subst e1 e2
  refine ⟨g, o + i, rfl, hg, fun j u hu => ?_⟩
  have hj : j < k := by
    have := (List.getElem?_eq_some_iff.1 hu).1
    rw [List.length_map, List.length_take] at this; omega
  rw [Nat.add_assoc]
  refine hc (i + j) u ?_
  rw [List.getElem?_map, List.getElem?_take, if_pos hj, List.getElem?_drop] at hu
  rw [List.getElem?_map]; exact hu
theorem ints_of_bytes (l : List UInt8) : Lib.bytesOf (l.map fun b => (b.toNat : Int)) = l := by
  unfold Lib.bytesOf
  rw [List.map_map]
  have h : ((fun n : Int => UInt8.ofNat n.toNat) ∘ fun b : UInt8 => (b.toNat : Int)) = id := by funext b; simp
  rw [h, List.map_id]
theorem RdB.ints {w : World} {A : Addr} {n : Nat} {l : List UInt8} (h : RdB w (some A) n l) (i : Nat) (hi : i < n) : w.cell? (A.add i) = some (.int .u8 ((l.map fun b => (b.toNat : Int)).getD i 0)) := by
  obtain ⟨g, o, e, _, hc⟩ := h.2.2 (by omega)
  injection e with e
  subst e
  have hi' : i < l.length := by rw [h.1]; exact hi
  rw [addr_add, hc i (bytV l[i]) (by simp [hi'])]
  simp [bytV, List.getD, hi']
theorem contains_any (A A2 : Option Addr) (n c n2 c2 : Nat) (b s : List UInt8) (w : World) (hM : MaxL w) (hb : RdB w A n b) (hs : RdB w A2 n2 s) (hn : n ≤ 1073741824) (hnc : n ≤ c) (h2 : 2 ≤ n2) (h3 : n2 ≤ 1073741824) :
    Calls Tryz.prog 63 #[.slice A n c, .slice A2 n2 c2] w fun e w' => e = .returned (.bool (Rg.occB s b)) ∧ Below w.heap.size w w' := by
  have hsl := hs.1
  by_cases hlt : n < n2
  · refine (Tryz.bytes_Contains_longer A A2 n c n2 c2 w h2 hlt (by omega)).mono fun e w' h => ⟨?_, by rw [h.2]; exact Below.refl _ _⟩
    rw [h.1, Rg.occ_no (fun i hi => absurd hi (by rw [hb.1, hs.1]; omega))]
  · obtain ⟨m, hm⟩ := hM
    obtain ⟨g, o, rfl, -, -⟩ := hb.2.2 (by omega)
    obtain ⟨g2, o2, rfl, -, -⟩ := hs.2.2 (by omega)
    have hr : ∀ l : List UInt8, ∀ x ∈ l.map (fun b => (b.toNat : Int)), 0 ≤ x ∧ x < 256 := fun l x hx => by
      obtain ⟨b, _, rfl⟩ := List.mem_map.1 hx
      have := b.toNat_lt
      omega
    refine (Tryz.bytes_Contains_at ⟨g, o, none⟩ ⟨g2, o2, none⟩ n c n2 c2 (b.map fun b => (b.toNat : Int)) (s.map fun b => (b.toNat : Int)) m w (by rw [List.length_map]; exact hb.1) (by rw [List.length_map]; exact hs.1) (hr b) (hr s) (fun i hi => hb.ints i hi) (fun i hi => hs.ints i hi) hnc (by omega) (by omega) hm).mono fun e w' h => ⟨?_, ?_⟩
    · rw [h.1, ints_of_bytes, ints_of_bytes, Rg.occ_contains (by omega)]
    · obtain ⟨q, h2⟩ := h.2
      rw [h2]; exact below_drewN (Below.refl _ _) q
set_option maxHeartbeats 2000000 in
theorem boundary_any (A : Option Addr) (n c : Nat) (b : List UInt8) (w : World) (ht : Tab w) (hM : MaxL w) (hb : RdB w A n b) (hn : n ≤ 4194304) (hnc : n ≤ c) :
    Calls Tryz.prog 41 #[.slice A n c] w fun e w' => e = .returned (.string (bs (Rg.markT (Rg.markN b)))) ∧ Below w.heap.size w w' := by
  obtain ⟨m1, m2, m3⟩ := Rg.mark_spec (b := b) (by rw [hb.1]; exact hn)
  have H2 := Lib.hid m2
  have H3 := Lib.hid m3
  generalize Rg.markN b = N at *
  clear m2 m3
  have hcv := conv_sb
  go_enter Tryz.func41, Tryz.ntmps41
  go_wp2
  go_loopw [3] (fun t wr => ∃ k : Nat, k ≤ N ∧ t = .int .i64 (k : Int) ∧ Below w.heap.size w wr) (fun t _ => N - (intOf t).toNat)
  case atStart => exact ⟨0, by omega, rfl, Below.refl _ _⟩
  case round =>
    obtain ⟨k, hk, rfl, hbr⟩ := hrel
    have hC := itoa_nat k wr (by omega) (tab_b ht hbr)
    have hL := dec_len (k := k) (by omega)
    have HD : Hid (Rg.markT k = Rg.conT ++ Lib.decDigits k) := Lib.hid rfl
    have H2' : Hid (k = N → Rg.occB (Rg.dashT ++ Rg.markT k) b = false) := Lib.hid fun h => by subst h; exact H2.out
    have H3' : Hid (k ≠ N → Rg.occB (Rg.dashT ++ Rg.markT k) b = true) := Lib.hid fun h => H3.out k (by omega)
    have HE : Hid (k = N → Rg.markT N = Rg.markT k) := Lib.hid fun h => by rw [h]
    rw [HD.out] at H2' H3' HE
    clear H2 H3 HD
    generalize Lib.decDigits k = D at *
    go_wp2_with fail
    refine hC.mono ?_
    rintro e w1 ⟨rfl, hb1⟩
    clear hC
    have hbA := bnext hbr hb1 hbr.size
    have hcv : ∀ W : World, (convert 9 32 (.string (⟨#[45, 45]⟩ ++ (⟨#[99, 111, 110, 100, 117, 105, 116, 45]⟩ ++ bs D)))).run Tryz.prog W = .ok (.slice (some ⟨W.heap.size, 0, none⟩) (Rg.dashT ++ (Rg.conT ++ D)).length (grownCap W (Rg.dashT ++ (Rg.conT ++ D)).length 0 5)) (Lib.bytesWorld W 5 (bs (Rg.dashT ++ (Rg.conT ++ D)))) := fun W => by
      rw [show (⟨#[45, 45]⟩ : ByteArray) = bs Rg.dashT from rfl, show (⟨#[99, 111, 110, 100, 117, 105, 116, 45]⟩ : ByteArray) = bs Rg.conT from rfl, bs_append, bs_append]
      exact conv_sb _ W
    have hM1 := maxl_b hM hbA
    have hbb := hb.step hbA
    have HL2 : Hid ((Rg.dashT ++ (Rg.conT ++ D)).length = 10 + D.length) := Lib.hid (by simp; omega)
    have hrow := bytesWorld_row w1 5 (Rg.dashT ++ (Rg.conT ++ D))
    have hbel := bytesWorld_below w1 5 (bs (Rg.dashT ++ (Rg.conT ++ D)))
    have hsz : w1.heap.size < (Lib.bytesWorld w1 5 (bs (Rg.dashT ++ (Rg.conT ++ D)))).heap.size := by rw [Lib.bytesWorld_size]; omega
    have hcw := hcv w1
    clear hcv
    have hrd := hrow.rd hsz
    have hlen : (Rg.dashT ++ (Rg.conT ++ D)).length ≤ 30 := by rw [HL2.out]; omega
    have hlen2 : 2 ≤ (Rg.dashT ++ (Rg.conT ++ D)).length := by rw [HL2.out]; omega
    generalize Lib.bytesWorld w1 5 (bs (Rg.dashT ++ (Rg.conT ++ D))) = w2 at *
    generalize (Rg.dashT ++ (Rg.conT ++ D)).length = L2 at *
    have HS : Hid (∃ S, S = Rg.dashT ++ (Rg.conT ++ D)) := Lib.hid ⟨_, rfl⟩
    have hC := fun c2 => contains_any A (some ⟨w1.heap.size, 0, none⟩) n c L2 c2 b (Rg.dashT ++ (Rg.conT ++ D)) w2 (maxl_b hM1 hbel) (hbb.step hbel) hrd (by omega) hnc hlen2 (by omega)
    have hbB := bnext hbA hbel hbA.size
    clear hrd hrow HS HL2 hb hbb
    by_cases hkN : k = N
    · have hf := H2'.out hkN
      have HE2 := Lib.hid (HE.out hkN)
      simp only [hf] at hC
      clear H2' H3' HE hf
      go_wp2_with fail
      refine (hC _).mono ?_
      rintro e w3 ⟨rfl, hb3⟩
      clear hC
      go_wp2
      go_ret
      exact ⟨ret_str (by rw [HE2.out]; rfl), bnext hbB hb3 hbB.size⟩
    · have hf := H3'.out hkN
      simp only [hf] at hC
      clear H2' H3' HE hf
      go_wp2_with fail
      refine (hC _).mono ?_
      rintro e w3 ⟨rfl, hb3⟩
      clear hC
      go_wp2
      go_roundw
      case rel => exact ⟨k + 1, by omega, by go_num, bnext hbB hb3 hbB.size⟩
      case measure => simp [intOf]; omega
set_option maxHeartbeats 2000000 in
theorem occurs_any (A : Option Addr) (n c : Nat) (b s : List UInt8) (w : World) (hb : RdB w A n b) (hn : n ≤ 1073741824) (hnc : n ≤ c) (hc : c ≤ maxLen) (hs : 1 ≤ s.length) (hs2 : s.length ≤ 1073741824) :
    Calls Tryz.prog 48 #[.string (bs s), .slice A n c] w fun e w' => e = .returned (.bool (Rg.occB s b)) ∧ w' = w := by
  have HY : Hid (∀ k, k + s.length ≤ n → ((b.drop k).take s.length == s) = true → Rg.occB s b = true) := Lib.hid fun k h1 h2 => Rg.occ_yes (by rw [hb.1]; exact h1) h2
  have HN : Hid ((∀ i, i < n + 1 - s.length → ((b.drop i).take s.length == s) = false) → Rg.occB s b = false) := Lib.hid fun h => Rg.occ_no fun i hi => h i (by rw [hb.1] at hi; omega)
  have hc2 : (c : Int) ≤ 9223372036854775807 := by unfold maxLen at hc; omega
  clear hc
  generalize Rg.occB s b = R at *
  go_enter Tryz.func48, Tryz.ntmps48
  go_wp2
  go_loopw [5] (fun t wr => ∃ k : Nat, k ≤ n + 1 - s.length ∧ t = .int .i64 (k : Int) ∧ Hid (∀ i, i < k → ((b.drop i).take s.length == s) = false) ∧ wr = w) (fun t _ => n + 2 - (intOf t).toNat)
  case atStart => exact ⟨0, by omega, rfl, Lib.hid (by simp), rfl⟩
  case round =>
    obtain ⟨k, hk, rfl, HA, hw⟩ := hrel
    subst hw
    by_cases hle : k + s.length ≤ n
    · obtain ⟨g, o, rfl, hg, -⟩ := hb.2.2 (by omega)
      have hsub := RdB.sub hb (i := k) (k := s.length) (by omega) (by omega)
      have hcv := fun c9 => conv_bs hsub c9
      have HK : Hid (∀ h9 : ((b.drop k).take s.length == s) = false, ∀ i, i < k + 1 → ((b.drop i).take s.length == s) = false) := Lib.hid fun h9 i hi => by
        by_cases hik : i = k
        · subst hik; exact h9
        · exact HA.out i (by omega)
      have HY2 := Lib.hid (HY.out k hle)
      clear hsub hb HA HN HY
      generalize (b.drop k).take s.length = P at *
      cases hq : (P == s) with
      | true =>
        have HR := Lib.hid (HY2.out hq)
        clear HK HY2
        go_wp2
        go_ret
        exact ⟨ret_bool HR.out.symm, rfl⟩
      | false =>
        have HK2 := Lib.hid (HK.out hq)
        clear HK HY2
        go_wp2
        go_roundw
        case rel => exact ⟨k + 1, by omega, by go_num, HK2, by trivial⟩
        case measure => simp [intOf]; omega
    · have HR := Lib.hid (HN.out (fun i hi => HA.out i (by omega)))
      clear HN HY HA
      go_wp2
      go_ret
      exact ⟨ret_bool HR.out.symm, rfl⟩
end Go.Proofs.YtcaekfebnhedpaaGreatDoor
