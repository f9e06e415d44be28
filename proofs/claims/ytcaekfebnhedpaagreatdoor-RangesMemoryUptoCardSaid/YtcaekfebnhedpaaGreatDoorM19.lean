/- Joined texts: slices.IndexFunc, Clone, DeleteFunc at fields; fields.Without; fields.Without: the fields of other names. The conditions stand in each line. -/
import Derived.Test.YtcaekfebnhedpaaGreatDoorChecked
import Derived.Test.YtcaekfebnhedpaaGreatDoorM1
import Derived.Test.YtcaekfebnhedpaaGreatDoorM2
import Derived.Test.YtcaekfebnhedpaaGreatDoorM3
import Derived.Test.YtcaekfebnhedpaaGreatDoorM14
import Derived.Deep.Cut
import Derived.Deep.DeepCutAuto
import Derived.Laws.IdiomCopy
import Derived.Laws.CopyOwn
set_option linter.unusedVariables false
set_option linter.unusedSimpArgs false
namespace Go.Proofs.YtcaekfebnhedpaaGreatDoor
open Go.RowKit

/-- A function value that, called with a field at any later world, tells p of it and makes at most memory. -/
def PredF (w : World) (K : FuncId) (caps : Array Value) (p : Fld → Bool) : Prop :=
  (∀ (args : Array Value) (W : World), (callFunc K args).run Tryz.prog W = .ok (.enter K args) W) ∧ ∀ (W : World) (n v : List UInt8), Below w.heap.size w W → n.length ≤ 140737488355328 → v.length ≤ 140737488355328 →
    Calls Tryz.prog K (#[.agg #[.string (bs n), .string (bs v)]] ++ caps) W fun e w' => e = .returned (.bool (p (n, v))) ∧ Below W.heap.size W w'
set_option maxHeartbeats 400000 in
theorem indexFuncF_any (A : Option Addr) (n c : Nat) (l : List Fld) (K : FuncId) (caps : Array Value) (p : Fld → Bool) (w0 w : World) (hw0 : Below w0.heap.size w0 w) (hl : RdF w A n l) (hn : n ≤ 140737488355328) (hls : FlenOK l)
    (hp : PredF w0 K caps p) :
    Calls Tryz.prog 86 #[.slice A n c, .func (.func K) #[] caps] w fun e w' => e = .returned (.int .i64 (idxI p l)) ∧ Below w.heap.size w w' := by
  have HN : Hid (∀ k x, (l.take k).any p = false → l[k]? = some x → p x = true → idxI p l = k) := Lib.hid fun k x h1 h2 h3 => idxI_some h1 h2 h3
  have HE : Hid ((l.take n).any p = false → idxI p l = -1) := Lib.hid fun h => idxI_none (by rwa [List.take_of_length_le (by rw [hl.1]; exact Nat.le_refl _)] at h)
  go_enter Tryz.func86, Tryz.ntmps86
  go_wp2_with fail
  go_loopw [8] (fun t wr => ∃ k : Nat, k ≤ n ∧ t = .int .i64 k ∧ (l.take k).any p = false ∧ Below w.heap.size w wr ∧ Below w0.heap.size w0 wr) (fun t _ => n - (intOf t).toNat)
  case atStart => exact ⟨0, by omega, rfl, by simp, Below.refl _ _, hw0⟩
  case round =>
    obtain ⟨k, hk, rfl, hall, hbr, hbr0⟩ := hrel
    have HA := Lib.hid hall
    clear hall
    by_cases hlt : k < n
    · obtain ⟨g, o, nm, vl, rfl, hg, HX, hc1, hc2⟩ := (hl.step hbr).at_ hlt
      clear hl
      have hsl := hls _ (mem_of_get? HX.out)
      have hsl1 : nm.length ≤ 140737488355328 := hsl.1
      have hsl2 : vl.length ≤ 140737488355328 := hsl.2
      have HT : Hid ((l.take (k + 1)).any p = p (nm, vl)) := Lib.hid (by rw [take_snoc? HX.out, List.any_append, HA.out]; simp)
      clear hls hsl
      have hcf := hp.1
      have HP : Hid (p (nm, vl) = true → idxI p l = k) := Lib.hid (HN.out k _ HA.out HX.out)
      go_wp2_with fail
      refine (hp.2 wr nm vl hbr0 hsl1 hsl2).mono ?_
      rintro e w1 ⟨rfl, hb1⟩
      cases hps : p (nm, vl)
      · have HPS := Lib.hid hps
        go_wp2
        go_roundw
        case rel => exact ⟨k + 1, by omega, by go_num, by rw [HT.out, HPS.out], bnext hbr hb1 hbr.size, bnext hbr0 hb1 hbr0.size⟩
        case measure => simp [intOf]; omega
      · have HPS := Lib.hid hps
        go_wp2
        go_ret
        exact ⟨ret_int (HP.out HPS.out).symm, bnext hbr hb1 hbr.size⟩
    · obtain rfl : k = n := by omega
      go_wp2
      go_ret
      exact ⟨ret_int (HE.out HA.out).symm, hbr⟩

set_option maxHeartbeats 400000 in
theorem cloneF_own (A : Option Addr) (n c : Nat) (l : List Fld) (w : World) (hl : RdF w A n l) (hn : n * 32 ≤ 140737488355328) :
    Calls Tryz.prog 36 #[.slice A n c] w fun e w' => ∃ A' n' c', e = .returned (.slice A' n' c') ∧ OwnF w' w.heap.size (.slice A' n' c') l ∧ Below w.heap.size w w' := by
  cases A with
  | none =>
    have hn0 : n = 0 := by
      rcases Nat.eq_zero_or_pos n with h | h
      · exact h
      · obtain ⟨_, _, h', _⟩ := hl.2.2 h; cases h'
    subst hn0
    have hl0 : l = [] := List.eq_nil_of_length_eq_zero hl.1
    subst hl0
    have hq := fun w => Lib.run_eql_slice_nil (P := Tryz.prog) w 29 _ none 0 c 0 0 Tryz.underlying29
    go_enter Tryz.func36, Tryz.ntmps36
    go_wp2
    go_ret
    exact ⟨_, _, _, rfl, OwnF.nil _ _, Below.refl _ _⟩
  | some a =>
    have hq := fun w => Lib.run_eql_slice_nil (P := Tryz.prog) w 29 _ (some a) n c 0 0 Tryz.underlying29
    go_enter Tryz.func36, Tryz.ntmps36
    go_wp2_with
      (at_builtin
       refine wp_appF rfl (.tmp 5) (.tmp 6) rfl w.heap.size (.slice (some ⟨w.heap.size, 0, none⟩) 0 0) [] rfl (OwnF.made w) (some a) n c l rfl ?hr ?hby ?hbase ?_
       case hr => exact hl.step (alloc_below _ _)
       case hby => simp; omega
       case hbase => simp
       intro A1 n1 c1 w1 hown1 hb1 hn1)
    go_ret
    exact ⟨A1, n1, c1, rfl, hown1, (alloc_below _ _).trans hb1⟩
theorem fcells_set (l : List Fld) (i : Nat) (f : Fld) : ((fcells l).set (2 * i) (strV f.1)).set (2 * i + 1) (strV f.2) = fcells (l.set i f) := by
  induction l generalizing i with
  | nil => rfl
  | cons x r ih =>
    cases i with
    | zero => rfl
    | succ i =>
      rw [show 2 * (i + 1) = 2 * i + 1 + 1 from by omega]
      simp only [fcells, List.set_cons_succ]
      rw [ih i]
theorem OwnF.set {w : World} {B g n c : Nat} {l : List Fld} (h : OwnF w B (.slice (some ⟨g, 0, none⟩) n c) l) (i : Nat) (nm vl : List UInt8) :
    OwnF ((w.setCell ⟨g, i * 2, none⟩ (.string (bs nm))).setCell ⟨g, i * 2 + 1, none⟩ (.string (bs vl))) B (.slice (some ⟨g, 0, none⟩) n c) (l.set i (nm, vl)) := by
  have hn : l.length = n := h.rd.1
  unfold OwnF at h ⊢
  rw [List.length_set]
  rw [hn] at h ⊢
  have := ((h.stored (i * 2) (.string (bs nm))).1.stored (i * 2 + 1) (.string (bs vl))).1
  rw [← fcells_set, Nat.mul_comm 2 i]
  exact this
theorem OwnF.cell1 {w : World} {B g n c : Nat} {l : List Fld} (h : OwnF w B (.slice (some ⟨g, 0, none⟩) n c) l) {k : Nat} {f : Fld} (hk : l[k]? = some f) : w.cell? ⟨g, k * 2, none⟩ = some (.string (bs f.1)) ∧ w.cell? ⟨g, k * 2 + 1, none⟩ = some (.string (bs f.2)) := by
  have hn : l.length = n := h.rd.1
  unfold OwnF at h
  rw [hn] at h
  obtain ⟨hlt, rfl⟩ := List.getElem?_eq_some_iff.1 hk
  rw [h.cellAt (k * 2) (by omega), h.cellAt (k * 2 + 1) (by omega), Nat.mul_comm]
  exact ⟨fcells_get1 l k hlt, fcells_get2 l k hlt⟩
theorem OwnF.free {w : World} {B g n c : Nat} {l : List Fld} (h : OwnF w B (.slice (some ⟨g, 0, none⟩) n c) l) (j : Nat) : w.frozen? ⟨g, j, none⟩ = false := by
  have hn : l.length = n := h.rd.1
  unfold OwnF at h
  rw [hn] at h
  exact h.frozenAt j
theorem OwnF.base {w : World} {B n c : Nat} {a : Addr} {l : List Fld} (h : OwnF w B (.slice (some a) n c) l) (hn : 0 < n) : ∃ g, a = ⟨g, 0, none⟩ ∧ B ≤ g ∧ g < w.heap.size := by
  have hn' : l.length = n := h.rd.1
  unfold OwnF at h
  rw [hn'] at h
  obtain ⟨g, cap, hv, hb, hlt⟩ := h.form hn
  injection hv with h1 h2 h3
  exact ⟨g, Option.some.inj h1, hb, hlt⟩
theorem idxI_any {α : Type} {p : α → Bool} {l : List α} (h : l.any p = true) : ∃ (k : Nat) (x : α), idxI p l = (k : Int) ∧ (l.take k).any p = false ∧ l[k]? = some x ∧ p x = true := by
  unfold idxI
  cases hf : l.findIdx? p with
  | none =>
    rw [List.findIdx?_eq_none_iff] at hf
    obtain ⟨x, hx, hp⟩ := List.any_eq_true.1 h
    rw [hf x hx] at hp; cases hp
  | some i =>
    rw [List.findIdx?_eq_some_iff_getElem] at hf
    obtain ⟨hi, hp, hb⟩ := hf
    refine ⟨i, l[i], rfl, ?_, List.getElem?_eq_getElem hi, hp⟩
    rw [List.any_eq_false]
    intro x hx
    obtain ⟨j, hj, rfl⟩ := List.mem_take_iff_getElem.1 hx
    simpa using hb j (by omega)
theorem filter_none {α : Type} {p : α → Bool} {l : List α} (h : l.any p = false) : l.filter (fun x => !p x) = l := by
  rw [List.filter_eq_self]
  intro x hx
  have := List.any_eq_false.1 h x hx
  simpa using this
/-- The row on its way: what is kept, what is yet there, what was not looked at. -/
theorem row_skipD {α : Type} {kept mid l : List α} {j : Nat} {x : α} (hx : l[j]? = some x) : kept ++ mid ++ l.drop j = kept ++ (mid ++ [x]) ++ l.drop (j + 1) := by
  obtain ⟨hj, rfl⟩ := List.getElem?_eq_some_iff.1 hx
  rw [List.drop_eq_getElem_cons hj]; simp
theorem row_keepD {α : Type} {kept mid l : List α} {j : Nat} {x : α} (hx : l[j]? = some x) (hm : 0 < mid.length) : ∃ mid', mid'.length = mid.length ∧ (kept ++ mid ++ l.drop j).set kept.length x = (kept ++ [x]) ++ mid' ++ l.drop (j + 1) := by
  match mid, hm with
  | m0 :: ms, _ =>
    refine ⟨ms ++ [x], by simp, ?_⟩
    rw [row_skipD hx]
    simp
theorem row_atD {α : Type} {kept mid l : List α} {j : Nat} (h : kept.length + mid.length = j) : (kept ++ mid ++ l.drop j)[j]? = l[j]? := by
  rw [List.getElem?_append_right (by simp; omega)]
  simp [h]

theorem OwnF.cap {w : World} {B g n c : Nat} {l : List Fld} (h : OwnF w B (.slice (some ⟨g, 0, none⟩) n c) l) : n ≤ c := by
  rcases h.2 with ⟨h1, _⟩ | ⟨_, cap, _, h1, _, _, hc, _⟩
  · cases h1
  · injection h1 with h1 h2 h3
    subst h2 h3
    exact hc
theorem zero_one (z : Array Value) (hz : ∀ u ∈ z, u.oneCell' = true) (hs : 0 < z.size) (n : Nat) : ∀ u ∈ (Builtin.zeroCells z n).toList, u.oneCell' = true := by
  intro u hu
  simp only [Builtin.zeroCells, Array.toList_map, List.mem_map] at hu
  obtain ⟨i, _, rfl⟩ := hu
  rw [getElem!_pos z (i % z.size) (Nat.mod_lt _ hs)]
  exact hz _ (Array.getElem_mem _)
theorem zeroF (w : World) : (zeroValue 46).run Tryz.prog w = .ok (.agg #[.string ⟨#[]⟩, .string ⟨#[]⟩]) w := by kernel_rfl
/-- clear(s[i:]) on an owned row: the elements below i stay. -/
theorem clearF {w : World} {B g n c i : Nat} {l : List Fld} (h : OwnF w B (.slice (some ⟨g, 0, none⟩) n c) l) (hi : i < n) :
    ∃ w', (∀ ty m, (Builtin.clear_ #[29] ty #[.slice (some ⟨g, i * 2, none⟩) (n - i) m]).run Tryz.prog w = .ok (.tuple #[]) w') ∧ OwnF w' B (.slice (some ⟨g, 0, none⟩) i c) (l.take i) ∧ Below B w w' := by
  have hn : l.length = n := h.rd.1
  unfold OwnF at h
  rw [hn] at h
  rcases h.2 with ⟨h1, _⟩ | ⟨g', cap, cur, h1, hB, hg, hc, hm, hsz, htk⟩
  · cases h1
  injection h1 with h1 h2 h3
  injection h1 with h1
  injection h1 with h1
  subst h1 h3
  let zs := (Builtin.zeroCells #[.string ⟨#[]⟩, .string ⟨#[]⟩] (n - i)).toList
  have hzl : zs.length = (n - i) * 2 := by simp [zs, size_zeroCells]
  have hst := run_storeCells_at (P := Tryz.prog) g (i * 2) 46 zs 0 cur w hg (by rw [hzl]; omega) (zero_one _ (by intro u hu; simp at hu; subst hu; rfl) (by simp) _)
  simp only [Nat.add_zero] at hst
  refine ⟨w.setRow g (cur.toList.take (i * 2) ++ zs ++ cur.toList.drop (i * 2 + zs.length)).toArray, fun ty m => ?_, ?_, below_setRow (Below.refl _ _) hB _⟩
  · obtain ⟨k, hk⟩ : ∃ k, n - i = k + 1 := ⟨n - i - 1, by omega⟩
    have hz' : (Builtin.zeroCells (Value.agg #[.string ⟨#[]⟩, .string ⟨#[]⟩]).cells (k + 1)).toList = zs := by simp only [zs, hk]; rfl
    rw [hk]
    simp [Builtin.clear_, run_underlying Tryz.underlying29, zeroF, hz', hst]
  · unfold OwnF
    have hl : (l.take i).length = i := by simp; omega
    rw [hl]
    refine ⟨by rw [fcells_length, hl], .inr ⟨g, c, _, rfl, hB, setRow_heap w g cur _ _ _ hg, by omega, hm, ?_, ?_⟩⟩
    · simp [hzl, hsz]; omega
    · simp only [List.append_assoc]
      rw [List.take_append_of_le_length (by simp [hsz]; omega), List.take_take, Nat.min_self]
      have := fcells_take l i
      rw [this, ← htk, List.take_take]
      congr 1
      omega
set_option maxHeartbeats 1000000 in
theorem deleteFuncF_any (A : Option Addr) (n c : Nat) (l : List Fld) (K : FuncId) (caps : Array Value) (p : Fld → Bool) (w0 w : World) (hw0 : Below w0.heap.size w0 w) (hl : OwnF w w0.heap.size (.slice A n c) l) (hn : n * 32 ≤ 140737488355328) (hls : FlenOK l)
    (hp : PredF w0 K caps p) :
    Calls Tryz.prog 58 #[.slice A n c, .func (.func K) #[] caps] w fun e w' => ∃ A' n' c', e = .returned (.slice A' n' c') ∧ OwnF w' w0.heap.size (.slice A' n' c') (l.filter fun x => !p x) ∧ Below w0.heap.size w0 w' := by
  cases hany : l.any p with
  | false =>
    have HI : Hid (idxI p l = -1) := Lib.hid (idxI_none hany)
    rw [filter_none hany]
    go_enter Tryz.func58, Tryz.ntmps58
    go_wp2_with fail
    refine (indexFuncF_any A n c l K caps p w0 _ hw0 hl.rd (by omega) hls hp).mono ?_
    rintro e w1 ⟨rfl, hb1⟩
    rw [HI.out]
    go_wp2
    go_ret
    exact ⟨A, n, c, rfl, hl.step hb1, bnext hw0 hb1 hw0.size⟩
  | true =>
    obtain ⟨k0, x0, hi, htk, hx0, hpx⟩ := idxI_any hany
    have HI := Lib.hid hi
    have hk0 : k0 < n := by have := lt_of_get? hx0; rw [hl.rd.1] at this; exact this
    obtain ⟨a, rfl⟩ : ∃ a, A = some a := by
      obtain ⟨g, o, h, _⟩ := hl.rd.2.2 (by omega)
      exact ⟨_, h⟩
    obtain ⟨g, rfl, hBg, hgw⟩ := hl.base (by omega)
    have H0 : Hid ((l.take (k0 + 1)).filter (fun x => !p x) = l.take k0) := Lib.hid (by rw [take_snoc? hx0, List.filter_append, filter_none htk]; simp [hpx])
    have HR : Hid (l = l.take k0 ++ [x0] ++ l.drop (k0 + 1)) := Lib.hid (by rw [← take_snoc? hx0]; simp)
    clear hi htk hx0 hpx hany
    go_enter Tryz.func58, Tryz.ntmps58
    go_wp2_with fail
    refine (indexFuncF_any _ n c l K caps p w0 _ hw0 hl.rd (by omega) hls hp).mono ?_
    rintro e w1 ⟨rfl, hb1⟩
    rw [HI.out]
    have hl1 := hl.step hb1
    have hb01 := bnext hw0 hb1 hw0.size
    have hsz1 := hb1.size
    clear HI hb1 hl
    have hne : ((k0 : Int) == -1) = false := by simp
    go_wp2
    go_loopw [5, 6] (fun a b wr => ∃ (i j : Nat) (mid : List Fld), j ≤ n ∧ i < j ∧ a = .int .i64 i ∧ b = .int .i64 j ∧ ((l.take j).filter fun x => !p x).length = i ∧ i + mid.length = j ∧
        OwnF wr w0.heap.size (.slice (some ⟨g, 0, none⟩) n c) (((l.take j).filter fun x => !p x) ++ mid ++ l.drop j) ∧ Below w0.heap.size w0 wr ∧ g < wr.heap.size) (fun _ b _ => n - (intOf b).toNat)
    case atStart => exact ⟨k0, k0 + 1, [x0], by omega, by omega, rfl, by go_num, by rw [H0.out]; have := hl1.rd.1; simp only [List.length_take]; omega, by simp, by rw [H0.out, ← HR.out]; exact hl1, hb01, Nat.lt_of_lt_of_le hgw hsz1⟩
    case round =>
      obtain ⟨i, j, mid, hj, hij, rfl, rfl, hki, hmj, hown, hbr, hgr⟩ := hrel
      have HK := Lib.hid hki
      have HM := Lib.hid hmj
      clear hki hmj
      by_cases hlt : j < n
      · have hln := hl1.rd.1
        obtain ⟨⟨nm, vl⟩, hx⟩ : ∃ x, l[j]? = some x := ⟨l[j]'(by omega), List.getElem?_eq_getElem (by omega)⟩
        have hrow := row_atD (kept := (l.take j).filter fun x => !p x) (mid := mid) (l := l) (by rw [HK.out, HM.out])
        obtain ⟨hc1, hc2⟩ := hown.cell1 (hrow.trans hx)
        have hsl := hls _ (mem_of_get? hx)
        have hsl1 : nm.length ≤ 140737488355328 := hsl.1
        have hsl2 : vl.length ≤ 140737488355328 := hsl.2
        have HX := Lib.hid hx
        clear hsl hrow hx hln
        have hcf := hp.1
        simp only at hc1 hc2
        go_wp2_with fail
        refine (hp.2 _ nm vl (bnext hbr (alloc_below _ _) hbr.size) hsl1 hsl2).mono ?_
        rintro e w2 ⟨rfl, hb2⟩
        have hal := alloc_below wr (.cells #[.string (bs nm), .string (bs vl)] 46)
        have hv1 : w2.cell? ⟨wr.heap.size, 0, none⟩ = some (.string (bs nm)) := by rw [hb2.cell (p := ⟨wr.heap.size, 0, none⟩) (by simp), cell_of_row _ _ _ _ _ _ (heap_alloc_new wr _)]; rfl
        have hv2 : w2.cell? ⟨wr.heap.size, 1, none⟩ = some (.string (bs vl)) := by rw [hb2.cell (p := ⟨wr.heap.size, 1, none⟩) (by simp), cell_of_row _ _ _ _ _ _ (heap_alloc_new wr _)]; rfl
        have hown2 := (hown.step hal).step hb2
        have hbr2 := bnext (bnext hbr hal hbr.size) hb2 (by have := hbr.size; simp; omega)
        have hg2 : g < w2.heap.size := by have := hb2.size; simp at this; omega
        clear hal hb2
        cases hpv : p (nm, vl)
        · have HPV := Lib.hid hpv
          have HKK : Hid ((l.take (j + 1)).filter (fun x => !p x) = (l.take j).filter (fun x => !p x) ++ [(nm, vl)]) := Lib.hid (by rw [take_snoc? HX.out, List.filter_append]; simp [HPV.out])
          clear hpv
          have hmid : 0 < mid.length := by have := HM.out; omega
          obtain ⟨mid', hml, hset⟩ := row_keepD (kept := (l.take j).filter fun x => !p x) HX.out hmid
          have HSET := Lib.hid hset
          have HML := Lib.hid hml
          clear hset hml
          obtain ⟨old, hold⟩ : ∃ x, (((l.take j).filter fun x => !p x) ++ mid ++ l.drop j)[i]? = some x := ⟨_, List.getElem?_eq_getElem (by have := HK.out; simp at this ⊢; omega)⟩
          obtain ⟨ho1, ho2⟩ := hown2.cell1 hold
          have hf1 := hown2.free (i * 2)
          have hf2 := hown2.free (i * 2 + 1)
          have hold' := Lib.hid hold
          clear hold
          go_wp2_with fail
          go_roundw
          case rel =>
            have hs := hown2.set i nm vl
            have e : (((l.take j).filter fun x => !p x) ++ mid ++ l.drop j).set i (nm, vl) = ((l.take (j + 1)).filter fun x => !p x) ++ mid' ++ l.drop (j + 1) := by
              have h1 := HSET.out; rw [HK.out] at h1; rw [HKK.out]; exact h1
            rw [e] at hs
            exact ⟨i + 1, j + 1, mid', by omega, by omega, by go_num, by go_num, by rw [HKK.out, List.length_append, HK.out]; rfl, by have := HM.out; have := HML.out; omega, hs,
              (hbr2.setCell (p := ⟨g, i * 2, none⟩) hBg _).setCell (p := ⟨g, i * 2 + 1, none⟩) hBg _, by simpa [World.setCell] using hg2⟩
          case measure => simp [intOf]; omega
        · have HPV := Lib.hid hpv
          have HKK : Hid ((l.take (j + 1)).filter (fun x => !p x) = (l.take j).filter (fun x => !p x)) := Lib.hid (by rw [take_snoc? HX.out, List.filter_append]; simp [HPV.out])
          clear hpv
          go_wp2_with fail
          go_roundw
          case rel => exact ⟨i, j + 1, mid ++ [(nm, vl)], by omega, by omega, rfl, by go_num, by rw [HKK.out, HK.out], by have := HM.out; simp; omega, by rw [HKK.out, ← row_skipD HX.out]; exact hown2, hbr2, hg2⟩
          case measure => simp [intOf]; omega
      · obtain rfl : j = n := by omega
        obtain ⟨w3, hclr, hown3, hb3⟩ := clearF hown hij
        have HL : Hid (((((l.take j).filter fun x => !p x) ++ mid ++ l.drop j)).take i = l.filter fun x => !p x) := Lib.hid (by
          have h := HK.out
          have e : l.take j = l := List.take_of_length_le (by rw [hl1.rd.1]; exact Nat.le_refl _)
          rw [e] at h ⊢
          rw [List.append_assoc, ← h, List.take_left])
        have hnc := hown.cap
        have hic : ((c : Int) == (i : Int)) = false := by simp; omega
        clear hls hp hl1
        go_wp2
        go_ret
        exact ⟨_, _, _, rfl, by rw [← HL.out]; exact hown3, hbr.trans hb3⟩
end Go.Proofs.YtcaekfebnhedpaaGreatDoor
set_option linter.unusedVariables false
set_option linter.unusedSimpArgs false
namespace Go.Proofs.YtcaekfebnhedpaaGreatDoor
open Go.RowKit

def withoutF (l : List Fld) (names : List (List UInt8)) : List Fld := l.filter fun f => !(names.any (isB f))
theorem cf11 (args : Array Value) (W : World) : (callFunc 61 args).run Tryz.prog W = .ok (.enter 61 args) W := by kernel_rfl
theorem cf1 (args : Array Value) (W : World) : (callFunc 59 args).run Tryz.prog W = .ok (.enter 59 args) W := by kernel_rfl
set_option maxHeartbeats 400000 in
theorem w1_any (gb : Nat) (B : Option Addr) (m d : Nat) (names : List (List UInt8)) (n v : List UInt8) (w : World) (hc : w.cell? ⟨gb, 0, none⟩ = some (.slice B m d)) (hr : RdS w B m names) (hm : m ≤ 140737488355328) (hns : SlenOK names)
    (hn : n.length ≤ 140737488355328) (hv : v.length ≤ 140737488355328) :
    Calls Tryz.prog 59 #[.agg #[.string (bs n), .string (bs v)], .pointer (some ⟨gb, 0, none⟩)] w fun e w' => e = .returned (.bool (names.any (isB (n, v)))) ∧ Below w.heap.size w w' := by
  have hcl := cell_later (Below.refl _ _) hc
  have hc' : ∀ o, (w.alloc o).cell? ⟨gb, 0, none⟩ = some (.slice B m d) := fun o => by rw [World.cell?_alloc_lt w o ⟨gb, 0, none⟩ (World.block_lt_of_cell? w _ hc)]; exact hc
  clear hcl
  go_enter Tryz.func59, Tryz.ntmps59
  go_wp2_with fail
  refine (containsFuncS_any B m d names 61 #[.pointer (some ⟨w.heap.size, 0, none⟩)] (isB (n, v)) (w.alloc (.cells #[.string (bs n), .string (bs v)] 46)) _ (Below.refl _ _) (hr.step (alloc_below _ _)) hm hns ?_).mono ?_
  · refine ⟨cf11, fun W s hW hs => w11_any w.heap.size n v s W ?_ ?_ hn hs⟩
    · rw [hW.cell (p := ⟨w.heap.size, 0, none⟩) (by simp), cell_of_row _ _ _ _ _ _ (heap_alloc_new w _)]; rfl
    · rw [hW.cell (p := ⟨w.heap.size, 1, none⟩) (by simp), cell_of_row _ _ _ _ _ _ (heap_alloc_new w _)]; rfl
  rintro e w1 ⟨rfl, hb1⟩
  go_wp2
  go_ret
  exact ⟨rfl, bnext (alloc_below _ _) hb1 (by simp)⟩
set_option maxHeartbeats 400000 in
theorem without_own (A B : Option Addr) (n c m d : Nat) (l : List Fld) (names : List (List UInt8)) (w : World) (hl : RdF w A n l) (hr : RdS w B m names) (hn : n * 32 ≤ 140737488355328) (hm : m ≤ 140737488355328) (hls : FlenOK l) (hns : SlenOK names) :
    Calls Tryz.prog 38 #[.slice A n c, .slice B m d] w fun e w' => ∃ A' n' c', e = .returned (.slice A' n' c') ∧ OwnF w' w.heap.size (.slice A' n' c') (withoutF l names) ∧ Below w.heap.size w w' := by
  go_enter Tryz.func38, Tryz.ntmps38
  go_wp2_with fail
  refine (cloneF_own A n c l _ (hl.step (alloc_below _ _)) hn).mono ?_
  rintro e w1 ⟨A1, n1, c1, rfl, hown1, hb1⟩
  have hn1 : n1 = n := by have := hown1.rd.1; have := hl.1; omega
  have HN := Lib.hid hn1
  clear hn1
  go_wp2_with fail
  have hb01 : Below (w.alloc (.cells #[.slice B m d] 49)).heap.size (w.alloc (.cells #[.slice B m d] 49)) w1 := hb1
  refine (deleteFuncF_any A1 n1 c1 l 59 #[.pointer (some ⟨w.heap.size, 0, none⟩)] (fun f => names.any (isB f)) (w.alloc (.cells #[.slice B m d] 49)) w1 hb01 hown1 (by rw [HN.out]; exact hn) hls ?_).mono ?_
  · refine ⟨cf1, fun W nm vl hW hnm hvl => w1_any w.heap.size B m d names nm vl W ?_ ?_ hm hns hnm hvl⟩
    · rw [hW.cell (p := ⟨w.heap.size, 0, none⟩) (by simp), cell_of_row _ _ _ _ _ _ (heap_alloc_new w _)]; rfl
    · exact (hr.step (alloc_below _ _)).step hW
  rintro e w2 ⟨A2, n2, c2, rfl, hown2, hb2⟩
  go_wp2
  go_ret
  exact ⟨A2, n2, c2, rfl, hown2.mono (by simp), (alloc_below _ _).trans (hb2.mono (by simp))⟩
end Go.Proofs.YtcaekfebnhedpaaGreatDoor
