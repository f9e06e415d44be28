/- Joined texts: The document's Marked: a list of the call's own is written over and grown; nothing but its own row is touched; Appends onto a row of bytes, with all that they leave as it was; The document's Apart: lists of bytes of the call's own are written over and grown. The conditions stand in each line. -/
import Derived.Test.YtcaekfebnhedpaaGreatDoorM10
import Derived.Test.YtcaekfebnhedpaaGreatDoorM44
import Derived.Deep.Cut
import Derived.Deep.DeepCutAuto
import Derived.Lib.AppendZeros
import Derived.Lib.AppendZerosOnto
import Derived.Deep.AppendSrc
set_option linter.unusedVariables false
set_option linter.unusedSimpArgs false
namespace Go.Proofs.YtcaekfebnhedpaaGreatDoor
open Go.RowKit

set_option maxRecDepth 100000
theorem grown_trans {w w1 w2 : World} {row0 r : Option Nat} (h1 : w.grownBy w1 row0) (h2 : w1.grownBy w2 r) (hr : r = none ∨ r = row0 ∨ ∃ k, r = some k ∧ w.heap.size ≤ k) : w.grownBy w2 row0 :=
  ⟨h2.os.trans h1.os, h2.tape.trans h1.tape, h2.output.trans h1.output, Nat.le_trans h1.size h2.size, fun k hk hne => by
    have hk1 : k < w1.heap.size := Nat.lt_of_lt_of_le hk h1.size
    rw [h2.block k hk1 (by
      rcases hr with rfl | rfl | ⟨k', rfl, hk'⟩
      · simp
      · exact hne
      · simp; omega)]
    exact h1.block k hk hne⟩
section
variable {w : World} {ops : Array Oper} {rest : List Oper} {o : Oper} {a : Act} {Q : Exit → Act → World → Prop}
theorem wp_appG (hgd : o.guard = none) (s x : Operand) (ho : o.op = .call { callee := .builtin .append, args := #[s, x], argTypes := #[29, 29] })
    (base : Nat) (v : Value) (n : Nat) (xs : List Value) (hs : a.eval s = v) (hown : w.ownsRow base 46 2 v n xs) (A : Option Addr) (m c : Nat) (news : List Fld) (hx : a.eval x = .slice A m c) (hr : RdF w A m news)
    (hbytes : (n + m) * 32 ≤ 140737488355328) (hbase : base ≤ w.heap.size)
    (h : ∀ A' n' c' w' xs', w'.ownsRow base 46 2 (.slice A' n' c') n' xs' → w.grownBy w' v.ownBlock → ((Value.slice A' n' c').ownBlock = v.ownBlock ∨ (Value.slice A' n' c').ownBlock = some w.heap.size) → Hid (n' = n + m) → wpList Tryz.prog ops Q rest (a.put o.dst (.slice A' n' c')) w') : wpList Tryz.prog ops Q (o :: rest) a w := by
  obtain ⟨i0, hi, hz0, hz1, hz2⟩ := info_parts fld_info
  have h63 : n + m ≤ maxLen := by unfold maxLen; omega
  refine wpList_append_any w hgd s x _ ho base _ i0 _ 2 32 Tryz.underlying29 hi hz0 hz1 hz2 rfl (by omega) v n xs hs hown A m c (fcells news) hx hr.2 (fcells_one _) h63 hbytes hbase fun v' w' h2 h3 h4 => ?_
  obtain ⟨A', c', rfl⟩ := own_slice h2
  exact h A' _ c' w' _ h2 h3 h4 (Lib.hid rfl)
end
set_option maxHeartbeats 2000000 in
theorem marked_any (A : Option Addr) (n c : Nat) (l : List Fld) (B : Nat) (w : World) (ho : OwnF w B (.slice A n c) l) (hn : n ≤ 4194304) (hB : B ≤ w.heap.size) :
    Calls Tryz.prog 28 #[.slice A n c] w fun x w' => x = .returned (.bool true) ∧ w.grownBy w' (Value.slice A n c).ownBlock := by
  have hln : l.length = n := ho.rd.1
  unfold OwnF at ho
  rw [hln] at ho
  clear hln
  generalize fcells l = xs0 at *
  have hgr := World.grownBy.refl w (Value.slice A n c).ownBlock
  go_enter Tryz.func28, Tryz.ntmps28
  go_wp2_with fail
  go_loopw [3] (fun t wr => ∃ k : Nat, k ≤ n ∧ t = .int .i64 k ∧ (∃ xs, wr.ownsRow B 46 2 (.slice A n c) n xs) ∧ w.grownBy wr (Value.slice A n c).ownBlock) (fun t _ => n - (intOf t).toNat)
  case atStart => exact ⟨0, by omega, rfl, ⟨_, ho⟩, hgr⟩
  case round =>
    obtain ⟨k, hk, rfl, ⟨xs, hxs⟩, hg⟩ := hrel
    by_cases hlt : k < n
    · obtain ⟨g, cap, hv, hbg, hgl⟩ := hxs.form (by omega)
      injection hv with h1 h2 h3
      subst h1 h3
      clear h2
      have hx1 : k * 2 < xs.length := by rw [hxs.1]; omega
      have hcell : wr.cell? ⟨g, k * 2, none⟩ = some xs[k * 2] := by rw [hxs.cellAt (k * 2) (by omega)]; exact List.getElem?_eq_getElem hx1
      have hfr := hxs.frozenAt (k * 2)
      generalize xs[k * 2] = old at *
      have hst := (hxs.stored (k * 2) (.string (bs [109, 97, 114, 107]))).1
      have hg2 : w.grownBy (wr.setCell ⟨g, k * 2, none⟩ (.string (bs [109, 97, 114, 107]))) (Value.slice (some ⟨g, 0, none⟩) n c).ownBlock :=
        grown_trans hg (r := some g) ⟨rfl, rfl, rfl, by simp [World.setCell], fun i _ hne => Below.heap_setCell _ _ _ _ (fun he => hne (by rw [he]))⟩ (.inr (.inl rfl))
      clear hg hx1
      go_wp2_with fail
      go_roundw
      case rel => exact ⟨k + 1, by omega, by go_num, ⟨_, hst⟩, hg2⟩
      case measure => simp [intOf]; omega
    · obtain rfl : n = k := by omega
      clear ho hgr
      have hn0 : n + 0 = n := rfl
      obtain ⟨wo, rfl⟩ : ∃ wo, wo = wr := ⟨_, rfl⟩
      have HP := Lib.hid hxs
      clear hxs
      go_wp2
      go_loopw [0, 4] (fun v t wr => ∃ (j : Nat) (A' : Option Addr) (n' c' : Nat), j ≤ 9 ∧ t = .int .i64 j ∧ v = .slice A' n' c' ∧ Hid (n' = n + j) ∧ (∃ xs, wr.ownsRow B 46 2 (.slice A' n' c') n' xs) ∧ w.grownBy wr (Value.slice A n c).ownBlock ∧ ((Value.slice A' n' c').ownBlock = (Value.slice A n c).ownBlock ∨ ∃ k, (Value.slice A' n' c').ownBlock = some k ∧ w.heap.size ≤ k)) (fun _ t _ => 9 - (intOf t).toNat)
      case atStart => exact ⟨0, A, n, c, by omega, rfl, rfl, Lib.hid rfl, ⟨_, HP.out⟩, hg, .inl rfl⟩
      case round =>
        obtain ⟨j, A', n', c', hj, rfl, rfl, HN, ⟨xs, hxs⟩, hg, hv⟩ := hrel
        by_cases hlj : j < 9
        · have hby : (n' + 1) * 32 ≤ 140737488355328 := by have := HN.out; omega
          have hBw : B ≤ (wr.alloc (.cells #[.string (bs [109, 111, 114, 101]), .string (bs [])] 46)).heap.size := by have := hg.size; simp; omega
          have hgw := hg.size
          go_wp2_with
            (at_builtin
             refine wp_appG rfl (.tmp 19) (.tmp 21) rfl B (.slice A' n' c') n' xs rfl (hxs.kept (World.grownBy_alloc _ _ none) (by cases A' <;> simp [Value.ownBlock])) (some ⟨wr.heap.size, 0, none⟩) 1 1 [([109, 111, 114, 101], [])] rfl ?hr hby ?hbase ?_
             case hr => exact one_rdF _ _ _ _
             case hbase => exact hBw
             intro A2 n2 c2 w2 xs2 hown2 hg2 hv2 hn2)
          have hg3 : w.grownBy w2 (Value.slice A n c).ownBlock := by
            refine grown_trans (grown_trans hg (World.grownBy_alloc _ _ none) (.inl rfl)) hg2 ?_
            rcases hv with hv | ⟨k, hv, hk⟩
            · exact .inr (.inl hv)
            · exact .inr (.inr ⟨k, hv, hk⟩)
          have hv3 : (Value.slice A2 n2 c2).ownBlock = (Value.slice A n c).ownBlock ∨ ∃ k, (Value.slice A2 n2 c2).ownBlock = some k ∧ w.heap.size ≤ k := by
            rcases hv2 with h2 | h2
            · rcases hv with hv | ⟨k, hv, hk⟩
              · exact .inl (h2.trans hv)
              · exact .inr ⟨k, h2.trans hv, hk⟩
            · exact .inr ⟨_, h2, by simp; omega⟩
          clear hv2 hg2 hg hv
          go_roundw
          case rel => exact ⟨j + 1, A2, n2, c2, by omega, by go_num, rfl, Lib.hid (by rw [hn2.out, HN.out]; omega), ⟨_, hown2⟩, hg3, hv3⟩
          case measure => simp [intOf]; omega
        · obtain rfl : j = 9 := by omega
          have h9 : 9 ≤ n' := by have := HN.out; omega
          go_wp2
          go_ret
          exact ⟨ret_bool (by simp; omega), hg⟩
end Go.Proofs.YtcaekfebnhedpaaGreatDoor
set_option linter.unusedVariables false
set_option linter.unusedSimpArgs false
namespace Go.Proofs.YtcaekfebnhedpaaGreatDoor
open Go.RowKit

set_option maxRecDepth 100000
/-- What an append of k more cells leaves: a new row, or the same one longer. -/
def AppS (w : World) (B : Nat) (v : Value) (m : Nat) (zs : List Value) (k : Nat) (v' : Value) (w' : World) : Prop :=
  ∃ ys : List Value, ys.length = k ∧ w'.ownsRow B 5 1 v' (m + k) (zs ++ ys) ∧
    ((v'.ownBlock = some w.heap.size ∧ w.grownBy w' none) ∨ ∃ g cp, v = .slice (some ⟨g, 0, none⟩) m cp ∧ v' = .slice (some ⟨g, 0, none⟩) (m + k) cp ∧ w.grownBy w' (some g))
theorem grownBy_drew_alloc (w : World) (o : Obj) : w.grownBy (w.drew.alloc o) none := ⟨rfl, rfl, rfl, by simp, fun k hk _ => (World.grownBy_alloc w.drew o none).block k hk (by simp)⟩
theorem run_olds {w : World} {g cap m : Nat} {cur : Array Value} {zs : List Value} {t : TypeId} (hg : w.heap[g]? = some (.cells cur t (0, 0))) (hl : zs.length = m) (htake : cur.toList.take m = zs) :
    (Builtin.firstCells 1 m (.slice (some ⟨g, 0, none⟩) m cap)).run Tryz.prog w = .ok zs.toArray w := by
  refine run_firstCells_some w 1 m ⟨g, 0, none⟩ m cap zs (by omega) fun j v hv => ?_
  rw [addr_add, Nat.zero_add, cell_of_row w g j cur t (0, 0) hg]
  rw [← htake, List.getElem?_take] at hv
  split at hv
  · simpa using hv
  · cases hv
theorem growBy_fourR (n c : Nat) : Builtin.growBy n 4 c =
    if c ≥ n then c else
    if c + (c + 768) / 4 ≥ n then c + (c + 768) / 4 else
    if c + (c + 768) / 4 + (c + (c + 768) / 4 + 768) / 4 ≥ n then c + (c + 768) / 4 + (c + (c + 768) / 4 + 768) / 4 else
    if c + (c + 768) / 4 + (c + (c + 768) / 4 + 768) / 4 + (c + (c + 768) / 4 + (c + (c + 768) / 4 + 768) / 4 + 768) / 4 ≥ n then c + (c + 768) / 4 + (c + (c + 768) / 4 + 768) / 4 + (c + (c + 768) / 4 + (c + (c + 768) / 4 + 768) / 4 + 768) / 4 else
    c + (c + 768) / 4 + (c + (c + 768) / 4 + 768) / 4 + (c + (c + 768) / 4 + (c + (c + 768) / 4 + 768) / 4 + 768) / 4 + (c + (c + 768) / 4 + (c + (c + 768) / 4 + 768) / 4 + (c + (c + 768) / 4 + (c + (c + 768) / 4 + 768) / 4 + 768) / 4 + 768) / 4 := by
  simp only [Builtin.growBy]
theorem nextcap_leR {need old : Nat} (h : old < need) : Builtin.nextslicecap need old ≤ 4 * need + 10000 := by
  unfold Builtin.nextslicecap
  split
  · omega
  · split
    · omega
    · rw [growBy_fourR]
      repeat' split
      all_goals omega
theorem app_one (w : World) (ty : TypeId) (B : Nat) (v : Value) (m : Nat) (zs : List Value) (hown : w.ownsRow B 5 1 v m zs) (A : Option Addr) (c : Nat) (x : Value) (hr : Rd w 1 A 1 [x]) (hx : x.oneCell' = true) (hm : m ≤ 1099511627776) (hB : B ≤ w.heap.size) :
    ∃ v' w', (Builtin.append_ #[32, 32] ty #[v, .slice A 1 c]).run Tryz.prog w = .ok v' w' ∧ AppS w B v m zs 1 v' w' := by
  obtain ⟨i0, hi, hz0, hz1, hz2⟩ := info_parts byt_info
  obtain ⟨g1, o1, rfl, hg1, hc1⟩ := hr.2 (by omega)
  have hnews : ∀ j u, [x][j]? = some u → w.cell? ((⟨g1, o1, none⟩ : Addr).add j) = some u := fun j u hu => by rw [addr_add]; exact hc1 j u hu
  have hone : ∀ u ∈ [x], u.oneCell' = true := fun u hu => by rw [List.mem_singleton] at hu; subst hu; exact hx
  obtain ⟨v', w', hrun, ho, hgr, hnil, hblk⟩ := run_append_own_at (P := Tryz.prog) w B 32 ty 5 i0 (.int .u8 0) 1 1 Tryz.underlying32 hi hz0 hz1 hz2 rfl (by decide) v m zs hown ⟨g1, o1, none⟩ 1 c [x] rfl hnews hone (by unfold maxLen; omega) (by omega) hB
  refine ⟨v', w', hrun, [x], rfl, ho, ?_⟩
  rcases hown.2 with ⟨rfl, rfl⟩ | ⟨g, cap, cur, rfl, hb, hg, hnc, hcm, hcs, htake⟩
  · left
    refine ⟨?_, hgr⟩
    rcases hblk with h | h
    · obtain ⟨g', cap', hv', _⟩ := ho.form (by omega)
      subst hv'
      cases h
    · exact h
  · by_cases hroom : m + 1 ≤ cap
    · right
      have h2 := run_append_room (P := Tryz.prog) w 32 ty 5 i0 Tryz.underlying32 hi g m cap cur hg ⟨g1, o1, none⟩ 1 c [x] (by rw [hz1]; rfl) hnews hone hroom (by rw [hz1]; simp; omega)
      rw [hrun] at h2
      injection h2 with h2 h3
      subst h2 h3
      exact ⟨g, cap, rfl, rfl, hgr⟩
    · left
      have hl0 : zs.length = m := by have := hown.1; omega
      have h2 := run_append_grow_src (P := Tryz.prog) w 32 32 ty 5 i0 (.int .u8 0) Tryz.underlying32 hi hz0 (some ⟨g, 0, none⟩) m cap zs (by rw [hz1]; exact run_olds (w := w.drew) hg hl0 (by rw [← htake, Nat.mul_one]))
        (.slice (some ⟨g1, o1, none⟩) 1 c) 1 [x] (by rw [hz1]; exact Src.ofSlice w Tryz.underlying32 ⟨g1, o1, none⟩ 1 c [x] rfl hnews hone) (by omega) (by omega) (by
          rw [hz2]
          have := nextcap_leR (need := m + 1) (old := cap) (by omega)
          omega)
      rw [hrun] at h2
      injection h2 with h2 h3
      subst h2 h3
      exact ⟨rfl, grownBy_drew_alloc w _⟩
theorem zero_cells (k : Nat) : (Builtin.zeroCells (Value.int .u8 0).cells k).size = k := by simp [Builtin.zeroCells, Value.cells]
theorem zero_oneB (k : Nat) : ∀ u ∈ (Builtin.zeroCells (Value.int .u8 0).cells k).toList, u.oneCell' = true := by
  intro u hu
  simp only [Builtin.zeroCells, Value.cells, Array.toList_map, List.mem_map] at hu
  obtain ⟨i, _, rfl⟩ := hu
  simp [Nat.mod_one]; rfl
theorem app_zeros (w : World) (ty : TypeId) (B : Nat) (v : Value) (m : Nat) (zs : List Value) (hown : w.ownsRow B 5 1 v m zs) (k : Nat) (hk : 0 < k) (hk2 : k ≤ 100000) (hm : m ≤ 1099511627776) (hB : B ≤ w.heap.size) :
    ∃ v' w', (Builtin.append_ #[32, 3] ty #[v, .int .i64 (k : Int)]).run Tryz.prog w = .ok v' w' ∧ AppS w B v m zs k v' w' := by
  obtain ⟨i0, hi, hz0, hz1, hz2⟩ := info_parts byt_info
  have hzc := zero_cells k
  have hz1c := zero_oneB k
  have hzl : (Builtin.zeroCells (Value.int .u8 0).cells k).toList.length = k := by rw [Array.length_toList, hzc]
  have hk0 : ¬ (k = 0) := by omega
  rcases hown.2 with ⟨rfl, rfl⟩ | ⟨g, cap, cur, rfl, hb, hg, hnc, hcm, hcs, htake⟩
  · have hrun := Lib.run_append_nil_zeros (P := Tryz.prog) w 32 3 ty 5 i0 (.int .u8 0) .i64 .i64 Tryz.underlying32 Tryz.underlying3 hi hz0 k hk (by omega) (by omega) (by rw [hz2]; omega)
    have hzs : zs = [] := List.eq_nil_of_length_eq_zero (by have := hown.1; omega)
    subst hzs
    have hge := grownCap_ge w k 0 5
    have hle := grownCap_le_maxLen w k 0 5 (by unfold maxLen; omega)
    refine ⟨_, _, hrun, (Builtin.zeroCells (Value.int .u8 0).cells k).toList, hzl, ?_, .inl ⟨rfl, grownBy_drew_alloc w _⟩⟩
    rw [Nat.zero_add, List.nil_append]
    refine ⟨by rw [hzl, Nat.mul_one], .inr ⟨w.heap.size, _, _, rfl, hB, heap_alloc_new w.drew _, hge, hle, ?_, ?_⟩⟩
    · rw [Array.size_append, hzc, zero_cells]; omega
    · rw [Array.toList_append, Nat.mul_one, List.take_append_of_le_length (by rw [hzl]; omega), List.take_of_length_le (by rw [hzl]; omega)]
  · have hl0 : zs.length = m := by have := hown.1; omega
    by_cases hroom : m + k ≤ cap
    · have hst := run_storeCells_at Tryz.prog g m 5 (Builtin.zeroCells (Value.int .u8 0).cells k).toList 0 cur w hg (by rw [hzl]; omega) hz1c
      simp only [Nat.add_zero] at hst
      have hw : IntKind.i64.wrap (k : Int) = k := by rw [IntKind.wrap_i64]; omega
      have hneg : ¬ ((k : Int) < 0) := by omega
      have h48i : ¬ (281474976710656 < (k : Int) * (i0.bytes : Int)) := by rw [hz2]; omega
      have hns : ¬ (k * i0.size = 0) := by rw [hz1]; omega
      have hrun : (Builtin.append_ #[32, 3] ty #[.slice (some ⟨g, 0, none⟩) m cap, .int .i64 (k : Int)]).run Tryz.prog w = .ok (.slice (some ⟨g, 0, none⟩) (m + k) cap) (w.setRow g (cur.toList.take m ++ (Builtin.zeroCells (Value.int .u8 0).cells k).toList ++ cur.toList.drop (m + (Builtin.zeroCells (Value.int .u8 0).cells k).toList.length)).toArray) := by
        simp [Builtin.append_, run_underlying Tryz.underlying32, run_underlying Tryz.underlying3, sizeOf, typeInfo, zeroValue, hi, hz0, asInt, asIntOf, hw, hneg, h48i, hns, hk0, hroom, hz1, Addr.add_lit, hst]
      refine ⟨_, _, hrun, (Builtin.zeroCells (Value.int .u8 0).cells k).toList, hzl, ?_, .inr ⟨g, cap, rfl, rfl, ?_⟩⟩
      · refine ⟨by rw [List.length_append, hl0, hzl]; omega, .inr ⟨g, cap, _, rfl, hb, setRow_heap w g cur _ _ _ hg, hroom, hcm, ?_, ?_⟩⟩
        · simp only [List.size_toArray, List.length_append, List.length_take, List.length_drop, hzl, Array.length_toList]; omega
        · rw [Nat.mul_one] at htake
          rw [htake, Nat.mul_one, List.append_assoc, ← List.append_assoc, List.take_append_of_le_length (by rw [List.length_append, hl0, hzl]; omega), List.take_of_length_le (by rw [List.length_append, hl0, hzl]; omega)]
      · refine ⟨rfl, rfl, rfl, by simp [World.setRow], fun j hj hne => ?_⟩
        simp only [World.setRow, Array.getElem?_modify]
        rw [if_neg (fun he => hne (by rw [he]))]
    · have hrun := Lib.run_append_grow_zeros (P := Tryz.prog) w 32 3 ty 5 i0 (.int .u8 0) .i64 .i64 Tryz.underlying32 Tryz.underlying3 hi hz0 (some ⟨g, 0, none⟩) m cap zs (by rw [hz1]; exact run_olds (w := w.drew) hg hl0 (by rw [← htake, Nat.mul_one])) k hk (by omega) (by omega) (by omega) (by rw [hz2]; omega) (by
        rw [hz2]
        have := nextcap_leR (need := m + k) (old := cap) (by omega)
        omega)
      have hge := grownCap_ge w (m + k) cap 5
      have hle := grownCap_le_maxLen w (m + k) cap 5 (by unfold maxLen; omega)
      refine ⟨_, _, hrun, (Builtin.zeroCells (Value.int .u8 0).cells k).toList, hzl, ?_, .inl ⟨rfl, grownBy_drew_alloc w _⟩⟩
      refine ⟨by rw [List.length_append, hl0, hzl]; omega, .inr ⟨w.heap.size, _, _, rfl, hB, heap_alloc_new w.drew _, hge, hle, ?_, ?_⟩⟩
      · rw [Array.size_append, Array.size_append, hzc, zero_cells]; simp; omega
      · rw [Array.toList_append, Array.toList_append, Nat.mul_one, List.take_append_of_le_length (by rw [List.length_append, hzl]; simp; omega), List.take_of_length_le (by rw [List.length_append, hzl]; simp; omega)]
end Go.Proofs.YtcaekfebnhedpaaGreatDoor
set_option linter.unusedVariables false
set_option linter.unusedSimpArgs false
namespace Go.Proofs.YtcaekfebnhedpaaGreatDoor
open Go.RowKit

set_option maxRecDepth 100000
def markV (i : Nat) : Value := .int .u8 (7 * (i : Int) + 1)
def rowV (A : Nat → Option Addr) (n c : Nat → Nat) (i : Nat) : Value := .slice (A i) (n i) (c i)
def RowsF (w : World) (B N : Nat) (A : Nat → Option Addr) (n c : Nat → Nat) (P : Nat → Nat → Prop) : Prop := ∀ i, i < N → ∃ xs, w.ownsRow B 5 1 (rowV A n c i) (n i) xs ∧ ∀ j, j < n i → P i j → xs[j]? = some (markV i)
def RowsD (N : Nat) (A : Nat → Option Addr) (n c : Nat → Nat) : Prop := ∀ i j, i < N → j < N → i ≠ j → (rowV A n c i).ownBlock = none ∨ (rowV A n c i).ownBlock ≠ (rowV A n c j).ownBlock
structure ApFr (w w' : World) (N : Nat) (A : Nat → Option Addr) (n c : Nat → Nat) : Prop where
  os : w'.os = w.os
  tape : w'.tape = w.tape
  output : w'.output = w.output
  size : w.heap.size ≤ w'.heap.size
  block : ∀ k, k < w.heap.size → (∀ i, i < N → (rowV A n c i).ownBlock ≠ some k) → w'.heap[k]? = w.heap[k]?
section
variable {w0 w w' : World} {B N s0 : Nat} {A : Nat → Option Addr} {n c : Nat → Nat} {P Q : Nat → Nat → Prop}
theorem ApFr.refl : ApFr w w N A n c := ⟨rfl, rfl, rfl, Nat.le_refl _, fun _ _ _ => rfl⟩
theorem ApFr.grown (h : ApFr w0 w N A n c) {row : Option Nat} (hg : w.grownBy w' row) (hr : ∀ k, row = some k → w0.heap.size ≤ k ∨ ∃ i, i < N ∧ (rowV A n c i).ownBlock = some k) : ApFr w0 w' N A n c :=
  ⟨hg.os.trans h.os, hg.tape.trans h.tape, hg.output.trans h.output, Nat.le_trans h.size hg.size, fun k hk hn =>
    (hg.block k (Nat.lt_of_lt_of_le hk h.size) (fun e => by
      rcases hr k e.symm with h1 | ⟨i, hi, h1⟩
      · omega
      · exact hn i hi h1)).trans (h.block k hk hn)⟩
theorem RowsF.imp (h : RowsF w B N A n c P) (hpq : ∀ i j, i < N → j < n i → Q i j → P i j) : RowsF w B N A n c Q := fun i hi => by
  obtain ⟨xs, h1, h2⟩ := h i hi
  exact ⟨xs, h1, fun j hj hq => h2 j hj (hpq i j hi hj hq)⟩
theorem RowsF.far (h : RowsF w B N A n c P) {row : Option Nat} (hg : w.grownBy w' row) (hr : ∀ i, i < N → (rowV A n c i).ownBlock = none ∨ (rowV A n c i).ownBlock ≠ row) : RowsF w' B N A n c P := fun i hi => by
  obtain ⟨xs, h1, h2⟩ := h i hi
  exact ⟨xs, h1.kept hg (hr i hi), h2⟩
theorem RowsF.store (h : RowsF w B N A n c P) (hD : RowsD N A n c) {i j : Nat} (hi : i < N) (hj : j < n i) :
    ∃ g, A i = some ⟨g, 0, none⟩ ∧ (rowV A n c i).ownBlock = some g ∧ (∃ old, w.cell? ⟨g, j, none⟩ = some old) ∧ w.frozen? ⟨g, j, none⟩ = false ∧
      RowsF (w.setCell ⟨g, j, none⟩ (markV i)) B N A n c (fun a b => P a b ∨ (a = i ∧ b = j)) ∧ w.grownBy (w.setCell ⟨g, j, none⟩ (markV i)) (some g) := by
  obtain ⟨xs, h1, h2⟩ := h i hi
  obtain ⟨g, cap, hv, hbg, hgl⟩ := h1.form (by omega)
  have hA : A i = some ⟨g, 0, none⟩ := by unfold rowV at hv; injection hv
  have hb : (rowV A n c i).ownBlock = some g := by rw [hv]; rfl
  rw [hv] at h1
  have hl : j < xs.length := by rw [h1.1]; omega
  have hst := h1.stored j (markV i)
  refine ⟨g, hA, hb, ⟨xs[j], by rw [h1.cellAt j (by omega)]; exact List.getElem?_eq_getElem hl⟩, h1.frozenAt j, fun a ha => ?_, hst.2⟩
  by_cases hai : a = i
  · subst hai
    refine ⟨xs.set j (markV a), by rw [hv]; exact hst.1, fun b hb9 hp => ?_⟩
    by_cases hbj : b = j
    · subst hbj; rw [List.getElem?_set_self hl]
    · rw [List.getElem?_set_ne (by omega)]
      rcases hp with hp | hp
      · exact h2 b hb9 hp
      · exact absurd hp.2 hbj
  · obtain ⟨ys, k1, k2⟩ := h a ha
    refine ⟨ys, k1.kept hst.2 ?_, fun b hb9 hp => ?_⟩
    · rw [← hb]; exact hD a i ha hi hai
    · rcases hp with hp | hp
      · exact k2 b hb9 hp
      · exact absurd hp.1 hai
theorem own_prefix {e : TypeId} {g cp m n0 : Nat} {zs : List Value} (h : w.ownsRow B e 1 (.slice (some ⟨g, 0, none⟩) m cp) m zs) (hn : n0 ≤ m) : w.ownsRow B e 1 (.slice (some ⟨g, 0, none⟩) n0 cp) n0 (zs.take n0) := by
  have hl := h.1
  rcases h.2 with ⟨h', _⟩ | ⟨g', cap', cur, h', hb, hg, hnc, hcm, hcs, htake⟩
  · simp at h'
  · simp only [Value.slice.injEq, Option.some.injEq, Addr.mk.injEq, and_true, true_and] at h'
    obtain ⟨rfl, rfl⟩ := h'
    refine ⟨by rw [List.length_take]; omega, .inr ⟨g, cp, cur, rfl, hb, hg, by omega, hcm, hcs, ?_⟩⟩
    rw [← htake, List.take_take, Nat.min_eq_left (by omega), Nat.mul_one]
/-- A list that grows: it shares the row of list i, or it has moved to memory behind s0. -/
def OneOK (w : World) (B s0 : Nat) (A : Nat → Option Addr) (n c : Nat → Nat) (i : Nat) (v : Value) (m : Nat) : Prop :=
  ∃ zs, w.ownsRow B 5 1 v m zs ∧ n i ≤ m ∧ (∀ j, j < n i → zs[j]? = some (markV i)) ∧ ((∃ b, v.ownBlock = some b ∧ s0 ≤ b) ∨ v = .slice (A i) m (c i))
theorem OneOK.start (h : RowsF w B N A n c fun _ _ => True) {i : Nat} (hi : i < N) : OneOK w B s0 A n c i (.slice (A i) (n i) (c i)) (n i) := by
  obtain ⟨xs, h1, h2⟩ := h i hi
  exact ⟨xs, h1, Nat.le_refl _, fun j hj => h2 j hj trivial, .inr rfl⟩
theorem RowsF.app (h : RowsF w B N A n c fun _ _ => True) (hD : RowsD N A n c) (hL : ∀ i, i < N → ∀ b, (rowV A n c i).ownBlock = some b → b < s0) (hs : s0 ≤ w.heap.size) {i : Nat} (hi : i < N) {v v' : Value} {m k : Nat} {zs : List Value} (ho : w.ownsRow B 5 1 v m zs) (hn : n i ≤ m) (hz : ∀ j, j < n i → zs[j]? = some (markV i)) (hal : (∃ b, v.ownBlock = some b ∧ s0 ≤ b) ∨ v = .slice (A i) m (c i))
    (ha : AppS w B v m zs k v' w') : RowsF w' B N A n c (fun _ _ => True) ∧ OneOK w' B s0 A n c i v' (m + k) ∧ ∃ row, w.grownBy w' row ∧ ∀ b, row = some b → s0 ≤ b ∨ ∃ i, i < N ∧ (rowV A n c i).ownBlock = some b := by
  obtain ⟨ys, hy, hown, hcase⟩ := ha
  have hzl : zs.length = m := by have := ho.1; omega
  have hz' : ∀ j, j < n i → (zs ++ ys)[j]? = some (markV i) := fun j hj => by rw [List.getElem?_append_left (by omega)]; exact hz j hj
  rcases hcase with ⟨hb, hg⟩ | ⟨g, cp, rfl, rfl, hg⟩
  · exact ⟨h.far hg fun a ha => by cases e : (rowV A n c a).ownBlock <;> simp, ⟨zs ++ ys, hown, by omega, hz', .inl ⟨_, hb, hs⟩⟩, none, hg, fun b e => by cases e⟩
  · rcases hal with ⟨b, e, hb⟩ | e
    · have e' : g = b := by simpa [Value.ownBlock] using e
      subst e'
      refine ⟨h.far hg fun a ha => ?_, ⟨zs ++ ys, hown, by omega, hz', .inl ⟨g, rfl, hb⟩⟩, some g, hg, fun b e => by cases e; exact .inl hb⟩
      cases e2 : (rowV A n c a).ownBlock with
      | none => exact .inl rfl
      | some b2 => have := hL a ha b2 e2; exact .inr (by simp; omega)
    · injection e with e1 _ e3
      have hbi : (rowV A n c i).ownBlock = some g := by unfold rowV; rw [← e1]; rfl
      refine ⟨fun a ha => ?_, ⟨zs ++ ys, hown, by omega, hz', .inr (by rw [← e1, ← e3])⟩, some g, hg, fun b e => by cases e; exact .inr ⟨i, hi, hbi⟩⟩
      by_cases hai : a = i
      · subst hai
        refine ⟨(zs ++ ys).take (n a), ?_, fun j hj _ => ?_⟩
        · unfold rowV; rw [← e1, ← e3]; exact own_prefix hown (by omega)
        · rw [List.getElem?_take, if_pos hj]; exact hz' j hj
      · obtain ⟨xs, k1, k2⟩ := h a ha
        exact ⟨xs, k1.kept hg (by rw [← hbi]; exact hD a i ha hi hai), k2⟩
end
end Go.Proofs.YtcaekfebnhedpaaGreatDoor
