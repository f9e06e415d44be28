import Derived.Test.YtfhkgbimnfjfhaaDoorCParse
import Derived.Test.YtfhkgbimnfjfhaaDoorSto0
import Derived.Test.YtfhkgbimnfjfhaaDoorDetA
/- fresh.Storable. Conditions: at most 2^20 fields, texts of at most 2^20 bytes; the library's variable MaxLen holds some int. -/
set_option linter.unusedVariables false
set_option linter.unusedSimpArgs false
namespace Go.Proofs.YtfhkgbimnfjfhaaDoor
open Go.RowKit

set_option maxRecDepth 100000
theorem row_set10 {w : World} {z0 z1 z2 z3 z4 z5 z6 z7 z8 z9 v0 v1 v2 v3 v4 v5 v6 v7 v8 v9 : Value} {t : TypeId} {b : Nat} (h : w.heap[b]? = some (.cells #[z0, z1, z2, z3, z4, z5, z6, z7, z8, z9] t (0, 0))) :
    ((((((((((w.setCell ⟨b, 0, none⟩ v0).setCell ⟨b, 1, none⟩ v1).setCell ⟨b, 2, none⟩ v2).setCell ⟨b, 3, none⟩ v3).setCell ⟨b, 4, none⟩ v4).setCell ⟨b, 5, none⟩ v5).setCell ⟨b, 6, none⟩ v6).setCell ⟨b, 7, none⟩ v7).setCell ⟨b, 8, none⟩ v8).setCell ⟨b, 9, none⟩ v9).heap[b]? = some (.cells #[v0, v1, v2, v3, v4, v5, v6, v7, v8, v9] t (0, 0)) := by
  have h0 : (w.setCell ⟨b, 0, none⟩ v0).heap[b]? = some (.cells #[v0, z1, z2, z3, z4, z5, z6, z7, z8, z9] t (0, 0)) := by simpa using DA.heap_set h 0 v0
  have h1 : ((w.setCell ⟨b, 0, none⟩ v0).setCell ⟨b, 1, none⟩ v1).heap[b]? = some (.cells #[v0, v1, z2, z3, z4, z5, z6, z7, z8, z9] t (0, 0)) := by simpa using DA.heap_set h0 1 v1
  have h2 : (((w.setCell ⟨b, 0, none⟩ v0).setCell ⟨b, 1, none⟩ v1).setCell ⟨b, 2, none⟩ v2).heap[b]? = some (.cells #[v0, v1, v2, z3, z4, z5, z6, z7, z8, z9] t (0, 0)) := by simpa using DA.heap_set h1 2 v2
  have h3 : ((((w.setCell ⟨b, 0, none⟩ v0).setCell ⟨b, 1, none⟩ v1).setCell ⟨b, 2, none⟩ v2).setCell ⟨b, 3, none⟩ v3).heap[b]? = some (.cells #[v0, v1, v2, v3, z4, z5, z6, z7, z8, z9] t (0, 0)) := by simpa using DA.heap_set h2 3 v3
  have h4 : (((((w.setCell ⟨b, 0, none⟩ v0).setCell ⟨b, 1, none⟩ v1).setCell ⟨b, 2, none⟩ v2).setCell ⟨b, 3, none⟩ v3).setCell ⟨b, 4, none⟩ v4).heap[b]? = some (.cells #[v0, v1, v2, v3, v4, z5, z6, z7, z8, z9] t (0, 0)) := by simpa using DA.heap_set h3 4 v4
  have h5 : ((((((w.setCell ⟨b, 0, none⟩ v0).setCell ⟨b, 1, none⟩ v1).setCell ⟨b, 2, none⟩ v2).setCell ⟨b, 3, none⟩ v3).setCell ⟨b, 4, none⟩ v4).setCell ⟨b, 5, none⟩ v5).heap[b]? = some (.cells #[v0, v1, v2, v3, v4, v5, z6, z7, z8, z9] t (0, 0)) := by simpa using DA.heap_set h4 5 v5
  have h6 : (((((((w.setCell ⟨b, 0, none⟩ v0).setCell ⟨b, 1, none⟩ v1).setCell ⟨b, 2, none⟩ v2).setCell ⟨b, 3, none⟩ v3).setCell ⟨b, 4, none⟩ v4).setCell ⟨b, 5, none⟩ v5).setCell ⟨b, 6, none⟩ v6).heap[b]? = some (.cells #[v0, v1, v2, v3, v4, v5, v6, z7, z8, z9] t (0, 0)) := by simpa using DA.heap_set h5 6 v6
  have h7 : ((((((((w.setCell ⟨b, 0, none⟩ v0).setCell ⟨b, 1, none⟩ v1).setCell ⟨b, 2, none⟩ v2).setCell ⟨b, 3, none⟩ v3).setCell ⟨b, 4, none⟩ v4).setCell ⟨b, 5, none⟩ v5).setCell ⟨b, 6, none⟩ v6).setCell ⟨b, 7, none⟩ v7).heap[b]? = some (.cells #[v0, v1, v2, v3, v4, v5, v6, v7, z8, z9] t (0, 0)) := by simpa using DA.heap_set h6 7 v7
  have h8 : (((((((((w.setCell ⟨b, 0, none⟩ v0).setCell ⟨b, 1, none⟩ v1).setCell ⟨b, 2, none⟩ v2).setCell ⟨b, 3, none⟩ v3).setCell ⟨b, 4, none⟩ v4).setCell ⟨b, 5, none⟩ v5).setCell ⟨b, 6, none⟩ v6).setCell ⟨b, 7, none⟩ v7).setCell ⟨b, 8, none⟩ v8).heap[b]? = some (.cells #[v0, v1, v2, v3, v4, v5, v6, v7, v8, z9] t (0, 0)) := by simpa using DA.heap_set h7 8 v8
  have h9 : ((((((((((w.setCell ⟨b, 0, none⟩ v0).setCell ⟨b, 1, none⟩ v1).setCell ⟨b, 2, none⟩ v2).setCell ⟨b, 3, none⟩ v3).setCell ⟨b, 4, none⟩ v4).setCell ⟨b, 5, none⟩ v5).setCell ⟨b, 6, none⟩ v6).setCell ⟨b, 7, none⟩ v7).setCell ⟨b, 8, none⟩ v8).setCell ⟨b, 9, none⟩ v9).heap[b]? = some (.cells #[v0, v1, v2, v3, v4, v5, v6, v7, v8, v9] t (0, 0)) := by simpa using DA.heap_set h8 9 v9
  exact h9
set_option maxHeartbeats 2000000 in
theorem storable_any (m t : List UInt8) (minor : Int) (A : Option Addr) (n c : Nat) (l : List Fld) (st : Int) (rs : List UInt8) (minor' : Int) (A' : Option Addr) (n' c' : Nat) (l' : List Fld) (w : World) (hM : MaxL w)
    (hl : RdF w A n l) (hn : n ≤ 1048576) (hls : FlenS l) (hl' : RdF w A' n' l') (hn' : n' ≤ 1048576) (hls' : FlenS l') (hst : -9223372036854775808 ≤ st ∧ st ≤ 9223372036854775807) :
    Calls Tryd.prog 5 #[reqV m t minor A n c, respV st rs minor' A' n' c'] w fun e w' => e = .returned (.bool (Ctl.storL m l st l')) ∧ Below w.heap.size w w' := by
  unfold reqV respV
  have hal1 := alloc_below w (.cells #[.string (bs m), .string (bs t), .int .i64 minor, .slice A n c] 24)
  have hr1 := heap_alloc_new w (.cells #[.string (bs m), .string (bs t), .int .i64 minor, .slice A n c] 24)
  have hal2 := alloc_below (w.alloc (.cells #[.string (bs m), .string (bs t), .int .i64 minor, .slice A n c] 24)) (.cells #[.int .i64 st, .string (bs rs), .int .i64 minor', .slice A' n' c'] 26)
  have hb0 := bnext hal1 hal2 hal1.size
  have hr2 := heap_alloc_new (w.alloc (.cells #[.string (bs m), .string (bs t), .int .i64 minor, .slice A n c] 24)) (.cells #[.int .i64 st, .string (bs rs), .int .i64 minor', .slice A' n' c'] 26)
  rw [show (w.alloc (.cells #[.string (bs m), .string (bs t), .int .i64 minor, .slice A n c] 24)).heap.size = w.heap.size + 1 by simp] at hr2
  replace hr1 := row_keep hr1 hal2
  have hg2 : w.heap.size < ((w.alloc (.cells #[.string (bs m), .string (bs t), .int .i64 minor, .slice A n c] 24)).alloc (.cells #[.int .i64 st, .string (bs rs), .int .i64 minor', .slice A' n' c'] 26)).heap.size := by simp; omega
  have hg3 : w.heap.size + 1 < ((w.alloc (.cells #[.string (bs m), .string (bs t), .int .i64 minor, .slice A n c] 24)).alloc (.cells #[.int .i64 st, .string (bs rs), .int .i64 minor', .slice A' n' c'] 26)).heap.size := by simp
  clear hal1 hal2
  have HV : Hid (Ctl.storL m l st l' = ((m == Ctl.getN) && (Ctl.keepL st (Ctl.explL (Ctl.ctlL l') l') && (!(Ctl.ctlL l).noStore && (!(Ctl.ctlL l').noStore && (!(Ctl.ctlL l').priv && (!(Ctl.toldL l Ctl.authN && !((Ctl.ctlL l').pub || ((Ctl.ctlL l').must || decide (0 ≤ (Ctl.ctlL l').sMaxAge)))) && (!(Ctl.toldL l Ctl.rangeN && (st.tdiv 100 == 2)) && !hasL l' Ctl.varyN Ctl.starN)))))))) := Lib.hid rfl
  generalize Ctl.storL m l st l' = R at *
  go_enter Tryd.func5, Tryd.ntmps5
  go_upto_region 1 with fail
  generalize (w.alloc (.cells #[.string (bs m), .string (bs t), .int .i64 minor, .slice A n c] 24)).alloc (.cells #[.int .i64 st, .string (bs rs), .int .i64 minor', .slice A' n' c'] 26) = w2 at *
  obtain ⟨a0, a1, a2, a3, -⟩ := row_facts4 hr1
  obtain ⟨b0, b1, b2, b3, -⟩ := row_facts4 hr2
  have hM2 := maxl_b hM hb0
  have hl2 := hl.step hb0
  have hl2' := hl'.step hb0
  have hCr : ∀ W, Below w2.heap.size w2 W → Calls Tryd.prog 11 #[.slice A n c] W fun e w' => e = .returned (ctV (Ctl.ctlL l)) ∧ Below W.heap.size W w' := fun W h => cparse_any A n c l W (maxl_b hM2 h) (hl2.step h) hn hls
  have hCs : ∀ W, Below w2.heap.size w2 W → Calls Tryd.prog 11 #[.slice A' n' c'] W fun e w' => e = .returned (ctV (Ctl.ctlL l')) ∧ Below W.heap.size W w' := fun W h => cparse_any A' n' c' l' W (maxl_b hM2 h) (hl2'.step h) hn' hls'
  clear hM hl hl'
  generalize hcc : Ctl.ctlL l = cc at *
  generalize hdd : Ctl.ctlL l' = dd at *
  unfold ctV at hCr hCs
  let bA : DA.Box := ⟨5, 6, 8, #[.bool false, .bool false, .bool false, .bool false, .bool false, .bool false, .int .i64 0, .int .i64 0, .int .i64 0, .int .i64 0], #[.bool cc.noStore, .bool cc.noCache, .bool cc.priv, .bool cc.pub, .bool cc.must, .bool cc.only, .int .i64 cc.maxAge, .int .i64 cc.sMaxAge, .int .i64 cc.minFresh, .int .i64 cc.maxStale], 33⟩
  let bB : DA.Box := ⟨6, 7, 9, #[.bool false, .bool false, .bool false, .bool false, .bool false, .bool false, .int .i64 0, .int .i64 0, .int .i64 0, .int .i64 0], #[.bool dd.noStore, .bool dd.noCache, .bool dd.priv, .bool dd.pub, .bool dd.must, .bool dd.only, .int .i64 dd.maxAge, .int .i64 dd.sMaxAge, .int .i64 dd.minFresh, .int .i64 dd.maxStale], 33⟩
  refine DA.wp_region (n := 10) (V := DA.VK [some (.pointer (some ⟨w.heap.size, 3, none⟩)), some (.slice A n c), some (.agg #[.bool cc.noStore, .bool cc.noCache, .bool cc.priv, .bool cc.pub, .bool cc.must, .bool cc.only, .int .i64 cc.maxAge, .int .i64 cc.sMaxAge, .int .i64 cc.minFresh, .int .i64 cc.maxStale]), some (.pointer (some ⟨w.heap.size + 1, 3, none⟩)), some (.slice A' n' c'), some (.agg #[.bool dd.noStore, .bool dd.noCache, .bool dd.priv, .bool dd.pub, .bool dd.must, .bool dd.only, .int .i64 dd.maxAge, .int .i64 dd.sMaxAge, .int .i64 dd.minFresh, .int .i64 dd.maxStale]), none, none, some undef, some undef]) (S := DA.SB w2 76 [bA, bB]) (by kernel_rfl) rfl (DA.SB.start rfl) ?_
  refine' DA.Det.takeE (i := 0) (v := _) rfl (fun _ => Iff.rfl) (by kernel_rfl) (by kernel_rfl) (by kernel_rfl) (DA.YS.pure rfl rfl ?rp0 ?sp0) ?np0
  case rp0 => intro a' L W hS; go_simp; first | rfl | skip
  case sp0 => exact fun a' L W _ h => h.other (by simp [bA, bB]) (Below.refl _ _)
  try simp only [Act.put, List.setIfInBounds_toArray, List.set_cons_zero, List.set_cons_succ]
  refine' DA.Det.takeE (i := 1) (v := _) rfl (fun _ => Iff.rfl) (by kernel_rfl) (by kernel_rfl) (by kernel_rfl) (DA.YS.pure rfl rfl ?rp1 ?sp1) ?np1
  case rp1 => intro a' L W hS; have q3 := ((hS.1.cell (p := ⟨w.heap.size, 3, none⟩) hg2).trans a3); go_simp; first | rfl | skip
  case sp1 => exact fun a' L W _ h => h.other (by simp [bA, bB]) (Below.refl _ _)
  try simp only [Act.put, List.setIfInBounds_toArray, List.set_cons_zero, List.set_cons_succ]
  refine' DA.Det.takeE (i := 2) (v := _) rfl (fun _ => Iff.rfl) (by kernel_rfl) (by kernel_rfl) (by kernel_rfl) (DA.YS.call (f := _) (args := _) rfl ?rp2 ?cp2) ?np2
  case rp2 => intro W; go_simp; constructor <;> rfl
  case cp2 =>
    intro a' L W hL hS
    refine (hCr W hS.1).mono ?_
    rintro e w9 ⟨rfl, hb9⟩
    exact ⟨_, rfl, rfl, hS.other (by simp [bA, bB]) hb9⟩
  try simp only [Act.put, List.setIfInBounds_toArray, List.set_cons_zero, List.set_cons_succ]
  refine' DA.Det.takeE (i := 3) (v := _) rfl (fun _ => Iff.rfl) (by kernel_rfl) (by kernel_rfl) (by kernel_rfl) (DA.YS.pure rfl rfl ?rp3 ?sp3) ?np3
  case rp3 => intro a' L W hS; go_simp; first | rfl | skip
  case sp3 => exact fun a' L W _ h => h.other (by simp [bA, bB]) (Below.refl _ _)
  try simp only [Act.put, List.setIfInBounds_toArray, List.set_cons_zero, List.set_cons_succ]
  refine' DA.Det.takeE (i := 4) (v := _) rfl (fun _ => Iff.rfl) (by kernel_rfl) (by kernel_rfl) (by kernel_rfl) (DA.YS.pure rfl rfl ?rp4 ?sp4) ?np4
  case rp4 => intro a' L W hS; have q3 := ((hS.1.cell (p := ⟨w.heap.size + 1, 3, none⟩) hg3).trans b3); go_simp; first | rfl | skip
  case sp4 => exact fun a' L W _ h => h.other (by simp [bA, bB]) (Below.refl _ _)
  try simp only [Act.put, List.setIfInBounds_toArray, List.set_cons_zero, List.set_cons_succ]
  refine' DA.Det.takeE (i := 5) (v := _) rfl (fun _ => Iff.rfl) (by kernel_rfl) (by kernel_rfl) (by kernel_rfl) (DA.YS.call (f := _) (args := _) rfl ?rp5 ?cp5) ?np5
  case rp5 => intro W; go_simp; constructor <;> rfl
  case cp5 =>
    intro a' L W hL hS
    refine (hCs W hS.1).mono ?_
    rintro e w9 ⟨rfl, hb9⟩
    exact ⟨_, rfl, rfl, hS.other (by simp [bA, bB]) hb9⟩
  try simp only [Act.put, List.setIfInBounds_toArray, List.set_cons_zero, List.set_cons_succ]
  refine' DA.Det.takeL (i := 6) rfl ⟨_, 0, rfl⟩ (by kernel_rfl) (by kernel_rfl) (by kernel_rfl) (DA.YS.make (v := _) (f := _) rfl ?rp6 ?sp6) ?np6
  case rp6 => intro W; go_simp; first | rfl | (constructor <;> rfl)
  case sp6 => exact fun a' L W hL hS => ⟨⟨_, rfl⟩, hS.make bA (by simp [bA, bB]) (by simp [bA, bB]) hL (by simp [bA, bB])⟩
  rintro v ⟨gbA, rfl⟩
  try simp only [Act.put, List.setIfInBounds_toArray, List.set_cons_zero, List.set_cons_succ]
  refine' DA.Det.takeL (i := 7) rfl ⟨_, 0, rfl⟩ (by kernel_rfl) (by kernel_rfl) (by kernel_rfl) (DA.YS.make (v := _) (f := _) rfl ?rp7 ?sp7) ?np7
  case rp7 => intro W; go_simp; first | rfl | (constructor <;> rfl)
  case sp7 => exact fun a' L W hL hS => ⟨⟨_, rfl⟩, hS.make bB (by simp [bA, bB]) (by simp [bA, bB]) hL (by simp [bA, bB])⟩
  rintro v ⟨gbB, rfl⟩
  try simp only [Act.put, List.setIfInBounds_toArray, List.set_cons_zero, List.set_cons_succ]
  refine' DA.Det.takeE (i := 8) (v := _) rfl (fun _ => Iff.rfl) (by kernel_rfl) (by kernel_rfl) (by kernel_rfl) (DA.YS.store (f := _) rfl rfl ?rp8) ?np8
  case rp8 =>
    intro a' L W he hL hd hS
    have hip : L.getD 6 false = true := by have := hd ⟨6, .data⟩ (by simp) (by kernel_rfl); exact this
    have hsl : a'.tmps[bA.p]? = some (.pointer (some ⟨gbA, 0, none⟩)) := by
      exact DA.slot_of (he (.tmp 5) (by simp [Op.operands]))
    obtain ⟨r1, r2, r3⟩ := DA.SB.row bA (by simp [bA]) hip hsl hS
    rw [DA.getD_un hL, if_neg (by decide)] at r3
    obtain ⟨q0, q1, q2, q3, q4, q5, q6, q7, q8, q9, f0, f1, f2, f3, f4, f5, f6, f7, f8, f9⟩ := row_facts10 r3
    constructor
    · go_simp
      rfl
    · refine DA.SB.store bA (by simp [bA, bB]) hip hsl (by simp [bA, bB]) hL hS ?_ ?_ ?_ ?_
      · repeat refine Below.setCell ?_ (by exact r1) _
        exact hS.1
      · simp only [DA.size_set]
      · exact row_set10 r3
      · intro k hk
        simp only [DA.heap_rest hk]
  try simp only [Act.put, List.setIfInBounds_toArray, List.set_cons_zero, List.set_cons_succ]
  refine' DA.Det.takeE (i := 9) (v := _) rfl (fun _ => Iff.rfl) (by kernel_rfl) (by kernel_rfl) (by kernel_rfl) (DA.YS.store (f := _) rfl rfl ?rp9) ?np9
  case rp9 =>
    intro a' L W he hL hd hS
    have hip : L.getD 7 false = true := by have := hd ⟨7, .data⟩ (by simp) (by kernel_rfl); exact this
    have hsl : a'.tmps[bB.p]? = some (.pointer (some ⟨gbB, 0, none⟩)) := by
      exact DA.slot_of (he (.tmp 6) (by simp [Op.operands]))
    obtain ⟨r1, r2, r3⟩ := DA.SB.row bB (by simp [bB]) hip hsl hS
    rw [DA.getD_un hL, if_neg (by decide)] at r3
    obtain ⟨q0, q1, q2, q3, q4, q5, q6, q7, q8, q9, f0, f1, f2, f3, f4, f5, f6, f7, f8, f9⟩ := row_facts10 r3
    constructor
    · go_simp
      rfl
    · refine DA.SB.store bB (by simp [bA, bB]) hip hsl (by simp [bA, bB]) hL hS ?_ ?_ ?_ ?_
      · repeat refine Below.setCell ?_ (by exact r1) _
        exact hS.1
      · simp only [DA.size_set]
      · exact row_set10 r3
      · intro k hk
        simp only [DA.heap_rest hk]
  try simp only [Act.put, List.setIfInBounds_toArray, List.set_cons_zero, List.set_cons_succ]
  refine DA.Det.done (by kernel_rfl) (fun W hS => ?_) _
  have hA := DA.SB.row bA (by simp [bA, bB]) (by kernel_rfl) (g := gbA) rfl hS
  have hB := DA.SB.row bB (by simp [bA, bB]) (by kernel_rfl) (g := gbB) rfl hS
  have hA3 : W.heap[gbA]? = some (.cells #[.bool cc.noStore, .bool cc.noCache, .bool cc.priv, .bool cc.pub, .bool cc.must, .bool cc.only, .int .i64 cc.maxAge, .int .i64 cc.sMaxAge, .int .i64 cc.minFresh, .int .i64 cc.maxStale] 33 (0, 0)) := hA.2.2
  have hB3 : W.heap[gbB]? = some (.cells #[.bool dd.noStore, .bool dd.noCache, .bool dd.priv, .bool dd.pub, .bool dd.must, .bool dd.only, .int .i64 dd.maxAge, .int .i64 dd.sMaxAge, .int .i64 dd.minFresh, .int .i64 dd.maxStale] 33 (0, 0)) := hB.2.2
  have hbW : Below w2.heap.size w2 W := hS.1
  have hb := bnext hb0 hbW hb0.size
  replace hr1 := row_keep hr1 hbW
  replace hr2 := row_keep hr2 hbW
  replace hl2 := hl2.step hbW
  replace hl2' := hl2'.step hbW
  clear hS hA hB hCr hCs a0 a1 a2 a3 b0 b1 b2 b3 hbW hg2 hg3 hM2 hb0
  clear bA bB
  clear w2
  obtain ⟨a0, a1, a2, a3, -⟩ := row_facts4 hr1
  obtain ⟨b0, b1, b2, b3, -⟩ := row_facts4 hr2
  obtain ⟨x0, x1, x2, x3, x4, x5, x6, x7, x8, x9, -⟩ := row_facts10 hA3
  obtain ⟨y0, y1, y2, y3, y4, y5, y6, y7, y8, y9, -⟩ := row_facts10 hB3
  have HX : Hid (Ctl.explL dd l' = (decide (0 ≤ dd.sMaxAge) || (decide (0 ≤ dd.maxAge) || Ctl.toldL l' Ctl.expN))) := Lib.hid rfl
  generalize Ctl.explL dd l' = ex at *
  clear hcc hdd
  go_upto_region 2 with fail
  go_cut [7] (fun v wx => v = .bool ex ∧ Below W.heap.size W wx)
  case first =>
    by_cases h1 : 0 ≤ dd.sMaxAge
    · have HE : Hid (ex = true) := Lib.hid (by rw [HX.out]; simp [h1])
      go_wp2
      go_meet
      case rel => exact ⟨by rw [HE.out], Below.refl _ _⟩
    · by_cases h2 : 0 ≤ dd.maxAge
      · have HE : Hid (ex = true) := Lib.hid (by rw [HX.out]; simp [h2])
        go_wp2
        go_meet
        case rel => exact ⟨by rw [HE.out], Below.refl _ _⟩
      · have hT := told_any A' n' c' l' Ctl.ExpN W hl2' hn' hls' (by simp)
        have HE : Hid (Ctl.toldL l' Ctl.ExpN = ex) := Lib.hid (by rw [HX.out, Ctl.told_name (a := Ctl.ExpN) (b := Ctl.expN) (by decide)]; simp [h1, h2])
        go_wp2_with fail
        refine hT.mono ?_
        rintro e w3 ⟨rfl, hb3⟩
        go_wp2
        go_meet
        case rel => exact ⟨by rw [HE.out], hb3⟩
  case rest =>
    obtain ⟨rfl, hb3⟩ := hcut
    clear a0 a1 a2 a3 b0 b1 b2 b3 x0 x1 x2 x3 x4 x5 x6 x7 x8 x9 y0 y1 y2 y3 y4 y5 y6 y7 y8 y9
    replace hr1 := row_keep hr1 hb3
    replace hr2 := row_keep hr2 hb3
    replace hA3 := row_keep hA3 hb3
    replace hB3 := row_keep hB3 hb3
    replace hl2 := hl2.step hb3
    replace hl2' := hl2'.step hb3
    replace hb := bnext hb hb3 hb.size
    clear hb3
    obtain ⟨a0, a1, a2, a3, -⟩ := row_facts4 hr1
    obtain ⟨b0, b1, b2, b3, -⟩ := row_facts4 hr2
    obtain ⟨x0, x1, x2, x3, x4, x5, x6, x7, x8, x9, -⟩ := row_facts10 hA3
    obtain ⟨y0, y1, y2, y3, y4, y5, y6, y7, y8, y9, -⟩ := row_facts10 hB3
    cases hm : (m == [71, 69, 84]) with
    | false =>
      have HR : Hid (R = false) := Lib.hid (by rw [HV.out, hm]; simp)
      go_wp2
      go_ret
      exact ⟨ret_bool HR.out.symm, hb⟩
    | true =>
      rw [hm] at HV
      rw [Bool.true_and] at HV
      have hKp := keeps_any st ex wc
      generalize Ctl.keepL st ex = kp at *
      cases kp with
      | false =>
        have HR : Hid (R = false) := Lib.hid (by rw [HV.out]; simp)
        go_wp2_with fail
        refine hKp.mono ?_
        rintro e w9 ⟨rfl, rfl⟩
        go_wp2
        go_ret
        exact ⟨ret_bool HR.out.symm, hb⟩
      | true =>
        rw [Bool.true_and] at HV
        go_wp2_with fail
        refine hKp.mono ?_
        rintro e w9 ⟨rfl, rfl⟩
        clear hKp
        cases h1 : cc.noStore with
        | true =>
          have HR : Hid (R = false) := Lib.hid (by rw [HV.out, h1]; simp)
          go_wp2
          go_ret
          exact ⟨ret_bool HR.out.symm, hb⟩
        | false =>
          rw [h1] at HV
          rw [Bool.not_false, Bool.true_and] at HV
          cases h2 : dd.noStore with
          | true =>
            have HR : Hid (R = false) := Lib.hid (by rw [HV.out, h2]; simp)
            go_wp2
            go_ret
            exact ⟨ret_bool HR.out.symm, hb⟩
          | false =>
            rw [h2] at HV
            rw [Bool.not_false, Bool.true_and] at HV
            cases h3 : dd.priv with
            | true =>
              have HR : Hid (R = false) := Lib.hid (by rw [HV.out, h3]; simp)
              go_wp2
              go_ret
              exact ⟨ret_bool HR.out.symm, hb⟩
            | false =>
              rw [h3] at HV
              rw [Bool.not_false, Bool.true_and] at HV
              have hTA := told_any A n c l Ctl.AuthN _ hl2 hn hls (by simp)
              rw [Ctl.told_name (a := Ctl.AuthN) (b := Ctl.authN) (by decide)] at hTA
              have HP : Hid ((dd.pub || (dd.must || decide (0 ≤ dd.sMaxAge))) = (dd.pub || (dd.must || decide (0 ≤ dd.sMaxAge)))) := Lib.hid rfl
              go_upto_region 10 with fail
              go_cut [43] (fun v wx => v = .bool (Ctl.toldL l Ctl.authN && !(dd.pub || (dd.must || decide (0 ≤ dd.sMaxAge)))) ∧ Below wc.heap.size wc wx)
              case first =>
                cases ha : Ctl.toldL l Ctl.authN with
                | false =>
                  rw [ha] at hTA
                  go_wp2_with fail
                  refine hTA.mono ?_
                  rintro e w7 ⟨rfl, hb7⟩
                  go_wp2
                  go_meet
                  case rel => exact ⟨by simp [ha], hb7⟩
                | true =>
                  rw [ha] at hTA
                  go_wp2_with fail
                  refine hTA.mono ?_
                  rintro e w7 ⟨rfl, hb7⟩
                  clear a0 a1 a2 a3 b0 b1 b2 b3 x0 x1 x2 x3 x4 x5 x6 x7 x8 x9 y0 y1 y2 y3 y4 y5 y6 y7 y8 y9
                  replace hr1 := row_keep hr1 hb7
                  replace hr2 := row_keep hr2 hb7
                  replace hA3 := row_keep hA3 hb7
                  replace hB3 := row_keep hB3 hb7
                  replace hl2 := hl2.step hb7
                  replace hl2' := hl2'.step hb7
                  replace hb := bnext hb hb7 hb.size
                  have hb8 := hb7
                  clear hb7
                  obtain ⟨a0, a1, a2, a3, -⟩ := row_facts4 hr1
                  obtain ⟨b0, b1, b2, b3, -⟩ := row_facts4 hr2
                  obtain ⟨x0, x1, x2, x3, x4, x5, x6, x7, x8, x9, -⟩ := row_facts10 hA3
                  obtain ⟨y0, y1, y2, y3, y4, y5, y6, y7, y8, y9, -⟩ := row_facts10 hB3
                  cases hp : dd.pub with
                  | true =>
                    rw [hp] at y3
                    go_wp2
                    go_meet
                    case rel => exact ⟨by simp [hp, ha], hb8⟩
                  | false =>
                    rw [hp] at y3
                    cases hu : dd.must with
                    | true =>
                      rw [hu] at y4
                      go_wp2
                      go_meet
                      case rel => exact ⟨by simp [hp, hu, ha], hb8⟩
                    | false =>
                      rw [hu] at y4
                      by_cases hs : 0 ≤ dd.sMaxAge
                      · go_wp2
                        go_meet
                        case rel => exact ⟨by simp [hp, hu, ha, hs], hb8⟩
                      · go_wp2
                        go_meet
                        case rel => exact ⟨by simp [hp, hu, ha, hs], hb8⟩
              case rest =>
                obtain ⟨rfl, hb6⟩ := hcut
                clear a0 a1 a2 a3 b0 b1 b2 b3 x0 x1 x2 x3 x4 x5 x6 x7 x8 x9 y0 y1 y2 y3 y4 y5 y6 y7 y8 y9
                clear hTA
                replace hr1 := row_keep hr1 hb6
                replace hr2 := row_keep hr2 hb6
                replace hA3 := row_keep hA3 hb6
                replace hB3 := row_keep hB3 hb6
                replace hl2 := hl2.step hb6
                replace hl2' := hl2'.step hb6
                replace hb := bnext hb hb6 hb.size
                clear hb6
                obtain ⟨a0, a1, a2, a3, -⟩ := row_facts4 hr1
                obtain ⟨b0, b1, b2, b3, -⟩ := row_facts4 hr2
                obtain ⟨x0, x1, x2, x3, x4, x5, x6, x7, x8, x9, -⟩ := row_facts10 hA3
                obtain ⟨y0, y1, y2, y3, y4, y5, y6, y7, y8, y9, -⟩ := row_facts10 hB3
                generalize hau : (Ctl.toldL l Ctl.authN && !(dd.pub || (dd.must || decide (0 ≤ dd.sMaxAge)))) = au at *
                cases hau2 : au with
                | true =>
                  have HR : Hid (R = false) := Lib.hid (by rw [HV.out, hau2]; simp)
                  go_wp2
                  go_ret
                  exact ⟨ret_bool HR.out.symm, hb⟩
                | false =>
                  rw [hau2] at HV
                  rw [Bool.not_false, Bool.true_and] at HV
                  have hTR := told_any A n c l Ctl.RangeN _ hl2 hn hls (by simp)
                  rw [Ctl.told_name (a := Ctl.RangeN) (b := Ctl.rangeN) (by decide)] at hTR
                  cases hr : Ctl.toldL l Ctl.rangeN with
                  | false =>
                    rw [hr] at hTR HV
                    rw [Bool.false_and, Bool.not_false, Bool.true_and] at HV
                    go_wp2_with fail
                    refine hTR.mono ?_
                    rintro e w7 ⟨rfl, hb7⟩
                    clear a0 a1 a2 a3 b0 b1 b2 b3 x0 x1 x2 x3 x4 x5 x6 x7 x8 x9 y0 y1 y2 y3 y4 y5 y6 y7 y8 y9
                    clear hTR
                    replace hr1 := row_keep hr1 hb7
                    replace hr2 := row_keep hr2 hb7
                    replace hA3 := row_keep hA3 hb7
                    replace hB3 := row_keep hB3 hb7
                    replace hl2 := hl2.step hb7
                    replace hl2' := hl2'.step hb7
                    replace hb := bnext hb hb7 hb.size
                    clear hb7
                    obtain ⟨a0, a1, a2, a3, -⟩ := row_facts4 hr1
                    obtain ⟨b0, b1, b2, b3, -⟩ := row_facts4 hr2
                    obtain ⟨x0, x1, x2, x3, x4, x5, x6, x7, x8, x9, -⟩ := row_facts10 hA3
                    obtain ⟨y0, y1, y2, y3, y4, y5, y6, y7, y8, y9, -⟩ := row_facts10 hB3
                    have HR : Hid (R = !hasL l' Ctl.VaryN Ctl.starN) := Lib.hid (by rw [HV.out, Ctl.has_name (a := Ctl.VaryN) (b := Ctl.varyN) (by decide)])
                    clear HV
                    have hTn : (tokensL l' Ctl.VaryN).length ≤ 140737488355328 := by
                      have := tokens_len (name := Ctl.VaryN) hls'
                      rw [hl2'.1] at this
                      have h2 : n' * 1048577 ≤ 1048576 * 1048577 := Nat.mul_le_mul_right _ hn'
                      omega
                    have hTk := tokens_own A' n' c' l' Ctl.VaryN _ hl2' hn' hls' (by simp)
                    have HI : Hid (hasL l' Ctl.VaryN Ctl.starN = inL (tokensL l' Ctl.VaryN) Ctl.starN) := Lib.hid rfl
                    generalize tokensL l' Ctl.VaryN = K at *
                    go_wp2_with fail
                    refine hTk.mono ?_
                    rintro e w8 ⟨A3, n3, c3, rfl, hS3, hb8⟩
                    have hrd3 := hS3.rd
                    have hn3 : n3 ≤ 140737488355328 := by rw [← hrd3.1]; exact hTn
                    go_wp2_with fail
                    refine (contains_any A3 n3 c3 K Ctl.starN w8 hrd3 hn3).mono ?_
                    rintro e w9 ⟨rfl, rfl⟩
                    go_wp2
                    go_ret
                    exact ⟨ret_bool (by rw [HR.out, HI.out]), bnext hb hb8 hb.size⟩
                  | true =>
                    rw [hr] at hTR HV
                    rw [Bool.true_and] at HV
                    go_wp2_with fail
                    refine hTR.mono ?_
                    rintro e w7 ⟨rfl, hb7⟩
                    clear a0 a1 a2 a3 b0 b1 b2 b3 x0 x1 x2 x3 x4 x5 x6 x7 x8 x9 y0 y1 y2 y3 y4 y5 y6 y7 y8 y9
                    clear hTR
                    replace hr1 := row_keep hr1 hb7
                    replace hr2 := row_keep hr2 hb7
                    replace hA3 := row_keep hA3 hb7
                    replace hB3 := row_keep hB3 hb7
                    replace hl2 := hl2.step hb7
                    replace hl2' := hl2'.step hb7
                    replace hb := bnext hb hb7 hb.size
                    clear hb7
                    obtain ⟨a0, a1, a2, a3, -⟩ := row_facts4 hr1
                    obtain ⟨b0, b1, b2, b3, -⟩ := row_facts4 hr2
                    obtain ⟨x0, x1, x2, x3, x4, x5, x6, x7, x8, x9, -⟩ := row_facts10 hA3
                    obtain ⟨y0, y1, y2, y3, y4, y5, y6, y7, y8, y9, -⟩ := row_facts10 hB3
                    cases hq : (st.tdiv 100 == 2) with
                    | true =>
                      have HR : Hid (R = false) := Lib.hid (by rw [HV.out, hq]; simp)
                      go_wp2
                      go_ret
                      exact ⟨ret_bool HR.out.symm, hb⟩
                    | false =>
                      rw [hq] at HV
                      rw [Bool.not_false, Bool.true_and] at HV
                      have HR : Hid (R = !hasL l' Ctl.VaryN Ctl.starN) := Lib.hid (by rw [HV.out, Ctl.has_name (a := Ctl.VaryN) (b := Ctl.varyN) (by decide)])
                      clear HV
                      have hTn : (tokensL l' Ctl.VaryN).length ≤ 140737488355328 := by
                        have := tokens_len (name := Ctl.VaryN) hls'
                        rw [hl2'.1] at this
                        have h2 : n' * 1048577 ≤ 1048576 * 1048577 := Nat.mul_le_mul_right _ hn'
                        omega
                      have hTk := tokens_own A' n' c' l' Ctl.VaryN _ hl2' hn' hls' (by simp)
                      have HI : Hid (hasL l' Ctl.VaryN Ctl.starN = inL (tokensL l' Ctl.VaryN) Ctl.starN) := Lib.hid rfl
                      generalize tokensL l' Ctl.VaryN = K at *
                      go_wp2_with fail
                      refine hTk.mono ?_
                      rintro e w8 ⟨A3, n3, c3, rfl, hS3, hb8⟩
                      have hrd3 := hS3.rd
                      have hn3 : n3 ≤ 140737488355328 := by rw [← hrd3.1]; exact hTn
                      go_wp2_with fail
                      refine (contains_any A3 n3 c3 K Ctl.starN w8 hrd3 hn3).mono ?_
                      rintro e w9 ⟨rfl, rfl⟩
                      go_wp2
                      go_ret
                      exact ⟨ret_bool (by rw [HR.out, HI.out]), bnext hb hb8 hb.size⟩
end Go.Proofs.YtfhkgbimnfjfhaaDoor

