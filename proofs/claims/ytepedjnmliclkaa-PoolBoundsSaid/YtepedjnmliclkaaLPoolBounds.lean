/- PoolBounds: for every input the law answers true and leaves its arguments as they were. No conditions. -/
import Derived.Test.YtepedjnmliclkaaRows
import Derived.Test.YtepedjnmliclkaaPoolM
import Derived.StillTailTactics
import Derived.Test.YtepedjnmliclkaaOpenO
import Derived.WalkKit
import Derived.ProofKit
import Derived.OpenShut
import Derived.JoinedCond
set_option linter.unusedVariables false
set_option linter.unusedSimpArgs false
set_option maxRecDepth 100000
namespace Go.Proofs.Ytepedjnmliclkaa.poolBounds
open Go.ChangeShapes Go.WideShapes Go.ChangeAt Go.RowKit

def stepB (m e i : Int) (xs : List Cn) (o : Op4) : List Cn := if o.w = 2 then takeR (lastL (takeB i o.b o.k) xs) xs else (putL m e o.k o.a o.b xs).1
def goneB (m e i : Int) (xs : List Cn) (o : Op4) : List Int := if o.w = 2 then (match lastL (takeB i o.b o.k) xs with | some x => [x.id] | none => []) else (putL m e o.k o.a o.b xs).2
def bndL (m e i : Int) (sc : List Op4) : List Cn := sc.foldl (stepB m e i) []
theorem takeR_ok {r : Option Cn} {xs : List Cn} (h : IdsOK xs) : IdsOK (takeR r xs) ∧ (takeR r xs).length ≤ xs.length := by
  unfold takeR
  split
  · exact ⟨h.drop _, dropL_len _ _⟩
  · exact ⟨h, Nat.le_refl _⟩
theorem putL_most {m e : Int} (hm : 0 ≤ m) {o : List UInt8} {id now : Int} {xs : List Cn} (h : (xs.length : Int) ≤ m) : ((putL m e o id now xs).1.length : Int) ≤ m := by
  have h1 := put1_len o id now xs
  have h2 := (put2_len e o (put1 o id now xs)).1
  unfold putL
  generalize put2 e o (put1 o id now xs) = r at *
  unfold put3
  split
  · rename_i hlt
    split
    · rename_i a t he
      rw [he] at h2
      simp at h2 ⊢
      omega
    · rename_i he
      rw [he]; simpa using hm
  · omega
theorem putL_gone {m e : Int} {o : List UInt8} {id now : Int} {xs : List Cn} (hx : IdsOK xs) : ∀ x ∈ (putL m e o id now xs).1, x.id ∉ (putL m e o id now xs).2 := by
  have h1 := hx.put1 o id now
  unfold putL
  generalize put1 o id now xs = x1 at *
  have h2 := h1.put2 e o
  have hg : ∀ x ∈ (put2 e o x1).1, x.id ∉ (put2 e o x1).2 := by
    intro x hm
    unfold put2 at hm ⊢
    split
    · rename_i hc
      rw [if_pos hc] at hm
      split at hm
      · rename_i f hf
        simpa using (mem_dropL hm).2
      · simp
    · simp
  generalize put2 e o x1 = r at *
  intro x hm
  unfold put3 at hm ⊢
  split
  · rename_i hc
    rw [if_pos hc] at hm
    split at hm
    · rename_i a t he
      dsimp only
      rw [he] at hg h2
      have hne : x.id ≠ a.id := by
        unfold IdsOK at h2
        simp only [List.map_cons, List.nodup_cons] at h2
        intro heq
        exact h2.1 (List.mem_map.2 ⟨x, hm, heq⟩)
      have := hg x (List.mem_cons_of_mem _ hm)
      simp [this, hne]
    · rename_i he
      rw [he] at hm
      simp at hm
  · rename_i hc
    rw [if_neg hc] at hm
    exact hg x hm
theorem bnd_snoc {m e i : Int} {sc : List Op4} {k : Nat} {x : Op4} (h : sc[k]? = some x) : bndL m e i (sc.take (k + 1)) = stepB m e i (bndL m e i (sc.take k)) x := by
  unfold bndL
  rw [take_snoc? h, List.foldl_append]; rfl
theorem stepB_ok {m e i : Int} (hm : 0 ≤ m) {xs : List Cn} {o : Op4} (h : IdsOK xs) (h2 : (xs.length : Int) ≤ m) : IdsOK (stepB m e i xs o) ∧ (stepB m e i xs o).length ≤ xs.length + 1 ∧ ((stepB m e i xs o).length : Int) ≤ m := by
  unfold stepB
  split
  · have := takeR_ok (r := lastL (takeB i o.b o.k) xs) h
    exact ⟨this.1, by omega, by omega⟩
  · exact ⟨h.putL .., (putL_len ..).1, putL_most hm h2⟩
theorem bnd_ok {m e i : Int} (hm : 0 ≤ m) (sc : List Op4) (k : Nat) : IdsOK (bndL m e i (sc.take k)) ∧ (bndL m e i (sc.take k)).length ≤ k ∧ ((bndL m e i (sc.take k)).length : Int) ≤ m := by
  induction k with
  | zero => simp [bndL, IdsOK]; exact hm
  | succ k ih =>
    by_cases hk : k < sc.length
    · rw [bnd_snoc (List.getElem?_eq_getElem hk)]
      have := stepB_ok hm (e := e) (i := i) (o := sc[k]) ih.1 ih.2.2
      exact ⟨this.1, by omega, this.2.2⟩
    · rw [List.take_of_length_le (by omega)] at ih ⊢
      exact ⟨ih.1, by omega, ih.2.2⟩
theorem goneB_ok {m e i : Int} {xs : List Cn} {o : Op4} (h : IdsOK xs) : (∀ x ∈ stepB m e i xs o, x.id ∉ goneB m e i xs o) ∧ (goneB m e i xs o).length ≤ 2 := by
  unfold stepB goneB
  split
  · split
    · rename_i x hx
      rw [hx]
      refine ⟨fun y hy => ?_, by simp⟩
      unfold takeR at hy
      simpa using (mem_dropL hy).2
    · simp
  · exact ⟨putL_gone h, (putL_len ..).2⟩
set_option maxRecDepth 100000 in
set_option maxHeartbeats 2000000 in
theorem walk (w : World) (most : Int) (hm1 : -9223372036854775808 ≤ most) (hm2 : most ≤ 9223372036854775807) (each : Int) (he1 : -9223372036854775808 ≤ each) (he2 : each ≤ 9223372036854775807) (idle : Int) (hi1 : -9223372036854775808 ≤ idle) (hi2 : idle ≤ 9223372036854775807)
    (A : Option Addr) (n c : Nat) (l : List Op4) (hA : RdO w A n l) (hnc : n ≤ c) (hcm : c ≤ 9223372036854775807) :
    Calls Try.prog 10 #[.int .i64 most, .int .i64 each, .int .i64 idle, .slice A n c] w fun e w' => e = .returned (.bool true) ∧ Below w.heap.size w w' := by
  have hmp : 0 ≤ upL most := by unfold upL; split <;> omega
  have hep : 0 ≤ upL each := by unfold upL; split <;> omega
  go_enter Try.func10, Try.ntmps10
  go_wp2_with fail
  refine (alive_any w).mono ?_
  rintro e w1 ⟨rfl, hb1⟩
  have hl1 := hA.step hb1
  go_wp2_with fail
  refine (poolNew_any most each idle w1).mono ?_
  rintro e w2 ⟨pb, rfl, hp2, hb2⟩
  have hl2 := hl1.step hb2
  have hbA := bnext hb1 hb2 hb1.size
  go_wp2_with fail
  refine (cutP_any A n c l w2 hl2 hnc hcm).mono ?_
  rintro e w3 ⟨m, rfl, hm3, hmc, hl3, rfl⟩
  have hsc := cut_back hA hl3
  generalize l.take 300 = sc at *
  have hlen := hsc.1
  clear hl1 hl2 hA hl3
  go_wp2
  go_loopw [10] (fun t wr => ∃ k : Nat, k ≤ m ∧ t = .int .i64 k ∧ PoolX wr w1.heap.size pb (upL most) (upL each) (upL idle) (bndL (upL most) (upL each) (upL idle) (sc.take k)) ∧ Below w1.heap.size w1 wr) (fun t _ => m - (intOf t).toNat)
  case atStart => exact ⟨0, by omega, rfl, hp2, hb2⟩
  case round =>
    clear hp2 hb2 hbA
    obtain ⟨k, hk, rfl, hpx, hbr⟩ := hrel
    obtain ⟨wo, rfl⟩ : ∃ wo, wo = wr := ⟨_, rfl⟩
    have hbw := bnext hb1 hbr hb1.size
    have hsr := hsc.step hbw
    by_cases hlt : k < m
    · obtain ⟨g, o, x, rfl, hg, HX, c0, c1, c2, c3⟩ := hsr.at_ hlt
      have k0 : (0 : Int) ≤ (k : Int) := by omega
      have k1 : (k : Int) < (m : Int) := by omega
      have hko := bnd_ok (e := upL each) (i := upL idle) hmp sc k
      have HS := Lib.hid (bnd_snoc (m := upL most) (e := upL each) (i := upL idle) HX.out)
      generalize bndL (upL most) (upL each) (upL idle) (sc.take k) = xs at *
      have hxs := stepB_ok hmp (e := upL each) (i := upL idle) (o := x) hko.1 hko.2.2
      have hgo := goneB_ok (m := upL most) (e := upL each) (i := upL idle) (o := x) hko.1
      have HGB : Hid (goneB (upL most) (upL each) (upL idle) xs x = if x.w = 2 then (match lastL (takeB (upL idle) x.b x.k) xs with | some x => [x.id] | none => []) else (putL (upL most) (upL each) x.k x.a x.b xs).2) := Lib.hid rfl
      have HSB : Hid (stepB (upL most) (upL each) (upL idle) xs x = if x.w = 2 then takeR (lastL (takeB (upL idle) x.b x.k) xs) xs else (putL (upL most) (upL each) x.k x.a x.b xs).1) := Lib.hid rfl
      generalize stepB (upL most) (upL each) (upL idle) xs x = ys at *
      generalize goneB (upL most) (upL each) (upL idle) xs x = gl at *
      have hal := alloc_below wo (.cells #[.int .i64 x.w, .string (bs x.k), .int .i64 x.a, .int .i64 x.b] 71)
      have hro := heap_alloc_new wo (.cells #[.int .i64 x.w, .string (bs x.k), .int .i64 x.a, .int .i64 x.b] 71)
      have hal2 := alloc_below (wo.alloc (.cells #[.int .i64 x.w, .string (bs x.k), .int .i64 x.a, .int .i64 x.b] 71)) (.cells #[] 3)
      have hbX := bnext hal hal2 hal.size
      have hpx2 := hpx.step hbX
      have hB2 := hbr.trans (hbX.mono hbr.size)
      have HOwn : Hid (OwnI ((wo.alloc (.cells #[.int .i64 x.w, .string (bs x.k), .int .i64 x.a, .int .i64 x.b] 71)).alloc (.cells #[] 3)) (wo.heap.size + 1) (.slice (some ⟨wo.heap.size + 1, 0, none⟩) 0 0) []) := Lib.hid (by
        have h := OwnI.made (wo.alloc (.cells #[.int .i64 x.w, .string (bs x.k), .int .i64 x.a, .int .i64 x.b] 71))
        rw [show (wo.alloc (.cells #[.int .i64 x.w, .string (bs x.k), .int .i64 x.a, .int .i64 x.b] 71)).heap.size = wo.heap.size + 1 by simp] at h
        exact h)
      have hsz2 : wo.heap.size + 1 ≤ ((wo.alloc (.cells #[.int .i64 x.w, .string (bs x.k), .int .i64 x.a, .int .i64 x.b] 71)).alloc (.cells #[] 3)).heap.size := by simp
      have hszo := hbr.size
      have hrX := row_keep hro hal2
      have hO0 : ((wo.alloc (.cells #[.int .i64 x.w, .string (bs x.k), .int .i64 x.a, .int .i64 x.b] 71)).alloc (.cells #[] 3)).cell? ⟨wo.heap.size, 0, none⟩ = some (.int .i64 x.w) := by rw [cell_of_row _ _ _ _ _ _ hrX]; rfl
      have hO1 : ((wo.alloc (.cells #[.int .i64 x.w, .string (bs x.k), .int .i64 x.a, .int .i64 x.b] 71)).alloc (.cells #[] 3)).cell? ⟨wo.heap.size, 1, none⟩ = some (.string (bs x.k)) := by rw [cell_of_row _ _ _ _ _ _ hrX]; rfl
      have hO2 : ((wo.alloc (.cells #[.int .i64 x.w, .string (bs x.k), .int .i64 x.a, .int .i64 x.b] 71)).alloc (.cells #[] 3)).cell? ⟨wo.heap.size, 2, none⟩ = some (.int .i64 x.a) := by rw [cell_of_row _ _ _ _ _ _ hrX]; rfl
      have hO3 : ((wo.alloc (.cells #[.int .i64 x.w, .string (bs x.k), .int .i64 x.a, .int .i64 x.b] 71)).alloc (.cells #[] 3)).cell? ⟨wo.heap.size, 3, none⟩ = some (.int .i64 x.b) := by rw [cell_of_row _ _ _ _ _ _ hrX]; rfl
      clear hal hal2 hro hrX hbX hpx hbr hbw hsr
      go_upto_if 40 with fail
      generalize (wo.alloc (.cells #[.int .i64 x.w, .string (bs x.k), .int .i64 x.a, .int .i64 x.b] 71)).alloc (.cells #[] 3) = wx at *
      have HPX2 := Lib.hid hpx2
      have HB2 := Lib.hid hB2
      clear hpx2 hB2
      go_cut [12] (fun v wc => ∃ (A5 : Option Addr) (n5 c5 : Nat), v = .slice A5 n5 c5 ∧ OwnI wc (wo.heap.size + 1) (.slice A5 n5 c5) gl ∧ PoolX wc w1.heap.size pb (upL most) (upL each) (upL idle) ys ∧ Below w1.heap.size w1 wc)
      case first =>
        by_cases hw2 : x.w = 2
        · have hT := take_any w1.heap.size pb (upL most) (upL each) (upL idle) xs x.k x.b wx HPX2.out hko.1 (by omega)
          have hwb : (x.w == 2) = true := by simp [hw2]
          rw [if_pos hw2] at HGB HSB
          clear hw2
          generalize lastL (takeB (upL idle) x.b x.k) xs = R at *
          go_wp2_with fail
          refine hT.mono ?_
          rintro e w4 ⟨rfl, hp4, ht4⟩
          have HB4 := Lib.hid (HB2.out.trans ht4.below)
          have hsz4 := ht4.below.size
          have hO4 := HOwn.out.turnP ht4
          unfold takeV
          cases R with
          | none =>
            clear hT
            go_wp2
            go_meet
            case rel => exact ⟨_, 0, 0, rfl, by rw [HGB.out]; exact hO4, by rw [HSB.out]; exact hp4, HB4.out⟩
          | some y =>
            have HP4 := Lib.hid hp4
            clear hT hp4
            dsimp only
            go_wp2_with
              (at_builtin
               refine wp_appI rfl (.tmp 51) (.tmp 53) rfl (wo.heap.size + 1) (.slice (some ⟨wo.heap.size + 1, 0, none⟩) 0 0) [] rfl (hO4.step (alloc_below _ _)) (some ⟨w4.heap.size, 0, none⟩) 1 1 [y.id] rfl ?hr ?hby ?hbase ?_
               case hr => exact one_rdI _ _ _
               case hby => simp
               case hbase => simp; omega
               intro A9 n9 c9 w9 hown9 hb9 hg9 hn9)
            have hx9 : Below (wo.heap.size + 1) w4 w9 := ((alloc_below w4 (.cells #[.int .i64 y.id] 3)).mono (by omega)).trans hb9
            have hP9 : PoolX w9 w1.heap.size pb (upL most) (upL each) (upL idle) (takeR (some y) xs) := (HP4.out.step (alloc_below w4 (.cells #[.int .i64 y.id] 3))).app (hO4.step (alloc_below w4 (.cells #[.int .i64 y.id] 3))) hg9
            go_meet
            case rel => exact ⟨A9, n9, c9, rfl, by rw [HGB.out]; exact hown9, by rw [HSB.out]; exact hP9, HB4.out.trans (hx9.mono (by omega))⟩
        · have hP := put_any w1.heap.size pb (upL most) (upL each) (upL idle) xs x.k x.a x.b wx HPX2.out hko.1 (by omega) hmp hep
          have hwb : (x.w == 2) = false := by simp [hw2]
          rw [if_neg hw2] at HGB HSB
          clear hw2
          go_wp2_with fail
          refine hP.mono ?_
          rintro e w4 ⟨A4, n4, c4, rfl, ho4, hp4, ht4⟩
          go_wp2
          go_meet
          case rel => exact ⟨A4, n4, c4, rfl, by rw [HGB.out]; exact ho4.mono hsz2, by rw [HSB.out]; exact hp4, HB2.out.trans ht4.below⟩
      case rest =>
        obtain ⟨A5, n5, c5, rfl, ho5, hp5, hb5⟩ := hcut
        clear c0 c1 c2 c3 hO0 hO1 hO2 hO3
        have hrd5 := ho5.rd
        have hn5 : n5 ≤ 2 := by have h1 := hrd5.1; have h2 := hgo.2; omega
        go_wp2_with fail
        refine (ids_any w1.heap.size pb (upL most) (upL each) (upL idle) ys wc hp5 (by omega)).mono ?_
        rintro e w6 ⟨A6, n6, c6, rfl, ho6, hp6, hb6⟩
        have hn6 : n6 = ys.length := by have := ho6.rd.1; simpa using this.symm
        subst hn6
        have hr5 := hrd5.step hb6
        have hr6 := ho6.rd
        have HB6 := Lib.hid (hb5.trans (hb6.mono hb5.size))
        have HP6 := Lib.hid hp6
        have HU : Hid (upL most = if most < 0 then 0 else most) := Lib.hid rfl
        have hlen3 : ¬ ((0 : Int) < (ys.length : Int) ∧ most < (ys.length : Int)) := by
          have h1 := HU.out
          have h2 := hxs.2.2
          split at h1 <;> omega
        have hyl : ys.length ≤ 1000 := by omega
        have HND : Hid (∀ (a b : Nat) (u v : Int), b < a → (ys.map (·.id))[a]? = some u → (ys.map (·.id))[b]? = some v → (u == v) = false) := Lib.hid fun a b u v hab hu hv => by
          have h1 := hxs.1
          unfold IdsOK at h1
          have h2 := List.pairwise_iff_getElem.1 h1
          obtain ⟨ha, rfl⟩ := List.getElem?_eq_some_iff.1 hu
          obtain ⟨hb, rfl⟩ := List.getElem?_eq_some_iff.1 hv
          rw [beq_eq_false_iff_ne]
          exact (h2 b a hb ha hab).symm
        have HNG : Hid (∀ (a b : Nat) (u v : Int), (ys.map (·.id))[a]? = some u → gl[b]? = some v → (u == v) = false) := Lib.hid fun a b u v hu hv => by
          rw [beq_eq_false_iff_ne]
          rintro rfl
          obtain ⟨y, hy, rfl⟩ := List.mem_map.1 (mem_of_get? hu)
          exact hgo.1 y hy (mem_of_get? hv)
        generalize ys.map (·.id) = ids at *
        have hcs : (ys.length = 0) ∨ (0 < (ys.length : Int) ∧ (ys.length : Int) ≤ most) := by omega
        clear ho5 hp5 ho6 hp6 hrd5 hb6 hb5 hlen3 hgo hxs hsc
        generalize ys.length = L at *
        have hL0 : RdI w6 A6 L ids := hr6
        have hbw6 := bnext hb1 HB6.out hb1.size
        go_upto_region 16 with fail
        go_cut [73] (fun v wx => v = .bool false ∧ wx = w6)
        case first =>
          rcases hcs with rfl | ⟨h0, h1⟩
          · go_wp2_with fail
            go_meet
            case rel => exact ⟨rfl, rfl⟩
          · have h2 : ¬ most < (L : Int) := by omega
            go_wp2_with fail
            go_meet
            case rel => exact ⟨rfl, rfl⟩
        case rest =>
          obtain ⟨rfl, rfl⟩ := hcut
          clear hcs
          go_wp2
          go_loopw [16] (fun t wr => ∃ a : Nat, a ≤ L ∧ t = .int .i64 (a : Int) ∧ Below wc.heap.size wc wr) (fun t _ => L - (intOf t).toNat)
          case atStart => exact ⟨0, by omega, rfl, Below.refl _ _⟩
          case round =>
            obtain ⟨a, ha, rfl, hba⟩ := hrel
            obtain ⟨wa, rfl⟩ : ∃ wa, wa = wr := ⟨_, rfl⟩
            by_cases hla : a < L
            · obtain ⟨g1, o1, u, rfl, hg1, HU1, hc1⟩ := (hL0.step hba).at_ hla
              have a0 : (0 : Int) ≤ (a : Int) := by omega
              have a1 : (a : Int) < (L : Int) := by omega
              go_wp2
              go_loopw [17] (fun t wr => ∃ b : Nat, b ≤ a ∧ t = .int .i64 (b : Int) ∧ Below wa.heap.size wa wr) (fun t _ => a - (intOf t).toNat)
              case atStart => exact ⟨0, by omega, rfl, Below.refl _ _⟩
              case round =>
                obtain ⟨b, hb, rfl, hbb⟩ := hrel
                obtain ⟨wb, rfl⟩ : ∃ wb, wb = wr := ⟨_, rfl⟩
                have hbab := bnext hba hbb hba.size
                have hc1b := (hbb.cell (p := ⟨g1, o1 + a, none⟩) hg1).trans hc1
                by_cases hlb : b < a
                · obtain ⟨g2, o2, v, e2, hg2, HV2, hc2⟩ := (hL0.step hbab).at_ (k := b) (by omega)
                  cases e2
                  have b0 : (0 : Int) ≤ (b : Int) := by omega
                  have b1 : (b : Int) < (L : Int) := by omega
                  have hne := HND.out a b u v hlb HU1.out HV2.out
                  go_wp2
                  go_quiet (fail)
                  go_wp2
                  go_roundw
                  case rel => exact ⟨b + 1, by omega, by go_num, below_drewN hbb _⟩
                  case measure => simp [intOf]; omega
                · obtain rfl : b = a := by omega
                  go_wp2
                  go_loopw [18] (fun t wr => ∃ d : Nat, d ≤ n5 ∧ t = .int .i64 (d : Int) ∧ Below wb.heap.size wb wr) (fun t _ => n5 - (intOf t).toNat)
                  case atStart => exact ⟨0, by omega, rfl, Below.refl _ _⟩
                  case round =>
                    obtain ⟨d, hd, rfl, hbd⟩ := hrel
                    have hc1d := (hbd.cell (p := ⟨g1, o1 + b, none⟩) (Nat.lt_of_lt_of_le hg1 hbb.size)).trans hc1b
                    by_cases hld : d < n5
                    · obtain ⟨g2, o2, v, rfl, hg2, HV2, hc2⟩ := ((hr5.step hbab).step hbd).at_ hld
                      have d0 : (0 : Int) ≤ (d : Int) := by omega
                      have d1 : (d : Int) < (n5 : Int) := by omega
                      have hne := HNG.out b d u v HU1.out HV2.out
                      go_wp2
                      go_quiet (fail)
                      go_wp2
                      go_roundw
                      case rel => exact ⟨d + 1, by omega, by go_num, below_drewN hbd _⟩
                      case measure => simp [intOf]; omega
                    · obtain rfl : d = n5 := by omega
                      go_wp2
                      go_roundw
                      case rel => exact ⟨b + 1, by omega, by go_num, bnext hbab hbd hbab.size⟩
                      case measure => simp [intOf]; omega
            · obtain rfl : a = L := by omega
              go_wp2
              go_roundw
              case rel => exact ⟨k + 1, by omega, by go_num, by rw [HS.out]; exact HP6.out.step hba, HB6.out.trans (hba.mono HB6.out.size)⟩
              case measure => simp [intOf]; omega
    · go_wp2
      go_ret
      exact ⟨rfl, hbw⟩

theorem own : ownKnob Try.prog.godebug = none := by kernel_rfl
theorem contract (H : Type) (enc : TypeId × Value → H) (W : World) (base : Nat) (args : Array Value) (ds gs : List (DataW H)) (before : List MemPlace)
    (hval : ∀ (j : Nat) t v, Try.f10.params[j]? = some t → args[j]? = some v → Value.okWide Try.prog W .any base t v)
    (hW : DataW.Whole enc Try.prog Try.f10.params.toList Rows.poolBoundsSpec.vars false W args.toList ds gs before) (hsz : (DataW.weightsEach Try.prog (Try.f10.params.toList ++ Rows.poolBoundsSpec.plain.varTypes Try.prog) (ds ++ gs)).all (· ≤ reachBytes) = true) :
    Calls Try.prog 10 args W fun e W' => ∃ v, e = .returned v ∧ Rows.poolBoundsSpec.post enc Try.prog Try.f10 false true false false W args v W' := by
  have hW' := hW
  obtain ⟨p, q, hA0, hV, rfl, hfz, hnd⟩ := hW
  have hA : DataW.TrodAll enc Try.prog W 0 (fun _ => true) true Try.f10.params.toList args.toList ds p := hA0
  rw [Try.params10] at hA hval hsz
  obtain ⟨v0, vs0, d0, ds0, p0, q0, hargs, rfl, rfl, h0, r0⟩ := trodAll_cons hA
  obtain ⟨v1, vs1, d1, ds1, p1, q1, rfl, rfl, rfl, h1, r1⟩ := trodAll_cons r0
  obtain ⟨v2, vs2, d2, ds2, p2, q2, rfl, rfl, rfl, h2, r2⟩ := trodAll_cons r1
  obtain ⟨v3, vs3, d3, ds3, p3, q3, rfl, rfl, rfl, h3, r3⟩ := trodAll_cons r2
  obtain ⟨rfl, rfl, rfl⟩ := trodAll_nil r3
  obtain rfl : args = #[v0, v1, v2, v3] := by cases args; simp_all
  obtain ⟨rfl, rfl⟩ := trodVars_none hV
  obtain ⟨i0, rfl, hi0, hj0⟩ := opI (hval 0 3 v0 rfl rfl) h0
  obtain ⟨i1, rfl, hi1, hj1⟩ := opI (hval 1 3 v1 rfl rfl) h1
  obtain ⟨i2, rfl, hi2, hj2⟩ := opI (hval 2 3 v2 rfl rfl) h2
  obtain ⟨A3, n3, c3, l3, rfl, hr3, hc3, hd3⟩ := opOp23 (hval 3 64 v3 rfl rfl) h3
  clear hA0
  refine (walk W i0 hi0 hj0 i1 hi1 hj1 i2 hi2 hj2 A3 n3 c3 l3 hr3 hc3 hd3).mono fun e W' ⟨he, hg⟩ => ?_
  subst he
  exact ⟨_, rfl, post_of_below (pa := p0 ++ (p1 ++ (p2 ++ (p3 ++ ([]))))) (pv := []) hW' (fun _ _ _ => (trodAll_cons_mk (shut_bool Try.underlying4 _) trodAll_mk0)) (fun sp hsp => (trodAll_cons_mk (arg_stays laidOut (by kernel_rfl) (of_decide_eq_true (by kernel_rfl)) h0 hg (fun x hx => hW'.lt x (by simp [hx])) sp (fun x hx => hsp x (by simp [hx]))) (trodAll_cons_mk (arg_stays laidOut (by kernel_rfl) (of_decide_eq_true (by kernel_rfl)) h1 hg (fun x hx => hW'.lt x (by simp [hx])) sp (fun x hx => hsp x (by simp [hx]))) (trodAll_cons_mk (arg_stays laidOut (by kernel_rfl) (of_decide_eq_true (by kernel_rfl)) h2 hg (fun x hx => hW'.lt x (by simp [hx])) sp (fun x hx => hsp x (by simp [hx]))) (trodAll_cons_mk (arg_stays laidOut (by kernel_rfl) (of_decide_eq_true (by kernel_rfl)) h3 hg (fun x hx => hW'.lt x (by simp [hx])) sp (fun x hx => hsp x (by simp [hx]))) trodAll_mk0))))) (fun _ _ => rfl) rfl
    hg (ok_one (by kernel_rfl) rfl (okWide_bool_mk Try.underlying4 _))⟩

set_option maxRecDepth 100000 in
theorem lifted (os : Os) (started : os.Started) (H : Type) (enc : TypeId × Value → H) :
    ReturnsInHanded {} Try.checked os 10 .any (Rows.poolBoundsSpec.pre6 enc Try.prog Try.f10 Rows.poolBoundsRow.domain false) (Rows.poolBoundsSpec.post enc Try.prog Try.f10 false true false false) := by
  refine returnsInHanded_of_change_sized (C := Try.checked) own started (by kernel_rfl) Try.func10
    (ChangeSpec.witness6 (enc := enc) (C := Try.checked) false ⟨#[], #[.int .i64 0, .int .i64 0, .int .i64 0, .slice none 0 0], []⟩ 8 (by kernel_rfl) (by kernel_rfl) (by kernel_rfl) (by kernel_rfl)) ?_
  intro W base args ds gs before hval hW _ hsz _
  exact contract H enc W base args ds gs before hval hW hsz

theorem over : Rows.poolBoundsRow.holds Try.pinned (OpenSpec.ofChange Rows.poolBoundsSpec) :=
  OpenClaim.holds_of_wide 10 Try.f10 rfl rfl rfl rfl rfl rfl rfl ⟨rfl, rfl, rfl, rfl, rfl⟩ rfl rfl rfl rfl rfl (by kernel_rfl) Try.func10 (by kernel_rfl)
    (of_decide_eq_true (by kernel_rfl)) (by unfold Func.isWrapper; first | (rw [if_pos (by decide +kernel)]; kernel_rfl) | (rw [if_neg (by decide +kernel)]; exact ⟨rfl, rfl⟩))
    (fun os started H enc _ => lifted os started H enc)

theorem proved : Rows.PoolBoundsSaid :=
  over
end Go.Proofs.Ytepedjnmliclkaa.poolBounds
