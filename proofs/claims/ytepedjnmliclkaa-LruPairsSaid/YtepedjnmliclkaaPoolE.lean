/- The pool: Expire, Ids. Conditions: at most 10^6 connections. -/
import Derived.Test.YtepedjnmliclkaaPoolD
set_option linter.unusedVariables false
set_option linter.unusedSimpArgs false
namespace Go.Proofs.Ytepedjnmliclkaa
open Go.RowKit

theorem Turn.app {B C : Nat} {T1 T2 : TypeId} {a w w' : World} (h : Turn B T1 T2 a w) (hb : Below C w w') (hC : a.heap.size ≤ C) (hB : B ≤ C) : Turn B T1 T2 a w' := by
  refine ⟨h.below.trans (hb.mono hB), fun b cs t z hh h1 h2 => ?_⟩
  have e := h.rows b cs t z hh h1 h2
  have hlt : b < a.heap.size := (Array.getElem?_eq_some_iff.1 hh).1
  rw [hb.block b (by omega), e]
theorem PoolX.app {w w' : World} {B pb : Nat} {most each idle : Int} {xs : List Cn} (h : PoolX w B pb most each idle xs) {C : Nat} {v : Value} {l : List Int} (ho : OwnI w C v l) (hg : w.grownBy w' v.ownBlock) : PoolX w' B pb most each idle xs := by
  obtain ⟨G, h1, h2⟩ := h
  exact ⟨G, h1, h2.ring.grown ho hg (by decide) (by decide), h2.base⟩
theorem first_filter {p : Cn → Bool} : ∀ {xs : List Cn} {k : Nat} {x : Cn}, xs[k]? = some x → p x = true → (∀ (i : Nat) (y : Cn), i < k → xs[i]? = some y → p y = false) → xs.filter p = x :: (xs.eraseIdx k).filter p ∧ xs.filter (fun y => !p y) = (xs.eraseIdx k).filter (fun y => !p y)
  | [], k, x, h, _, _ => by simp at h
  | y :: r, 0, x, h, hp, _ => by
    simp at h
    subst h
    simp [hp]
  | y :: r, k + 1, x, h, hp, hb => by
    have hy := hb 0 y (by omega) rfl
    obtain ⟨h1, h2⟩ := first_filter (xs := r) (k := k) (by simpa using h) hp (fun i z hi hz => hb (i + 1) z (by omega) (by simpa using hz))
    simp [hy, h1, h2]
theorem IdsOK.erase {xs : List Cn} (h : IdsOK xs) (k : Nat) : IdsOK (xs.eraseIdx k) := by
  unfold IdsOK at *
  have : (xs.eraseIdx k).map (·.id) = (xs.map (·.id)).eraseIdx k := by
    clear h
    induction xs generalizing k with
    | nil => simp
    | cons x r ih => cases k with
      | zero => simp
      | succ k => simp [ih]
  rw [this]
  exact h.eraseIdx k
theorem found_bef {G : List (Nat × Cn)} {p : Cn → Bool} {k : Nat} (h : ∀ (i : Nat) (y : Nat × Cn), (if false then k < i else i < k) → G[i]? = some y → p y.2 = false) : ∀ (i : Nat) (y : Cn), i < k → (G.map (·.2))[i]? = some y → p y = false := by
  intro i y hi hy
  rw [List.getElem?_map] at hy
  obtain ⟨z, hz, rfl⟩ := Option.map_eq_some_iff.1 hy
  exact h i z (by simpa using hi) hz
def oldX (idle now : Int) (x : Cn) : Bool := oldB idle now x.wh
set_option maxHeartbeats 2000000 in
theorem expire_any (B pb : Nat) (most each idle : Int) (xs : List Cn) (now : Int) (w : World) (hp : PoolX w B pb most each idle xs) (hl : xs.length ≤ 1000000) :
    Calls Try.prog 52 #[.pointer (some ⟨pb, 0, none⟩), .int .i64 now] w fun e w' => ∃ A n c, e = .returned (.slice A n c) ∧ OwnI w' w.heap.size (.slice A n c) ((xs.filter (oldX idle now)).map (·.id)) ∧ PoolX w' B pb most each idle (xs.filter fun x => !oldX idle now x) ∧ Turn B 115 117 w w' := by
  have hBw := hp.lt
  have hal1 := alloc_below w (.cells #[.pointer (some ⟨pb, 0, none⟩)] 65)
  have hr1 := heap_alloc_new w (.cells #[.pointer (some ⟨pb, 0, none⟩)] 65)
  have hal2 := alloc_below (w.alloc (.cells #[.pointer (some ⟨pb, 0, none⟩)] 65)) (.cells #[.int .i64 now] 3)
  have hr2 := heap_alloc_new (w.alloc (.cells #[.pointer (some ⟨pb, 0, none⟩)] 65)) (.cells #[.int .i64 now] 3)
  rw [show (w.alloc (.cells #[.pointer (some ⟨pb, 0, none⟩)] 65)).heap.size = w.heap.size + 1 by simp] at hr2
  have hb2 := bnext hal1 hal2 hal1.size
  have hr1b := row_keep hr1 hal2
  have hp1 := hp.step hb2
  have hT1 := Turn.of_below (T1 := 115) (T2 := 117) hb2 hBw
  have hsz : w.heap.size + 2 ≤ ((w.alloc (.cells #[.pointer (some ⟨pb, 0, none⟩)] 65)).alloc (.cells #[.int .i64 now] 3)).heap.size := by simp
  clear hal1 hal2 hr1 hb2 hp
  go_enter Try.func52, Try.ntmps52
  go_wp2
  go_loopg [5] xs.length (fun r gone wr => ∃ (dn rest : List Cn) (A : Option Addr) (n c : Nat), gone = .slice A n c ∧ Hid (xs.filter (oldX idle now) = dn ++ rest.filter (oldX idle now) ∧ xs.filter (fun x => !oldX idle now x) = rest.filter (fun x => !oldX idle now x) ∧ rest.length = r ∧ rest.length + dn.length = xs.length) ∧
      OwnI wr (w.heap.size + 2) (.slice A n c) (dn.map (·.id)) ∧ PoolX wr B pb most each idle rest ∧ Turn B 115 117 w wr ∧ wr.heap[w.heap.size]? = some (.cells #[.pointer (some ⟨pb, 0, none⟩)] 65 (0, 0)) ∧ wr.heap[w.heap.size + 1]? = some (.cells #[.int .i64 now] 3 (0, 0)) ∧ w.heap.size + 2 ≤ wr.heap.size)
  case atStart => exact ⟨[], xs, none, 0, 0, rfl, Lib.hid ⟨by simp, rfl, rfl, by simp⟩, OwnI.nil _ _, hp1, hT1, hr1b, hr2, hsz⟩
  case round =>
    clear hp1 hT1 hr1b hr2 hsz
    obtain ⟨dn, rest, A, n, c, rfl, HF, hown, hpr, hT, hr1, hr2, hsz⟩ := hrel
    obtain ⟨G, rfl, hpw⟩ := hpr
    have c1 := (row1 hr1).1
    have c2 := (row1 hr2).1
    have hF := findFwd B pb most each idle G 75 #[.pointer (some ⟨w.heap.size, 0, none⟩), .pointer (some ⟨w.heap.size + 1, 0, none⟩)] (oldX idle now) wr hpw (fun _ _ => by kernel_rfl) (fun n k x hx => by
      obtain ⟨_, _, h2, _⟩ := (hpw.drewN n).node hx
      refine (oldQ_any pb w.heap.size (w.heap.size + 1) x.1 idle now x.2.wh _ h2 (hpw.drewN n).cells.2.2.1 c1 c2).mono ?_
      rintro e w' ⟨he, m, hm⟩
      exact ⟨he, n + m, by rw [hm, World.drewN_drewN]⟩)
    have HP := Lib.hid hpw
    have HT := Lib.hid hT
    have HO := Lib.hid hown
    have HR1 := Lib.hid hr1
    have HR2 := Lib.hid hr2
    have hlG : G.length ≤ 1000000 := by have := HF.out.2.2.2; simp at this; omega
    have hdn : dn.length ≤ 1000000 := by have := HF.out.2.2.2; omega
    clear hpw hT hown hr1 hr2
    go_wp2_with fail
    refine hF.mono ?_
    rintro e w1 ⟨hfound, m, rfl⟩
    rcases hfound with ⟨k, x, hx, hpx, hbef, rfl⟩ | ⟨hall, rfl⟩
    · have HX := Lib.hid hx
      have HFF := Lib.hid (first_filter (map_get2 hx) hpx (found_bef hbef))
      clear hx hpx hbef hF
      have hR := remove_any B pb most each idle G k x _ (HP.out.drewN m) HX.out hlG
      go_wp2_with fail
      refine hR.mono ?_
      rintro e w2 ⟨rfl, hp2, ht2⟩
      have hT2 := (HT.out.drewN m).trans ht2
      have hO2 : OwnI w2 (w.heap.size + 2) (.slice A n c) (dn.map (·.id)) := OwnI.turnP (w := wr.drewN m) HO.out ht2
      have hq1 : w2.heap[w.heap.size]? = some (.cells #[.pointer (some ⟨pb, 0, none⟩)] 65 (0, 0)) := row_turn ht2 (w := wr.drewN m) HR1.out (by decide) (by decide)
      have hq2 : w2.heap[w.heap.size + 1]? = some (.cells #[.int .i64 now] 3 (0, 0)) := row_turn ht2 (w := wr.drewN m) HR2.out (by decide) (by decide)
      have hsz2 : w.heap.size + 2 ≤ w2.heap.size := Nat.le_trans hsz ht2.below.size
      have hPX : PoolX w2 B pb most each idle ((G.map (·.2)).eraseIdx k) := ⟨_, map_erase2 G k, hp2⟩
      have HH2 : Hid (PoolX w2 B pb most each idle ((G.map (·.2)).eraseIdx k) ∧ Turn B 115 117 w w2 ∧ w2.heap[w.heap.size]? = some (.cells #[.pointer (some ⟨pb, 0, none⟩)] 65 (0, 0)) ∧ w2.heap[w.heap.size + 1]? = some (.cells #[.int .i64 now] 3 (0, 0))) := Lib.hid ⟨hPX, hT2, hq1, hq2⟩
      clear hR hp2 ht2 hT2 hq1 hq2 hPX
      go_wp2_with
        (at_builtin
         refine wp_appI rfl (.tmp 13) (.tmp 17) rfl (w.heap.size + 2) (.slice A n c) (dn.map (·.id)) rfl (hO2.step (alloc_below _ _)) (some ⟨w2.heap.size, 0, none⟩) 1 1 [x.2.id] rfl ?hr ?hby ?hbase ?_
         case hr => exact one_rdI _ _ _
         case hby => simp; omega
         case hbase => simp; omega
         intro A5 n5 c5 w5 hown5 hb5 hg5 hn5)
      have hk : k < G.length := (List.getElem?_eq_some_iff.1 HX.out).1
      obtain ⟨e1, e2, e3, e4⟩ := HF.out
      obtain ⟨f1, f2⟩ := HFF.out
      have hlen : ((G.map (·.2)).eraseIdx k).length = G.length - 1 := by rw [List.length_eraseIdx]; simp [hk]
      have e3' : G.length = gk := by simpa using e3
      have e4' : G.length + dn.length = xs.length := by simpa using e4
      have HREL : Hid (xs.filter (oldX idle now) = (dn ++ [x.2]) ++ ((G.map (·.2)).eraseIdx k).filter (oldX idle now) ∧ xs.filter (fun x => !oldX idle now x) = ((G.map (·.2)).eraseIdx k).filter (fun x => !oldX idle now x) ∧ ((G.map (·.2)).eraseIdx k).length = G.length - 1 ∧ ((G.map (·.2)).eraseIdx k).length + (dn ++ [x.2]).length = xs.length) := Lib.hid ⟨by rw [e1, f1]; simp, by rw [e2, f2], hlen, by rw [hlen]; simp; omega⟩
      clear e1 e2 e3 e4 f1 f2 hlen
      obtain ⟨g1, g2, g3, g4⟩ := HH2.out
      have hG1 : PoolX w5 B pb most each idle ((G.map (·.2)).eraseIdx k) := (g1.step (alloc_below _ (.cells #[.int .i64 x.2.id] 3))).app (hO2.step (alloc_below _ (.cells #[.int .i64 x.2.id] 3))) hg5
      have hbx : Below (w.heap.size + 2) w2 w5 := ((alloc_below w2 (.cells #[.int .i64 x.2.id] 3)).mono hsz2).trans hb5
      have hG2 : Turn B 115 117 w w5 := g2.app hbx (by omega) (by omega)
      have hG3 : w5.heap[w.heap.size]? = some (.cells #[.pointer (some ⟨pb, 0, none⟩)] 65 (0, 0)) := (hbx.block _ (by omega)).trans g3
      have hG4 : w5.heap[w.heap.size + 1]? = some (.cells #[.int .i64 now] 3 (0, 0)) := (hbx.block _ (by omega)).trans g4
      have hG5 : w.heap.size + 2 ≤ w5.heap.size := Nat.le_trans hsz2 hbx.size
      have hG6 : OwnI w5 (w.heap.size + 2) (.slice A5 n5 c5) ((dn ++ [x.2]).map (·.id)) := by rw [List.map_append]; exact hown5
      clear g1 g2 g3 g4 HH2 hbx
      go_roundg (G.length - 1)
      case measure => omega
      case rel => exact ⟨dn ++ [x.2], (G.map (·.2)).eraseIdx k, A5, n5, c5, rfl, HREL, hG6, hG1, hG2, hG3, hG4, hG5⟩
    · have HA := Lib.hid (found_mem (p := oldX idle now) hall)
      clear hall hF
      obtain ⟨e1, e2, e3, e4⟩ := HF.out
      have h1 : (G.map (·.2)).filter (oldX idle now) = [] := by
        rw [List.filter_eq_nil_iff]
        intro y hy
        rw [HA.out y hy]; simp
      have h2 : (G.map (·.2)).filter (fun x => !oldX idle now x) = G.map (·.2) := by
        rw [List.filter_eq_self]
        intro y hy
        rw [HA.out y hy]; rfl
      rw [h1, List.append_nil] at e1
      rw [h2] at e2
      have E1 := Lib.hid e1
      have E2 := Lib.hid e2
      clear e1 e2 e3 e4 h1 h2
      go_wp2
      go_ret
      refine ⟨A, n, c, rfl, ?_, ?_, HT.out.drewN m⟩
      · rw [E1.out]
        exact OwnI.mono (w := wr.drewN m) HO.out (by omega)
      · rw [E2.out]
        exact ⟨G, rfl, HP.out.drewN m⟩
set_option maxRecDepth 100000 in
set_option maxHeartbeats 2000000 in
theorem ids_any (B pb : Nat) (most each idle : Int) (xs : List Cn) (w : World) (hp : PoolX w B pb most each idle xs) (hl : xs.length ≤ 1000000) :
    Calls Try.prog 55 #[.pointer (some ⟨pb, 0, none⟩)] w fun e w' => ∃ A n c, e = .returned (.slice A n c) ∧ OwnI w' w.heap.size (.slice A n c) (xs.map (·.id)) ∧ PoolX w' B pb most each idle xs ∧ Below w.heap.size w w' := by
  obtain ⟨G, rfl, hpw⟩ := hp
  have hlG : G.length ≤ 1000000 := by simpa using hl
  have HA := Lib.hid (plc_fwd pb G)
  have HE : Hid ((G.map (·.2)).map (·.id) = (G.take G.length).map fun x => x.2.id) := Lib.hid (by rw [List.take_length, List.map_map]; rfl)
  have hh := hpw.ring.head
  have c8 : w.cell? ⟨pb, 8, none⟩ = some (.pointer (some (adr ⟨pb, 4, none⟩ (nds G) 1))) := by
    rw [cell_of_row _ _ _ _ _ _ hh]; rfl
  clear hl hh
  go_enter Try.func55, Try.ntmps55
  go_wp2
  go_loopg [3, 4] G.length (fun r out cur wr => ∃ (j : Nat) (A : Option Addr) (n c : Nat), j ≤ G.length ∧ r + j = G.length ∧ out = .slice A n c ∧ cur = .pointer (some (adr ⟨pb, 4, none⟩ (nds G) (j + 1))) ∧ OwnI wr w.heap.size (.slice A n c) ((G.take j).map fun x => x.2.id) ∧ PoolW wr B pb most each idle G ∧ Below w.heap.size w wr)
  case atStart => exact ⟨0, none, 0, 0, by omega, by omega, rfl, rfl, OwnI.nil _ _, hpw, Below.refl _ _⟩
  case round =>
    clear hpw c8
    obtain ⟨j, A, n, c, hj, hr, rfl, rfl, hown, hpw, hbr⟩ := hrel
    by_cases hlt : j < G.length
    · have hx := List.getElem?_eq_getElem hlt
      have hne : G[j].1 ≠ pb := hpw.ring.nin _ (mem_get (nds_get hx))
      have hq := neq_conn_other wr (a := ⟨G[j].1, 0, none⟩) (b := ⟨pb, 4, none⟩) (fun h => hne (by injection h)) (hpw.ring.blk j _ (nds_get hx)) hpw.ring.head
      rw [adr_node (nds_get hx)]
      obtain ⟨n0, n1, n2, n3, n4⟩ := hpw.node hx
      have hS := take_snoc? hx
      generalize G[j] = x at *
      obtain ⟨g, x⟩ := x
      have HS := Lib.hid hS
      have HX := Lib.hid hx
      have HP := Lib.hid hpw
      have HB := Lib.hid hbr
      dsimp only at *
      clear hS hx hpw n0 n2 n3 hbr
      go_wp2_with
        (at_builtin
         refine wp_appI rfl (.tmp 19) (.tmp 24) rfl w.heap.size (.slice A n c) ((G.take j).map fun x => x.2.id) rfl (hown.step (alloc_below _ _)) (some ⟨wr.heap.size, 0, none⟩) 1 1 [x.id] rfl ?hr ?hby ?hbase ?_
         case hr => exact one_rdI _ _ _
         case hby => simp; omega
         case hbase => have := HB.out.size; simp; omega
         intro A5 n5 c5 w5 hown5 hb5 hg5 hn5
         have hP5 : PoolW w5 B pb most each idle G := ⟨(HP.out.ring.step (alloc_below wr (.cells #[.int .i64 x.id] 3))).grown (hown.step (alloc_below wr (.cells #[.int .i64 x.id] 3))) hg5 (by decide) (by decide), HP.out.base⟩
         have HP5 := Lib.hid hP5
         have m4 := (hP5.node HX.out).2.2.2.2
         dsimp only at m4
         clear hP5)
      have hG6 : OwnI w5 w.heap.size (.slice A5 n5 c5) ((G.take (j + 1)).map fun x => x.2.id) := by rw [HS.out, List.map_append]; exact hown5
      have hbx : Below w.heap.size wr w5 := ((alloc_below wr (.cells #[.int .i64 x.id] 3)).mono HB.out.size).trans hb5
      clear hown hown5 hb5 hg5
      go_roundg (G.length - (j + 1))
      case measure => omega
      case rel => exact ⟨j + 1, A5, n5, c5, by omega, by omega, rfl, rfl, hG6, HP5.out, HB.out.trans hbx⟩
    · obtain rfl : j = G.length := by omega
      rw [adr_end (by rw [nds_len]; omega)]
      have hq := neq_conn_same wr ⟨pb, 4, none⟩
      go_wp2
      go_ret
      exact ⟨A, n, c, rfl, by rw [HE.out]; exact hown, ⟨G, rfl, hpw⟩, hbr⟩
end Go.Proofs.Ytepedjnmliclkaa
