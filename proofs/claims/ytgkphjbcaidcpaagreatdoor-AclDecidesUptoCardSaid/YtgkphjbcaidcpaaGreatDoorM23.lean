/- Joined texts: The reference's line: what an element is. The conditions stand in each line. -/
import Derived.Test.YtgkphjbcaidcpaaGreatDoorM22
import Derived.Deep.QuietTactic
import Derived.BigQuiet
set_option linter.unusedVariables false
set_option linter.unusedSimpArgs false
namespace Go.Proofs.YtgkphjbcaidcpaaGreatDoor
open Go.RowKit

set_option maxRecDepth 100000
theorem own_blk {w W : World} {base : Nat} {e : TypeId} {size n : Nat} {v : Value} {xs : List Value} (h : w.ownsRow base e size v n xs) (hb : ∀ g, v.ownBlock = some g → W.heap[g]? = w.heap[g]?) : W.ownsRow base e size v n xs := by
  refine ⟨h.1, ?_⟩
  rcases h.2 with h1 | ⟨g, cap, cur, rfl, hbb, hgg, rest⟩
  · exact .inl h1
  · exact .inr ⟨g, cap, cur, rfl, hbb, (hb g rfl).trans hgg, rest⟩
theorem RdE.setJ {w : World} {g n : Nat} {l : List PEl} (h : RdE w (some ⟨g, 0, none⟩) n l) {b : Nat} (hne : g ≠ b) (o : Nat) (u : Value) : RdE (w.setCell ⟨b, o, none⟩ u) (some ⟨g, 0, none⟩) n l :=
  ⟨h.1, h.2.same (by simp [World.setCell]) (fun g' o' e => by
    injection e with e
    injection e with e1 e2
    subst e1
    exact Below.heap_setCell _ _ _ _ hne)⟩
theorem own_form {w : World} {B n c : Nat} {A : Option Addr} {l : List PEl} (h : OwnE w B (.slice A n c) l) (hl : 0 < l.length) : ∃ g, A = some ⟨g, 0, none⟩ ∧ B ≤ g ∧ g < w.heap.size ∧ ∃ cur, w.heap[g]? = some (.cells cur 75 (0, 0)) := by
  rcases h.2 with ⟨h1, h2⟩ | ⟨g, cap, cur, h1, h2, h3, _⟩
  · omega
  · injection h1 with h1
    subst h1
    exact ⟨g, rfl, h2, (Array.getElem?_eq_some_iff.1 h3).1, cur, h3⟩
set_option maxHeartbeats 8000000 in
theorem rline_short (B : Nat) (E : Option Addr) (en ec : Nat) (R : Option Addr) (rn rc : Nat) (L : Ac.LS) (no : Nat) (h : List UInt8) (r : List (List UInt8)) (g' o' m mc : Nat) (w : World) (hW : RdS w (some ⟨g', o', none⟩) (m + 1) (h :: r)) (hm : m < 3) (hh : h = Ac.aclT) :
    Calls Tryz.prog 22 #[rlV E en ec R rn rc, .slice (some ⟨g', o', none⟩) (m + 1) (mc + 1), .int .i64 (no : Int)] w fun x w' => LnOut B w (Ac.define L r) x w' := by
  have hal0 := alloc_below w (.cells #[.slice E en ec, .slice R rn rc] 31)
  have hr0 := heap_alloc_new w (.cells #[.slice E en ec, .slice R rn rc] 31)
  have hal1 := alloc_below (w.alloc (.cells #[.slice E en ec, .slice R rn rc] 31)) (.cells #[.slice none 0 0, .slice none 0 0] 31)
  have hrz := heap_alloc_new (w.alloc (.cells #[.slice E en ec, .slice R rn rc] 31)) (.cells #[.slice none 0 0, .slice none 0 0] 31)
  have hrl := (hal1.block w.heap.size (by simp)).trans hr0
  have hal := bnext hal0 hal1 hal0.size
  rw [show (w.alloc (.cells #[.slice E en ec, .slice R rn rc] 31)).heap.size = w.heap.size + 1 by simp] at hrz
  obtain ⟨g9, o9, hA9, hg', hc'⟩ := hW.2.2 (by omega)
  injection hA9 with hA9
  injection hA9 with hA9 hA8
  subst hA9 hA8
  have hcw : w.cell? ⟨g', o', none⟩ = some (.string (bs h)) := hc' 0 _ rfl
  have d0 := (hal.cell (p := ⟨g', o', none⟩) hg').trans hcw
  have q1 : (h == [97, 108, 108, 111, 119]) = false := by rw [hh]; rfl
  have q2 : (h == [100, 101, 110, 121]) = false := by rw [hh]; rfl
  have q3 : (h == [97, 99, 108]) = true := by rw [hh]; rfl
  have q3b : (h != [97, 99, 108]) = false := by rw [bne, q3]; rfl
  rw [Ac.define_short (by have := hW.1; simp at this; omega)]
  have hm4 : (m : Int) + 1 < 4 := by omega
  unfold rlV
  clear hW hc' hcw hh
  go_enter Tryz.func22, Tryz.ntmps22
  go_upto_region 1 with fail
  generalize (w.alloc (.cells #[.slice E en ec, .slice R rn rc] 31)).alloc (.cells #[.slice none 0 0, .slice none 0 0] 31) = w2 at *
  obtain ⟨c0, c1⟩ := row_facts2w hrl
  obtain ⟨z0, z1⟩ := row_facts2w hrz
  obtain ⟨f0, f1⟩ := row_frz2 hrz
  go_wp2
  refine bodyPost_ret (v := .tuple #[.agg #[.slice E en ec, .slice R rn rc], .bool false]) (by simp [results, Tryz.results22, go_sem, z0, z1, c0, c1]) rfl ?_
  exact LnOut.no rfl (below_two hal (by omega) _ _)
set_option maxHeartbeats 8000000 in
theorem rline_tok (B : Nat) (E : Option Addr) (en ec : Nat) (R : Option Addr) (rn rc : Nat) (L : Ac.LS) (no : Nat) (h nm kd v : List UInt8) (vs : List (List UInt8)) (g' o' n c : Nat) (w : World) (hW : RdS w (some ⟨g', o', none⟩) (n + 3) (h :: nm :: kd :: v :: vs)) (hwd : ∀ s ∈ nm :: kd :: v :: vs, 1 ≤ s.length ∧ s.length ≤ 4194304)
    (hn : 1 ≤ n ∧ n + 3 ≤ 4194304) (hc : n ≤ c ∧ c + 3 ≤ maxLen) (hh : h = Ac.aclT) (ht : Ac.tok nm = false) :
    Calls Tryz.prog 22 #[rlV E en ec R rn rc, .slice (some ⟨g', o', none⟩) (n + 3) (c + 3), .int .i64 (no : Int)] w fun x w' => LnOut B w (Ac.define L (nm :: kd :: v :: vs)) x w' := by
  have hal0 := alloc_below w (.cells #[.slice E en ec, .slice R rn rc] 31)
  have hr0 := heap_alloc_new w (.cells #[.slice E en ec, .slice R rn rc] 31)
  have hal1 := alloc_below (w.alloc (.cells #[.slice E en ec, .slice R rn rc] 31)) (.cells #[.slice none 0 0, .slice none 0 0] 31)
  have hrz := heap_alloc_new (w.alloc (.cells #[.slice E en ec, .slice R rn rc] 31)) (.cells #[.slice none 0 0, .slice none 0 0] 31)
  have hrl := (hal1.block w.heap.size (by simp)).trans hr0
  have hal := bnext hal0 hal1 hal0.size
  rw [show (w.alloc (.cells #[.slice E en ec, .slice R rn rc] 31)).heap.size = w.heap.size + 1 by simp] at hrz
  obtain ⟨g9, o9, hA9, hg', hc'⟩ := hW.2.2 (by omega)
  injection hA9 with hA9
  injection hA9 with hA9 hA8
  subst hA9 hA8
  have hcw : w.cell? ⟨g', o', none⟩ = some (.string (bs h)) := hc' 0 _ rfl
  have d0 := (hal.cell (p := ⟨g', o', none⟩) hg').trans hcw
  have q1 : (h == [97, 108, 108, 111, 119]) = false := by rw [hh]; rfl
  have q2 : (h == [100, 101, 110, 121]) = false := by rw [hh]; rfl
  have q3 : (h == [97, 99, 108]) = true := by rw [hh]; rfl
  have q3b : (h != [97, 99, 108]) = false := by rw [bne, q3]; rfl
  have hcn : w.cell? ⟨g', o' + 1, none⟩ = some (.string (bs nm)) := hc' 1 _ rfl
  have hck : w.cell? ⟨g', o' + 2, none⟩ = some (.string (bs kd)) := hc' 2 _ rfl
  have d1 := (hal.cell (p := ⟨g', o' + 1, none⟩) hg').trans hcn
  have d2 := (hal.cell (p := ⟨g', o' + 2, none⟩) hg').trans hck
  have hlnm := (hwd nm (by simp)).2
  have TK := Lib.hid fun W => tokenR_any nm W (by omega)
  have hn4 : ¬ ((n : Int) + 3 < 4) := by omega
  have hn21 : (2 : Int) < (n : Int) + 3 := by omega
  have hn11 : (1 : Int) < (n : Int) + 3 := by omega
  have hn31 : (3 : Int) ≤ (n : Int) + 3 := by omega
  rw [Ac.define_tok ht]
  rw [ht] at TK
  unfold rlV
  clear hW hc' hcw hh hwd hcn hck
  go_enter Tryz.func22, Tryz.ntmps22
  go_upto_region 1 with fail
  generalize (w.alloc (.cells #[.slice E en ec, .slice R rn rc] 31)).alloc (.cells #[.slice none 0 0, .slice none 0 0] 31) = w2 at *
  obtain ⟨c0, c1⟩ := row_facts2w hrl
  obtain ⟨z0, z1⟩ := row_facts2w hrz
  obtain ⟨f0, f1⟩ := row_frz2 hrz
  go_wp2_with fail
  refine (TK.out _).mono ?_
  rintro x w3 ⟨rfl, rfl⟩
  go_wp2
  refine bodyPost_ret (v := .tuple #[.agg #[.slice E en ec, .slice R rn rc], .bool false]) (by simp [results, Tryz.results22, go_sem, z0, z1, c0, c1]) rfl ?_
  exact LnOut.no rfl (below_two hal (by omega) _ _)
set_option maxHeartbeats 8000000 in
theorem rline_def (B : Nat) (E : Option Addr) (en ec : Nat) (R : Option Addr) (rn rc : Nat) (L : Ac.LS) (no : Nat) (h nm kd v : List UInt8) (vs : List (List UInt8)) (g' o' n c : Nat) (w : World) (hW : RdS w (some ⟨g', o', none⟩) (n + 3) (h :: nm :: kd :: v :: vs)) (hwd : ∀ s ∈ nm :: kd :: v :: vs, 1 ≤ s.length ∧ s.length ≤ 4194304)
    (hn : 1 ≤ n ∧ n + 3 ≤ 4194304) (hc : n ≤ c ∧ c + 3 ≤ maxLen) (hh : h = Ac.aclT) (ht : Ac.tok nm = true) (hL : RLB B w E en R rn L) (hBw : B ≤ w.heap.size) (hBg : B ≤ g') (hcap : ∀ e ∈ L.els, e.vs.length + n ≤ 4194304) (hel : L.els.length + 1 ≤ 4194304) :
    Calls Tryz.prog 22 #[rlV E en ec R rn rc, .slice (some ⟨g', o', none⟩) (n + 3) (c + 3), .int .i64 (no : Int)] w fun x w' => LnOut B w (Ac.define L (nm :: kd :: v :: vs)) x w' := by
  have hal0 := alloc_below w (.cells #[.slice E en ec, .slice R rn rc] 31)
  have hr0 := heap_alloc_new w (.cells #[.slice E en ec, .slice R rn rc] 31)
  have hal1 := alloc_below (w.alloc (.cells #[.slice E en ec, .slice R rn rc] 31)) (.cells #[.slice none 0 0, .slice none 0 0] 31)
  have hrz := heap_alloc_new (w.alloc (.cells #[.slice E en ec, .slice R rn rc] 31)) (.cells #[.slice none 0 0, .slice none 0 0] 31)
  have hrl := (hal1.block w.heap.size (by simp)).trans hr0
  have hal := bnext hal0 hal1 hal0.size
  rw [show (w.alloc (.cells #[.slice E en ec, .slice R rn rc] 31)).heap.size = w.heap.size + 1 by simp] at hrz
  obtain ⟨g9, o9, hA9, hg', hc'⟩ := hW.2.2 (by omega)
  injection hA9 with hA9
  injection hA9 with hA9 hA8
  subst hA9 hA8
  have hcw : w.cell? ⟨g', o', none⟩ = some (.string (bs h)) := hc' 0 _ rfl
  have d0 := (hal.cell (p := ⟨g', o', none⟩) hg').trans hcw
  have q1 : (h == [97, 108, 108, 111, 119]) = false := by rw [hh]; rfl
  have q2 : (h == [100, 101, 110, 121]) = false := by rw [hh]; rfl
  have q3 : (h == [97, 99, 108]) = true := by rw [hh]; rfl
  have q3b : (h != [97, 99, 108]) = false := by rw [bne, q3]; rfl
  have hcn : w.cell? ⟨g', o' + 1, none⟩ = some (.string (bs nm)) := hc' 1 _ rfl
  have hck : w.cell? ⟨g', o' + 2, none⟩ = some (.string (bs kd)) := hc' 2 _ rfl
  have d1 := (hal.cell (p := ⟨g', o' + 1, none⟩) hg').trans hcn
  have d2 := (hal.cell (p := ⟨g', o' + 2, none⟩) hg').trans hck
  have hlnm := (hwd nm (by simp)).2
  have TK := Lib.hid fun W => tokenR_any nm W (by omega)
  have hn4 : ¬ ((n : Int) + 3 < 4) := by omega
  have hn21 : (2 : Int) < (n : Int) + 3 := by omega
  have hn11 : (1 : Int) < (n : Int) + 3 := by omega
  have hn31 : (3 : Int) ≤ (n : Int) + 3 := by omega
  rw [ht] at TK
  have hvl : (v :: vs).length = n := by have := hW.1; simp at this ⊢; omega
  have HWD : Hid (∀ s ∈ v :: vs, 1 ≤ s.length ∧ s.length ≤ 4194304) := Lib.hid fun s hs => hwd s (List.mem_cons_of_mem _ (List.mem_cons_of_mem _ hs))
  have HBD : Hid (∀ j s, (v :: vs)[j]? = some s → Ac.good kd s = false → Ac.define L (nm :: kd :: v :: vs) = none) := Lib.hid fun j s h1 h2 => Ac.define_all (all_noX _ h1 h2)
  have HNW : Hid (Ac.atI L.els nm = none → (v :: vs).all (Ac.good kd) = true → Ac.define L (nm :: kd :: v :: vs) = some ⟨L.els ++ [⟨nm, kd, v :: vs⟩], L.rus⟩) := Lib.hid fun h1 h2 => Ac.define_new ht h1 h2
  have HKD : Hid (∀ i e, Ac.atI L.els nm = some i → L.els[i]? = some e → e.kd ≠ kd → Ac.define L (nm :: kd :: v :: vs) = none) := Lib.hid fun i e h1 h2 h3 => Ac.define_kd h1 h2 h3
  have HOL : Hid (∀ i e, Ac.atI L.els nm = some i → L.els[i]? = some e → e.kd = kd → (v :: vs).all (Ac.good kd) = true → Ac.define L (nm :: kd :: v :: vs) = some ⟨L.els.set i ⟨e.nm, e.kd, e.vs ++ (v :: vs)⟩, L.rus⟩) := Lib.hid fun i e h1 h2 h3 h4 => Ac.define_old ht h1 h2 h3 h4
  have hns : RdS w (some ⟨g', o' + 3, none⟩) n (v :: vs) := rdS_tail (rdS_tail (rdS_tail hW))
  generalize Ac.define L (nm :: kd :: v :: vs) = RES at *
  generalize v :: vs = V at *
  have HL2 := Lib.hid (hL.r.step hal)
  have hV2 := hns.step hal
  have HNS := Lib.hid hns
  have HAL : Hid (Below w.heap.size w ((w.alloc (.cells #[.slice E en ec, .slice R rn rc] 31)).alloc (.cells #[.slice none 0 0, .slice none 0 0] 31))) := Lib.hid hal
  have HLL := Lib.hid hL
  unfold rlV
  clear hW hwd hc' hcw hh hL hcn hck ht hns
  go_enter Tryz.func22, Tryz.ntmps22
  go_upto_region 1 with fail
  generalize (w.alloc (.cells #[.slice E en ec, .slice R rn rc] 31)).alloc (.cells #[.slice none 0 0, .slice none 0 0] 31) = w2 at *
  obtain ⟨c0, c1⟩ := row_facts2w hrl
  obtain ⟨z0, z1⟩ := row_facts2w hrz
  obtain ⟨f0, f1⟩ := row_frz2 hrz
  have hgl : w.heap.size < w2.heap.size := (Array.getElem?_eq_some_iff.1 hrl).1
  have hgz : w.heap.size + 1 < w2.heap.size := (Array.getElem?_eq_some_iff.1 hrz).1
  have hgw : g' < w2.heap.size := by omega
  have HRL : Hid (∀ W, Below w2.heap.size w2 W → W.heap[w.heap.size]? = some (.cells #[.slice E en ec, .slice R rn rc] 31 (0, 0))) := Lib.hid fun W hW => (hW.block _ hgl).trans hrl
  have HRZ : Hid (∀ W, Below w2.heap.size w2 W → W.heap[w.heap.size + 1]? = some (.cells #[.slice none 0 0, .slice none 0 0] 31 (0, 0))) := Lib.hid fun W hW => (hW.block _ hgz).trans hrz
  have HDN : Hid (∀ W, Below w2.heap.size w2 W → W.cell? ⟨g', o' + 1, none⟩ = some (.string (bs nm)) ∧ W.cell? ⟨g', o' + 2, none⟩ = some (.string (bs kd))) := Lib.hid fun W hW => ⟨(hW.cell (p := ⟨_, _, none⟩) hgw).trans d1, (hW.cell (p := ⟨_, _, none⟩) hgw).trans d2⟩
  clear hrl hrz hal hal0 hal1 hr0
  go_wp2_with fail
  refine (TK.out _).mono ?_
  rintro x w3 ⟨rfl, hw3⟩
  subst hw3
  go_wp2
  go_loopw [10] (fun t wr => ∃ j : Nat, j ≤ n ∧ t = .int .i64 ((j : Int) + 3) ∧ Hid ((V.take j).all (Ac.good kd) = true) ∧ Below w2.heap.size w2 wr) (fun t _ => n + 3 - (intOf t).toNat)
  case atStart => exact ⟨0, by omega, rfl, Lib.hid rfl, Below.refl _ _⟩
  case round =>
    obtain ⟨j, hj, rfl, HA, hbr⟩ := hrel
    clear c0 c1 z0 z1 f0 f1 d0 d1 d2 TK
    have HBJ : Hid (∀ W, Below wr.heap.size wr W → Below w2.heap.size w2 W) := Lib.hid fun W hW => bnext hbr hW hbr.size
    by_cases hlt : j < n
    · obtain ⟨g9, o9, s, hA9, hg9, HX, hcs⟩ := (hV2.step hbr).at_ hlt
      injection hA9 with hA9
      injection hA9 with hA9 hA8
      subst hA9 hA8
      rw [Nat.add_assoc, Nat.add_comm 3 j] at hcs
      have hj3 : ((j : Int) + 3).toNat = j + 3 := by omega
      have hsl := (HWD.out s (mem_of_get? HX.out)).2
      have HGO := Lib.hid fun W => rgood_any kd s W hsl
      have HCS : Hid (∀ W, Below wr.heap.size wr W → W.cell? ⟨g', o' + (j + 3), none⟩ = some (.string (bs s))) := Lib.hid fun W hW => (hW.cell (p := ⟨_, _, none⟩) hg9).trans hcs
      clear hcs hg9
      cases hgd : Ac.good kd s with
      | false =>
        rw [hgd] at HGO
        have HR := Lib.hid (HBD.out j s HX.out hgd)
        clear hgd HBD HNW HKD HOL HA HX
        go_upto_region 16 with fail
        refine wp_region_detN (n := 9) (S := fun L W => Below wr.heap.size wr W) (by kernel_rfl) rfl (below_drewN (Below.refl _ _) 1) ?_
        refine' DetS.takeL (i := 0) (v := _) rfl (by kernel_rfl) (by kernel_rfl) (by kernel_rfl) (YS.pure rfl ?sd16_0 ?rd16_0) ?nd16_0
        case rd16_0 => intro L W hS;  go_simp; first | rfl | (rw [if_neg (by omega)] <;> rfl) | (rw [if_neg (by simp; omega)] <;> rfl) | (rw [if_neg (by simp)] <;> rfl)
        case sd16_0 => exact fun L W _ h => h
        simp only [Act.put, List.setIfInBounds_toArray, List.set_cons_zero, List.set_cons_succ]
        refine' DetS.takeL (i := 1) (v := _) rfl (by kernel_rfl) (by kernel_rfl) (by kernel_rfl) (YS.pure rfl ?sd16_1 ?rd16_1) ?nd16_1
        case rd16_1 => intro L W hS;  go_simp; first | rfl | (rw [if_neg (by omega)] <;> rfl) | (rw [if_neg (by simp; omega)] <;> rfl) | (rw [if_neg (by simp)] <;> rfl)
        case sd16_1 => exact fun L W _ h => h
        simp only [Act.put, List.setIfInBounds_toArray, List.set_cons_zero, List.set_cons_succ]
        refine' DetS.takeL (i := 2) (v := _) rfl (by kernel_rfl) (by kernel_rfl) (by kernel_rfl) (YS.pure rfl ?sd16_2 ?rd16_2) ?nd16_2
        case rd16_2 => intro L W hS; obtain ⟨k0, k1⟩ := HDN.out W (HBJ.out W hS); go_simp; first | rfl | skip
        case sd16_2 => exact fun L W _ h => h
        simp only [Act.put, List.setIfInBounds_toArray, List.set_cons_zero, List.set_cons_succ]
        refine' DetS.takeL (i := 3) (v := _) rfl (by kernel_rfl) (by kernel_rfl) (by kernel_rfl) (YS.pure rfl ?sd16_3 ?rd16_3) ?nd16_3
        case rd16_3 => intro L W hS;  go_simp; first | rfl | (rw [if_neg (by omega)] <;> rfl) | (rw [if_neg (by simp; omega)] <;> rfl) | (rw [if_neg (by simp)] <;> rfl)
        case sd16_3 => exact fun L W _ h => h
        simp only [Act.put, List.setIfInBounds_toArray, List.set_cons_zero, List.set_cons_succ]
        refine' DetS.takeL (i := 4) (v := _) rfl (by kernel_rfl) (by kernel_rfl) (by kernel_rfl) (YS.pure rfl ?sd16_4 ?rd16_4) ?nd16_4
        case rd16_4 => intro L W hS;  go_simp; first | rfl | (rw [if_neg (by omega)] <;> rfl) | (rw [if_neg (by simp; omega)] <;> rfl) | (rw [if_neg (by simp)] <;> rfl)
        case sd16_4 => exact fun L W _ h => h
        simp only [Act.put, List.setIfInBounds_toArray, List.set_cons_zero, List.set_cons_succ]
        refine' DetS.takeL (i := 5) (v := _) rfl (by kernel_rfl) (by kernel_rfl) (by kernel_rfl) (YS.pure rfl ?sd16_5 ?rd16_5) ?nd16_5
        case rd16_5 => intro L W hS;  go_simp; first | rfl | (rw [if_neg (by omega)] <;> rfl) | (rw [if_neg (by simp; omega)] <;> rfl) | (rw [if_neg (by simp)] <;> rfl)
        case sd16_5 => exact fun L W _ h => h
        simp only [Act.put, List.setIfInBounds_toArray, List.set_cons_zero, List.set_cons_succ]
        refine' DetS.takeL (i := 6) (v := _) rfl (by kernel_rfl) (by kernel_rfl) (by kernel_rfl) (YS.pure rfl ?sd16_6 ?rd16_6) ?nd16_6
        case rd16_6 => intro L W hS; have k0 := HCS.out W hS; go_simp; first | rfl | skip
        case sd16_6 => exact fun L W _ h => h
        simp only [Act.put, List.setIfInBounds_toArray, List.set_cons_zero, List.set_cons_succ]
        refine' DetS.takeL (i := 7) (v := _) rfl (by kernel_rfl) (by kernel_rfl) (by kernel_rfl) (YS.call (f := _) (args := _) rfl ?rd16_7 ?cd16_7) ?nd16_7
        case rd16_7 => intro W; go_simp; constructor <;> rfl
        case cd16_7 =>
          intro L W hL hS
          refine (HGO.out W).mono ?_
          rintro x w9 ⟨rfl, hb9⟩
          exact ⟨rfl, bnext hS hb9 hS.size⟩
        simp only [Act.put, List.setIfInBounds_toArray, List.set_cons_zero, List.set_cons_succ]
        refine' DetS.takeL (i := 8) (v := _) rfl (by kernel_rfl) (by kernel_rfl) (by kernel_rfl) (YS.pure rfl ?sd16_8 ?rd16_8) ?nd16_8
        case rd16_8 => intro L W hS;  go_simp; first | rfl | (rw [if_neg (by omega)] <;> rfl) | (rw [if_neg (by simp; omega)] <;> rfl) | (rw [if_neg (by simp)] <;> rfl)
        case sd16_8 => exact fun L W _ h => h
        simp only [Act.put, List.setIfInBounds_toArray, List.set_cons_zero, List.set_cons_succ]
        refine DetS.done (by kernel_rfl) (fun W hS => ?_) _
        have hSW := HBJ.out _ hS
        obtain ⟨c0, c1⟩ := row_facts2w (HRL.out _ hSW)
        obtain ⟨z0, z1⟩ := row_facts2w (HRZ.out _ hSW)
        obtain ⟨f0, f1⟩ := row_frz2 (HRZ.out _ hSW)
        have HFB := Lib.hid (below_two (bnext HAL.out hSW HAL.out.size) (b := w.heap.size + 1) (by omega) (.slice E en ec) (.slice R rn rc))
        go_wp2
        refine bodyPost_ret (v := .tuple #[.agg #[.slice E en ec, .slice R rn rc], .bool false]) (by simp [results, Tryz.results22, go_sem, z0, z1, c0, c1]) rfl ?_
        rw [HR.out]
        exact LnOut.no rfl HFB.out
      | true =>
        rw [hgd] at HGO
        have HA2 := Lib.hid (allG_snoc HX.out HA.out hgd)
        clear hgd HBD HNW HKD HOL HA HX
        go_upto_region 16 with fail
        refine wp_region_detN (n := 9) (S := fun L W => Below wr.heap.size wr W) (by kernel_rfl) rfl (below_drewN (Below.refl _ _) 1) ?_
        refine' DetS.takeL (i := 0) (v := _) rfl (by kernel_rfl) (by kernel_rfl) (by kernel_rfl) (YS.pure rfl ?se16_0 ?re16_0) ?ne16_0
        case re16_0 => intro L W hS;  go_simp; first | rfl | (rw [if_neg (by omega)] <;> rfl) | (rw [if_neg (by simp; omega)] <;> rfl) | (rw [if_neg (by simp)] <;> rfl)
        case se16_0 => exact fun L W _ h => h
        simp only [Act.put, List.setIfInBounds_toArray, List.set_cons_zero, List.set_cons_succ]
        refine' DetS.takeL (i := 1) (v := _) rfl (by kernel_rfl) (by kernel_rfl) (by kernel_rfl) (YS.pure rfl ?se16_1 ?re16_1) ?ne16_1
        case re16_1 => intro L W hS;  go_simp; first | rfl | (rw [if_neg (by omega)] <;> rfl) | (rw [if_neg (by simp; omega)] <;> rfl) | (rw [if_neg (by simp)] <;> rfl)
        case se16_1 => exact fun L W _ h => h
        simp only [Act.put, List.setIfInBounds_toArray, List.set_cons_zero, List.set_cons_succ]
        refine' DetS.takeL (i := 2) (v := _) rfl (by kernel_rfl) (by kernel_rfl) (by kernel_rfl) (YS.pure rfl ?se16_2 ?re16_2) ?ne16_2
        case re16_2 => intro L W hS; obtain ⟨k0, k1⟩ := HDN.out W (HBJ.out W hS); go_simp; first | rfl | skip
        case se16_2 => exact fun L W _ h => h
        simp only [Act.put, List.setIfInBounds_toArray, List.set_cons_zero, List.set_cons_succ]
        refine' DetS.takeL (i := 3) (v := _) rfl (by kernel_rfl) (by kernel_rfl) (by kernel_rfl) (YS.pure rfl ?se16_3 ?re16_3) ?ne16_3
        case re16_3 => intro L W hS;  go_simp; first | rfl | (rw [if_neg (by omega)] <;> rfl) | (rw [if_neg (by simp; omega)] <;> rfl) | (rw [if_neg (by simp)] <;> rfl)
        case se16_3 => exact fun L W _ h => h
        simp only [Act.put, List.setIfInBounds_toArray, List.set_cons_zero, List.set_cons_succ]
        refine' DetS.takeL (i := 4) (v := _) rfl (by kernel_rfl) (by kernel_rfl) (by kernel_rfl) (YS.pure rfl ?se16_4 ?re16_4) ?ne16_4
        case re16_4 => intro L W hS;  go_simp; first | rfl | (rw [if_neg (by omega)] <;> rfl) | (rw [if_neg (by simp; omega)] <;> rfl) | (rw [if_neg (by simp)] <;> rfl)
        case se16_4 => exact fun L W _ h => h
        simp only [Act.put, List.setIfInBounds_toArray, List.set_cons_zero, List.set_cons_succ]
        refine' DetS.takeL (i := 5) (v := _) rfl (by kernel_rfl) (by kernel_rfl) (by kernel_rfl) (YS.pure rfl ?se16_5 ?re16_5) ?ne16_5
        case re16_5 => intro L W hS;  go_simp; first | rfl | (rw [if_neg (by omega)] <;> rfl) | (rw [if_neg (by simp; omega)] <;> rfl) | (rw [if_neg (by simp)] <;> rfl)
        case se16_5 => exact fun L W _ h => h
        simp only [Act.put, List.setIfInBounds_toArray, List.set_cons_zero, List.set_cons_succ]
        refine' DetS.takeL (i := 6) (v := _) rfl (by kernel_rfl) (by kernel_rfl) (by kernel_rfl) (YS.pure rfl ?se16_6 ?re16_6) ?ne16_6
        case re16_6 => intro L W hS; have k0 := HCS.out W hS; go_simp; first | rfl | skip
        case se16_6 => exact fun L W _ h => h
        simp only [Act.put, List.setIfInBounds_toArray, List.set_cons_zero, List.set_cons_succ]
        refine' DetS.takeL (i := 7) (v := _) rfl (by kernel_rfl) (by kernel_rfl) (by kernel_rfl) (YS.call (f := _) (args := _) rfl ?re16_7 ?ce16_7) ?ne16_7
        case re16_7 => intro W; go_simp; constructor <;> rfl
        case ce16_7 =>
          intro L W hL hS
          refine (HGO.out W).mono ?_
          rintro x w9 ⟨rfl, hb9⟩
          exact ⟨rfl, bnext hS hb9 hS.size⟩
        simp only [Act.put, List.setIfInBounds_toArray, List.set_cons_zero, List.set_cons_succ]
        refine' DetS.takeL (i := 8) (v := _) rfl (by kernel_rfl) (by kernel_rfl) (by kernel_rfl) (YS.pure rfl ?se16_8 ?re16_8) ?ne16_8
        case re16_8 => intro L W hS;  go_simp; first | rfl | (rw [if_neg (by omega)] <;> rfl) | (rw [if_neg (by simp; omega)] <;> rfl) | (rw [if_neg (by simp)] <;> rfl)
        case se16_8 => exact fun L W _ h => h
        simp only [Act.put, List.setIfInBounds_toArray, List.set_cons_zero, List.set_cons_succ]
        refine DetS.done (by kernel_rfl) (fun W hS => ?_) _
        have hSW := HBJ.out _ hS
        go_wp2
        go_roundw
        case rel => exact ⟨j + 1, by omega, by go_num, HA2, hSW⟩
        case measure => simp [intOf] <;> omega
    · obtain rfl : j = n := by omega
      have HAA : Hid (V.all (Ac.good kd) = true) := Lib.hid (by have := HA.out; rwa [List.take_of_length_le (by omega)] at this)
      clear HBD HA
      obtain ⟨pes, hEE, hOO, -, hAP⟩ := HLL.out.els
      have hb2 := bnext HAL.out hbr HAL.out.size
      have hpel : pes.length + 1 ≤ 4194304 := by rw [hOO.1]; exact hel
      have hpen : pes.length = en := hEE.1
      obtain ⟨c0, c1⟩ := row_facts2w (HRL.out _ hbr)
      have hsz2 := hbr.size
      go_upto_region 19 with fail
      have hOU := OwnE.made wr
      have halU := alloc_below wr (.cells #[] 75)
      have hb4 := bnext hbr halU hbr.size
      have hub4 := halU.size
      clear c0 c1
      generalize wr.alloc (.cells #[] 75) = w4 at *
      generalize wr.heap.size = ub at *
      obtain ⟨c0, c1⟩ := row_facts2w (HRL.out _ hb4)
      have hE4 := hEE.step (bnext HAL.out hb4 HAL.out.size)
      go_wp2_with
        (at_builtin
         refine wp_appE rfl (.tmp 91) (.tmp 93) rfl ub (.slice (some ⟨ub, 0, none⟩) 0 0) [] rfl hOU E en ec pes rfl hE4 (by simp; omega) hub4 ?_
         intro A5 n5 c5 w5 ho5 hb5 hn5)
      rw [List.nil_append] at ho5
      clear c0 c1 hE4 hn5 hOU
      have hbw5 : Below w2.heap.size w2 w5 := hb4.trans (hb5.mono hsz2)
      have hub5 : ub ≤ w5.heap.size := Nat.le_trans hub4 hb5.size
      have HAT := Lib.hid fun W hW => rat_any E en ec R rn rc L nm W (HL2.out.step hW)
      have HB5 : Hid (∀ W, Below w5.heap.size w5 W → Below w2.heap.size w2 W) := Lib.hid fun W hW => bnext hbw5 hW hbw5.size
      unfold rlV at HAT
      cases hat : Ac.atI L.els nm with
      | none =>
        rw [hat] at HAT
        unfold numI at HAT
        simp only at HAT
        have HR := Lib.hid (HNW.out hat HAA.out)
        clear hat HNW HKD HOL
        go_upto_region 20 with fail
        refine wp_region_detN (n := 6) (S := fun L W => Below w5.heap.size w5 W) (by kernel_rfl) rfl (below_drewN (Below.refl _ _) 1) ?_
        refine' DetS.takeL (i := 0) (v := _) rfl (by kernel_rfl) (by kernel_rfl) (by kernel_rfl) (YS.pure rfl ?sd20_0 ?rd20_0) ?nd20_0
        case rd20_0 => intro L W hS; obtain ⟨k0, k1⟩ := row_facts2w (HRL.out W (HB5.out W hS)); go_simp; first | rfl | skip
        case sd20_0 => exact fun L W _ h => h
        simp only [Act.put, List.setIfInBounds_toArray, List.set_cons_zero, List.set_cons_succ]
        refine' DetS.takeL (i := 1) (v := _) rfl (by kernel_rfl) (by kernel_rfl) (by kernel_rfl) (YS.pure rfl ?sd20_1 ?rd20_1) ?nd20_1
        case rd20_1 => intro L W hS;  go_simp; first | rfl | (rw [if_neg (by omega)] <;> rfl) | (rw [if_neg (by simp; omega)] <;> rfl) | (rw [if_neg (by simp)] <;> rfl)
        case sd20_1 => exact fun L W _ h => h
        simp only [Act.put, List.setIfInBounds_toArray, List.set_cons_zero, List.set_cons_succ]
        refine' DetS.takeL (i := 2) (v := _) rfl (by kernel_rfl) (by kernel_rfl) (by kernel_rfl) (YS.pure rfl ?sd20_2 ?rd20_2) ?nd20_2
        case rd20_2 => intro L W hS;  go_simp; first | rfl | (rw [if_neg (by omega)] <;> rfl) | (rw [if_neg (by simp; omega)] <;> rfl) | (rw [if_neg (by simp)] <;> rfl)
        case sd20_2 => exact fun L W _ h => h
        simp only [Act.put, List.setIfInBounds_toArray, List.set_cons_zero, List.set_cons_succ]
        refine' DetS.takeL (i := 3) (v := _) rfl (by kernel_rfl) (by kernel_rfl) (by kernel_rfl) (YS.pure rfl ?sd20_3 ?rd20_3) ?nd20_3
        case rd20_3 => intro L W hS; obtain ⟨k0, k1⟩ := HDN.out W (HB5.out W hS); go_simp; first | rfl | skip
        case sd20_3 => exact fun L W _ h => h
        simp only [Act.put, List.setIfInBounds_toArray, List.set_cons_zero, List.set_cons_succ]
        refine' DetS.takeL (i := 4) (v := _) rfl (by kernel_rfl) (by kernel_rfl) (by kernel_rfl) (YS.call (f := _) (args := _) rfl ?rd20_4 ?cd20_4) ?nd20_4
        case rd20_4 => intro W; go_simp; constructor <;> rfl
        case cd20_4 =>
          intro L W hL hS
          refine (HAT.out W (HB5.out W hS)).mono ?_
          rintro x w9 ⟨rfl, hb9⟩
          exact ⟨rfl, bnext hS hb9 hS.size⟩
        simp only [Act.put, List.setIfInBounds_toArray, List.set_cons_zero, List.set_cons_succ]
        refine' DetS.takeL (i := 5) (v := _) rfl (by kernel_rfl) (by kernel_rfl) (by kernel_rfl) (YS.pure rfl ?sd20_5 ?rd20_5) ?nd20_5
        case rd20_5 => intro L W hS;  go_simp; first | rfl | (rw [if_neg (by omega)] <;> rfl) | (rw [if_neg (by simp; omega)] <;> rfl) | (rw [if_neg (by simp)] <;> rfl)
        case sd20_5 => exact fun L W _ h => h
        simp only [Act.put, List.setIfInBounds_toArray, List.set_cons_zero, List.set_cons_succ]
        refine DetS.done (by kernel_rfl) (fun W hS => ?_) _
        have ho6 := ho5.step hS
        have hbw6 := HB5.out _ hS
        have hub6 : ub ≤ W.heap.size := Nat.le_trans hub5 hS.size
        clear ho5 hb5 hbw5 hub5 hS HB5 HAT
        have hal9 := (alloc_below W (.cells #[.string (bs nm), .string (bs kd), .slice (some ⟨g', o' + 3, none⟩) j c] 75)).trans ((Below.refl _ _).drew)
        have hO9 := ho6.step hal9
        have hbw9 := bnext hbw6 hal9 hbw6.size
        have hB9 : ub ≤ (W.alloc (.cells #[.string (bs nm), .string (bs kd), .slice (some ⟨g', o' + 3, none⟩) j c] 75)).drew.heap.size := Nat.le_trans hub6 hal9.size
        have HG9 := Lib.hid (HRL.out _ hbw9)
        have HZ9 := Lib.hid (HRZ.out _ hbw9)
        have hRd := elR_rd W ⟨nm, kd, some ⟨g', o' + 3, none⟩, j, c⟩
        have HBU : Hid (w.heap.size + 1 < ub) := Lib.hid (by omega)
        have HBW9 := Lib.hid hbw9
        have hc0 : ¬ c = 0 := by omega
        have hp9 : pes.length ≤ 4194304 := by omega
        obtain ⟨d1, d2⟩ := HDN.out _ hbw6
        clear hbw9
        go_upto_region 22 with fail
        go_region_law (refine step_appEl rfl (.tmp 102) (.tmp 112) rfl ub (.slice A5 n5 c5) pes (by rfl) hO9 _ _ ⟨nm, kd, some ⟨g', o' + 3, none⟩, j, c⟩ (by rfl) hRd hp9 hB9 ?_; intro A7 n7 c7 w7 ho7 hb7 hn7; have hG7 := (hb7.block w.heap.size (Nat.lt_of_succ_lt HBU.out)).trans HG9.out; have hZ7 := (hb7.block (w.heap.size + 1) HBU.out).trans HZ9.out; obtain ⟨c0, c1⟩ := row_facts2w hG7; obtain ⟨z0, z1⟩ := row_facts2w hZ7; obtain ⟨f0, f1⟩ := row_frz2 hZ7; obtain ⟨e0, e1⟩ := row_frz2 hG7)
        all_goals
          have HBW := Lib.hid (bnext HAL.out (HBW9.out.trans (hb7.mono hsz2)) HAL.out.size)
          have HO7 := Lib.hid ho7
          clear ho7 hb7 hn7 hRd hO9 ho6 hal9
          go_wp2
          refine bodyPost_ret (v := .tuple #[.agg #[.slice A7 n7 c7, .slice R rn rc], .bool true]) (by simp [results, Tryz.results22, go_sem, z0, z1, c0, c1, f0, f1]) rfl ?_
          rw [HR.out]
          have hB3 := below_two (HBW.out.setCell (p := ⟨w.heap.size, 0, none⟩) (Nat.le_refl _) (.slice A7 n7 c7)) (b := w.heap.size + 1) (Nat.le_succ _) (.slice A7 n7 c7) (.slice R rn rc)
          have hO3 := ((HO7.out.setJ (Nat.lt_of_succ_lt HBU.out) 0 (.slice A7 n7 c7)).setJ HBU.out 0 (.slice A7 n7 c7)).setJ HBU.out 1 (.slice R rn rc)
          exact ⟨A7, n7, c7, R, rn, rc, rfl, fun L' e9 => by injection e9 with e9; subst e9; exact HLL.out.newEl hB3 hOO hAP hO3.rd (ab_own hO3 (by omega)) (Ab.at_ hBg) ⟨rfl, rfl, by show j ≤ 4194304; omega⟩ HNS.out hel, hB3⟩
      | some i =>
        rw [hat] at HAT
        unfold numI at HAT
        simp only at HAT
        obtain ⟨e, he, hen⟩ := atI_get hat
        have hil : i < pes.length := by rw [hOO.1]; exact lt_of_get? he
        have HKD2 := Lib.hid (HKD.out i e hat he)
        have HOL2 := Lib.hid fun h3 => HOL.out i e hat he h3 HAA.out
        clear hat HNW HKD HOL
        go_upto_region 20 with fail
        refine wp_region_detN (n := 6) (S := fun L W => Below w5.heap.size w5 W) (by kernel_rfl) rfl (below_drewN (Below.refl _ _) 1) ?_
        refine' DetS.takeL (i := 0) (v := _) rfl (by kernel_rfl) (by kernel_rfl) (by kernel_rfl) (YS.pure rfl ?se20_0 ?re20_0) ?ne20_0
        case re20_0 => intro L W hS; obtain ⟨k0, k1⟩ := row_facts2w (HRL.out W (HB5.out W hS)); go_simp; first | rfl | skip
        case se20_0 => exact fun L W _ h => h
        simp only [Act.put, List.setIfInBounds_toArray, List.set_cons_zero, List.set_cons_succ]
        refine' DetS.takeL (i := 1) (v := _) rfl (by kernel_rfl) (by kernel_rfl) (by kernel_rfl) (YS.pure rfl ?se20_1 ?re20_1) ?ne20_1
        case re20_1 => intro L W hS;  go_simp; first | rfl | (rw [if_neg (by omega)] <;> rfl) | (rw [if_neg (by simp; omega)] <;> rfl) | (rw [if_neg (by simp)] <;> rfl)
        case se20_1 => exact fun L W _ h => h
        simp only [Act.put, List.setIfInBounds_toArray, List.set_cons_zero, List.set_cons_succ]
        refine' DetS.takeL (i := 2) (v := _) rfl (by kernel_rfl) (by kernel_rfl) (by kernel_rfl) (YS.pure rfl ?se20_2 ?re20_2) ?ne20_2
        case re20_2 => intro L W hS;  go_simp; first | rfl | (rw [if_neg (by omega)] <;> rfl) | (rw [if_neg (by simp; omega)] <;> rfl) | (rw [if_neg (by simp)] <;> rfl)
        case se20_2 => exact fun L W _ h => h
        simp only [Act.put, List.setIfInBounds_toArray, List.set_cons_zero, List.set_cons_succ]
        refine' DetS.takeL (i := 3) (v := _) rfl (by kernel_rfl) (by kernel_rfl) (by kernel_rfl) (YS.pure rfl ?se20_3 ?re20_3) ?ne20_3
        case re20_3 => intro L W hS; obtain ⟨k0, k1⟩ := HDN.out W (HB5.out W hS); go_simp; first | rfl | skip
        case se20_3 => exact fun L W _ h => h
        simp only [Act.put, List.setIfInBounds_toArray, List.set_cons_zero, List.set_cons_succ]
        refine' DetS.takeL (i := 4) (v := _) rfl (by kernel_rfl) (by kernel_rfl) (by kernel_rfl) (YS.call (f := _) (args := _) rfl ?re20_4 ?ce20_4) ?ne20_4
        case re20_4 => intro W; go_simp; constructor <;> rfl
        case ce20_4 =>
          intro L W hL hS
          refine (HAT.out W (HB5.out W hS)).mono ?_
          rintro x w9 ⟨rfl, hb9⟩
          exact ⟨rfl, bnext hS hb9 hS.size⟩
        simp only [Act.put, List.setIfInBounds_toArray, List.set_cons_zero, List.set_cons_succ]
        refine' DetS.takeL (i := 5) (v := _) rfl (by kernel_rfl) (by kernel_rfl) (by kernel_rfl) (YS.pure rfl ?se20_5 ?re20_5) ?ne20_5
        case re20_5 => intro L W hS;  go_simp; first | rfl | (rw [if_neg (by omega)] <;> rfl) | (rw [if_neg (by simp; omega)] <;> rfl) | (rw [if_neg (by simp)] <;> rfl)
        case se20_5 => exact fun L W _ h => h
        simp only [Act.put, List.setIfInBounds_toArray, List.set_cons_zero, List.set_cons_succ]
        refine DetS.done (by kernel_rfl) (fun W hS => ?_) _
        have ho6 := ho5.step hS
        have hbw6 := HB5.out _ hS
        have hub6 : ub ≤ W.heap.size := Nat.le_trans hub5 hS.size
        obtain ⟨ga, rfl, hga1, hga2, cur, hcur⟩ := own_form ho6 (by omega)
        obtain rfl : en = n5 := hpen.symm.trans (ho6.rd).1
        have hien : i < en := by omega
        obtain ⟨g9, o9, p, hA9, -, HP, x0, x1, x2⟩ := (ho6.rd).at_ hien
        injection hA9 with hA9
        injection hA9 with hA9 hA8
        subst hA9 hA8
        rw [Nat.zero_add] at x0 x1 x2
        obtain ⟨p1, p2, p3, p4⟩ := hOO.2 i p e HP.out he
        have p4W := p4.step (bnext HAL.out hbw6 HAL.out.size)
        obtain ⟨pn, pk, pA, pl, pc⟩ := p
        dsimp only at x0 x1 x2 p1 p2 p3 p4 p4W
        subst p1 p2
        have HHE := Lib.hid he
        have hcap2 := hcap e (mem_of_get? he)
        have hpl2 : e.vs.length = pl := p4.1
        clear ho5 hb5 hbw5 hub5 hS HB5 HAT he p4
        obtain ⟨d1, d2⟩ := HDN.out _ hbw6
        obtain ⟨c0, c1⟩ := row_facts2w (HRL.out _ hbw6)
        obtain ⟨z0, z1⟩ := row_facts2w (HRZ.out _ hbw6)
        obtain ⟨f0, f1⟩ := row_frz2 (HRZ.out _ hbw6)
        have hii : (i : Int) < (en : Int) := by omega
        have HPEN := Lib.hid hpen
        clear hpen
        by_cases hk : e.kd = kd
        · have HR := Lib.hid (HOL2.out hk)
          have q5 : (e.kd == kd) = true := by rw [beq_iff_eq]; exact hk
          have q5b : (e.kd != kd) = false := by rw [bne, q5]; rfl
          clear HKD2 HOL2 hk
          go_upto_region 24 with fail
          go_quiet (fail)
          go_wp2_with fail
          refine (copyTexts_own pA pl pc e.vs _ (p4W.step (below_drewN (Below.refl _ _) _)) p3).mono ?_
          rintro x w6 ⟨A6, n6, c6, rfl, ho6s, hb6⟩
          have hb6' : Below W.heap.size W w6 := (below_drewN (Below.refl W.heap.size W) _).trans hb6
          have ho6' : OwnS w6 W.heap.size (.slice A6 n6 c6) e.vs := ho6s
          have hV6 := hV2.step (bnext hbw6 hb6' hbw6.size)
          have hby6 : (e.vs.length + j) * 16 ≤ 140737488355328 := by omega
          have hsz6 : W.heap.size ≤ w6.heap.size := hb6'.size
          have HRLW := Lib.hid (HRL.out _ hbw6)
          have HRZW := Lib.hid (HRZ.out _ hbw6)
          have hb0W : w.heap.size + 1 < W.heap.size := by omega
          have hne1 : ga ≠ w.heap.size := by omega
          have hne2 : ga ≠ w.heap.size + 1 := by omega
          have hne3 : w.heap.size ≠ ga := by omega
          have hne4 : w.heap.size + 1 ≠ ga := by omega
          clear x0 x1 hb6 ho6s c0 c1 z0 z1 f0 f1 d1 d2 q5 q5b
          have hcd : ¬ c = 0 := by omega
          go_wp2_with
            (at_builtin
             refine wp_appS rfl (.tmp 134) (.tmp 136) rfl W.heap.size (.slice A6 n6 c6) e.vs rfl ho6' (some ⟨g', o' + 3, none⟩) j c V rfl hV6 hby6 hsz6 ?_
             intro A7 n7 c7 w7 ho7 hb7 hn7
             have hbk : ∀ k, k < W.heap.size → w7.heap[k]? = W.heap[k]? := fun k hk => (hb7.block k hk).trans (hb6'.block k hk)
             have y2 : w7.cell? ⟨ga, i * 3 + 2, none⟩ = some (.slice pA pl pc) := (World.cell?_of_block (w := W) (hbk ga hga2)).trans x2
             have yf : w7.frozen? ⟨ga, i * 3 + 2, none⟩ = false := by simp only [World.frozen?, hbk ga hga2, hcur]; rfl
             have hG7 := (hbk w.heap.size (Nat.lt_of_succ_lt hb0W)).trans HRLW.out
             have hZ7 := (hbk (w.heap.size + 1) hb0W).trans HRZW.out
             obtain ⟨c0, c1⟩ := row_facts2w hG7
             obtain ⟨z0, z1⟩ := row_facts2w hZ7
             obtain ⟨f0, f1⟩ := row_frz2 hZ7
             obtain ⟨e0, e1⟩ := row_frz2 hG7
             have HBK := Lib.hid hbk
             clear x2)
          refine bodyPost_ret (v := .tuple #[.agg #[.slice (some ⟨ga, 0, none⟩) en c5, .slice R rn rc], .bool true]) (by simp [results, Tryz.results22, go_sem, z0, z1, c0, c1, f0, f1, hne1, hne2, hne3, hne4]) rfl ?_
          rw [HR.out]
          have hbW7 : Below w.heap.size w w7 := bnext (bnext HAL.out hbw6 HAL.out.size) (hb6'.trans hb7) (bnext HAL.out hbw6 HAL.out.size).size
          have hle : w.heap.size ≤ ga := by omega
          have hB3 := below_two ((hbW7.setCell (p := ⟨ga, i * 3 + 2, none⟩) hle (.slice A7 n7 c7)).setCell (p := ⟨w.heap.size, 0, none⟩) (Nat.le_refl _) (.slice (some ⟨ga, 0, none⟩) en c5)) (b := w.heap.size + 1) (Nat.le_succ _) (.slice (some ⟨ga, 0, none⟩) en c5) (.slice R rn rc)
          have ho8 : OwnE w7 ub (.slice (some ⟨ga, 0, none⟩) en c5) pes := own_blk ho6 (fun g hg => by cases hg; exact HBK.out ga hga2)
          have hE3 := (((ho8.stored HP.out A7 n7 c7).setJ (b := w.heap.size) hne1 0 (.slice (some ⟨ga, 0, none⟩) en c5)).setJ (b := w.heap.size + 1) hne2 0 (.slice (some ⟨ga, 0, none⟩) en c5)).setJ (b := w.heap.size + 1) hne2 1 (.slice R rn rc)
          have hS3 := (((ho7.setJ hga2 (i * 3 + 2) (.slice A7 n7 c7)).setJ (Nat.lt_of_succ_lt hb0W) 0 (.slice (some ⟨ga, 0, none⟩) en c5)).setJ hb0W 0 (.slice (some ⟨ga, 0, none⟩) en c5)).setJ hb0W 1 (.slice R rn rc)
          have hn7' := hn7.out
          exact ⟨_, _, _, R, rn, rc, rfl, fun L' e9 => by injection e9 with e9; subst e9; exact HLL.out.oldEl hB3 hOO hAP HP.out HHE.out hE3 (Ab.at_ (by omega)) (ab_own hS3 (by omega)) (by omega) hS3.rd, hB3⟩
        · have HR := Lib.hid (HKD2.out hk)
          have q5 : (e.kd == kd) = false := by rw [beq_eq_false_iff_ne]; exact hk
          have q5b : (e.kd != kd) = true := by rw [bne, q5]; rfl
          have HFB := Lib.hid fun q => below_two (bnext HAL.out (below_drewN hbw6 q) HAL.out.size) (b := w.heap.size + 1) (by omega) (.slice E en ec) (.slice R rn rc)
          clear HKD2 HOL2 hk
          go_upto_region 24 with fail
          go_quiet (fail)
          go_wp2
          refine bodyPost_ret (v := .tuple #[.agg #[.slice E en ec, .slice R rn rc], .bool false]) (by simp [results, Tryz.results22, go_sem, z0, z1, c0, c1]) rfl ?_
          rw [HR.out]
          exact LnOut.no rfl (HFB.out _)
end Go.Proofs.YtgkphjbcaidcpaaGreatDoor
