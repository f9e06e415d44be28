/- The document's table: New, Used, At, Keys, Without, First. Conditions: at most 10^6 items; sizes that sum up to at most 2^62. -/
import Derived.Test.YtepedjnmliclkaaItm
import Derived.Test.YtepedjnmliclkaaLruM
import Derived.Deep.QuietTactic
import Derived.BigQuiet
set_option linter.unusedVariables false
set_option linter.unusedSimpArgs false
namespace Go.Proofs.Ytepedjnmliclkaa
open Go.RowKit

set_option maxRecDepth 100000
theorem own_setCellT {w : World} {base : Nat} {e : TypeId} {size n : Nat} {v : Value} {xs : List Value} (h : w.ownsRow base e size v n xs) {p : Addr} (hp : p.block < base) (u : Value) : (w.setCell p u).ownsRow base e size v n xs :=
  h.kept (row := some p.block) ⟨rfl, rfl, rfl, by simp [World.setCell], fun i _ hne => Below.heap_setCell w p u i (fun he => hne (by rw [he]))⟩ (by
    cases hv : v.ownBlock with
    | none => simp
    | some k =>
      have := (h.lt k hv).1
      simp; omega)
theorem OwnT.setCell {T : TypeId} {w : World} {B : Nat} {v : Value} {l : List Cn} (h : OwnT T w B v l) {p : Addr} (hp : p.block < B) (u : Value) : OwnT T (w.setCell p u) B v l := own_setCellT h hp u
theorem row_facts2 {w : World} {v0 v1 : Value} {t : TypeId} {B : Nat} (h : w.heap[B]? = some (.cells #[v0, v1] t (0, 0))) :
    w.cell? ⟨B, 0, none⟩ = some v0 ∧ w.cell? ⟨B, 1, none⟩ = some v1 ∧ w.frozen? ⟨B, 0, none⟩ = false ∧ w.frozen? ⟨B, 1, none⟩ = false := by
  refine ⟨?_, ?_, ?_, ?_⟩
  · rw [cell_of_row _ _ _ _ _ _ h]; rfl
  · rw [cell_of_row _ _ _ _ _ _ h]; rfl
  · simp only [World.frozen?, h]; rfl
  · simp only [World.frozen?, h]; rfl
theorem row_keep2 {w w' : World} {cs : Array Value} {t : TypeId} {b B : Nat} (h : w.heap[b]? = some (.cells cs t (0, 0))) (hb : Below B w w') (hlt : b < B) : w'.heap[b]? = some (.cells cs t (0, 0)) := by
  rw [hb.block b hlt]; exact h
def tabV (room : Int) (A : Option Addr) (n c : Nat) : Value := .agg #[.int .i64 room, .slice A n c]
/-- The place of a key; -1: it has none. -/
def atR (s : List UInt8) : List Cn → Nat → Int
  | [], _ => -1
  | x :: r, i => if x.o = s then (i : Int) else atR s r (i + 1)
theorem atR_find (s : List UInt8) : ∀ (l : List Cn) (i : Nat), (atR s l i = -1 ∧ findK s l = none) ∨ ∃ (k : Nat) (x : Cn), atR s l i = ((i + k : Nat) : Int) ∧ l[k]? = some x ∧ findK s l = some x
  | [], i => .inl ⟨rfl, rfl⟩
  | x :: r, i => by
    unfold atR
    by_cases h : x.o = s
    · rw [if_pos h]
      exact .inr ⟨0, x, rfl, rfl, by unfold findK; rw [List.find?_cons]; simp [h]⟩
    · rw [if_neg h]
      have hf : findK s (x :: r) = findK s r := by
        unfold findK
        rw [List.find?_cons]
        have : (x.o == s) = false := by simp [h]
        rw [this]
      rw [hf]
      rcases atR_find s r (i + 1) with h1 | ⟨k, y, h1, h2, h3⟩
      · exact .inl h1
      · exact .inr ⟨k + 1, y, by rw [h1]; congr 1; omega, by simpa using h2, h3⟩
theorem used14_any (room : Int) (A : Option Addr) (n c : Nat) (l : List Cn) (w : World) (hl : RdT w A n l) (hn : n ≤ 1000000) (hs : ∀ k, 0 ≤ sumW (l.take k) ∧ sumW (l.take k) ≤ 1073741824) :
    Calls Try.prog 27 #[tabV room A n c] w fun e w' => e = .returned (.int .i64 (sumW l)) ∧ Below w.heap.size w w' := by
  unfold tabV
  have hal := alloc_below w (.cells #[.int .i64 room, .slice A n c] 28)
  have hro := heap_alloc_new w (.cells #[.int .i64 room, .slice A n c] 28)
  obtain ⟨c0, c1, -, -⟩ := row_facts2 hro
  have hl1 := hl.step hal
  have HE : Hid (sumW (l.take n) = sumW l) := Lib.hid (by rw [List.take_of_length_le (by rw [hl.1]; exact Nat.le_refl _)])
  have hlt : w.heap.size < (w.alloc (.cells #[.int .i64 room, .slice A n c] 28)).heap.size := by simp
  go_enter Try.func27, Try.ntmps27
  go_upto_region 2 with fail
  generalize w.alloc (.cells #[.int .i64 room, .slice A n c] 28) = wx at *
  go_wp2
  go_loopg [3, 4] n (fun r u t wr => ∃ k : Nat, k ≤ n ∧ r + k = n ∧ t = .int .i64 k ∧ u = .int .i64 (sumW (l.take k)) ∧ wr = wx)
  case atStart => exact ⟨0, by omega, by omega, rfl, rfl, rfl⟩
  case round =>
    obtain ⟨k, hk, hr, rfl, rfl, rfl⟩ := hrel
    by_cases hlt2 : k < n
    · obtain ⟨g, o, x, rfl, hg, HX, d0, d1, d2⟩ := hl1.at_ hlt2
      have k0 : (0 : Int) ≤ (k : Int) := by omega
      have k1 : (k : Int) < (n : Int) := by omega
      have HS : Hid (sumW (l.take (k + 1)) = sumW (l.take k) + x.wh) := Lib.hid (by
        rw [take_snoc? HX.out]
        have : ∀ a b : List Cn, sumW (a ++ b) = sumW a + sumW b := fun a b => by simp [sumW]
        rw [this]; simp [sumW])
      have h1 := hs k
      have h2 := hs (k + 1)
      rw [HS.out] at h2
      have hwp : IntKind.i64.wrap (sumW (l.take k) + x.wh) = sumW (l.take k) + x.wh := IntWalk.i64_in _ (by omega)
      generalize sumW (l.take k) = u at *
      go_wp2
      go_roundg (n - (k + 1))
      case measure => omega
      case rel => exact ⟨k + 1, by omega, by omega, by go_num, by rw [HS.out], rfl⟩
    · obtain rfl : k = n := by omega
      go_wp2
      go_ret
      exact ⟨ret_int HE.out, hal⟩
set_option maxHeartbeats 1000000 in
theorem keys14_any (room : Int) (A : Option Addr) (n c : Nat) (l : List Cn) (w : World) (hl : RdT w A n l) (hn : n ≤ 1000000) :
    Calls Try.prog 29 #[tabV room A n c] w fun e w' => ∃ A' n' c', e = .returned (.slice A' n' c') ∧ OwnS w' w.heap.size (.slice A' n' c') (l.map (·.o)) ∧ Below w.heap.size w w' := by
  unfold tabV
  have hal := alloc_below w (.cells #[.int .i64 room, .slice A n c] 28)
  have hro := heap_alloc_new w (.cells #[.int .i64 room, .slice A n c] 28)
  have hl1 := hl.step hal
  have HE : Hid (l.take n = l) := Lib.hid (List.take_of_length_le (by rw [hl.1]; exact Nat.le_refl _))
  have hsz : (w.alloc (.cells #[.int .i64 room, .slice A n c] 28)).heap.size = w.heap.size + 1 := by simp
  go_enter Try.func29, Try.ntmps29
  go_upto_region 1 with fail
  generalize w.alloc (.cells #[.int .i64 room, .slice A n c] 28) = wx at *
  have hal2 := alloc_below wx (.cells #[] 9)
  have hown := OwnS.made wx
  rw [hsz] at hown hal2
  go_wp2
  go_loopg [3, 4] n (fun r u t wr => ∃ (k : Nat) (A5 : Option Addr) (n5 c5 : Nat), k ≤ n ∧ r + k = n ∧ t = .int .i64 k ∧ u = .slice A5 n5 c5 ∧ OwnS wr (w.heap.size + 1) (.slice A5 n5 c5) ((l.take k).map (·.o)) ∧ Below (w.heap.size + 1) wx wr)
  case atStart => exact ⟨0, some ⟨w.heap.size + 1, 0, none⟩, 0, 0, by omega, by omega, rfl, rfl, hown, hal2⟩
  case round =>
    clear hown hal2
    obtain ⟨k, A5, n5, c5, hk, hr, rfl, rfl, hown, hbr⟩ := hrel
    obtain ⟨c0, c1, -, -⟩ := row_facts2 (row_keep2 hro hbr (by omega))
    by_cases hlt2 : k < n
    · obtain ⟨g, o, x, rfl, hg, HX, d0, d1, d2⟩ := (hl1.step (by rw [hsz]; exact hbr)).at_ hlt2
      have k0 : (0 : Int) ≤ (k : Int) := by omega
      have k1 : (k : Int) < (n : Int) := by omega
      have HS := Lib.hid (take_snoc? HX.out)
      have hfl : ((l.take k).map (·.o)).length ≤ 1000000 := by simp; omega
      have hszr := hbr.size
      go_wp2_with
        (at_builtin
         refine wp_appS rfl (.tmp 13) (.tmp 20) rfl (w.heap.size + 1) (.slice A5 n5 c5) ((l.take k).map (·.o)) rfl (hown.step (alloc_below _ _)) (some ⟨wr.heap.size, 0, none⟩) 1 1 [x.o] rfl ?hr ?hby ?hbase ?_
         case hr => exact one_rdS _ _ _
         case hby => first | omega | (simp; omega)
         case hbase => first | omega | (simp; omega)
         intro A9 n9 c9 w9 hown9 hb9 hg9 hn9)
      have hb9' := hbr.trans (((alloc_below wr (.cells #[.string (bs x.o)] 9)).mono (by omega)).trans hb9)
      go_roundg (n - (k + 1))
      case measure => omega
      case rel => exact ⟨k + 1, A9, n9, c9, by omega, by omega, by go_num, rfl, by rw [HS.out, List.map_append]; exact hown9, hb9'⟩
    · obtain rfl : k = n := by omega
      rw [HE.out] at hown
      go_wp2
      go_ret
      exact ⟨A5, n5, c5, rfl, hown.mono (by omega), bnext hal (by rw [hsz]; exact hbr) hal.size⟩
theorem at14_any (room : Int) (A : Option Addr) (n c : Nat) (l : List Cn) (s : List UInt8) (w : World) (hl : RdT w A n l) (hn : n ≤ 1000000) :
    Calls Try.prog 17 #[tabV room A n c, .string (bs s)] w fun e w' => e = .returned (.int .i64 (atR s l 0)) ∧ Below w.heap.size w w' := by
  unfold tabV
  have hal := alloc_below w (.cells #[.int .i64 room, .slice A n c] 28)
  have hro := heap_alloc_new w (.cells #[.int .i64 room, .slice A n c] 28)
  obtain ⟨c0, c1, -, -⟩ := row_facts2 hro
  have hl1 := hl.step hal
  have HE : Hid (atR s (l.drop n) n = -1) := Lib.hid (by rw [List.drop_of_length_le (by rw [hl.1]; exact Nat.le_refl _)]; rfl)
  go_enter Try.func17, Try.ntmps17
  go_upto_region 1 with fail
  generalize w.alloc (.cells #[.int .i64 room, .slice A n c] 28) = wx at *
  have H0 : Hid (atR s l 0 = atR s (l.drop 0) 0) := Lib.hid rfl
  generalize hR : atR s l 0 = R at *
  have HR0 := Lib.hid hR
  clear hR
  go_wp2
  go_loopg [5] n (fun r t wr => ∃ k : Nat, k ≤ n ∧ r + k = n ∧ t = .int .i64 k ∧ Hid (R = atR s (l.drop k) k) ∧ wr = wx)
  case atStart => exact ⟨0, by omega, by omega, rfl, H0, rfl⟩
  case round =>
    clear H0
    obtain ⟨k, hk, hr, rfl, HR, rfl⟩ := hrel
    by_cases hlt2 : k < n
    · obtain ⟨g, o, x, rfl, hg, HX, d0, d1, d2⟩ := hl1.at_ hlt2
      have k0 : (0 : Int) ≤ (k : Int) := by omega
      have k1 : (k : Int) < (n : Int) := by omega
      have HD : Hid (l.drop k = x :: l.drop (k + 1)) := Lib.hid (by
        obtain ⟨hk', e⟩ := List.getElem?_eq_some_iff.1 HX.out
        rw [List.drop_eq_getElem_cons hk', e])
      by_cases hx : x.o = s
      · have HF : Hid (R = (k : Int)) := Lib.hid (by rw [HR.out, HD.out]; unfold atR; rw [if_pos hx])
        have hxb : (x.o == s) = true := by simp [hx]
        clear hx
        go_wp2
        go_ret
        exact ⟨ret_int (HF.out.symm.trans HR0.out.symm), hal⟩
      · have HF : Hid (R = atR s (l.drop (k + 1)) (k + 1)) := Lib.hid (by rw [HR.out, HD.out]; conv => lhs; unfold atR; rw [if_neg hx])
        have hxb : (x.o == s) = false := by simp [hx]
        clear hx
        go_wp2
        go_roundg (n - (k + 1))
        case measure => omega
        case rel => exact ⟨k + 1, by omega, by omega, by go_num, HF, rfl⟩
    · obtain rfl : k = n := by omega
      have HF : Hid (R = -1) := Lib.hid (by rw [HR.out, HE.out])
      go_wp2
      go_ret
      exact ⟨ret_int (HF.out.symm.trans HR0.out.symm), hal⟩
theorem woL_snoc {s : List UInt8} {l : List Cn} {k : Nat} {x : Cn} (h : l[k]? = some x) : woL s (l.take (k + 1)) = woL s (l.take k) ++ (if (x.o == s) = true then [] else [x]) := by
  unfold woL
  rw [take_snoc? h, List.filter_append]
  congr 1
  cases hx : x.o == s <;> simp [hx]
set_option maxHeartbeats 1000000 in
theorem without14_any (room : Int) (A : Option Addr) (n c : Nat) (l : List Cn) (s : List UInt8) (w : World) (hl : RdT w A n l) (hn : n ≤ 1000000) :
    Calls Try.prog 25 #[tabV room A n c, .string (bs s)] w fun e w' => ∃ A' n' c', e = .returned (tabV room A' n' c') ∧ OwnT 35 w' w.heap.size (.slice A' n' c') (woL s l) ∧ Below w.heap.size w w' := by
  unfold tabV
  have hal1 := alloc_below w (.cells #[.int .i64 room, .slice A n c] 28)
  have hr1 := heap_alloc_new w (.cells #[.int .i64 room, .slice A n c] 28)
  have hal2 := alloc_below (w.alloc (.cells #[.int .i64 room, .slice A n c] 28)) (.cells #[.int .i64 0, .slice none 0 0] 28)
  have hr2 := heap_alloc_new (w.alloc (.cells #[.int .i64 room, .slice A n c] 28)) (.cells #[.int .i64 0, .slice none 0 0] 28)
  have hb0 := bnext hal1 hal2 hal1.size
  have hl2 := (hl.step hal1).step hal2
  have hr1a := row_keep hr1 hal2
  rw [show (w.alloc (.cells #[.int .i64 room, .slice A n c] 28)).heap.size = w.heap.size + 1 by simp] at hr2
  have hsz : ((w.alloc (.cells #[.int .i64 room, .slice A n c] 28)).alloc (.cells #[.int .i64 0, .slice none 0 0] 28)).heap.size = w.heap.size + 2 := by simp
  have HE : Hid (l.take n = l) := Lib.hid (List.take_of_length_le (by rw [hl.1]; exact Nat.le_refl _))
  clear hal1 hal2 hr1 hl
  go_enter Try.func25, Try.ntmps25
  go_upto_region 1 with fail
  generalize (w.alloc (.cells #[.int .i64 room, .slice A n c] 28)).alloc (.cells #[.int .i64 0, .slice none 0 0] 28) = wx at *
  have hal3 := alloc_below wx (.cells #[] 35)
  have hown := OwnT.made 35 wx
  rw [hsz] at hal3 hown
  go_wp2
  go_loopg [5, 6] n (fun r u t wr => ∃ (k : Nat) (A5 : Option Addr) (n5 c5 : Nat), k ≤ n ∧ r + k = n ∧ t = .int .i64 k ∧ u = .slice A5 n5 c5 ∧ OwnT 35 wr (w.heap.size + 2) (.slice A5 n5 c5) (woL s (l.take k)) ∧ Below (w.heap.size + 2) wx wr)
  case atStart => exact ⟨0, some ⟨w.heap.size + 2, 0, none⟩, 0, 0, by omega, by omega, rfl, rfl, hown, hal3⟩
  case round =>
    clear hown hal3
    obtain ⟨k, A5, n5, c5, hk, hr, rfl, rfl, hown, hbr⟩ := hrel
    obtain ⟨c0, c1, f0, f1⟩ := row_facts2 (row_keep2 hr1a hbr (by omega))
    obtain ⟨d0, d1, g0, g1⟩ := row_facts2 (row_keep2 hr2 hbr (by omega))
    by_cases hlt2 : k < n
    · obtain ⟨g, o, x, rfl, hg, HX, x0, x1, x2⟩ := (hl2.step (by rw [hsz]; exact hbr)).at_ hlt2
      have k0 : (0 : Int) ≤ (k : Int) := by omega
      have k1 : (k : Int) < (n : Int) := by omega
      have HS := Lib.hid (woL_snoc (s := s) HX.out)
      have hfl : (woL s (l.take k)).length ≤ 1000000 := Nat.le_trans (List.length_filter_le _ _) (by simp; omega)
      have hszr := hbr.size
      generalize woL s (l.take k) = wl at *
      cases hxb : x.o == s with
      | true =>
        rw [hxb] at HS
        have hxn : (x.o != s) = false := by simp [bne, hxb]
        go_wp2
        go_roundg (n - (k + 1))
        case measure => omega
        case rel => exact ⟨k + 1, A5, n5, c5, by omega, by omega, by go_num, rfl, by rw [HS.out]; simpa using hown, hbr⟩
      | false =>
        rw [hxb] at HS
        have hxn : (x.o != s) = true := by simp [bne, hxb]
        go_wp2_with
          (at_builtin
           refine wp_appT Try.underlying26 it14_info rfl (.tmp 23) (.tmp 29) rfl (w.heap.size + 2) (.slice A5 n5 c5) wl rfl (hown.step (alloc_below _ _)) (some ⟨wr.heap.size, 0, none⟩) 1 1 [x] rfl ?hr ?hby ?hbase ?_
           case hr => exact one_rdT _ _ _
           case hby => first | omega | (simp; omega)
           case hbase => first | omega | (simp; omega)
           intro A9 n9 c9 w9 hown9 hb9 hg9 hn9)
        have hb9' := hbr.trans (((alloc_below wr (.cells #[.string (bs x.o), .int .i64 x.id, .int .i64 x.wh] 35)).mono (by omega)).trans hb9)
        go_roundg (n - (k + 1))
        case measure => omega
        case rel => exact ⟨k + 1, A9, n9, c9, by omega, by omega, by go_num, rfl, by rw [HS.out]; simpa using hown9, hb9'⟩
    · obtain rfl : k = n := by omega
      rw [HE.out] at hown
      have hbA := bnext hb0 (by rw [hsz]; exact hbr) hb0.size
      clear hl2 hr1a hr2 hb0 hbr
      go_wp2
      refine bodyPost_ret (v := .agg #[.int .i64 room, .slice A5 n5 c5]) (by simp [results, Try.results25, go_sem, c0, c1, d0, d1]) rfl ⟨A5, n5, c5, rfl, (((hown.setCell (by simp) _).setCell (by simp) _).setCell (by simp) _).mono (by omega), ((hbA.setCell (by simp) _).setCell (by simp) _).setCell (by simp) _⟩
def itV (x : Cn) : Value := .agg #[.string (bs x.o), .int .i64 x.id, .int .i64 x.wh]
theorem row_facts3 {w : World} {v0 v1 v2 : Value} {t : TypeId} {B : Nat} (h : w.heap[B]? = some (.cells #[v0, v1, v2] t (0, 0))) :
    w.cell? ⟨B, 0, none⟩ = some v0 ∧ w.cell? ⟨B, 1, none⟩ = some v1 ∧ w.cell? ⟨B, 2, none⟩ = some v2 := by
  refine ⟨?_, ?_, ?_⟩ <;> (rw [cell_of_row _ _ _ _ _ _ h]; rfl)
set_option maxHeartbeats 1000000 in
theorem first14_any (room : Int) (A : Option Addr) (n c : Nat) (l : List Cn) (x : Cn) (w : World) (hl : RdT w A n l) (hn : n ≤ 1000000) :
    Calls Try.prog 22 #[tabV room A n c, itV x] w fun e w' => ∃ A' n' c', e = .returned (tabV room A' n' c') ∧ OwnT 35 w' w.heap.size (.slice A' n' c') (x :: woL x.o l) ∧ Below w.heap.size w w' := by
  unfold itV
  have hll : l.length ≤ 1000000 := by rw [hl.1]; exact hn
  have hal1 := alloc_below w (.cells #[.int .i64 room, .slice A n c] 28)
  have hr1 := heap_alloc_new w (.cells #[.int .i64 room, .slice A n c] 28)
  have hz1 : (w.alloc (.cells #[.int .i64 room, .slice A n c] 28)).heap.size = w.heap.size + 1 := by simp
  have hl1 := hl.step hal1
  generalize hw1 : w.alloc (.cells #[.int .i64 room, .slice A n c] 28) = w1 at *
  have hal2 := alloc_below w1 (.cells #[.string (bs x.o), .int .i64 x.id, .int .i64 x.wh] 35)
  have hr2 := heap_alloc_new w1 (.cells #[.string (bs x.o), .int .i64 x.id, .int .i64 x.wh] 35)
  have hz2 : (w1.alloc (.cells #[.string (bs x.o), .int .i64 x.id, .int .i64 x.wh] 35)).heap.size = w.heap.size + 2 := by simp [hz1]
  have hl2 := hl1.step hal2
  replace hr1 := row_keep2 hr1 hal2 (by omega)
  have hb2 := bnext hal1 hal2 hal1.size
  generalize hw2 : w1.alloc (.cells #[.string (bs x.o), .int .i64 x.id, .int .i64 x.wh] 35) = w2 at *
  have hal3 := alloc_below w2 (.cells #[.int .i64 0, .slice none 0 0] 28)
  have hr3 := heap_alloc_new w2 (.cells #[.int .i64 0, .slice none 0 0] 28)
  have hz3 : (w2.alloc (.cells #[.int .i64 0, .slice none 0 0] 28)).heap.size = w.heap.size + 3 := by simp [hz2]
  have hl3 := hl2.step hal3
  replace hr1 := row_keep2 hr1 hal3 (by omega)
  replace hr2 := row_keep2 hr2 hal3 (by omega)
  have hb3 := bnext hb2 hal3 hb2.size
  rw [hz1] at hr2
  rw [hz2] at hr3
  generalize hw3 : w2.alloc (.cells #[.int .i64 0, .slice none 0 0] 28) = w3 at *
  have hC := without14_any room A n c l x.o w3 hl3 hn
  unfold tabV at hC ⊢
  obtain ⟨i0, i1, i2⟩ := row_facts3 hr2
  obtain ⟨b0, b1, -, -⟩ := row_facts2 hr1
  have HC := Lib.hid hC
  clear hal1 hal2 hal3 hl hl1 hl2 hl3 hb2 hC
  go_enter Try.func22, Try.ntmps22
  go_upto_region 1 with fail
  have hC := HC.out
  clear hw1 hw2 hw3 HC
  go_wp2_with fail
  refine hC.mono ?_
  rintro e w4 ⟨A4, n4, c4, rfl, ho4, hb4⟩
  replace hr1 := row_keep hr1 hb4
  replace hr2 := row_keep hr2 hb4
  replace hr3 := row_keep hr3 hb4
  have hbA := bnext hb3 hb4 hb3.size
  have hz4 := hb4.size
  obtain ⟨i0, i1, i2⟩ := row_facts3 hr2
  obtain ⟨b0, b1, f0, f1⟩ := row_facts2 hr1
  clear hb3 hb4 hC
  have hs1 : ((w4.setCell ⟨w.heap.size, 0, none⟩ (.int .i64 room)).setCell ⟨w.heap.size, 1, none⟩ (.slice A4 n4 c4)).heap[w.heap.size]? = some (.cells #[.int .i64 room, .slice A4 n4 c4] 28 (0, 0)) := by
    rw [heap_set (heap_set hr1 _ _ _), if_pos rfl, if_pos rfl]; rfl
  have hs2 : ((w4.setCell ⟨w.heap.size, 0, none⟩ (.int .i64 room)).setCell ⟨w.heap.size, 1, none⟩ (.slice A4 n4 c4)).heap[w.heap.size + 1]? = some (.cells #[.string (bs x.o), .int .i64 x.id, .int .i64 x.wh] 35 (0, 0)) := by
    rw [heap_set (heap_set hr2 _ _ _), if_neg (by omega), if_neg (by omega)]
  have hs3 : ((w4.setCell ⟨w.heap.size, 0, none⟩ (.int .i64 room)).setCell ⟨w.heap.size, 1, none⟩ (.slice A4 n4 c4)).heap[w.heap.size + 2]? = some (.cells #[.int .i64 0, .slice none 0 0] 28 (0, 0)) := by
    rw [heap_set (heap_set hr3 _ _ _), if_neg (by omega), if_neg (by omega)]
  have hs0 : ((w4.setCell ⟨w.heap.size, 0, none⟩ (.int .i64 room)).setCell ⟨w.heap.size, 1, none⟩ (.slice A4 n4 c4)).heap.size = w4.heap.size := by simp
  have hO4 : OwnT 35 ((w4.setCell ⟨w.heap.size, 0, none⟩ (.int .i64 room)).setCell ⟨w.heap.size, 1, none⟩ (.slice A4 n4 c4)) w3.heap.size (.slice A4 n4 c4) (woL x.o l) := (ho4.setCell (by simp; omega) _).setCell (by simp; omega) _
  have hbB : Below w.heap.size w ((w4.setCell ⟨w.heap.size, 0, none⟩ (.int .i64 room)).setCell ⟨w.heap.size, 1, none⟩ (.slice A4 n4 c4)) := (hbA.setCell (by simp) _).setCell (by simp) _
  clear ho4 hbA hr1 hr3
  go_upto_region 2 with fail
  clear b0 b1 f0 f1 i0 i1 i2 hr2
  have hz5 : w.heap.size + 3 ≤ ((w4.setCell ⟨w.heap.size, 0, none⟩ (.int .i64 room)).setCell ⟨w.heap.size, 1, none⟩ (.slice A4 n4 c4)).heap.size := by rw [hs0]; omega
  generalize (w4.setCell ⟨w.heap.size, 0, none⟩ (.int .i64 room)).setCell ⟨w.heap.size, 1, none⟩ (.slice A4 n4 c4) = w5 at *
  rw [← hs0] at *
  clear hs0 hz4
  obtain ⟨i0, i1, i2⟩ := row_facts3 hs2
  obtain ⟨b0, b1, f0, f1⟩ := row_facts2 hs1
  have hal := alloc_below w5 (.cells #[.string (bs x.o), .int .i64 x.id, .int .i64 x.wh] 35)
  have hown := OwnT.one 35 w5 x
  have hrd := (hO4.step hal).rd
  have hlw : (woL x.o l).length ≤ 1000000 := Nat.le_trans (List.length_filter_le _ _) (by omega)
  have hs1' := row_keep hs1 hal
  have hs3' := row_keep hs3 hal
  have hbC := bnext hbB hal hbB.size
  obtain ⟨p0, p1, -, -⟩ := row_facts2 hs1'
  go_wp2_with
    (at_builtin; go_loud (
     refine wp_appT Try.underlying26 it14_info rfl (.tmp 12) (.tmp 14) rfl w5.heap.size (.slice (some ⟨w5.heap.size, 0, none⟩) 1 1) [x] rfl hown A4 n4 c4 (woL x.o l) rfl hrd ?hby ?hbase ?_
     case hby => have := hrd.1; simp; omega
     case hbase => simp
     intro A6 n6 c6 w6 hown6 hb6 hg6 hn6
     have hq1 := row_keep2 hs1' hb6 (by omega)
     have hq3 := row_keep2 hs3' hb6 (by omega)
     obtain ⟨b0, b1, f0, f1⟩ := row_facts2 hq1
     obtain ⟨d0, d1, g0, g1⟩ := row_facts2 hq3
     have hbD := hbC.trans (hb6.mono (by omega))))
  refine bodyPost_ret (v := .agg #[.int .i64 room, .slice A6 n6 c6]) (by simp [results, Try.results22, go_sem, b0, b1, d0, d1]) rfl ⟨A6, n6, c6, rfl, (((hown6.setCell (by simp; omega) _).setCell (by simp; omega) _).setCell (by simp; omega) _).mono (by omega), ((hbD.setCell (by simp) _).setCell (by simp) _).setCell (by simp) _⟩
end Go.Proofs.Ytepedjnmliclkaa
