/- The pool: count and Put. Conditions: at most 10^6 connections with ids that differ, bounds not below 0. -/
import Derived.Test.YtepedjnmliclkaaPoolN
import Derived.Deep.RegionHeld3
import Derived.Deep.Cut
import Derived.Deep.DeepCutAuto
set_option linter.unusedVariables false
set_option linter.unusedSimpArgs false
namespace Go.Proofs.Ytepedjnmliclkaa
open Go.RowKit

def cntL (p : Cn → Bool) (G : List (Nat × Cn)) (j : Nat) : Int := ((G.take j).countP fun x => p x.2 : Nat)
theorem cntL_le (p : Cn → Bool) (G : List (Nat × Cn)) (j : Nat) : 0 ≤ cntL p G j ∧ cntL p G j ≤ G.length := by
  unfold cntL
  have h1 := List.countP_le_length (p := fun x : Nat × Cn => p x.2) (l := G.take j)
  have h2 : (G.take j).length ≤ G.length := by simp; omega
  omega
theorem cntL_succ {p : Cn → Bool} {G : List (Nat × Cn)} {j : Nat} {x : Nat × Cn} (h : G[j]? = some x) : cntL p G (j + 1) = if p x.2 = true then cntL p G j + 1 else cntL p G j := by
  unfold cntL
  rw [take_snoc? h, List.countP_append]
  simp only [List.countP_cons, List.countP_nil]
  split <;> simp
set_option maxHeartbeats 1000000 in
theorem count_any (B pb : Nat) (most each idle : Int) (G : List (Nat × Cn)) (K1 : FuncId) (caps : Array Value) (p : Cn → Bool) (w : World) (hp : PoolW w B pb most each idle G) (hl : G.length ≤ 1000000) (f1 : ∀ (args : Array Value) (W : World), (callFunc K1 args).run Try.prog W = .ok (.enter K1 args) W)
    (hq : ∀ (W : World) (k : Nat) (x : Nat × Cn), Below w.heap.size w W → G[k]? = some x → Calls Try.prog K1 (#[.pointer (some ⟨x.1, 0, none⟩)] ++ caps) W fun e w' => e = .returned (.bool (p x.2)) ∧ ∃ m, w' = W.drewN m) :
    Calls Try.prog 65 #[.pointer (some ⟨pb, 0, none⟩), .func (.func K1) #[] caps] w fun e w' => e = .returned (.int .i64 ((G.map (·.2)).countP p)) ∧ Below w.heap.size w w' := by
  have hbc : ∀ c : Int, Below w.heap.size w (cntW w K1 caps c) := fun c => by
    unfold cntW
    exact bnext (alloc_below _ _) (alloc_below _ _) (alloc_below _ _).size
  have hpc : ∀ c : Int, PoolW (cntW w K1 caps c) B pb most each idle G := fun c => hp.step (hbc c)
  have hF := find_any pb 68 79 #[.pointer (some ⟨w.heap.size, 0, none⟩), .pointer (some ⟨w.heap.size + 1, 0, none⟩)] G.length (sF G) (fun _ => false) (fun j W => ∃ m, W = (cntW w K1 caps (cntL p G j)).drewN m) (cntW w K1 caps 0)
    ⟨fun _ _ => by kernel_rfl, fun _ _ => by kernel_rfl, by
      rintro W ⟨m, rfl⟩
      obtain ⟨h1, _⟩ := ((hpc (cntL p G 0)).drewN m).ring.nx (i := 0) (by omega) (b := pb) (o := 4) rfl
      rw [plc_fwd pb G 0]
      exact (after_any pb 4 _ _ h1).mono fun e w' ⟨a, b⟩ => ⟨a, m, b.symm⟩, by
      rintro j W hj ⟨m, rfl⟩
      have hx := List.getElem?_eq_getElem hj
      rw [plc_fwd pb G (j + 1), sF_get hx]
      exact (after_any _ 0 _ _ (((hpc _).drewN m).node hx).2.2.2.2).mono fun e w' ⟨a, b⟩ => ⟨a, m, b.symm⟩, by
      rintro j W hj ⟨m, rfl⟩
      have hx := List.getElem?_eq_getElem hj
      rw [sF_get hx, cntL_succ hx]
      have hb := cntL_le p G j
      refine (count1_any w K1 caps (cntL p G j) m _ (p G[j].2) hb.1 (by omega) f1 ?_).mono fun e w' h => h
      refine (hq _ j _ (below_drewN (hbc _) m) hx).mono ?_
      rintro e w' ⟨he, n, hn⟩
      exact ⟨he, m + n, by rw [hn, World.drewN_drewN]⟩, by
      rintro j W ⟨m, rfl⟩
      exact ⟨_, _, ((hpc _).drewN m).ring.head⟩, by
      rintro j W i ⟨m, rfl⟩ hi
      have hx := List.getElem?_eq_getElem hi
      rw [sF_get hx]
      exact ⟨hp.ring.nin _ (mem_get (nds_get hx)), _, _, ((hpc _).drewN m).ring.blk i _ (nds_get hx)⟩⟩ ⟨0, rfl⟩
  have HC : Hid (cntL p G G.length = ((G.map (·.2)).countP p : Nat)) := Lib.hid (by unfold cntL; rw [List.take_length, List.countP_map]; rfl)
  have HB := Lib.hid hbc
  clear hpc hp hq hbc
  go_enter Try.func65, Try.ntmps65
  unfold cntW at hF
  go_wp2_with fail
  refine hF.mono ?_
  rintro e w1 h1
  rcases h1 with ⟨j, _, _, h, _⟩ | ⟨_, rfl, m, rfl⟩
  · cases h
  · have HB1 := Lib.hid (HB.out (cntL p G G.length))
    unfold cntW at *
    generalize cntL p G G.length = c at *
    go_wp2
    go_ret
    exact ⟨by rw [HC.out]; rfl, below_drewN HB1.out m⟩
/-- Put, told by lists alone: the connections behind it, and the ids that went. -/
def put1 (o : List UInt8) (id now : Int) (xs : List Cn) : List Cn := dropL id xs ++ [⟨o, id, now⟩]
def put2 (each : Int) (o : List UInt8) (x1 : List Cn) : List Cn × List Int :=
  if each < ((x1.countP fun x => x.o == o : Nat) : Int) then (match x1.find? (fun x => x.o == o) with | some f => (dropL f.id x1, [f.id]) | none => (x1, [])) else (x1, [])
def put3 (most : Int) (r : List Cn × List Int) : List Cn × List Int :=
  if most < (r.1.length : Int) then (match r.1 with | h :: t => (t, r.2 ++ [h.id]) | [] => r) else r
def putL (most each : Int) (o : List UInt8) (id now : Int) (xs : List Cn) : List Cn × List Int := put3 most (put2 each o (put1 o id now xs))
theorem IdsOK.drop {xs : List Cn} (h : IdsOK xs) (id : Int) : IdsOK (dropL id xs) := by
  unfold IdsOK dropL at *
  exact (List.filter_sublist.map _).nodup h
theorem IdsOK.put1 {xs : List Cn} (h : IdsOK xs) (o : List UInt8) (id now : Int) : IdsOK (put1 o id now xs) := by
  have h1 := h.drop id
  unfold Go.Proofs.Ytepedjnmliclkaa.put1
  unfold IdsOK at *
  rw [List.map_append, List.nodup_append]
  refine ⟨h1, by simp, ?_⟩
  intro a ha b hb hab
  simp at hb
  subst hb hab
  obtain ⟨x, hx, hxi⟩ := List.mem_map.1 ha
  unfold dropL at hx
  have := (List.mem_filter.1 hx).2
  simp at this
  exact this hxi
theorem IdsOK.put2 {x1 : List Cn} (h : IdsOK x1) (each : Int) (o : List UInt8) : IdsOK (put2 each o x1).1 := by
  unfold Go.Proofs.Ytepedjnmliclkaa.put2
  split
  · split
    · exact h.drop _
    · exact h
  · exact h
theorem IdsOK.put3 {r : List Cn × List Int} (h : IdsOK r.1) (most : Int) : IdsOK (put3 most r).1 := by
  unfold Go.Proofs.Ytepedjnmliclkaa.put3
  split
  · split
    · rename_i h1 t e
      rw [e] at h
      unfold IdsOK at *
      simp at h ⊢
      exact h.2
    · exact h
  · exact h
theorem IdsOK.putL {xs : List Cn} (h : IdsOK xs) (most each : Int) (o : List UInt8) (id now : Int) : IdsOK (putL most each o id now xs).1 := ((h.put1 o id now).put2 each o).put3 most
theorem dropL_len (id : Int) (xs : List Cn) : (dropL id xs).length ≤ xs.length := List.length_filter_le _ _
theorem put1_len (o : List UInt8) (id now : Int) (xs : List Cn) : (put1 o id now xs).length ≤ xs.length + 1 := by
  unfold put1
  have := dropL_len id xs
  simp; omega
theorem put2_len (each : Int) (o : List UInt8) (x1 : List Cn) : (put2 each o x1).1.length ≤ x1.length ∧ (put2 each o x1).2.length ≤ 1 := by
  unfold put2
  split
  · split
    · exact ⟨dropL_len _ _, by simp⟩
    · simp
  · simp
theorem put3_len (most : Int) (r : List Cn × List Int) : (put3 most r).1.length ≤ r.1.length ∧ (put3 most r).2.length ≤ r.2.length + 1 := by
  unfold put3
  split
  · split
    · rename_i h t e
      rw [e]; simp
    · simp
  · simp
theorem putL_len (most each : Int) (o : List UInt8) (id now : Int) (xs : List Cn) : (putL most each o id now xs).1.length ≤ xs.length + 1 ∧ (putL most each o id now xs).2.length ≤ 2 := by
  unfold putL
  have h1 := put1_len o id now xs
  have h2 := put2_len each o (put1 o id now xs)
  have h3 := put3_len most (put2 each o (put1 o id now xs))
  omega
theorem set_snoc (L : List Nd) (x : Nd) : L.take L.length ++ x :: L.drop L.length = L ++ [x] := by simp
/-- A new connection is tied in at the end of the ring. -/
theorem tie_in {B pb : Nat} {most each idle : Int} {G : List (Nat × Cn)} {w : World} (hp : PoolW w B pb most each idle G) (hB : B ≤ w.heap.size) (x : Cn) {bl ol : Nat} (el : adr ⟨pb, 4, none⟩ (nds G) G.length = ⟨bl, ol, none⟩) :
    let W3 := w.alloc (.cells #[.string (bs x.o), .int .i64 x.id, .int .i64 x.wh, .pointer (some ⟨bl, ol, none⟩), .pointer (some ⟨pb, 4, none⟩)] 115)
    let c := Value.pointer (some ⟨w.heap.size, 0, none⟩)
    let W4 := (W3.setCell ⟨bl, ol + 4, none⟩ c).setCell ⟨pb, 4 + 3, none⟩ c
    (∃ v, W3.cell? ⟨bl, ol + 4, none⟩ = some v) ∧ W3.frozen? ⟨bl, ol + 4, none⟩ = false ∧ (∃ v, (W3.setCell ⟨bl, ol + 4, none⟩ c).cell? ⟨pb, 4 + 3, none⟩ = some v) ∧ (W3.setCell ⟨bl, ol + 4, none⟩ c).frozen? ⟨pb, 4 + 3, none⟩ = false ∧
      W4.cell? ⟨pb, 3, none⟩ = some (.int .i64 G.length) ∧ W4.frozen? ⟨pb, 3, none⟩ = false ∧
      PoolW (W4.setCell ⟨pb, 3, none⟩ (.int .i64 ((G.length : Int) + 1))) B pb most each idle (G ++ [(w.heap.size, x)]) ∧
      Turn B 115 117 w (W4.setCell ⟨pb, 3, none⟩ (.int .i64 ((G.length : Int) + 1))) := by
  intro W3 c W4
  have hal := alloc_below w (.cells #[.string (bs x.o), .int .i64 x.id, .int .i64 x.wh, .pointer (some ⟨bl, ol, none⟩), .pointer (some ⟨pb, 4, none⟩)] 115)
  have hp3 : PoolW W3 B pb most each idle G := hp.step hal
  have hnew : W3.heap[w.heap.size]? = some (.cells #[.string (bs x.o), .int .i64 x.id, .int .i64 x.wh, .pointer (some ⟨bl, ol, none⟩), .pointer (some ⟨pb, 4, none⟩)] 115 (0, 0)) := heap_alloc_new w _
  have hlen := nds_len G
  have el' : adr (hdA pb (poolPre most each idle G.length) 3) (nds G) (nds G).length = ⟨bl, ol, none⟩ := by rw [hlen]; exact el
  have ee : adr (hdA pb (poolPre most each idle G.length) 3) (nds G) ((nds G).length + 1) = ⟨pb, 4, none⟩ := adr_end (by omega)
  obtain ⟨x1, f1, s1⟩ := hp3.ring.nx (i := (nds G).length) (by omega) el'
  obtain ⟨x2, f2, s2⟩ := hp3.ring.pv (i := (nds G).length) (by omega) ee
  have hfresh : ∀ y ∈ nds G, y.g ≠ w.heap.size := fun y hy => by have := hp.ring.node_lt hy; omega
  have hfb : w.heap.size ≠ pb := by have := hp.ring.lt; omega
  have HI := hp3.ring.insert (k := (nds G).length) (by omega) (x := ⟨w.heap.size, cnC x⟩) hfresh hfb rfl (by
    rw [el', ee]; exact hnew)
  rw [el', ee, set_snoc] at HI
  unfold joined at HI
  have HI4 : Ring W4 pb 117 (poolPre most each idle G.length) 3 115 (nds G ++ [⟨w.heap.size, cnC x⟩]) := HI
  have hh := HI4.head
  have m2 : (W3.setCell ⟨bl, ol + 4, none⟩ c).cell? ⟨pb, 4 + 3, none⟩ = W3.cell? ⟨pb, 4 + 3, none⟩ := by
    refine World.cell?_setCell_other W3 _ _ _ (fun h => ?_)
    injection h with h1 h2 _
    have q1 := adr_off (ho := (poolPre most each idle G.length).length - 3) hp3.ring.nin (nds G).length
    unfold hdA at el'
    rw [el'] at q1
    simp only at q1
    rw [if_pos h1] at q1
    simp [poolPre] at q1
    omega
  refine ⟨⟨_, x1⟩, f1, ⟨_, m2.trans x2⟩, ?_, ?_, ?_, ?_, ?_⟩
  · rw [World.frozen?_setCell]; exact f2
  · rw [cell_of_row _ _ _ _ _ _ hh]; rfl
  · simp only [World.frozen?, hh]; rfl
  · have hs := HI4.setPre 3 (by simp [poolPre]) (.int .i64 ((G.length : Int) + 1))
    refine ⟨?_, hp.base.1, fun p hq => ?_⟩
    · have e1 : (((G ++ [(w.heap.size, x)]).length : Nat) : Int) = (G.length : Int) + 1 := by simp
      rw [e1, show nds (G ++ [(w.heap.size, x)]) = nds G ++ [⟨w.heap.size, cnC x⟩] by simp [nds]]
      exact hs
    · simp at hq
      rcases hq with h | rfl
      · exact hp.base.2 p h
      · exact hB
  · obtain ⟨q1, r1⟩ := hp3.row s1
    have r2 : RowOf W3 115 117 pb := ⟨_, _, hp3.ring.head, .inr rfl⟩
    have t0 : Turn B 115 117 w W3 := Turn.of_below hal hB
    exact ((t0.set _ q1 r1 _).set _ hp.base.1 (r2.set _ _ _) _).set _ hp.base.1 ((r2.set _ _ _).set _ _ _) _
end Go.Proofs.Ytepedjnmliclkaa
