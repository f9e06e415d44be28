/- (*Pool).remove: a connection is taken out of the ring. No conditions. -/
import Derived.Test.YtepedjnmliclkaaPoolW
import Derived.BigRegion
set_option linter.unusedVariables false
set_option linter.unusedSimpArgs false
namespace Go.Proofs.Ytepedjnmliclkaa
open Go.RowKit

theorem nodes_ne {G : List (Nat × Cn)} (h : ((nds G).map (·.g)).Nodup) {i j : Nat} {x y : Nat × Cn} (hx : G[i]? = some x) (hy : G[j]? = some y) (e : x.1 = y.1) : i = j :=
  get_inj h (nds_get hx) (nds_get hy) e
theorem adr_ne {pb : Nat} {pre : List Value} {np : Nat} {L : List Nd} (hd : (L.map (·.g)).Nodup) (hn : ∀ x ∈ L, x.g ≠ pb) {k i b o : Nat} {x : Nd} (hx : L[k]? = some x) (e : adr (hdA pb pre np) L i = ⟨b, o, none⟩) (hi : i ≠ k + 1) : b ≠ x.g := by
  intro h
  have h2 := (adr_in_node (ho := pre.length - np) hd hn hx i).1 (by unfold hdA at e; rw [e]; exact h)
  exact hi h2
set_option maxHeartbeats 1000000 in
theorem remove_any (B pb : Nat) (most each idle : Int) (G : List (Nat × Cn)) (k : Nat) (x : Nat × Cn) (w : World) (hp : PoolW w B pb most each idle G) (hx : G[k]? = some x) (hl : G.length ≤ 1000000) :
    Calls Try.prog 66 #[.pointer (some ⟨pb, 0, none⟩), .pointer (some ⟨x.1, 0, none⟩)] w fun e w' => e = .returned (.int .i64 x.2.id) ∧ PoolW w' B pb most each idle (G.eraseIdx k) ∧ Turn B 115 117 w w' := by
  obtain ⟨n0, n1, n2, n3, n4⟩ := hp.node hx
  obtain ⟨b1, o1, e1⟩ := adr_form pb (poolPre most each idle G.length) 3 (nds G) k
  obtain ⟨b2, o2, e2⟩ := adr_form pb (poolPre most each idle G.length) 3 (nds G) (k + 2)
  have hk : k < G.length := (List.getElem?_eq_some_iff.1 hx).1
  have hkn : k < (nds G).length := by rw [nds_len]; exact hk
  obtain ⟨x1, f1, s1⟩ := hp.ring.nx (i := k) (by omega) e1
  obtain ⟨x2, f2, s2⟩ := hp.ring.pv (i := k + 1) (by omega) e2
  have hne1 : b1 ≠ x.1 := adr_ne hp.ring.nodup hp.ring.nin (nds_get hx) e1 (by omega)
  have hne2 : b2 ≠ x.1 := adr_ne hp.ring.nodup hp.ring.nin (nds_get hx) e2 (by omega)
  have HR := hp.ring.erase hkn
  rw [e1, e2] at HR
  unfold joined at HR
  rw [show (⟨pb, 4, none⟩ : Addr) = hdA pb (poolPre most each idle G.length) 3 from rfl, e1] at n3
  rw [show (⟨pb, 4, none⟩ : Addr) = hdA pb (poolPre most each idle G.length) 3 from rfl, e2] at n4
  have hd3 : ∀ v, (((w.setCell ⟨b1, o1 + (3 + 1), none⟩ (.pointer (some ⟨b2, o2, none⟩))).setCell ⟨b2, o2 + 3, none⟩ (.pointer (some ⟨b1, o1, none⟩))).setCell ⟨pb, 3, none⟩ v).heap[x.1]? = w.heap[x.1]? := fun v => by
    rw [Below.heap_setCell _ _ _ _ (fun h => hp.ring.nin _ (mem_get (nds_get hx)) h), Below.heap_setCell _ _ _ _ (fun h => hne2 h.symm), Below.heap_setCell _ _ _ _ (fun h => hne1 h.symm)]
  have hh := HR.head
  have z3 : ((w.setCell ⟨b1, o1 + (3 + 1), none⟩ (.pointer (some ⟨b2, o2, none⟩))).setCell ⟨b2, o2 + 3, none⟩ (.pointer (some ⟨b1, o1, none⟩))).cell? ⟨pb, 3, none⟩ = some (.int .i64 G.length) := by
    rw [cell_of_row _ _ _ _ _ _ hh]; rfl
  have zf : ((w.setCell ⟨b1, o1 + (3 + 1), none⟩ (.pointer (some ⟨b2, o2, none⟩))).setCell ⟨b2, o2 + 3, none⟩ (.pointer (some ⟨b1, o1, none⟩))).frozen? ⟨pb, 3, none⟩ = false := by
    simp only [World.frozen?, hh]; rfl
  have z1 : ∀ v, (((w.setCell ⟨b1, o1 + (3 + 1), none⟩ (.pointer (some ⟨b2, o2, none⟩))).setCell ⟨b2, o2 + 3, none⟩ (.pointer (some ⟨b1, o1, none⟩))).setCell ⟨pb, 3, none⟩ v).cell? ⟨x.1, 1, none⟩ = some (.int .i64 x.2.id) := fun v => by
    rw [World.cell?_of_block (hd3 v)]; exact n1
  have hoo : b1 = b2 → o1 = o2 := fun h => by
    have q1 := adr_off (ho := (poolPre most each idle G.length).length - 3) hp.ring.nin k
    have q2 := adr_off (ho := (poolPre most each idle G.length).length - 3) hp.ring.nin (k + 2)
    unfold hdA at e1 e2
    rw [e1] at q1; rw [e2] at q2
    simp only at q1 q2
    rw [q1, q2, h]
  have m2 : (w.setCell ⟨b1, o1 + (3 + 1), none⟩ (.pointer (some ⟨b2, o2, none⟩))).cell? ⟨b2, o2 + 3, none⟩ = some (.pointer (some (adr (hdA pb (poolPre most each idle G.length) 3) (nds G) (k + 1)))) := by
    rw [World.cell?_setCell_other w _ _ _ (fun h => by injection h with h1 h2 _; have := hoo h1; omega)]; exact x2
  clear hoo
  have HT : Hid (∀ v, Turn B 115 117 w (((w.setCell ⟨b1, o1 + (3 + 1), none⟩ (.pointer (some ⟨b2, o2, none⟩))).setCell ⟨b2, o2 + 3, none⟩ (.pointer (some ⟨b1, o1, none⟩))).setCell ⟨pb, 3, none⟩ v)) := Lib.hid fun v => by
    obtain ⟨q1, r1⟩ := hp.row s1
    obtain ⟨q2, r2⟩ := hp.row s2
    have r3 : RowOf w 115 117 pb := ⟨_, _, hp.ring.head, .inr rfl⟩
    exact (((Turn.refl _ _ _ w).set _ q1 r1 _).set _ q2 (r2.set _ _ _) _).set _ hp.base.1 ((r3.set _ _ _).set _ _ _) v
  have HP : Hid (PoolW (((w.setCell ⟨b1, o1 + (3 + 1), none⟩ (.pointer (some ⟨b2, o2, none⟩))).setCell ⟨b2, o2 + 3, none⟩ (.pointer (some ⟨b1, o1, none⟩))).setCell ⟨pb, 3, none⟩ (.int .i64 ((G.length : Int) - 1))) B pb most each idle (G.eraseIdx k)) := Lib.hid (by
    have hs := HR.setPre 3 (by simp [poolPre]) (.int .i64 ((G.length : Int) - 1))
    have hlen : (((G.eraseIdx k).length : Nat) : Int) = (G.length : Int) - 1 := by rw [List.length_eraseIdx]; simp [hk]; omega
    refine ⟨?_, hp.base.1, fun p hq => hp.base.2 p (List.mem_of_mem_eraseIdx hq)⟩
    rw [hlen, ← nds_erase]
    exact hs)
  have hH := Lib.hid hp
  have hX := Lib.hid hx
  clear HR hp hh hd3 hx e1 e2 s1 s2 hkn hk
  rw [show o1 + (3 + 1) = o1 + 4 from rfl] at *
  obtain ⟨g, x⟩ := x
  simp only at *
  go_enter Try.func66, Try.ntmps66
  go_wp2
  go_region
  all_goals
    go_wp2
    go_ret
    exact ⟨rfl, HP.out.drew, (HT.out _).drew⟩
end Go.Proofs.Ytepedjnmliclkaa
