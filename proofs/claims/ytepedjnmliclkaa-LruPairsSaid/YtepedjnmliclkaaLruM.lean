/- The table's laws, plain facts: getting keeps the items well; each key stands once and is found. No program; no conditions of ours. -/
import Derived.Test.YtepedjnmliclkaaLruL
import Derived.Maps.Own
import Derived.Laws.OwnMore
set_option linter.unusedVariables false
set_option linter.unusedSimpArgs false
namespace Go.Proofs.Ytepedjnmliclkaa
open Go.RowKit

theorem ItemsOK.perm {room : Int} {xs ys : List Cn} (h : ItemsOK room xs) (hp : ys.Perm xs) : ItemsOK room ys :=
  ⟨(hp.map _).nodup_iff.2 h.keys, fun x hx => h.each x (hp.subset hx), by rw [sumW_perm hp]; exact h.sum, h.room⟩
theorem cons_erase_perm {α : Type} : ∀ {l : List α} {k : Nat} {x : α}, l[k]? = some x → (x :: l.eraseIdx k).Perm l
  | [], k, x, h => by simp at h
  | y :: r, 0, x, h => by simp at h; subst h; exact List.Perm.refl _
  | y :: r, k + 1, x, h => by
    simp at h
    exact (List.Perm.swap y x _).trans ((cons_erase_perm h).cons y)
theorem items_get {room : Int} {xs : List Cn} {s : List UInt8} {x : Cn} (h : ItemsOK room xs) (hf : findK s xs = some x) : ItemsOK room (x :: woL s xs) ∧ (x :: woL s xs).length = xs.length := by
  have hs : x.o = s := by have := List.find?_some hf; simpa using this
  obtain ⟨k, hk, hx⟩ := List.getElem_of_mem (List.mem_of_find?_eq_some hf)
  have he := erase_woL h.keys (show xs[k]? = some x by rw [List.getElem?_eq_getElem hk, hx])
  have hp := cons_erase_perm (show xs[k]? = some x by rw [List.getElem?_eq_getElem hk, hx])
  rw [he, hs] at hp
  exact ⟨h.perm hp, hp.length_eq⟩
theorem findK_of {xs : List Cn} (hn : KeysOK xs) {k : Nat} {x : Cn} (h : xs[k]? = some x) : findK x.o xs = some x := by
  induction xs generalizing k with
  | nil => simp at h
  | cons y r ih =>
    unfold KeysOK at hn
    simp only [List.map_cons, List.nodup_cons] at hn
    cases k with
    | zero => simp at h; subst h; simp [findK, List.find?_cons]
    | succ k =>
      simp at h
      have hne : (y.o == x.o) = false := by
        rw [beq_eq_false_iff_ne]
        exact fun e => hn.1 (List.mem_map.2 ⟨x, by obtain ⟨hk, rfl⟩ := List.getElem?_eq_some_iff.1 h; exact List.getElem_mem hk, e.symm⟩)
      have := ih hn.2 h
      unfold findK at this ⊢
      rw [List.find?_cons, hne]; exact this
theorem keys_peek {room : Int} {ys : List Cn} (h : ItemsOK room ys) {a : Nat} {u : List UInt8} (hu : (ys.map (·.o))[a]? = some u) : u.length ≤ maxLen ∧ ∃ i : Int, peekV (findK u ys) = .tuple #[.int .i64 i, .bool true] := by
  rw [List.getElem?_map] at hu
  obtain ⟨y, hy, rfl⟩ := Option.map_eq_some_iff.1 hu
  exact ⟨(h.each y (mem_of_get? hy)).1, y.id, by rw [findK_of h.keys hy]; rfl⟩
theorem keys_ne {room : Int} {ys : List Cn} (h : ItemsOK room ys) {a : Nat} {u v : List UInt8} (h0 : 0 < a) (hu : (ys.map (·.o))[a]? = some u) (hv : (ys.map (·.o))[a - 1]? = some v) : u ≠ v := by
  have h2 := List.pairwise_iff_getElem.1 h.keys
  obtain ⟨ha, rfl⟩ := List.getElem?_eq_some_iff.1 hu
  obtain ⟨hb, rfl⟩ := List.getElem?_eq_some_iff.1 hv
  exact (h2 (a - 1) a hb ha (by omega)).symm
theorem LruX.more {w : World} {B tb mb N M : Nat} {room : Int} {xs : List Cn} (h : LruX w B tb room mb N xs) (hN : N ≤ M) : LruX w B tb room mb M xs := by
  obtain ⟨G, h1, h2⟩ := h
  obtain ⟨D, hm, hat⟩ := h2.map
  exact ⟨G, h1, h2.ring, ⟨D, hm.mono hN, hat⟩, h2.base⟩
theorem OwnS.one (w : World) (s : List UInt8) : OwnS (w.alloc (.cells #[.string (bs s)] 9)) w.heap.size (.slice (some ⟨w.heap.size, 0, none⟩) 1 1) [s] :=
  World.ownsRow_lit (size := 1) w #[.string (bs s)] 1 (Nat.le_refl _) (by decide) rfl
end Go.Proofs.Ytepedjnmliclkaa
