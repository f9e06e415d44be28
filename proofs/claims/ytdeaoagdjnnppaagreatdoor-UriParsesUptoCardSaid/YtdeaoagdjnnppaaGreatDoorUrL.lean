/- What the laws of addresses stand on, in plain Lean: no dots in a normal path, letters' case, codes of letters, the normal form's own normal form. No program here; no conditions but those that stand in each line. -/
import Derived.Test.YtdeaoagdjnnppaaGreatDoorUr
import Derived.Lib.ItoaMem
set_option linter.unusedVariables false
set_option linter.unusedSimpArgs false
namespace Go.Proofs.YtdeaoagdjnnppaaGreatDoor
namespace Ur
theorem low_tab : ∀ n : Fin 256, (hostC (low (UInt8.ofNat n.val)) == hostC (UInt8.ofNat n.val) && (low (low (UInt8.ofNat n.val)) == low (UInt8.ofNat n.val) && (okC (low (UInt8.ofNat n.val)) == okC (UInt8.ofNat n.val) && (stop (low (UInt8.ofNat n.val)) == stop (UInt8.ofNat n.val) && ((low (UInt8.ofNat n.val) == 58) == (UInt8.ofNat n.val == 58)))))) = true := by decide +kernel
theorem low_facts (c : UInt8) : hostC (low c) = hostC c ∧ low (low c) = low c ∧ okC (low c) = okC c ∧ stop (low c) = stop c ∧ (low c == 58) = (c == 58) := by
  obtain ⟨n, rfl⟩ := u8_fin c
  have := low_tab n
  simp only [Bool.and_eq_true, beq_iff_eq] at this
  exact this
theorem host_tab : ∀ n : Fin 256, (!hostC (UInt8.ofNat n.val) || (okC (UInt8.ofNat n.val) && (!stop (UInt8.ofNat n.val) && !(UInt8.ofNat n.val == 58)))) = true := by decide +kernel
theorem host_facts {c : UInt8} (h : hostC c = true) : okC c = true ∧ stop c = false ∧ c ≠ 58 := by
  obtain ⟨n, rfl⟩ := u8_fin c
  have := host_tab n
  rw [h] at this
  simpa using this
theorem fold_idem (s : List UInt8) : fold (fold s) = fold s := by
  unfold fold; rw [List.map_map]; exact List.map_congr_left fun c _ => (low_facts c).2.1
theorem hostB_fold (s : List UInt8) : hostB (fold s) = hostB s := by
  unfold hostB
  rw [fold_length]
  congr 1
  unfold fold
  rw [List.all_map]
  congr 1
  funext c; exact (low_facts c).1
theorem hostB_all {s : List UInt8} (h : hostB s = true) : s.all hostC = true ∧ s ≠ [] ∧ s.length ≤ 255 := by
  unfold hostB at h
  simp only [Bool.and_eq_true, decide_eq_true_eq] at h
  exact ⟨h.1, by rintro rfl; simp at h, h.2.2⟩
/- ports -/
theorem port_rng {d : List UInt8} (h : portV d ≠ 0) : 1 ≤ portV d ∧ portV d ≤ 65535 := by
  unfold portV at *
  split at h
  · exact absurd rfl h
  · rename_i h1
    rw [if_neg h1]
    split at h
    · exact absurd rfl h
    · rename_i h2
      rw [if_neg h2]
      have := (Dt.val_bd (t := d) (by
        rw [not_or, not_or] at h1
        simpa using h1.2.2)).1
      omega
theorem portD_rng {d : List UInt8} (h : portD d ≠ 0) : 1 ≤ portD d ∧ portD d ≤ 65535 := by
  unfold portD at *
  split at h
  · rename_i h1; rw [if_pos h1]; decide
  · rename_i h1; rw [if_neg h1]; exact port_rng h
theorem val_snoc (l : List UInt8) (c : UInt8) : Dt.val (l ++ [c]) = Dt.val l * 10 + ((c.toNat : Int) - 48) := by unfold Dt.val; rw [List.foldl_append]; rfl
theorem dec_digits : ∀ k : Nat, (Lib.decDigits k).all Dt.isD = true ∧ Dt.val (Lib.decDigits k) = k ∧ Lib.decDigits k ≠ [] := by
  intro k
  induction k using Nat.strongRecOn with
  | ind k ih =>
    rw [Lib.decDigits]
    by_cases h : k < 10
    · rw [dif_pos h]
      have h1 : (UInt8.ofNat (48 + k)).toNat = 48 + k := by rw [UInt8.toNat_ofNat']; omega
      refine ⟨?_, ?_, by simp⟩
      · simp [Dt.isD, h1]; omega
      · simp [Dt.val, h1]; omega
    · rw [dif_neg h]
      have := ih (k / 10) (by omega)
      have h1 : (UInt8.ofNat (48 + k % 10)).toNat = 48 + k % 10 := by rw [UInt8.toNat_ofNat']; omega
      refine ⟨?_, ?_, by simp⟩
      · rw [List.all_append, this.1]; simp [Dt.isD, h1]; omega
      · rw [val_snoc, this.2.1, h1]; omega
theorem dec_len5 {k : Nat} (h : k ≤ 65535) : (Lib.decDigits k).length ≤ 5 := by
  rw [Lib.decDigits_length]
  by_cases h1 : k < 10
  · rw [Lib.nDigits_small h1]; omega
  rw [Lib.nDigits_big h1]
  by_cases h2 : k / 10 < 10
  · rw [Lib.nDigits_small h2]; omega
  rw [Lib.nDigits_big h2]
  by_cases h3 : k / 10 / 10 < 10
  · rw [Lib.nDigits_small h3]; omega
  rw [Lib.nDigits_big h3]
  by_cases h4 : k / 10 / 10 / 10 < 10
  · rw [Lib.nDigits_small h4]; omega
  rw [Lib.nDigits_big h4, Lib.nDigits_small (by omega)]; omega
theorem itoa_port {p : Int} (h1 : 1 ≤ p) (h2 : p ≤ 65535) : portV (Lib.itoa p) = p ∧ (Lib.itoa p).all Dt.isD = true ∧ (Lib.itoa p).length ≤ 5 ∧ Lib.itoa p ≠ [] := by
  obtain ⟨k, rfl⟩ : ∃ k : Nat, p = k := ⟨p.toNat, by omega⟩
  rw [Lib.itoa_nonneg]
  obtain ⟨d1, d2, d3⟩ := dec_digits k
  have d4 := dec_len5 (k := k) (by omega)
  refine ⟨?_, d1, d4, d3⟩
  unfold portV
  rw [if_neg (by simp [d1, d3]; omega), if_neg (by rw [d2]; omega), d2]
/- reading -/
theorem behind_ok {h d q : List UInt8} {t : Tgt} (hp : behind h d q = (t, 0)) : hostB h = true ∧ portD d ≠ 0 ∧ ∃ r, dec q = some r ∧ t = (fold h, portD d, tidyL (cutA 63 r) ++ cutR 63 r) := by
  unfold behind at hp
  split at hp
  · cases hp
  · rename_i h1
    split at hp
    · cases hp
    · rename_i h2
      split at hp
      · cases hp
      · rename_i r hr
        cases hp
        exact ⟨by simpa using h1, h2, r, hr, rfl⟩
theorem restS_mem {b : UInt8} {s : List UInt8} (h : b ∈ restS s) : b ∈ s := (List.dropWhile_sublist _).mem h
theorem parse_ok {s : List UInt8} {t : Tgt} (hp : parseL s = (t, 0)) : ∃ h d q r, hostB h = true ∧ portD d ≠ 0 ∧ dec q = some r ∧ q.all okC = true ∧ t = (fold h, portD d, tidyL (cutA 63 r) ++ cutR 63 r) := by
  unfold parseL at hp
  split at hp
  · cases hp
  · split at hp
    · cases hp
    · rename_i h0
      split at hp
      · cases hp
      · obtain ⟨h1, h2, r, h3, h4⟩ := behind_ok hp
        refine ⟨_, _, _, r, h1, h2, h3, ?_, h4⟩
        have h0' : s.all okC = true := by simpa using h0
        rw [List.all_eq_true] at h0' ⊢
        exact fun b hb => h0' b (List.mem_of_mem_drop (restS_mem hb))
theorem parse_err {s : List UInt8} (hp : (parseL s).2 ≠ 0) : (parseL s).1 = noT := by
  unfold parseL at *
  split
  · rfl
  · rename_i h1
    rw [if_neg h1] at hp
    split
    · rfl
    · rename_i h2
      rw [if_neg h2] at hp
      split
      · rfl
      · rename_i h3
        rw [if_neg h3] at hp
        unfold behind at *
        split
        · rfl
        · rename_i h4
          rw [if_neg h4] at hp
          split
          · rfl
          · rename_i h5
            rw [if_neg h5] at hp
            split
            · rfl
            · rename_i r hr
              rw [hr] at hp
              exact absurd rfl hp
/- no dots -/
theorem seg_mem {out : List (List UInt8)} {s x : List UInt8} (h : x ∈ seg out s) : x ∈ out ∨ (x = s ∧ dotB s = false) := by
  unfold seg at h
  split at h
  · exact .inl (List.dropLast_sublist _ |>.mem h)
  · rename_i h1
    split at h
    · exact .inl h
    · rename_i h2
      rcases List.mem_append.1 h with h | h
      · exact .inl h
      · refine .inr ⟨by simpa using h, ?_⟩
        unfold dotB; simp [h1, h2]
theorem foldl_mem : ∀ (l out : List (List UInt8)) {x : List UInt8}, x ∈ l.foldl seg out → x ∈ out ∨ (x ∈ l ∧ dotB x = false)
  | [], out, x, h => .inl h
  | s :: r, out, x, h => by
    rcases foldl_mem r (seg out s) h with h | h
    · rcases seg_mem h with h | ⟨rfl, h⟩
      · exact .inl h
      · exact .inr ⟨by simp, h⟩
    · exact .inr ⟨by simp [h.1], h.2⟩
theorem segs_mem {p x : List UInt8} (h : x ∈ segsL p) : x ∈ splitc 47 p ∧ dotB x = false := by
  rcases foldl_mem _ _ h with h | h
  · cases h
  · exact h
theorem outL_mem {p x : List UInt8} (h : x ∈ outL p) : dotB x = false ∧ (x = [] ∨ x ∈ splitc 47 p) := by
  unfold outL at h
  split at h
  · rcases List.mem_append.1 h with h | h
    · exact ⟨(segs_mem h).2, .inr (segs_mem h).1⟩
    · have : x = [] := by simpa using h
      subst this; exact ⟨rfl, .inl rfl⟩
  · exact ⟨(segs_mem h).2, .inr (segs_mem h).1⟩
theorem outL_free {p x : List UInt8} (h : x ∈ outL p) : ∀ b ∈ x, b ≠ 47 ∧ b ∈ p := by
  intro b hb
  rcases (outL_mem h).2 with rfl | h
  · cases hb
  · have := splitc_pieces h; exact ⟨this.1 b hb, this.2 b hb⟩
theorem foldl_plain : ∀ (l out : List (List UInt8)), (∀ x ∈ l, dotB x = false) → l.foldl seg out = out ++ l
  | [], out, _ => by simp
  | s :: r, out, h => by
    have hs := h s (by simp)
    unfold dotB at hs
    simp only [Bool.or_eq_false_iff, beq_eq_false_iff_ne] at hs
    rw [List.foldl_cons, show seg out s = out ++ [s] by unfold seg; rw [if_neg hs.2, if_neg hs.1], foldl_plain r _ fun x hx => h x (by simp [hx])]
    simp
theorem outL_ne (p : List UInt8) : outL p ≠ [] := by
  unfold outL
  split
  · simp
  · rename_i h
    unfold lastDot at h
    unfold segsL
    obtain ⟨i, x, hs⟩ : ∃ i x, splitc 47 p = i ++ [x] := ⟨_, _, (List.dropLast_concat_getLast (splitc_ne 47 p)).symm⟩
    rw [hs] at h ⊢
    rw [List.getLastD_concat] at h
    rw [List.foldl_append, List.foldl_cons, List.foldl_nil]
    unfold dotB at h
    simp only [Bool.or_eq_true, beq_iff_eq, not_or] at h
    unfold seg
    rw [if_neg h.2, if_neg h.1]; simp
/-- The segments that a normal path is made of. -/
def normP (p : List UInt8) : List (List UInt8) := if p = [] then [[]] else outL (p.drop 1)
theorem tidy_flat (p : List UInt8) : tidyL p = flatL (normP p) := by unfold tidyL normP; split <;> rfl
theorem normP_ne (p : List UInt8) : normP p ≠ [] := by unfold normP; split; simp; exact outL_ne _
theorem normP_mem {p x : List UInt8} (h : x ∈ normP p) : dotB x = false ∧ ∀ b ∈ x, b ≠ 47 ∧ b ∈ p := by
  unfold normP at h
  split at h
  · have : x = [] := by simpa using h
    subst this; exact ⟨rfl, fun b hb => by cases hb⟩
  · exact ⟨(outL_mem h).1, fun b hb => ⟨(outL_free h b hb).1, List.mem_of_mem_drop (outL_free h b hb).2⟩⟩
theorem split_flat : ∀ (l : List (List UInt8)), l ≠ [] → (∀ x ∈ l, ∀ b ∈ x, b ≠ 47) → splitc 47 ((flatL l).drop 1) = l
  | [], h, _ => absurd rfl h
  | [x], _, h => by
    have : (flatL [x]).drop 1 = x := by simp [flatL]
    rw [this, splitc_one (h x (by simp))]
  | x :: y :: r, _, h => by
    have ih := split_flat (y :: r) (by simp) fun z hz => h z (by simp [hz])
    have e : (flatL (x :: y :: r)).drop 1 = x ++ 47 :: (flatL (y :: r)).drop 1 := by simp [flatL]
    rw [e, splitc_of (h x (by simp)), ih]
theorem tidy_idem (p : List UInt8) : tidyL (tidyL p) = tidyL p := by
  have h1 := normP_ne p
  have h2 : ∀ x ∈ normP p, dotB x = false := fun x hx => (normP_mem hx).1
  have h3 : ∀ x ∈ normP p, ∀ b ∈ x, b ≠ 47 := fun x hx b hb => ((normP_mem hx).2 b hb).1
  rw [tidy_flat p]
  generalize normP p = l at *
  have hs := split_flat l h1 h3
  have hne : flatL l ≠ [] := by cases l with
    | nil => exact absurd rfl h1
    | cons x r => simp [flatL]
  unfold tidyL
  rw [if_neg hne]
  unfold outL lastDot segsL
  rw [hs]
  have hl : dotB (l.getLastD []) = false := by
    obtain ⟨i, x, hx⟩ : ∃ i x, l = i ++ [x] := ⟨_, _, (List.dropLast_concat_getLast h1).symm⟩
    rw [hx, List.getLastD_concat]
    exact h2 x (by rw [hx]; simp)
  rw [hl, if_neg (by simp), foldl_plain l [] h2]; rfl
theorem tidy_head (p : List UInt8) : ∃ r, tidyL p = 47 :: r := by
  rw [tidy_flat]
  cases h : normP p with
  | nil => exact absurd h (normP_ne p)
  | cons x r => exact ⟨x ++ flatL r, by simp [flatL]⟩
theorem flat_mem {l : List (List UInt8)} {b : UInt8} (h : b ∈ flatL l) : b = 47 ∨ ∃ x ∈ l, b ∈ x := by
  unfold flatL at h
  simp only [List.mem_flatten, List.mem_map] at h
  obtain ⟨y, ⟨x, hx, rfl⟩, hb⟩ := h
  rcases List.mem_cons.1 hb with rfl | hb
  · exact .inl rfl
  · exact .inr ⟨x, hx, hb⟩
theorem tidy_mem {p : List UInt8} {b : UInt8} (h : b ∈ tidyL p) : b = 47 ∨ b ∈ p := by
  rw [tidy_flat] at h
  rcases flat_mem h with h | ⟨x, hx, hb⟩
  · exact .inl h
  · exact .inr ((normP_mem hx).2 b hb).2
theorem tidy_nodot (p : List UInt8) : ∀ x ∈ splitc 47 ((tidyL p).drop 1), dotB x = false := by
  rw [tidy_flat, split_flat _ (normP_ne p) fun x hx b hb => ((normP_mem hx).2 b hb).1]
  exact fun x hx => (normP_mem hx).1
/- codes that stay -/
inductive Norm : List UInt8 → Prop
  | nil : Norm []
  | one {c : UInt8} {r : List UInt8} : c ≠ 37 → Norm r → Norm (c :: r)
  | three {x y : Nat} {r : List UInt8} : x < 16 → y < 16 → unres (UInt8.ofNat (16 * x + y)) = false → Norm r → Norm (37 :: hexU x :: hexU y :: r)
theorem hexU_tab : ∀ x : Fin 16, (hexv (hexU x.val) == some x.val && (okC (hexU x.val) && (!(hexU x.val == 47) && (!(hexU x.val == 63))))) = true := by decide +kernel
theorem hexU_facts {x : Nat} (h : x < 16) : hexv (hexU x) = some x ∧ okC (hexU x) = true ∧ hexU x ≠ 47 ∧ hexU x ≠ 63 := by
  have := hexU_tab ⟨x, h⟩
  simpa using this
theorem unres_tab : ∀ n : Fin 256, (!unres (UInt8.ofNat n.val) || (okC (UInt8.ofNat n.val) && (!(UInt8.ofNat n.val == 37) && (!(UInt8.ofNat n.val == 47) && !(UInt8.ofNat n.val == 63))))) = true := by decide +kernel
theorem unres_facts {c : UInt8} (h : unres c = true) : okC c = true ∧ c ≠ 37 ∧ c ≠ 47 ∧ c ≠ 63 := by
  obtain ⟨n, rfl⟩ := u8_fin c
  have := unres_tab n
  rw [h] at this
  simpa using this
theorem norm_stays {s : List UInt8} (h : Norm s) : dec s = some s := by
  induction h with
  | nil => rfl
  | one hc _ ih => rw [dec_plain _ hc, ih]; rfl
  | three hx hy hu _ ih =>
    rw [dec_code _ (hexU_facts hx).1 (hexU_facts hy).1, ih]
    unfold code
    rw [if_neg (by rw [hu]; simp)]; rfl
theorem nd_plain {c : UInt8} {t r : List UInt8} (hc : c ≠ 37) (h : dec (c :: t) = some r) (ih : ∀ {v : List UInt8}, dec t = some v → Norm v ∧ (t.all okC = true → v.all okC = true)) : Norm r ∧ ((c :: t).all okC = true → r.all okC = true) := by
  rw [dec_plain t hc] at h
  rcases hd : dec t with _ | v
  · rw [hd] at h; cases h
  rw [hd] at h
  cases h
  have ih := ih hd
  refine ⟨.one hc ih.1, fun ha => ?_⟩
  simp only [List.all_cons, Bool.and_eq_true] at ha ⊢
  exact ⟨ha.1, ih.2 ha.2⟩
theorem nd_code {a b : UInt8} {u r : List UInt8} (h : dec (37 :: a :: b :: u) = some r) (ih : ∀ {v : List UInt8}, dec u = some v → Norm v ∧ (u.all okC = true → v.all okC = true)) : Norm r ∧ ((37 :: a :: b :: u).all okC = true → r.all okC = true) := by
  rcases hxa : hexv a with _ | x
  · rw [dec_bad u (.inl hxa)] at h; cases h
  rcases hyb : hexv b with _ | y
  · rw [dec_bad u (.inr hyb)] at h; cases h
  rw [dec_code u hxa hyb] at h
  rcases hd : dec u with _ | v
  · rw [hd] at h; cases h
  rw [hd] at h
  simp only [Option.map_some, Option.some.injEq] at h
  subst h
  have ih := ih hd
  have hx := hexv_lt hxa
  have hy := hexv_lt hyb
  unfold code
  cases hu : unres (UInt8.ofNat (16 * x + y))
  · rw [if_neg (by simp)]
    refine ⟨.three hx hy hu ih.1, fun ha => ?_⟩
    simp only [List.all_cons, Bool.and_eq_true] at ha
    simp only [List.cons_append, List.nil_append, List.all_cons, Bool.and_eq_true]
    exact ⟨by decide, (hexU_facts hx).2.1, (hexU_facts hy).2.1, ih.2 ha.2.2.2⟩
  · rw [if_pos rfl]
    have := unres_facts hu
    refine ⟨.one this.2.1 ih.1, fun ha => ?_⟩
    simp only [List.all_cons, Bool.and_eq_true] at ha
    simp only [List.cons_append, List.nil_append, List.all_cons, Bool.and_eq_true]
    exact ⟨this.1, ih.2 ha.2.2.2⟩
theorem norm_dec : ∀ (s : List UInt8) {r : List UInt8}, dec s = some r → Norm r ∧ (s.all okC = true → r.all okC = true)
  | [], r, h => by cases h; exact ⟨.nil, fun _ => rfl⟩
  | [c], r, h => by
    by_cases hc : c = 37
    · subst hc; cases h
    · exact nd_plain hc h fun hv => norm_dec [] hv
  | [c, a], r, h => by
    by_cases hc : c = 37
    · subst hc; cases h
    · exact nd_plain hc h fun hv => norm_dec [a] hv
  | c :: a :: b :: u, r, h => by
    by_cases hc : c = 37
    · subst hc; exact nd_code h fun hv => norm_dec u hv
    · exact nd_plain hc h fun hv => norm_dec (a :: b :: u) hv
theorem Norm.app {a b : List UInt8} (ha : Norm a) (hb : Norm b) : Norm (a ++ b) := by
  induction ha with
  | nil => exact hb
  | one hc _ ih => exact .one hc ih
  | three hx hy hu _ ih => exact .three hx hy hu ih
theorem Norm.cut {s : List UInt8} (h : Norm s) : Norm (cutA 63 s) ∧ Norm (cutR 63 s) := by
  induction h with
  | nil => exact ⟨.nil, .nil⟩
  | @one c r hc hr ih =>
    by_cases h63 : c = 63
    · subst h63; rw [cutA_eq, cutR_eq]; exact ⟨.nil, .one hc hr⟩
    · rw [cutA_ne r h63, cutR_ne r h63]; exact ⟨.one hc ih.1, ih.2⟩
  | three hx hy hu hr ih =>
    have h1 := (hexU_facts hx).2.2.2
    have h2 := (hexU_facts hy).2.2.2
    rw [cutA_ne _ (by decide), cutA_ne _ h1, cutA_ne _ h2, cutR_ne _ (by decide), cutR_ne _ h1, cutR_ne _ h2]
    exact ⟨.three hx hy hu ih.1, ih.2⟩
theorem splitc_cons_ne {b : UInt8} {r : List UInt8} (h : b ≠ 47) : ∃ q t, splitc 47 r = q :: t ∧ splitc 47 (b :: r) = (b :: q) :: t := by
  cases hs : splitc 47 r with
  | nil => exact absurd hs (splitc_ne 47 r)
  | cons q t => exact ⟨q, t, rfl, by rw [splitc, if_neg h, hs]; rfl⟩
theorem Norm.split {s : List UInt8} (h : Norm s) : ∀ p ∈ splitc 47 s, Norm p := by
  induction h with
  | nil => intro p hp; simp [splitc] at hp; subst hp; exact .nil
  | @one c r hc hr ih =>
    intro p hp
    by_cases h47 : c = 47
    · subst h47
      rw [splitc, if_pos rfl] at hp
      rcases List.mem_cons.1 hp with rfl | hp
      · exact .nil
      · exact ih p hp
    · obtain ⟨q, t, e1, e2⟩ := splitc_cons_ne (r := r) h47
      rw [e2] at hp
      rw [e1] at ih
      rcases List.mem_cons.1 hp with rfl | hp
      · exact .one hc (ih q (by simp))
      · exact ih p (by simp [hp])
  | @three x y r hx hy hu hr ih =>
    intro p hp
    obtain ⟨q1, t1, e1, f1⟩ := splitc_cons_ne (r := r) (hexU_facts hy).2.2.1
    obtain ⟨q2, t2, e2, f2⟩ := splitc_cons_ne (r := hexU y :: r) (hexU_facts hx).2.2.1
    obtain ⟨q3, t3, e3, f3⟩ := splitc_cons_ne (b := 37) (r := hexU x :: hexU y :: r) (by decide)
    rw [f3] at hp
    rw [f2] at e3
    rw [f1] at e2
    cases e2
    cases e3
    rw [e1] at ih
    rcases List.mem_cons.1 hp with rfl | hp
    · exact .three hx hy hu (ih q1 (by simp))
    · exact ih p (by simp [hp])
theorem Norm.flat : ∀ (l : List (List UInt8)), (∀ x ∈ l, Norm x) → Norm (flatL l)
  | [], _ => .nil
  | x :: r, h => by
    have : flatL (x :: r) = (47 :: x) ++ flatL r := by simp [flatL]
    rw [this]
    exact .app (.one (by decide) (h x (by simp))) (Norm.flat r fun y hy => h y (by simp [hy]))
theorem Norm.drop1 {s : List UInt8} (h : Norm (47 :: s)) : Norm s := by
  cases h with
  | one _ h => exact h
theorem norm_tidy {p : List UInt8} (h : Norm p) (hp : p = [] ∨ ∃ r, p = 47 :: r) : Norm (tidyL p) := by
  rw [tidy_flat]
  refine Norm.flat _ fun x hx => ?_
  unfold normP at hx
  rcases hp with rfl | ⟨r, rfl⟩
  · have : x = [] := by simpa using hx
    subst this; exact .nil
  · rw [if_neg (by simp)] at hx
    rcases (outL_mem hx).2 with rfl | hm
    · exact .nil
    · exact h.drop1.split x hm
/- the round -/
theorem name_of : ∀ {a r : List UInt8}, (∀ b ∈ a, stop b = false) → (r = [] ∨ ∃ c t, r = c :: t ∧ stop c = true) → nameS (a ++ r) = a ∧ restS (a ++ r) = r
  | [], r, _, hr => by
    rcases hr with rfl | ⟨c, t, rfl, hc⟩
    · exact ⟨rfl, rfl⟩
    · unfold nameS restS; simp [hc]
  | b :: a, r, ha, hr => by
    have ih := name_of (a := a) (r := r) (fun x hx => ha x (by simp [hx])) hr
    have hb := ha b (by simp)
    unfold nameS restS at *
    rw [List.cons_append, List.takeWhile_cons, List.dropWhile_cons, hb]
    simp only [Bool.not_false, if_true]
    rw [ih.1, ih.2]; exact ⟨rfl, rfl⟩
theorem restS_head (s : List UInt8) : restS s = [] ∨ ∃ c t, restS s = c :: t ∧ stop c = true := by
  induction s with
  | nil => exact .inl rfl
  | cons b r ih =>
    unfold restS at *
    rw [List.dropWhile_cons]
    cases hb : stop b
    · simpa using ih
    · exact .inr ⟨b, r, by simp, hb⟩
theorem dec_head {q r : List UInt8} (h : dec q = some r) (hq : q = [] ∨ ∃ c t, q = c :: t ∧ stop c = true) : r = [] ∨ ∃ c t, r = c :: t ∧ stop c = true := by
  rcases hq with rfl | ⟨c, t, rfl, hc⟩
  · cases h; exact .inl rfl
  · have h37 : c ≠ 37 := by rintro rfl; cases hc
    rw [dec_plain t h37] at h
    cases hd : dec t with
    | none => rw [hd] at h; cases h
    | some v => rw [hd] at h; cases h; exact .inr ⟨c, v, rfl, hc⟩
theorem cut_head {r : List UInt8} (h : r = [] ∨ ∃ c t, r = c :: t ∧ stop c = true) : cutA 63 r = [] ∨ ∃ t, cutA 63 r = 47 :: t := by
  rcases h with rfl | ⟨c, t, rfl, hc⟩
  · exact .inl rfl
  · by_cases h63 : c = 63
    · subst h63; exact .inl (cutA_eq _ _)
    · have : c = 47 := by unfold stop at hc; simpa [h63] using hc
      subst this
      exact .inr ⟨_, cutA_ne _ h63⟩
theorem cutR_head (r : List UInt8) : cutR 63 r = [] ∨ ∃ t, cutR 63 r = 63 :: t := by
  cases h : hasC 63 r
  · exact .inl (cut_no h)
  · exact .inr ⟨_, cut_yes h⟩
/-- What is read, with all that is known of it. -/
structure Good (t : Tgt) : Prop where
  host : hostB t.1 = true
  small : fold t.1 = t.1
  p1 : 1 ≤ t.2.1
  p2 : t.2.1 ≤ 65535
  path : ∃ p r, t.2.2 = tidyL p ++ r ∧ (r = [] ∨ ∃ u, r = 63 :: u) ∧ (∀ b ∈ tidyL p, b ≠ 63) ∧ Norm (tidyL p ++ r) ∧ (tidyL p ++ r).all okC = true
theorem parse_good {s : List UInt8} {t : Tgt} (hp : parseL s = (t, 0)) : Good t := by
  have hp0 := hp
  unfold parseL at hp
  split at hp
  · cases hp
  split at hp
  · cases hp
  rename_i h0
  split at hp
  · cases hp
  obtain ⟨h1, h2, r, h3, rfl⟩ := behind_ok hp
  have h0' : s.all okC = true := by simpa using h0
  have hq : (restS (s.drop 7)).all okC = true := by
    rw [List.all_eq_true] at h0' ⊢
    exact fun b hb => h0' b (List.mem_of_mem_drop (restS_mem hb))
  obtain ⟨hn, ho⟩ := norm_dec _ h3
  have ho := ho hq
  have hh := dec_head h3 (restS_head _)
  have hr := portD_rng h2
  refine ⟨by rw [hostB_fold]; exact h1, fold_idem _, hr.1, hr.2, cutA 63 r, cutR 63 r, rfl, cutR_head r, fun b hb => ?_, ?_, ?_⟩
  · rcases tidy_mem hb with rfl | hb
    · decide
    · exact cutA_free 63 r b hb
  · exact .app (norm_tidy hn.cut.1 (cut_head hh)) hn.cut.2
  · rw [List.all_eq_true] at ho ⊢
    intro b hb
    rcases List.mem_append.1 hb with hb | hb
    · rcases tidy_mem hb with rfl | hb
      · decide
      · exact ho b (cutA_mem hb)
    · exact ho b (cutR_mem hb)
theorem isD_facts {c : UInt8} (h : Dt.isD c = true) : okC c = true ∧ stop c = false := by
  have := Dt.isD_bd h
  have hn : ∀ k : UInt8, (k.toNat < 48 ∨ 57 < k.toNat) → c ≠ k := fun k hk e => by subst e; omega
  unfold okC stop
  refine ⟨?_, ?_⟩
  · have := hn 35 (by decide)
    simp [this]; omega
  · simp [hn 47 (by decide), hn 63 (by decide)]
theorem good_path {t : Tgt} (g : Good t) : dec t.2.2 = some t.2.2 ∧ tidyL (cutA 63 t.2.2) ++ cutR 63 t.2.2 = t.2.2 ∧ t.2.2.all okC = true ∧ ∃ u, t.2.2 = 47 :: u := by
  obtain ⟨p, r, e, hr, hf, hn, ho⟩ := g.path
  have hc : cutA 63 t.2.2 = tidyL p ∧ cutR 63 t.2.2 = r := by
    rw [e]
    rcases hr with rfl | ⟨u, rfl⟩
    · rw [List.append_nil]; exact cut_none _ hf
    · exact cut_of u _ hf
  refine ⟨by rw [e]; exact norm_stays hn, by rw [hc.1, hc.2, tidy_idem, e], by rw [e]; exact ho, ?_⟩
  obtain ⟨u, hu⟩ := tidy_head p
  exact ⟨u ++ r, by rw [e, hu]; rfl⟩
theorem round {t : Tgt} (g : Good t) (hl : (showL t).length ≤ 4096) : parseL (showL t) = (t, 0) := by
  obtain ⟨g1, g2, g3, g4⟩ := good_path g
  obtain ⟨h1, h2, h3⟩ := hostB_all g.host
  obtain ⟨u, hu⟩ := g4
  obtain ⟨i1, i2, i3, i4⟩ := itoa_port g.p1 g.p2
  have hall : ∀ b ∈ t.1, okC b = true ∧ stop b = false ∧ b ≠ 58 := fun b hb => host_facts (List.all_eq_true.1 h1 b hb)
  have hd : ∀ b ∈ Lib.itoa t.2.1, okC b = true ∧ stop b = false := fun b hb => isD_facts (List.all_eq_true.1 i2 b hb)
  generalize hP : (if t.2.1 = 80 then [] else 58 :: Lib.itoa t.2.1 : List UInt8) = P at *
  have hPm : ∀ b ∈ P, okC b = true ∧ stop b = false := by
    intro b hb
    rw [← hP] at hb
    split at hb
    · cases hb
    · rcases List.mem_cons.1 hb with rfl | hb
      · decide
      · exact hd b hb
  have he : showL t = sch ++ (t.1 ++ P ++ t.2.2) := by unfold showL; rw [hP]; simp
  have hok : (showL t).all okC = true := by
    rw [he, List.all_append, List.all_append, List.all_append, g3]
    rw [show sch.all okC = true from by decide]
    simp only [Bool.true_and, Bool.and_true, Bool.and_eq_true, List.all_eq_true]
    exact ⟨fun b hb => (hall b hb).1, fun b hb => (hPm b hb).1⟩
  have ht : (showL t).take 7 = sch := by rw [he]; exact List.take_left' rfl
  have hdr : (showL t).drop 7 = t.1 ++ P ++ t.2.2 := by rw [he]; exact List.drop_left' rfl
  have hnm := name_of (a := t.1 ++ P) (r := t.2.2) (fun b hb => by
    rcases List.mem_append.1 hb with hb | hb
    · exact (hall b hb).2.1
    · exact (hPm b hb).2) (.inr ⟨47, u, hu, by decide⟩)
  unfold parseL
  rw [if_neg (by omega), if_neg (by rw [hok]; simp), ht, if_neg (by decide), hdr, hnm.1, hnm.2]
  have hcut : cutA 58 (t.1 ++ P) = t.1 ∧ portD (cutB 58 (t.1 ++ P)) = t.2.1 := by
    rw [← hP]
    by_cases h80 : t.2.1 = 80
    · rw [if_pos h80, List.append_nil]
      have := cut_none t.1 fun b hb => (hall b hb).2.2
      refine ⟨this.1, ?_⟩
      unfold cutB; rw [this.2, h80]; rfl
    · rw [if_neg h80]
      have := cut_of (Lib.itoa t.2.1) t.1 fun b hb => (hall b hb).2.2
      refine ⟨this.1, ?_⟩
      unfold cutB portD
      rw [this.2, List.drop_one, List.tail_cons, if_neg i4, i1]
  unfold behind
  rw [hcut.1, hcut.2, g.host, if_neg (by simp), if_neg (by have := g.p1; omega), g1]
  simp only
  rw [g2, g.small]
theorem round_auth {t : Tgt} (g : Good t) : authL (origL t) = ((t.1, t.2.1, []), 0) := by
  obtain ⟨h1, h2, h3⟩ := hostB_all g.host
  obtain ⟨i1, i2, i3, i4⟩ := itoa_port g.p1 g.p2
  have hcut := cut_of (Lib.itoa t.2.1) t.1 fun b hb => (host_facts (List.all_eq_true.1 h1 b hb)).2.2
  have hB : cutB 58 (origL t) = Lib.itoa t.2.1 := by unfold origL cutB; rw [hcut.2]; rfl
  have hA : cutA 58 (origL t) = t.1 := hcut.1
  have hl : (origL t).length ≤ 4096 := by unfold origL; simp; omega
  unfold authL
  rw [if_neg (by omega), hA, hB, g.host, if_neg (by simp), i1, if_neg (by have := g.p1; omega), g.small]
/- letters' case, the default port -/
theorem all_fold (s : List UInt8) : (fold s).all okC = s.all okC := by
  unfold fold; rw [List.all_map]; congr 1; funext c; exact (low_facts c).2.2.1
theorem same_gen {host rest P X : List UInt8} (hh : ∀ b ∈ host, stop b = false ∧ b ≠ 58) (hr : rest = [] ∨ ∃ c t, rest = c :: t ∧ stop c = true)
    (hX : fold X = sch) (hXl : X.length = 7) (hXo : X.all okC = true) (hP : P = [] ∨ ∃ d, P = 58 :: d ∧ portD d = 80 ∧ (∀ b ∈ d, stop b = false) ∧ d.all okC = true) (hlen : host.length + rest.length ≤ 4000) (hPl : P.length ≤ 20) :
    parseL (X ++ (host ++ P ++ rest)) = if (host ++ rest).all okC = false then (noT, 30) else behind host [] rest := by
  have hnm := name_of (a := host ++ P) (r := rest) (fun b hb => by
    rcases List.mem_append.1 hb with hb | hb
    · exact (hh b hb).1
    · rcases hP with rfl | ⟨d, rfl, _, hd, _⟩
      · cases hb
      · rcases List.mem_cons.1 hb with rfl | hb
        · decide
        · exact hd b hb) hr
  have hPo : P.all okC = true := by
    rcases hP with rfl | ⟨d, rfl, _, _, hd⟩
    · rfl
    · rw [List.all_cons, hd]; decide
  have hcut : cutA 58 (host ++ P) = host ∧ portD (cutB 58 (host ++ P)) = 80 := by
    rcases hP with rfl | ⟨d, rfl, h80, _, _⟩
    · rw [List.append_nil]
      have := cut_none host fun b hb => (hh b hb).2
      refine ⟨this.1, ?_⟩
      unfold cutB; rw [this.2]; rfl
    · have := cut_of d host fun b hb => (hh b hb).2
      refine ⟨this.1, ?_⟩
      unfold cutB; rw [this.2, List.drop_one, List.tail_cons, h80]
  unfold parseL
  have e1 : (X ++ (host ++ P ++ rest)).all okC = (host ++ rest).all okC := by
    rw [List.all_append, List.all_append, List.all_append, List.all_append, hXo, hPo]; simp
  rw [if_neg (by simp; omega), e1, List.take_left' hXl, List.drop_left' hXl]
  by_cases ho : (host ++ rest).all okC = false
  · rw [if_pos ho, if_pos ho]
  · rw [if_neg ho, if_neg ho, if_neg (show ¬ fold X ≠ sch from fun h => h hX), hnm.1, hnm.2, hcut.1]
    unfold behind
    rw [hcut.2]
    rfl
theorem behind_fold (host rest : List UInt8) : behind (fold host) [] rest = behind host [] rest := by
  unfold behind; rw [hostB_fold, fold_idem]
theorem same_all {host rest : List UInt8} (hh : ∀ b ∈ host, stop b = false ∧ b ≠ 58) (hr : rest = [] ∨ ∃ c t, rest = c :: t ∧ stop c = true) (hlen : host.length + rest.length ≤ 4000) :
    parseL (sch ++ host ++ rest) = parseL ([104, 84, 84, 112, 58, 47, 47] ++ fold host ++ [58, 56, 48] ++ rest) ∧ parseL (sch ++ host ++ rest) = parseL (sch ++ host ++ [58] ++ rest) := by
  have h1 := same_gen (P := []) (X := sch) hh hr (by decide) rfl (by decide) (.inl rfl) hlen (by simp)
  have h2 := same_gen (P := [58]) (X := sch) hh hr (by decide) rfl (by decide) (.inr ⟨[], rfl, rfl, by simp, rfl⟩) hlen (by simp)
  have hh3 : ∀ b ∈ fold host, stop b = false ∧ b ≠ 58 := by
    intro b hb
    unfold fold at hb
    obtain ⟨c, hc, rfl⟩ := List.mem_map.1 hb
    have f := low_facts c
    have := hh c hc
    refine ⟨by rw [f.2.2.2.1]; exact this.1, ?_⟩
    have h5 := f.2.2.2.2
    rw [show (c == 58) = false from by simpa using this.2] at h5
    simpa using h5
  have h3 := same_gen (P := [58, 56, 48]) (X := [104, 84, 84, 112, 58, 47, 47]) hh3 hr (by decide) rfl (by decide) (.inr ⟨[56, 48], rfl, by decide, by decide, by decide⟩) (by rw [fold_length]; exact hlen) (by simp)
  have e : (fold host ++ rest).all okC = (host ++ rest).all okC := by rw [List.all_append, List.all_append, all_fold]
  rw [e, behind_fold] at h3
  simp only [List.append_assoc, List.nil_append, List.append_nil] at h1 h2 h3 ⊢
  exact ⟨h1.trans h3.symm, h1.trans h2.symm⟩
/- codes of letters -/
theorem hex_low {x : Nat} (h : x < 16) : hexv ((if x < 10 then UInt8.ofNat (48 + x) else UInt8.ofNat (87 + x))) = some x := by
  have : ∀ x : Fin 16, hexv ((if x.val < 10 then UInt8.ofNat (48 + x.val) else UInt8.ofNat (87 + x.val))) = some x.val := by decide
  exact this ⟨x, h⟩
theorem letter_code : ∀ c : Fin 26, ∃ x y, hexv (UInt8.ofNat (48 + (97 + c.val) / 16)) = some x ∧ hexv (if (97 + c.val) % 16 < 10 then UInt8.ofNat (48 + (97 + c.val) % 16) else UInt8.ofNat (87 + (97 + c.val) % 16)) = some y ∧ code x y = [UInt8.ofNat (97 + c.val)] := fun c => by
  have h : (match hexv (UInt8.ofNat (48 + (97 + c.val) / 16)), hexv (if (97 + c.val) % 16 < 10 then UInt8.ofNat (48 + (97 + c.val) % 16) else UInt8.ofNat (87 + (97 + c.val) % 16)) with | some x, some y => code x y == [UInt8.ofNat (97 + c.val)] | _, _ => false) = true := by
    revert c; decide +kernel
  split at h
  · rename_i x y hx hy; exact ⟨x, y, hx, hy, by simpa using h⟩
  · cases h
theorem codes {a b : List UInt8} {c d1 d2 : UInt8} {x y : Nat} (ha : ∀ u ∈ a, u ≠ 37) (h1 : hexv d1 = some x) (h2 : hexv d2 = some y) (hc : code x y = [c]) (hcs : stop c = false) (hc37 : c ≠ 37) (hco : okC c = true) (hd1 : okC d1 = true) (hd2 : okC d2 = true) (hlen : a.length + b.length ≤ 4000) :
    parseL (sch ++ [104, 47] ++ a ++ [c] ++ b) = parseL (sch ++ [104, 47] ++ a ++ [37, d1, d2] ++ b) := by
  have hdec : dec (47 :: (a ++ ([c] ++ b))) = dec (47 :: (a ++ ([37, d1, d2] ++ b))) := by
    rw [dec_plain _ (by decide), dec_plain _ (by decide), dec_app a _ ha, dec_app a _ ha]
    rw [show [c] ++ b = c :: b from rfl, dec_plain b hc37, show [37, d1, d2] ++ b = 37 :: d1 :: d2 :: b from rfl, dec_code b h1 h2, hc]; rfl
  have hA : ∀ r : List UInt8, nameS ([104] ++ 47 :: r) = [104] ∧ restS ([104] ++ 47 :: r) = 47 :: r := fun r => name_of (by decide) (.inr ⟨47, r, rfl, by decide⟩)
  have e : ∀ m : List UInt8, sch ++ [104, 47] ++ a ++ m ++ b = sch ++ ([104] ++ 47 :: (a ++ (m ++ b))) := fun m => by simp
  rw [e, e]
  unfold parseL
  rw [List.take_left' (show sch.length = 7 from rfl), List.take_left' (show sch.length = 7 from rfl), List.drop_left' (show sch.length = 7 from rfl), List.drop_left' (show sch.length = 7 from rfl)]
  rw [(hA _).1, (hA _).2, (hA _).1, (hA _).2]
  have e1 : (sch ++ ([104] ++ 47 :: (a ++ ([c] ++ b)))).all okC = (sch ++ ([104] ++ 47 :: (a ++ ([37, d1, d2] ++ b)))).all okC := by
    simp only [List.all_append, List.all_cons, hco, hd1, hd2, show okC 37 = true from by decide, List.all_nil, Bool.true_and, Bool.and_true]
  have hl : ∀ m : List UInt8, m.length ≤ 3 → ¬ 4096 < (sch ++ ([104] ++ 47 :: (a ++ (m ++ b)))).length := fun m hm => by simp [sch]; omega
  rw [e1, if_neg (hl [c] (by simp)), if_neg (hl [37, d1, d2] (by simp))]
  unfold behind
  rw [hdec]
end Ur
end Go.Proofs.YtdeaoagdjnnppaaGreatDoor
