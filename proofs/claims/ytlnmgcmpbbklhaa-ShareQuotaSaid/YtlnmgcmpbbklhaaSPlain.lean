/- share: the plain laws of the divisions. -/
namespace Go.Proofs.Ytlnmgcmpbbklhaa
set_option linter.unusedSimpArgs false
set_option linter.unusedVariables false

def sumI : List Int → Int
  | [] => 0
  | x :: l => x + sumI l
theorem sumI_append (l k : List Int) : sumI (l ++ k) = sumI l + sumI k := by
  induction l with
  | nil => simp [sumI]
  | cons x l ih => simp [sumI, ih, Int.add_assoc]
theorem sumI_next (l : List Int) (k : Nat) (h : k < l.length) : sumI (l.take (k + 1)) = sumI (l.take k) + l.getD k 0 := by
  rw [List.take_succ_eq_append_getElem h, sumI_append]; simp [sumI, h]
theorem quota_prog {n w all h : Int} (ha : 0 < all) : (n / h * w / all) * h + ((n / h * w % all) * h + n % h * w) / all = n * w / all ∧ ((n / h * w % all) * h + n % h * w) % all = n * w % all := by
  have h1 := Int.mul_ediv_add_emod n h
  have h2 := Int.mul_ediv_add_emod (n / h * w) all
  have h3 : n * w = (n / h * w % all * h + n % h * w) + all * (n / h * w / all * h) := by
    generalize n / h = a at *; generalize n % h = b at *
    generalize a * w / all = c at *; generalize a * w % all = d at *
    grind
  rw [h3, Int.add_mul_ediv_left _ _ (by omega), Int.add_mul_emod_self_left]
  exact ⟨by omega, rfl⟩
theorem quota_ref {a b w all : Int} (ha : 0 < all) : (2 * a + b) * w / all = 2 * (a * w / all) + (2 * (a * w % all) + b * w) / all ∧ (2 * a + b) * w % all = (2 * (a * w % all) + b * w) % all := by
  have h2 := Int.mul_ediv_add_emod (a * w) all
  have h3 : (2 * a + b) * w = (2 * (a * w % all) + b * w) + all * (2 * (a * w / all)) := by
    generalize a * w / all = c at *; generalize a * w % all = d at *
    grind
  rw [h3, Int.add_mul_ediv_left _ _ (by omega), Int.add_mul_emod_self_left]
  exact ⟨by omega, rfl⟩

/-- The first of the greatest among the first m. -/
def argmaxF (key : Nat → Int) : Nat → Nat
  | 0 => 0
  | i + 1 => if key (argmaxF key i) < key i then i else argmaxF key i
theorem argmax_spec (key : Nat → Int) (m : Nat) : (0 < m → argmaxF key m < m) ∧ (∀ j, j < m → key j ≤ key (argmaxF key m)) ∧ ∀ j, j < argmaxF key m → key j < key (argmaxF key m) := by
  induction m with
  | zero => exact ⟨by omega, fun j hj => absurd hj (by omega), fun j hj => absurd hj (by simp [argmaxF])⟩
  | succ m ih =>
    obtain ⟨h1, h2, h3⟩ := ih
    unfold argmaxF
    split
    · rename_i hlt
      refine ⟨fun _ => by omega, fun j hj => ?_, fun j hj => ?_⟩
      · by_cases hjm : j < m
        · have := h2 j hjm; omega
        · have : j = m := by omega
          subst this; omega
      · have := h2 j hj; omega
    · rename_i hlt
      refine ⟨fun _ => ?_, fun j hj => ?_, h3⟩
      · by_cases h0 : 0 < m
        · have := h1 h0; omega
        · have hm : m = 0 := by omega
          subst hm; simp [argmaxF]
      · by_cases hjm : j < m
        · exact h2 j hjm
        · have : j = m := by omega
          subst this; omega
theorem argmax_unique {key : Nat → Int} {m x : Nat} (hx : x < m) (h1 : ∀ j, j < m → key j ≤ key x) (h2 : ∀ j, j < x → key j < key x) : argmaxF key m = x := by
  obtain ⟨a1, a2, a3⟩ := argmax_spec key m
  have a1 := a1 (by omega)
  rcases Nat.lt_trichotomy (argmaxF key m) x with h | h | h
  · have := h2 _ h; have := a2 x hx; omega
  · exact h
  · have := a3 _ h; have := h1 _ a1; omega

/-- The order in which what is left is given. -/
def ahead (R : List Int) (i j : Nat) : Prop := R.getD j 0 < R.getD i 0 ∨ (R.getD i 0 = R.getD j 0 ∧ i < j)
def SortedBy (R : List Int) (m : Nat) (S : List Nat) : Prop := S.Perm (List.range m) ∧ S.Pairwise (ahead R)
def bump (o : List Int) (i : Nat) : List Int := o.set i (o.getD i 0 + 1)
def bumps (o : List Int) (l : List Nat) : List Int := l.foldl bump o
def mark (R : List Int) (l : List Nat) : List Int := l.foldl (fun r i => r.set i (-1)) R
theorem bump_length (o : List Int) (i : Nat) : (bump o i).length = o.length := by simp [bump]
theorem bumps_length (o : List Int) (l : List Nat) : (bumps o l).length = o.length := by
  induction l generalizing o with
  | nil => rfl
  | cons x l ih => simp only [bumps, List.foldl_cons] at ih ⊢; rw [ih, bump_length]
theorem getD_set_eq (l : List Int) (j : Nat) (x : Int) (h : j < l.length) : (l.set j x).getD j 0 = x := by
  simp [List.getD_eq_getElem?_getD, h]
theorem getD_set_ne (l : List Int) (j i : Nat) (x : Int) (h : j ≠ i) : (l.set j x).getD i 0 = l.getD i 0 := by
  simp [List.getD_eq_getElem?_getD, List.getElem?_set, h]
theorem bump_at (o : List Int) (i j : Nat) (hj : j < o.length) : (bump o i).getD j 0 = if i = j then o.getD j 0 + 1 else o.getD j 0 := by
  unfold bump
  by_cases h : i = j
  · subst h; rw [if_pos rfl, getD_set_eq _ _ _ hj]
  · rw [if_neg h, getD_set_ne _ _ _ _ h]
theorem mark_length (R : List Int) (l : List Nat) : (mark R l).length = R.length := by
  induction l generalizing R with
  | nil => rfl
  | cons x l ih => simp only [mark, List.foldl_cons] at ih ⊢; rw [ih]; simp
theorem mark_at (R : List Int) (l : List Nat) (i : Nat) (hi : i < R.length) : (mark R l).getD i 0 = if i ∈ l then -1 else R.getD i 0 := by
  induction l generalizing R with
  | nil => simp [mark]
  | cons x l ih =>
    have : mark R (x :: l) = mark (R.set x (-1)) l := rfl
    rw [this, ih _ (by simpa using hi)]
    by_cases hl : i ∈ l
    · rw [if_pos hl, if_pos (by simp [hl])]
    · rw [if_neg hl]
      by_cases hx : x = i
      · subst hx; rw [getD_set_eq _ _ _ hi, if_pos (by simp)]
      · rw [getD_set_ne _ _ _ _ hx, if_neg (by simp [hl]; exact fun h => hx h.symm)]

/-- One unit more to the greatest rest. -/
def pick1 (m : Nat) (s : List Int × List Int) : List Int × List Int :=
  let b := argmaxF (fun i => s.2.getD i 0) m
  (bump s.1 b, s.2.set b (-1))
def pickN (m : Nat) : Nat → List Int × List Int → List Int × List Int
  | 0, s => s
  | t + 1, s => pick1 m (pickN m t s)
theorem mem_of_sorted {R : List Int} {m : Nat} {S : List Nat} (h : SortedBy R m S) (i : Nat) : i ∈ S ↔ i < m := by
  rw [h.1.mem_iff, List.mem_range]
theorem pick_next {R : List Int} {m : Nat} {A B : List Nat} {x : Nat} (hR : R.length = m) (h : SortedBy R m (A ++ x :: B)) (h0 : ∀ i, 0 ≤ R.getD i 0) :
    argmaxF (fun i => (mark R A).getD i 0) m = x := by
  have hmem := mem_of_sorted h
  have hnd : (A ++ x :: B).Nodup := h.1.nodup_iff.2 List.nodup_range
  have hxA : x ∉ A := fun hx => by
    rw [List.nodup_append] at hnd
    exact hnd.2.2 x hx x (by simp) rfl
  have hxm : x < m := (hmem x).1 (by simp)
  have hkx : (mark R A).getD x 0 = R.getD x 0 := by rw [mark_at _ _ _ (by omega), if_neg hxA]
  have hp := h.2
  rw [List.pairwise_append] at hp
  have hxB : ∀ y, y ∈ B → ahead R x y := (List.pairwise_cons.1 hp.2.1).1
  have key : ∀ j, j < m → j = x ∨ (mark R A).getD j 0 < (mark R A).getD x 0 ∨ ((mark R A).getD j 0 = (mark R A).getD x 0 ∧ x < j) := fun j hj => by
    rw [hkx, mark_at _ _ _ (by omega)]
    have hm := (hmem j).2 hj
    have hx0 := h0 x
    rw [List.mem_append, List.mem_cons] at hm
    by_cases hA : j ∈ A
    · rw [if_pos hA]; right; left; omega
    · rw [if_neg hA]
      rcases hm with hm | hm | hm
      · exact absurd hm hA
      · exact .inl hm
      · rcases hxB j hm with h1 | ⟨h1, h2⟩
        · exact .inr (.inl h1)
        · exact .inr (.inr ⟨h1.symm, h2⟩)
  refine argmax_unique hxm (fun j hj => ?_) (fun j hj => ?_)
  · rcases key j hj with h1 | h1 | h1
    · subst h1; omega
    · omega
    · omega
  · rcases key j (by omega) with h1 | h1 | h1
    · omega
    · exact h1
    · omega
theorem take_split {S : List Nat} {t : Nat} (ht : t < S.length) : S = S.take t ++ S.getD t 0 :: S.drop (t + 1) ∧ S.take (t + 1) = S.take t ++ [S.getD t 0] := by
  have h1 : S.getD t 0 = S[t] := by simp [List.getD_eq_getElem?_getD, ht]
  rw [h1]
  constructor
  · rw [List.getElem_cons_drop]; exact (List.take_append_drop t S).symm
  · rw [List.take_succ_eq_append_getElem ht]
/-- What is given one after the other is given to the first of the sorted ones. -/
theorem pickN_eq {R q : List Int} {m : Nat} {S : List Nat} (hR : R.length = m) (h : SortedBy R m S) (h0 : ∀ i, 0 ≤ R.getD i 0) (t : Nat) (ht : t ≤ m) :
    pickN m t (q, R) = (bumps q (S.take t), mark R (S.take t)) := by
  have hS : S.length = m := by rw [h.1.length_eq, List.length_range]
  induction t with
  | zero => rfl
  | succ t ih =>
    have ih := ih (by omega)
    obtain ⟨e1, e2⟩ := take_split (S := S) (t := t) (by omega)
    have hp := pick_next (A := S.take t) (x := S.getD t 0) (B := S.drop (t + 1)) hR (by rw [← e1]; exact h) h0
    rw [pickN, ih, e2]
    unfold pick1
    simp only
    rw [hp]
    simp [bumps, mark]

/-- Sorting: an element finds its place. -/
theorem insert_sorted {R : List Int} {l : List Nat} {i j : Nat} (h : SortedBy R i l) (hj : j ≤ l.length) (h1 : ∀ y, y ∈ l.drop j → R.getD y 0 < R.getD i 0) (h2 : ∀ k, k < j → R.getD i 0 ≤ R.getD (l.getD k 0) 0) :
    SortedBy R (i + 1) (l.take j ++ i :: l.drop j) := by
  have hlt : ∀ y, y ∈ l → y < i := fun y hy => (mem_of_sorted h y).1 hy
  constructor
  · rw [List.range_succ]
    refine (List.perm_middle).trans ?_
    rw [List.take_append_drop]
    exact (List.Perm.cons i h.1).trans (List.perm_append_comm (l₁ := [i]) (l₂ := List.range i))
  · have hp := h.2
    rw [← List.take_append_drop j l, List.pairwise_append] at hp
    rw [List.pairwise_append]
    refine ⟨hp.1, List.pairwise_cons.2 ⟨fun y hy => .inl (h1 y hy), hp.2.1⟩, fun y hy z hz => ?_⟩
    rw [List.mem_cons] at hz
    rcases hz with rfl | hz
    · obtain ⟨k, hk, rfl⟩ := List.getElem_of_mem hy
      rw [List.length_take] at hk
      have hyl : (l.take j)[k] ∈ l := List.mem_of_mem_take hy
      have := h2 k (by omega)
      have he : l.getD k 0 = (l.take j)[k] := by simp [List.getD_eq_getElem?_getD, show k < l.length by omega]
      rw [he] at this
      rcases Int.lt_or_eq_of_le this with h3 | h3
      · exact .inl h3
      · exact .inr ⟨h3.symm, hlt _ hyl⟩
    · exact hp.2.2 y hy z hz

/-- Where the next unit goes, by the divisors. -/
def bestF (w o : List Int) : Nat → Nat
  | 0 => 0
  | i + 1 => if w.getD (bestF w o i) 0 * (2 * o.getD i 0 + 1) < w.getD i 0 * (2 * o.getD (bestF w o i) 0 + 1) then i else bestF w o i
def highN (w : List Int) : Nat → List Int
  | 0 => List.replicate w.length 0
  | k + 1 => bump (highN w k) (bestF w (highN w k) w.length)
theorem highN_length (w : List Int) (k : Nat) : (highN w k).length = w.length := by
  induction k with
  | zero => simp [highN]
  | succ k ih => rw [highN, bump_length, ih]
theorem bestF_lt (w o : List Int) (m : Nat) (hm : 0 < m) : bestF w o m < m := by
  induction m with
  | zero => omega
  | succ m ih =>
    unfold bestF
    split
    · omega
    · by_cases h : 0 < m
      · have := ih h; omega
      · have : m = 0 := by omega
        subst this; simp [bestF]
theorem ratio_trans {a b c x y z : Int} (hx : 0 < x) (hy : 0 < y) (hz : 0 < z) (h1 : a * y ≤ b * x) (h2 : b * z ≤ c * y) : a * z ≤ c * x := by
  have e1 : a * y * z ≤ b * x * z := Int.mul_le_mul_of_nonneg_right h1 (by omega)
  have e2 : b * z * x ≤ c * y * x := Int.mul_le_mul_of_nonneg_right h2 (by omega)
  have e3 : (a * z) * y ≤ (c * x) * y := by
    have a1 : a * y * z = a * z * y := by grind
    have a2 : b * x * z = b * z * x := by grind
    have a3 : c * y * x = c * x * y := by grind
    omega
  exact Int.le_of_mul_le_mul_right e3 hy
theorem highN_nonneg (w : List Int) (k : Nat) : ∀ i, 0 ≤ (highN w k).getD i 0 := by
  induction k with
  | zero => intro i; unfold highN; by_cases h : i < w.length <;> simp [List.getD_eq_getElem?_getD, List.getElem?_replicate, h]
  | succ k ih =>
    intro i
    rw [highN]
    by_cases hi : i < (highN w k).length
    · rw [bump_at _ _ _ hi]; have := ih i; split <;> omega
    · rw [List.getD_eq_getElem?_getD, List.getElem?_eq_none (by rw [bump_length]; omega)]; simp
theorem best_spec (w o : List Int) (h0 : ∀ i, 0 ≤ o.getD i 0) (m : Nat) : ∀ j, j < m → w.getD j 0 * (2 * o.getD (bestF w o m) 0 + 1) ≤ w.getD (bestF w o m) 0 * (2 * o.getD j 0 + 1) := by
  induction m with
  | zero => intro j hj; omega
  | succ m ih =>
    intro j hj
    unfold bestF
    split
    · rename_i hlt
      by_cases hjm : j < m
      · exact ratio_trans (by have := h0 j; omega) (by have := h0 (bestF w o m); omega) (by have := h0 m; omega) (ih j hjm) (Int.le_of_lt hlt)
      · have : j = m := by omega
        subst this; exact Int.le_refl _
    · rename_i hlt
      by_cases hjm : j < m
      · exact ih j hjm
      · have : j = m := by omega
        subst this; omega
theorem sumI_set (l : List Int) (i : Nat) (x : Int) (hi : i < l.length) : sumI (l.set i x) = sumI l - l.getD i 0 + x := by
  induction l generalizing i with
  | nil => simp at hi
  | cons y l ih =>
    match i with
    | 0 => simp [sumI]; omega
    | i + 1 => simp only [List.set_cons_succ, sumI]; rw [ih i (by simpa using hi)]; simp; omega
theorem sumI_bump (l : List Int) (i : Nat) (hi : i < l.length) : sumI (bump l i) = sumI l + 1 := by
  unfold bump; rw [sumI_set _ _ _ hi]; omega
theorem sumI_replicate (n : Nat) : sumI (List.replicate n 0) = 0 := by
  induction n with
  | zero => rfl
  | succ n ih => simp [List.replicate_succ, sumI, ih]
theorem highN_sum (w : List Int) (hw : 0 < w.length) (k : Nat) : sumI (highN w k) = k := by
  induction k with
  | zero => rw [highN, sumI_replicate]; rfl
  | succ k ih => rw [highN, sumI_bump _ _ (by rw [highN_length]; exact bestF_lt _ _ _ hw), ih]; omega
/-- No unit that was given to a part would have gone to another one. -/
theorem highN_even (w : List Int) (hw : ∀ i, 0 ≤ w.getD i 0) (k : Nat) : ∀ i j, i < w.length → j < w.length → 0 < (highN w k).getD i 0 → (2 * (highN w k).getD i 0 - 1) * w.getD j 0 ≤ (2 * (highN w k).getD j 0 + 1) * w.getD i 0 := by
  induction k with
  | zero => intro i j hi hj h; unfold highN at h; simp [List.getD_eq_getElem?_getD, List.getElem?_replicate, hi] at h
  | succ k ih =>
    intro i j hi hj h
    rw [highN] at h ⊢
    have hlen := highN_length w k
    have hnn := highN_nonneg w k
    have hb := best_spec w (highN w k) hnn w.length
    have hbl := bestF_lt w (highN w k) w.length (by omega)
    generalize bestF w (highN w k) w.length = b at *
    have hwi := hw i
    have hwj := hw j
    rw [bump_at _ _ _ (by omega)] at h ⊢
    rw [bump_at _ _ _ (by omega)]
    have hij := ih i j hi hj
    have hbj := hb j hj
    have hni := hnn i
    have hnj := hnn j
    by_cases e1 : b = i
    · subst e1
      rw [if_pos rfl]
      have e3 : (2 * ((highN w k).getD b 0 + 1) - 1) * w.getD j 0 = w.getD j 0 * (2 * (highN w k).getD b 0 + 1) := by grind
      rw [e3]
      by_cases e2 : b = j
      · subst e2
        rw [if_pos rfl]
        have e4 : (2 * ((highN w k).getD b 0 + 1) + 1) * w.getD b 0 = w.getD b 0 * (2 * (highN w k).getD b 0 + 1) + 2 * w.getD b 0 := by grind
        omega
      · rw [if_neg e2]
        have e4 : (2 * (highN w k).getD j 0 + 1) * w.getD b 0 = w.getD b 0 * (2 * (highN w k).getD j 0 + 1) := by grind
        omega
    · rw [if_neg e1] at h ⊢
      have hij := hij h
      by_cases e2 : b = j
      · subst e2
        rw [if_pos rfl]
        have e4 : (2 * ((highN w k).getD b 0 + 1) + 1) * w.getD i 0 = (2 * (highN w k).getD b 0 + 1) * w.getD i 0 + 2 * w.getD i 0 := by grind
        omega
      · rw [if_neg e2]; exact hij
/-- Multiplied weights. -/
def scaled (w : List Int) (k : Int) : List Int := w.map (· * k)
theorem scaled_at (w : List Int) (k : Int) (i : Nat) : (scaled w k).getD i 0 = w.getD i 0 * k := by
  unfold scaled
  by_cases h : i < w.length
  · simp [List.getD_eq_getElem?_getD, h]
  · rw [List.getD_eq_getElem?_getD, List.getD_eq_getElem?_getD, List.getElem?_eq_none (by simpa using h), List.getElem?_eq_none (by omega)]; simp
theorem bestF_scaled (w o : List Int) (k : Int) (hk : 0 < k) (m : Nat) : bestF (scaled w k) o m = bestF w o m := by
  induction m with
  | zero => rfl
  | succ m ih =>
    unfold bestF
    rw [ih, scaled_at, scaled_at]
    have e1 : w.getD (bestF w o m) 0 * k * (2 * o.getD m 0 + 1) = (w.getD (bestF w o m) 0 * (2 * o.getD m 0 + 1)) * k := by grind
    have e2 : w.getD m 0 * k * (2 * o.getD (bestF w o m) 0 + 1) = (w.getD m 0 * (2 * o.getD (bestF w o m) 0 + 1)) * k := by grind
    rw [e1, e2]
    by_cases h : w.getD (bestF w o m) 0 * (2 * o.getD m 0 + 1) < w.getD m 0 * (2 * o.getD (bestF w o m) 0 + 1)
    · rw [if_pos h, if_pos (Int.mul_lt_mul_of_pos_right h hk)]
    · rw [if_neg h, if_neg (fun hc => h (Int.lt_of_mul_lt_mul_right hc (by omega)))]
theorem highN_scaled (w : List Int) (k : Int) (hk : 0 < k) (n : Nat) : highN (scaled w k) n = highN w n := by
  induction n with
  | zero => simp [highN, scaled]
  | succ n ih => rw [highN, highN, ih, bestF_scaled _ _ _ hk]; simp [scaled]
theorem highN_zero (w : List Int) (hw : ∀ i, 0 ≤ w.getD i 0) (hs : ∃ j, j < w.length ∧ 0 < w.getD j 0) (k : Nat) : ∀ i, i < w.length → w.getD i 0 = 0 → (highN w k).getD i 0 = 0 := by
  induction k with
  | zero => intro i hi _; simp [highN, List.getD_eq_getElem?_getD, List.getElem?_replicate, hi]
  | succ k ih =>
    intro i hi h0
    rw [highN]
    have hnn := highN_nonneg w k
    have hb := best_spec w (highN w k) hnn w.length
    rw [bump_at _ _ _ (by rw [highN_length]; exact hi)]
    obtain ⟨j, hj, hj0⟩ := hs
    have h1 := hb j hj
    have hne : bestF w (highN w k) w.length ≠ i := fun he => by
      rw [he, h0] at h1
      have := Int.mul_pos hj0 (show 0 < 2 * (highN w k).getD i 0 + 1 by have := hnn i; omega)
      omega
    rw [if_neg hne]; exact ih i hi h0

/-- The quotas, rounded down, what remains of each, and the units that are left. -/
def quos (n : Int) (w : List Int) : List Int := w.map fun x => n * x / sumI w
def rems (n : Int) (w : List Int) : List Int := w.map fun x => n * x % sumI w
def leftF (n : Int) (w : List Int) : Int := n - sumI (quos n w)
def largestF (n : Int) (w : List Int) : List Int :=
  if n = 0 ∨ sumI w = 0 then List.replicate w.length 0 else (pickN w.length (leftF n w).toNat (quos n w, rems n w)).1
theorem sumI_mul (l : List Int) (f g : Int → Int) (a : Int) (h : ∀ x, x ∈ l → a * f x + g x = 0) : a * sumI (l.map f) + sumI (l.map g) = 0 := by
  induction l with
  | nil => simp [sumI]
  | cons x l ih =>
    have h1 := h x (by simp)
    have h2 := ih (fun y hy => h y (by simp [hy]))
    simp only [List.map_cons, sumI]
    rw [Int.mul_add]; omega
theorem left_eq (n : Int) (w : List Int) : sumI w * leftF n w = sumI (rems n w) := by
  unfold leftF quos rems
  generalize hs : sumI w = all
  have h : ∀ l : List Int, n * sumI l = all * sumI (l.map fun x => n * x / all) + sumI (l.map fun x => n * x % all) := fun l => by
    induction l with
    | nil => simp [sumI]
    | cons x l ih =>
      have h1 := Int.mul_ediv_add_emod (n * x) all
      simp only [List.map_cons, sumI]
      rw [Int.mul_add, Int.mul_add]; omega
  have := h w
  rw [hs] at this
  rw [Int.mul_sub]
  have e : all * n = n * all := Int.mul_comm _ _
  omega
def cntPos (l : List Int) : Int := sumI (l.map fun x => if 0 < x then 1 else 0)
theorem sum_le_cnt {a : Int} (l : List Int) (h : ∀ x, x ∈ l → 0 ≤ x ∧ x < a) : 0 ≤ sumI l ∧ sumI l ≤ a * cntPos l := by
  unfold cntPos
  induction l with
  | nil => simp [sumI]
  | cons x l ih =>
    obtain ⟨h1, h2⟩ := h x (by simp)
    obtain ⟨h3, h4⟩ := ih (fun y hy => h y (by simp [hy]))
    simp only [List.map_cons, sumI]
    rw [Int.mul_add]
    split
    · omega
    · omega
theorem cnt_bd (l : List Int) : 0 ≤ cntPos l ∧ cntPos l ≤ l.length := by
  unfold cntPos
  induction l with
  | nil => simp [sumI]
  | cons x l ih => simp only [List.map_cons, sumI, List.length_cons]; split <;> omega
theorem rems_bd {n : Int} {w : List Int} (hs : 0 < sumI w) : ∀ x, x ∈ rems n w → 0 ≤ x ∧ x < sumI w := fun x hx => by
  unfold rems at hx
  rw [List.mem_map] at hx
  obtain ⟨y, _, rfl⟩ := hx
  exact ⟨Int.emod_nonneg _ (by omega), Int.emod_lt_of_pos _ hs⟩
theorem left_bd {n : Int} {w : List Int} (hs : 0 < sumI w) : 0 ≤ leftF n w ∧ leftF n w ≤ cntPos (rems n w) ∧ leftF n w ≤ w.length := by
  have h1 := left_eq n w
  obtain ⟨h2, h3⟩ := sum_le_cnt _ (rems_bd (n := n) hs)
  have h4 := (cnt_bd (rems n w)).2
  have h5 : leftF n w ≤ cntPos (rems n w) := Int.le_of_mul_le_mul_left (by omega) hs
  have h6 : (rems n w).length = w.length := by simp [rems]
  refine ⟨?_, h5, by omega⟩
  have : sumI w * 0 ≤ sumI w * leftF n w := by omega
  exact Int.le_of_mul_le_mul_left this hs
theorem getD_map (f : Int → Int) (l : List Int) (i : Nat) (hi : i < l.length) : (l.map f).getD i 0 = f (l.getD i 0) := by
  simp [List.getD_eq_getElem?_getD, hi]
theorem pickN_length (m t : Nat) (s : List Int × List Int) : (pickN m t s).1.length = s.1.length ∧ (pickN m t s).2.length = s.2.length := by
  induction t with
  | zero => exact ⟨rfl, rfl⟩
  | succ t ih => rw [pickN, pick1]; simp only [bump_length, List.length_set]; exact ih
theorem pickN_sum (m t : Nat) (hm : 0 < m) (s : List Int × List Int) (h : s.1.length = m) : sumI (pickN m t s).1 = sumI s.1 + t := by
  induction t with
  | zero => simp [pickN]
  | succ t ih =>
    rw [pickN, pick1]
    simp only
    rw [sumI_bump _ _ (by rw [(pickN_length m t s).1, h]; exact (argmax_spec _ m).1 hm), ih]; omega
theorem largestF_length (n : Int) (w : List Int) : (largestF n w).length = w.length := by
  unfold largestF; split
  · simp
  · rw [(pickN_length _ _ _).1]; simp [quos]
theorem largestF_sum {n : Int} {w : List Int} (hw : ∀ x, x ∈ w → 0 ≤ x) (h : n ≠ 0 → 0 < sumI w) : sumI (largestF n w) = n := by
  unfold largestF
  split
  · rename_i h0
    rw [sumI_replicate]
    rcases h0 with h0 | h0
    · exact h0.symm
    · by_cases hn : n = 0
      · exact hn.symm
      · have := h hn; omega
  · rename_i h0
    have hs : 0 < sumI w := h (by omega)
    have hl := (left_bd (n := n) hs).1
    have hm : 0 < w.length := by
      rcases Nat.eq_zero_or_pos w.length with h1 | h1
      · rw [List.eq_nil_of_length_eq_zero h1] at hs; simp [sumI] at hs
      · exact h1
    rw [pickN_sum _ _ hm _ (by simp [quos])]
    unfold leftF at hl ⊢
    simp only
    omega
/-- Nothing is given to a part with the weight 0. -/
theorem pickN_zero {m : Nat} {q R : List Int} (hR : R.length = m) (hq : q.length = m) (t : Nat) (ht : (t : Int) ≤ cntPos R) : cntPos (pickN m t (q, R)).2 = cntPos R - t ∧
    ∀ i, i < m → R.getD i 0 = 0 → (pickN m t (q, R)).2.getD i 0 = 0 ∧ (pickN m t (q, R)).1.getD i 0 = q.getD i 0 := by
  induction t with
  | zero => exact ⟨by simp [pickN], fun i _ h => ⟨h, rfl⟩⟩
  | succ t ih =>
    obtain ⟨h1, h2⟩ := ih (by omega)
    obtain ⟨l1, l2⟩ := pickN_length m t (q, R)
    simp only at l1 l2
    rw [pickN, pick1]
    simp only
    generalize pickN m t (q, R) = s at *
    obtain ⟨s1, s2⟩ := s
    simp only at *
    obtain ⟨a1, a2, a3⟩ := argmax_spec (fun i => s2.getD i 0) m
    have hpos : ∃ j, j < m ∧ 0 < s2.getD j 0 := by
      have hc : 0 < cntPos s2 := by omega
      have : ∀ l : List Int, 0 < cntPos l → ∃ j, j < l.length ∧ 0 < l.getD j 0 := fun l => by
        induction l with
        | nil => intro h; simp [cntPos, sumI] at h
        | cons x l ih =>
          intro h
          by_cases hx : 0 < x
          · exact ⟨0, by simp, by simpa using hx⟩
          · obtain ⟨j, hj, hj2⟩ := ih (by simp [cntPos, sumI, hx] at h ⊢; exact h)
            exact ⟨j + 1, by simpa using hj, by simpa using hj2⟩
      obtain ⟨j, hj, hj2⟩ := this s2 hc
      exact ⟨j, by omega, hj2⟩
    obtain ⟨j, hj, hj2⟩ := hpos
    have hb := a1 (by omega)
    have hbp := a2 j hj
    generalize argmaxF (fun i => s2.getD i 0) m = b at *
    have hbp : 0 < s2.getD b 0 := by omega
    refine ⟨?_, fun i hi h0 => ?_⟩
    · unfold cntPos at h1 ⊢
      rw [List.map_set, sumI_set _ _ _ (by simp; omega), getD_map _ _ _ (by omega), if_pos hbp, if_neg (by omega)]; omega
    · obtain ⟨k1, k2⟩ := h2 i hi h0
      have hne : b ≠ i := fun h => by rw [h, k1] at hbp; omega
      exact ⟨by rw [getD_set_ne _ _ _ _ hne]; exact k1, by rw [bump_at _ _ _ (by omega), if_neg hne]; exact k2⟩
theorem largestF_zero {n : Int} {w : List Int} (h : n ≠ 0 → 0 < sumI w) (i : Nat) (hi : i < w.length) (h0 : w.getD i 0 = 0) : (largestF n w).getD i 0 = 0 := by
  unfold largestF
  split
  · simp [List.getD_eq_getElem?_getD, hi]
  · rename_i hn
    have hs : 0 < sumI w := h (by omega)
    obtain ⟨l1, l2, l3⟩ := left_bd (n := n) hs
    have hr : (rems n w).getD i 0 = 0 := by unfold rems; rw [getD_map _ _ _ hi, h0]; simp
    rw [((pickN_zero (m := w.length) (q := quos n w) (R := rems n w) (by simp [rems]) (by simp [quos]) _ (by omega)).2 i hi hr).2]
    unfold quos; rw [getD_map _ _ _ hi, h0]; simp
theorem argmax_mono {k1 k2 : Nat → Int} (m : Nat) (h : ∀ i j, i < m → j < m → (k1 i < k1 j ↔ k2 i < k2 j)) : argmaxF k1 m = argmaxF k2 m := by
  induction m with
  | zero => rfl
  | succ m ih =>
    have ih := ih fun i j hi hj => h i j (by omega) (by omega)
    unfold argmaxF
    rw [ih]
    have hl : argmaxF k2 m < m + 1 := by
      by_cases h0 : 0 < m
      · have := (argmax_spec k2 m).1 h0; omega
      · have : m = 0 := by omega
        subst this; simp [argmaxF]
    by_cases hc : k1 (argmaxF k2 m) < k1 m
    · rw [if_pos hc, if_pos ((h _ _ hl (by omega)).1 hc)]
    · rw [if_neg hc, if_neg (fun k => hc ((h _ _ hl (by omega)).2 k))]
def stretch (k x : Int) : Int := if x < 0 then -1 else x * k
theorem stretch_lt {k x y : Int} (hk : 0 < k) (hx : -1 ≤ x) (hy : -1 ≤ y) : x < y ↔ stretch k x < stretch k y := by
  unfold stretch
  split <;> split
  · omega
  · have : 0 ≤ y * k := Int.mul_nonneg (by omega) (by omega)
    omega
  · have : 0 ≤ x * k := Int.mul_nonneg (by omega) (by omega)
    omega
  · exact ⟨fun h => Int.mul_lt_mul_of_pos_right h hk, fun h => Int.lt_of_mul_lt_mul_right h (by omega)⟩
theorem pickN_scaled {k : Int} (hk : 0 < k) {m : Nat} {q R : List Int} (hR : R.length = m) (h0 : ∀ i, i < m → -1 ≤ R.getD i 0) (t : Nat) :
    (pickN m t (q, R.map (stretch k))).1 = (pickN m t (q, R)).1 ∧ (pickN m t (q, R.map (stretch k))).2 = (pickN m t (q, R)).2.map (stretch k) ∧ ∀ i, i < m → -1 ≤ (pickN m t (q, R)).2.getD i 0 := by
  induction t with
  | zero => exact ⟨rfl, rfl, h0⟩
  | succ t ih =>
    obtain ⟨h1, h2, h3⟩ := ih
    have l2 := (pickN_length m t (q, R)).2
    simp only at l2
    rw [pickN, pickN, pick1, pick1]
    simp only
    rw [h1, h2]
    generalize pickN m t (q, R) = s at *
    obtain ⟨s1, s2⟩ := s
    simp only at *
    have he : argmaxF (fun i => (s2.map (stretch k)).getD i 0) m = argmaxF (fun i => s2.getD i 0) m := by
      refine argmax_mono m fun i j hi hj => ?_
      rw [getD_map _ _ _ (by omega), getD_map _ _ _ (by omega)]
      exact (stretch_lt hk (h3 i hi) (h3 j hj)).symm
    rw [he]
    refine ⟨rfl, ?_, fun i hi => ?_⟩
    · rw [List.map_set]; rfl
    · by_cases hb : argmaxF (fun i => s2.getD i 0) m = i
      · rw [hb, getD_set_eq _ _ _ (by omega)]; omega
      · rw [getD_set_ne _ _ _ _ hb]; exact h3 i hi
theorem sumI_scaled (w : List Int) (k : Int) : sumI (scaled w k) = sumI w * k := by
  unfold scaled
  induction w with
  | nil => simp [sumI]
  | cons x l ih => simp only [List.map_cons, sumI, ih]; rw [Int.add_mul]
theorem largestF_scaled (n : Int) (w : List Int) (k : Int) (hk : 0 < k) (hs0 : 0 ≤ sumI w) : largestF n (scaled w k) = largestF n w := by
  unfold largestF
  rw [sumI_scaled]
  have hz : sumI w * k = 0 ↔ sumI w = 0 := ⟨fun h => by rcases Int.mul_eq_zero.1 h with h | h <;> omega, fun h => by rw [h]; simp⟩
  by_cases h0 : n = 0 ∨ sumI w = 0
  · rw [if_pos h0, if_pos (by rw [hz]; exact h0)]; simp [scaled]
  · rw [if_neg h0, if_neg (by rw [hz]; exact h0)]
    have hs : 0 < sumI w := by omega
    have hq : quos n (scaled w k) = quos n w := by
      unfold quos; rw [sumI_scaled]; unfold scaled
      rw [List.map_map]
      refine List.map_congr_left fun x _ => ?_
      simp only [Function.comp]
      rw [← Int.mul_assoc, Int.mul_ediv_mul_of_pos_left _ _ hk]
    have hr : rems n (scaled w k) = (rems n w).map (stretch k) := by
      unfold rems; rw [sumI_scaled]; unfold scaled
      rw [List.map_map, List.map_map]
      refine List.map_congr_left fun x _ => ?_
      simp only [Function.comp]
      have h1 := Int.emod_nonneg (n * x) (show sumI w ≠ 0 by omega)
      have e2 : n * (x * k) % (sumI w * k) = n * x % sumI w * k := by
        rw [show n * (x * k) = k * (n * x) by grind, Int.mul_comm (sumI w) k, Int.mul_emod_mul_of_pos _ _ hk, Int.mul_comm]
      rw [e2]
      unfold stretch; rw [if_neg (by omega)]
    have hl : leftF n (scaled w k) = leftF n w := by unfold leftF; rw [hq]
    have hlen : (scaled w k).length = w.length := by simp [scaled]
    rw [hq, hr, hl, hlen]
    exact (pickN_scaled hk (by simp [rems]) (fun i hi => by
      have := rems_bd (n := n) hs ((rems n w).getD i 0) (by rw [List.getD_eq_getElem?_getD, List.getElem?_eq_getElem (by simpa [rems] using hi)]; exact List.getElem_mem _)
      omega) _).1
end Go.Proofs.Ytlnmgcmpbbklhaa
