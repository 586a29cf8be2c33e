/- Plain arithmetic of magnitudes: products. -/
import Derived.Test.YtlnmgcmpbbklhaaWArith
namespace Go.Proofs.Ytlnmgcmpbbklhaa
set_option linter.unusedSimpArgs false
set_option linter.unusedVariables false

theorem set_take (l : List Nat) (j x : Nat) : (l.set j x).take j = l.take j := by
  rw [List.take_set]; exact List.set_eq_of_length_le (by rw [List.length_take]; omega)
theorem set_drop (l : List Nat) (j x : Nat) : (l.set j x).drop (j + 1) = l.drop (j + 1) := by
  rw [List.drop_set]; simp
theorem getD_set_same (l : List Nat) (j x : Nat) (h : j < l.length) : (l.set j x).getD j 0 = x := by
  simp [List.getD_eq_getElem?_getD, h]
theorem getD_set_other (l : List Nat) (j i x : Nat) (h : j ≠ i) : (l.set j x).getD i 0 = l.getD i 0 := by
  simp [List.getD_eq_getElem?_getD, List.getElem?_set, h]
theorem mval_set (l : List Nat) (j x : Nat) (h : j < l.length) : mval (l.set j x) + B32 ^ j * l.getD j 0 = mval l + B32 ^ j * x := by
  have h1 := mval_take_drop l (j + 1) (by omega)
  have h2 := mval_take_drop (l.set j x) (j + 1) (by rw [List.length_set]; omega)
  rw [mval_take_succ l j h] at h1
  rw [mval_take_succ _ j (by rw [List.length_set]; exact h), set_take, set_drop, getD_set_same _ _ _ h] at h2
  omega
theorem Fit.set {l : List Nat} (h : Fit l) (j x : Nat) (hx : x < B32) : Fit (l.set j x) := fun d hd => by
  rcases List.mem_or_eq_of_mem_set hd with hd | rfl
  · exact h d hd
  · exact hx
theorem fit_zeros (n : Nat) : Fit (List.replicate n 0) := fun d hd => by
  rw [List.eq_of_mem_replicate hd]; exact B32_pos
theorem getD_zeros (n i : Nat) : (List.replicate n 0).getD i 0 = 0 := by
  simp [List.getD_eq_getElem?_getD, List.getElem?_replicate]; split <;> rfl

/-- The product of two words with two words more still fits. -/
theorem word_prod {x y u v : Nat} (hx : x < B32) (hy : y < B32) (hu : u < B32) (hv : v < B32) : x * y + u + v < B32 * B32 := by
  have h1 : x * y ≤ (B32 - 1) * (B32 - 1) := Nat.mul_le_mul (by omega) (by omega)
  obtain ⟨c, hc⟩ : ∃ c, B32 = c + 1 := ⟨B32 - 1, by have := B32_pos; omega⟩
  rw [hc] at hx hy hu hv h1 ⊢
  rw [Nat.add_sub_cancel] at h1
  have h2 : (c + 1) * (c + 1) = c * c + 2 * c + 1 := by grind
  omega

/-- What holds of the product's row in the midst of the rounds: i words of l are done, and k words of r for the next one. -/
structure Mid (l r o : List Nat) (i k c : Nat) : Prop where
  len : o.length = l.length + r.length
  fit : Fit o
  carry : c < B32
  zero : ∀ j, i + r.length ≤ j → o.getD j 0 = 0
  eq : mval o + B32 ^ (i + k) * c = mval (l.take i) * mval r + l.getD i 0 * B32 ^ i * mval (r.take k)

theorem Mid.begin {l r o : List Nat} {i : Nat} (len : o.length = l.length + r.length) (fit : Fit o) (zero : ∀ j, i + r.length ≤ j → o.getD j 0 = 0) (eq : mval o = mval (l.take i) * mval r) : Mid l r o i 0 0 :=
  ⟨len, fit, B32_pos, zero, by simp [mval, eq]⟩
theorem Mid.step {l r o : List Nat} {i k c : Nat} (h : Mid l r o i k c) (hl : Fit l) (hr : Fit r) (hi : i < l.length) (hk : k < r.length) (t : Nat) (ht : t = l.getD i 0 * r.getD k 0 + o.getD (i + k) 0 + c) :
    Mid l r (o.set (i + k) (t % B32)) i (k + 1) (t / B32) := by
  obtain ⟨h1, h2, h3, h4, h5⟩ := h
  have hb : t < B32 * B32 := by rw [ht]; exact word_prod (hl.getD i) (hr.getD k) (h2.getD _) h3
  refine ⟨by rw [List.length_set]; exact h1, h2.set _ _ (Nat.mod_lt _ B32_pos), (Nat.div_lt_iff_lt_mul B32_pos).2 hb, fun j hj => ?_, ?_⟩
  · rw [getD_set_other _ _ _ _ (by omega)]; exact h4 j hj
  · have hs := mval_set o (i + k) (t % B32) (by omega)
    have hd := Nat.mod_add_div t B32
    have hk := mval_take_succ r k hk
    rw [hk, show i + (k + 1) = (i + k) + 1 from by omega, Nat.pow_succ]
    generalize hP : B32 ^ (i + k) = P at *
    have hP2 : P = B32 ^ i * B32 ^ k := by rw [← hP, Nat.pow_add]
    generalize B32 ^ i = Pi at *
    generalize B32 ^ k = Pk at *
    generalize mval (o.set (i + k) (t % B32)) = M' at *
    generalize t % B32 = tm at *
    generalize t / B32 = td at *
    generalize mval (l.take i) * mval r = S at *
    generalize mval (r.take k) = R at *
    generalize mval o = M at *
    generalize o.getD (i + k) 0 = ok at *
    generalize l.getD i 0 = li at *
    generalize r.getD k 0 = rk at *
    generalize B32 = B at *
    clear h1 h2 h3 h4 hl hr hi hb hk
    subst hP2
    grind
theorem Mid.done {l r o : List Nat} {i c : Nat} (h : Mid l r o i r.length c) (hi : i < l.length) :
    (o.set (i + r.length) c).length = l.length + r.length ∧ Fit (o.set (i + r.length) c) ∧ (∀ j, (i + 1) + r.length ≤ j → (o.set (i + r.length) c).getD j 0 = 0) ∧ mval (o.set (i + r.length) c) = mval (l.take (i + 1)) * mval r := by
  obtain ⟨h1, h2, h3, h4, h5⟩ := h
  refine ⟨by rw [List.length_set]; exact h1, h2.set _ _ h3, fun j hj => ?_, ?_⟩
  · rw [getD_set_other _ _ _ _ (by omega)]; exact h4 j (by omega)
  · have hs := mval_set o (i + r.length) c (by omega)
    rw [h4 _ (Nat.le_refl _)] at hs
    rw [List.take_of_length_le (Nat.le_refl _)] at h5
    rw [mval_take_succ l i hi, Nat.add_mul]
    have e : B32 ^ i * l.getD i 0 * mval r = l.getD i 0 * B32 ^ i * mval r := by rw [Nat.mul_comm (B32 ^ i)]
    omega
end Go.Proofs.Ytlnmgcmpbbklhaa
