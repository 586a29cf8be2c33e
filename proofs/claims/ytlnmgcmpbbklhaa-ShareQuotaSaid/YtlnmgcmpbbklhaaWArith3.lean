/- Plain arithmetic of magnitudes: sums and differences. -/
import Derived.Test.YtlnmgcmpbbklhaaWArith2
namespace Go.Proofs.Ytlnmgcmpbbklhaa
set_option linter.unusedSimpArgs false
set_option linter.unusedVariables false

theorem mval_take_next (l : List Nat) (k : Nat) : mval (l.take (k + 1)) = mval (l.take k) + B32 ^ k * l.getD k 0 := by
  by_cases h : k < l.length
  · exact mval_take_succ l k h
  · rw [List.take_of_length_le (by omega), List.take_of_length_le (by omega), getD_ge _ _ (by omega)]; simp
theorem take_all (l : List Nat) (k : Nat) (h : l.length ≤ k) : l.take k = l := List.take_of_length_le h
theorem take_set_next (o : List Nat) (i x : Nat) (h : i < o.length) : mval ((o.set i x).take (i + 1)) = mval (o.take i) + B32 ^ i * x := by
  rw [mval_take_next, set_take, getD_set_same _ _ _ h]

theorem two_le_B32 : 2 ≤ B32 := by rw [B32_eq]; omega
/-- The sum in the midst of the rounds. -/
structure SumMid (l r o : List Nat) (i c : Nat) : Prop where
  len : o.length = l.length + 1
  fit : Fit o
  carry : c ≤ 1
  eq : mval (o.take i) + B32 ^ i * c = mval (l.take i) + mval (r.take i)
theorem SumMid.begin (l r o : List Nat) (h : o.length = l.length + 1) (f : Fit o) : SumMid l r o 0 0 := ⟨h, f, by omega, by simp [mval]⟩
theorem SumMid.step {l r o : List Nat} {i c : Nat} (h : SumMid l r o i c) (fl : Fit l) (fr : Fit r) (hi : i < l.length + 1) (t : Nat) (ht : t = c + (l.getD i 0 + r.getD i 0)) :
    SumMid l r (o.set i (t % B32)) (i + 1) (t / B32) := by
  obtain ⟨h1, h2, h3, h4⟩ := h
  have a1 := fl.getD i
  have a2 := fr.getD i
  refine ⟨by rw [List.length_set]; exact h1, h2.set _ _ (Nat.mod_lt _ B32_pos), ?_, ?_⟩
  · have : t / B32 < 2 := (Nat.div_lt_iff_lt_mul B32_pos).2 (by omega)
    omega
  · rw [take_set_next _ _ _ (by omega), mval_take_next l, mval_take_next r, Nat.pow_succ]
    have hd := Nat.mod_add_div t B32
    generalize B32 ^ i = P at *
    generalize t % B32 = tm at *
    generalize t / B32 = td at *
    have e : P * tm + P * B32 * td = P * t := by rw [← hd, Nat.mul_add, Nat.mul_assoc]
    rw [ht, Nat.mul_add, Nat.mul_add] at e
    omega
theorem no_carry {P1 P2 P3 o l r c : Nat} (h4 : o + P1 * c = l + r) (b1 : l < P2) (b2 : r < P3) (b3 : P3 ≤ P2) (b4 : P2 * 2 ≤ P1) : o = l + r := by
  have hc : c = 0 := by
    by_cases hc : c = 0
    · exact hc
    · obtain ⟨d, rfl⟩ : ∃ d, c = d + 1 := ⟨c - 1, by omega⟩
      rw [Nat.mul_add] at h4
      omega
  subst hc
  omega
theorem SumMid.done {l r o : List Nat} {c : Nat} (h : SumMid l r o (l.length + 1) c) (fl : Fit l) (fr : Fit r) (hlr : r.length ≤ l.length) : mval o = mval l + mval r := by
  obtain ⟨h1, h2, h3, h4⟩ := h
  rw [take_all o _ (by omega), take_all l _ (by omega), take_all r _ (by omega)] at h4
  exact no_carry h4 (mval_lt fl) (mval_lt fr) (Nat.pow_le_pow_right B32_pos hlr) (by rw [Nat.pow_succ]; exact Nat.mul_le_mul_left _ two_le_B32)

/-- The difference in the midst of the rounds: a is the first number, q what lies in its row now. -/
structure SubMid (l r q : List Nat) (i b : Nat) : Prop where
  len : q.length = l.length
  fit : Fit q
  borrow : b ≤ 1
  rest : ∀ j, i ≤ j → q.getD j 0 = l.getD j 0
  eq : mval (q.take i) + mval (r.take i) = mval (l.take i) + B32 ^ i * b
theorem SubMid.begin (l r : List Nat) (f : Fit l) : SubMid l r l 0 0 := ⟨rfl, f, by omega, fun _ _ => rfl, by simp [mval]⟩
/-- One round: v is what is taken off, the low word is raised by the base where it is less. -/
theorem SubMid.step {l r q : List Nat} {i b : Nat} (h : SubMid l r q i b) (fr : Fit r) (hi : i < l.length) (x b' : Nat)
    (hx : x + (b + r.getD i 0) = q.getD i 0 + B32 * b') (hxB : x < B32) (hb' : b' ≤ 1) : SubMid l r (q.set i x) (i + 1) b' := by
  obtain ⟨h1, h2, h3, h4, h5⟩ := h
  refine ⟨by rw [List.length_set]; exact h1, h2.set _ _ hxB, hb', fun j hj => ?_, ?_⟩
  · rw [getD_set_other _ _ _ _ (by omega)]; exact h4 j (by omega)
  · rw [take_set_next _ _ _ (by omega), mval_take_next l, mval_take_next r, Nat.pow_succ]
    rw [h4 i (Nat.le_refl _)] at hx
    generalize B32 ^ i = P at *
    have e : P * (x + (b + r.getD i 0)) = P * (l.getD i 0 + B32 * b') := by rw [hx]
    rw [Nat.mul_add, Nat.mul_add, Nat.mul_add, ← Nat.mul_assoc] at e
    omega
theorem SubMid.done {l r q : List Nat} {b : Nat} (h : SubMid l r q l.length b) (hlr : r.length ≤ l.length) (hge : mval r ≤ mval l) : b = 0 ∧ mval q = mval l - mval r := by
  obtain ⟨h1, h2, h3, h4, h5⟩ := h
  rw [take_all q _ (by omega), take_all l _ (by omega), take_all r _ (by omega)] at h5
  have b1 := mval_lt h2
  rw [h1] at b1
  generalize B32 ^ l.length = P2 at *
  have hc : b = 0 := by
    by_cases hc : b = 0
    · exact hc
    · have h6 : b = 1 := by omega
      subst h6
      omega
  subst hc
  exact ⟨rfl, by omega⟩
end Go.Proofs.Ytlnmgcmpbbklhaa
