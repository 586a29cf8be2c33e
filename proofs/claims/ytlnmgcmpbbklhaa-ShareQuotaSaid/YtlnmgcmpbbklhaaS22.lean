/- share and frac: the pure law of a quota as a fraction. -/
import Derived.Test.YtlnmgcmpbbklhaaS21
import Derived.Test.YtlnmgcmpbbklhaaFSub
namespace Go.Proofs.Ytlnmgcmpbbklhaa
set_option linter.unusedSimpArgs false
set_option linter.unusedVariables false
open Go.RowKit

theorem gcdI_one_left {y : Int} (hy : 1 ≤ y) : gcdI 1 y = 1 := by
  have h1 := gcdI_pos (x := 1) hy
  have h2 := Int.le_of_dvd (by omega) (gcdI_dvd 1 y).1
  omega
theorem gcdI_one_right (x : Int) : gcdI x 1 = 1 := by
  have h1 := gcdI_pos (x := x) (y := 1) (by omega)
  have h2 := gcdI_le (x := x) (y := 1) (by omega)
  omega
/-- How far a part is from its quota. -/
theorem part_near {n : Int} {w : List Int} (hw : ∀ x, x ∈ w → 0 ≤ x) (hs : 0 < sumI w) (i : Nat) (hi : i < w.length) :
    -(sumI w) < (largestF n w).getD i 0 * sumI w - n * w.getD i 0 ∧ (largestF n w).getD i 0 * sumI w - n * w.getD i 0 < sumI w := by
  by_cases hn : n = 0
  · subst hn
    have e : (largestF 0 w).getD i 0 = 0 := by unfold largestF; rw [if_pos (.inl rfl)]; simp [List.getD_eq_getElem?_getD, List.getElem?_replicate, hi]
    rw [e]; simp; omega
  · have hsh := largestF_shape hs hn i hi
    have e1 := Int.mul_ediv_add_emod (n * w.getD i 0) (sumI w)
    have r0 := Int.emod_nonneg (n * w.getD i 0) (show sumI w ≠ 0 by omega)
    have r1 := Int.emod_lt_of_pos (n * w.getD i 0) hs
    generalize n * w.getD i 0 / sumI w = q at *
    generalize n * w.getD i 0 % sumI w = r at *
    generalize n * w.getD i 0 = y at *
    generalize (largestF n w).getD i 0 = p at *
    generalize sumI w = s at *
    rcases hsh with rfl | ⟨h1, rfl⟩
    · have e2 : p * s - y = -r := by grind
      rw [e2]; omega
    · have e2 : (q + 1) * s - y = s - r := by grind
      rw [e2]; omega
theorem mul_lt_cancel {a b c : Int} (hc : 0 < c) (h : a * c < b * c) : a < b := Int.lt_of_mul_lt_mul_right h (by omega)
/-- The quota's law: a part, less its quota, lies between -1 and 1. -/
theorem quota_law {p Y S N1 D1 N3 D3 : Int} (hS : 1 ≤ S) (h1 : N1 * S = Y * D1) (hD1 : 1 ≤ D1) (hl : -S < p * S - Y) (hr : p * S - Y < S) (h3 : N3 * D1 = (p * D1 + -N1 * 1) * D3) (hD3 : 1 ≤ D3) :
    -D1 < p * D1 + -N1 * 1 ∧ p * D1 + -N1 * 1 < D1 ∧ -D3 < N3 ∧ N3 < D3 := by
  have e1 : (p * D1 + -N1 * 1) * S = D1 * (p * S - Y) := by grind
  have a1 : -D1 < p * D1 + -N1 * 1 := by
    refine mul_lt_cancel (c := S) (by omega) ?_
    rw [e1]
    have := Int.mul_lt_mul_of_pos_left hl (show 0 < D1 by omega)
    grind
  have a2 : p * D1 + -N1 * 1 < D1 := by
    refine mul_lt_cancel (c := S) (by omega) ?_
    rw [e1]
    exact Int.mul_lt_mul_of_pos_left hr (by omega)
  refine ⟨a1, a2, ?_, ?_⟩
  · refine mul_lt_cancel (c := D1) (by omega) ?_
    rw [h3]
    have := Int.mul_lt_mul_of_pos_right a1 (show 0 < D3 by omega)
    grind
  · refine mul_lt_cancel (c := D1) (by omega) ?_
    rw [h3]
    have := Int.mul_lt_mul_of_pos_right a2 (show 0 < D3 by omega)
    grind
theorem big_of {x : Int} (h1 : -36893488147419103232 ≤ x) (h2 : x ≤ 36893488147419103232) : Big x := by
  have h := WTop_ge (l := [0, 0, 4]) (((Fit.nil.cons (by rw [B32_eq]; omega)).cons (by rw [B32_eq]; omega)).cons (by rw [B32_eq]; omega)) (by simp)
  have e : mval [0, 0, 4] = 73786976294838206464 := by simp [mval, B32_eq]
  rw [e] at h
  unfold Big; omega
end Go.Proofs.Ytlnmgcmpbbklhaa
