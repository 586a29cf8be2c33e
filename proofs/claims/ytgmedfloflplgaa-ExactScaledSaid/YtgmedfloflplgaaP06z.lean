/- Plain law of ExactScaled: points that are multiplied and moved, or with X and Y exchanged. -/
import Derived.Test.YtgmedfloflplgaaEC
import Derived.Test.YtgmedfloflplgaaR06c
namespace Go.Proofs.Ytgmedfloflplgaa
set_option linter.unusedSimpArgs false
set_option linter.unusedVariables false
open Go.RowKit

def scP (f : Int) (d p : Pt) : Pt := ⟨f * p.x + d.x, f * p.y + d.y⟩
def swP (p : Pt) : Pt := ⟨p.y, p.x⟩
theorem S3_sc (f : Int) (d a b c : Pt) : S3 (scP f d a) (scP f d b) (scP f d c) = f * f * S3 a b c := by unfold S3 S6 scP; grind
theorem D4_sc (f : Int) (e a b c d : Pt) : D4 (scP f e a) (scP f e b) (scP f e c) (scP f e d) = f * f * (f * f) * D4 a b c d := by unfold D4 D8 scP; grind
theorem S3_sw (a b c : Pt) : S3 (swP a) (swP b) (swP c) = -S3 a b c := by unfold S3 S6 swP; grind
theorem D4_sw (a b c d : Pt) : D4 (swP a) (swP b) (swP c) (swP d) = -D4 a b c d := by unfold D4 D8 swP; grind
theorem cmpI_pos_mul {k x : Int} (hk : 0 < k) : cmpI (k * x) 0 = cmpI x 0 := by
  rcases Int.lt_trichotomy x 0 with h | h | h
  · have := Int.mul_neg_of_pos_of_neg hk h
    unfold cmpI; rw [if_pos this, if_pos h]
  · subst h; simp
  · have := Int.mul_pos hk h
    unfold cmpI; rw [if_neg (show ¬ k * x < 0 by omega), if_pos this, if_neg (show ¬ x < 0 by omega), if_pos h]
theorem circK_sc {f : Int} (hf : 0 < f) (e a b c d : Pt) : circK (scP f e a) (scP f e b) (scP f e c) (scP f e d) = circK a b c d := by
  have h2 := Int.mul_pos hf hf
  have h4 := Int.mul_pos h2 h2
  unfold circK
  rw [S3_sc, D4_sc, cmpI_pos_mul h2, cmpI_pos_mul h4]
  by_cases h0 : S3 a b c = 0
  · rw [if_pos (by rw [h0]; simp), if_pos h0]
  · rw [if_neg (fun k => (Int.mul_ne_zero (by omega) h0) k), if_neg h0]
theorem circK_sw (a b c d : Pt) : circK (swP a) (swP b) (swP c) (swP d) = circK a b c d := by
  unfold circK
  rw [S3_sw, D4_sw, cmpI_neg, cmpI_neg]
  by_cases h0 : S3 a b c = 0
  · rw [if_pos (by omega), if_pos h0]
  · rw [if_neg (by omega), if_neg h0, Int.neg_mul_neg]
theorem sideF_sc {f : Int} (hf : 0 < f) (e a b c : Pt) : sideF (scP f e a) (scP f e b) (scP f e c) = sideF a b c := by
  rw [sideF_eq, sideF_eq, S3_sc, cmpI_pos_mul (Int.mul_pos hf hf)]
theorem sideF_sw (a b c : Pt) : sideF (swP a) (swP b) (swP c) = -sideF a b c := by
  rw [sideF_eq, sideF_eq, S3_sw, cmpI_neg]
theorem sc_valid {f : Int} {e p : Pt} (hf : 1 ≤ f ∧ f ≤ 16777216) (he : (-268435456 ≤ e.x ∧ e.x ≤ 268435456) ∧ -268435456 ≤ e.y ∧ e.y ≤ 268435456) (hp : Tiny p) :
    (-1073741824 ≤ (scP f e p).x ∧ (scP f e p).x ≤ 1073741824) ∧ -1073741824 ≤ (scP f e p).y ∧ (scP f e p).y ≤ 1073741824 := by
  obtain ⟨h1, h2, h3, h4⟩ := hp
  have a1 : 0 ≤ f * p.x := Int.mul_nonneg (by omega) h1
  have a2 : f * p.x ≤ 16777216 * 32 := Int.mul_le_mul hf.2 h2 h1 (by omega)
  have a3 : 0 ≤ f * p.y := Int.mul_nonneg (by omega) h3
  have a4 : f * p.y ≤ 16777216 * 32 := Int.mul_le_mul hf.2 h4 h3 (by omega)
  unfold scP
  generalize f * p.x = u at *
  generalize f * p.y = v at *
  simp only
  omega
theorem validE_of {p : Pt} (h : (-1073741824 ≤ p.x ∧ p.x ≤ 1073741824) ∧ -1073741824 ≤ p.y ∧ p.y ≤ 1073741824) : validE p = 0 := by
  unfold validE; rw [if_pos ⟨h.1.1, h.1.2, h.2.1, h.2.2⟩]
theorem validE_sw (p : Pt) (h : validE p = 0) : validE (swP p) = 0 := by
  unfold validE at h
  split at h
  · next h1 => exact validE_of ⟨⟨h1.2.2.1, h1.2.2.2⟩, h1.1, h1.2.1⟩
  · exact absurd h (by decide)
/-- What the law finds, of four small points, of these points multiplied and moved, and of these exchanged. -/
theorem scaled_law {f : Int} {e q0 q1 q2 q3 : Pt} (hf : 1 ≤ f ∧ f ≤ 16777216) (he : (-268435456 ≤ e.x ∧ e.x ≤ 268435456) ∧ -268435456 ≤ e.y ∧ e.y ≤ 268435456) (h0 : Tiny q0) (h1 : Tiny q1) (h2 : Tiny q2) (h3 : Tiny q3) :
    SideOfF q0 q1 q2 = (sideF q0 q1 q2, 0) ∧ SideOfF (scP f e q0) (scP f e q1) (scP f e q2) = (sideF q0 q1 q2, 0) ∧ SideOfF (swP (scP f e q0)) (swP (scP f e q1)) (swP (scP f e q2)) = (-sideF q0 q1 q2, 0) ∧
      CircleF q0 q1 q2 q3 = circK q0 q1 q2 q3 ∧ CircleF (scP f e q0) (scP f e q1) (scP f e q2) (scP f e q3) = circK q0 q1 q2 q3 ∧ CircleF (swP (scP f e q0)) (swP (scP f e q1)) (swP (scP f e q2)) (swP (scP f e q3)) = circK q0 q1 q2 q3 ∧
      ((circK q0 q1 q2 q3).2 = 1 ↔ sideF q0 q1 q2 = 0) := by
  have hf0 : 0 < f := by omega
  have e0 := h0.validE; have e1 := h1.validE; have e2 := h2.validE; have e3 := h3.validE
  have s0 := validE_of (sc_valid hf he h0); have s1 := validE_of (sc_valid hf he h1); have s2 := validE_of (sc_valid hf he h2); have s3 := validE_of (sc_valid hf he h3)
  have t0 := validE_sw _ s0; have t1 := validE_sw _ s1; have t2 := validE_sw _ s2; have t3 := validE_sw _ s3
  refine ⟨?_, ?_, ?_, ?_, ?_, ?_, ?_⟩
  · unfold SideOfF; rw [if_pos (by simp [firstE, e0, e1, e2])]
  · unfold SideOfF; rw [if_pos (by simp [firstE, s0, s1, s2]), sideF_sc hf0]
  · unfold SideOfF; rw [if_pos (by simp [firstE, t0, t1, t2]), sideF_sw, sideF_sc hf0]
  · exact CircleF_ok (by simp [firstE, e0, e1, e2, e3])
  · rw [CircleF_ok (by simp [firstE, s0, s1, s2, s3]), circK_sc hf0]
  · rw [CircleF_ok (by simp [firstE, t0, t1, t2, t3]), circK_sw, circK_sc hf0]
  · rw [sideF_eq, cmpI_zero]
    unfold circK
    by_cases h : S3 q0 q1 q2 = 0
    · rw [if_pos h]; simp [h]
    · rw [if_neg h]; simp [h]
end Go.Proofs.Ytgmedfloflplgaa
