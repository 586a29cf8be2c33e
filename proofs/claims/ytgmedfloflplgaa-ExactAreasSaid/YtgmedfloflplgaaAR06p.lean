/- meresmanref06: Side, Area, Between of points with small numbers. -/
import Derived.Test.YtgmedfloflplgaaR05b
namespace Go.Proofs.Ytgmedfloflplgaa
set_option linter.unusedSimpArgs false
set_option linter.unusedVariables false
open Go.RowKit

/-- A point in the box from -1 to 32, its denominator at most m. -/
structure RIn (p : RP) (m : Int) : Prop where
 d1 : 1 ≤ p.d
 dm : p.d ≤ m
 x1 : -p.d ≤ p.x
 x2 : p.x ≤ 32 * p.d
 y1 : -p.d ≤ p.y
 y2 : p.y ≤ 32 * p.d
theorem RIn.le {p : RP} {m n : Int} (h : RIn p m) (hm : m ≤ n) : RIn p n := ⟨h.d1, Int.le_trans h.dm hm, h.x1, h.x2, h.y1, h.y2⟩
/-- x times a denominator, within the box. -/
theorem box_mul {x d e : Int} (h1 : -d ≤ x) (h2 : x ≤ 32 * d) (he : 1 ≤ e) : -(d * e) ≤ x * e ∧ x * e ≤ 32 * (d * e) := by
 have a := Int.mul_le_mul_of_nonneg_right h1 (show 0 ≤ e by omega)
 have b := Int.mul_le_mul_of_nonneg_right h2 (show 0 ≤ e by omega)
 rw [Int.neg_mul] at a
 rw [Int.mul_assoc] at b
 exact ⟨a, b⟩
theorem den_mul {d e m n : Int} (h1 : 1 ≤ d) (h2 : d ≤ m) (h3 : 1 ≤ e) (h4 : e ≤ n) : 1 ≤ d * e ∧ d * e ≤ m * n := by
 refine ⟨?_, Int.mul_le_mul h2 h4 (by omega) (by omega)⟩
 have := Int.mul_le_mul h1 h3 (by omega) (by omega)
 simpa using this
/-- Whether p lies on the segment from a to b. -/
def btwR (a b p : RP) : Bool := decide (cmpI (areaRP a b p) 0 = 0 ∧ 0 ≤ cmp5 a p * cmp5 p b)
end Go.Proofs.Ytgmedfloflplgaa
