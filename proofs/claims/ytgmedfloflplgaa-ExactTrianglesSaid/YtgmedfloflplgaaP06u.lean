/- Plain laws of chapter 06: a triangle's corners in any order. -/
import Derived.Test.YtgmedfloflplgaaP06t
namespace Go.Proofs.Ytgmedfloflplgaa
set_option linter.unusedSimpArgs false
set_option linter.unusedVariables false
open Go.RowKit

theorem cmp_anti (x y : Int) : cmpI y x = -cmpI x y := by unfold cmpI; repeat' (first | omega | split)
theorem cmp5_anti (a b : RP) : cmp5 b a = -cmp5 a b := by
  unfold cmp5
  rw [cmp_anti (a.x * b.d) (b.x * a.d), cmp_anti (a.y * b.d) (b.y * a.d)]
  by_cases h : cmpI (a.x * b.d) (b.x * a.d) = 0
  · rw [if_pos h, if_pos (by omega)]
  · rw [if_neg h, if_neg (by omega)]
theorem side_turn {a b c : RP} (ha : 1 ≤ a.d) (hb : 1 ≤ b.d) (hc : 1 ≤ c.d) : cmpI (areaRP b c a) 0 = cmpI (areaRP a b c) 0 := by
  have p1 := pos_mul (pos_mul hc hb) (pos_mul ha hb)
  have p2 := pos_mul (pos_mul hb ha) (pos_mul hc ha)
  have e := areaRP_turn a b c
  generalize (c.d * b.d) * (a.d * b.d) = m at *
  generalize (b.d * a.d) * (c.d * a.d) = n at *
  have h := congrArg sg e
  rw [sg_mul, sg_mul, sg_pos (show 0 < m by omega), sg_pos (show 0 < n by omega)] at h
  show sg _ = sg _
  omega
theorem btw_swap {a b p : RP} (ha : 1 ≤ a.d) (hb : 1 ≤ b.d) : btwR b a p = btwR a b p := by
  unfold btwR
  rw [side_swap ha hb, cmp5_anti p b, cmp5_anti a p, show -cmp5 p b * -cmp5 a p = cmp5 a p * cmp5 p b by grind]
  congr 1
  rw [eq_iff_iff]
  constructor <;> intro h <;> exact ⟨by omega, h.2⟩
theorem tri_turn {a b c p : RP} (ha : 1 ≤ a.d) (hb : 1 ≤ b.d) (hc : 1 ≤ c.d) : triR b c a p = triR a b c p := by
  unfold triR
  rw [side_turn ha hb hc]
  have e1 : (btwR b c p || btwR c a p || btwR a b p) = (btwR a b p || btwR b c p || btwR c a p) := by cases btwR a b p <;> cases btwR b c p <;> cases btwR c a p <;> rfl
  rw [e1]
  congr 2
  congr 1
  rw [eq_iff_iff]
  constructor
  · rintro ⟨h1, h2, h3⟩; exact ⟨h3, h1, h2⟩
  · rintro ⟨h1, h2, h3⟩; exact ⟨h2, h3, h1⟩
theorem tri_swap {a b c p : RP} (ha : 1 ≤ a.d) (hb : 1 ≤ b.d) (hc : 1 ≤ c.d) : triR b a c p = triR a b c p := by
  unfold triR
  rw [side_swap (c := c) ha hb, side_swap (c := p) ha hb, side_swap (c := p) hc ha, side_swap (c := p) hb hc, btw_swap ha hb, btw_swap (p := p) hc ha, btw_swap (p := p) hb hc]
  have e1 : (btwR a b p || btwR c a p || btwR b c p) = (btwR a b p || btwR b c p || btwR c a p) := by cases btwR a b p <;> cases btwR b c p <;> cases btwR c a p <;> rfl
  rw [e1]
  by_cases hh : (btwR a b p || btwR b c p || btwR c a p) = true
  · rw [if_pos hh, if_pos hh]
  · rw [if_neg hh, if_neg hh]
    by_cases h0 : cmpI (areaRP a b c) 0 = 0
    · rw [if_pos (by omega), if_pos h0]
    · rw [if_neg (by omega), if_neg h0]
      by_cases h1 : cmpI (areaRP a b p) 0 = cmpI (areaRP a b c) 0 ∧ cmpI (areaRP b c p) 0 = cmpI (areaRP a b c) 0 ∧ cmpI (areaRP c a p) 0 = cmpI (areaRP a b c) 0
      · rw [if_pos h1, if_pos (by omega)]
      · rw [if_neg h1, if_neg (by omega)]
/-- The middle, as the program makes it. -/
def midC (a b : RP) : RP := ⟨(a.x * b.d + b.x * a.d) * (1 * 1), (a.y * b.d + b.y * a.d) * (1 * 1), a.d * b.d * (1 * 2)⟩
theorem mC1 (ax ad bx bd : Int) : (ax * bd + bx * ad) * (1 * 1) * ad - ax * (ad * bd * (1 * 2)) = ad * (bx * ad - ax * bd) := by grind
theorem mC2 (ax ad bx bd : Int) : bx * (ad * bd * (1 * 2)) - (ax * bd + bx * ad) * (1 * 1) * bd = bd * (bx * ad - ax * bd) := by grind
theorem sq_nn {a b u : Int} (ha : 1 ≤ a) (hb : 1 ≤ b) : 0 ≤ a * u * (b * u) := by
  rw [show a * u * (b * u) = a * b * (u * u) by grind]
  have h1 := pos_mul ha hb
  have h2 : 0 ≤ u * u := by
    rcases Int.lt_or_le u 0 with h | h
    · exact Int.mul_nonneg_of_nonpos_of_nonpos (by omega) (by omega)
    · exact Int.mul_nonneg h h
  exact Int.mul_nonneg (by omega) h2
theorem btw_mid {a b : RP} (ha : 1 ≤ a.d) (hb : 1 ≤ b.d) : btwR a b (midC a b) = true := by
  rw [btwR_iff ha]
  unfold areaRP midC
  simp only
  rw [mC1, mC1, mC2, mC2]
  exact ⟨by grind, sq_nn ha hb, sq_nn ha hb⟩
theorem btw_start {a b : RP} (ha : 1 ≤ a.d) : btwR a b a = true := by
  rw [btwR_iff ha]
  unfold areaRP
  refine ⟨?_, ?_, ?_⟩
  · rw [Int.sub_self (a.y * a.d), Int.sub_self (a.x * a.d), Int.mul_zero, Int.mul_zero]; rfl
  · rw [Int.sub_self, Int.zero_mul]; exact Int.le_refl 0
  · rw [Int.sub_self, Int.zero_mul]; exact Int.le_refl 0
theorem tri_corner {a b c : RP} (ha : 1 ≤ a.d) : triR a b c a = 0 := by unfold triR; rw [btw_start ha]; rfl
theorem tri_mid {a b c : RP} (ha : 1 ≤ a.d) (hb : 1 ≤ b.d) : triR a b c (midC a b) = 0 := by unfold triR; rw [btw_mid ha hb]; rfl
end Go.Proofs.Ytgmedfloflplgaa
