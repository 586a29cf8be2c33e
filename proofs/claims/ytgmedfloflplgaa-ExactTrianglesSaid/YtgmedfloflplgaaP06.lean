/- Plain laws of chapter 06: between. -/
import Derived.Test.YtgmedfloflplgaaFPt2
import Derived.Test.YtgmedfloflplgaaR06q
namespace Go.Proofs.Ytgmedfloflplgaa
set_option linter.unusedSimpArgs false
set_option linter.unusedVariables false
open Go.RowKit

/-- The sign of a number, as the order of 0 and it. -/
theorem p6cmp_neg (a b : Int) : cmpI a b = -cmpI (b - a) 0 := by
  unfold cmpI
  by_cases h : a < b
  · rw [if_pos h, if_neg (show ¬ b - a < 0 by omega), if_pos (show 0 < b - a by omega)]
  · rw [if_neg h]
    by_cases h2 : b < a
    · rw [if_pos h2, if_pos (show b - a < 0 by omega)]; rfl
    · rw [if_neg h2, if_neg (show ¬ b - a < 0 by omega), if_neg (show ¬ 0 < b - a by omega)]; rfl
def sg (a : Int) : Int := cmpI a 0
theorem sg_pos {a : Int} (h : 0 < a) : sg a = 1 := by unfold sg cmpI; rw [if_neg (by omega), if_pos h]
theorem sg_neg {a : Int} (h : a < 0) : sg a = -1 := by unfold sg cmpI; rw [if_pos h]
theorem sg_zero : sg 0 = 0 := rfl
theorem sg_cases (a : Int) : (0 < a ∧ sg a = 1) ∨ (a = 0 ∧ sg a = 0) ∨ (a < 0 ∧ sg a = -1) := by
  rcases Int.lt_trichotomy a 0 with h | h | h
  · exact .inr (.inr ⟨h, sg_neg h⟩)
  · exact .inr (.inl ⟨h, by rw [h]; rfl⟩)
  · exact .inl ⟨h, sg_pos h⟩
theorem sg_mul (a b : Int) : sg (a * b) = sg a * sg b := by
  rcases sg_cases a with ⟨h, e⟩ | ⟨h, e⟩ | ⟨h, e⟩ <;> rcases sg_cases b with ⟨k, f⟩ | ⟨k, f⟩ | ⟨k, f⟩ <;> rw [e, f]
  · exact sg_pos (Int.mul_pos h k)
  · rw [k, Int.mul_zero]; rfl
  · exact sg_neg (Int.mul_neg_of_pos_of_neg h k)
  · rw [h, Int.zero_mul]; rfl
  · rw [h, Int.zero_mul]; rfl
  · rw [h, Int.zero_mul]; rfl
  · exact sg_neg (Int.mul_neg_of_neg_of_pos h k)
  · rw [k, Int.mul_zero]; rfl
  · exact sg_pos (Int.mul_pos_of_neg_of_neg h k)
theorem sg_nonneg {a : Int} : 0 ≤ sg a ↔ 0 ≤ a := by
  rcases sg_cases a with ⟨h, e⟩ | ⟨h, e⟩ | ⟨h, e⟩ <;> rw [e] <;> constructor <;> intro <;> omega
theorem cmp_prod (a b c d : Int) : cmpI a b * cmpI c d = sg ((b - a) * (d - c)) := by
  rw [p6cmp_neg a b, p6cmp_neg c d, sg_mul]
  show -sg (b - a) * -sg (d - c) = _
  grind
theorem insF_iff (a ad b bd x xd : Int) : insF a ad b bd x xd = true ↔ 0 ≤ (x * ad - a * xd) * (b * xd - x * bd) := by
  unfold insF
  rw [decide_eq_true_iff, cmp_prod, sg_nonneg]
/-- Of two parallel vectors: both coordinates have one sign exactly if the first ones that are not 0 have. -/
theorem lex_par {P Q X Y : Int} (h : P * Y = Q * X) : (0 ≤ P * X ∧ 0 ≤ Q * Y) ↔ 0 ≤ (if sg P = 0 then sg Q else sg P) * (if sg X = 0 then sg Y else sg X) := by
  have hs : sg P * sg Y = sg Q * sg X := by rw [← sg_mul, ← sg_mul, h]
  rw [← sg_nonneg, ← sg_nonneg (a := Q * Y), sg_mul, sg_mul]
  rcases sg_cases P with ⟨_, e1⟩ | ⟨_, e1⟩ | ⟨_, e1⟩ <;> rcases sg_cases Q with ⟨_, e2⟩ | ⟨_, e2⟩ | ⟨_, e2⟩ <;> rcases sg_cases X with ⟨_, e3⟩ | ⟨_, e3⟩ | ⟨_, e3⟩ <;> rcases sg_cases Y with ⟨_, e4⟩ | ⟨_, e4⟩ | ⟨_, e4⟩ <;> rw [e1, e2, e3, e4] at hs <;> rw [e1, e2, e3, e4] <;> first | (exfalso; omega) | decide
theorem cmp5_sg (a b : RP) : cmp5 a b = -(if sg (b.x * a.d - a.x * b.d) = 0 then sg (b.y * a.d - a.y * b.d) else sg (b.x * a.d - a.x * b.d)) := by
  unfold cmp5
  rw [p6cmp_neg (a.x * b.d), p6cmp_neg (a.y * b.d)]
  show (if -sg _ = 0 then -sg _ else -sg _) = _
  by_cases h : sg (b.x * a.d - a.x * b.d) = 0
  · rw [if_pos h, if_pos (by omega)]
  · rw [if_neg h, if_neg (by omega)]
theorem eq_zero_of_mul {a b : Int} (ha : 1 ≤ a) (h : a * b = 0) : b = 0 := by
  rcases Int.mul_eq_zero.1 h with h | h
  · omega
  · exact h
theorem par_of_area {a b p : RP} (ha : 1 ≤ a.d) (h : areaRP a b p = 0) : (p.x * a.d - a.x * p.d) * (b.y * p.d - p.y * b.d) = (p.y * a.d - a.y * p.d) * (b.x * p.d - p.x * b.d) := by
  have : a.d * ((p.x * a.d - a.x * p.d) * (b.y * p.d - p.y * b.d) - (p.y * a.d - a.y * p.d) * (b.x * p.d - p.x * b.d)) = -p.d * areaRP a b p := by unfold areaRP; grind
  rw [h, Int.mul_zero] at this
  have := eq_zero_of_mul ha this
  omega
theorem cmpI_zero_iff {a : Int} : cmpI a 0 = 0 ↔ a = 0 := by
  rcases sg_cases a with ⟨h, e⟩ | ⟨h, e⟩ | ⟨h, e⟩ <;> (show sg a = 0 ↔ _) <;> rw [e] <;> constructor <;> intro <;> omega
/-- Between, as the program has it, is Between as the reference has it. -/
theorem btw_eq {a b p : RP} (ha : 1 ≤ a.d) : btwF a.x a.y a.d b.x b.y b.d p.x p.y p.d = btwR a b p := by
  rw [Bool.eq_iff_iff]
  unfold btwF btwR
  rw [decide_eq_true_iff, Bool.and_eq_true, Bool.and_eq_true, beq_iff_eq, insF_iff, insF_iff]
  have he : areaF a.x a.y a.d b.x b.y b.d p.x p.y p.d = areaRP a b p := rfl
  rw [he, and_assoc]
  refine and_congr_right fun h => ?_
  have h0 := cmpI_zero_iff.1 h
  rw [lex_par (par_of_area ha h0), cmp5_sg, cmp5_sg]
  rw [show ∀ x y : Int, -x * -y = x * y from fun x y => by grind]
/-- That p lies on the segment, without comparisons. -/
theorem btwR_iff {a b p : RP} (ha : 1 ≤ a.d) : btwR a b p = true ↔ areaRP a b p = 0 ∧ 0 ≤ (p.x * a.d - a.x * p.d) * (b.x * p.d - p.x * b.d) ∧ 0 ≤ (p.y * a.d - a.y * p.d) * (b.y * p.d - p.y * b.d) := by
  rw [← btw_eq ha]
  unfold btwF
  rw [Bool.and_eq_true, Bool.and_eq_true, beq_iff_eq, insF_iff, insF_iff, and_assoc, cmpI_zero_iff]
  rfl
end Go.Proofs.Ytgmedfloflplgaa
