/- Plain laws of chapter 06: a point on the line of a side, outside the side, lies outside the triangle. -/
import Derived.Test.YtgmedfloflplgaaP06
import Derived.Test.YtgmedfloflplgaaP06s
namespace Go.Proofs.Ytgmedfloflplgaa
set_option linter.unusedSimpArgs false
set_option linter.unusedVariables false
open Go.RowKit

theorem tL1 (ax ay ad cx cy cd px py pd : Int) : cd * ((px * ad - ax * pd) * (cy * ad - ay * cd) - (py * ad - ay * pd) * (cx * ad - ax * cd)) = ad * ((ax * cd - cx * ad) * (py * cd - cy * pd) - (ay * cd - cy * ad) * (px * cd - cx * pd)) := by grind
theorem tL2 (ax ay ad bx by' bd cx cy cd px py pd : Int) : pd * (bd * ((bx * pd - px * bd) * (cy * ad - ay * cd) - (by' * pd - py * bd) * (cx * ad - ax * cd)) - ad * ((cx * bd - bx * cd) * (py * bd - by' * pd) - (cy * bd - by' * cd) * (px * bd - bx * pd))) = bd * cd * ((bx * pd - px * bd) * (py * ad - ay * pd) - (by' * pd - py * bd) * (px * ad - ax * pd)) := by grind
theorem tL3 (ax ay ad bx by' bd cx cy cd px py pd : Int) : pd * ((bx * ad - ax * bd) * (cy * ad - ay * cd) - (by' * ad - ay * bd) * (cx * ad - ax * cd)) = bd * ((px * ad - ax * pd) * (cy * ad - ay * cd) - (py * ad - ay * pd) * (cx * ad - ax * cd)) + ad * ((bx * pd - px * bd) * (cy * ad - ay * cd) - (by' * pd - py * bd) * (cx * ad - ax * cd)) := by grind
theorem opp {P Q X Y C D : Int} (hp : P * Y = Q * X) (h : ¬ (0 ≤ P * X ∧ 0 ≤ Q * Y)) : sg (X * D - Y * C) = -sg (P * D - Q * C) := by
  have e1 : P * (X * D - Y * C) = X * (P * D - Q * C) := by grind
  have e2 : Q * (X * D - Y * C) = Y * (P * D - Q * C) := by grind
  have s1 := congrArg sg e1
  have s2 := congrArg sg e2
  rw [sg_mul, sg_mul] at s1 s2
  rw [← sg_nonneg, ← sg_nonneg (a := Q * Y), sg_mul, sg_mul] at h
  generalize sg (X * D - Y * C) = v at *
  generalize sg (P * D - Q * C) = u at *
  rcases sg_cases P with ⟨_, f1⟩ | ⟨_, f1⟩ | ⟨_, f1⟩ <;> rcases sg_cases Q with ⟨_, f2⟩ | ⟨_, f2⟩ | ⟨_, f2⟩ <;> rcases sg_cases X with ⟨_, f3⟩ | ⟨_, f3⟩ | ⟨_, f3⟩ <;> rcases sg_cases Y with ⟨_, f4⟩ | ⟨_, f4⟩ | ⟨_, f4⟩ <;> rw [f1, f2, f3, f4] at h <;> rw [f1, f3] at s1 <;> rw [f2, f4] at s2 <;> first | omega | (exfalso; exact h (by decide))
theorem tri_out {a b c p : RP} (ha : 1 ≤ a.d) (hb : 1 ≤ b.d) (hc : 1 ≤ c.d) (hp : 1 ≤ p.d) (hS : areaRP a b c ≠ 0) (h0 : areaRP a b p = 0) (hn : btwR a b p = false) : sg (areaRP b c p) * sg (areaRP c a p) = -1 := by
  have hpar := par_of_area ha h0
  have hnb : ¬ (0 ≤ (p.x * a.d - a.x * p.d) * (b.x * p.d - p.x * b.d) ∧ 0 ≤ (p.y * a.d - a.y * p.d) * (b.y * p.d - p.y * b.d)) := fun h => by
    have := (btwR_iff (a := a) (b := b) (p := p) ha).2 ⟨h0, h⟩
    rw [hn] at this; cases this
  have ho := opp (C := c.x * a.d - a.x * c.d) (D := c.y * a.d - a.y * c.d) hpar hnb
  have e1 := congrArg sg (tL1 a.x a.y a.d c.x c.y c.d p.x p.y p.d)
  have e2 := tL2 a.x a.y a.d b.x b.y b.d c.x c.y c.d p.x p.y p.d
  have e3 := tL3 a.x a.y a.d b.x b.y b.d c.x c.y c.d p.x p.y p.d
  have hz : (b.x * p.d - p.x * b.d) * (p.y * a.d - a.y * p.d) - (b.y * p.d - p.y * b.d) * (p.x * a.d - a.x * p.d) = 0 := by
    rw [Int.mul_comm (b.x * p.d - p.x * b.d), Int.mul_comm (b.y * p.d - p.y * b.d), hpar]; omega
  rw [hz, Int.mul_zero] at e2
  have e2' := eq_zero_of_mul hp e2
  change sg (c.d * _) = sg (a.d * areaRP c a p) at e1
  change _ - a.d * areaRP b c p = 0 at e2'
  change p.d * areaRP a b c = _ at e3
  generalize (p.x * a.d - a.x * p.d) * (c.y * a.d - a.y * c.d) - (p.y * a.d - a.y * p.d) * (c.x * a.d - a.x * c.d) = u at *
  generalize (b.x * p.d - p.x * b.d) * (c.y * a.d - a.y * c.d) - (b.y * p.d - p.y * b.d) * (c.x * a.d - a.x * c.d) = v at *
  have e4 := congrArg sg (show b.d * v = a.d * areaRP b c p by omega)
  rw [sg_mul, sg_mul, sg_pos (show 0 < b.d by omega), sg_pos (show 0 < a.d by omega), Int.one_mul, Int.one_mul] at e4
  rw [sg_mul, sg_mul, sg_pos (show 0 < c.d by omega), sg_pos (show 0 < a.d by omega), Int.one_mul, Int.one_mul] at e1
  rw [← e4, ← e1, ho]
  rcases sg_cases u with ⟨h, e⟩ | ⟨h, e⟩ | ⟨h, e⟩
  · rw [e]; rfl
  · exfalso
    rw [e] at ho
    have hv : v = 0 := by
      rcases sg_cases v with ⟨h, e⟩ | ⟨h, e⟩ | ⟨h, e⟩
      · rw [e] at ho; omega
      · exact h
      · rw [e] at ho; omega
    rw [h, hv, Int.mul_zero, Int.mul_zero] at e3
    exact hS (eq_zero_of_mul hp (by omega))
  · rw [e]; rfl
/-- What the program's Triangle returns. -/
def triC (b1 b2 b3 : Bool) (fl n1 n2 n3 : Int) : Int := if b1 || b2 || b3 then 0 else if fl = 0 then -1 else min (min (min 1 (n1 * fl)) (n2 * fl)) (n3 * fl)
theorem area_turn_ne {a b c : RP} (ha : 1 ≤ a.d) (hb : 1 ≤ b.d) (hc : 1 ≤ c.d) (h : areaRP a b c ≠ 0) : areaRP b c a ≠ 0 := fun h0 => by
  have e := areaRP_turn a b c
  rw [h0, Int.zero_mul] at e
  rcases Int.mul_eq_zero.1 e with h1 | h1
  · exact h h1
  · have := pos_mul (pos_mul hc hb) (pos_mul ha hb)
    omega
theorem min_signs {f a b c : Int} (hf : f = 1 ∨ f = -1) (ha : a = 0 ∨ a = 1 ∨ a = -1) (hb : b = 0 ∨ b = 1 ∨ b = -1) (hc : c = 0 ∨ c = 1 ∨ c = -1) (h1 : a = 0 → b * c = -1) (h2 : b = 0 → c * a = -1) (h3 : c = 0 → a * b = -1) :
    min (min (min 1 (a * f)) (b * f)) (c * f) = if a = f ∧ b = f ∧ c = f then 1 else -1 := by
  rcases hf with rfl | rfl <;> rcases ha with rfl | rfl | rfl <;> rcases hb with rfl | rfl | rfl <;> rcases hc with rfl | rfl | rfl <;> first | decide | (exfalso; first | (have := h1 rfl; omega) | (have := h2 rfl; omega) | (have := h3 rfl; omega))
theorem sg3 (a : Int) : sg a = 0 ∨ sg a = 1 ∨ sg a = -1 := by
  rcases sg_cases a with ⟨_, e⟩ | ⟨_, e⟩ | ⟨_, e⟩ <;> rw [e] <;> simp
theorem sg_zero_iff {a : Int} : sg a = 0 ↔ a = 0 := cmpI_zero_iff
theorem tri_eq {a b c p : RP} (ha : 1 ≤ a.d) (hb : 1 ≤ b.d) (hc : 1 ≤ c.d) (hp : 1 ≤ p.d) :
    triC (btwR a b p) (btwR b c p) (btwR c a p) (cmpI (areaRP a b c) 0) (cmpI (areaRP a b p) 0) (cmpI (areaRP b c p) 0) (cmpI (areaRP c a p) 0) = triR a b c p := by
  unfold triC triR
  by_cases h : (btwR a b p || btwR b c p || btwR c a p) = true
  · rw [if_pos h, if_pos h]
  · rw [if_neg h, if_neg h]
    have hb1 : btwR a b p = false := by cases hh : btwR a b p with | false => rfl | true => rw [hh] at h; simp at h
    have hb2 : btwR b c p = false := by cases hh : btwR b c p with | false => rfl | true => rw [hh] at h; simp at h
    have hb3 : btwR c a p = false := by cases hh : btwR c a p with | false => rfl | true => rw [hh] at h; simp at h
    by_cases h0 : cmpI (areaRP a b c) 0 = 0
    · rw [if_pos h0, if_pos h0]
    · rw [if_neg h0, if_neg h0]
      have hS : areaRP a b c ≠ 0 := fun e => h0 (cmpI_zero_iff.2 e)
      have hS2 := area_turn_ne ha hb hc hS
      have hS3 := area_turn_ne hb hc ha hS2
      show min (min (min 1 (sg (areaRP a b p) * sg (areaRP a b c))) (sg (areaRP b c p) * sg (areaRP a b c))) (sg (areaRP c a p) * sg (areaRP a b c)) = if sg (areaRP a b p) = sg (areaRP a b c) ∧ sg (areaRP b c p) = sg (areaRP a b c) ∧ sg (areaRP c a p) = sg (areaRP a b c) then 1 else -1
      refine min_signs ?_ (sg3 _) (sg3 _) (sg3 _) ?_ ?_ ?_
      · rcases sg3 (areaRP a b c) with e | e | e
        · exact absurd (sg_zero_iff.1 e) hS
        · exact .inl e
        · exact .inr e
      · intro e; exact tri_out ha hb hc hp hS (sg_zero_iff.1 e) hb1
      · intro e; exact tri_out hb hc ha hp hS2 (sg_zero_iff.1 e) hb2
      · intro e; exact tri_out hc ha hb hp hS3 (sg_zero_iff.1 e) hb3
end Go.Proofs.Ytgmedfloflplgaa
