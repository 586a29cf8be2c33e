/- frac: fractions as rational numbers; Add, Sub, Mul, Sign. -/
import Derived.Test.YtgmedfloflplgaaFP
import Derived.Test.YtgmedfloflplgaaFMul
/- frac: fractions as rational numbers; Sub and Mul of small ones. -/
namespace Go.Proofs.Ytgmedfloflplgaa
set_option linter.unusedSimpArgs false
set_option linter.unusedVariables false
open Go.RowKit

theorem pow32 (a b : Nat) (h : a = 2 ^ 32) : a ^ b = 2 ^ (32 * b) := by rw [h, ← Nat.pow_mul]
theorem WTop_pow : WTop = 2 ^ (32 * WMost) := by
 unfold WTop
 exact pow32 B32 WMost (by rw [B32_eq])
/-- N / D and x / y are the same number. -/
def EqQ (N D x y : Int) : Prop := 1 ≤ D ∧ 1 ≤ y ∧ N * y = x * D
theorem EqQ.refl {N D : Int} (h : 1 ≤ D) : EqQ N D N D := ⟨h, h, rfl⟩
theorem mul_cancel_pos {a b c : Int} (hc : 1 ≤ c) (h : a * c = b * c) : a = b := Int.eq_of_mul_eq_mul_right (by omega) h
theorem pos_mul {a b : Int} (ha : 1 ≤ a) (hb : 1 ≤ b) : 1 ≤ a * b := by
 have := Int.mul_le_mul ha hb (by omega) (by omega)
 simpa using this
/-- The same number has the same sign. -/
theorem EqQ.sign {N D x y : Int} (h : EqQ N D x y) : cmpI N 0 = cmpI x 0 := by
 obtain ⟨a, b, e⟩ := h
 have p1 : 0 < N → 0 < N * y := fun h => Int.mul_pos h (by omega)
 have p2 : 0 < x → 0 < x * D := fun h => Int.mul_pos h (by omega)
 have p3 : N < 0 → N * y < 0 := fun h => Int.mul_neg_of_neg_of_pos h (by omega)
 have p4 : x < 0 → x * D < 0 := fun h => Int.mul_neg_of_neg_of_pos h (by omega)
 have z1 : N = 0 → N * y = 0 := fun h => by rw [h, Int.zero_mul]
 have z2 : x = 0 → x * D = 0 := fun h => by rw [h, Int.zero_mul]
 unfold cmpI
 rw [e] at p1 p3 z1
 by_cases c1 : N < 0
 ·have := p3 c1
  rw [if_pos c1, if_pos (by apply Int.lt_of_not_ge; intro hx; rcases Int.lt_or_eq_of_le hx with h9 | h9; exact absurd (p2 h9) (by omega); exact absurd (z2 h9.symm) (by omega))]
 ·rw [if_neg c1]
  by_cases c2 : 0 < N
  ·have := p1 c2
   have hx : 0 < x := by apply Int.lt_of_not_ge; intro hx; rcases Int.lt_or_eq_of_le hx with h9 | h9; exact absurd (p4 h9) (by omega); exact absurd (z2 h9) (by omega)
   rw [if_pos c2, if_neg (by omega), if_pos hx]
  ·have := z1 (by omega)
   have hx : x = 0 := by
    rcases Int.lt_trichotomy x 0 with h9 | h9 | h9
    ·exact absurd (p4 h9) (by omega)
    ·exact h9
    ·exact absurd (p2 h9) (by omega)
   rw [if_neg c2, hx]; rfl
/-- Two fractions in lowest terms that are the same number. -/
theorem EqQ.uniq {N D M E : Int} (h : EqQ N D M E) (h1 : Nat.gcd N.natAbs D.natAbs = 1) (h2 : Nat.gcd M.natAbs E.natAbs = 1) : N = M ∧ D = E := by
 obtain ⟨a, b, e⟩ := h
 have e2 : N.natAbs * E.natAbs = M.natAbs * D.natAbs := by rw [← Int.natAbs_mul, ← Int.natAbs_mul, e]
 have d1 : D.natAbs ∣ E.natAbs := by
  have c : Nat.Coprime D.natAbs N.natAbs := by rw [Nat.coprime_comm]; exact h1
  exact c.dvd_of_dvd_mul_left (by rw [e2]; exact Nat.dvd_mul_left _ _)
 have d2 : E.natAbs ∣ D.natAbs := by
  have c : Nat.Coprime E.natAbs M.natAbs := by rw [Nat.coprime_comm]; exact h2
  exact c.dvd_of_dvd_mul_left (by rw [← e2]; exact Nat.dvd_mul_left _ _)
 have d3 := Nat.dvd_antisymm d1 d2
 have d4 : D = E := by omega
 subst d4
 exact ⟨mul_cancel_pos a e, rfl⟩

theorem div_small' {a g : Int} {k : Nat} (h : a.natAbs < 2 ^ k) (hd : g ∣ a) : (a / g).natAbs < 2 ^ k := by
 rw [Int.natAbs_ediv_of_dvd hd]
 exact Nat.lt_of_le_of_lt (Nat.div_le_self _ _) h
/-- A fraction that is x / y, its numbers below 2 ^ k. -/
def RetR (x y : Int) (k : Nat) (w : World) (e : Ending) (w' : World) : Prop := ∃ (f : FV) (N D : Int), e = .returned (.tuple #[f.v, .int .i64 0]) ∧ IsF w' f N D ∧ EqQ N D x y ∧ N.natAbs < 2 ^ k ∧ D.natAbs < 2 ^ k ∧ Ext w w'
theorem add_eq {p q r s g : Int} (hg : 1 ≤ g) (d1 : g ∣ q) (d2 : g ∣ s) : (p * (s / g) + r * (q / g)) * (q * s) = (p * s + r * q) * (q / g * s) := by
 have e1 := Int.ediv_mul_cancel d1
 have e2 := Int.ediv_mul_cancel d2
 generalize q / g = a at *
 generalize s / g = b at *
 subst e1; subst e2
 grind
theorem mul_eq {p q r s g h : Int} (d1 : g ∣ p) (d2 : g ∣ s) (d3 : h ∣ r) (d4 : h ∣ q) : (p / g * (r / h)) * (q * s) = (p * r) * (q / h * (s / g)) := by
 have e1 := Int.ediv_mul_cancel d1
 have e2 := Int.ediv_mul_cancel d2
 have e3 := Int.ediv_mul_cancel d3
 have e4 := Int.ediv_mul_cancel d4
 generalize p / g = a at *
 generalize s / g = b at *
 generalize r / h = c at *
 generalize q / h = d at *
 subst e1; subst e2; subst e3; subst e4
 grind
/-- f stands for x / y, its numbers below 2 ^ k. -/
def IsR (w : World) (f : FV) (x y : Int) (k : Nat) : Prop := ∃ N D : Int, IsF w f N D ∧ EqQ N D x y ∧ N.natAbs < 2 ^ k ∧ D.natAbs < 2 ^ k
theorem IsR.keep {w w' : World} {f : FV} {x y : Int} {k : Nat} (h : IsR w f x y k) (e : IK w w') : IsR w' f x y k := by
 obtain ⟨N, D, h1, h2⟩ := h
 exact ⟨N, D, h1.keep e, h2⟩
/-- What is returned, and no error. -/
def RetN (x y : Int) (k : Nat) (w : World) (e : Ending) (w' : World) : Prop := ∃ f : FV, e = .returned (.tuple #[f.v, .int .i64 0]) ∧ IsR w' f x y k ∧ Ext w w'
theorem EqQ.trans' {N D x y u v : Int} (h1 : EqQ N D x y) (h2 : x * v = u * y) (hv : 1 ≤ v) : EqQ N D u v := by
 obtain ⟨a, b, e⟩ := h1
 refine ⟨a, hv, mul_cancel_pos b ?_⟩
 grind
set_option maxRecDepth 100000 in
theorem fSign_c (f : FV) (x y : Int) (k : Nat) (w : World) (h : IsR w f x y k) : Calls Try.prog 38 #[f.v] w fun e w' => e = .returned (.int .i64 (cmpI x 0)) ∧ Ext w w' := by
 obtain ⟨N, D, h1, h2, _⟩ := h
 have hs := Lib.hid h2.sign
 have HN := Lib.hid h1.num
 clear h1 h2
 go_enter Try.func38, Try.ntmps38
 go_wp2_with (go_at_call 56; refine (Sign_c f.n N _ (HN.out.keep (by repeat (first | exact IK.refl _ | refine IK.alloc ?_ _ | refine IK.drew ?_ | refine IK.setCell ?_ (by simp [hc, go_sem]) _)))).mono ?_; rintro e w' ⟨rfl, hd⟩)
 go_ret
 exact ⟨by rw [hs.out]; rfl, Ext.trans (by repeat (first | exact Ext.refl _ | assumption | refine Ext.setCell ?_ (by first | (simp; done) | (simp; omega) | omega) _ | refine Ext.alloc ?_ _ | refine Ext.drew ?_ | refine Ext.trans ?_ (by assumption))) hd⟩
end Go.Proofs.Ytgmedfloflplgaa
