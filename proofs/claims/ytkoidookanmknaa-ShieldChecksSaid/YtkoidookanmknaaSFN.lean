/- frac: fractions as rational numbers; Add, Sub, Mul, Sign. -/
import Derived.Test.YtkoidookanmknaaSFP
import Derived.Test.YtkoidookanmknaaSFMul
/- frac: fractions as rational numbers; Sub and Mul of small ones. -/
namespace Go.Proofs.Ytkoidookanmknaa
set_option linter.unusedSimpArgs false
set_option linter.unusedVariables false
open Go.RowKit

theorem pow32 (a b : Nat) (h : a = 2 ^ 32) : a ^ b = 2 ^ (32 * b) := by rw [h, ← Nat.pow_mul]
theorem WTop_pow : WTop = 2 ^ (32 * WMost) := by
 unfold WTop
 exact pow32 B32 WMost (by rw [B32_eq])
theorem big_pow {x : Int} {j : Nat} (h : x.natAbs < 2 ^ j) (hj : j ≤ 16384) : Big x := by
 unfold Big
 rw [WTop_pow]
 exact Nat.lt_of_lt_of_le h (Nat.pow_le_pow_right (by decide) (by rw [WMost_eq]; omega))
/-- N / D and x / y are the same number. -/
def EqQ (N D x y : Int) : Prop := 1 ≤ D ∧ 1 ≤ y ∧ N * y = x * D
theorem EqQ.refl {N D : Int} (h : 1 ≤ D) : EqQ N D N D := ⟨h, h, rfl⟩
theorem mul_cancel_pos {a b c : Int} (hc : 1 ≤ c) (h : a * c = b * c) : a = b := Int.eq_of_mul_eq_mul_right (by omega) h
theorem pos_mul {a b : Int} (ha : 1 ≤ a) (hb : 1 ≤ b) : 1 ≤ a * b := by
 have := Int.mul_le_mul ha hb (by omega) (by omega)
 simpa using this
theorem EqQ.sub {N1 D1 x1 y1 N2 D2 x2 y2 N D : Int} (h1 : EqQ N1 D1 x1 y1) (h2 : EqQ N2 D2 x2 y2) (h : EqQ N D (N1 * D2 - N2 * D1) (D1 * D2)) : EqQ N D (x1 * y2 - x2 * y1) (y1 * y2) := by
 obtain ⟨a1, b1, e1⟩ := h1
 obtain ⟨a2, b2, e2⟩ := h2
 obtain ⟨a, b, e⟩ := h
 refine ⟨a, pos_mul b1 b2, mul_cancel_pos (c := D1 * D2) b ?_⟩
 grind
theorem EqQ.mul {N1 D1 x1 y1 N2 D2 x2 y2 N D : Int} (h1 : EqQ N1 D1 x1 y1) (h2 : EqQ N2 D2 x2 y2) (h : EqQ N D (N1 * N2) (D1 * D2)) : EqQ N D (x1 * x2) (y1 * y2) := by
 obtain ⟨a1, b1, e1⟩ := h1
 obtain ⟨a2, b2, e2⟩ := h2
 obtain ⟨a, b, e⟩ := h
 refine ⟨a, pos_mul b1 b2, mul_cancel_pos (c := D1 * D2) b ?_⟩
 grind
/-- The same number has the same sign. -/
theorem EqQ.sign {N D x y : Int} (h : EqQ N D x y) : cmpI N 0 = cmpI x 0 := by
 obtain ⟨a, b, e⟩ := h
 have p1 : 0 < N → 0 < N * y := fun h => Int.mul_pos h (by omega)
 have p2 : 0 < x → 0 < x * D := fun h => Int.mul_pos h (by omega)
 have p3 : N < 0 → N * y < 0 := fun h => Int.mul_neg_of_neg_of_pos h (by omega)
 have p4 : x < 0 → x * D < 0 := fun h => Int.mul_neg_of_neg_of_pos h (by omega)
 have z1 : N = 0 → N * y = 0 := fun h => by rw [h, Int.zero_mul]
 have z2 : x = 0 → x * D = 0 := fun h => by rw [h, Int.zero_mul]
 unfold cmpI
 rw [e] at p1 p3 z1
 by_cases c1 : N < 0
 ·have := p3 c1
  rw [if_pos c1, if_pos (by apply Int.lt_of_not_ge; intro hx; rcases Int.lt_or_eq_of_le hx with h9 | h9; exact absurd (p2 h9) (by omega); exact absurd (z2 h9.symm) (by omega))]
 ·rw [if_neg c1]
  by_cases c2 : 0 < N
  ·have := p1 c2
   have hx : 0 < x := by apply Int.lt_of_not_ge; intro hx; rcases Int.lt_or_eq_of_le hx with h9 | h9; exact absurd (p4 h9) (by omega); exact absurd (z2 h9) (by omega)
   rw [if_pos c2, if_neg (by omega), if_pos hx]
  ·have := z1 (by omega)
   have hx : x = 0 := by
    rcases Int.lt_trichotomy x 0 with h9 | h9 | h9
    ·exact absurd (p4 h9) (by omega)
    ·exact h9
    ·exact absurd (p2 h9) (by omega)
   rw [if_neg c2, hx]; rfl
theorem pow_mul_lt {a b : Int} {j k : Nat} (h1 : a.natAbs < 2 ^ j) (h2 : b.natAbs < 2 ^ k) : (a * b).natAbs < 2 ^ (j + k) := by
 rw [Int.natAbs_mul, Nat.pow_add]
 exact Nat.mul_lt_mul'' h1 h2
theorem pow_add_lt {a b : Int} {j : Nat} (h1 : a.natAbs < 2 ^ j) (h2 : b.natAbs < 2 ^ j) : (a + b).natAbs < 2 ^ (j + 1) := by
 rw [Nat.pow_succ]
 have := Int.natAbs_add_le a b
 omega
theorem div_small' {a g : Int} {k : Nat} (h : a.natAbs < 2 ^ k) (hd : g ∣ a) : (a / g).natAbs < 2 ^ k := by
 rw [Int.natAbs_ediv_of_dvd hd]
 exact Nat.lt_of_le_of_lt (Nat.div_le_self _ _) h
/-- A fraction that is x / y, its numbers below 2 ^ k. -/
def RetR (x y : Int) (k : Nat) (w : World) (e : Ending) (w' : World) : Prop := ∃ (f : FV) (N D : Int), e = .returned (.tuple #[f.v, .int .i64 0]) ∧ IsF w' f N D ∧ EqQ N D x y ∧ N.natAbs < 2 ^ k ∧ D.natAbs < 2 ^ k ∧ Ext w w'
theorem add_eq {p q r s g : Int} (hg : 1 ≤ g) (d1 : g ∣ q) (d2 : g ∣ s) : (p * (s / g) + r * (q / g)) * (q * s) = (p * s + r * q) * (q / g * s) := by
 have e1 := Int.ediv_mul_cancel d1
 have e2 := Int.ediv_mul_cancel d2
 generalize q / g = a at *
 generalize s / g = b at *
 subst e1; subst e2
 grind
theorem fAddR_c (a b : FV) (p q r s : Int) (k : Nat) (w : World) (ha : IsF w a p q) (hb : IsF w b r s) (hk : 2 * k + 1 ≤ 16384) (b1 : p.natAbs < 2 ^ k) (b2 : q.natAbs < 2 ^ k) (b3 : r.natAbs < 2 ^ k) (b4 : s.natAbs < 2 ^ k) :
  Calls Try.prog 31 #[a.v, b.v] w (RetR (p * s + r * q) (q * s) (2 * k + 1) w) := by
 have hd := gcdI_dvd q s
 have hgp := gcdI_pos (x := q) hb.pos
 have c1 := pow_mul_lt b1 (div_small' b4 hd.2)
 have c2 := pow_mul_lt b3 (div_small' b2 hd.1)
 have c3 := pow_add_lt c1 c2
 have c4 := pow_mul_lt (div_small' b2 hd.1) b4
 have hQ : 1 ≤ q / gcdI q s := (Int.le_ediv_iff_mul_le (by omega)).2 (by rw [Int.one_mul]; exact Int.le_of_dvd (by have := ha.pos; omega) hd.1)
 have hD : 1 ≤ q / gcdI q s * s := pos_mul hQ hb.pos
 have hlow := low_of (p * (s / gcdI q s) + r * (q / gcdI q s)) (q / gcdI q s * s) hD
 have he := add_eq (p := p) (r := r) hgp hd.1 hd.2
 refine (fAdd_c a b p q r s w ha hb (big_pow c1 (by omega)) (big_pow c2 (by omega)) (big_pow c3 (by omega)) (big_pow c4 (by omega))).mono ?_
 rintro e w' ⟨f, rfl, hf, hx⟩
 have hp := pos_mul ha.pos hb.pos
 refine ⟨f, _, _, rfl, hf, ⟨hlow.pos, hp, ?_⟩, ?_, ?_, hx⟩
 ·refine mul_cancel_pos hD ?_
  have e1 := hlow.eq
  generalize (p * (s / gcdI q s) + r * (q / gcdI q s)) / gcdI (p * (s / gcdI q s) + r * (q / gcdI q s)) (q / gcdI q s * s) = N at *
  generalize q / gcdI q s * s / gcdI (p * (s / gcdI q s) + r * (q / gcdI q s)) (q / gcdI q s * s) = D at *
  generalize q / gcdI q s * s = Y at *
  generalize p * (s / gcdI q s) + r * (q / gcdI q s) = X at *
  generalize p * s + r * q = Z at *
  generalize q * s = V at *
  grind
 ·refine Nat.lt_of_le_of_lt hlow.nle ?_
  rw [show 2 * k + 1 = k + k + 1 from by omega]; exact c3
 ·have h1 := hlow.le
  have h2 := hlow.pos
  refine Nat.lt_of_le_of_lt (show _ ≤ (q / gcdI q s * s).natAbs by omega) (Nat.lt_of_lt_of_le c4 (Nat.pow_le_pow_right (by omega) (by omega)))
theorem fSubR_c (a b : FV) (p q r s : Int) (k : Nat) (w : World) (ha : IsF w a p q) (hb : IsF w b r s) (hk : 2 * k + 1 ≤ 16384) (b1 : p.natAbs < 2 ^ k) (b2 : q.natAbs < 2 ^ k) (b3 : r.natAbs < 2 ^ k) (b4 : s.natAbs < 2 ^ k) :
  Calls Try.prog 62 #[a.v, b.v] w (RetR (p * s - r * q) (q * s) (2 * k + 1) w) := by
 have hd := gcdI_dvd q s
 have hgp := gcdI_pos (x := q) hb.pos
 have c1 := pow_mul_lt b1 (div_small' b4 hd.2)
 have c2 := pow_mul_lt (a := -r) (by rw [Int.natAbs_neg]; exact b3) (div_small' b2 hd.1)
 have c3 := pow_add_lt c1 c2
 have c4 := pow_mul_lt (div_small' b2 hd.1) b4
 have hQ : 1 ≤ q / gcdI q s := (Int.le_ediv_iff_mul_le (by omega)).2 (by rw [Int.one_mul]; exact Int.le_of_dvd (by have := ha.pos; omega) hd.1)
 have hD : 1 ≤ q / gcdI q s * s := pos_mul hQ hb.pos
 have hlow := low_of (p * (s / gcdI q s) + -r * (q / gcdI q s)) (q / gcdI q s * s) hD
 have he := add_eq (p := p) (r := -r) hgp hd.1 hd.2
 refine (fSub_c a b p q r s w ha hb (big_pow c1 (by omega)) (big_pow c2 (by omega)) (big_pow c3 (by omega)) (big_pow c4 (by omega))).mono ?_
 rintro e w' ⟨f, rfl, hf, hx⟩
 have hp := pos_mul ha.pos hb.pos
 have hz : p * s + -r * q = p * s - r * q := by grind
 rw [hz] at he
 refine ⟨f, _, _, rfl, hf, ⟨hlow.pos, hp, ?_⟩, ?_, ?_, hx⟩
 ·refine mul_cancel_pos hD ?_
  have e1 := hlow.eq
  generalize (p * (s / gcdI q s) + -r * (q / gcdI q s)) / gcdI (p * (s / gcdI q s) + -r * (q / gcdI q s)) (q / gcdI q s * s) = N at *
  generalize q / gcdI q s * s / gcdI (p * (s / gcdI q s) + -r * (q / gcdI q s)) (q / gcdI q s * s) = D at *
  generalize q / gcdI q s * s = Y at *
  generalize p * (s / gcdI q s) + -r * (q / gcdI q s) = X at *
  generalize p * s - r * q = Z at *
  generalize q * s = V at *
  grind
 ·refine Nat.lt_of_le_of_lt hlow.nle ?_
  rw [show 2 * k + 1 = k + k + 1 from by omega]; exact c3
 ·have h1 := hlow.le
  have h2 := hlow.pos
  refine Nat.lt_of_le_of_lt (show _ ≤ (q / gcdI q s * s).natAbs by omega) (Nat.lt_of_lt_of_le c4 (Nat.pow_le_pow_right (by omega) (by omega)))
theorem mul_eq {p q r s g h : Int} (d1 : g ∣ p) (d2 : g ∣ s) (d3 : h ∣ r) (d4 : h ∣ q) : (p / g * (r / h)) * (q * s) = (p * r) * (q / h * (s / g)) := by
 have e1 := Int.ediv_mul_cancel d1
 have e2 := Int.ediv_mul_cancel d2
 have e3 := Int.ediv_mul_cancel d3
 have e4 := Int.ediv_mul_cancel d4
 generalize p / g = a at *
 generalize s / g = b at *
 generalize r / h = c at *
 generalize q / h = d at *
 subst e1; subst e2; subst e3; subst e4
 grind
theorem fMulR_c (a b : FV) (p q r s : Int) (k : Nat) (w : World) (ha : IsF w a p q) (hb : IsF w b r s) (hk : 2 * k ≤ 16384) (b1 : p.natAbs < 2 ^ k) (b2 : q.natAbs < 2 ^ k) (b3 : r.natAbs < 2 ^ k) (b4 : s.natAbs < 2 ^ k) :
  Calls Try.prog 91 #[a.v, b.v] w (RetR (p * r) (q * s) (2 * k) w) := by
 have d1 := gcdI_dvd p s
 have d2 := gcdI_dvd r q
 have c1 := pow_mul_lt (div_small' b1 d1.1) (div_small' b3 d2.1)
 have c2 := pow_mul_lt (div_small' b2 d2.2) (div_small' b4 d1.2)
 refine (fMul_c a b p q r s w ha hb (big_pow c1 (by omega)) (big_pow c2 (by omega))).mono ?_
 rintro e w' ⟨f, rfl, hf, hx⟩
 refine ⟨f, _, _, rfl, hf, ⟨hf.pos, pos_mul ha.pos hb.pos, mul_eq d1.1 d1.2 d2.1 d2.2⟩, ?_, ?_, hx⟩
 ·rw [show 2 * k = k + k from by omega]; exact c1
 ·rw [show 2 * k = k + k from by omega]; exact c2

/-- f stands for x / y, its numbers below 2 ^ k. -/
def IsR (w : World) (f : FV) (x y : Int) (k : Nat) : Prop := ∃ N D : Int, IsF w f N D ∧ EqQ N D x y ∧ N.natAbs < 2 ^ k ∧ D.natAbs < 2 ^ k
theorem IsR.keep {w w' : World} {f : FV} {x y : Int} {k : Nat} (h : IsR w f x y k) (e : IK w w') : IsR w' f x y k := by
 obtain ⟨N, D, h1, h2⟩ := h
 exact ⟨N, D, h1.keep e, h2⟩
theorem IsR.pos {w : World} {f : FV} {x y : Int} {k : Nat} (h : IsR w f x y k) : 1 ≤ y := by
 obtain ⟨N, D, h1, h2, _⟩ := h
 exact h2.2.1
theorem IsR.le {w : World} {f : FV} {x y : Int} {k j : Nat} (h : IsR w f x y k) (hj : k ≤ j) : IsR w f x y j := by
 obtain ⟨N, D, h1, h2, h3, h4⟩ := h
 have := Nat.pow_le_pow_right (show 0 < 2 by decide) hj
 exact ⟨N, D, h1, h2, by omega, by omega⟩
/-- What is returned, and no error. -/
def RetN (x y : Int) (k : Nat) (w : World) (e : Ending) (w' : World) : Prop := ∃ f : FV, e = .returned (.tuple #[f.v, .int .i64 0]) ∧ IsR w' f x y k ∧ Ext w w'
theorem RetR.n {x y : Int} {k : Nat} {w w' : World} {e : Ending} (h : RetR x y k w e w') : RetN x y k w e w' := by
 obtain ⟨f, N, D, h1, h2, h3, h4, h5, h6⟩ := h
 exact ⟨f, h1, ⟨N, D, h2, h3, h4, h5⟩, h6⟩
theorem EqQ.trans' {N D x y u v : Int} (h1 : EqQ N D x y) (h2 : x * v = u * y) (hv : 1 ≤ v) : EqQ N D u v := by
 obtain ⟨a, b, e⟩ := h1
 refine ⟨a, hv, mul_cancel_pos b ?_⟩
 grind
theorem IsR.eq {w : World} {f : FV} {x y u v : Int} {k : Nat} (h : IsR w f x y k) (h2 : x * v = u * y) (hv : 1 ≤ v) : IsR w f u v k := by
 obtain ⟨N, D, h1, h3, h4⟩ := h
 exact ⟨N, D, h1, h3.trans' h2 hv, h4⟩
/-- Add, Sub, Mul of numbers. -/
theorem addN_c (a b : FV) (x y u v : Int) (k : Nat) (w : World) (ha : IsR w a x y k) (hb : IsR w b u v k) (hk : 2 * k + 1 ≤ 16384) :
  Calls Try.prog 31 #[a.v, b.v] w (RetN (x * v + u * y) (y * v) (2 * k + 1) w) := by
 obtain ⟨N, D, h1, h2, h3, h4⟩ := ha
 obtain ⟨M, E, g1, g2, g3, g4⟩ := hb
 refine (fAddR_c a b N D M E k w h1 g1 hk h3 h4 g3 g4).mono ?_
 rintro e w' ⟨f, A, B, q1, q2, q3, q4, q5, q6⟩
 refine ⟨f, q1, ⟨A, B, q2, q3.trans' ?_ (pos_mul h2.2.1 g2.2.1), q4, q5⟩, q6⟩
 have := h2.2.2
 have := g2.2.2
 grind
theorem subN_c (a b : FV) (x y u v : Int) (k : Nat) (w : World) (ha : IsR w a x y k) (hb : IsR w b u v k) (hk : 2 * k + 1 ≤ 16384) :
  Calls Try.prog 62 #[a.v, b.v] w (RetN (x * v - u * y) (y * v) (2 * k + 1) w) := by
 obtain ⟨N, D, h1, h2, h3, h4⟩ := ha
 obtain ⟨M, E, g1, g2, g3, g4⟩ := hb
 refine (fSubR_c a b N D M E k w h1 g1 hk h3 h4 g3 g4).mono ?_
 rintro e w' ⟨f, A, B, q1, q2, q3, q4, q5, q6⟩
 exact ⟨f, q1, ⟨A, B, q2, EqQ.sub h2 g2 q3, q4, q5⟩, q6⟩
theorem mulN_c (a b : FV) (x y u v : Int) (k : Nat) (w : World) (ha : IsR w a x y k) (hb : IsR w b u v k) (hk : 2 * k ≤ 16384) :
  Calls Try.prog 91 #[a.v, b.v] w (RetN (x * u) (y * v) (2 * k) w) := by
 obtain ⟨N, D, h1, h2, h3, h4⟩ := ha
 obtain ⟨M, E, g1, g2, g3, g4⟩ := hb
 refine (fMulR_c a b N D M E k w h1 g1 hk h3 h4 g3 g4).mono ?_
 rintro e w' ⟨f, A, B, q1, q2, q3, q4, q5, q6⟩
 exact ⟨f, q1, ⟨A, B, q2, EqQ.mul h2 g2 q3, q4, q5⟩, q6⟩

set_option maxRecDepth 100000 in
theorem fSign_c (f : FV) (x y : Int) (k : Nat) (w : World) (h : IsR w f x y k) : Calls Try.prog 33 #[f.v] w fun e w' => e = .returned (.int .i64 (cmpI x 0)) ∧ Ext w w' := by
 obtain ⟨N, D, h1, h2, _⟩ := h
 have hs := Lib.hid h2.sign
 have HN := Lib.hid h1.num
 clear h1 h2
 go_enter Try.func33, Try.ntmps33
 go_wp2_with (go_at_call 48; refine (Sign_c f.n N _ (HN.out.keep (by repeat (first | exact IK.refl _ | refine IK.alloc ?_ _ | refine IK.drew ?_ | refine IK.setCell ?_ (by simp [hc, go_sem]) _)))).mono ?_; rintro e w' ⟨rfl, hd⟩)
 go_ret
 exact ⟨by rw [hs.out]; rfl, Ext.trans (by repeat (first | exact Ext.refl _ | assumption | refine Ext.setCell ?_ (by first | (simp; done) | (simp; omega) | omega) _ | refine Ext.alloc ?_ _ | refine Ext.drew ?_ | refine Ext.trans ?_ (by assumption))) hd⟩
end Go.Proofs.Ytkoidookanmknaa
