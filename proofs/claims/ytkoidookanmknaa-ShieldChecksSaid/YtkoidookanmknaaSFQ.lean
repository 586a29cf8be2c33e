/- frac: fractions as rational numbers of Lean; Add, Sub, Mul, Div, Sign. -/
import Derived.Test.YtkoidookanmknaaSFN
import Derived.Test.YtkoidookanmknaaSFDv
import Derived.Test.YtkoidookanmknaaSV02
namespace Go.Proofs.Ytkoidookanmknaa
set_option linter.unusedSimpArgs false
set_option linter.unusedVariables false
open Go.RowKit

/-- f stands for the rational number q. -/
def IsQ (w : World) (f : FV) (q : Rat) : Prop := ∃ N D : Int, IsF w f N D ∧ q * (D : Rat) = (N : Rat)
theorem IsQ.keep {w w' : World} {f : FV} {q : Rat} (h : IsQ w f q) (k : IK w w') : IsQ w' f q := by
 obtain ⟨N, D, h1, h2⟩ := h
 exact ⟨N, D, h1.keep k, h2⟩
theorem icast_ne {y : Int} (h : 1 ≤ y) : (y : Rat) ≠ 0 := by
 intro h0
 have := Rat.intCast_eq_zero_iff.1 h0
 omega
theorem low_le {N D x : Int} {y : Nat} (hg : Nat.gcd N.natAbs D.natAbs = 1) (hD : 1 ≤ D) (hy : 1 ≤ y) (h : N * (y : Int) = x * D) : N.natAbs ≤ x.natAbs ∧ D.natAbs ≤ y := by
 have e2 : N.natAbs * y = x.natAbs * D.natAbs := by
  have := congrArg Int.natAbs h
  rwa [Int.natAbs_mul, Int.natAbs_mul, Int.natAbs_natCast] at this
 have d1 : D.natAbs ∣ y := by
  have c : Nat.Coprime D.natAbs N.natAbs := by rw [Nat.coprime_comm]; exact hg
  exact c.dvd_of_dvd_mul_left (by rw [e2]; exact Nat.dvd_mul_left _ _)
 obtain ⟨t, ht⟩ := d1
 have ht1 : 1 ≤ t := by
  rcases Nat.eq_zero_or_pos t with h0 | h0
  ·rw [h0] at ht; omega
  ·exact h0
 have hDp : 0 < D.natAbs := by omega
 have e3 : x.natAbs = N.natAbs * t := by
  rw [ht] at e2
  refine Nat.eq_of_mul_eq_mul_left hDp ?_
  rw [Nat.mul_comm D.natAbs x.natAbs, ← e2, Nat.mul_left_comm]
 constructor
 ·rw [e3]; exact Nat.le_mul_of_pos_right _ ht1
 ·rw [ht]; exact Nat.le_mul_of_pos_right _ ht1
theorem IsQ.isR {w : World} {f : FV} {q : Rat} {B k : Nat} (h : IsQ w f q) (hs : SmB B q) (hB : B < 2 ^ k) : ∃ N D : Int, IsR w f N D k ∧ q * (D : Rat) = (N : Rat) := by
 obtain ⟨N, D, h1, h2⟩ := h
 obtain ⟨x, y, g1, g2, g3, g4⟩ := hs
 have hy := cast_ne g1
 have e : N * (y : Int) = x * D := by
  refine Rat.intCast_inj.1 ?_
  rw [Rat.intCast_mul, Rat.intCast_mul, ← h2, ← g4, Rat.intCast_natCast]
  grind
 have hl := low_le h1.low h1.pos g1 e
 exact ⟨N, D, ⟨N, D, h1, EqQ.refl h1.pos, by omega, by omega⟩, h2⟩
theorem IsR.isQ {w : World} {f : FV} {x y : Int} {k : Nat} {q : Rat} (h : IsR w f x y k) (hq : q * (y : Rat) = (x : Rat)) : IsQ w f q := by
 obtain ⟨N, D, h1, h2, _⟩ := h
 obtain ⟨a, b, e⟩ := h2
 refine ⟨N, D, h1, ?_⟩
 have hy := icast_ne b
 have e' : (N : Rat) * (y : Rat) = (x : Rat) * (D : Rat) := by rw [← Rat.intCast_mul, e, Rat.intCast_mul]
 rw [← hq] at e'
 have : (q * (D : Rat) - (N : Rat)) * (y : Rat) = 0 := by grind
 rcases Rat.mul_eq_zero.1 this with h9 | h9
 ·grind
 ·exact absurd h9 hy
/-- What Add and others return: the number q. -/
def RetV (q : Rat) (w : World) (e : Ending) (w' : World) : Prop := ∃ f : FV, e = .returned (.tuple #[f.v, .int .i64 0]) ∧ IsQ w' f q ∧ Ext w w'
theorem RetN.v {x y : Int} {k : Nat} {w w' : World} {e : Ending} {q : Rat} (h : RetN x y k w e w') (hq : q * (y : Rat) = (x : Rat)) : RetV q w e w' := by
 obtain ⟨f, h1, h2, h3⟩ := h
 exact ⟨f, h1, h2.isQ hq, h3⟩
theorem addQ_c (a b : FV) (p q : Rat) (B k : Nat) (w : World) (ha : IsQ w a p) (hb : IsQ w b q) (h1 : SmB B p) (h2 : SmB B q) (hB : B < 2 ^ k) (hk : 2 * k + 1 ≤ 16384) :
  Calls Try.prog 31 #[a.v, b.v] w (RetV (p + q) w) := by
 obtain ⟨N, D, a1, a2⟩ := ha.isR h1 hB
 obtain ⟨M, E, b1, b2⟩ := hb.isR h2 hB
 refine (addN_c a b N D M E k w a1 b1 hk).mono ?_
 intro e w' h
 refine h.v ?_
 rw [Rat.intCast_mul, Rat.intCast_add, Rat.intCast_mul, Rat.intCast_mul, ← a2, ← b2]
 grind
theorem subQ_c (a b : FV) (p q : Rat) (B k : Nat) (w : World) (ha : IsQ w a p) (hb : IsQ w b q) (h1 : SmB B p) (h2 : SmB B q) (hB : B < 2 ^ k) (hk : 2 * k + 1 ≤ 16384) :
  Calls Try.prog 62 #[a.v, b.v] w (RetV (p - q) w) := by
 obtain ⟨N, D, a1, a2⟩ := ha.isR h1 hB
 obtain ⟨M, E, b1, b2⟩ := hb.isR h2 hB
 refine (subN_c a b N D M E k w a1 b1 hk).mono ?_
 intro e w' h
 refine h.v ?_
 rw [Rat.intCast_mul, Rat.intCast_sub, Rat.intCast_mul, Rat.intCast_mul, ← a2, ← b2]
 grind
theorem mulQ_c (a b : FV) (p q : Rat) (B k : Nat) (w : World) (ha : IsQ w a p) (hb : IsQ w b q) (h1 : SmB B p) (h2 : SmB B q) (hB : B < 2 ^ k) (hk : 2 * k ≤ 16384) :
  Calls Try.prog 91 #[a.v, b.v] w (RetV (p * q) w) := by
 obtain ⟨N, D, a1, a2⟩ := ha.isR h1 hB
 obtain ⟨M, E, b1, b2⟩ := hb.isR h2 hB
 refine (mulN_c a b N D M E k w a1 b1 hk).mono ?_
 intro e w' h
 refine h.v ?_
 rw [Rat.intCast_mul, Rat.intCast_mul, ← a2, ← b2]
 grind
theorem signQ_c (f : FV) (q : Rat) (w : World) (h : IsQ w f q) : Calls Try.prog 33 #[f.v] w fun e w' => (∃ s : Int, e = .returned (.int .i64 s) ∧ (s = 0 ↔ q = 0)) ∧ Ext w w' := by
 obtain ⟨N, D, h1, h2⟩ := h
 obtain ⟨k, hk⟩ : ∃ k, N.natAbs < 2 ^ k ∧ D.natAbs < 2 ^ k := ⟨N.natAbs + D.natAbs, Nat.lt_of_le_of_lt (by omega) Nat.lt_two_pow_self, Nat.lt_of_le_of_lt (by omega) Nat.lt_two_pow_self⟩
 refine (fSign_c f N D k w ⟨N, D, h1, EqQ.refl h1.pos, hk.1, hk.2⟩).mono ?_
 rintro e w' ⟨rfl, hx⟩
 refine ⟨⟨_, rfl, ?_⟩, hx⟩
 have hD := icast_ne h1.pos
 constructor
 ·intro h0
  have hN : N = 0 := by unfold cmpI at h0; split at h0 <;> (try split at h0) <;> omega
  rw [hN] at h2
  rcases Rat.mul_eq_zero.1 h2 with h9 | h9
  ·exact h9
  ·exact absurd h9 hD
 ·intro h0
  rw [h0, Rat.zero_mul] at h2
  have : N = 0 := by
   have := Rat.intCast_eq_zero_iff.1 h2.symm
   exact this
  rw [this]; rfl
theorem divQ_c (a b : FV) (p q : Rat) (B k : Nat) (w : World) (ha : IsQ w a p) (hb : IsQ w b q) (h1 : SmB B p) (h2 : SmB B q) (h0 : q ≠ 0) (hB : B < 2 ^ k) (hk : 2 * k ≤ 16384) :
  Calls Try.prog 81 #[a.v, b.v] w (RetV (p / q) w) := by
 obtain ⟨N, D, a1, a2⟩ := ha.isR h1 hB
 obtain ⟨M, E, b1, b2⟩ := hb.isR h2 hB
 have hM : M ≠ 0 := fun e => by
  rw [e] at b2
  rcases Rat.mul_eq_zero.1 b2 with h9 | h9
  ·exact h0 h9
  ·exact absurd h9 (icast_ne b1.pos)
 obtain ⟨s, hs, hs2⟩ : ∃ s : Int, (s = 1 ∨ s = -1) ∧ 1 ≤ s * M := by
  rcases Int.lt_or_le M 0 with h9 | h9
  ·exact ⟨-1, .inr rfl, by omega⟩
  ·exact ⟨1, .inl rfl, by omega⟩
 refine (divN_c a b N D M E s k w a1 b1 hs hs2 hk).mono ?_
 intro e w' h
 refine h.v ?_
 rw [Rat.intCast_mul, Rat.intCast_mul, Rat.intCast_mul, Rat.intCast_mul, ← a2, ← b2, Rat.div_def]
 have := Rat.mul_inv_cancel q h0
 grind
end Go.Proofs.Ytkoidookanmknaa
