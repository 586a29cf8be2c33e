/- Plain laws of chapter 30: how great the numbers of the elimination get. -/
import Derived.Test.YtagiaiocgjagnaaKV01
namespace Go.Proofs.Ytagiaiocgjagnaa
set_option linter.unusedSimpArgs false
set_option linter.unusedVariables false

/-- q is x / y, both at most B. -/
def SmB (B : Nat) (q : Rat) : Prop := ∃ (x : Int) (y : Nat), 1 ≤ y ∧ y ≤ B ∧ x.natAbs ≤ B ∧ q * (y : Rat) = (x : Rat)
/-- The bound behind r rows. -/
def MB : Nat → Nat
  | 0 => 1
  | r + 1 => 2 * (r + 1) * (MB r * MB r)
/-- All numbers of the elimination stay below this. -/
@[irreducible] def BB : Nat := 13 * MB 12
def BBk : Nat := 7110
/-- All rows have one denominator. -/
structure Rep (R : Lds) (d M : Nat) : Prop where
  d1 : 1 ≤ d
  dM : d ≤ M
  num : ∀ p, p ∈ R → ∀ c, ∃ A : Int, p.1 c * (d : Rat) = (A : Rat) ∧ A.natAbs ≤ M
def ZO (q : Rat) : Prop := q = 0 ∨ q = 1
theorem cast_ne {y : Nat} (h : 1 ≤ y) : (y : Rat) ≠ 0 := by
  intro h0
  have := Rat.natCast_eq_zero_iff.1 h0
  omega
/-- A row with one denominator. -/
structure Sol (R : Lds) (r : Nat) : Prop where
  red : Red R
  rep : ∃ d, Rep R d (MB r)
  len : R.length ≤ r
theorem natAbs_mul_le {x y : Int} {a b : Nat} (h1 : x.natAbs ≤ a) (h2 : y.natAbs ≤ b) : (x * y).natAbs ≤ a * b := by
  rw [Int.natAbs_mul]; exact Nat.mul_le_mul h1 h2
/-- What one more row brings. -/
structure AddOK (R : Lds) (y : Vec) (l : Nat) : Prop where
  old : ∀ c, SmB BB (y c)
  row : ∀ c, SmB BB (newRow y l c)
  each : ∀ p, p ∈ R → SmB BB (p.1 l) ∧ ∀ c, SmB BB (p.1 c) ∧ SmB BB (newRow y l c * p.1 l) ∧ SmB BB (vless p.1 (newRow y l) (p.1 l) c)
end Go.Proofs.Ytagiaiocgjagnaa
