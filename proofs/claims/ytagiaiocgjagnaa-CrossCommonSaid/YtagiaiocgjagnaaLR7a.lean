/- meresmanref05: common, Make, sign, Of, Compare, Side, Mid. -/
import Derived.Test.YtagiaiocgjagnaaR01a
namespace Go.Proofs.Ytagiaiocgjagnaa
set_option linter.unusedSimpArgs false
set_option linter.unusedVariables false
open Go.RowKit

def rgcd (x y : Int) : Int := ((Nat.gcd x.natAbs y.natAbs : Nat) : Int)
/-- A point of the reference: x / d and y / d. -/
structure RP where
  x : Int
  y : Int
  d : Int
abbrev RP.v (p : RP) : Value := .agg #[.int .i64 p.x, .int .i64 p.y, .int .i64 p.d]
def mkF (x y d : Int) : RP := ⟨x / rgcd (rgcd x y) d, y / rgcd (rgcd x y) d, d / rgcd (rgcd x y) d⟩
def makeF (x y d : Int) : RP := if d < 0 then mkF (-x) (-y) (-d) else mkF x y d
/-- Numbers whose sums do not leave the machine's range. -/
def N62 (x : Int) : Prop := -4611686018427387903 ≤ x ∧ x ≤ 4611686018427387903
/-- What Compare returns. -/
def cmp5 (a b : RP) : Int := if cmpI (a.x * b.d) (b.x * a.d) = 0 then cmpI (a.y * b.d) (b.y * a.d) else cmpI (a.x * b.d) (b.x * a.d)
/-- The point in the middle. -/
def midF (a b : RP) : RP := makeF (a.x * b.d + b.x * a.d) (a.y * b.d + b.y * a.d) (2 * a.d * b.d)
def N61 (x : Int) : Prop := -1152921504606846976 ≤ x ∧ x ≤ 1152921504606846976
end Go.Proofs.Ytagiaiocgjagnaa
