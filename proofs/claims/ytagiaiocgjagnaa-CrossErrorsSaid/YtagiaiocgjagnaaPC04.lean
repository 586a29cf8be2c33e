/- Plain laws of chapter 07: points and segments of the reference. -/
import Derived.Test.YtagiaiocgjagnaaMC03
import Derived.Test.YtagiaiocgjagnaaPR7b
namespace Go.Proofs.Ytagiaiocgjagnaa
set_option linter.unusedSimpArgs false
set_option linter.unusedVariables false

/-- The point that the reference's point stands for. -/
def RP.q (p : RP) : QP := ⟨(p.x : Rat) / (p.d : Rat), (p.y : Rat) / (p.d : Rat)⟩
/-- In lowest terms. -/
def NormR (p : RP) : Prop := 1 ≤ p.d ∧ rgcd (rgcd p.x p.y) p.d = 1
/-- Whether the reference's point lies on a segment. -/
def onF (s : Sg) (p : RP) : Bool :=
  let x := p.x - s.a.x * p.d
  let y := p.y - s.a.y * p.d
  let u := s.b.x - s.a.x
  let v := s.b.y - s.a.y
  if u * y = v * x then decide (0 ≤ u * x + v * y ∧ u * x + v * y ≤ (u * u + v * v) * p.d) else false
end Go.Proofs.Ytagiaiocgjagnaa
