/- cross: on, On. -/
import Derived.Test.YtagiaiocgjagnaaKX04
namespace Go.Proofs.Ytagiaiocgjagnaa
set_option linter.unusedSimpArgs false
set_option linter.unusedVariables false
open Go.RowKit

/-- The box of a segment. -/
abbrev Sg.bx (s : Sg) : Bx := ⟨min s.a.x s.b.x, min s.a.y s.b.y, max s.a.x s.b.x, max s.a.y s.b.y⟩
/-- Whether a point lies on a segment. -/
def onB (s : Sg) (p : QP) : Bool := inB s.bx p && (cmpQ (crs s.a.q s.b.q p) 0 == 0)
/-- What On returns. -/
def onR (s : Sg) (p : QP) : Bool × Int := if segE s = 0 then (onB s p, 0) else (false, segE s)
end Go.Proofs.Ytagiaiocgjagnaa
