/- exact, point: numbers and points as rational ones; Sign, Area, Side, whole, Of. -/
import Derived.Test.YtgmedfloflplgaaAFArea
namespace Go.Proofs.Ytgmedfloflplgaa
set_option linter.unusedSimpArgs false
set_option linter.unusedVariables false
open Go.RowKit

/-- p stands for the point (x / xd, y / yd). -/
structure IsPt (w : World) (p : PV) (x xd y yd : Int) (k : Nat) : Prop where
 fx : IsR w p.x x xd k
 fy : IsR w p.y y yd k
theorem IsPt.keep {w w' : World} {p : PV} {x xd y yd : Int} {k : Nat} (h : IsPt w p x xd y yd k) (e : IK w w') : IsPt w' p x xd y yd k := ⟨h.fx.keep e, h.fy.keep e⟩
/-- The numerator of the doubled area of three points, each with one denominator. -/
def areaF (ax ay ad bx by' bd cx cy cd : Int) : Int := (bx * ad - ax * bd) * (cy * ad - ay * cd) - (by' * ad - ay * bd) * (cx * ad - ax * cd)
end Go.Proofs.Ytgmedfloflplgaa
