/- point: Mid (07). -/
import Derived.Test.YtagiaiocgjagnaaQFX
import Derived.Test.YtagiaiocgjagnaaQFDv
namespace Go.Proofs.Ytagiaiocgjagnaa
set_option linter.unusedSimpArgs false
set_option linter.unusedVariables false
open Go.RowKit

end Go.Proofs.Ytagiaiocgjagnaa
namespace Go.Proofs.Ytagiaiocgjagnaa
set_option linter.unusedSimpArgs false
set_option linter.unusedVariables false
open Go.RowKit

/-- The point in the middle. -/
def IsMid (w : World) (p : PV) (x xd y yd u ud v vd : Int) (k : Nat) : Prop := IsPt w p ((x * ud + u * xd) * (1 * 1)) (xd * ud * (1 * 2)) ((y * vd + v * yd) * (1 * 1)) (yd * vd * (1 * 2)) (2 * (2 * k + 1))
end Go.Proofs.Ytagiaiocgjagnaa
