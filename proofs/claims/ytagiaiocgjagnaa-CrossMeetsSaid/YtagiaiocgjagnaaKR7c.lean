/- meresmanref05: Some. -/
import Derived.Test.YtagiaiocgjagnaaKR7a
import Derived.Test.YtagiaiocgjagnaaR7b
import Derived.Test.YtagiaiocgjagnaaWS
namespace Go.Proofs.Ytagiaiocgjagnaa
set_option linter.unusedSimpArgs false
set_option linter.unusedVariables false
open Go.RowKit

def dens : List Int := [1, 1, 1, 2, 2, 3, 5, 12]
def denF (k : Int) : Int := dens.getD (k % 8).toNat 1
def someF (n : Int) : RP :=
  let k := aroundF n 1048576
  let p := gridF (k / 8)
  if denF k = 1 then ⟨p.x, p.y, 1⟩ else makeF (p.x * denF k - k / 64 % denF k) (p.y * denF k - k / 256 % denF k) (denF k)
end Go.Proofs.Ytagiaiocgjagnaa
