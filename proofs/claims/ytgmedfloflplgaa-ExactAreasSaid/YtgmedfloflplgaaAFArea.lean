/- exact: area, where nothing is too great. -/
import Derived.Test.YtgmedfloflplgaaAFA
import Derived.Test.YtgmedfloflplgaaWS
import Derived.StillTailTactics
namespace Go.Proofs.Ytgmedfloflplgaa
set_option linter.unusedSimpArgs false
set_option linter.unusedVariables false
open Go.RowKit

structure PV where
 x : FV
 y : FV
abbrev PV.v (p : PV) : Value := .agg #[.bool p.x.n.neg, .slice p.x.n.a p.x.n.n p.x.n.c, .bool p.x.d.neg, .slice p.x.d.a p.x.d.n p.x.d.c, .bool p.y.n.neg, .slice p.y.n.a p.y.n.n p.y.n.c, .bool p.y.d.neg, .slice p.y.d.a p.y.d.n p.y.d.c]
/-- p stands for the point (x / xd, y / yd), each number below 2 ^ k. -/
structure IsP (w : World) (p : PV) (x xd y yd : Int) (k : Nat) : Prop where
 fx : IsF w p.x x xd
 fy : IsF w p.y y yd
 bx : x.natAbs < 2 ^ k
 bxd : xd.natAbs < 2 ^ k
 bys : y.natAbs < 2 ^ k
 byd : yd.natAbs < 2 ^ k
theorem noInt8 : ∀ (o : Nat) k z, (#[Value.bool false, Value.slice none 0 0, Value.bool false, Value.slice none 0 0, Value.bool false, Value.slice none 0 0, Value.bool false, Value.slice none 0 0] : Array Value)[o]? ≠ some (Value.int k z) := by
 intro o k z h
 match o with
 | 0 | 1 | 2 | 3 | 4 | 5 | 6 | 7 => simp at h
 | o + 8 => simp at h
end Go.Proofs.Ytgmedfloflplgaa
