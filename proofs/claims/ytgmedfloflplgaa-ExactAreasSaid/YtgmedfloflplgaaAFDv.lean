/- frac: Div. -/
import Derived.Test.YtgmedfloflplgaaAFN
import Derived.Test.YtgmedfloflplgaaAFMk
import Derived.Test.YtgmedfloflplgaaWS
namespace Go.Proofs.Ytgmedfloflplgaa
set_option linter.unusedSimpArgs false
set_option linter.unusedVariables false
open Go.RowKit

theorem low_isR {w : World} {f : FV} {x d : Int} {k : Nat} (hd : 1 ≤ d) (h : IsF w f (x / gcdI x d) (d / gcdI x d)) (hx : x.natAbs < 2 ^ k) (hk : d.natAbs < 2 ^ k) : IsR w f x d k := by
 have hl := low_of x d hd
 have dv := gcdI_dvd x d
 exact ⟨_, _, h, ⟨h.pos, hd, hl.eq⟩, div_small' hx dv.1, div_small' hk dv.2⟩
/-- 1 / b. -/
def Inv (w : World) (f : FV) (u v s : Int) (k : Nat) : Prop := IsR w f (s * v) (s * u) k
theorem At.putF' {w : World} {b : Nat} (h : Own w b 4) (f : FV) : At (putF w b f) b #[.bool f.n.neg, .slice f.n.a f.n.n f.n.c, .bool f.d.neg, .slice f.d.a f.d.n f.d.c] := fun o ho => by
 obtain ⟨p0, p1, p2, p3⟩ := putF_cells h f
 match o, ho with
 | 0, _ => exact p0
 | 1, _ => exact p1
 | 2, _ => exact p2
 | 3, _ => exact p3
 | o + 4, ho => simp at ho; omega
end Go.Proofs.Ytgmedfloflplgaa
