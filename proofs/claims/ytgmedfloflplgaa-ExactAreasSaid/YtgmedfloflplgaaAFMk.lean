/- frac: Make of a negative denominator; Div. -/
import Derived.Test.YtgmedfloflplgaaFB
namespace Go.Proofs.Ytgmedfloflplgaa
set_option linter.unusedSimpArgs false
set_option linter.unusedVariables false
open Go.RowKit

/-- What the boxes hold behind the turn of signs. -/
def Turned (w : World) (B : Nat) (x y : Int) (W : World) : Prop := ∃ p q : IV, Ext w W ∧ At W B #[.bool p.neg, .slice p.a p.n p.c] ∧ At W (B + 1) #[.bool q.neg, .slice q.a q.n q.c] ∧ IsI W p x ∧ IsI W q y ∧ Own W (B + 1 + 1) 4
theorem noIntW2 (g : Bool) (a : Option Addr) (n c : Nat) : ∀ (o : Nat) k m, (#[Value.bool g, Value.slice a n c] : Array Value)[o]? ≠ some (Value.int k m) := by
 intro o k m h
 match o with
 | 0 | 1 => simp at h
 | o + 2 => simp at h
end Go.Proofs.Ytgmedfloflplgaa
