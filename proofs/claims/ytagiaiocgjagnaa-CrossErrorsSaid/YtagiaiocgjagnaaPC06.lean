/- Plain laws of chapter 07: the ordered lists of the reference, and what Meet makes of them. -/
import Derived.Test.YtagiaiocgjagnaaPC04
namespace Go.Proofs.Ytagiaiocgjagnaa
set_option linter.unusedSimpArgs false
set_option linter.unusedVariables false

/-- A point is put into an ordered list, if it is not there. -/
def insF : List RP → RP → List RP
  | [], p => [p]
  | q :: l, p => if cmp5 q p < 0 then q :: insF l p else if q.x = p.x ∧ q.y = p.y ∧ q.d = p.d then q :: l else p :: q :: l
/-- Points in lowest terms, in order. -/
structure Srt (l : List RP) : Prop where
  n : ∀ p ∈ l, NormR p
  s : l.Pairwise fun a b => LtQ a.q b.q
/-- A point is put into the list, if it lies on both segments. -/
def comF (s t : Sg) (l : List RP) (p : RP) : List RP := if onF s p = true ∧ onF t p = true then insF l p else l
def ofR (p : Pt) : RP := ⟨p.x, p.y, 1⟩
def crD (s t : Sg) : Int := (s.b.x - s.a.x) * (t.b.y - t.a.y) - (s.b.y - s.a.y) * (t.b.x - t.a.x)
def crN (s t : Sg) : Int := (t.a.x - s.a.x) * (t.b.y - t.a.y) - (t.a.y - s.a.y) * (t.b.x - t.a.x)
def crP (s t : Sg) : RP := makeF (s.a.x * crD s t + (s.b.x - s.a.x) * crN s t) (s.a.y * crD s t + (s.b.y - s.a.y) * crN s t) (crD s t)
def four (s t : Sg) : List RP := [ofR s.a, ofR s.b, ofR t.a, ofR t.b]
def candF (s t : Sg) : List RP := four s t ++ (if crD s t = 0 then [] else [crP s t])
def allF (s t : Sg) : List RP := (candF s t).foldl (comF s t) []
end Go.Proofs.Ytagiaiocgjagnaa
