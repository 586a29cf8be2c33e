/- R7c X17 X21 X22 X23 X24: several texts of this proof in one. -/
import Derived.Test.YtagiaiocgjagnaaPR7b
import Derived.Test.YtagiaiocgjagnaaWS
import Derived.Test.YtagiaiocgjagnaaPX14
import Derived.Test.YtagiaiocgjagnaaPC04
import Derived.Test.YtagiaiocgjagnaaPX11
import Derived.Test.YtagiaiocgjagnaaPC06
import Derived.Test.YtagiaiocgjagnaaLRow
import Derived.Great.BuildSlice
import Derived.Test.YtagiaiocgjagnaaPX12
namespace Go.Proofs.Ytagiaiocgjagnaa
set_option linter.unusedSimpArgs false
set_option linter.unusedVariables false
open Go.RowKit

def dens : List Int := [1, 1, 1, 2, 2, 3, 5, 12]
def denF (k : Int) : Int := dens.getD (k % 8).toNat 1
def someF (n : Int) : RP :=
  let k := aroundF n 1048576
  let p := gridF (k / 8)
  if denF k = 1 then ⟨p.x, p.y, 1⟩ else makeF (p.x * denF k - k / 64 % denF k) (p.y * denF k - k / 256 % denF k) (denF k)
end Go.Proofs.Ytagiaiocgjagnaa
namespace Go.Proofs.Ytagiaiocgjagnaa
set_option linter.unusedSimpArgs false
set_option linter.unusedVariables false
open Go.RowKit

/-- The numbers of a point of the reference are small. -/
structure PIn (p : RP) (m : Int) : Prop where
  d1 : 1 ≤ p.d
  dm : p.d ≤ m
  x1 : -m ≤ p.x
  x2 : p.x ≤ m
  y1 : -m ≤ p.y
  y2 : p.y ≤ m
end Go.Proofs.Ytagiaiocgjagnaa
namespace Go.Proofs.Ytagiaiocgjagnaa
set_option linter.unusedSimpArgs false
set_option linter.unusedVariables false
open Go.RowKit

def encRP : Enc RP := ⟨fun p => [.int .i64 p.x, .int .i64 p.y, .int .i64 p.d], 3, fun _ => rfl, fun p u hu => by
  simp at hu
  rcases hu with rfl | rfl | rfl <;> rfl, by omega⟩
/-- A slice of points. -/
structure RPs (w : World) (a : Option Addr) (n c : Nat) (l : List RP) : Prop where
  len : l.length = n
  cap : n ≤ c
  most : c ≤ maxLen
  at' : (a = none ∧ n = 0 ∧ c = 0) ∨ ∃ g, a = some ⟨g, 0, none⟩ ∧ 0 < n ∧ GAt encRP w g l ∧ g < w.heap.size
/-- Where the elements of a slice lie that is appended. -/
def SrcR (w : World) (a : Option Addr) (n : Nat) (l : List RP) : Prop := l.length = n ∧ (n = 0 ∨ ∃ ad, a = some ad ∧ ∀ (j : Nat) (u : Value), (gcells encRP l)[j]? = some u → w.cell? (ad.add j) = some u)
end Go.Proofs.Ytagiaiocgjagnaa
namespace Go.Proofs.Ytagiaiocgjagnaa
set_option linter.unusedSimpArgs false
set_option linter.unusedVariables false
open Go.RowKit

abbrev RP.ca (p : RP) : Array Value := #[.int .i64 p.x, .int .i64 p.y, .int .i64 p.d]
/-- What the tail of Put is told: the place k, what stands before and behind it. -/
def PutK (l : List RP) (p : RP) (k : Nat) : Prop := insF l p = l.take k ++ p :: l.drop k
end Go.Proofs.Ytagiaiocgjagnaa
namespace Go.Proofs.Ytagiaiocgjagnaa
set_option linter.unusedSimpArgs false
set_option linter.unusedVariables false
open Go.RowKit

theorem Blk.c4 {w : World} {b : Nat} {s : Sg} {t : TypeId} (h : Blk w b s.cs t) : w.cell? ⟨b, 0, none⟩ = some (.int .i64 s.a.x) ∧ w.cell? ⟨b, 1, none⟩ = some (.int .i64 s.a.y) ∧ w.cell? ⟨b, 2, none⟩ = some (.int .i64 s.b.x) ∧ w.cell? ⟨b, 3, none⟩ = some (.int .i64 s.b.y) := ⟨h.cell 0, h.cell 1, h.cell 2, h.cell 3⟩
end Go.Proofs.Ytagiaiocgjagnaa
namespace Go.Proofs.Ytagiaiocgjagnaa
set_option linter.unusedSimpArgs false
set_option linter.unusedVariables false
open Go.RowKit

def zRP : RP := ⟨0, 0, 0⟩
/-- What the reference's Meet returns, by its list. -/
def rcOf (l : List RP) : RC := if l.length = 0 then ⟨0, zRP, zRP⟩ else if l.length = 1 then ⟨1, (l[0]?).getD zRP, zRP⟩ else ⟨2, (l[0]?).getD zRP, (l[l.length - 1]?).getD zRP⟩
/-- The list after the first i ends. -/
def preF (s t : Sg) (i : Nat) : List RP := ((four s t).take i).foldl (comF s t) []
end Go.Proofs.Ytagiaiocgjagnaa
