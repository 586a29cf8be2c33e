/- V01 V02: several texts of this proof in one. -/
import Derived.Test.YtagiaiocgjagnaaRows
namespace Go.Proofs.Ytagiaiocgjagnaa
set_option linter.unusedSimpArgs false
set_option linter.unusedVariables false

/-- A vector: a number for each cell. -/
abbrev Vec := Nat → Rat
def vzero : Vec := fun _ => 0
/-- v and a multiple of u. -/
def vadd (v u : Vec) (a : Rat) : Vec := fun c => v c + u c * a
/-- v less a multiple of u, as the program does it. -/
def vless (v u : Vec) (a : Rat) : Vec := fun c => v c - u c * a
/-- The span of some vectors. -/
inductive Sp (S : Vec → Prop) : Vec → Prop
 | zero : Sp S vzero
 | step {v u : Vec} (a : Rat) : Sp S v → S u → Sp S (vadd v u a)
/-- Rows with their leads. -/
abbrev Lds := List (Vec × Nat)
def InR (R : Lds) (u : Vec) : Prop := ∃ p, p ∈ R ∧ p.1 = u
/-- What is left of a vector. -/
def redV : Lds → Vec → Vec
 | [], v => v
 | (r, l) :: R, v => redV R (vless v r (v l))
def Red (R : Lds) : Prop := (∀ p, p ∈ R → p.1 p.2 = 1) ∧ R.Pairwise (fun p q => p.1 q.2 = 0 ∧ q.1 p.2 = 0)
/-- Nothing beyond n. -/
def Supp (n : Nat) (v : Vec) : Prop := ∀ c, n ≤ c → v c = 0
/-- The first place below n where a vector is not 0. -/
def leadOf (v : Vec) : Nat → Nat → Option Nat
 | _, 0 => none
 | i, n + 1 => if v i = 0 then leadOf v (i + 1) n else some i
/-- The new row, divided by its lead. -/
def newRow (v : Vec) (l : Nat) : Vec := fun c => v c / v l
/-- The rows with one more, and the others reduced by it. -/
def addR (R : Lds) (row : Vec) (l : Nat) : Lds := R.map (fun p => (vless p.1 row (p.1 l), p.2)) ++ [(row, l)]
/-- One more row. -/
def addV (n : Nat) (R : Lds) (v : Vec) : Lds := match leadOf (redV R v) 0 n with
 | none => R
 | some l => addR R (newRow (redV R v) l) l
end Go.Proofs.Ytagiaiocgjagnaa
namespace Go.Proofs.Ytagiaiocgjagnaa
set_option linter.unusedSimpArgs false
set_option linter.unusedVariables false

/-- q is x / y, both at most B. -/
def SmB (B : Nat) (q : Rat) : Prop := ∃ (x : Int) (y : Nat), 1 ≤ y ∧ y ≤ B ∧ x.natAbs ≤ B ∧ q * (y : Rat) = (x : Rat)
/-- The bound behind r rows. -/
def MB : Nat → Nat
 | 0 => 1
 | r + 1 => 2 * (r + 1) * (MB r * MB r)
/-- All numbers of the elimination stay below this. -/
@[irreducible] def BB : Nat := 13 * MB 12
def BBk : Nat := 7110
/-- All rows have one denominator. -/
structure Rep (R : Lds) (d M : Nat) : Prop where
 d1 : 1 ≤ d
 dM : d ≤ M
 num : ∀ p, p ∈ R → ∀ c, ∃ A : Int, p.1 c * (d : Rat) = (A : Rat) ∧ A.natAbs ≤ M
def ZO (q : Rat) : Prop := q = 0 ∨ q = 1
theorem cast_ne {y : Nat} (h : 1 ≤ y) : (y : Rat) ≠ 0 := by
 intro h0
 have := Rat.natCast_eq_zero_iff.1 h0
 omega
/-- A row with one denominator. -/
structure Sol (R : Lds) (r : Nat) : Prop where
 red : Red R
 rep : ∃ d, Rep R d (MB r)
 len : R.length ≤ r
theorem natAbs_mul_le {x y : Int} {a b : Nat} (h1 : x.natAbs ≤ a) (h2 : y.natAbs ≤ b) : (x * y).natAbs ≤ a * b := by
 rw [Int.natAbs_mul]; exact Nat.mul_le_mul h1 h2
/-- What one more row brings. -/
structure AddOK (R : Lds) (y : Vec) (l : Nat) : Prop where
 old : ∀ c, SmB BB (y c)
 row : ∀ c, SmB BB (newRow y l c)
 each : ∀ p, p ∈ R → SmB BB (p.1 l) ∧ ∀ c, SmB BB (p.1 c) ∧ SmB BB (newRow y l c * p.1 l) ∧ SmB BB (vless p.1 (newRow y l) (p.1 l) c)
end Go.Proofs.Ytagiaiocgjagnaa
