/- Plain laws of chapter 30: vectors of rational numbers, spans, rows in reduced form. -/
import Derived.Test.YtagiaiocgjagnaaRows
namespace Go.Proofs.Ytagiaiocgjagnaa
set_option linter.unusedSimpArgs false
set_option linter.unusedVariables false

/-- A vector: a number for each cell. -/
abbrev Vec := Nat → Rat
def vzero : Vec := fun _ => 0
/-- v and a multiple of u. -/
def vadd (v u : Vec) (a : Rat) : Vec := fun c => v c + u c * a
/-- v less a multiple of u, as the program does it. -/
def vless (v u : Vec) (a : Rat) : Vec := fun c => v c - u c * a
/-- The span of some vectors. -/
inductive Sp (S : Vec → Prop) : Vec → Prop
  | zero : Sp S vzero
  | step {v u : Vec} (a : Rat) : Sp S v → S u → Sp S (vadd v u a)
/-- Rows with their leads. -/
abbrev Lds := List (Vec × Nat)
def InR (R : Lds) (u : Vec) : Prop := ∃ p, p ∈ R ∧ p.1 = u
/-- What is left of a vector. -/
def redV : Lds → Vec → Vec
  | [], v => v
  | (r, l) :: R, v => redV R (vless v r (v l))
def Red (R : Lds) : Prop := (∀ p, p ∈ R → p.1 p.2 = 1) ∧ R.Pairwise (fun p q => p.1 q.2 = 0 ∧ q.1 p.2 = 0)
/-- Nothing beyond n. -/
def Supp (n : Nat) (v : Vec) : Prop := ∀ c, n ≤ c → v c = 0
/-- The first place below n where a vector is not 0. -/
def leadOf (v : Vec) : Nat → Nat → Option Nat
  | _, 0 => none
  | i, n + 1 => if v i = 0 then leadOf v (i + 1) n else some i
/-- The new row, divided by its lead. -/
def newRow (v : Vec) (l : Nat) : Vec := fun c => v c / v l
/-- The rows with one more, and the others reduced by it. -/
def addR (R : Lds) (row : Vec) (l : Nat) : Lds := R.map (fun p => (vless p.1 row (p.1 l), p.2)) ++ [(row, l)]
/-- One more row. -/
def addV (n : Nat) (R : Lds) (v : Vec) : Lds := match leadOf (redV R v) 0 n with
  | none => R
  | some l => addR R (newRow (redV R v) l) l
end Go.Proofs.Ytagiaiocgjagnaa
