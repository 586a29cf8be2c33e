/- cross: on, On. -/
import Derived.Test.YtagiaiocgjagnaaQWT
import Derived.Test.YtagiaiocgjagnaaQX04
namespace Go.Proofs.Ytagiaiocgjagnaa
set_option linter.unusedSimpArgs false
set_option linter.unusedVariables false
open Go.RowKit

/-- The box of a segment. -/
abbrev Sg.bx (s : Sg) : Bx := ⟨min s.a.x s.b.x, min s.a.y s.b.y, max s.a.x s.b.x, max s.a.y s.b.y⟩
/-- Whether a point lies on a segment. -/
def onB (s : Sg) (p : QP) : Bool := inB s.bx p && (cmpQ (crs s.a.q s.b.q p) 0 == 0)
theorem btw_box {a b : Int} {x : Rat} : (((min a b : Int) : Rat) ≤ x ∧ x ≤ ((max a b : Int) : Rat)) ↔ BtwQ (a : Rat) x (b : Rat) := by
 unfold BtwQ
 rcases Int.le_total a b with h | h
 ·rw [Int.min_eq_left h, Int.max_eq_right h]
  constructor
  ·intro h1; exact .inl h1
  ·rintro (h1 | h1)
   ·exact h1
   ·have := icast_le.2 h
    exact ⟨by grind, by grind⟩
 ·rw [Int.min_eq_right h, Int.max_eq_left h]
  constructor
  ·intro h1; exact .inr h1
  ·rintro (h1 | h1)
   ·have := icast_le.2 h
    exact ⟨by grind, by grind⟩
   ·exact h1
theorem onB_on {s : Sg} {p : QP} : onB s p = true ↔ OnQ s.q p := by
 unfold onB inB OnQ
 rw [Bool.and_eq_true, Bool.and_eq_true, decide_eq_true_iff, decide_eq_true_iff, beq_iff_eq, cmpQ_zero, btw_box, btw_box]
 exact And.comm
theorem bx_ok {s : Sg} (h : OKs s) : s.bx.ok := by
 obtain ⟨⟨a1, a2, a3, a4⟩, ⟨b1, b2, b3, b4⟩, _⟩ := h
 unfold Bx.ok Sg.bx
 simp only
 omega
/-- What On returns. -/
def onR (s : Sg) (p : QP) : Bool × Int := if segE s = 0 then (onB s p, 0) else (false, segE s)
end Go.Proofs.Ytagiaiocgjagnaa
