/- exact: the three steps of area, and what they leave. -/
import Derived.Test.YtagiaiocgjagnaaQFN
import Derived.Test.YtagiaiocgjagnaaQWS
/- exact: the three steps of area, where nothing is too great. -/
namespace Go.Proofs.Ytagiaiocgjagnaa
set_option linter.unusedSimpArgs false
set_option linter.unusedVariables false
open Go.RowKit

theorem frozen_ext {w w' : World} (h : Ext w w') {b o : Nat} (hb : b < w.heap.size) (hf : w.frozen? ⟨b, o, none⟩ = false) : w'.frozen? ⟨b, o, none⟩ = false := by rw [h.see.2.1 b o hb]; exact hf
abbrev putO (w : World) (b o : Nat) (f : FV) : World := (((w.setCell ⟨b, o, none⟩ (.bool f.n.neg)).setCell ⟨b, o + 1, none⟩ (.slice f.n.a f.n.n f.n.c)).setCell ⟨b, o + 2, none⟩ (.bool f.d.neg)).setCell ⟨b, o + 3, none⟩ (.slice f.d.a f.d.n f.d.c)
/-- What a step leaves: a fraction in its block. -/
def StepR (xb o : Nat) (x y : Int) (k : Nat) (w : World) (e : Ending) (w' : World) : Prop := ∃ (f : FV) (N D : Int) (w1 : World), e = .returned (.int .i64 0) ∧ w' = putO w1 xb o f ∧ Ext w w1 ∧ IsF w1 f N D ∧ EqQ N D x y ∧ N.natAbs < 2 ^ k ∧ D.natAbs < 2 ^ k
/-- A cell that holds v and may be written. -/
abbrev Var (w : World) (b : Nat) (v : Value) : Prop := w.cell? ⟨b, 0, none⟩ = some v ∧ ∀ o, w.frozen? ⟨b, o, none⟩ = false
theorem Var.ext {w w' : World} (h : Ext w w') {b : Nat} {v : Value} (hv : Var w b v) : Var w' b v := ⟨h.cell hv.1, fun o => frozen_ext h (lt_of_cell hv.1) (hv.2 o)⟩
end Go.Proofs.Ytagiaiocgjagnaa
/- exact: fractions that lie in blocks of the call's own, and what the steps of area leave. -/
namespace Go.Proofs.Ytagiaiocgjagnaa
set_option linter.unusedSimpArgs false
set_option linter.unusedVariables false
open Go.RowKit

/-- Four cells of a block hold a fraction. -/
def Four (w : World) (b o : Nat) (f : FV) : Prop := w.cell? ⟨b, o, none⟩ = some (.bool f.n.neg) ∧ w.cell? ⟨b, o + 1, none⟩ = some (.slice f.n.a f.n.n f.n.c) ∧ w.cell? ⟨b, o + 2, none⟩ = some (.bool f.d.neg) ∧ w.cell? ⟨b, o + 3, none⟩ = some (.slice f.d.a f.d.n f.d.c)
theorem cell_ne {w : World} {b o b' o' : Nat} {u v : Value} (h : w.cell? ⟨b, o, none⟩ = some v) (hne : b ≠ b' ∨ o ≠ o') : (w.setCell ⟨b', o', none⟩ u).cell? ⟨b, o, none⟩ = some v := by
 rw [World.cell?_setCell_other _ _ _ _ (by intro e; injection e with e1 e2; rcases hne with h | h; exact h e1.symm; exact h e2.symm)]; exact h
theorem cell_putO {w : World} {b o b' o' : Nat} {f : FV} {v : Value} (h : w.cell? ⟨b, o, none⟩ = some v) (hne : b ≠ b' ∨ o < o' ∨ o' + 3 < o) : (putO w b' o' f).cell? ⟨b, o, none⟩ = some v :=
 cell_ne (cell_ne (cell_ne (cell_ne h (by omega)) (by omega)) (by omega)) (by omega)
theorem Four.putO {w : World} {b o b' o' : Nat} {f g : FV} (h : Four w b o f) (hne : b ≠ b' ∨ o + 3 < o' ∨ o' + 3 < o) : Four (putO w b' o' g) b o f :=
 ⟨cell_putO h.1 (by omega), cell_putO h.2.1 (by omega), cell_putO h.2.2.1 (by omega), cell_putO h.2.2.2 (by omega)⟩
theorem Own.putO {w : World} {b b' o' n : Nat} {f : FV} (h : Own w b n) : Own (putO w b' o' f) b n :=
 ⟨own1_set (own1_set (own1_set (own1_set h.1))), own2_set (own2_set (own2_set (own2_set h.2.1))), own3_set (own3_set (own3_set (own3_set h.2.2 (by simp)) (by simp)) (by simp)) (by simp)⟩
theorem cell_same {w : World} {b o : Nat} {u v : Value} (h : w.cell? ⟨b, o, none⟩ = some v) : (w.setCell ⟨b, o, none⟩ u).cell? ⟨b, o, none⟩ = some u := World.cell?_setCell_same _ _ _ h
theorem Four.new {w : World} {b o n : Nat} {f : FV} (h : Own w b n) (ho : o + 4 ≤ n) : Four (Go.Proofs.Ytagiaiocgjagnaa.putO w b o f) b o f := by
 have a0 := h.1 o (by omega)
 have a1 := h.1 (o + 1) (by omega)
 have a2 := h.1 (o + 2) (by omega)
 have a3 := h.1 (o + 3) (by omega)
 refine ⟨?_, ?_, ?_, ?_⟩
 ·exact cell_ne (cell_ne (cell_ne (cell_same a0) (by omega)) (by omega)) (by omega)
 ·exact cell_ne (cell_ne (cell_same (cell_ne a1 (by omega))) (by omega)) (by omega)
 ·exact cell_ne (cell_same (cell_ne (cell_ne a2 (by omega)) (by omega))) (by omega)
 ·exact cell_same (cell_ne (cell_ne (cell_ne a3 (by omega)) (by omega)) (by omega))
theorem IK.putO {w : World} {b o n : Nat} (h : Own w b n) (f : FV) : IK w (putO w b o f) :=
 ((((IK.refl w).setCell (h.2.2 o) _).setCell (own3_set h.2.2 (by simp) (o + 1)) _).setCell (own3_set (own3_set h.2.2 (by simp)) (by simp) (o + 2)) _).setCell (own3_set (own3_set (own3_set h.2.2 (by simp)) (by simp)) (by simp) (o + 3)) _
theorem ext_putO {a w : World} {b o : Nat} (h : Ext a w) (hb : a.heap.size ≤ b) (f : FV) : Ext a (putO w b o f) := (((h.setCell hb _).setCell hb _).setCell hb _).setCell hb _
/-- At o of block b lies a fraction that is x / y. -/
def HasF (w : World) (b o : Nat) (x y : Int) (k : Nat) : Prop := ∃ (f : FV) (N D : Int), Four w b o f ∧ IsF w f N D ∧ EqQ N D x y ∧ N.natAbs < 2 ^ k ∧ D.natAbs < 2 ^ k
/-- The state of the inner loop of area: pairs in pb, differences in xb, yb, the index in ib, the error in eb, products in rb. -/
structure InS (w0 ws : World) (pb xb yb ib eb rb ob : Nat) (cs : Array Value) (v : Int) (x1 y1 x2 y2 : Int) (j n : Nat) : Prop where
 ext : Ext w0 ws
 pairs : At ws pb cs
 x : Own ws xb 4
 y : Own ws yb 4
 i : At ws ib #[.int .i64 v]
 e : Var ws eb (.int .i64 0)
 r : Own ws rb 8
 o : Own ws ob 4
 dx : 1 ≤ n → HasF ws xb 0 x1 y1 j
 dy : 2 ≤ n → HasF ws yb 0 x2 y2 j
/-- The blocks are different and new. -/
structure Diff (s pb xb yb ib eb rb ob : Nat) : Prop where
 a : s ≤ ob ∧ ob < rb
 b : rb < ib ∧ ib < pb ∧ pb < xb ∧ xb < yb ∧ yb < eb
theorem Blk.var {w : World} {b : Nat} {v : Value} {t : TypeId} (h : Blk w b #[v] t) : Var w b v := ⟨h.cell 0, fun o => h.free o⟩
end Go.Proofs.Ytagiaiocgjagnaa
