/- point, exact: Of, between, Between. -/
import Derived.Test.YtgmedfloflplgaaAFPt
import Derived.Test.YtgmedfloflplgaaFCmp
namespace Go.Proofs.Ytgmedfloflplgaa
set_option linter.unusedSimpArgs false
set_option linter.unusedVariables false
open Go.RowKit

/-- A point is stored. -/
abbrev putP (w : World) (b : Nat) (p : PV) : World := (((((((w.setCell ⟨b, 0, none⟩ (.bool p.x.n.neg)).setCell ⟨b, 1, none⟩ (.slice p.x.n.a p.x.n.n p.x.n.c)).setCell ⟨b, 2, none⟩ (.bool p.x.d.neg)).setCell ⟨b, 3, none⟩ (.slice p.x.d.a p.x.d.n p.x.d.c)).setCell ⟨b, 4, none⟩ (.bool p.y.n.neg)).setCell ⟨b, 5, none⟩ (.slice p.y.n.a p.y.n.n p.y.n.c)).setCell ⟨b, 6, none⟩ (.bool p.y.d.neg)).setCell ⟨b, 7, none⟩ (.slice p.y.d.a p.y.d.n p.y.d.c)
theorem putP_eq (w : World) (b : Nat) (p : PV) : putP w b p = putO (putO w b 0 p.x) b 4 p.y := rfl
theorem putP_cells {w : World} {b : Nat} (h : Own w b 8) (p : PV) : (putP w b p).cell? ⟨b, 0, none⟩ = some (.bool p.x.n.neg) ∧ (putP w b p).cell? ⟨b, 1, none⟩ = some (.slice p.x.n.a p.x.n.n p.x.n.c) ∧ (putP w b p).cell? ⟨b, 2, none⟩ = some (.bool p.x.d.neg) ∧ (putP w b p).cell? ⟨b, 3, none⟩ = some (.slice p.x.d.a p.x.d.n p.x.d.c) ∧
  (putP w b p).cell? ⟨b, 4, none⟩ = some (.bool p.y.n.neg) ∧ (putP w b p).cell? ⟨b, 5, none⟩ = some (.slice p.y.n.a p.y.n.n p.y.n.c) ∧ (putP w b p).cell? ⟨b, 6, none⟩ = some (.bool p.y.d.neg) ∧ (putP w b p).cell? ⟨b, 7, none⟩ = some (.slice p.y.d.a p.y.d.n p.y.d.c) := by
 rw [putP_eq]
 have f0 : Four (putO w b 0 p.x) b 0 p.x := Four.new h (by omega)
 have h' : Own (putO w b 0 p.x) b 8 := h.putO
 have f1 : Four (putO (putO w b 0 p.x) b 4 p.y) b 4 p.y := Four.new h' (by omega)
 have f2 : Four (putO (putO w b 0 p.x) b 4 p.y) b 0 p.x := f0.putO (by omega)
 exact ⟨f2.1, f2.2.1, f2.2.2.1, f2.2.2.2, f1.1, f1.2.1, f1.2.2.1, f1.2.2.2⟩
theorem IK.putP {w : World} {b : Nat} (h : Own w b 8) (p : PV) : IK w (putP w b p) := by
 rw [putP_eq]
 exact (IK.putO h p.x).trans (IK.putO (Own.putO h) p.y)
theorem ext_putP {a w : World} {b : Nat} (h : Ext a w) (hb : a.heap.size ≤ b) (p : PV) : Ext a (putP w b p) := by
 rw [putP_eq]
 exact ext_putO (ext_putO h hb p.x) hb p.y
abbrev PV.cs (p : PV) : Array Value := #[.bool p.x.n.neg, .slice p.x.n.a p.x.n.n p.x.n.c, .bool p.x.d.neg, .slice p.x.d.a p.x.d.n p.x.d.c, .bool p.y.n.neg, .slice p.y.n.a p.y.n.n p.y.n.c, .bool p.y.d.neg, .slice p.y.d.a p.y.d.n p.y.d.c]
abbrev zeroP : Array Value := #[.bool false, .slice none 0 0, .bool false, .slice none 0 0, .bool false, .slice none 0 0, .bool false, .slice none 0 0]
/-- Whether x lies between a and b. -/
def insF (a ad b bd x xd : Int) : Bool := decide (0 ≤ cmpI (a * xd) (x * ad) * cmpI (x * bd) (b * xd))
/-- Whether the point p lies on the segment from a to b. -/
def btwF (ax ay ad bx by' bd px py pd : Int) : Bool := (cmpI (areaF ax ay ad bx by' bd px py pd) 0 == 0) && insF ax ad bx bd px pd && insF ay ad by' bd py pd
end Go.Proofs.Ytgmedfloflplgaa
