/- ExactAreas: the plain law, that a point divides the area of a triangle. -/
import Derived.Test.YtgmedfloflplgaaAFAw
namespace Go.Proofs.Ytgmedfloflplgaa
set_option linter.unusedSimpArgs false
set_option linter.unusedVariables false
open Go.RowKit

def rv (v : Q2) : Rat := (v.1 : Rat) / (v.2 : Rat)
theorem rcast_ne {y : Int} (h : 1 ≤ y) : (y : Rat) ≠ 0 := by
 intro h0
 have := Rat.intCast_eq_zero_iff.1 h0
 omega
theorem EqQ.rv {v : Q2} {x y : Int} (h : EqQ v.1 v.2 x y) : rv v = (x : Rat) / (y : Rat) := by
 obtain ⟨a, b, e⟩ := h
 have h1 := rcast_ne a
 have h2 := rcast_ne b
 have e' : (v.1 : Rat) * (y : Rat) = (x : Rat) * (v.2 : Rat) := by rw [← Rat.intCast_mul, e, Rat.intCast_mul]
 unfold Go.Proofs.Ytgmedfloflplgaa.rv
 generalize (v.1 : Rat) = A at *
 generalize (v.2 : Rat) = B at *
 generalize (x : Rat) = X at *
 generalize (y : Rat) = Y at *
 grind
theorem add_rv {a b v : Q2} (ha : 1 ≤ a.2) (hb : 1 ≤ b.2) (h : addE a b = some v) : rv v = rv a + rv b ∧ 1 ≤ v.2 := by
 have e := addE_eq ha hb h
 refine ⟨?_, e.1⟩
 have h1 := rcast_ne ha
 have h2 := rcast_ne hb
 rw [e.rv, Rat.intCast_add, Rat.intCast_mul, Rat.intCast_mul, Rat.intCast_mul]
 unfold rv
 generalize (a.1 : Rat) = A at *
 generalize (a.2 : Rat) = B at *
 generalize (b.1 : Rat) = X at *
 generalize (b.2 : Rat) = Y at *
 grind
theorem sub_rv {a b v : Q2} (ha : 1 ≤ a.2) (hb : 1 ≤ b.2) (h : subE a b = some v) : rv v = rv a - rv b ∧ 1 ≤ v.2 := by
 have e := subE_eq ha hb h
 refine ⟨?_, e.1⟩
 have h1 := rcast_ne ha
 have h2 := rcast_ne hb
 rw [e.rv, Rat.intCast_sub, Rat.intCast_mul, Rat.intCast_mul, Rat.intCast_mul]
 unfold rv
 generalize (a.1 : Rat) = A at *
 generalize (a.2 : Rat) = B at *
 generalize (b.1 : Rat) = X at *
 generalize (b.2 : Rat) = Y at *
 grind
theorem mul_rv {a b v : Q2} (ha : 1 ≤ a.2) (hb : 1 ≤ b.2) (h : mulE a b = some v) : rv v = rv a * rv b ∧ 1 ≤ v.2 := by
 have e := mulE_eq ha hb h
 refine ⟨?_, e.1⟩
 have h1 := rcast_ne ha
 have h2 := rcast_ne hb
 rw [e.rv, Rat.intCast_mul, Rat.intCast_mul]
 unfold rv
 generalize (a.1 : Rat) = A at *
 generalize (a.2 : Rat) = B at *
 generalize (b.1 : Rat) = X at *
 generalize (b.2 : Rat) = Y at *
 grind
def PosP (a : PQ) : Prop := 1 ≤ a.1.2 ∧ 1 ≤ a.2.2
theorem IsPG.pos {w : World} {p : PV} {v : PQ} (h : IsPG w p v) : PosP v := ⟨h.1.pos, h.2.pos⟩
theorem area_rv {a b c : PQ} {v : Q2} (ha : PosP a) (hb : PosP b) (hc : PosP c) (h : areaE a b c = some v) : rv v = (rv b.1 - rv a.1) * (rv c.2 - rv a.2) - (rv b.2 - rv a.2) * (rv c.1 - rv a.1) ∧ 1 ≤ v.2 := by
 unfold areaE mulO at h
 simp only [Option.bind_eq_some_iff] at h
 obtain ⟨m1, ⟨d1, e1, d2, e2, e3⟩, m2, ⟨d3, e4, d4, e5, e6⟩, e7⟩ := h
 obtain ⟨q1, p1⟩ := sub_rv hb.1 ha.1 e1
 obtain ⟨q2, p2⟩ := sub_rv hc.2 ha.2 e2
 obtain ⟨q3, p3⟩ := mul_rv p1 p2 e3
 obtain ⟨q4, p4⟩ := sub_rv hb.2 ha.2 e4
 obtain ⟨q5, p5⟩ := sub_rv hc.1 ha.1 e5
 obtain ⟨q6, p6⟩ := mul_rv p4 p5 e6
 obtain ⟨q7, p7⟩ := sub_rv p3 p6 e7
 refine ⟨?_, p7⟩
 rw [q7, q3, q6, q1, q2, q4, q5]
theorem rv_inj {a b : Q2} (ha : 1 ≤ a.2) (hb : 1 ≤ b.2) (h : rv a = rv b) : a.1 * b.2 = b.1 * a.2 := by
 have h1 := rcast_ne ha
 have h2 := rcast_ne hb
 refine Rat.intCast_inj.1 ?_
 rw [Rat.intCast_mul, Rat.intCast_mul]
 unfold rv at h
 generalize (a.1 : Rat) = A at *
 generalize (a.2 : Rat) = B at *
 generalize (b.1 : Rat) = X at *
 generalize (b.2 : Rat) = Y at *
 grind
theorem areas_law {a b c d : PQ} {x p q r u v : Q2} (ha : PosP a) (hb : PosP b) (hc : PosP c) (hd : PosP d) (hx : areaE a b c = some x) (hp : areaE a b d = some p) (hq : areaE b c d = some q) (hr : areaE c a d = some r) (hu : addE p q = some u) (hv : addE u r = some v) : v.1 * x.2 = x.1 * v.2 := by
 obtain ⟨e1, p1⟩ := area_rv ha hb hc hx
 obtain ⟨e2, p2⟩ := area_rv ha hb hd hp
 obtain ⟨e3, p3⟩ := area_rv hb hc hd hq
 obtain ⟨e4, p4⟩ := area_rv hc ha hd hr
 obtain ⟨e5, p5⟩ := add_rv p2 p3 hu
 obtain ⟨e6, p6⟩ := add_rv p5 p4 hv
 refine rv_inj p6 p1 ?_
 rw [e6, e5, e2, e3, e4, e1]
 grind
end Go.Proofs.Ytgmedfloflplgaa
