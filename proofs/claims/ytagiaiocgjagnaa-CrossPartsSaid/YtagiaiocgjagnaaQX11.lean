/- meresmanlaw07: own, same, seg. -/
import Derived.Test.YtagiaiocgjagnaaQX10
import Derived.Test.YtagiaiocgjagnaaQC04
namespace Go.Proofs.Ytagiaiocgjagnaa
set_option linter.unusedSimpArgs false
set_option linter.unusedVariables false
open Go.RowKit

theorem lseg_c (a b c d : Int) (w : World) : Calls Try.prog 54 #[.int .i64 a, .int .i64 b, .int .i64 c, .int .i64 d] w fun e w' => e = .returned (Sg.v ⟨⟨a, b⟩, ⟨c, d⟩⟩) ∧ Ext w w' := by
 go_enter Try.func54, Try.ntmps54
 go_wp2_with fail
 refine bodyPost_ret (v := Sg.v ⟨⟨a, b⟩, ⟨c, d⟩⟩) (by simp [results, Try.results54, go_sem]) rfl ?_
 exact ⟨rfl, (by repeat (first | exact Ext.refl _ | assumption | refine Ext.setCell ?_ (by first | (simp; done) | (simp; omega) | omega) _ | refine Ext.alloc ?_ _ | refine Ext.drew ?_ | refine Ext.trans ?_ (by assumption)))⟩
/-- The point that own makes. -/
def ownQ (p : RP) : QP := ⟨(p.x : Rat) / ((max 1 p.d : Int) : Rat), (p.y : Rat) / ((max 1 p.d : Int) : Rat)⟩
theorem ownQ_pos {p : RP} (h : 1 ≤ p.d) : ownQ p = p.q := by
 unfold ownQ RP.q
 rw [Int.max_eq_right h]
theorem ownQ_zero : ownQ ⟨0, 0, 0⟩ = zeroQ := by
 unfold ownQ zeroQ
 refine QP.ext' ?_ ?_
 ·simp only; rw [Rat.div_def]; grind
 ·simp only; rw [Rat.div_def]; grind
structure RB64 (p : RP) : Prop where
 x : -9223372036854775808 ≤ p.x ∧ p.x ≤ 9223372036854775807
 y : -9223372036854775808 ≤ p.y ∧ p.y ≤ 9223372036854775807
 d : p.d ≤ 9223372036854775807
theorem of_isQ {w : World} {f : FV} {x m : Int} (hm : 1 ≤ m) (hx : -9223372036854775808 ≤ x ∧ x ≤ 9223372036854775807) (hm2 : m ≤ 9223372036854775807) (h : IsF w f (x / gcdI x m) (m / gcdI x m)) : IsQ w f ((x : Rat) / (m : Rat)) := by
 have hl := low_isR (k := 64) hm h (by rw [p64]; omega) (by rw [p64]; omega)
 exact hl.isQ (Rat.div_mul_cancel (dcast_ne hm))
set_option maxRecDepth 100000 in
set_option maxHeartbeats 4000000 in
theorem lown_c (p : RP) (w : World) (h : RB64 p) :
  Calls Try.prog 36 #[p.v] w fun e w' => ∃ q : PV, e = .returned q.v ∧ IsPQ w' q (ownQ p) ∧ Ext w w' := by
 obtain ⟨x, y, d⟩ := p
 obtain ⟨b2, b3, b1⟩ := h
 simp only at b1 b2 b3
 obtain ⟨m, hm⟩ : ∃ m, max 1 d = m := ⟨_, rfl⟩
 have m1 : 1 ≤ m := by omega
 have m2 : m ≤ 9223372036854775807 := by omega
 have HV := Lib.hid (show ownQ ⟨x, y, d⟩ = ⟨(x : Rat) / (m : Rat), (y : Rat) / (m : Rat)⟩ by unfold ownQ; simp only; rw [hm])
 rw [HV.out]
 obtain ⟨B, hB⟩ : ∃ B, w.heap.size = B := ⟨_, rfl⟩
 go_enter Try.func36, Try.ntmps36
 go_wp2_with fail
 refine (Of_c x m _ b2.1 b2.2 m1 m2).mono ?_
 rintro e w2 ⟨f, rfl, hf, hx2⟩
 have A2 : At w2 B #[.int .i64 x, .int .i64 y, .int .i64 d] := (((Blk.at _ 72 hB.symm).alloc _).ext hx2).at'
 have O2 : Own w2 (B + 1) 8 := Own.ext hx2 ((Blk.at zeroP 43 (by simp [hB])).own _ (by simp) noInt8) (by omega)
 have HF := Lib.hid (And.intro (of_isQ m1 b2 m2 hf) (show Ext w w2 from Ext.trans (by repeat (first | exact Ext.refl _ | assumption | refine Ext.setCell ?_ (by first | (simp; done) | (simp; omega) | omega) _ | refine Ext.alloc ?_ _ | refine Ext.drew ?_ | refine Ext.trans ?_ (by assumption))) hx2))
 have hs2 := A2.lt (by simp)
 have hs3 := O2.lt (by omega)
 have c0 := A2 0 (by simp); have c1 := A2 1 (by simp); have c2 := A2 2 (by simp)
 simp at c0 c1 c2
 have HO := Lib.hid (And.intro A2 O2)
 clear hf hx2 O2 A2
 go_wp2_with fail
 refine (Of_c y m _ b3.1 b3.2 m1 m2).mono ?_
 rintro e w3 ⟨g, rfl, hg, hx3⟩
 have hE : Ext w2 w3 := Ext.trans ((Ext.refl _).alloc _) hx3
 have O3 : Own w3 (B + 1) 8 := Own.ext hE HO.out.2 (by omega)
 have A3 : At w3 w2.heap.size #[.bool f.n.neg, .slice f.n.a f.n.n f.n.c, .bool f.d.neg, .slice f.d.a f.d.n f.d.c] := ((Blk.at _ 41 rfl).ext hx3).at'
 have HG := Lib.hid (And.intro (HF.out.1.keep hE.ik) (And.intro (of_isQ m1 b3 m2 hg) (HF.out.2.trans hE)))
 have hs4 := A3.lt (by simp)
 have q0 := A3 0 (by simp); have q1 := A3 1 (by simp); have q2 := A3 2 (by simp); have q3 := A3 3 (by simp)
 simp at q0 q1 q2 q3
 have O4 : Own (w3.alloc (.cells g.cs 41)) (B + 1) 8 := Own.ext ((Ext.refl _).alloc _) O3 (by omega)
 clear hg hx3 hE c0 c1 c2
 have o0 := O4.1 0 (by omega); have o1 := O4.1 1 (by omega); have o2 := O4.1 2 (by omega); have o3 := O4.1 3 (by omega); have o4 := O4.1 4 (by omega); have o5 := O4.1 5 (by omega); have o6 := O4.1 6 (by omega); have o7 := O4.1 7 (by omega)
 have of := O4.2.1
 obtain ⟨p0, p1, p2, p3, p4, p5, p6, p7⟩ := putP_cells O4 ⟨f, g⟩
 have HO4 := Lib.hid O4
 clear O3 O4 A3
 go_wp2_with fail
 refine bodyPost_ret (v := PV.v ⟨f, g⟩) (by simp [results, Try.results36, go_sem, p0, p1, p2, p3, p4, p5, p6, p7]) rfl ?_
 exact ⟨⟨f, g⟩, rfl, IsPQ.keep (IsPQ.keep ⟨HG.out.1, HG.out.2.1⟩ ((Ext.refl _).alloc _).ik) (IK.putP HO4.out ⟨f, g⟩), ext_putP (HG.out.2.2.alloc _) (by omega) ⟨f, g⟩⟩
end Go.Proofs.Ytagiaiocgjagnaa
