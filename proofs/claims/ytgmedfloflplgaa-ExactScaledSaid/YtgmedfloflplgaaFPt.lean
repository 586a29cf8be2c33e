/- exact, point: numbers and points as rational ones; Sign, Area, Side, whole, Of. -/
import Derived.Test.YtgmedfloflplgaaFArea
namespace Go.Proofs.Ytgmedfloflplgaa
set_option linter.unusedSimpArgs false
set_option linter.unusedVariables false
open Go.RowKit

/-- p stands for the point (x / xd, y / yd). -/
structure IsPt (w : World) (p : PV) (x xd y yd : Int) (k : Nat) : Prop where
  fx : IsR w p.x x xd k
  fy : IsR w p.y y yd k
theorem IsPt.keep {w w' : World} {p : PV} {x xd y yd : Int} {k : Nat} (h : IsPt w p x xd y yd k) (e : IK w w') : IsPt w' p x xd y yd k := ⟨h.fx.keep e, h.fy.keep e⟩
theorem IsPt.le {w : World} {p : PV} {x xd y yd : Int} {k j : Nat} (h : IsPt w p x xd y yd k) (hj : k ≤ j) : IsPt w p x xd y yd j := ⟨h.fx.le hj, h.fy.le hj⟩
/-- The numerator of the doubled area of three points, each with one denominator. -/
def areaF (ax ay ad bx by' bd cx cy cd : Int) : Int := (bx * ad - ax * bd) * (cy * ad - ay * cd) - (by' * ad - ay * bd) * (cx * ad - ax * cd)
theorem areaN_c (a b c : PV) (ax ay ad bx by' bd cx cy cd : Int) (k : Nat) (w : World) (ha : IsPt w a ax ad ay ad k) (hb : IsPt w b bx bd by' bd k) (hc : IsPt w c cx cd cy cd k) (hk : 8 * k + 5 ≤ 16384) :
    Calls Try.prog 63 #[a.v, b.v, c.v] w (RetN (areaF ax ay ad bx by' bd cx cy cd) ((bd * ad) * (cd * ad)) (8 * k + 5) w) := by
  obtain ⟨⟨A, A', a1, a2, a3, a4⟩, ⟨B, B', b1, b2, b3, b4⟩⟩ := ha
  obtain ⟨⟨C, C', c1, c2, c3, c4⟩, ⟨D, D', d1, d2, d3, d4⟩⟩ := hb
  obtain ⟨⟨E, E', e1, e2, e3, e4⟩, ⟨F, F', f1, f2, f3, f4⟩⟩ := hc
  refine (area_c a b c A A' B B' C C' D D' E E' F F' k w ⟨a1, b1, a3, a4, b3, b4⟩ ⟨c1, d1, c3, c4, d3, d4⟩ ⟨e1, f1, e3, e4, f3, f4⟩ hk).mono ?_
  rintro e w' ⟨f, N, D, q1, q2, q3, q4, q5, q6⟩
  refine ⟨f, q1, ⟨N, D, q2, ?_, q4, q5⟩, q6⟩
  have p1 := EqQ.sub c2 a2 (EqQ.refl (pos_mul c2.1 a2.1))
  have p2 := EqQ.sub f2 b2 (EqQ.refl (pos_mul f2.1 b2.1))
  have p3 := EqQ.sub d2 b2 (EqQ.refl (pos_mul d2.1 b2.1))
  have p4 := EqQ.sub e2 a2 (EqQ.refl (pos_mul e2.1 a2.1))
  have p5 := EqQ.mul p1 p2 (EqQ.refl (pos_mul p1.1 p2.1))
  have p6 := EqQ.mul p3 p4 (EqQ.refl (pos_mul p3.1 p4.1))
  have p7 := EqQ.sub p5 p6 (EqQ.refl (pos_mul p5.1 p6.1))
  have p8 := EqQ.tr q3 p7
  refine p8.trans' ?_ (pos_mul (pos_mul c2.2.1 a2.2.1) (pos_mul e2.2.1 a2.2.1))
  unfold areaF
  grind
set_option maxRecDepth 100000 in
set_option maxHeartbeats 1000000 in
theorem Side_c (a b c : PV) (ax ay ad bx by' bd cx cy cd : Int) (k : Nat) (w : World) (ha : IsPt w a ax ad ay ad k) (hb : IsPt w b bx bd by' bd k) (hc : IsPt w c cx cd cy cd k) (hk : 8 * k + 5 ≤ 16384) :
    Calls Try.prog 28 #[a.v, b.v, c.v] w fun e w' => e = .returned (.tuple #[.int .i64 (cmpI (areaF ax ay ad bx by' bd cx cy cd) 0), .int .i64 0]) ∧ Ext w w' := by
  have HP := Lib.hid (And.intro ha (And.intro hb hc))
  clear ha hb hc
  go_enter Try.func28, Try.ntmps28
  go_wp2_with (first | (go_at_call 63; refine (areaN_c a b c ax ay ad bx by' bd cx cy cd k _ (HP.out.1.keep (by repeat (first | exact IK.refl _ | refine IK.alloc ?_ _ | refine IK.drew ?_ | refine IK.setCell ?_ (by simp [hc, go_sem]) _))) (HP.out.2.1.keep (by repeat (first | exact IK.refl _ | refine IK.alloc ?_ _ | refine IK.drew ?_ | refine IK.setCell ?_ (by simp [hc, go_sem]) _))) (HP.out.2.2.keep (by repeat (first | exact IK.refl _ | refine IK.alloc ?_ _ | refine IK.drew ?_ | refine IK.setCell ?_ (by simp [hc, go_sem]) _))) hk).mono ?_; rintro e w2 ⟨f, rfl, hf, hx⟩; have HF := Lib.hid hf; have HX := Lib.hid hx; clear hf hx) | (go_at_call 38; refine (fSign_c f _ _ _ _ (HF.out.keep (by repeat (first | exact IK.refl _ | refine IK.alloc ?_ _ | refine IK.drew ?_ | refine IK.setCell ?_ (by simp [hc, go_sem]) _)))).mono ?_; rintro e w3 ⟨rfl, hx3⟩))
  go_ret2
  exact ⟨rfl, Ext.trans (Ext.trans (Ext.trans (by repeat (first | exact Ext.refl _ | assumption | refine Ext.setCell ?_ (by first | (simp; done) | (simp; omega) | omega) _ | refine Ext.alloc ?_ _ | refine Ext.drew ?_ | refine Ext.trans ?_ (by assumption))) HX.out) ((Ext.refl _).alloc _)) hx3⟩
set_option maxRecDepth 100000 in
set_option maxHeartbeats 1000000 in
theorem Area_c (a b c : PV) (ax ay ad bx by' bd cx cy cd : Int) (k : Nat) (w : World) (ha : IsPt w a ax ad ay ad k) (hb : IsPt w b bx bd by' bd k) (hc : IsPt w c cx cd cy cd k) (hk : 8 * k + 5 ≤ 16384) :
    Calls Try.prog 35 #[a.v, b.v, c.v] w (RetN (areaF ax ay ad bx by' bd cx cy cd) ((bd * ad) * (cd * ad)) (8 * k + 5) w) := by
  have HP := Lib.hid (And.intro ha (And.intro hb hc))
  clear ha hb hc
  go_enter Try.func35, Try.ntmps35
  go_wp2_with fail
  refine (areaN_c a b c ax ay ad bx by' bd cx cy cd k _ (HP.out.1.keep (by repeat (first | exact IK.refl _ | refine IK.alloc ?_ _ | refine IK.drew ?_ | refine IK.setCell ?_ (by simp [hc, go_sem]) _))) (HP.out.2.1.keep (by repeat (first | exact IK.refl _ | refine IK.alloc ?_ _ | refine IK.drew ?_ | refine IK.setCell ?_ (by simp [hc, go_sem]) _))) (HP.out.2.2.keep (by repeat (first | exact IK.refl _ | refine IK.alloc ?_ _ | refine IK.drew ?_ | refine IK.setCell ?_ (by simp [hc, go_sem]) _))) hk).mono ?_
  rintro e w2 ⟨f, rfl, hf, hx⟩
  have HF := Lib.hid (And.intro hf (show Ext w w2 from Ext.trans (by repeat (first | exact Ext.refl _ | assumption | refine Ext.setCell ?_ (by first | (simp; done) | (simp; omega) | omega) _ | refine Ext.alloc ?_ _ | refine Ext.drew ?_ | refine Ext.trans ?_ (by assumption))) hx))
  have O2 : Own w2 (w.heap.size + 1 + 1 + 1) 4 := Own.ext hx ((Blk.at #[.bool false, .slice none 0 0, .bool false, .slice none 0 0] 49 (by simp)).own _ (by simp) (noIntF _ _ _ _ _ _ _ _)) (by omega)
  clear hf hx
  obtain ⟨p0, p1, p2, p3⟩ := putF_cells O2 f
  go_wp2_with fail
  refine bodyPost_ret (v := .tuple #[f.v, .int .i64 0]) (by simp [results, Try.results35, go_sem, p0, p1, p2, p3]) rfl ?_
  exact ⟨f, rfl, HF.out.1.keep (IK.putF O2 f), ext_putF HF.out.2 (by omega) f⟩
theorem low_one (x : Int) : x / gcdI x 1 = x ∧ 1 / gcdI x 1 = (1 : Int) := by
  have : gcdI x 1 = 1 := by unfold gcdI; simp
  rw [this]; simp
theorem one_lt (k : Nat) (hk : 1 ≤ k) : (1 : Int).natAbs < 2 ^ k := by
  have := Nat.pow_le_pow_right (show 0 < 2 by decide) hk
  simp; omega
set_option maxRecDepth 100000 in
set_option maxHeartbeats 1000000 in
theorem whole_c (x : Int) (k : Nat) (w : World) (h1 : -9223372036854775808 ≤ x) (h2 : x ≤ 9223372036854775807) (hk : 1 ≤ k) (hx : x.natAbs < 2 ^ k) :
    Calls Try.prog 64 #[.int .i64 x] w fun e w' => ∃ f : FV, e = .returned f.v ∧ IsR w' f x 1 k ∧ Ext w w' := by
  have HX := Lib.hid hx
  clear hx
  go_enter Try.func64, Try.ntmps64
  go_wp2_with fail
  refine (Of_c x 1 _ h1 h2 (by omega) (by omega)).mono ?_
  rw [(low_one x).1, (low_one x).2]
  rintro e w2 ⟨f, rfl, hf, hx⟩
  have HF := Lib.hid (And.intro hf (show Ext w w2 from Ext.trans (by repeat (first | exact Ext.refl _ | assumption | refine Ext.setCell ?_ (by first | (simp; done) | (simp; omega) | omega) _ | refine Ext.alloc ?_ _ | refine Ext.drew ?_ | refine Ext.trans ?_ (by assumption))) hx))
  have O2 : Own (w2.alloc (.cells f.cs 49)) w.heap.size 4 := Own.ext ((Ext.refl _).alloc _) (Own.ext hx ((Blk.at #[.bool false, .slice none 0 0, .bool false, .slice none 0 0] 49 rfl).own _ (by simp) (noIntF _ _ _ _ _ _ _ _)) (by omega)) (by omega)
  clear hf hx
  have o0 := O2.1 0 (by omega)
  have o1 := O2.1 1 (by omega)
  have o2 := O2.1 2 (by omega)
  have o3 := O2.1 3 (by omega)
  have hf0 := O2.2.1
  obtain ⟨p0, p1, p2, p3⟩ := putF_cells O2 f
  go_wp2_with fail
  refine bodyPost_ret (v := f.v) (by simp [results, Try.results64, go_sem, p0, p1, p2, p3]) rfl ?_
  exact ⟨f, rfl, ⟨x, 1, (HF.out.1.keep ((Ext.refl _).alloc _).ik).keep (IK.putF O2 f), EqQ.refl (by omega), HX.out, one_lt k hk⟩, ext_putF (HF.out.2.alloc _) (by omega) f⟩
end Go.Proofs.Ytgmedfloflplgaa
