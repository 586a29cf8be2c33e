/- meresmanref06: Circle of small points. -/
import Derived.Test.YtgmedfloflplgaaEC
import Derived.Test.YtgmedfloflplgaaR06c
namespace Go.Proofs.Ytgmedfloflplgaa
set_option linter.unusedSimpArgs false
set_option linter.unusedVariables false
open Go.RowKit

theorem mul_bd {x y : Int} {m n : Int} (h1 : -m ≤ x) (h2 : x ≤ m) (h3 : -n ≤ y) (h4 : y ≤ n) : -(m * n) ≤ x * y ∧ x * y ≤ m * n := by
  have hx : x.natAbs ≤ m.toNat := by omega
  have hy : y.natAbs ≤ n.toNat := by omega
  have h := natAbs_mul_le hx hy
  have h5 : ((m.toNat * n.toNat : Nat) : Int) = m * n := by rw [Int.natCast_mul, Int.toNat_of_nonneg (by omega), Int.toNat_of_nonneg (by omega)]
  omega
set_option maxHeartbeats 4000000 in
theorem rcircle_c (a b c d : Pt) (w : World) (ha : Tiny a) (hb : Tiny b) (hc : Tiny c) (hd : Tiny d) :
    Calls Try.prog 14 #[a.v, b.v, c.v, d.v] w fun e w' => e = .returned (.tuple #[.int .i64 (circK a b c d).1, .int .i64 (circK a b c d).2]) ∧ Ext w w' := by
  have hV : ∀ i, i < 4 → validE (([a, b, c, d] : List Pt).getD i ⟨0, 0⟩) = 0 := fun i hi => by
    match i, hi with
    | 0, _ => exact ha.validE
    | 1, _ => exact hb.validE
    | 2, _ => exact hc.validE
    | 3, _ => exact hd.validE
    | i + 4, hi => omega
  have HV := Lib.hid hV; clear hV
  obtain ⟨a1, a2, a3, a4⟩ := ha
  obtain ⟨b1, b2, b3, b4⟩ := hb
  obtain ⟨c1, c2, c3, c4⟩ := hc
  obtain ⟨d1, d2, d3, d4⟩ := hd
  obtain ⟨p, hp⟩ : ∃ p, b.x - a.x = p := ⟨_, rfl⟩
  obtain ⟨q, hq⟩ : ∃ p, b.y - a.y = p := ⟨_, rfl⟩
  obtain ⟨r, hr⟩ : ∃ p, c.x - a.x = p := ⟨_, rfl⟩
  obtain ⟨s, hs⟩ : ∃ p, c.y - a.y = p := ⟨_, rfl⟩
  obtain ⟨u, hu⟩ : ∃ p, d.x - a.x = p := ⟨_, rfl⟩
  obtain ⟨v, hv⟩ : ∃ p, d.y - a.y = p := ⟨_, rfl⟩
  have e1 : IntKind.i64.wrap (b.x - a.x) = p := by rw [hp]; exact IntWalk.i64_in _ (by omega)
  have e2 : IntKind.i64.wrap (b.y - a.y) = q := by rw [hq]; exact IntWalk.i64_in _ (by omega)
  have e3 : IntKind.i64.wrap (c.x - a.x) = r := by rw [hr]; exact IntWalk.i64_in _ (by omega)
  have e4 : IntKind.i64.wrap (c.y - a.y) = s := by rw [hs]; exact IntWalk.i64_in _ (by omega)
  have e5 : IntKind.i64.wrap (d.x - a.x) = u := by rw [hu]; exact IntWalk.i64_in _ (by omega)
  have e6 : IntKind.i64.wrap (d.y - a.y) = v := by rw [hv]; exact IntWalk.i64_in _ (by omega)
  have hfar := far_law a.x a.y p q r s u v
  have g1 : p + a.x = b.x := by omega
  have g2 : q + a.y = b.y := by omega
  have g3 : r + a.x = c.x := by omega
  have g4 : s + a.y = c.y := by omega
  have g5 : u + a.x = d.x := by omega
  have g6 : v + a.y = d.y := by omega
  rw [g1, g2, g3, g4, g5, g6] at hfar
  have hS : S3 a b c = p * s - q * r := by unfold S3 S6; rw [hp, hq, hr, hs]
  have hp' : -32 ≤ p ∧ p ≤ 32 := by omega
  have hq' : -32 ≤ q ∧ q ≤ 32 := by omega
  have hr' : -32 ≤ r ∧ r ≤ 32 := by omega
  have hs' : -32 ≤ s ∧ s ≤ 32 := by omega
  have hu' : -32 ≤ u ∧ u ≤ 32 := by omega
  have hv' : -32 ≤ v ∧ v ≤ 32 := by omega
  have hK : circK a b c d = if S3 a b c = 0 then (0, 1) else (cmpI (S3 a b c) 0 * cmpI (D4 a b c d) 0, 0) := rfl
  clear hp hq hr hs hu hv g1 g2 g3 g4 g5 g6 a1 a2 a3 a4 b1 b2 b3 b4 c1 c2 c3 c4 d1 d2 d3 d4
  have k1 := mul_bd hp'.1 hp'.2 hs'.1 hs'.2
  have k2 := mul_bd hq'.1 hq'.2 hr'.1 hr'.2
  have k3 := mul_bd hp'.1 hp'.2 hp'.1 hp'.2
  have k4 := mul_bd hq'.1 hq'.2 hq'.1 hq'.2
  have k5 := mul_bd hr'.1 hr'.2 hr'.1 hr'.2
  have k6 := mul_bd hs'.1 hs'.2 hs'.1 hs'.2
  simp only [Int.reduceMul, Int.reduceNeg] at k1 k2 k3 k4 k5 k6
  obtain ⟨m1, x1⟩ : ∃ m, p * s = m := ⟨_, rfl⟩
  obtain ⟨m2, x2⟩ : ∃ m, q * r = m := ⟨_, rfl⟩
  obtain ⟨m3, x3⟩ : ∃ m, p * p = m := ⟨_, rfl⟩
  obtain ⟨m4, x4⟩ : ∃ m, q * q = m := ⟨_, rfl⟩
  obtain ⟨m5, x5⟩ : ∃ m, r * r = m := ⟨_, rfl⟩
  obtain ⟨m6, x6⟩ : ∃ m, s * s = m := ⟨_, rfl⟩
  rw [x1] at k1; rw [x2] at k2; rw [x3] at k3; rw [x4] at k4; rw [x5] at k5; rw [x6] at k6
  rw [x1, x2] at hS
  rw [x1, x2, x3, x4, x5, x6] at hfar
  have f1 : IntKind.i64.wrap (p * s) = m1 := by rw [x1]; exact IntWalk.i64_in _ (by omega)
  have f2 : IntKind.i64.wrap (q * r) = m2 := by rw [x2]; exact IntWalk.i64_in _ (by omega)
  have f3 : IntKind.i64.wrap (p * p) = m3 := by rw [x3]; exact IntWalk.i64_in _ (by omega)
  have f4 : IntKind.i64.wrap (q * q) = m4 := by rw [x4]; exact IntWalk.i64_in _ (by omega)
  have f5 : IntKind.i64.wrap (r * r) = m5 := by rw [x5]; exact IntWalk.i64_in _ (by omega)
  have f6 : IntKind.i64.wrap (s * s) = m6 := by rw [x6]; exact IntWalk.i64_in _ (by omega)
  obtain ⟨W0, y0⟩ : ∃ m, m1 - m2 = m := ⟨_, rfl⟩
  obtain ⟨W, y1⟩ : ∃ m, 2 * W0 = m := ⟨_, rfl⟩
  obtain ⟨B, y2⟩ : ∃ m, m3 + m4 = m := ⟨_, rfl⟩
  obtain ⟨C, y3⟩ : ∃ m, m5 + m6 = m := ⟨_, rfl⟩
  rw [y0] at hS
  rw [y0, y1, y2, y3] at hfar
  have f7 : IntKind.i64.wrap (m1 - m2) = W0 := by rw [y0]; exact IntWalk.i64_in _ (by omega)
  have f8 : IntKind.i64.wrap (2 * W0) = W := by rw [y1]; exact IntWalk.i64_in _ (by omega)
  have f9 : IntKind.i64.wrap (m3 + m4) = B := by rw [y2]; exact IntWalk.i64_in _ (by omega)
  have f10 : IntKind.i64.wrap (m5 + m6) = C := by rw [y3]; exact IntWalk.i64_in _ (by omega)
  have hW : -4096 ≤ W ∧ W ≤ 4096 := by omega
  have hB : -2048 ≤ B ∧ B ≤ 2048 := by omega
  have hC : -2048 ≤ C ∧ C ≤ 2048 := by omega
  have hW0 : W = 2 * W0 := y1.symm
  clear x1 x2 x3 x4 x5 x6 y0 y1 y2 y3 k1 k2 k3 k4 k5 k6
  have k1 := mul_bd hs'.1 hs'.2 hB.1 hB.2
  have k2 := mul_bd hq'.1 hq'.2 hC.1 hC.2
  have k3 := mul_bd hp'.1 hp'.2 hC.1 hC.2
  have k4 := mul_bd hr'.1 hr'.2 hB.1 hB.2
  have k5 := mul_bd hu'.1 hu'.2 hW.1 hW.2
  have k6 := mul_bd hv'.1 hv'.2 hW.1 hW.2
  simp only [Int.reduceMul, Int.reduceNeg] at k1 k2 k3 k4 k5 k6
  obtain ⟨n1, x1⟩ : ∃ m, s * B = m := ⟨_, rfl⟩
  obtain ⟨n2, x2⟩ : ∃ m, q * C = m := ⟨_, rfl⟩
  obtain ⟨n3, x3⟩ : ∃ m, p * C = m := ⟨_, rfl⟩
  obtain ⟨n4, x4⟩ : ∃ m, r * B = m := ⟨_, rfl⟩
  obtain ⟨n5, x5⟩ : ∃ m, u * W = m := ⟨_, rfl⟩
  obtain ⟨n6, x6⟩ : ∃ m, v * W = m := ⟨_, rfl⟩
  rw [x1] at k1; rw [x2] at k2; rw [x3] at k3; rw [x4] at k4; rw [x5] at k5; rw [x6] at k6
  rw [x1, x2, x3, x4, x5, x6] at hfar
  have t1 : IntKind.i64.wrap (s * B) = n1 := by rw [x1]; exact IntWalk.i64_in _ (by omega)
  have t2 : IntKind.i64.wrap (q * C) = n2 := by rw [x2]; exact IntWalk.i64_in _ (by omega)
  have t3 : IntKind.i64.wrap (p * C) = n3 := by rw [x3]; exact IntWalk.i64_in _ (by omega)
  have t4 : IntKind.i64.wrap (r * B) = n4 := by rw [x4]; exact IntWalk.i64_in _ (by omega)
  have t5 : IntKind.i64.wrap (u * W) = n5 := by rw [x5]; exact IntWalk.i64_in _ (by omega)
  have t6 : IntKind.i64.wrap (v * W) = n6 := by rw [x6]; exact IntWalk.i64_in _ (by omega)
  obtain ⟨ux, y1⟩ : ∃ m, n1 - n2 = m := ⟨_, rfl⟩
  obtain ⟨uy, y2⟩ : ∃ m, n3 - n4 = m := ⟨_, rfl⟩
  rw [y1, y2] at hfar
  have t7 : IntKind.i64.wrap (n1 - n2) = ux := by rw [y1]; exact IntWalk.i64_in _ (by omega)
  have t8 : IntKind.i64.wrap (n3 - n4) = uy := by rw [y2]; exact IntWalk.i64_in _ (by omega)
  obtain ⟨ex, y3⟩ : ∃ m, n5 - ux = m := ⟨_, rfl⟩
  obtain ⟨ey, y4⟩ : ∃ m, n6 - uy = m := ⟨_, rfl⟩
  rw [y3, y4] at hfar
  have t9 : IntKind.i64.wrap (n5 - ux) = ex := by rw [y3]; exact IntWalk.i64_in _ (by omega)
  have t10 : IntKind.i64.wrap (n6 - uy) = ey := by rw [y4]; exact IntWalk.i64_in _ (by omega)
  have hux : -131072 ≤ ux ∧ ux ≤ 131072 := by omega
  have huy : -131072 ≤ uy ∧ uy ≤ 131072 := by omega
  have hex : -262144 ≤ ex ∧ ex ≤ 262144 := by omega
  have hey : -262144 ≤ ey ∧ ey ≤ 262144 := by omega
  clear x1 x2 x3 x4 x5 x6 y1 y2 y3 y4 k1 k2 k3 k4 k5 k6
  have k1 := mul_bd hux.1 hux.2 hux.1 hux.2
  have k2 := mul_bd huy.1 huy.2 huy.1 huy.2
  have k3 := mul_bd hex.1 hex.2 hex.1 hex.2
  have k4 := mul_bd hey.1 hey.2 hey.1 hey.2
  simp only [Int.reduceMul, Int.reduceNeg] at k1 k2 k3 k4
  obtain ⟨o1, x1⟩ : ∃ m, ux * ux = m := ⟨_, rfl⟩
  obtain ⟨o2, x2⟩ : ∃ m, uy * uy = m := ⟨_, rfl⟩
  obtain ⟨o3, x3⟩ : ∃ m, ex * ex = m := ⟨_, rfl⟩
  obtain ⟨o4, x4⟩ : ∃ m, ey * ey = m := ⟨_, rfl⟩
  rw [x1] at k1; rw [x2] at k2; rw [x3] at k3; rw [x4] at k4
  rw [x1, x2, x3, x4] at hfar
  have l1 : IntKind.i64.wrap (ux * ux) = o1 := by rw [x1]; exact IntWalk.i64_in _ (by omega)
  have l2 : IntKind.i64.wrap (uy * uy) = o2 := by rw [x2]; exact IntWalk.i64_in _ (by omega)
  have l3 : IntKind.i64.wrap (ex * ex) = o3 := by rw [x3]; exact IntWalk.i64_in _ (by omega)
  have l4 : IntKind.i64.wrap (ey * ey) = o4 := by rw [x4]; exact IntWalk.i64_in _ (by omega)
  obtain ⟨rad, y1⟩ : ∃ m, o1 + o2 = m := ⟨_, rfl⟩
  obtain ⟨far, y2⟩ : ∃ m, o3 + o4 = m := ⟨_, rfl⟩
  have l5 : IntKind.i64.wrap (o1 + o2) = rad := by rw [y1]; exact IntWalk.i64_in _ (by omega)
  have l6 : IntKind.i64.wrap (o3 + o4) = far := by rw [y2]; exact IntWalk.i64_in _ (by omega)
  rw [y1, y2] at hfar
  have hkey := sgn_key (S := S3 a b c) (D := D4 a b c d) hfar
  rw [hkey, hS] at hK
  have hz : (W = 0 ∧ circK a b c d = (0, 1)) ∨ (W ≠ 0 ∧ far < rad ∧ circK a b c d = (1, 0)) ∨ (W ≠ 0 ∧ rad < far ∧ circK a b c d = (-1, 0)) ∨ (W ≠ 0 ∧ rad = far ∧ circK a b c d = (0, 0)) := by
    by_cases hz0 : W0 = 0
    · left; exact ⟨by omega, by rw [hK, if_pos hz0]⟩
    · right
      rw [if_neg hz0] at hK
      rcases Int.lt_trichotomy far rad with h | h | h
      · left; exact ⟨by omega, h, by rw [hK]; unfold cmpI; rw [if_neg (by omega), if_pos h]⟩
      · right; right; exact ⟨by omega, h.symm, by rw [hK]; unfold cmpI; rw [if_neg (by omega), if_neg (by omega)]⟩
      · right; left; exact ⟨by omega, h, by rw [hK]; unfold cmpI; rw [if_pos h]⟩
  clear hK hkey hfar hS x1 x2 x3 x4 y1 y2 k1 k2 k3 k4 hux huy hex hey hW hB hC hW0 hp' hq' hr' hs' hu' hv'
  rcases hz with ⟨z1, z2⟩ | ⟨z1, z2, z3⟩ | ⟨z1, z2, z3⟩ | ⟨z1, z2, z3⟩
  · subst z1
    have HZ := Lib.hid z2; clear z2
    go_enter Try.func14, Try.ntmps14
    go_wp2_with fail
    refine (rvalid_c _ 4 4 [a, b, c, d] _ rfl (by omega) (by omega) (Pts.four (Blk.at _ 25 (by simp)).at') HV.out).mono ?_
    rintro e w2 ⟨rfl, hx⟩
    have hA : At w2 w.heap.size #[.int .i64 a.x, .int .i64 a.y] := (((((Blk.at _ 25 rfl).alloc _).alloc _).alloc _).alloc _).ext hx |>.at'
    have hB : At w2 (w.heap.size + 1) #[.int .i64 b.x, .int .i64 b.y] := ((((Blk.at _ 25 (by simp)).alloc _).alloc _).alloc _).ext hx |>.at'
    have hC : At w2 (w.heap.size + 2) #[.int .i64 c.x, .int .i64 c.y] := (((Blk.at _ 25 (by simp)).alloc _).alloc _).ext hx |>.at'
    have hE : Ext w w2 := (by repeat (first | exact Ext.refl _ | assumption | refine Ext.setCell ?_ (by first | (simp; done) | (simp; omega) | omega) _ | refine Ext.alloc ?_ _ | refine Ext.drew ?_ | refine Ext.trans ?_ (by assumption)))
    have HE := Lib.hid hE; clear hx hE
    go_wp2_with fail
    go_ret2
    exact ⟨by rw [HZ.out]; rfl, HE.out⟩
  all_goals
    have z1' : (W == 0) = false := by rw [beq_eq_false_iff_ne]; exact z1
    have HZ := Lib.hid z3; clear z3 z1
    go_enter Try.func14, Try.ntmps14
    go_wp2_with fail
    refine (rvalid_c _ 4 4 [a, b, c, d] _ rfl (by omega) (by omega) (Pts.four (Blk.at _ 25 (by simp)).at') HV.out).mono ?_
    rintro e w2 ⟨rfl, hx⟩
    have hA : At w2 w.heap.size #[.int .i64 a.x, .int .i64 a.y] := (((((Blk.at _ 25 rfl).alloc _).alloc _).alloc _).alloc _).ext hx |>.at'
    have hB : At w2 (w.heap.size + 1) #[.int .i64 b.x, .int .i64 b.y] := ((((Blk.at _ 25 (by simp)).alloc _).alloc _).alloc _).ext hx |>.at'
    have hC : At w2 (w.heap.size + 2) #[.int .i64 c.x, .int .i64 c.y] := (((Blk.at _ 25 (by simp)).alloc _).alloc _).ext hx |>.at'
    have hD : At w2 (w.heap.size + 3) #[.int .i64 d.x, .int .i64 d.y] := ((Blk.at _ 25 (by simp)).alloc _).ext hx |>.at'
    have hE : Ext w w2 := (by repeat (first | exact Ext.refl _ | assumption | refine Ext.setCell ?_ (by first | (simp; done) | (simp; omega) | omega) _ | refine Ext.alloc ?_ _ | refine Ext.drew ?_ | refine Ext.trans ?_ (by assumption)))
    have HE := Lib.hid hE; clear hx hE
    go_wp2_with fail
    go_ret2
    exact ⟨by rw [HZ.out]; rfl, HE.out⟩
end Go.Proofs.Ytgmedfloflplgaa
