/- meresmanref07: On; the points of CrossOn. -/
import Derived.Test.YtagiaiocgjagnaaKX14
import Derived.Test.YtagiaiocgjagnaaKC04
import Derived.Test.YtagiaiocgjagnaaKR7c
import Derived.Test.YtagiaiocgjagnaaKX11
namespace Go.Proofs.Ytagiaiocgjagnaa
set_option linter.unusedSimpArgs false
set_option linter.unusedVariables false
open Go.RowKit

/-- The numbers of a point of the reference are small. -/
structure PIn (p : RP) (m : Int) : Prop where
  d1 : 1 ≤ p.d
  dm : p.d ≤ m
  x1 : -m ≤ p.x
  x2 : p.x ≤ m
  y1 : -m ≤ p.y
  y2 : p.y ≤ m
theorem PIn.rb {p : RP} {m : Int} (h : PIn p m) (hm : m ≤ 4000000) : RB64 p := by
  obtain ⟨a, b, c, d, e, f⟩ := h
  exact ⟨by omega, by omega, by omega⟩
theorem mkF_in {x y d m : Int} (hd : 1 ≤ d) (hm : d ≤ m) (x1 : -m ≤ x) (x2 : x ≤ m) (y1 : -m ≤ y) (y2 : y ≤ m) : PIn (mkF x y d) m := by
  have b2 := rgcd_pos (x := rgcd x y) (y := d) (by omega)
  have d1 := rgcd_dvd x y
  have d2 := rgcd_dvd (rgcd x y) d
  have ex := div_bd b2 (m := m) x1 x2 (Int.dvd_trans d2.1 d1.1)
  have ey := div_bd b2 (m := m) y1 y2 (Int.dvd_trans d2.1 d1.2)
  have ed := div_bd b2 (m := m) (by omega) hm d2.2
  exact ⟨(mkF_props x y d hd).1.1, ed.2.1, ex.1, ex.2.1, ey.1, ey.2.1⟩
set_option maxRecDepth 100000 in
set_option maxHeartbeats 8000000 in
theorem rOn_c (s : Sg) (p : RP) (w : World) (hs : SegIn s (-100) 100) (hp : PIn p 4000000) :
    Calls Try.prog 37 #[s.v, p.v] w fun e w' => e = .returned (.bool (onF s p)) ∧ Ext w w' := by
  obtain ⟨⟨ax, ay⟩, ⟨bx, b0⟩⟩ := s
  obtain ⟨px, py, pd⟩ := p
  obtain ⟨⟨a1, a2⟩, ⟨a3, a4⟩, ⟨b1, b2⟩, ⟨b3, b4⟩, hne⟩ := hs
  obtain ⟨d1, d2, p1, p2, p3, p4⟩ := hp
  simp only at a1 a2 a3 a4 b1 b2 b3 b4 d1 d2 p1 p2 p3 p4
  have bd : ∀ (c z : Int), -200 ≤ c → c ≤ 200 → -1000000000 ≤ z → z ≤ 1000000000 → -200000000000 ≤ c * z ∧ c * z ≤ 200000000000 := fun c z h1 h2 h3 h4 => by
    have := abs_mul_le (x := c) (y := z) (m := 200) (n := 1000000000) (by omega) (by omega)
    omega
  have e1 := bd ax pd (by omega) (by omega) (by omega) (by omega)
  have e2 := bd ay pd (by omega) (by omega) (by omega) (by omega)
  have f1 := abs_mul_le (x := ax) (y := pd) (m := 100) (n := 4000000) (by omega) (by omega)
  have f2 := abs_mul_le (x := ay) (y := pd) (m := 100) (n := 4000000) (by omega) (by omega)
  have w1 : IntKind.i64.wrap (ax * pd) = ax * pd := IntWalk.i64_in _ (by omega)
  have w2 : IntKind.i64.wrap (ay * pd) = ay * pd := IntWalk.i64_in _ (by omega)
  obtain ⟨X, hX⟩ : ∃ X, px - ax * pd = X := ⟨_, rfl⟩
  obtain ⟨Y, hY⟩ : ∃ Y, py - ay * pd = Y := ⟨_, rfl⟩
  obtain ⟨U, hU⟩ : ∃ U, bx - ax = U := ⟨_, rfl⟩
  obtain ⟨V, hV⟩ : ∃ V, b0 - ay = V := ⟨_, rfl⟩
  have w3 : IntKind.i64.wrap (px - ax * pd) = X := by rw [hX]; exact IntWalk.i64_in _ (by omega)
  have w4 : IntKind.i64.wrap (py - ay * pd) = Y := by rw [hY]; exact IntWalk.i64_in _ (by omega)
  have w5 : IntKind.i64.wrap (bx - ax) = U := by rw [hU]; exact IntWalk.i64_in _ (by omega)
  have w6 : IntKind.i64.wrap (b0 - ay) = V := by rw [hV]; exact IntWalk.i64_in _ (by omega)
  have g1 := bd U Y (by omega) (by omega) (by omega) (by omega)
  have g2 := bd V X (by omega) (by omega) (by omega) (by omega)
  have g3 := bd U X (by omega) (by omega) (by omega) (by omega)
  have g4 := bd V Y (by omega) (by omega) (by omega) (by omega)
  have g5 := bd U U (by omega) (by omega) (by omega) (by omega)
  have g6 := bd V V (by omega) (by omega) (by omega) (by omega)
  have g7 := abs_mul_le (x := U) (y := U) (m := 200) (n := 200) (by omega) (by omega)
  have g8 := abs_mul_le (x := V) (y := V) (m := 200) (n := 200) (by omega) (by omega)
  have w7 : IntKind.i64.wrap (U * Y) = U * Y := IntWalk.i64_in _ (by omega)
  have w8 : IntKind.i64.wrap (V * X) = V * X := IntWalk.i64_in _ (by omega)
  have w9 : IntKind.i64.wrap (U * X) = U * X := IntWalk.i64_in _ (by omega)
  have w10 : IntKind.i64.wrap (V * Y) = V * Y := IntWalk.i64_in _ (by omega)
  have w11 : IntKind.i64.wrap (U * X + V * Y) = U * X + V * Y := IntWalk.i64_in _ (by omega)
  have w12 : IntKind.i64.wrap (U * U) = U * U := IntWalk.i64_in _ (by omega)
  have w13 : IntKind.i64.wrap (V * V) = V * V := IntWalk.i64_in _ (by omega)
  have w14 : IntKind.i64.wrap (U * U + V * V) = U * U + V * V := IntWalk.i64_in _ (by omega)
  have g9 := abs_mul_le (x := U * U + V * V) (y := pd) (m := 80000) (n := 4000000) (by omega) (by omega)
  have w15 : IntKind.i64.wrap ((U * U + V * V) * pd) = (U * U + V * V) * pd := IntWalk.i64_in _ (by omega)
  have hon : onF ⟨⟨ax, ay⟩, ⟨bx, b0⟩⟩ ⟨px, py, pd⟩ = if U * Y = V * X then decide (0 ≤ U * X + V * Y ∧ U * X + V * Y ≤ (U * U + V * V) * pd) else false := by
    unfold onF; simp only; rw [hX, hY, hU, hV]
  have HV := Lib.hid hon
  rw [HV.out]
  clear a1 a2 a3 a4 b1 b2 b3 b4 hne d1 d2 p1 p2 p3 p4 bd e1 e2 f1 f2 g1 g2 g3 g4 g5 g6 g7 g8 g9 hX hY hU hV hon HV
  obtain ⟨A, hA⟩ : ∃ A, U * Y = A := ⟨_, rfl⟩
  obtain ⟨Bq, hBq⟩ : ∃ B, V * X = B := ⟨_, rfl⟩
  obtain ⟨C, hC⟩ : ∃ C, U * X + V * Y = C := ⟨_, rfl⟩
  obtain ⟨Dq, hDq⟩ : ∃ D, (U * U + V * V) * pd = D := ⟨_, rfl⟩
  rw [hA, hBq, hC, hDq]
  rw [hA] at w7
  rw [hBq] at w8
  rw [hC] at w11
  rw [hDq] at w15
  by_cases c1 : A = Bq
  · have k1 : (A != Bq) = false := by simp [c1]
    rw [if_pos c1]
    clear c1
    by_cases c2 : 0 ≤ C
    · have k2 : decide (0 ≤ C) = true := decide_eq_true c2
      have HD := Lib.hid (show decide (0 ≤ C ∧ C ≤ Dq) = decide (C ≤ Dq) by simp [c2])
      rw [HD.out]
      go_enter Try.func37, Try.ntmps37
      go_wp2_with fail
      go_ret
      exact ⟨rfl, (by repeat (first | exact Ext.refl _ | assumption | refine Ext.setCell ?_ (by first | (simp; done) | (simp; omega) | omega) _ | refine Ext.alloc ?_ _ | refine Ext.drew ?_ | refine Ext.trans ?_ (by assumption)))⟩
    · have k2 : decide (0 ≤ C) = false := decide_eq_false c2
      have HD := Lib.hid (show decide (0 ≤ C ∧ C ≤ Dq) = false by simp [c2])
      rw [HD.out]
      clear c2
      go_enter Try.func37, Try.ntmps37
      go_wp2_with fail
      go_ret
      exact ⟨rfl, (by repeat (first | exact Ext.refl _ | assumption | refine Ext.setCell ?_ (by first | (simp; done) | (simp; omega) | omega) _ | refine Ext.alloc ?_ _ | refine Ext.drew ?_ | refine Ext.trans ?_ (by assumption)))⟩
  · have k1 : (A != Bq) = true := by rw [bne_iff_ne]; exact c1
    rw [if_neg c1]
    clear c1
    go_enter Try.func37, Try.ntmps37
    go_wp2_with fail
    go_ret
    exact ⟨rfl, (by repeat (first | exact Ext.refl _ | assumption | refine Ext.setCell ?_ (by first | (simp; done) | (simp; omega) | omega) _ | refine Ext.alloc ?_ _ | refine Ext.drew ?_ | refine Ext.trans ?_ (by assumption)))⟩
end Go.Proofs.Ytagiaiocgjagnaa
