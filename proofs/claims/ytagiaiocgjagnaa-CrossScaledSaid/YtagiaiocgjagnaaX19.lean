/- meresmanref07: Valid; meresmanref05: Scaled; meresmanref01: Bound; meresmanlaw07: scaled. -/
import Derived.Test.YtagiaiocgjagnaaX12
import Derived.Test.YtagiaiocgjagnaaX14
import Derived.Test.YtagiaiocgjagnaaC05
namespace Go.Proofs.Ytagiaiocgjagnaa
set_option linter.unusedSimpArgs false
set_option linter.unusedVariables false
open Go.RowKit

set_option maxHeartbeats 1000000 in
theorem rValid_c (s : Sg) (w : World) : Calls Try.prog 17 #[s.v] w fun e w' => e = .returned (.int .i64 (segE s)) ∧ Ext w w' := by
  obtain ⟨⟨ax, ay⟩, ⟨bx, b0⟩⟩ := s
  by_cases h1 : validE ⟨ax, ay⟩ = 0
  · by_cases h2 : validE ⟨bx, b0⟩ = 0
    · have hv : segE ⟨⟨ax, ay⟩, ⟨bx, b0⟩⟩ = if ax = bx ∧ ay = b0 then 1 else 0 := if_pos ⟨h1, h2⟩
      have H1 := Lib.hid h1; have H2 := Lib.hid h2; clear h1 h2
      by_cases h3 : ax = bx
      · by_cases h4 : ay = b0
        · rw [if_pos ⟨h3, h4⟩] at hv
          have HV := Lib.hid hv; clear hv
          subst h3; subst h4
          go_enter Try.func17, Try.ntmps17
          go_wp2_with fail
          refine (good_c ⟨ax, ay⟩ _).mono ?_
          rw [H1.out]
          rintro e w2 ⟨rfl, hx⟩
          have B0 := (Blk.at #[.int .i64 ax, .int .i64 ay, .int .i64 ax, .int .i64 ay] 25 (w := w) rfl).ext hx
          have HX := Lib.hid (show Ext w w2 from Ext.trans (by repeat (first | exact Ext.refl _ | assumption | refine Ext.setCell ?_ (by first | (simp; done) | (simp; omega) | omega) _ | refine Ext.alloc ?_ _ | refine Ext.drew ?_ | refine Ext.trans ?_ (by assumption))) hx)
          clear hx
          have c0 := B0.cell 0; have c1 := B0.cell 1; have c2 := B0.cell 2; have c3 := B0.cell 3
          simp only [List.getElem?_toArray, List.getElem?_cons_zero, List.getElem?_cons_succ] at c0 c1 c2 c3
          go_wp2_with fail
          refine (good_c ⟨ax, ay⟩ _).mono ?_
          rw [H2.out]
          rintro e w3 ⟨rfl, hx⟩
          have B3 := B0.ext hx
          have HX3 := Lib.hid (HX.out.trans hx)
          clear hx c0 c1 c2 c3
          have c0 := B3.cell 0; have c1 := B3.cell 1; have c2 := B3.cell 2; have c3 := B3.cell 3
          simp only [List.getElem?_toArray, List.getElem?_cons_zero, List.getElem?_cons_succ] at c0 c1 c2 c3
          go_wp2_with fail
          go_ret
          exact ⟨by rw [HV.out]; rfl, HX3.out⟩
        · rw [if_neg (fun h => h4 h.2)] at hv
          have HV := Lib.hid hv; clear hv
          subst h3
          have h4' : (ay == b0) = false := by rw [beq_eq_false_iff_ne]; exact h4
          go_enter Try.func17, Try.ntmps17
          go_wp2_with fail
          refine (good_c ⟨ax, ay⟩ _).mono ?_
          rw [H1.out]
          rintro e w2 ⟨rfl, hx⟩
          have B0 := (Blk.at #[.int .i64 ax, .int .i64 ay, .int .i64 ax, .int .i64 b0] 25 (w := w) rfl).ext hx
          have HX := Lib.hid (show Ext w w2 from Ext.trans (by repeat (first | exact Ext.refl _ | assumption | refine Ext.setCell ?_ (by first | (simp; done) | (simp; omega) | omega) _ | refine Ext.alloc ?_ _ | refine Ext.drew ?_ | refine Ext.trans ?_ (by assumption))) hx)
          clear hx
          have c0 := B0.cell 0; have c1 := B0.cell 1; have c2 := B0.cell 2; have c3 := B0.cell 3
          simp only [List.getElem?_toArray, List.getElem?_cons_zero, List.getElem?_cons_succ] at c0 c1 c2 c3
          go_wp2_with fail
          refine (good_c ⟨ax, b0⟩ _).mono ?_
          rw [H2.out]
          rintro e w3 ⟨rfl, hx⟩
          have B3 := B0.ext hx
          have HX3 := Lib.hid (HX.out.trans hx)
          clear hx c0 c1 c2 c3
          have c0 := B3.cell 0; have c1 := B3.cell 1; have c2 := B3.cell 2; have c3 := B3.cell 3
          simp only [List.getElem?_toArray, List.getElem?_cons_zero, List.getElem?_cons_succ] at c0 c1 c2 c3
          go_wp2_with fail
          go_ret
          exact ⟨by rw [HV.out]; rfl, HX3.out⟩
      · rw [if_neg (fun h => h3 h.1)] at hv
        have HV := Lib.hid hv; clear hv
        have h3' : (ax == bx) = false := by rw [beq_eq_false_iff_ne]; exact h3
        go_enter Try.func17, Try.ntmps17
        go_wp2_with fail
        refine (good_c ⟨ax, ay⟩ _).mono ?_
        rw [H1.out]
        rintro e w2 ⟨rfl, hx⟩
        have B0 := (Blk.at #[.int .i64 ax, .int .i64 ay, .int .i64 bx, .int .i64 b0] 25 (w := w) rfl).ext hx
        have HX := Lib.hid (show Ext w w2 from Ext.trans (by repeat (first | exact Ext.refl _ | assumption | refine Ext.setCell ?_ (by first | (simp; done) | (simp; omega) | omega) _ | refine Ext.alloc ?_ _ | refine Ext.drew ?_ | refine Ext.trans ?_ (by assumption))) hx)
        clear hx
        have c0 := B0.cell 0; have c1 := B0.cell 1; have c2 := B0.cell 2; have c3 := B0.cell 3
        simp only [List.getElem?_toArray, List.getElem?_cons_zero, List.getElem?_cons_succ] at c0 c1 c2 c3
        go_wp2_with fail
        refine (good_c ⟨bx, b0⟩ _).mono ?_
        rw [H2.out]
        rintro e w3 ⟨rfl, hx⟩
        have B3 := B0.ext hx
        have HX3 := Lib.hid (HX.out.trans hx)
        clear hx c0 c1 c2 c3
        have c0 := B3.cell 0; have c1 := B3.cell 1; have c2 := B3.cell 2; have c3 := B3.cell 3
        simp only [List.getElem?_toArray, List.getElem?_cons_zero, List.getElem?_cons_succ] at c0 c1 c2 c3
        go_wp2_with fail
        go_ret
        exact ⟨by rw [HV.out]; rfl, HX3.out⟩
    · have hv : segE ⟨⟨ax, ay⟩, ⟨bx, b0⟩⟩ = 5 := if_neg (fun h => h2 h.2)
      have h5 : validE ⟨bx, b0⟩ = 5 := by unfold validE at h2 ⊢; split at h2 <;> simp_all
      have H1 := Lib.hid h1; have H2 := Lib.hid h5; have HV := Lib.hid hv; clear h1 h2 h5 hv
      go_enter Try.func17, Try.ntmps17
      go_wp2_with fail
      refine (good_c ⟨ax, ay⟩ _).mono ?_
      rw [H1.out]
      rintro e w2 ⟨rfl, hx⟩
      have B0 := (Blk.at #[.int .i64 ax, .int .i64 ay, .int .i64 bx, .int .i64 b0] 25 (w := w) rfl).ext hx
      have HX := Lib.hid (show Ext w w2 from Ext.trans (by repeat (first | exact Ext.refl _ | assumption | refine Ext.setCell ?_ (by first | (simp; done) | (simp; omega) | omega) _ | refine Ext.alloc ?_ _ | refine Ext.drew ?_ | refine Ext.trans ?_ (by assumption))) hx)
      clear hx
      have c0 := B0.cell 0; have c1 := B0.cell 1; have c2 := B0.cell 2; have c3 := B0.cell 3
      simp only [List.getElem?_toArray, List.getElem?_cons_zero, List.getElem?_cons_succ] at c0 c1 c2 c3
      go_wp2_with fail
      refine (good_c ⟨bx, b0⟩ _).mono ?_
      rw [H2.out]
      rintro e w3 ⟨rfl, hx⟩
      have HX3 := Lib.hid (HX.out.trans hx)
      clear hx
      go_wp2_with fail
      go_ret
      exact ⟨by rw [HV.out]; rfl, HX3.out⟩
  · have hv : segE ⟨⟨ax, ay⟩, ⟨bx, b0⟩⟩ = 5 := if_neg (fun h => h1 h.1)
    have h5 : validE ⟨ax, ay⟩ = 5 := by unfold validE at h1 ⊢; split at h1 <;> simp_all
    have H1 := Lib.hid h5; have HV := Lib.hid hv; clear h1 h5 hv
    go_enter Try.func17, Try.ntmps17
    go_wp2_with fail
    refine (good_c ⟨ax, ay⟩ _).mono ?_
    rw [H1.out]
    rintro e w2 ⟨rfl, hx⟩
    have HX := Lib.hid (show Ext w w2 from Ext.trans (by repeat (first | exact Ext.refl _ | assumption | refine Ext.setCell ?_ (by first | (simp; done) | (simp; omega) | omega) _ | refine Ext.alloc ?_ _ | refine Ext.drew ?_ | refine Ext.trans ?_ (by assumption))) hx)
    clear hx
    go_wp2_with fail
    go_ret
    exact ⟨by rw [HV.out]; rfl, HX.out⟩
def boundF (n : Int) : Int := aroundF n 1073741825 - 536870912
theorem boundF_bd (n : Int) : -536870912 ≤ boundF n ∧ boundF n ≤ 536870912 := by
  have := aroundF_bd n 1073741825 (by omega)
  unfold boundF; omega
theorem bound_c (n : Int) (w : World) (hn : Int64 n) : Calls Try.prog 26 #[.int .i64 n, .int .i64 536870912] w fun e w' => e = .returned (.int .i64 (boundF n)) ∧ w = w' := by
  have hb := aroundF_bd n 1073741825 (by omega)
  have H64 := Lib.hid hn; clear hn
  obtain ⟨k, hk⟩ : ∃ k, aroundF n 1073741825 = k := ⟨_, rfl⟩
  have HV := Lib.hid (show boundF n = k - 536870912 by unfold boundF; rw [hk])
  rw [hk] at hb
  have HK := Lib.hid hk; clear hk
  have w1 : IntKind.i64.wrap (k - 536870912) = k - 536870912 := IntWalk.i64_in _ (by omega)
  go_enter Try.func26, Try.ntmps26
  go_wp2_with fail
  refine (around_c _ _ _ (by omega) (by omega) H64.out).mono ?_
  rintro e w2 ⟨rfl, rfl⟩
  rw [HK.out]
  go_wp2_with fail
  go_ret
  exact ⟨by rw [HV.out]; rfl, rfl⟩
def scP (f : Int) (d p : Pt) : Pt := ⟨f * p.x + d.x, f * p.y + d.y⟩
set_option maxHeartbeats 1000000 in
theorem rScaled_c (p : Pt) (f : Int) (d : Pt) (w : World) (hp : (-100 ≤ p.x ∧ p.x ≤ 100) ∧ -100 ≤ p.y ∧ p.y ≤ 100) (hf : 1 ≤ f ∧ f ≤ 4194304) (hd : (-2147483648 ≤ d.x ∧ d.x ≤ 2147483648) ∧ -2147483648 ≤ d.y ∧ d.y ≤ 2147483648) :
    Calls Try.prog 27 #[p.v, .int .i64 f, d.v] w fun e w' => e = .returned (scP f d p).v ∧ Ext w w' := by
  obtain ⟨x, y⟩ := p
  obtain ⟨u, v⟩ := d
  obtain ⟨⟨x1, x2⟩, y1, y2⟩ := hp
  obtain ⟨⟨u1, u2⟩, v1, v2⟩ := hd
  simp only at x1 x2 y1 y2 u1 u2 v1 v2
  have e1 := abs_mul_le (x := f) (y := x) (m := 4194304) (n := 100) (by omega) (by omega)
  have e2 := abs_mul_le (x := f) (y := y) (m := 4194304) (n := 100) (by omega) (by omega)
  have w1 : IntKind.i64.wrap (f * x) = f * x := IntWalk.i64_in _ (by omega)
  have w2 : IntKind.i64.wrap (f * y) = f * y := IntWalk.i64_in _ (by omega)
  have w3 : IntKind.i64.wrap (f * x + u) = f * x + u := IntWalk.i64_in _ (by omega)
  have w4 : IntKind.i64.wrap (f * y + v) = f * y + v := IntWalk.i64_in _ (by omega)
  clear e1 e2 x1 x2 y1 y2 u1 u2 v1 v2
  go_enter Try.func27, Try.ntmps27
  go_wp2_with fail
  refine bodyPost_ret (v := (scP f ⟨u, v⟩ ⟨x, y⟩).v) (by simp [results, Try.results27, go_sem, scP]) rfl ?_
  exact ⟨rfl, (by repeat (first | exact Ext.refl _ | assumption | refine Ext.setCell ?_ (by first | (simp; done) | (simp; omega) | omega) _ | refine Ext.alloc ?_ _ | refine Ext.drew ?_ | refine Ext.trans ?_ (by assumption)))⟩
theorem mul_smb {B : Nat} {p : Rat} {k : Int} (hp : SmB B p) (hB : 1 ≤ B) (hk : k.natAbs ≤ B) : SmB (B * B) (p * (k : Rat)) := by
  obtain ⟨x, y, h1, h2, h3, h4⟩ := hp
  refine ⟨x * k, y, h1, ?_, ?_, ?_⟩
  · exact Nat.le_trans h2 (Nat.le_mul_of_pos_right _ hB)
  · exact abs_mul_le h3 hk
  · rw [Rat.intCast_mul, ← h4]; grind
theorem QB2_lt : QB * QB < 2 ^ 257 := by rw [QB_eq]; decide +kernel
theorem QB_pos : 1 ≤ QB := by rw [QB_eq]; decide
/-- The fraction f in the box F. -/
structure FrB (W : World) (F : Nat) (f : FV) (q : Rat) : Prop where
  at' : At W F f.cs
  is : IsQ W f q
theorem FrB.ext {W X : World} {F : Nat} {f : FV} {q : Rat} (h : FrB W F f q) (e : Ext W X) : FrB X F f q := ⟨h.at'.ext e (by simp), h.is.keep e.ik⟩
theorem FrB.new {W : World} {F : Nat} {f : FV} {q : Rat} (hF : W.heap.size = F) (h : IsQ W f q) : FrB (W.alloc (.cells f.cs 41)) F f q := ⟨(Blk.at _ _ hF.symm).at', h.keep ((Ext.refl _).alloc _).ik⟩
set_option maxRecDepth 100000 in
set_option maxHeartbeats 8000000 in
theorem scaled_c (p : PV) (q : QP) (k : Int) (d : Pt) (w : World) (hp : IsPQ w p q) (sq : SmP q) (hk : 1 ≤ k ∧ k ≤ 4194304) (hd : (-2147483648 ≤ d.x ∧ d.x ≤ 2147483648) ∧ -2147483648 ≤ d.y ∧ d.y ≤ 2147483648) :
    Calls Try.prog 28 #[p.v, .int .i64 k, d.v] w fun e w' => ∃ r : PV, e = .returned (.tuple #[r.v, .bool true]) ∧ IsPQ w' r (scQ (k : Rat) (d.x : Rat) (d.y : Rat) q) ∧ Ext w w' := by
  have HP := Lib.hid hp
  have HD := Lib.hid hd
  have HK := Lib.hid hk
  have sk : SmB QB (k : Rat) := smb_int (by omega)
  have hkQ : k.natAbs ≤ QB := by rw [QB_eq]; omega
  have HSM := Lib.hid (And.intro sq.x (And.intro sq.y (And.intro sk (And.intro (mul_smb sq.x QB_pos hkQ) (And.intro (mul_smb sq.y QB_pos hkQ) (And.intro ((smb_int (n := d.x) (by omega)).mono (Nat.le_mul_of_pos_right _ QB_pos)) ((smb_int (n := d.y) (by omega)).mono (Nat.le_mul_of_pos_right _ QB_pos))))))))
  clear hp sq hd hk sk hkQ
  obtain ⟨B, hB⟩ : ∃ B, w.heap.size = B := ⟨_, rfl⟩
  go_enter Try.func28, Try.ntmps28
  go_wp2_with fail
  refine (Of_c k 1 _ (by have := HK.out; omega) (by have := HK.out; omega) (by omega) (by omega)).mono ?_
  rw [(low_one k).1, (low_one k).2]
  rintro e w2 ⟨f, rfl, hf, hx2⟩
  have hf : IsQ w2 f (k : Rat) := ⟨k, 1, hf, rat_one k⟩
  have X2 : Ext w w2 := Ext.trans (by repeat (first | exact Ext.refl _ | assumption | refine Ext.setCell ?_ (by first | (simp; done) | (simp; omega) | omega) _ | refine Ext.alloc ?_ _ | refine Ext.drew ?_ | refine Ext.trans ?_ (by assumption))) hx2
  have A2 : PtB w2 B p := ((((Blk.at p.cs 43 hB.symm).alloc (.cells #[.int .i64 d.x, .int .i64 d.y] 23)).alloc (.cells zeroP 43)).ext hx2).at'.ptB
  have D2 : GpB w2 (B + 1) d := (((Blk.at (w := w.alloc (.cells p.cs 43)) (b := B + 1) _ 23 (by simp [hB])).alloc (.cells zeroP 43)).ext hx2).gpB
  have R2 : Own w2 (B + 1 + 1) 8 := Own.ext hx2 ((Blk.at zeroP 43 (by simp [hB])).own _ (by simp) noInt8) (by omega)
  obtain ⟨F1, hF1⟩ : ∃ F, w2.heap.size = F := ⟨_, rfl⟩
  have P2 := Lib.hid (And.intro (X2.alloc (.cells f.cs 41)) (And.intro (A2.ext ((Ext.refl _).alloc (.cells f.cs 41))) (And.intro (D2.ext ((Ext.refl _).alloc (.cells f.cs 41))) (And.intro (Own.ext ((Ext.refl _).alloc (.cells f.cs 41)) R2 (by omega)) (FrB.new hF1 hf)))))
  clear hf hx2 X2 A2 D2 R2
  go_upto_region 2 with fail
  try rw [hF1]
  refine wp_gen (fun W => Ext w W ∧ PtB W B p ∧ GpB W (B + 1) d ∧ Own W (B + 1 + 1) 8 ∧ FrB W F1 f (k : Rat)) P2.out ?_
  clear P2 hF1
  rintro W2 v2
  have H2 := Lib.hid v2
  obtain ⟨p0, p1, p2, p3, p4, p5, p6, p7⟩ := v2.2.1
  have g0 := v2.2.2.2.2.at' 0 (by simp); have g1 := v2.2.2.2.2.at' 1 (by simp); have g2 := v2.2.2.2.2.at' 2 (by simp); have g3 := v2.2.2.2.2.at' 3 (by simp); (simp only [List.getElem?_toArray, List.getElem?_cons_zero, List.getElem?_cons_succ] at g0 g1 g2 g3)
  clear v2
  go_wp2_with fail
  refine (mulQ_c p.x f _ _ QB 129 _ (HP.out.x.keep H2.out.1.ik) H2.out.2.2.2.2.is HSM.out.1 HSM.out.2.2.1 QB_lt (by omega)).mono ?_
  rintro e w3 ⟨x, rfl, hx, hx3⟩
  obtain ⟨F2, hF2⟩ : ∃ F, w3.heap.size = F := ⟨_, rfl⟩
  have E3 := hx3.alloc (.cells x.cs 41)
  have P3 := Lib.hid (And.intro (H2.out.1.trans E3) (And.intro (H2.out.2.1.ext E3) (And.intro (H2.out.2.2.1.ext E3) (And.intro (Own.ext E3 H2.out.2.2.2.1 (by omega)) (And.intro (H2.out.2.2.2.2.ext E3) (FrB.new hF2 hx))))))
  clear hx hx3 E3 p0 p1 p2 p3 p4 p5 p6 p7 g0 g1 g2 g3
  go_upto_region 3 with fail
  try rw [hF2]
  refine wp_gen (fun W => Ext w W ∧ PtB W B p ∧ GpB W (B + 1) d ∧ Own W (B + 1 + 1) 8 ∧ FrB W F1 f (k : Rat) ∧ FrB W F2 x (q.x * (k : Rat))) P3.out ?_
  clear P3 hF2 H2
  rintro W3 v3
  have H3 := Lib.hid v3
  obtain ⟨p0, p1, p2, p3, p4, p5, p6, p7⟩ := v3.2.1
  have g0 := v3.2.2.2.2.1.at' 0 (by simp); have g1 := v3.2.2.2.2.1.at' 1 (by simp); have g2 := v3.2.2.2.2.1.at' 2 (by simp); have g3 := v3.2.2.2.2.1.at' 3 (by simp); (simp only [List.getElem?_toArray, List.getElem?_cons_zero, List.getElem?_cons_succ] at g0 g1 g2 g3)
  clear v3
  go_wp2_with fail
  refine (mulQ_c p.y f _ _ QB 129 _ (HP.out.y.keep H3.out.1.ik) H3.out.2.2.2.2.1.is HSM.out.2.1 HSM.out.2.2.1 QB_lt (by omega)).mono ?_
  rintro e w4 ⟨y, rfl, hy, hx4⟩
  obtain ⟨F3, hF3⟩ : ∃ F, w4.heap.size = F := ⟨_, rfl⟩
  have E4 := hx4.alloc (.cells y.cs 41)
  have P4 := Lib.hid (And.intro (H3.out.1.trans E4) (And.intro (H3.out.2.2.1.ext E4) (And.intro (Own.ext E4 H3.out.2.2.2.1 (by omega)) (And.intro (H3.out.2.2.2.2.2.ext E4) (FrB.new hF3 hy)))))
  clear hy hx4 E4 p0 p1 p2 p3 p4 p5 p6 p7 g0 g1 g2 g3
  go_upto_region 4 with fail
  try rw [hF3]
  refine wp_gen (fun W => Ext w W ∧ GpB W (B + 1) d ∧ Own W (B + 1 + 1) 8 ∧ FrB W F2 x (q.x * (k : Rat)) ∧ FrB W F3 y (q.y * (k : Rat))) P4.out ?_
  clear P4 hF3 H3
  rintro W4 v4
  have H4 := Lib.hid v4
  obtain ⟨d0, d1⟩ := v4.2.1
  clear v4
  go_wp2_with fail
  refine (pOf_q d _ (by have := HD.out; omega) (by have := HD.out; omega) (by have := HD.out; omega) (by have := HD.out; omega)).mono ?_
  rintro e w5 ⟨m, rfl, hm, hx5⟩
  obtain ⟨F4, hF4⟩ : ∃ F, w5.heap.size = F := ⟨_, rfl⟩
  have E5 := hx5.alloc (.cells m.cs 43)
  have P5 := Lib.hid (And.intro (H4.out.1.trans E5) (And.intro (Own.ext E5 H4.out.2.2.1 (by omega)) (And.intro (H4.out.2.2.2.1.ext E5) (And.intro (H4.out.2.2.2.2.ext E5) (And.intro (Blk.at m.cs 43 hF4.symm).at'.ptB (hm.keep ((Ext.refl w5).alloc (.cells m.cs 43)).ik))))))
  clear hm hx5 E5 d0 d1
  go_upto_region 5 with fail
  try rw [hF4]
  refine wp_gen (fun W => Ext w W ∧ Own W (B + 1 + 1) 8 ∧ FrB W F2 x (q.x * (k : Rat)) ∧ FrB W F3 y (q.y * (k : Rat)) ∧ PtB W F4 m ∧ IsPQ W m d.q) P5.out ?_
  clear P5 hF4 H4
  rintro W5 v5
  have H5 := Lib.hid v5
  obtain ⟨p0, p1, p2, p3, p4, p5, p6, p7⟩ := v5.2.2.2.2.1
  have g0 := v5.2.2.1.at' 0 (by simp); have g1 := v5.2.2.1.at' 1 (by simp); have g2 := v5.2.2.1.at' 2 (by simp); have g3 := v5.2.2.1.at' 3 (by simp); (simp only [List.getElem?_toArray, List.getElem?_cons_zero, List.getElem?_cons_succ] at g0 g1 g2 g3)
  clear v5
  go_wp2_with fail
  refine (addQ_c x m.x _ _ (QB * QB) 257 _ H5.out.2.2.1.is H5.out.2.2.2.2.2.x HSM.out.2.2.2.1 HSM.out.2.2.2.2.2.1 QB2_lt (by omega)).mono ?_
  rintro e w6 ⟨u, rfl, hu, hx6⟩
  obtain ⟨F5, hF5⟩ : ∃ F, w6.heap.size = F := ⟨_, rfl⟩
  have E6 := hx6.alloc (.cells u.cs 41)
  have P6 := Lib.hid (And.intro (H5.out.1.trans E6) (And.intro (Own.ext E6 H5.out.2.1 (by omega)) (And.intro (H5.out.2.2.2.1.ext E6) (And.intro (H5.out.2.2.2.2.1.ext E6) (And.intro (H5.out.2.2.2.2.2.keep E6.ik) (FrB.new hF5 hu))))))
  clear hu hx6 E6 p0 p1 p2 p3 p4 p5 p6 p7 g0 g1 g2 g3
  go_upto_region 6 with fail
  try rw [hF5]
  refine wp_gen (fun W => Ext w W ∧ Own W (B + 1 + 1) 8 ∧ FrB W F3 y (q.y * (k : Rat)) ∧ PtB W F4 m ∧ IsPQ W m d.q ∧ FrB W F5 u (q.x * (k : Rat) + (d.x : Rat))) P6.out ?_
  clear P6 hF5 H5
  rintro W6 v6
  have H6 := Lib.hid v6
  obtain ⟨p0, p1, p2, p3, p4, p5, p6, p7⟩ := v6.2.2.2.1
  have g0 := v6.2.2.1.at' 0 (by simp); have g1 := v6.2.2.1.at' 1 (by simp); have g2 := v6.2.2.1.at' 2 (by simp); have g3 := v6.2.2.1.at' 3 (by simp); (simp only [List.getElem?_toArray, List.getElem?_cons_zero, List.getElem?_cons_succ] at g0 g1 g2 g3)
  clear v6
  go_wp2_with fail
  refine (addQ_c y m.y _ _ (QB * QB) 257 _ H6.out.2.2.1.is H6.out.2.2.2.2.1.y HSM.out.2.2.2.2.1 HSM.out.2.2.2.2.2.2 QB2_lt (by omega)).mono ?_
  rintro e w7 ⟨v, rfl, hv, hx7⟩
  obtain ⟨F6, hF6⟩ : ∃ F, w7.heap.size = F := ⟨_, rfl⟩
  have E7 := hx7.alloc (.cells v.cs 41)
  have P7 := Lib.hid (And.intro (H6.out.1.trans E7) (And.intro (Own.ext E7 H6.out.2.1 (by omega)) (And.intro (H6.out.2.2.2.2.2.ext E7) (FrB.new hF6 hv))))
  clear hv hx7 E7 p0 p1 p2 p3 p4 p5 p6 p7 g0 g1 g2 g3
  go_upto_region 7 with fail
  try rw [hF6]
  refine wp_gen (fun W => Ext w W ∧ Own W (B + 1 + 1) 8 ∧ FrB W F5 u (q.x * (k : Rat) + (d.x : Rat)) ∧ FrB W F6 v (q.y * (k : Rat) + (d.y : Rat))) P7.out ?_
  clear P7 hF6 H6
  rintro W7 v7
  have H7 := Lib.hid v7
  have O7 := v7.2.1
  have h0 := v7.2.2.2.at' 0 (by simp); have h1 := v7.2.2.2.at' 1 (by simp); have h2 := v7.2.2.2.at' 2 (by simp); have h3 := v7.2.2.2.at' 3 (by simp)
  simp only [List.getElem?_toArray, List.getElem?_cons_zero, List.getElem?_cons_succ] at h0 h1 h2 h3
  have g0 := v7.2.2.1.at' 0 (by simp); have g1 := v7.2.2.1.at' 1 (by simp); have g2 := v7.2.2.1.at' 2 (by simp); have g3 := v7.2.2.1.at' 3 (by simp); (simp only [List.getElem?_toArray, List.getElem?_cons_zero, List.getElem?_cons_succ] at g0 g1 g2 g3)
  clear v7
  have o0 := O7.1 0 (by omega); have o1 := O7.1 1 (by omega); have o2 := O7.1 2 (by omega); have o3 := O7.1 3 (by omega); have o4 := O7.1 4 (by omega); have o5 := O7.1 5 (by omega); have o6 := O7.1 6 (by omega); have o7 := O7.1 7 (by omega); have of0 := O7.2.1
  obtain ⟨p0, p1, p2, p3, p4, p5, p6, p7⟩ := putP_cells O7 ⟨u, v⟩
  clear O7
  go_wp2_with fail
  refine bodyPost_ret (v := .tuple #[PV.v ⟨u, v⟩, .bool true]) (by simp [results, Try.results28, go_sem, p0, p1, p2, p3, p4, p5, p6, p7]) rfl ?_
  exact ⟨⟨u, v⟩, rfl, IsPQ.keep ⟨H7.out.2.2.1.is, H7.out.2.2.2.is⟩ (IK.putP H7.out.2.1 ⟨u, v⟩), ext_putP H7.out.1 (by omega) ⟨u, v⟩⟩
end Go.Proofs.Ytagiaiocgjagnaa
