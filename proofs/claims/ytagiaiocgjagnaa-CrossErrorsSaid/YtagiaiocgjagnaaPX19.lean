/- C05 X19: several texts of this proof in one. -/
import Derived.Test.YtagiaiocgjagnaaC02
import Derived.Test.YtagiaiocgjagnaaPX12
import Derived.Test.YtagiaiocgjagnaaPX14
namespace Go.Proofs.Ytagiaiocgjagnaa
set_option linter.unusedSimpArgs false
set_option linter.unusedVariables false

/-- A point, f times as far from the origin, and then moved. -/
def scQ (f u v : Rat) (p : QP) : QP := ⟨p.x * f + u, p.y * f + v⟩
end Go.Proofs.Ytagiaiocgjagnaa
namespace Go.Proofs.Ytagiaiocgjagnaa
set_option linter.unusedSimpArgs false
set_option linter.unusedVariables false
open Go.RowKit

set_option maxHeartbeats 1000000 in
theorem rValid_c (s : Sg) (w : World) : Calls Try.prog 17 #[s.v] w fun e w' => e = .returned (.int .i64 (segE s)) ∧ Ext w w' := by
  obtain ⟨⟨ax, ay⟩, ⟨bx, b0⟩⟩ := s
  by_cases h1 : validE ⟨ax, ay⟩ = 0
  · by_cases h2 : validE ⟨bx, b0⟩ = 0
    · have hv : segE ⟨⟨ax, ay⟩, ⟨bx, b0⟩⟩ = if ax = bx ∧ ay = b0 then 1 else 0 := if_pos ⟨h1, h2⟩
      have H1 := Lib.hid h1; have H2 := Lib.hid h2; clear h1 h2
      by_cases h3 : ax = bx
      · by_cases h4 : ay = b0
        · rw [if_pos ⟨h3, h4⟩] at hv
          have HV := Lib.hid hv; clear hv
          subst h3; subst h4
          go_enter Try.func17, Try.ntmps17
          go_wp2_with fail
          refine (good_c ⟨ax, ay⟩ _).mono ?_
          rw [H1.out]
          rintro e w2 ⟨rfl, hx⟩
          have B0 := (Blk.at #[.int .i64 ax, .int .i64 ay, .int .i64 ax, .int .i64 ay] 25 (w := w) rfl).ext hx
          have HX := Lib.hid (show Ext w w2 from Ext.trans (by repeat (first | exact Ext.refl _ | assumption | refine Ext.setCell ?_ (by first | (simp; done) | (simp; omega) | omega) _ | refine Ext.alloc ?_ _ | refine Ext.drew ?_ | refine Ext.trans ?_ (by assumption))) hx)
          clear hx
          have c0 := B0.cell 0; have c1 := B0.cell 1; have c2 := B0.cell 2; have c3 := B0.cell 3
          simp only [List.getElem?_toArray, List.getElem?_cons_zero, List.getElem?_cons_succ] at c0 c1 c2 c3
          go_wp2_with fail
          refine (good_c ⟨ax, ay⟩ _).mono ?_
          rw [H2.out]
          rintro e w3 ⟨rfl, hx⟩
          have B3 := B0.ext hx
          have HX3 := Lib.hid (HX.out.trans hx)
          clear hx c0 c1 c2 c3
          have c0 := B3.cell 0; have c1 := B3.cell 1; have c2 := B3.cell 2; have c3 := B3.cell 3
          simp only [List.getElem?_toArray, List.getElem?_cons_zero, List.getElem?_cons_succ] at c0 c1 c2 c3
          go_wp2_with fail
          go_ret
          exact ⟨by rw [HV.out]; rfl, HX3.out⟩
        · rw [if_neg (fun h => h4 h.2)] at hv
          have HV := Lib.hid hv; clear hv
          subst h3
          have h4' : (ay == b0) = false := by rw [beq_eq_false_iff_ne]; exact h4
          go_enter Try.func17, Try.ntmps17
          go_wp2_with fail
          refine (good_c ⟨ax, ay⟩ _).mono ?_
          rw [H1.out]
          rintro e w2 ⟨rfl, hx⟩
          have B0 := (Blk.at #[.int .i64 ax, .int .i64 ay, .int .i64 ax, .int .i64 b0] 25 (w := w) rfl).ext hx
          have HX := Lib.hid (show Ext w w2 from Ext.trans (by repeat (first | exact Ext.refl _ | assumption | refine Ext.setCell ?_ (by first | (simp; done) | (simp; omega) | omega) _ | refine Ext.alloc ?_ _ | refine Ext.drew ?_ | refine Ext.trans ?_ (by assumption))) hx)
          clear hx
          have c0 := B0.cell 0; have c1 := B0.cell 1; have c2 := B0.cell 2; have c3 := B0.cell 3
          simp only [List.getElem?_toArray, List.getElem?_cons_zero, List.getElem?_cons_succ] at c0 c1 c2 c3
          go_wp2_with fail
          refine (good_c ⟨ax, b0⟩ _).mono ?_
          rw [H2.out]
          rintro e w3 ⟨rfl, hx⟩
          have B3 := B0.ext hx
          have HX3 := Lib.hid (HX.out.trans hx)
          clear hx c0 c1 c2 c3
          have c0 := B3.cell 0; have c1 := B3.cell 1; have c2 := B3.cell 2; have c3 := B3.cell 3
          simp only [List.getElem?_toArray, List.getElem?_cons_zero, List.getElem?_cons_succ] at c0 c1 c2 c3
          go_wp2_with fail
          go_ret
          exact ⟨by rw [HV.out]; rfl, HX3.out⟩
      · rw [if_neg (fun h => h3 h.1)] at hv
        have HV := Lib.hid hv; clear hv
        have h3' : (ax == bx) = false := by rw [beq_eq_false_iff_ne]; exact h3
        go_enter Try.func17, Try.ntmps17
        go_wp2_with fail
        refine (good_c ⟨ax, ay⟩ _).mono ?_
        rw [H1.out]
        rintro e w2 ⟨rfl, hx⟩
        have B0 := (Blk.at #[.int .i64 ax, .int .i64 ay, .int .i64 bx, .int .i64 b0] 25 (w := w) rfl).ext hx
        have HX := Lib.hid (show Ext w w2 from Ext.trans (by repeat (first | exact Ext.refl _ | assumption | refine Ext.setCell ?_ (by first | (simp; done) | (simp; omega) | omega) _ | refine Ext.alloc ?_ _ | refine Ext.drew ?_ | refine Ext.trans ?_ (by assumption))) hx)
        clear hx
        have c0 := B0.cell 0; have c1 := B0.cell 1; have c2 := B0.cell 2; have c3 := B0.cell 3
        simp only [List.getElem?_toArray, List.getElem?_cons_zero, List.getElem?_cons_succ] at c0 c1 c2 c3
        go_wp2_with fail
        refine (good_c ⟨bx, b0⟩ _).mono ?_
        rw [H2.out]
        rintro e w3 ⟨rfl, hx⟩
        have B3 := B0.ext hx
        have HX3 := Lib.hid (HX.out.trans hx)
        clear hx c0 c1 c2 c3
        have c0 := B3.cell 0; have c1 := B3.cell 1; have c2 := B3.cell 2; have c3 := B3.cell 3
        simp only [List.getElem?_toArray, List.getElem?_cons_zero, List.getElem?_cons_succ] at c0 c1 c2 c3
        go_wp2_with fail
        go_ret
        exact ⟨by rw [HV.out]; rfl, HX3.out⟩
    · have hv : segE ⟨⟨ax, ay⟩, ⟨bx, b0⟩⟩ = 5 := if_neg (fun h => h2 h.2)
      have h5 : validE ⟨bx, b0⟩ = 5 := by unfold validE at h2 ⊢; split at h2 <;> simp_all
      have H1 := Lib.hid h1; have H2 := Lib.hid h5; have HV := Lib.hid hv; clear h1 h2 h5 hv
      go_enter Try.func17, Try.ntmps17
      go_wp2_with fail
      refine (good_c ⟨ax, ay⟩ _).mono ?_
      rw [H1.out]
      rintro e w2 ⟨rfl, hx⟩
      have B0 := (Blk.at #[.int .i64 ax, .int .i64 ay, .int .i64 bx, .int .i64 b0] 25 (w := w) rfl).ext hx
      have HX := Lib.hid (show Ext w w2 from Ext.trans (by repeat (first | exact Ext.refl _ | assumption | refine Ext.setCell ?_ (by first | (simp; done) | (simp; omega) | omega) _ | refine Ext.alloc ?_ _ | refine Ext.drew ?_ | refine Ext.trans ?_ (by assumption))) hx)
      clear hx
      have c0 := B0.cell 0; have c1 := B0.cell 1; have c2 := B0.cell 2; have c3 := B0.cell 3
      simp only [List.getElem?_toArray, List.getElem?_cons_zero, List.getElem?_cons_succ] at c0 c1 c2 c3
      go_wp2_with fail
      refine (good_c ⟨bx, b0⟩ _).mono ?_
      rw [H2.out]
      rintro e w3 ⟨rfl, hx⟩
      have HX3 := Lib.hid (HX.out.trans hx)
      clear hx
      go_wp2_with fail
      go_ret
      exact ⟨by rw [HV.out]; rfl, HX3.out⟩
  · have hv : segE ⟨⟨ax, ay⟩, ⟨bx, b0⟩⟩ = 5 := if_neg (fun h => h1 h.1)
    have h5 : validE ⟨ax, ay⟩ = 5 := by unfold validE at h1 ⊢; split at h1 <;> simp_all
    have H1 := Lib.hid h5; have HV := Lib.hid hv; clear h1 h5 hv
    go_enter Try.func17, Try.ntmps17
    go_wp2_with fail
    refine (good_c ⟨ax, ay⟩ _).mono ?_
    rw [H1.out]
    rintro e w2 ⟨rfl, hx⟩
    have HX := Lib.hid (show Ext w w2 from Ext.trans (by repeat (first | exact Ext.refl _ | assumption | refine Ext.setCell ?_ (by first | (simp; done) | (simp; omega) | omega) _ | refine Ext.alloc ?_ _ | refine Ext.drew ?_ | refine Ext.trans ?_ (by assumption))) hx)
    clear hx
    go_wp2_with fail
    go_ret
    exact ⟨by rw [HV.out]; rfl, HX.out⟩
def boundF (n : Int) : Int := aroundF n 1073741825 - 536870912
def scP (f : Int) (d p : Pt) : Pt := ⟨f * p.x + d.x, f * p.y + d.y⟩
/-- The fraction f in the box F. -/
structure FrB (W : World) (F : Nat) (f : FV) (q : Rat) : Prop where
  at' : At W F f.cs
  is : IsQ W f q
end Go.Proofs.Ytagiaiocgjagnaa
