/- point: within, Valid; exact: valid, SideOf. -/
import Derived.Test.YtgmedfloflplgaaETurn2
namespace Go.Proofs.Ytgmedfloflplgaa
open Go.RowKit

set_option maxHeartbeats 1000000 in
theorem within_c (lo x hi : Int) (w : World) : Calls Try.prog 100 #[.int .i64 lo, .int .i64 x, .int .i64 hi, .func (.func 101) #[] #[]] w fun e w' => e = .returned (.bool (decide (lo ≤ x ∧ x ≤ hi))) ∧ w = w' := by
  have hk : (x < lo ∧ cmpI lo x = 1) ∨ (lo ≤ x ∧ cmpI lo x ≤ 0 ∧ hi < x ∧ cmpI x hi = 1) ∨ (lo ≤ x ∧ cmpI lo x ≤ 0 ∧ x ≤ hi ∧ cmpI x hi ≤ 0) := by
    unfold cmpI; split <;> split <;> (try split) <;> (try split) <;> omega
  rcases hk with ⟨k1, k2⟩ | ⟨k1, k2, k3, k4⟩ | ⟨k1, k2, k3, k4⟩
  · have K2 := Lib.hid k2; clear k2
    go_enter Try.func100, Try.ntmps100
    go_wp2_with fail
    refine (cmpInt_c _ _ _).mono ?_
    rintro e w2 ⟨rfl, rfl⟩
    rw [K2.out]
    go_wp2_with fail
    go_ret
    exact ⟨by simp; omega, rfl⟩
  · generalize hc : cmpI lo x = c1 at k2
    have K4 := Lib.hid k4; have HC := Lib.hid hc; clear k4 hc
    go_enter Try.func100, Try.ntmps100
    go_wp2_with fail
    refine (cmpInt_c _ _ _).mono ?_
    rintro e w2 ⟨rfl, rfl⟩
    rw [HC.out]
    go_wp2_with fail
    refine (cmpInt_c _ _ _).mono ?_
    rintro e w2 ⟨rfl, rfl⟩
    rw [K4.out]
    go_wp2_with fail
    go_ret
    exact ⟨by simp; omega, rfl⟩
  · generalize hc : cmpI lo x = c1 at k2
    generalize hc2 : cmpI x hi = c2 at k4
    have HC2 := Lib.hid hc2; have HC := Lib.hid hc; clear hc2 hc
    go_enter Try.func100, Try.ntmps100
    go_wp2_with fail
    refine (cmpInt_c _ _ _).mono ?_
    rintro e w2 ⟨rfl, rfl⟩
    rw [HC.out]
    go_wp2_with fail
    refine (cmpInt_c _ _ _).mono ?_
    rintro e w2 ⟨rfl, rfl⟩
    rw [HC2.out]
    go_wp2_with fail
    go_ret
    exact ⟨by simp; omega, rfl⟩

/-- The error of a point of the grid. -/
def validE (p : Pt) : Int := if -1073741824 ≤ p.x ∧ p.x ≤ 1073741824 ∧ -1073741824 ≤ p.y ∧ p.y ≤ 1073741824 then 0 else 5
set_option maxHeartbeats 1000000 in
theorem pValid_c (p : Pt) (w : World) : Calls Try.prog 84 #[p.v] w fun e w' => e = .returned (.int .i64 (validE p)) ∧ Ext w w' := by
  obtain ⟨x, y⟩ := p
  have i0 : ∀ w, (Instr.index 132 (.agg #[.int .i64 x, .int .i64 y]) (.int .i64 0)).run Try.prog w = .ok (.int .i64 x) w := fun _ => by kernel_rfl
  have i1 : ∀ w, (Instr.index 132 (.agg #[.int .i64 x, .int .i64 y]) (.int .i64 1)).run Try.prog w = .ok (.int .i64 y) w := fun _ => by kernel_rfl
  by_cases h1 : -1073741824 ≤ x ∧ x ≤ 1073741824
  · by_cases h2 : -1073741824 ≤ y ∧ y ≤ 1073741824
    · have hf : validE ⟨x, y⟩ = 0 := by rw [validE, if_pos ⟨h1.1, h1.2, h2.1, h2.2⟩]
      have d1 : decide (-1073741824 ≤ x ∧ x ≤ 1073741824) = true := by simpa using h1
      have d2 : decide (-1073741824 ≤ y ∧ y ≤ 1073741824) = true := by simpa using h2
      have HF := Lib.hid hf; have D1 := Lib.hid d1; have D2 := Lib.hid d2; clear hf d1 d2 h1 h2
      go_enter Try.func84, Try.ntmps84
      go_wp2_with fail
      refine wp_loop_rounds 3 ?_
      rw [rounds_succ]
      go_wp2_with fail
      refine (within_c _ _ _ _).mono ?_
      rintro e w2 ⟨rfl, rfl⟩
      rw [D1.out]
      go_wp2_with fail
      rw [rounds_succ]
      go_wp2_with fail
      refine (within_c _ _ _ _).mono ?_
      rintro e w2 ⟨rfl, rfl⟩
      rw [D2.out]
      go_wp2_with fail
      rw [rounds_succ]
      go_wp2_with fail
      go_ret
      exact ⟨by rw [HF.out]; rfl, (by repeat (first | exact Ext.refl _ | assumption | refine Ext.setCell ?_ (by first | (simp; done) | (simp; omega) | omega) _ | refine Ext.alloc ?_ _ | refine Ext.drew ?_ | refine Ext.trans ?_ (by assumption)))⟩
    · have hf : validE ⟨x, y⟩ = 5 := by rw [validE, if_neg (by simp only; omega)]
      have d1 : decide (-1073741824 ≤ x ∧ x ≤ 1073741824) = true := by simpa using h1
      have d2 : decide (-1073741824 ≤ y ∧ y ≤ 1073741824) = false := by rw [decide_eq_false_iff_not]; exact h2
      have HF := Lib.hid hf; have D1 := Lib.hid d1; have D2 := Lib.hid d2; clear hf d1 d2 h1 h2
      go_enter Try.func84, Try.ntmps84
      go_wp2_with fail
      refine wp_loop_rounds 2 ?_
      rw [rounds_succ]
      go_wp2_with fail
      refine (within_c _ _ _ _).mono ?_
      rintro e w2 ⟨rfl, rfl⟩
      rw [D1.out]
      go_wp2_with fail
      rw [rounds_succ]
      go_wp2_with fail
      refine (within_c _ _ _ _).mono ?_
      rintro e w2 ⟨rfl, rfl⟩
      rw [D2.out]
      go_wp2_with fail
      go_ret
      exact ⟨by rw [HF.out]; rfl, (by repeat (first | exact Ext.refl _ | assumption | refine Ext.setCell ?_ (by first | (simp; done) | (simp; omega) | omega) _ | refine Ext.alloc ?_ _ | refine Ext.drew ?_ | refine Ext.trans ?_ (by assumption)))⟩
  · have hf : validE ⟨x, y⟩ = 5 := by rw [validE, if_neg (by simp only; omega)]
    have d1 : decide (-1073741824 ≤ x ∧ x ≤ 1073741824) = false := by rw [decide_eq_false_iff_not]; exact h1
    have HF := Lib.hid hf; have D1 := Lib.hid d1; clear hf d1 h1
    go_enter Try.func84, Try.ntmps84
    go_wp2_with fail
    refine wp_loop_rounds 1 ?_
    rw [rounds_succ]
    go_wp2_with fail
    refine (within_c _ _ _ _).mono ?_
    rintro e w2 ⟨rfl, rfl⟩
    rw [D1.out]
    go_wp2_with fail
    go_ret
    exact ⟨by rw [HF.out]; rfl, (by repeat (first | exact Ext.refl _ | assumption | refine Ext.setCell ?_ (by first | (simp; done) | (simp; omega) | omega) _ | refine Ext.alloc ?_ _ | refine Ext.drew ?_ | refine Ext.trans ?_ (by assumption)))⟩
end Go.Proofs.Ytgmedfloflplgaa
