/- meresmanlaw06: p, lives. -/
import Derived.Test.YtgmedfloflplgaaEC
namespace Go.Proofs.Ytgmedfloflplgaa
set_option linter.unusedSimpArgs false
set_option linter.unusedVariables false
open Go.RowKit

theorem p_c (x y : Int) (w : World) : Calls Try.prog 57 #[.int .i64 x, .int .i64 y] w fun e w' => e = .returned (.agg #[.int .i64 x, .int .i64 y]) ∧ Ext w w' := by
 go_enter Try.func57, Try.ntmps57
 go_wp2_with fail
 refine bodyPost_ret (v := .agg #[.int .i64 x, .int .i64 y]) (by simp [results, Try.results57, go_sem]) rfl ?_
 exact ⟨rfl, (by repeat (first | exact Ext.refl _ | assumption | refine Ext.setCell ?_ (by first | (simp; done) | (simp; omega) | omega) _ | refine Ext.alloc ?_ _ | refine Ext.drew ?_ | refine Ext.trans ?_ (by assumption)))⟩

set_option maxHeartbeats 2000000 in
theorem lives_c (w : World) : Calls Try.prog 18 #[] w fun e w' => e = .returned (.bool true) ∧ Ext w w' := by
 have E0 : Ext w w := Ext.refl w
 have f1 : SideOfF ⟨0, 0⟩ ⟨1, 0⟩ ⟨0, 1⟩ = (1, 0) := by decide
 have f2 : CircleF ⟨0, 0⟩ ⟨2, 0⟩ ⟨0, 2⟩ ⟨2, 2⟩ = (0, 0) := by decide
 have f3 : CircleF ⟨0, 0⟩ ⟨2, 0⟩ ⟨0, 2⟩ ⟨1, 1⟩ = (1, 0) := by decide
 have f4 : TurnF ⟨0, -1⟩ ⟨-1, 0⟩ = (1, 0) := by decide
 have F1 := Lib.hid f1; have F2 := Lib.hid f2; have F3 := Lib.hid f3; have F4 := Lib.hid f4; clear f1 f2 f3 f4
 go_enter Try.func18, Try.ntmps18
 go_wp2_with fail; refine (p_c 0 0 _).mono ?_; rintro e w' ⟨rfl, hx⟩; replace E0 := E0.trans hx; clear hx
 go_wp2_with fail; refine (p_c 1 0 _).mono ?_; rintro e w' ⟨rfl, hx⟩; replace E0 := E0.trans hx; clear hx
 go_wp2_with fail; refine (p_c 0 1 _).mono ?_; rintro e w' ⟨rfl, hx⟩; replace E0 := E0.trans hx; clear hx
 go_wp2_with fail
 refine (SideOf_c ⟨0, 0⟩ ⟨1, 0⟩ ⟨0, 1⟩ _).mono ?_
 rw [F1.out]
 rintro e w' ⟨rfl, hx⟩; replace E0 := E0.trans hx; clear hx
 go_wp2_with fail; refine (p_c 0 0 _).mono ?_; rintro e w' ⟨rfl, hx⟩; replace E0 := E0.trans hx; clear hx
 go_wp2_with fail; refine (p_c 2 0 _).mono ?_; rintro e w' ⟨rfl, hx⟩; replace E0 := E0.trans hx; clear hx
 go_wp2_with fail; refine (p_c 0 2 _).mono ?_; rintro e w' ⟨rfl, hx⟩; replace E0 := E0.trans hx; clear hx
 go_wp2_with fail; refine (p_c 2 2 _).mono ?_; rintro e w' ⟨rfl, hx⟩; replace E0 := E0.trans hx; clear hx
 go_wp2_with fail
 refine (Circle_c ⟨0, 0⟩ ⟨2, 0⟩ ⟨0, 2⟩ ⟨2, 2⟩ _).mono ?_
 rw [F2.out]
 rintro e w' ⟨rfl, hx⟩; replace E0 := E0.trans hx; clear hx
 go_wp2_with fail; refine (p_c 0 0 _).mono ?_; rintro e w' ⟨rfl, hx⟩; replace E0 := E0.trans hx; clear hx
 go_wp2_with fail; refine (p_c 2 0 _).mono ?_; rintro e w' ⟨rfl, hx⟩; replace E0 := E0.trans hx; clear hx
 go_wp2_with fail; refine (p_c 0 2 _).mono ?_; rintro e w' ⟨rfl, hx⟩; replace E0 := E0.trans hx; clear hx
 go_wp2_with fail; refine (p_c 1 1 _).mono ?_; rintro e w' ⟨rfl, hx⟩; replace E0 := E0.trans hx; clear hx
 go_wp2_with fail
 refine (Circle_c ⟨0, 0⟩ ⟨2, 0⟩ ⟨0, 2⟩ ⟨1, 1⟩ _).mono ?_
 rw [F3.out]
 rintro e w' ⟨rfl, hx⟩; replace E0 := E0.trans hx; clear hx
 go_wp2_with fail; refine (p_c 0 (-1) _).mono ?_; rintro e w' ⟨rfl, hx⟩; replace E0 := E0.trans hx; clear hx
 go_wp2_with fail; refine (p_c (-1) 0 _).mono ?_; rintro e w' ⟨rfl, hx⟩; replace E0 := E0.trans hx; clear hx
 go_wp2_with fail
 refine (Turn_c ⟨0, -1⟩ ⟨-1, 0⟩ _ ⟨by decide, by decide, by decide, by decide⟩ ⟨by decide, by decide, by decide, by decide⟩).mono ?_
 rw [F4.out]
 rintro e w' ⟨rfl, hx⟩; replace E0 := E0.trans hx; clear hx
 go_wp2_with fail
 go_ret
 exact ⟨rfl, E0⟩
end Go.Proofs.Ytgmedfloflplgaa
