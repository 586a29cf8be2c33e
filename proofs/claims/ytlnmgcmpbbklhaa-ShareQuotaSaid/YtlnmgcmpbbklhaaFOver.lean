/- frac: over, must. -/
import Derived.Test.YtlnmgcmpbbklhaaWDivI
namespace Go.Proofs.Ytlnmgcmpbbklhaa
set_option linter.unusedSimpArgs false
set_option linter.unusedVariables false
open Go.RowKit

theorem ext_put2 {a w : World} {b : Nat} (h : Ext a w) (hb : a.heap.size ≤ b) (g : Bool) (s : Option Addr) (n c : Nat) : Ext a ((w.setCell ⟨b, 0, none⟩ (.bool g)).setCell ⟨b, 1, none⟩ (.slice s n c)) :=
  (h.setCell hb _).setCell hb _
set_option maxRecDepth 100000 in
set_option maxHeartbeats 1000000 in
theorem over_c (p q : IV) (x y : Int) (w : World) (hp : IsI w p x) (hq : IsI w q y) (hy0 : y ≠ 0) (hok : DivOK x.natAbs y.natAbs) : Calls Try.prog 46 #[p.v, q.v] w (RetI (x / y) w) := by
  have HP := Lib.hid hp; have HQ := Lib.hid hq; clear hp hq
  go_enter Try.func46, Try.ntmps46
  go_wp2_with fail
  refine (Div_c p q x y _ (HP.out.keep (by repeat (first | exact IK.refl _ | refine IK.alloc ?_ _ | refine IK.drew ?_ | refine IK.setCell ?_ (by simp [hc, go_sem]) _))) (HQ.out.keep (by repeat (first | exact IK.refl _ | refine IK.alloc ?_ _ | refine IK.drew ?_ | refine IK.setCell ?_ (by simp [hc, go_sem]) _))) hy0 hok).mono ?_
  rintro e w5 ⟨r, s, rfl, hr, hs, hx5⟩
  have hE5 : Ext w w5 := Ext.trans (by repeat (first | exact Ext.refl _ | assumption | refine Ext.setCell ?_ (by first | (simp; done) | (simp; omega) | omega) _ | refine Ext.alloc ?_ _ | refine Ext.drew ?_ | refine Ext.trans ?_ (by assumption))) hx5
  have O2 : Own w5 (w.heap.size + 1 + 1) 2 := Own.ext hx5 ((Blk.at #[.bool false, .slice none 0 0] 48 (by simp)).own _ (by simp) noIntW) (by omega)
  obtain ⟨B, hB⟩ : ∃ B, w.heap.size = B := ⟨_, rfl⟩
  rw [hB] at O2
  have l2 := O2.lt (by omega)
  go_upto_region 2 with (fail)
  refine wp_gen (fun V => Ext w V ∧ At V w5.heap.size #[.bool r.neg, .slice r.a r.n r.c] ∧ Own V (B + 1 + 1) 2 ∧ IsI V r (x / y))
    ⟨(hE5.alloc _).alloc _, (At.alloc (Blk.at _ _ rfl).at' (by simp)), Own.ext (((Ext.refl w5).alloc _).alloc _) O2 (by omega), hr.keep (((Ext.refl w5).alloc _).alloc _).ik⟩ ?_
  clear hr hs hx5 hE5 O2
  rintro V ⟨E0, A5, O2, hr⟩
  have HR := Lib.hid hr; clear hr
  have c50 := A5 0 (by simp)
  have c51 := A5 1 (by simp)
  simp at c50 c51
  have hp := put2_cells O2 (.bool r.neg) (.slice r.a r.n r.c)
  obtain ⟨p0, p1⟩ := hp
  clear A5
  go_wp2_with fail
  refine bodyPost_ret (v := r.v) (by simp [results, Try.results46, go_sem, p0, p1]) rfl ?_
  exact ⟨r, rfl, HR.out.keep (IK.put2 O2 _ _ _ _), ext_put2 E0 (by omega) _ _ _ _⟩
set_option maxHeartbeats 1000000 in
theorem must_c (p : IV) (x er : Int) (w : World) (hp : IsI w p x) : Calls Try.prog 58 #[p.v, .int .i64 er] w (RetI x w) := by
  have HP := Lib.hid hp; clear hp
  go_enter Try.func58, Try.ntmps58
  go_wp2_with fail
  refine bodyPost_ret (v := p.v) (by simp [results, Try.results58, go_sem]) rfl ?_
  exact ⟨p, rfl, HP.out.keep (by repeat (first | exact IK.refl _ | refine IK.alloc ?_ _ | refine IK.drew ?_ | refine IK.setCell ?_ (by simp [hc, go_sem]) _)), (by repeat (first | exact Ext.refl _ | assumption | refine Ext.setCell ?_ (by first | (simp; done) | (simp; omega) | omega) _ | refine Ext.alloc ?_ _ | refine Ext.drew ?_ | refine Ext.trans ?_ (by assumption)))⟩
end Go.Proofs.Ytlnmgcmpbbklhaa
