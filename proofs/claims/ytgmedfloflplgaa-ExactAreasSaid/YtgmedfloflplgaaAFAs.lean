/- exact: Area and Side, whatever the numbers are. -/
import Derived.Test.YtgmedfloflplgaaAFAw
import Derived.Test.YtgmedfloflplgaaFCmp
namespace Go.Proofs.Ytgmedfloflplgaa
set_option linter.unusedSimpArgs false
set_option linter.unusedVariables false
open Go.RowKit

theorem IsF.r {w : World} {f : FV} {x y : Int} (h : IsF w f x y) : IsR w f x y (32 * WMost) := ⟨x, y, h, EqQ.refl h.pos, big_lt h.num.big, big_lt h.big⟩
set_option maxRecDepth 100000 in
set_option maxHeartbeats 1000000 in
theorem SideO_c (a b c : PV) (va vb vc : PQ) (A : Option Q2) (w : World) (ha : IsPG w a va) (hb : IsPG w b vb) (hc : IsPG w c vc) (hA : areaE va vb vc = A) :
  Calls Try.prog 28 #[a.v, b.v, c.v] w fun e w' => e = .returned (.tuple #[.int .i64 (cmpI (valO A).1 0), .int .i64 (errO A)]) ∧ Ext w w' := by
 have HP := Lib.hid (And.intro ha (And.intro hb hc))
 have HA := Lib.hid hA
 obtain ⟨er, her⟩ : ∃ z, errO A = z := ⟨_, rfl⟩
 have HER := Lib.hid her
 rw [her]
 clear ha hb hc hA her
 go_enter Try.func28, Try.ntmps28
 go_wp2_with (first | (go_at_call 63; refine (areaO_c a b c va vb vc _ (HP.out.1.keep (by repeat (first | exact IK.refl _ | refine IK.alloc ?_ _ | refine IK.drew ?_ | refine IK.setCell ?_ (by simp [hc, go_sem]) _))) (HP.out.2.1.keep (by repeat (first | exact IK.refl _ | refine IK.alloc ?_ _ | refine IK.drew ?_ | refine IK.setCell ?_ (by simp [hc, go_sem]) _))) (HP.out.2.2.keep (by repeat (first | exact IK.refl _ | refine IK.alloc ?_ _ | refine IK.drew ?_ | refine IK.setCell ?_ (by simp [hc, go_sem]) _)))).mono ?_; rw [HA.out]; rintro e w2 ⟨f, rfl, hf, hx⟩; rw [HER.out]; have HF := Lib.hid hf; have HX := Lib.hid hx; clear hf hx) | (go_at_call 38; refine (fSign_c f _ _ _ _ (HF.out.r.keep (by repeat (first | exact IK.refl _ | refine IK.alloc ?_ _ | refine IK.drew ?_ | refine IK.setCell ?_ (by simp [hc, go_sem]) _)))).mono ?_; rintro e w3 ⟨rfl, hx3⟩))
 go_ret2
 exact ⟨rfl, Ext.trans (Ext.trans (Ext.trans (by repeat (first | exact Ext.refl _ | assumption | refine Ext.setCell ?_ (by first | (simp; done) | (simp; omega) | omega) _ | refine Ext.alloc ?_ _ | refine Ext.drew ?_ | refine Ext.trans ?_ (by assumption))) HX.out) ((Ext.refl _).alloc _)) hx3⟩
set_option maxRecDepth 100000 in
set_option maxHeartbeats 1000000 in
theorem AreaO_c (a b c : PV) (va vb vc : PQ) (A : Option Q2) (w : World) (ha : IsPG w a va) (hb : IsPG w b vb) (hc : IsPG w c vc) (hA : areaE va vb vc = A) :
  Calls Try.prog 35 #[a.v, b.v, c.v] w (RetO A w) := by
 have HP := Lib.hid (And.intro ha (And.intro hb hc))
 have HA := Lib.hid hA
 obtain ⟨er, her⟩ : ∃ z, errO A = z := ⟨_, rfl⟩
 have HER := Lib.hid her
 clear ha hb hc hA her
 go_enter Try.func35, Try.ntmps35
 go_wp2_with fail
 refine (areaO_c a b c va vb vc _ (HP.out.1.keep (by repeat (first | exact IK.refl _ | refine IK.alloc ?_ _ | refine IK.drew ?_ | refine IK.setCell ?_ (by simp [hc, go_sem]) _))) (HP.out.2.1.keep (by repeat (first | exact IK.refl _ | refine IK.alloc ?_ _ | refine IK.drew ?_ | refine IK.setCell ?_ (by simp [hc, go_sem]) _))) (HP.out.2.2.keep (by repeat (first | exact IK.refl _ | refine IK.alloc ?_ _ | refine IK.drew ?_ | refine IK.setCell ?_ (by simp [hc, go_sem]) _)))).mono ?_
 rw [HA.out]
 rintro e w2 ⟨f, rfl, hf, hx⟩
 rw [HER.out]
 have HF := Lib.hid (And.intro hf (show Ext w w2 from Ext.trans (by repeat (first | exact Ext.refl _ | assumption | refine Ext.setCell ?_ (by first | (simp; done) | (simp; omega) | omega) _ | refine Ext.alloc ?_ _ | refine Ext.drew ?_ | refine Ext.trans ?_ (by assumption))) hx))
 have O2 : Own w2 (w.heap.size + 1 + 1 + 1) 4 := Own.ext hx ((Blk.at #[.bool false, .slice none 0 0, .bool false, .slice none 0 0] 49 (by simp)).own _ (by simp) (noIntF _ _ _ _ _ _ _ _)) (by omega)
 clear hf hx
 obtain ⟨p0, p1, p2, p3⟩ := putF_cells O2 f
 go_wp2_with fail
 refine bodyPost_ret (v := .tuple #[f.v, .int .i64 er]) (by simp [results, Try.results35, go_sem, p0, p1, p2, p3]) rfl ?_
 exact ⟨f, by rw [HER.out], HF.out.1.keep (IK.putF O2 f), ext_putF HF.out.2 (by omega) f⟩
end Go.Proofs.Ytgmedfloflplgaa
