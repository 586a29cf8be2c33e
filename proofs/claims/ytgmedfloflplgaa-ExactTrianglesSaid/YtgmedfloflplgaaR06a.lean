/- meresmanref06: Area of points with small numbers. -/
import Derived.Test.YtgmedfloflplgaaR06p
namespace Go.Proofs.Ytgmedfloflplgaa
set_option linter.unusedSimpArgs false
set_option linter.unusedVariables false
open Go.RowKit

theorem adiff_bd {x y d e : Int} (h1 : -d ≤ x) (h2 : x ≤ 32 * d) (h3 : -e ≤ y) (h4 : y ≤ 32 * e) (hd : 1 ≤ d) (he : 1 ≤ e) (hm : d ≤ 288) (hn : e ≤ 288) :
    N62 (x * e) ∧ N62 (y * d) ∧ -2737152 ≤ x * e - y * d ∧ x * e - y * d ≤ 2737152 := by
  have a := box_mul h1 h2 he
  have b := box_mul h3 h4 hd
  have c := den_mul hd hm he hn
  rw [Int.mul_comm e d] at b
  generalize d * e = P at *
  generalize x * e = X at *
  generalize y * d = Y at *
  unfold N62
  omega
def denRP (a b c : RP) : Int := a.d * a.d * b.d * c.d
theorem areaRP_bd (a b c : RP) (ha : RIn a 288) (hb : RIn b 288) (hc : RIn c 288) : -14984002142208 ≤ areaRP a b c ∧ areaRP a b c ≤ 14984002142208 ∧ 1 ≤ denRP a b c ∧ denRP a b c ≤ 6879707136 ∧ N62 ((b.x * a.d - a.x * b.d) * (c.y * a.d - a.y * c.d)) ∧ N62 ((b.y * a.d - a.y * b.d) * (c.x * a.d - a.x * c.d)) ∧ a.d * a.d ≤ 82944 ∧ 1 ≤ a.d * a.d ∧ a.d * a.d * b.d ≤ 23887872 ∧ 1 ≤ a.d * a.d * b.d := by
  have p1 := adiff_bd hb.x1 hb.x2 ha.x1 ha.x2 hb.d1 ha.d1 hb.dm ha.dm
  have p2 := adiff_bd hb.y1 hb.y2 ha.y1 ha.y2 hb.d1 ha.d1 hb.dm ha.dm
  have p3 := adiff_bd hc.x1 hc.x2 ha.x1 ha.x2 hc.d1 ha.d1 hc.dm ha.dm
  have p4 := adiff_bd hc.y1 hc.y2 ha.y1 ha.y2 hc.d1 ha.d1 hc.dm ha.dm
  have q1 := abs_mul p1.2.2.1 p1.2.2.2 p4.2.2.1 p4.2.2.2
  have q2 := abs_mul p2.2.2.1 p2.2.2.2 p3.2.2.1 p3.2.2.2
  have e1 := den_mul ha.d1 ha.dm ha.d1 ha.dm
  have e2 := den_mul e1.1 e1.2 hb.d1 hb.dm
  have e3 := den_mul e2.1 e2.2 hc.d1 hc.dm
  unfold areaRP denRP N62
  omega
set_option maxRecDepth 100000 in
set_option maxHeartbeats 4000000 in
theorem rarea_c (a b c : RP) (w : World) (ha : RIn a 288) (hb : RIn b 288) (hc : RIn c 288) :
    Calls Try.prog 43 #[a.v, b.v, c.v] w fun e w' => e = .returned (.tuple #[.int .i64 (makeF (areaRP a b c) 0 (denRP a b c)).x, .int .i64 (makeF (areaRP a b c) 0 (denRP a b c)).d]) ∧ Ext w w' := by
  have p1 := adiff_bd hb.x1 hb.x2 ha.x1 ha.x2 hb.d1 ha.d1 hb.dm ha.dm
  have p2 := adiff_bd hb.y1 hb.y2 ha.y1 ha.y2 hb.d1 ha.d1 hb.dm ha.dm
  have p3 := adiff_bd hc.x1 hc.x2 ha.x1 ha.x2 hc.d1 ha.d1 hc.dm ha.dm
  have p4 := adiff_bd hc.y1 hc.y2 ha.y1 ha.y2 hc.d1 ha.d1 hc.dm ha.dm
  have hbd := areaRP_bd a b c ha hb hc
  have w1 := p1.1.w
  have w2 := p1.2.1.w
  have w3 := p2.1.w
  have w4 := p2.2.1.w
  have w5 := p3.1.w
  have w6 := p3.2.1.w
  have w7 := p4.1.w
  have w8 := p4.2.1.w
  have s1 := p1.1.sub p1.2.1
  have s2 := p2.1.sub p2.2.1
  have s3 := p3.1.sub p3.2.1
  have s4 := p4.1.sub p4.2.1
  have s9 := hbd.2.2.2.2.1.w
  have s10 := hbd.2.2.2.2.2.1.w
  have s11 := hbd.2.2.2.2.1.sub hbd.2.2.2.2.2.1
  have t1 : IntKind.i64.wrap (a.d * a.d) = a.d * a.d := IntWalk.i64_in _ (by omega)
  have t2 : IntKind.i64.wrap (a.d * a.d * b.d) = a.d * a.d * b.d := IntWalk.i64_in _ (by omega)
  have t3 : IntKind.i64.wrap (a.d * a.d * b.d * c.d) = a.d * a.d * b.d * c.d := IntWalk.i64_in _ (by have := hbd.2.2.1; have := hbd.2.2.2.1; unfold denRP at *; omega)
  have HB := Lib.hid hbd
  clear hbd p1 p2 p3 p4 ha hb hc
  obtain ⟨m, hm⟩ : ∃ m, makeF (areaRP a b c) 0 (denRP a b c) = m := ⟨_, rfl⟩
  rw [hm]
  have HM := Lib.hid hm
  clear hm
  obtain ⟨mx, my, md⟩ := m
  go_enter Try.func43, Try.ntmps43
  go_wp2_with fail
  refine (make_c (areaRP a b c) 0 (denRP a b c) _ (by have := HB.out; omega) (by have := HB.out; omega) (by omega) (by omega) (by have := HB.out; omega) (by have := HB.out; omega) (by have := HB.out; omega)).mono ?_
  rw [HM.out]
  rintro e w2 ⟨rfl, hx⟩
  have HX := Lib.hid hx
  have hE := Lib.hid (show Ext w w2 from Ext.trans (by repeat (first | exact Ext.refl _ | assumption | refine Ext.setCell ?_ (by first | (simp; done) | (simp; omega) | omega) _ | refine Ext.alloc ?_ _ | refine Ext.drew ?_ | refine Ext.trans ?_ (by assumption))) hx)
  clear hx
  go_wp2_with fail
  go_quiet (fail)
  go_wp2_with fail
  go_ret2
  exact ⟨rfl, (hE.out.alloc _).drewN _⟩
end Go.Proofs.Ytgmedfloflplgaa
