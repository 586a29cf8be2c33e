/- meresmanref07: Before, Normal; cross.Normal. -/
import Derived.Test.YtagiaiocgjagnaaKX25
namespace Go.Proofs.Ytagiaiocgjagnaa
set_option linter.unusedSimpArgs false
set_option linter.unusedVariables false
open Go.RowKit

theorem rBefore_c (a b : Pt) (w : World) : Calls Try.prog 63 #[a.v, b.v] w fun e w' => e = .returned (.bool (beforeF a b)) ∧ Ext w w' := by
  obtain ⟨x, y⟩ := a
  obtain ⟨u, v⟩ := b
  by_cases h1 : x < u
  · have HV := Lib.hid (show beforeF ⟨x, y⟩ ⟨u, v⟩ = true by unfold beforeF; simp; omega)
    go_enter Try.func63, Try.ntmps63
    go_wp2
    go_ret
    exact ⟨by rw [HV.out]; rfl, (by repeat (first | exact Ext.refl _ | assumption | refine Ext.setCell ?_ (by first | (simp; done) | (simp; omega) | omega) _ | refine Ext.alloc ?_ _ | refine Ext.drew ?_ | refine Ext.trans ?_ (by assumption)))⟩
  · by_cases h2 : x = u
    · have h2' : (x == u) = true := by rw [beq_iff_eq]; exact h2
      by_cases h3 : y < v
      · have HV := Lib.hid (show beforeF ⟨x, y⟩ ⟨u, v⟩ = true by unfold beforeF; simp; omega)
        clear h2
        go_enter Try.func63, Try.ntmps63
        go_wp2
        go_ret
        exact ⟨by rw [HV.out]; rfl, (by repeat (first | exact Ext.refl _ | assumption | refine Ext.setCell ?_ (by first | (simp; done) | (simp; omega) | omega) _ | refine Ext.alloc ?_ _ | refine Ext.drew ?_ | refine Ext.trans ?_ (by assumption)))⟩
      · have HV := Lib.hid (show beforeF ⟨x, y⟩ ⟨u, v⟩ = false by unfold beforeF; simp; omega)
        clear h2
        go_enter Try.func63, Try.ntmps63
        go_wp2
        go_ret
        exact ⟨by rw [HV.out]; rfl, (by repeat (first | exact Ext.refl _ | assumption | refine Ext.setCell ?_ (by first | (simp; done) | (simp; omega) | omega) _ | refine Ext.alloc ?_ _ | refine Ext.drew ?_ | refine Ext.trans ?_ (by assumption)))⟩
    · have h2' : (x == u) = false := by rw [beq_eq_false_iff_ne]; exact h2
      have HV := Lib.hid (show beforeF ⟨x, y⟩ ⟨u, v⟩ = false by unfold beforeF; simp; omega)
      clear h2
      go_enter Try.func63, Try.ntmps63
      go_wp2
      go_ret
      exact ⟨by rw [HV.out]; rfl, (by repeat (first | exact Ext.refl _ | assumption | refine Ext.setCell ?_ (by first | (simp; done) | (simp; omega) | omega) _ | refine Ext.alloc ?_ _ | refine Ext.drew ?_ | refine Ext.trans ?_ (by assumption)))⟩
abbrev zS4 : Sg := ⟨⟨0, 0⟩, ⟨0, 0⟩⟩
theorem row_sg {w0 w : World} {b : Nat} {t : TypeId} {d : Sg} (hE : Ext w0 w) (h : Blk w b d.cs t) (hb : w0.heap.size ≤ b) (c : Sg) : Blk (w.setRow b c.cs) b c.cs t ∧ Ext w0 (w.setRow b c.cs) := ⟨Blk.setRow h, Ext.setRow hE hb⟩
set_option maxHeartbeats 4000000 in
theorem rNormal_c (s : Sg) (w : World) : Calls Try.prog 31 #[s.v] w fun e w' => e = .returned (normF s).v ∧ Ext w w' := by
  obtain ⟨B, hB⟩ : ∃ B, w.heap.size = B := ⟨_, rfl⟩
  obtain ⟨o, ho⟩ : ∃ o, beforeF s.b s.a = o := ⟨_, rfl⟩
  have HO := Lib.hid ho
  go_enter Try.func31, Try.ntmps31
  go_upto_region 1 with fail
  refine wp_gen (fun W => Ext w W ∧ Blk W B s.cs 25 ∧ Blk W (B + 1) zS4.cs 25) ⟨(by repeat (first | exact Ext.refl _ | assumption | refine Ext.setCell ?_ (by first | (simp; done) | (simp; omega) | omega) _ | refine Ext.alloc ?_ _ | refine Ext.drew ?_ | refine Ext.trans ?_ (by assumption))), (Blk.at s.cs 25 hB.symm).alloc _, Blk.at zS4.cs 25 (by simp [hB])⟩ ?_
  rintro V ⟨E0, B0, B1⟩
  have HE := Lib.hid E0
  have HB := Lib.hid (And.intro B0 B1)
  obtain ⟨x0, x1, x2, x3⟩ := B0.c4
  clear E0 B0 B1
  go_wp2_with fail
  refine (rBefore_c s.b s.a _).mono ?_
  rw [HO.out]
  rintro e w2 ⟨rfl, hx⟩
  have HX := Lib.hid (HE.out.trans hx)
  have HZ := Lib.hid (HB.out.2.ext hx)
  have HB2 := Lib.hid (HB.out.1.ext hx)
  clear hx x0 x1 x2 x3
  obtain ⟨x0, x1, x2, x3⟩ := HB2.out.c4
  cases o with
  | true =>
    have HV := Lib.hid (show normF s = ⟨s.b, s.a⟩ from if_pos HO.out)
    obtain ⟨RB, RX⟩ := row_sg HX.out HZ.out (by omega) ⟨s.b, s.a⟩
    have HRB := Lib.hid (And.intro RB RX)
    clear RB RX ho
    go_wp2_with (refine wpList_store_row rfl 25 _ _ rfl (B + 1) _ rfl rfl 25 _ HZ.out (by kernel_rfl) rfl (all_one _ rfl) ?_)
    refine bodyPost_ret (v := Sg.v ⟨s.b, s.a⟩) (results_cell_row Try.results31 _ _ (B + 1) 25 _ (0, 0) _ rfl HRB.out.1 Try.underlying25 rfl (by kernel_rfl)) rfl ?_
    exact ⟨by rw [HV.out], HRB.out.2⟩
  | false =>
    have HV := Lib.hid (show normF s = s from if_neg (by rw [HO.out]; decide))
    obtain ⟨RB, RX⟩ := row_sg HX.out HZ.out (by omega) s
    have HRB := Lib.hid (And.intro RB RX)
    clear RB RX ho
    go_wp2_with (refine wpList_store_row rfl 25 _ _ rfl (B + 1) _ rfl rfl 25 _ HZ.out (by kernel_rfl) rfl (all_one _ rfl) ?_)
    refine bodyPost_ret (v := Sg.v s) (results_cell_row Try.results31 _ _ (B + 1) 25 _ (0, 0) _ rfl HRB.out.1 Try.underlying25 rfl (by kernel_rfl)) rfl ?_
    exact ⟨by rw [HV.out], HRB.out.2⟩
set_option maxHeartbeats 4000000 in
theorem cNormal_c (s : Sg) (w : World) (hs : OKs s) : Calls Try.prog 13 #[s.v] w fun e w' => e = .returned (.tuple #[(normF s).v, .int .i64 0]) ∧ Ext w w' := by
  obtain ⟨B, hB⟩ : ∃ B, w.heap.size = B := ⟨_, rfl⟩
  have HO := Lib.hid (segE_ok.2 hs)
  clear hs
  go_enter Try.func13, Try.ntmps13
  go_upto_region 1 with fail
  refine wp_gen (fun W => Ext w W ∧ Blk W B s.cs 25 ∧ Blk W (B + 1) zS4.cs 25) ⟨(by repeat (first | exact Ext.refl _ | assumption | refine Ext.setCell ?_ (by first | (simp; done) | (simp; omega) | omega) _ | refine Ext.alloc ?_ _ | refine Ext.drew ?_ | refine Ext.trans ?_ (by assumption))), (Blk.at s.cs 25 hB.symm).alloc _, Blk.at zS4.cs 25 (by simp [hB])⟩ ?_
  rintro V ⟨E0, B0, B1⟩
  have HE := Lib.hid E0
  have HB := Lib.hid (And.intro B0 B1)
  obtain ⟨x0, x1, x2, x3⟩ := B0.c4
  clear E0 B0 B1
  go_wp2_with fail
  refine (cValid_c s _).mono ?_
  rw [HO.out]
  rintro e w2 ⟨rfl, hx⟩
  have HX := Lib.hid (HE.out.trans hx)
  have HB2 := Lib.hid (And.intro (HB.out.1.ext hx) (HB.out.2.ext hx))
  clear hx x0 x1 x2 x3
  obtain ⟨x0, x1, x2, x3⟩ := HB2.out.1.c4
  go_wp2_with fail
  refine (normal_seg_c s _).mono ?_
  rintro e w3 ⟨rfl, hx⟩
  have HX3 := Lib.hid (HX.out.trans hx)
  have HZ := Lib.hid (HB2.out.2.ext hx)
  clear hx x0 x1 x2 x3
  obtain ⟨RB, RX⟩ := row_sg HX3.out HZ.out (by omega) (normF s)
  have HRB := Lib.hid (And.intro RB RX)
  clear RB RX
  go_wp2_with (refine wpList_store_row rfl 25 _ _ rfl (B + 1) _ rfl rfl 25 _ HZ.out (by kernel_rfl) rfl (all_one _ rfl) ?_)
  refine bodyPost_ret (v := .tuple #[(normF s).v, .int .i64 0]) (results_two Try.results13 _ _ (B + 1) 25 _ (0, 0) _ rfl HRB.out.1 Try.underlying25 rfl (by kernel_rfl)) rfl ?_
  exact ⟨rfl, HRB.out.2⟩
end Go.Proofs.Ytagiaiocgjagnaa
