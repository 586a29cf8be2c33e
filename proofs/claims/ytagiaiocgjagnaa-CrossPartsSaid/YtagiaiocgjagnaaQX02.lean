/- cross: Valid, before, normal, Normal, box; point: Meets. -/
import Derived.Test.YtagiaiocgjagnaaQC03
namespace Go.Proofs.Ytagiaiocgjagnaa
set_option linter.unusedSimpArgs false
set_option linter.unusedVariables false
open Go.RowKit

theorem before_c (a b : Pt) (w : World) : Calls Try.prog 68 #[a.v, b.v] w fun e w' => e = .returned (.bool (beforeF a b)) ∧ Ext w w' := by
 obtain ⟨x, y⟩ := a
 obtain ⟨u, v⟩ := b
 by_cases h1 : x < u
 ·have HV := Lib.hid (show beforeF ⟨x, y⟩ ⟨u, v⟩ = true by unfold beforeF; simp; omega)
  go_enter Try.func68, Try.ntmps68
  go_wp2
  go_ret
  exact ⟨by rw [HV.out]; rfl, (by repeat (first | exact Ext.refl _ | assumption | refine Ext.setCell ?_ (by first | (simp; done) | (simp; omega) | omega) _ | refine Ext.alloc ?_ _ | refine Ext.drew ?_ | refine Ext.trans ?_ (by assumption)))⟩
 ·by_cases h2 : x = u
  ·have h2' : (x == u) = true := by rw [beq_iff_eq]; exact h2
   by_cases h3 : y < v
   ·have HV := Lib.hid (show beforeF ⟨x, y⟩ ⟨u, v⟩ = true by unfold beforeF; simp; omega)
    clear h2
    go_enter Try.func68, Try.ntmps68
    go_wp2
    go_ret
    exact ⟨by rw [HV.out]; rfl, (by repeat (first | exact Ext.refl _ | assumption | refine Ext.setCell ?_ (by first | (simp; done) | (simp; omega) | omega) _ | refine Ext.alloc ?_ _ | refine Ext.drew ?_ | refine Ext.trans ?_ (by assumption)))⟩
   ·have HV := Lib.hid (show beforeF ⟨x, y⟩ ⟨u, v⟩ = false by unfold beforeF; simp; omega)
    clear h2
    go_enter Try.func68, Try.ntmps68
    go_wp2
    go_ret
    exact ⟨by rw [HV.out]; rfl, (by repeat (first | exact Ext.refl _ | assumption | refine Ext.setCell ?_ (by first | (simp; done) | (simp; omega) | omega) _ | refine Ext.alloc ?_ _ | refine Ext.drew ?_ | refine Ext.trans ?_ (by assumption)))⟩
  ·have h2' : (x == u) = false := by rw [beq_eq_false_iff_ne]; exact h2
   have HV := Lib.hid (show beforeF ⟨x, y⟩ ⟨u, v⟩ = false by unfold beforeF; simp; omega)
   clear h2
   go_enter Try.func68, Try.ntmps68
   go_wp2
   go_ret
   exact ⟨by rw [HV.out]; rfl, (by repeat (first | exact Ext.refl _ | assumption | refine Ext.setCell ?_ (by first | (simp; done) | (simp; omega) | omega) _ | refine Ext.alloc ?_ _ | refine Ext.drew ?_ | refine Ext.trans ?_ (by assumption)))⟩
theorem sput4_cells {w : World} {b : Nat} {x y z u : Value} {t : TypeId} (h : Blk w b #[x, y, z, u] t) (p q r s : Value) :
  Blk ((((w.setCell ⟨b, 0, none⟩ p).setCell ⟨b, 1, none⟩ q).setCell ⟨b, 2, none⟩ r).setCell ⟨b, 3, none⟩ s) b #[p, q, r, s] t := (((h.set 0 p).set 1 q).set 2 r).set 3 s
set_option maxHeartbeats 1000000 in
theorem normal_seg_c (s : Sg) (w : World) : Calls Try.prog 41 #[s.v] w fun e w' => e = .returned (normF s).v ∧ Ext w w' := by
 obtain ⟨⟨ax, ay⟩, ⟨bx, b0⟩⟩ := s
 cases hb : beforeF ⟨bx, b0⟩ ⟨ax, ay⟩ with
 | true =>
  have HV := Lib.hid (show normF ⟨⟨ax, ay⟩, ⟨bx, b0⟩⟩ = ⟨⟨bx, b0⟩, ⟨ax, ay⟩⟩ from if_pos hb)
  have HB := Lib.hid hb; clear hb
  go_enter Try.func41, Try.ntmps41
  go_wp2_with fail
  refine (before_c ⟨bx, b0⟩ ⟨ax, ay⟩ _).mono ?_
  rw [HB.out]
  rintro e w2 ⟨rfl, hx⟩
  have B0 := ((Blk.at #[.int .i64 ax, .int .i64 ay, .int .i64 bx, .int .i64 b0] 25 (w := w) rfl).alloc (.cells #[.int .i64 0, .int .i64 0, .int .i64 0, .int .i64 0] 25)).ext hx
  have B1 := (Blk.at (w := w.alloc (.cells #[.int .i64 ax, .int .i64 ay, .int .i64 bx, .int .i64 b0] 25)) #[.int .i64 0, .int .i64 0, .int .i64 0, .int .i64 0] 25 rfl).ext hx
  simp only [World.size_alloc] at B1
  have HX := Lib.hid (show Ext w w2 from Ext.trans (by repeat (first | exact Ext.refl _ | assumption | refine Ext.setCell ?_ (by first | (simp; done) | (simp; omega) | omega) _ | refine Ext.alloc ?_ _ | refine Ext.drew ?_ | refine Ext.trans ?_ (by assumption))) hx)
  have f0 := B0.free; have f1 := B1.free
  have c0 := B0.cell 0; have c1 := B0.cell 1; have c2 := B0.cell 2; have c3 := B0.cell 3
  have d0 := B1.cell 0; have d1 := B1.cell 1; have d2 := B1.cell 2; have d3 := B1.cell 3
  simp only [List.getElem?_toArray, List.getElem?_cons_zero, List.getElem?_cons_succ] at c0 c1 c2 c3 d0 d1 d2 d3
  clear hx
  have hne : w.heap.size ≠ w.heap.size + 1 := by omega
  have P1 := ((((B1.setOther (p := ⟨w.heap.size, 0, none⟩) (by simp) (.int .i64 bx)).setOther (p := ⟨w.heap.size, 1, none⟩) (by simp) (.int .i64 b0)).setOther (p := ⟨w.heap.size, 2, none⟩) (by simp) (.int .i64 ax)).setOther (p := ⟨w.heap.size, 3, none⟩) (by simp) (.int .i64 ay))
  have P := sput4_cells P1 (.int .i64 bx) (.int .i64 b0) (.int .i64 ax) (.int .i64 ay); have p0 := P.cell 0; have p1 := P.cell 1; have p2 := P.cell 2; have p3 := P.cell 3; (simp only [List.getElem?_toArray, List.getElem?_cons_zero, List.getElem?_cons_succ] at p0 p1 p2 p3)
  go_wp2_with fail
  refine bodyPost_ret (v := Sg.v ⟨⟨bx, b0⟩, ⟨ax, ay⟩⟩) (by simp [results, Try.results41, go_sem, p0, p1, p2, p3]) rfl ?_
  exact ⟨by rw [HV.out], (((((((HX.out.setCell (by simp) _).setCell (by simp) _).setCell (by simp) _).setCell (by simp) _).setCell (by simp) _).setCell (by simp) _).setCell (by simp) _).setCell (by simp) _⟩
 | false =>
  have HV := Lib.hid (show normF ⟨⟨ax, ay⟩, ⟨bx, b0⟩⟩ = ⟨⟨ax, ay⟩, ⟨bx, b0⟩⟩ from if_neg (by simp [hb]))
  have HB := Lib.hid hb; clear hb
  go_enter Try.func41, Try.ntmps41
  go_wp2_with fail
  refine (before_c ⟨bx, b0⟩ ⟨ax, ay⟩ _).mono ?_
  rw [HB.out]
  rintro e w2 ⟨rfl, hx⟩
  have B0 := ((Blk.at #[.int .i64 ax, .int .i64 ay, .int .i64 bx, .int .i64 b0] 25 (w := w) rfl).alloc (.cells #[.int .i64 0, .int .i64 0, .int .i64 0, .int .i64 0] 25)).ext hx
  have B1 := (Blk.at (w := w.alloc (.cells #[.int .i64 ax, .int .i64 ay, .int .i64 bx, .int .i64 b0] 25)) #[.int .i64 0, .int .i64 0, .int .i64 0, .int .i64 0] 25 rfl).ext hx
  simp only [World.size_alloc] at B1
  have HX := Lib.hid (show Ext w w2 from Ext.trans (by repeat (first | exact Ext.refl _ | assumption | refine Ext.setCell ?_ (by first | (simp; done) | (simp; omega) | omega) _ | refine Ext.alloc ?_ _ | refine Ext.drew ?_ | refine Ext.trans ?_ (by assumption))) hx)
  have f1 := B1.free
  have c0 := B0.cell 0; have c1 := B0.cell 1; have c2 := B0.cell 2; have c3 := B0.cell 3
  have d0 := B1.cell 0; have d1 := B1.cell 1; have d2 := B1.cell 2; have d3 := B1.cell 3
  simp only [List.getElem?_toArray, List.getElem?_cons_zero, List.getElem?_cons_succ] at c0 c1 c2 c3 d0 d1 d2 d3
  clear hx
  have P := sput4_cells B1 (.int .i64 ax) (.int .i64 ay) (.int .i64 bx) (.int .i64 b0); have p0 := P.cell 0; have p1 := P.cell 1; have p2 := P.cell 2; have p3 := P.cell 3; (simp only [List.getElem?_toArray, List.getElem?_cons_zero, List.getElem?_cons_succ] at p0 p1 p2 p3)
  go_wp2_with fail
  refine bodyPost_ret (v := Sg.v ⟨⟨ax, ay⟩, ⟨bx, b0⟩⟩) (by simp [results, Try.results41, go_sem, p0, p1, p2, p3]) rfl ?_
  exact ⟨by rw [HV.out], (((HX.out.setCell (by simp) _).setCell (by simp) _).setCell (by simp) _).setCell (by simp) _⟩
/-- The error of a segment. -/
def segE (s : Sg) : Int := if validE s.a = 0 ∧ validE s.b = 0 then (if s.a.x = s.b.x ∧ s.a.y = s.b.y then 1 else 0) else 5
theorem segE_bd (s : Sg) : 0 ≤ segE s ∧ segE s ≤ 5 := by unfold segE; split <;> (try split) <;> omega
theorem segE_ok {s : Sg} : segE s = 0 ↔ OKs s := by
 unfold segE
 constructor
 ·intro h
  split at h
  ·rename_i h1
   split at h
   ·cases h
   ·rename_i h2; exact ⟨good_of_validE h1.1, good_of_validE h1.2, fun e => h2 (by rw [e]; exact ⟨rfl, rfl⟩)⟩
  ·cases h
 ·rintro ⟨h1, h2, h3⟩
  rw [if_pos ⟨if_pos h1, if_pos h2⟩, if_neg (fun h => h3 (Pt.ext' h.1 h.2))]
set_option maxHeartbeats 1000000 in
theorem cValid_c (s : Sg) (w : World) : Calls Try.prog 16 #[s.v] w fun e w' => e = .returned (.int .i64 (segE s)) ∧ Ext w w' := by
 obtain ⟨⟨ax, ay⟩, ⟨bx, b0⟩⟩ := s
 by_cases h1 : validE ⟨ax, ay⟩ = 0
 ·by_cases h2 : validE ⟨bx, b0⟩ = 0
  ·have hv : segE ⟨⟨ax, ay⟩, ⟨bx, b0⟩⟩ = if ax = bx ∧ ay = b0 then 1 else 0 := if_pos ⟨h1, h2⟩
   have H1 := Lib.hid h1; have H2 := Lib.hid h2; clear h1 h2
   by_cases h3 : ax = bx
   ·by_cases h4 : ay = b0
    ·rw [if_pos ⟨h3, h4⟩] at hv
     have HV := Lib.hid hv; clear hv
     subst h3; subst h4
     go_enter Try.func16, Try.ntmps16
     go_wp2_with fail
     refine (pValid_c ⟨ax, ay⟩ _).mono ?_
     rw [H1.out]
     rintro e w2 ⟨rfl, hx⟩
     have B0 := (Blk.at #[.int .i64 ax, .int .i64 ay, .int .i64 ax, .int .i64 ay] 25 (w := w) rfl).ext hx
     have HX := Lib.hid (show Ext w w2 from Ext.trans (by repeat (first | exact Ext.refl _ | assumption | refine Ext.setCell ?_ (by first | (simp; done) | (simp; omega) | omega) _ | refine Ext.alloc ?_ _ | refine Ext.drew ?_ | refine Ext.trans ?_ (by assumption))) hx)
     clear hx
     have c0 := B0.cell 0; have c1 := B0.cell 1; have c2 := B0.cell 2; have c3 := B0.cell 3
     simp only [List.getElem?_toArray, List.getElem?_cons_zero, List.getElem?_cons_succ] at c0 c1 c2 c3
     go_wp2_with fail
     refine (pValid_c ⟨ax, ay⟩ _).mono ?_
     rw [H2.out]
     rintro e w3 ⟨rfl, hx⟩
     have B3 := B0.ext hx
     have HX3 := Lib.hid (HX.out.trans hx)
     clear hx c0 c1 c2 c3
     have c0 := B3.cell 0; have c1 := B3.cell 1; have c2 := B3.cell 2; have c3 := B3.cell 3
     simp only [List.getElem?_toArray, List.getElem?_cons_zero, List.getElem?_cons_succ] at c0 c1 c2 c3
     go_wp2_with fail
     go_ret
     exact ⟨by rw [HV.out]; rfl, HX3.out⟩
    ·rw [if_neg (fun h => h4 h.2)] at hv
     have HV := Lib.hid hv; clear hv
     subst h3
     have h4' : (ay == b0) = false := by rw [beq_eq_false_iff_ne]; exact h4
     go_enter Try.func16, Try.ntmps16
     go_wp2_with fail
     refine (pValid_c ⟨ax, ay⟩ _).mono ?_
     rw [H1.out]
     rintro e w2 ⟨rfl, hx⟩
     have B0 := (Blk.at #[.int .i64 ax, .int .i64 ay, .int .i64 ax, .int .i64 b0] 25 (w := w) rfl).ext hx
     have HX := Lib.hid (show Ext w w2 from Ext.trans (by repeat (first | exact Ext.refl _ | assumption | refine Ext.setCell ?_ (by first | (simp; done) | (simp; omega) | omega) _ | refine Ext.alloc ?_ _ | refine Ext.drew ?_ | refine Ext.trans ?_ (by assumption))) hx)
     clear hx
     have c0 := B0.cell 0; have c1 := B0.cell 1; have c2 := B0.cell 2; have c3 := B0.cell 3
     simp only [List.getElem?_toArray, List.getElem?_cons_zero, List.getElem?_cons_succ] at c0 c1 c2 c3
     go_wp2_with fail
     refine (pValid_c ⟨ax, b0⟩ _).mono ?_
     rw [H2.out]
     rintro e w3 ⟨rfl, hx⟩
     have B3 := B0.ext hx
     have HX3 := Lib.hid (HX.out.trans hx)
     clear hx c0 c1 c2 c3
     have c0 := B3.cell 0; have c1 := B3.cell 1; have c2 := B3.cell 2; have c3 := B3.cell 3
     simp only [List.getElem?_toArray, List.getElem?_cons_zero, List.getElem?_cons_succ] at c0 c1 c2 c3
     go_wp2_with fail
     go_ret
     exact ⟨by rw [HV.out]; rfl, HX3.out⟩
   ·rw [if_neg (fun h => h3 h.1)] at hv
    have HV := Lib.hid hv; clear hv
    have h3' : (ax == bx) = false := by rw [beq_eq_false_iff_ne]; exact h3
    go_enter Try.func16, Try.ntmps16
    go_wp2_with fail
    refine (pValid_c ⟨ax, ay⟩ _).mono ?_
    rw [H1.out]
    rintro e w2 ⟨rfl, hx⟩
    have B0 := (Blk.at #[.int .i64 ax, .int .i64 ay, .int .i64 bx, .int .i64 b0] 25 (w := w) rfl).ext hx
    have HX := Lib.hid (show Ext w w2 from Ext.trans (by repeat (first | exact Ext.refl _ | assumption | refine Ext.setCell ?_ (by first | (simp; done) | (simp; omega) | omega) _ | refine Ext.alloc ?_ _ | refine Ext.drew ?_ | refine Ext.trans ?_ (by assumption))) hx)
    clear hx
    have c0 := B0.cell 0; have c1 := B0.cell 1; have c2 := B0.cell 2; have c3 := B0.cell 3
    simp only [List.getElem?_toArray, List.getElem?_cons_zero, List.getElem?_cons_succ] at c0 c1 c2 c3
    go_wp2_with fail
    refine (pValid_c ⟨bx, b0⟩ _).mono ?_
    rw [H2.out]
    rintro e w3 ⟨rfl, hx⟩
    have B3 := B0.ext hx
    have HX3 := Lib.hid (HX.out.trans hx)
    clear hx c0 c1 c2 c3
    have c0 := B3.cell 0; have c1 := B3.cell 1; have c2 := B3.cell 2; have c3 := B3.cell 3
    simp only [List.getElem?_toArray, List.getElem?_cons_zero, List.getElem?_cons_succ] at c0 c1 c2 c3
    go_wp2_with fail
    go_ret
    exact ⟨by rw [HV.out]; rfl, HX3.out⟩
  ·have hv : segE ⟨⟨ax, ay⟩, ⟨bx, b0⟩⟩ = 5 := if_neg (fun h => h2 h.2)
   have h5 : validE ⟨bx, b0⟩ = 5 := by unfold validE at h2 ⊢; split at h2 <;> simp_all
   have H1 := Lib.hid h1; have H2 := Lib.hid h5; have HV := Lib.hid hv; clear h1 h2 h5 hv
   go_enter Try.func16, Try.ntmps16
   go_wp2_with fail
   refine (pValid_c ⟨ax, ay⟩ _).mono ?_
   rw [H1.out]
   rintro e w2 ⟨rfl, hx⟩
   have B0 := (Blk.at #[.int .i64 ax, .int .i64 ay, .int .i64 bx, .int .i64 b0] 25 (w := w) rfl).ext hx
   have HX := Lib.hid (show Ext w w2 from Ext.trans (by repeat (first | exact Ext.refl _ | assumption | refine Ext.setCell ?_ (by first | (simp; done) | (simp; omega) | omega) _ | refine Ext.alloc ?_ _ | refine Ext.drew ?_ | refine Ext.trans ?_ (by assumption))) hx)
   clear hx
   have c0 := B0.cell 0; have c1 := B0.cell 1; have c2 := B0.cell 2; have c3 := B0.cell 3
   simp only [List.getElem?_toArray, List.getElem?_cons_zero, List.getElem?_cons_succ] at c0 c1 c2 c3
   go_wp2_with fail
   refine (pValid_c ⟨bx, b0⟩ _).mono ?_
   rw [H2.out]
   rintro e w3 ⟨rfl, hx⟩
   have HX3 := Lib.hid (HX.out.trans hx)
   clear hx
   go_wp2_with fail
   go_ret
   exact ⟨by rw [HV.out]; rfl, HX3.out⟩
 ·have hv : segE ⟨⟨ax, ay⟩, ⟨bx, b0⟩⟩ = 5 := if_neg (fun h => h1 h.1)
  have h5 : validE ⟨ax, ay⟩ = 5 := by unfold validE at h1 ⊢; split at h1 <;> simp_all
  have H1 := Lib.hid h5; have HV := Lib.hid hv; clear h1 h5 hv
  go_enter Try.func16, Try.ntmps16
  go_wp2_with fail
  refine (pValid_c ⟨ax, ay⟩ _).mono ?_
  rw [H1.out]
  rintro e w2 ⟨rfl, hx⟩
  have HX := Lib.hid (show Ext w w2 from Ext.trans (by repeat (first | exact Ext.refl _ | assumption | refine Ext.setCell ?_ (by first | (simp; done) | (simp; omega) | omega) _ | refine Ext.alloc ?_ _ | refine Ext.drew ?_ | refine Ext.trans ?_ (by assumption))) hx)
  clear hx
  go_wp2_with fail
  go_ret
  exact ⟨by rw [HV.out]; rfl, HX.out⟩
set_option maxHeartbeats 2000000 in
theorem box_c (s : Sg) (w : World) : Calls Try.prog 52 #[s.v] w fun e w' => e = .returned (.agg #[.int .i64 (min s.a.x s.b.x), .int .i64 (min s.a.y s.b.y), .int .i64 (max s.a.x s.b.x), .int .i64 (max s.a.y s.b.y)]) ∧ Ext w w' := by
 obtain ⟨⟨ax, ay⟩, ⟨bx, b0⟩⟩ := s
 simp only
 go_enter Try.func52, Try.ntmps52
 go_wp2_with fail
 all_goals
  refine bodyPost_ret (v := .agg #[.int .i64 (min ax bx), .int .i64 (min ay b0), .int .i64 (max ax bx), .int .i64 (max ay b0)]) (by simp [results, Try.results52, go_sem]; omega) rfl ?_
  exact ⟨rfl, (by repeat (first | exact Ext.refl _ | assumption | refine Ext.setCell ?_ (by first | (simp; done) | (simp; omega) | omega) _ | refine Ext.alloc ?_ _ | refine Ext.drew ?_ | refine Ext.trans ?_ (by assumption)))⟩
/-- A box: the least and the greatest coordinates. -/
structure Bx where
 a : Int
 b : Int
 c : Int
 d : Int
abbrev Bx.v (s : Bx) : Value := .agg #[.int .i64 s.a, .int .i64 s.b, .int .i64 s.c, .int .i64 s.d]
theorem max_if (x y : Int) : (if x < y then y else x) = max x y := by split <;> omega
theorem min_if (x y : Int) : (if y < x then y else x) = min x y := by split <;> omega
set_option maxHeartbeats 4000000 in
theorem meets_c (s t : Bx) (w : World) : Calls Try.prog 71 #[s.v, t.v] w fun e w' => e = .returned (.bool (decide (max s.a t.a ≤ min s.c t.c ∧ max s.b t.b ≤ min s.d t.d))) ∧ Ext w w' := by
 obtain ⟨a1, b1, c1, d1⟩ := s
 obtain ⟨a2, b2, c2, d2⟩ := t
 simp only
 obtain ⟨p1, h1⟩ : ∃ p, max a1 a2 = p := ⟨_, rfl⟩
 obtain ⟨p2, h2⟩ : ∃ p, min c1 c2 = p := ⟨_, rfl⟩
 obtain ⟨p3, h3⟩ : ∃ p, max b1 b2 = p := ⟨_, rfl⟩
 obtain ⟨p4, h4⟩ : ∃ p, min d1 d2 = p := ⟨_, rfl⟩
 rw [h1, h2, h3, h4]
 rw [← max_if] at h1 h3
 rw [← min_if] at h2 h4
 by_cases k1 : p1 ≤ p2
 ·have k1' : decide (p1 ≤ p2) = true := decide_eq_true k1
  by_cases k2 : p3 ≤ p4
  ·have HV := Lib.hid (show decide (p1 ≤ p2 ∧ p3 ≤ p4) = true by simp [k1, k2])
   have k2' : decide (p3 ≤ p4) = true := decide_eq_true k2
   rw [HV.out]
   clear k1 k2
   go_enter Try.func71, Try.ntmps71
   go_wp2_with fail
   go_ret
   exact ⟨rfl, (by repeat (first | exact Ext.refl _ | assumption | refine Ext.setCell ?_ (by first | (simp; done) | (simp; omega) | omega) _ | refine Ext.alloc ?_ _ | refine Ext.drew ?_ | refine Ext.trans ?_ (by assumption)))⟩
  ·have HV := Lib.hid (show decide (p1 ≤ p2 ∧ p3 ≤ p4) = false by simp [k2])
   have k2' : decide (p3 ≤ p4) = false := decide_eq_false k2
   rw [HV.out]
   clear k1 k2
   go_enter Try.func71, Try.ntmps71
   go_wp2_with fail
   go_ret
   exact ⟨rfl, (by repeat (first | exact Ext.refl _ | assumption | refine Ext.setCell ?_ (by first | (simp; done) | (simp; omega) | omega) _ | refine Ext.alloc ?_ _ | refine Ext.drew ?_ | refine Ext.trans ?_ (by assumption)))⟩
 ·have HV := Lib.hid (show decide (p1 ≤ p2 ∧ p3 ≤ p4) = false by simp [k1])
  have k1' : decide (p1 ≤ p2) = false := decide_eq_false k1
  rw [HV.out]
  clear k1
  go_enter Try.func71, Try.ntmps71
  go_wp2_with fail
  go_ret
  exact ⟨rfl, (by repeat (first | exact Ext.refl _ | assumption | refine Ext.setCell ?_ (by first | (simp; done) | (simp; omega) | omega) _ | refine Ext.alloc ?_ _ | refine Ext.drew ?_ | refine Ext.trans ?_ (by assumption)))⟩
end Go.Proofs.Ytagiaiocgjagnaa
