/- point: within, Valid; exact: valid, SideOf. -/
import Derived.Test.YtagiaiocgjagnaaQESide
namespace Go.Proofs.Ytagiaiocgjagnaa
set_option linter.unusedSimpArgs false
set_option linter.unusedVariables false
open Go.RowKit

/-- The first error of a list. -/
def firstE (f : Pt → Int) : List Pt → Int
 | [] => 0
 | p :: l => if f p = 0 then firstE f l else f p
theorem firstE_none {f : Pt → Int} : ∀ {l : List Pt}, (∀ i, i < l.length → f (l.getD i ⟨0, 0⟩) = 0) → firstE f l = 0
 | [], _ => rfl
 | p :: l, h => by
  rw [firstE, if_pos (by simpa using h 0 (by simp))]
  exact firstE_none fun i hi => by simpa using h (i + 1) (by simpa using hi)
theorem firstE_at {f : Pt → Int} : ∀ {l : List Pt} (i : Nat), i < l.length → (∀ j, j < i → f (l.getD j ⟨0, 0⟩) = 0) → f (l.getD i ⟨0, 0⟩) ≠ 0 → firstE f l = f (l.getD i ⟨0, 0⟩)
 | [], i, hi, _, _ => by simp at hi
 | p :: l, 0, _, _, h => by simp at h ⊢; rw [firstE, if_neg h]
 | p :: l, i + 1, hi, hj, h => by
  rw [firstE, if_pos (by simpa using hj 0 (by omega))]
  have := firstE_at (f := f) (l := l) i (by simpa using hi) (fun j hji => by simpa using hj (j + 1) (by omega)) (by simpa using h)
  simpa using this

/-- A row of points from offset 0 on. -/
def Pts (w : World) (b : Nat) (l : List Pt) : Prop := ∀ i, i < l.length → w.cell? ⟨b, i * 2, none⟩ = some (.int .i64 (l.getD i ⟨0, 0⟩).x) ∧ w.cell? ⟨b, i * 2 + 1, none⟩ = some (.int .i64 (l.getD i ⟨0, 0⟩).y)
theorem Pts.ik {w w' : World} {b : Nat} {l : List Pt} (h : Pts w b l) (k : IK w w') : Pts w' b l := fun i hi => ⟨k.2 _ _ _ (h i hi).1, k.2 _ _ _ (h i hi).2⟩
theorem Pts.three {w : World} {b : Nat} {p q r : Pt} (h : At w b #[.int .i64 p.x, .int .i64 p.y, .int .i64 q.x, .int .i64 q.y, .int .i64 r.x, .int .i64 r.y]) : Pts w b [p, q, r] := fun i hi => by
 match i, hi with
 | 0, _ => exact ⟨h 0 (by simp), h 1 (by simp)⟩
 | 1, _ => exact ⟨h 2 (by simp), h 3 (by simp)⟩
 | 2, _ => exact ⟨h 4 (by simp), h 5 (by simp)⟩
 | i + 3, hi => simp at hi; omega
theorem cmpI_bd (a b : Int) : -1 ≤ cmpI a b ∧ cmpI a b ≤ 1 := by unfold cmpI; split <;> (try split) <;> omega
theorem firstE_zero {f : Pt → Int} : ∀ {l : List Pt}, firstE f l = 0 → ∀ p, p ∈ l → f p = 0
 | [], _, p, hp => by cases hp
 | q :: l, h, p, hp => by
  rw [firstE] at h
  split at h
  ·rcases List.mem_cons.1 hp with rfl | hp
   ·assumption
   ·exact firstE_zero h p hp
  ·exact absurd h (by assumption)
end Go.Proofs.Ytagiaiocgjagnaa
/- point: within, Valid; exact: valid, SideOf. -/
namespace Go.Proofs.Ytagiaiocgjagnaa
set_option linter.unusedSimpArgs false
set_option linter.unusedVariables false
open Go.RowKit

set_option maxHeartbeats 1000000 in
theorem within_c (lo x hi : Int) (w : World) : Calls Try.prog 69 #[.int .i64 lo, .int .i64 x, .int .i64 hi, .func (.func 70) #[] #[]] w fun e w' => e = .returned (.bool (decide (lo ≤ x ∧ x ≤ hi))) ∧ w = w' := by
 have hk : (x < lo ∧ cmpI lo x = 1) ∨ (lo ≤ x ∧ cmpI lo x ≤ 0 ∧ hi < x ∧ cmpI x hi = 1) ∨ (lo ≤ x ∧ cmpI lo x ≤ 0 ∧ x ≤ hi ∧ cmpI x hi ≤ 0) := by
  unfold cmpI; split <;> split <;> (try split) <;> (try split) <;> omega
 rcases hk with ⟨k1, k2⟩ | ⟨k1, k2, k3, k4⟩ | ⟨k1, k2, k3, k4⟩
 ·have K2 := Lib.hid k2; clear k2
  go_enter Try.func69, Try.ntmps69
  go_wp2_with fail
  refine (cmpInt_c _ _ _).mono ?_
  rintro e w2 ⟨rfl, rfl⟩
  rw [K2.out]
  go_wp2_with fail
  go_ret
  exact ⟨by simp; omega, rfl⟩
 ·generalize hc : cmpI lo x = c1 at k2
  have K4 := Lib.hid k4; have HC := Lib.hid hc; clear k4 hc
  go_enter Try.func69, Try.ntmps69
  go_wp2_with fail
  refine (cmpInt_c _ _ _).mono ?_
  rintro e w2 ⟨rfl, rfl⟩
  rw [HC.out]
  go_wp2_with fail
  refine (cmpInt_c _ _ _).mono ?_
  rintro e w2 ⟨rfl, rfl⟩
  rw [K4.out]
  go_wp2_with fail
  go_ret
  exact ⟨by simp; omega, rfl⟩
 ·generalize hc : cmpI lo x = c1 at k2
  generalize hc2 : cmpI x hi = c2 at k4
  have HC2 := Lib.hid hc2; have HC := Lib.hid hc; clear hc2 hc
  go_enter Try.func69, Try.ntmps69
  go_wp2_with fail
  refine (cmpInt_c _ _ _).mono ?_
  rintro e w2 ⟨rfl, rfl⟩
  rw [HC.out]
  go_wp2_with fail
  refine (cmpInt_c _ _ _).mono ?_
  rintro e w2 ⟨rfl, rfl⟩
  rw [HC2.out]
  go_wp2_with fail
  go_ret
  exact ⟨by simp; omega, rfl⟩

/-- The error of a point of the grid. -/
def validE (p : Pt) : Int := if -1073741824 ≤ p.x ∧ p.x ≤ 1073741824 ∧ -1073741824 ≤ p.y ∧ p.y ≤ 1073741824 then 0 else 5
set_option maxHeartbeats 1000000 in
theorem pValid_c (p : Pt) (w : World) : Calls Try.prog 44 #[p.v] w fun e w' => e = .returned (.int .i64 (validE p)) ∧ Ext w w' := by
 obtain ⟨x, y⟩ := p
 have i0 : ∀ w, (Instr.index 116 (.agg #[.int .i64 x, .int .i64 y]) (.int .i64 0)).run Try.prog w = .ok (.int .i64 x) w := fun _ => by kernel_rfl
 have i1 : ∀ w, (Instr.index 116 (.agg #[.int .i64 x, .int .i64 y]) (.int .i64 1)).run Try.prog w = .ok (.int .i64 y) w := fun _ => by kernel_rfl
 by_cases h1 : -1073741824 ≤ x ∧ x ≤ 1073741824
 ·by_cases h2 : -1073741824 ≤ y ∧ y ≤ 1073741824
  ·have hf : validE ⟨x, y⟩ = 0 := by rw [validE, if_pos ⟨h1.1, h1.2, h2.1, h2.2⟩]
   have d1 : decide (-1073741824 ≤ x ∧ x ≤ 1073741824) = true := by simpa using h1
   have d2 : decide (-1073741824 ≤ y ∧ y ≤ 1073741824) = true := by simpa using h2
   have HF := Lib.hid hf; have D1 := Lib.hid d1; have D2 := Lib.hid d2; clear hf d1 d2 h1 h2
   go_enter Try.func44, Try.ntmps44
   go_wp2_with fail
   refine wp_loop_rounds 3 ?_
   rw [rounds_succ]
   go_wp2_with fail
   refine (within_c _ _ _ _).mono ?_
   rintro e w2 ⟨rfl, rfl⟩
   rw [D1.out]
   go_wp2_with fail
   rw [rounds_succ]
   go_wp2_with fail
   refine (within_c _ _ _ _).mono ?_
   rintro e w2 ⟨rfl, rfl⟩
   rw [D2.out]
   go_wp2_with fail
   rw [rounds_succ]
   go_wp2_with fail
   go_ret
   exact ⟨by rw [HF.out]; rfl, (by repeat (first | exact Ext.refl _ | assumption | refine Ext.setCell ?_ (by first | (simp; done) | (simp; omega) | omega) _ | refine Ext.alloc ?_ _ | refine Ext.drew ?_ | refine Ext.trans ?_ (by assumption)))⟩
  ·have hf : validE ⟨x, y⟩ = 5 := by rw [validE, if_neg (by simp only; omega)]
   have d1 : decide (-1073741824 ≤ x ∧ x ≤ 1073741824) = true := by simpa using h1
   have d2 : decide (-1073741824 ≤ y ∧ y ≤ 1073741824) = false := by rw [decide_eq_false_iff_not]; exact h2
   have HF := Lib.hid hf; have D1 := Lib.hid d1; have D2 := Lib.hid d2; clear hf d1 d2 h1 h2
   go_enter Try.func44, Try.ntmps44
   go_wp2_with fail
   refine wp_loop_rounds 2 ?_
   rw [rounds_succ]
   go_wp2_with fail
   refine (within_c _ _ _ _).mono ?_
   rintro e w2 ⟨rfl, rfl⟩
   rw [D1.out]
   go_wp2_with fail
   rw [rounds_succ]
   go_wp2_with fail
   refine (within_c _ _ _ _).mono ?_
   rintro e w2 ⟨rfl, rfl⟩
   rw [D2.out]
   go_wp2_with fail
   go_ret
   exact ⟨by rw [HF.out]; rfl, (by repeat (first | exact Ext.refl _ | assumption | refine Ext.setCell ?_ (by first | (simp; done) | (simp; omega) | omega) _ | refine Ext.alloc ?_ _ | refine Ext.drew ?_ | refine Ext.trans ?_ (by assumption)))⟩
 ·have hf : validE ⟨x, y⟩ = 5 := by rw [validE, if_neg (by simp only; omega)]
  have d1 : decide (-1073741824 ≤ x ∧ x ≤ 1073741824) = false := by rw [decide_eq_false_iff_not]; exact h1
  have HF := Lib.hid hf; have D1 := Lib.hid d1; clear hf d1 h1
  go_enter Try.func44, Try.ntmps44
  go_wp2_with fail
  refine wp_loop_rounds 1 ?_
  rw [rounds_succ]
  go_wp2_with fail
  refine (within_c _ _ _ _).mono ?_
  rintro e w2 ⟨rfl, rfl⟩
  rw [D1.out]
  go_wp2_with fail
  go_ret
  exact ⟨by rw [HF.out]; rfl, (by repeat (first | exact Ext.refl _ | assumption | refine Ext.setCell ?_ (by first | (simp; done) | (simp; omega) | omega) _ | refine Ext.alloc ?_ _ | refine Ext.drew ?_ | refine Ext.trans ?_ (by assumption)))⟩
end Go.Proofs.Ytagiaiocgjagnaa
/- exact: valid, SideOf. -/
namespace Go.Proofs.Ytagiaiocgjagnaa
set_option linter.unusedSimpArgs false
set_option linter.unusedVariables false
open Go.RowKit

/-- A valid point. -/
def Good (p : Pt) : Prop := -1073741824 ≤ p.x ∧ p.x ≤ 1073741824 ∧ -1073741824 ≤ p.y ∧ p.y ≤ 1073741824
theorem good_of_validE {p : Pt} (h : validE p = 0) : Good p := by
 unfold validE at h; split at h
 ·assumption
 ·cases h

set_option maxHeartbeats 2000000 in
theorem evalid_c (b n c : Nat) (l : List Pt) (w : World) (hn : l.length = n) (hc : n ≤ c) (hc4 : c ≤ 1000) (h : Pts w b l) :
  Calls Try.prog 98 #[.slice (some ⟨b, 0, none⟩) n c] w fun e w' => e = .returned (.int .i64 (firstE validE l)) ∧ Ext w w' := by
 have HN := Lib.hid hn; have HP := Lib.hid h; clear hn h
 go_enter Try.func98, Try.ntmps98
 go_wp2
 go_loopw [8] (fun v wr => ∃ i : Nat, i ≤ n ∧ v = .int .i64 (i : Int) ∧ (∀ j, j < i → validE (l.getD j ⟨0, 0⟩) = 0) ∧ Ext w wr) (fun v _ => n - (intOf v).toNat)
 case atStart => exact ⟨0, by omega, rfl, fun j hj => absurd hj (by omega), Ext.refl _⟩
 case round =>
  obtain ⟨i, hi, rfl, hz, hx⟩ := hrel
  have HZ := Lib.hid hz; have HX := Lib.hid hx; clear hz hx
  by_cases hlt : i < n
  ·obtain ⟨c0, c1⟩ := HP.out.ik HX.out.ik i (by rw [HN.out]; exact hlt)
   generalize hp : l.getD i ⟨0, 0⟩ = p at c0 c1
   have HPE := Lib.hid hp; clear hp
   by_cases hv : validE p = 0
   ·have HV := Lib.hid hv; clear hv
    go_wp2_with fail
    refine (pValid_c p _).mono ?_
    rintro e w2 ⟨rfl, hx2⟩
    rw [HV.out]
    have hE : Ext w w2 := (HX.out.alloc _).trans hx2
    have HE := Lib.hid hE; clear hE hx2
    go_wp2_with fail
    go_roundw
    case rel =>
     refine ⟨i + 1, by omega, by go_num, fun j hj => ?_, HE.out⟩
     by_cases hji : j < i
     ·exact HZ.out j hji
     ·obtain rfl : j = i := by omega
      rw [HPE.out]; exact HV.out
    case measure => simp [intOf]; omega
   ·have hfin : firstE validE l = validE p := by rw [firstE_at i (by rw [HN.out]; exact hlt) HZ.out (by rw [HPE.out]; exact hv), HPE.out]
    have hv' : (validE p != 0) = true := by rw [bne_iff_ne]; exact hv
    have HF := Lib.hid hfin; clear hfin hv
    go_wp2_with fail
    refine (pValid_c p _).mono ?_
    rintro e w2 ⟨rfl, hx2⟩
    have hE : Ext w w2 := (HX.out.alloc _).trans hx2
    have HE := Lib.hid hE; clear hE hx2
    generalize validE p = v at *
    go_wp2_with fail
    go_ret
    exact ⟨by rw [HF.out]; rfl, HE.out⟩
  ·obtain rfl : i = n := by omega
   have hfin : firstE validE l = 0 := firstE_none (by rw [HN.out]; exact HZ.out)
   have HD := Lib.hid hfin; clear hfin
   go_wp2_with fail
   go_ret
   exact ⟨by rw [HD.out]; rfl, HX.out⟩

/-- The side of a point of the grid. -/
def sideF (a b c : Pt) : Int := cmpI ((b.x - a.x) * (c.y - a.y)) ((b.y - a.y) * (c.x - a.x))
def SideOfF (a b c : Pt) : Int × Int := if firstE validE [a, b, c] = 0 then (sideF a b c, 0) else (0, firstE validE [a, b, c])
theorem side_good (a b c : Pt) (w : World) (ha : Good a) (hb : Good b) (hc : Good c) : Calls Try.prog 99 #[a.v, b.v, c.v] w fun e w' => e = .returned (.int .i64 (sideF a b c)) ∧ Ext w w' := by
 obtain ⟨a1, a2, a3, a4⟩ := ha
 obtain ⟨b1, b2, b3, b4⟩ := hb
 obtain ⟨c1, c2, c3, c4⟩ := hc
 exact side_c a b c w (by omega) (by omega) (by omega) (by omega) (by omega) (by omega) (by omega) (by omega)

set_option maxHeartbeats 2000000 in
theorem SideOf_c (a b d : Pt) (w : World) : Calls Try.prog 77 #[a.v, b.v, d.v] w fun e w' => e = .returned (.tuple #[.int .i64 (SideOfF a b d).1, .int .i64 (SideOfF a b d).2]) ∧ Ext w w' := by
 go_enter Try.func77, Try.ntmps77
 go_wp2_with fail
 refine (evalid_c _ 3 3 [a, b, d] _ rfl (by omega) (by omega) (Pts.three (Blk.at _ 23 (by simp)).at')).mono ?_
 rintro e w2 ⟨rfl, hx⟩
 have hA : At w2 w.heap.size #[.int .i64 a.x, .int .i64 a.y] := (((Blk.at _ 23 rfl).alloc _).alloc _ |>.alloc _).ext hx |>.at'
 have hB : At w2 (w.heap.size + 1) #[.int .i64 b.x, .int .i64 b.y] := (((Blk.at _ 23 (by simp)).alloc _).alloc _).ext hx |>.at'
 have hD : At w2 (w.heap.size + 2) #[.int .i64 d.x, .int .i64 d.y] := ((Blk.at _ 23 (by simp)).alloc _).ext hx |>.at'
 have hE : Ext w w2 := (by repeat (first | exact Ext.refl _ | assumption | refine Ext.setCell ?_ (by first | (simp; done) | (simp; omega) | omega) _ | refine Ext.alloc ?_ _ | refine Ext.drew ?_ | refine Ext.trans ?_ (by assumption)))
 have HE := Lib.hid hE; clear hx hE
 by_cases h0 : firstE validE [a, b, d] = 0
 ·have hn : Good a ∧ Good b ∧ Good d := ⟨good_of_validE (firstE_zero h0 a (by simp)), good_of_validE (firstE_zero h0 b (by simp)), good_of_validE (firstE_zero h0 d (by simp))⟩
  have hF : SideOfF a b d = (sideF a b d, 0) := by rw [SideOfF, if_pos h0]
  have HF := Lib.hid hF; have HN := Lib.hid hn; clear hF hn
  rw [h0]
  clear h0
  go_wp2_with fail
  refine (side_good a b d _ HN.out.1 HN.out.2.1 HN.out.2.2).mono ?_
  rintro e w3 ⟨rfl, hx3⟩
  have HE3 := Lib.hid (HE.out.trans hx3); clear hx3
  go_wp2_with fail
  go_ret2
  exact ⟨by rw [HF.out]; rfl, HE3.out⟩
 ·have h1 : (firstE validE [a, b, d] != 0) = true := by rw [bne_iff_ne]; exact h0
  have hF : SideOfF a b d = (0, firstE validE [a, b, d]) := by rw [SideOfF, if_neg h0]
  have HF := Lib.hid hF; clear hF h0
  generalize firstE validE [a, b, d] = ev at *
  go_wp2_with fail
  go_ret2
  exact ⟨by rw [HF.out]; rfl, HE.out⟩
end Go.Proofs.Ytagiaiocgjagnaa
