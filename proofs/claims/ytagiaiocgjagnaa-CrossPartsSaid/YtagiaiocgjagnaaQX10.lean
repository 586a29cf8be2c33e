/- cross: valid, Meet. -/
import Derived.Test.YtagiaiocgjagnaaQX08
import Derived.Test.YtagiaiocgjagnaaQX09
import Derived.Laws.ResultCell
namespace Go.Proofs.Ytagiaiocgjagnaa
set_option linter.unusedSimpArgs false
set_option linter.unusedVariables false
open Go.RowKit

/-- The first error of segments. -/
def firstS : List Sg → Int
 | [] => 0
 | s :: l => if segE s = 0 then firstS l else segE s
abbrev zSg : Sg := ⟨⟨0, 0⟩, ⟨0, 0⟩⟩
theorem firstS_none : ∀ {l : List Sg}, (∀ i, i < l.length → segE (l.getD i zSg) = 0) → firstS l = 0
 | [], _ => rfl
 | p :: l, h => by
  rw [firstS, if_pos (by simpa using h 0 (by simp))]
  exact firstS_none fun i hi => by simpa using h (i + 1) (by simpa using hi)
theorem firstS_at : ∀ {l : List Sg} (i : Nat), i < l.length → (∀ j, j < i → segE (l.getD j zSg) = 0) → segE (l.getD i zSg) ≠ 0 → firstS l = segE (l.getD i zSg)
 | [], i, hi, _, _ => by simp at hi
 | p :: l, 0, _, _, h => by simp at h ⊢; rw [firstS, if_neg h]
 | p :: l, i + 1, hi, hj, h => by
  rw [firstS, if_pos (by simpa using hj 0 (by omega))]
  have := firstS_at (l := l) i (by simpa using hi) (fun j hji => by simpa using hj (j + 1) (by omega)) (by simpa using h)
  simpa using this
theorem firstS_zero : ∀ {l : List Sg}, firstS l = 0 → ∀ p, p ∈ l → segE p = 0
 | [], _, p, hp => by cases hp
 | q :: l, h, p, hp => by
  rw [firstS] at h
  split at h
  ·rcases List.mem_cons.1 hp with rfl | hp
   ·assumption
   ·exact firstS_zero h p hp
  ·exact absurd h (by assumption)
theorem firstS_bd : ∀ l, 0 ≤ firstS l ∧ firstS l ≤ 5
 | [] => by simp [firstS]
 | p :: l => by rw [firstS]; split; exact firstS_bd l; exact segE_bd p
/-- A row of segments from offset 0 on. -/
def Sgs (w : World) (b : Nat) (l : List Sg) : Prop := ∀ i, i < l.length → w.cell? ⟨b, i * 4, none⟩ = some (.int .i64 (l.getD i zSg).a.x) ∧ w.cell? ⟨b, i * 4 + 1, none⟩ = some (.int .i64 (l.getD i zSg).a.y) ∧ w.cell? ⟨b, i * 4 + 2, none⟩ = some (.int .i64 (l.getD i zSg).b.x) ∧ w.cell? ⟨b, i * 4 + 3, none⟩ = some (.int .i64 (l.getD i zSg).b.y)
theorem Sgs.ik {w w' : World} {b : Nat} {l : List Sg} (h : Sgs w b l) (k : IK w w') : Sgs w' b l := fun i hi => ⟨k.2 _ _ _ (h i hi).1, k.2 _ _ _ (h i hi).2.1, k.2 _ _ _ (h i hi).2.2.1, k.2 _ _ _ (h i hi).2.2.2⟩
theorem Sgs.two {w : World} {b : Nat} {p q : Sg} (h : At w b #[.int .i64 p.a.x, .int .i64 p.a.y, .int .i64 p.b.x, .int .i64 p.b.y, .int .i64 q.a.x, .int .i64 q.a.y, .int .i64 q.b.x, .int .i64 q.b.y]) : Sgs w b [p, q] := fun i hi => by
 match i, hi with
 | 0, _ => exact ⟨h 0 (by simp), h 1 (by simp), h 2 (by simp), h 3 (by simp)⟩
 | 1, _ => exact ⟨h 4 (by simp), h 5 (by simp), h 6 (by simp), h 7 (by simp)⟩
 | i + 2, hi => simp at hi; omega
set_option maxHeartbeats 2000000 in
theorem cvalid_c (b n c : Nat) (l : List Sg) (w : World) (hn : l.length = n) (hc : n ≤ c) (hc4 : c ≤ 100000) (h : Sgs w b l) :
  Calls Try.prog 46 #[.slice (some ⟨b, 0, none⟩) n c] w fun e w' => e = .returned (.int .i64 (firstS l)) ∧ Ext w w' := by
 have HN := Lib.hid hn; have HP := Lib.hid h; clear hn h
 go_enter Try.func46, Try.ntmps46
 go_wp2
 go_loopw [8] (fun v wr => ∃ i : Nat, i ≤ n ∧ v = .int .i64 (i : Int) ∧ (∀ j, j < i → segE (l.getD j zSg) = 0) ∧ Ext w wr) (fun v _ => n - (intOf v).toNat)
 case atStart => exact ⟨0, by omega, rfl, fun j hj => absurd hj (by omega), Ext.refl _⟩
 case round =>
  obtain ⟨i, hi, rfl, hz, hx⟩ := hrel
  have HZ := Lib.hid hz; have HX := Lib.hid hx; clear hz hx
  by_cases hlt : i < n
  ·obtain ⟨c0, c1, c2, c3⟩ := HP.out.ik HX.out.ik i (by rw [HN.out]; exact hlt)
   generalize hp : l.getD i zSg = p at c0 c1 c2 c3
   have HPE := Lib.hid hp; clear hp
   by_cases hv : segE p = 0
   ·have HV := Lib.hid hv; clear hv
    go_wp2_with fail
    refine (cValid_c p _).mono ?_
    rintro e w2 ⟨rfl, hx2⟩
    rw [HV.out]
    have hE : Ext w w2 := (HX.out.alloc _).trans hx2
    have HE := Lib.hid hE; clear hE hx2
    go_wp2_with fail
    go_roundw
    case rel =>
     refine ⟨i + 1, by omega, by go_num, fun j hj => ?_, HE.out⟩
     by_cases hji : j < i
     ·exact HZ.out j hji
     ·obtain rfl : j = i := by omega
      rw [HPE.out]; exact HV.out
    case measure => simp [intOf]; omega
   ·have hfin : firstS l = segE p := by rw [firstS_at i (by rw [HN.out]; exact hlt) HZ.out (by rw [HPE.out]; exact hv), HPE.out]
    have hv' : (segE p != 0) = true := by rw [bne_iff_ne]; exact hv
    have HF := Lib.hid hfin; clear hfin hv
    go_wp2_with fail
    refine (cValid_c p _).mono ?_
    rintro e w2 ⟨rfl, hx2⟩
    have hE : Ext w w2 := (HX.out.alloc _).trans hx2
    have HE := Lib.hid hE; clear hE hx2
    generalize segE p = v at *
    go_wp2_with fail
    go_ret
    exact ⟨by rw [HF.out]; rfl, HE.out⟩
  ·obtain rfl : i = n := by omega
   have hfin : firstS l = 0 := firstS_none (by rw [HN.out]; exact HZ.out)
   have HD := Lib.hid hfin; clear hfin
   go_wp2_with fail
   go_ret
   exact ⟨by rw [HD.out]; rfl, HX.out⟩
theorem results_two {P : Program} {fn : Func} {p u : Tmp} {ty : TypeId} (h : fn.results = #[.cell p ty, .tmp u]) (tmps : Array Value) (w : World) (g : Nat) (t : TypeId) (cs : Array Value) (fr : Nat × Nat) (d : TypeDesc)
  (hp : tmps.getD p undef = .pointer (some ⟨g, 0, none⟩)) (hg : w.heap[g]? = some (.cells cs t fr))
  (hu : P.underlying ty = some d) (hd : (match d with | .struct _ | .array _ _ => true | _ => false) = true) (hi : (P.info? ty).map (·.size) = some cs.size) :
  (results fn tmps).run P w = .ok (.tuple #[.agg cs, tmps.getD u undef]) w := by
 rw [results_cell_tmp h, hp]
 simp [asAddr, run_loadVar_row w g t ty cs fr d hg hu hd hi]
/-- What Meet returns. -/
def meetR (s t : Sg) : (Int × QP × QP) × Int := if firstS [s, t] = 0 then (meetF s t, 0) else ((0, zeroQ, zeroQ), firstS [s, t])
theorem meetR_ok {s t : Sg} (hs : OKs s) (ht : OKs t) : meetR s t = (meetF s t, 0) := by
 unfold meetR
 rw [if_pos]
 simp only [firstS]
 rw [if_pos (segE_ok.2 hs), if_pos (segE_ok.2 ht)]
set_option maxRecDepth 100000 in
set_option maxHeartbeats 4000000 in
theorem cMeet_c (s t : Sg) (w : World) : Calls Try.prog 18 #[s.v, t.v] w fun e w' => ∃ c : CV, e = .returned (.tuple #[c.v, .int .i64 (meetR s t).2]) ∧ IsC w' c (meetR s t).1 ∧ Ext w w' := by
 obtain ⟨B, hB⟩ : ∃ B, w.heap.size = B := ⟨_, rfl⟩
 have hfb := firstS_bd [s, t]
 have HBD := Lib.hid hfb
 obtain ⟨v, hv⟩ : ∃ v, firstS [s, t] = v := ⟨_, rfl⟩
 have HV := Lib.hid hv
 have HM := Lib.hid (show meetR s t = if v = 0 then (meetF s t, 0) else ((0, zeroQ, zeroQ), v) by unfold meetR; rw [hv])
 clear hv hfb
 by_cases h0 : v = 0
 ·subst h0
  have HW := Lib.hid (show meetR s t = (meetF s t, 0) by rw [HM.out, if_pos rfl])
  rw [HW.out]
  go_enter Try.func18, Try.ntmps18
  go_wp2_with fail
  refine (cvalid_c _ 2 2 [s, t] _ rfl (by omega) (by omega) (Sgs.two (Blk.at _ 25 (by simp [hB])).at')).mono ?_
  rw [HV.out]
  rintro e w2 ⟨rfl, hx⟩
  have B0 := ((((Blk.at s.cs 25 hB.symm).alloc (.cells t.cs 25)).alloc (.cells zCV.cs 47)).alloc (.cells #[.int .i64 s.a.x, .int .i64 s.a.y, .int .i64 s.b.x, .int .i64 s.b.y, .int .i64 t.a.x, .int .i64 t.a.y, .int .i64 t.b.x, .int .i64 t.b.y] 25)).ext hx |>.sgB (s := s)
  have B1 := (((Blk.at (b := B + 1) t.cs 25 (w := w.alloc (.cells s.cs 25)) (by simp [hB])).alloc (.cells zCV.cs 47)).alloc (.cells #[.int .i64 s.a.x, .int .i64 s.a.y, .int .i64 s.b.x, .int .i64 s.b.y, .int .i64 t.a.x, .int .i64 t.a.y, .int .i64 t.b.x, .int .i64 t.b.y] 25)).ext hx |>.sgB (s := t)
  have R2 := ((Blk.at (b := B + 1 + 1) zCV.cs 47 (w := (w.alloc (.cells s.cs 25)).alloc (.cells t.cs 25)) (by simp [hB])).alloc (.cells #[.int .i64 s.a.x, .int .i64 s.a.y, .int .i64 s.b.x, .int .i64 s.b.y, .int .i64 t.a.x, .int .i64 t.a.y, .int .i64 t.b.x, .int .i64 t.b.y] 25)).ext hx
  have HE := Lib.hid (show Ext w w2 from Ext.trans (by repeat (first | exact Ext.refl _ | assumption | refine Ext.setCell ?_ (by first | (simp; done) | (simp; omega) | omega) _ | refine Ext.alloc ?_ _ | refine Ext.drew ?_ | refine Ext.trans ?_ (by assumption))) hx)
  have HR := Lib.hid R2
  clear hx R2
  have hs := segE_ok.1 (firstS_zero HV.out s (by simp))
  have ht := segE_ok.1 (firstS_zero HV.out t (by simp))
  obtain ⟨x0, x1, x2, x3⟩ := B0
  obtain ⟨y0, y1, y2, y3⟩ := B1
  have HO := Lib.hid (And.intro hs ht)
  clear hs ht HM
  go_wp2_with fail
  refine (meet_c s t _ HO.out.1 HO.out.2).mono ?_
  rintro e w3 ⟨c, rfl, hc, hx3⟩
  have HR6 := Lib.hid (HR.out.ext hx3)
  obtain ⟨RB, RI, RX⟩ := row_cut (HE.out.trans hx3) HR6.out (by omega) c
  have HRI := Lib.hid (And.intro RI (And.intro RX (And.intro hc RB)))
  clear RB RI RX hc hx3 x0 x1 x2 x3 y0 y1 y2 y3
  go_wp2_with (refine wpList_store_row rfl 47 _ _ rfl (B + 1 + 1) _ rfl rfl 47 _ HR6.out (by kernel_rfl) rfl (all_one _ rfl) ?_)
  refine bodyPost_ret (v := .tuple #[c.v, .int .i64 0]) (results_two Try.results18 _ _ (B + 1 + 1) 47 _ (0, 0) _ rfl HRI.out.2.2.2 Try.underlying47 rfl (by kernel_rfl)) rfl ?_
  exact ⟨c, rfl, HRI.out.2.2.1.keep HRI.out.1, HRI.out.2.1⟩
 ·have HW := Lib.hid (show meetR s t = ((0, zeroQ, zeroQ), v) by rw [HM.out, if_neg h0])
  rw [HW.out]
  go_enter Try.func18, Try.ntmps18
  go_wp2_with fail
  refine (cvalid_c _ 2 2 [s, t] _ rfl (by omega) (by omega) (Sgs.two (Blk.at _ 25 (by simp [hB])).at')).mono ?_
  rw [HV.out]
  rintro e w2 ⟨rfl, hx⟩
  have B0 := ((((Blk.at s.cs 25 hB.symm).alloc (.cells t.cs 25)).alloc (.cells zCV.cs 47)).alloc (.cells #[.int .i64 s.a.x, .int .i64 s.a.y, .int .i64 s.b.x, .int .i64 s.b.y, .int .i64 t.a.x, .int .i64 t.a.y, .int .i64 t.b.x, .int .i64 t.b.y] 25)).ext hx |>.sgB (s := s)
  have B1 := (((Blk.at (b := B + 1) t.cs 25 (w := w.alloc (.cells s.cs 25)) (by simp [hB])).alloc (.cells zCV.cs 47)).alloc (.cells #[.int .i64 s.a.x, .int .i64 s.a.y, .int .i64 s.b.x, .int .i64 s.b.y, .int .i64 t.a.x, .int .i64 t.a.y, .int .i64 t.b.x, .int .i64 t.b.y] 25)).ext hx |>.sgB (s := t)
  have R2 := ((Blk.at (b := B + 1 + 1) zCV.cs 47 (w := (w.alloc (.cells s.cs 25)).alloc (.cells t.cs 25)) (by simp [hB])).alloc (.cells #[.int .i64 s.a.x, .int .i64 s.a.y, .int .i64 s.b.x, .int .i64 s.b.y, .int .i64 t.a.x, .int .i64 t.a.y, .int .i64 t.b.x, .int .i64 t.b.y] 25)).ext hx
  have HE := Lib.hid (show Ext w w2 from Ext.trans (by repeat (first | exact Ext.refl _ | assumption | refine Ext.setCell ?_ (by first | (simp; done) | (simp; omega) | omega) _ | refine Ext.alloc ?_ _ | refine Ext.drew ?_ | refine Ext.trans ?_ (by assumption))) hx)
  have HR := Lib.hid R2
  clear hx R2
  have h0' : (v != 0) = true := by rw [bne_iff_ne]; exact h0
  clear h0 HM B0 B1
  obtain ⟨RB, RI, RX⟩ := row_cut HE.out HR.out (by omega) zCV
  have HRI := Lib.hid (And.intro RI (And.intro RX RB))
  clear RB RI RX
  go_wp2_with (refine wpList_store_row rfl 47 _ _ rfl (B + 1 + 1) _ rfl rfl 47 _ HR.out (by kernel_rfl) rfl (all_one _ rfl) ?_)
  refine bodyPost_ret (v := .tuple #[zCV.v, .int .i64 v]) (results_two Try.results18 _ _ (B + 1 + 1) 47 _ (0, 0) _ rfl HRI.out.2.2 Try.underlying47 rfl (by kernel_rfl)) rfl ?_
  exact ⟨zCV, rfl, IsC.keep ⟨rfl, zero_isPQ _, zero_isPQ _⟩ HRI.out.1, HRI.out.2.1⟩
/-- The numbers of what Meet names are not great. -/
structure SmP (p : QP) : Prop where
 x : SmB QB p.x
 y : SmB QB p.y
end Go.Proofs.Ytagiaiocgjagnaa
