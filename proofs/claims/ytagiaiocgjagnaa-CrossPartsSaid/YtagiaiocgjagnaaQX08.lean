/- cross: meet. -/
import Derived.Test.YtagiaiocgjagnaaQWT
import Derived.Test.YtagiaiocgjagnaaQX06
import Derived.Test.YtagiaiocgjagnaaQX07
namespace Go.Proofs.Ytagiaiocgjagnaa
set_option linter.unusedSimpArgs false
set_option linter.unusedVariables false
open Go.RowKit

theorem sideF_bd (a b c : Pt) : -1 ≤ sideF a b c ∧ sideF a b c ≤ 1 := cmpI_bd _ _
def CellsB (W : World) (B : Nat) (s t : Sg) : Prop := (W.cell? ⟨B, 0, none⟩ = some (.int .i64 s.a.x) ∧ W.cell? ⟨B, 1, none⟩ = some (.int .i64 s.a.y) ∧ W.cell? ⟨B, 2, none⟩ = some (.int .i64 s.b.x) ∧ W.cell? ⟨B, 3, none⟩ = some (.int .i64 s.b.y)) ∧ W.cell? ⟨B + 1, 0, none⟩ = some (.int .i64 t.a.x) ∧ W.cell? ⟨B + 1, 1, none⟩ = some (.int .i64 t.a.y) ∧ W.cell? ⟨B + 1, 2, none⟩ = some (.int .i64 t.b.x) ∧ W.cell? ⟨B + 1, 3, none⟩ = some (.int .i64 t.b.y)
abbrev Sg.cs (s : Sg) : Array Value := #[.int .i64 s.a.x, .int .i64 s.a.y, .int .i64 s.b.x, .int .i64 s.b.y]
theorem normF_good {s : Sg} (h : OKs s) : Good (normF s).a ∧ Good (normF s).b := by
 unfold normF; split
 ·exact ⟨h.gb, h.ga⟩
 ·exact ⟨h.ga, h.gb⟩
set_option maxRecDepth 100000 in
set_option maxHeartbeats 16000000 in
theorem meet_c (s t : Sg) (w : World) (hs : OKs s) (ht : OKs t) :
  Calls Try.prog 47 #[s.v, t.v] w fun e w' => ∃ c : CV, e = .returned c.v ∧ IsC w' c (meetF s t) ∧ Ext w w' := by
 have HO := Lib.hid (And.intro hs ht)
 clear hs ht
 obtain ⟨B, hB⟩ : ∃ B, w.heap.size = B := ⟨_, rfl⟩
 go_enter Try.func47, Try.ntmps47
 go_upto_region 1 with (fail)
 refine wp_gen (fun W => Ext w W ∧ Blk W B s.cs 25 ∧ Blk W (B + 1) t.cs 25 ∧ Blk W (B + 1 + 1) zCV.cs 47) ⟨(by repeat (first | exact Ext.refl _ | assumption | refine Ext.setCell ?_ (by first | (simp; done) | (simp; omega) | omega) _ | refine Ext.alloc ?_ _ | refine Ext.drew ?_ | refine Ext.trans ?_ (by assumption))), ((Blk.at s.cs 25 hB.symm).alloc _ |>.alloc _), ((Blk.at t.cs 25 (by simp [hB])).alloc _), Blk.at zCV.cs 47 (by simp [hB])⟩ ?_
 try rw [hB]
 rintro V ⟨E0, A0, A1, R2⟩
 have HA := Lib.hid (fun W (e : Ext V W) => (show (W.cell? ⟨B, 0, none⟩ = some (.int .i64 s.a.x) ∧ W.cell? ⟨B, 1, none⟩ = some (.int .i64 s.a.y) ∧ W.cell? ⟨B, 2, none⟩ = some (.int .i64 s.b.x) ∧ W.cell? ⟨B, 3, none⟩ = some (.int .i64 s.b.y)) ∧ W.cell? ⟨B + 1, 0, none⟩ = some (.int .i64 t.a.x) ∧ W.cell? ⟨B + 1, 1, none⟩ = some (.int .i64 t.a.y) ∧ W.cell? ⟨B + 1, 2, none⟩ = some (.int .i64 t.b.x) ∧ W.cell? ⟨B + 1, 3, none⟩ = some (.int .i64 t.b.y) from ⟨(A0.ext e).sgB, (A1.ext e).sgB⟩))
 have HK := Lib.hid (And.intro A0 A1)
 have HE := Lib.hid E0
 have HR := Lib.hid R2
 have lr := R2.lt
 clear E0 A0 A1 R2
 obtain ⟨m, hm⟩ : ∃ m, boxesF s t = m := ⟨_, rfl⟩
 have HBX := Lib.hid hm
 clear hm
 refine wp_region_held_drew (S := fun W => Ext V W) (by kernel_rfl) ((Ext.refl V).drew) (fun hHeld => ?_)
 refine tkL (i := 0) (H := HA) (h := ?_)
 refine tkL (i := 2) (H := HA) (h := ?_)
 refine ckL (i := 1) (h := fun K hK => ?_); go_simp; go_at_call 52; refine (box_c s _).mono ?_; rintro e w2 ⟨rfl, hx2⟩; go_wp2_with fail; refine shG hK (h := ?_); clear hK K; intro hHeld
 refine ckL (i := 3) (h := fun K hK => ?_); go_simp; go_at_call 52; refine (box_c t _).mono ?_; rintro e w3 ⟨rfl, hx3⟩; go_wp2_with fail; refine shG hK (h := ?_); clear hK K; intro hHeld
 refine ckL (i := 4) (h := fun K hK => ?_); go_simp; go_at_call 71; refine (meets_c ⟨min s.a.x s.b.x, min s.a.y s.b.y, max s.a.x s.b.x, max s.a.y s.b.y⟩ ⟨min t.a.x t.b.x, min t.a.y t.b.y, max t.a.x t.b.x, max t.a.y t.b.y⟩ _).mono ?_; rw [show decide (max (min s.a.x s.b.x) (min t.a.x t.b.x) ≤ min (max s.a.x s.b.x) (max t.a.x t.b.x) ∧ max (min s.a.y s.b.y) (min t.a.y t.b.y) ≤ min (max s.a.y s.b.y) (max t.a.y t.b.y)) = m from HBX.out]; rintro e w4 ⟨rfl, hx4⟩; go_wp2_with fail; refine shG hK (h := ?_); clear hK K; intro hHeld
 refine tkW (i := 5) (h := ?_)
 have HX4 := Lib.hid (show Ext V w4 by assumption)
 refine doneL (by kernel_rfl) ?_
 clear hx2 hx3 hx4 hHeld
 cases m with
 | false =>
  have HM := Lib.hid (show meetF s t = (0, zeroQ, zeroQ) from if_pos HBX.out)
  clear HBX
  have HR6 := Lib.hid (HR.out.ext HX4.out)
  obtain ⟨RB, RI, RX⟩ := row_cut (HE.out.trans HX4.out) HR6.out (by omega) zCV
  have HRI := Lib.hid (And.intro RI (And.intro RX RB))
  clear RB RI RX
  go_wp2_with (refine wpList_store_row rfl 47 _ _ rfl (B + 1 + 1) _ rfl rfl 47 _ HR6.out (by kernel_rfl) rfl (all_one _ rfl) ?_)
  refine bodyPost_ret (v := CV.v zCV) (results_cell_row Try.results47 _ _ (B + 1 + 1) 47 _ (0, 0) _ rfl HRI.out.2.2 Try.underlying47 rfl (by kernel_rfl)) rfl ?_
  exact ⟨zCV, rfl, by rw [HM.out]; exact IsC.keep ⟨rfl, zero_isPQ _, zero_isPQ _⟩ HRI.out.1, HRI.out.2.1⟩
 | true =>
  have HM0 := Lib.hid (show meetF s t = if sideF t.a t.b s.a = 0 ∧ sideF t.a t.b s.b = 0 then lineF (normF s) (normF t) else if 0 < sideF t.a t.b s.a * sideF t.a t.b s.b ∨ 0 < sideF s.a s.b t.a * sideF s.a s.b t.b then (0, zeroQ, zeroQ) else (1, crossQ s t, zeroQ) by unfold meetF; rw [if_neg (by rw [HBX.out]; decide)])
  clear HBX
  have bx := sideF_bd t.a t.b s.a
  have bY := sideF_bd t.a t.b s.b
  obtain ⟨x, hx⟩ : ∃ x, sideF t.a t.b s.a = x := ⟨_, rfl⟩
  obtain ⟨y, hy⟩ : ∃ y, sideF t.a t.b s.b = y := ⟨_, rfl⟩
  rw [hx] at bx; rw [hy] at bY
  rw [hx, hy] at HM0
  have HS := Lib.hid (And.intro hx hy)
  have hcr : ¬ (x = 0 ∧ y = 0) → ¬ 0 < x * y → crsI t.a t.b s.a ≠ crsI t.a t.b s.b := fun h1 h2 he => by
   have e1 := sideF_crs t.a t.b s.a
   have e2 := sideF_crs t.a t.b s.b
   rw [hx] at e1; rw [hy, ← he, ← e1] at e2
   have bz := cmpI_bd (crsI t.a t.b s.a) 0
   rw [← e1] at bz
   rw [e2] at h1 h2
   rcases (show x = -1 ∨ x = 0 ∨ x = 1 by omega) with h | h | h <;> subst h <;> simp at h1 h2
  have HCR := Lib.hid hcr
  clear hx hy hcr
  have HA4 := Lib.hid (fun W (e : Ext w4 W) => HA.out W (HX4.out.trans e))
  go_upto_region 3 with (fail)
  refine wp_region_held_drew (S := fun W => Ext w4 W) (by kernel_rfl) ((Ext.refl w4).drew) (fun hHeld => ?_)
  refine tkL (i := 0) (H := HA4) (h := ?_)
  refine tkW (i := 1) (h := ?_)
  refine tkL (i := 2) (H := HA4) (h := ?_)
  refine tkL (i := 4) (H := HA4) (h := ?_)
  refine tkW (i := 5) (h := ?_)
  refine tkL (i := 6) (H := HA4) (h := ?_)
  refine ckL (i := 3) (h := fun K hK => ?_); go_simp; go_at_call 53; refine (cside_c t s.a _ HO.out.2.ga HO.out.2.gb HO.out.1.ga).mono ?_; rw [HS.out.1]; rintro e w5 ⟨rfl, hx5⟩; go_wp2_with fail; refine shG hK (h := ?_); clear hK K; intro hHeld
  refine ckL (i := 7) (h := fun K hK => ?_); go_simp; go_at_call 53; refine (cside_c t s.b _ HO.out.2.ga HO.out.2.gb HO.out.1.gb).mono ?_; rw [HS.out.2]; rintro e w6 ⟨rfl, hx6⟩; go_wp2_with fail; refine shG hK (h := ?_); clear hK K; intro hHeld
  refine tkW (i := 8) (h := ?_)
  refine tkW (i := 9) (h := ?_)
  have HX6 := Lib.hid (HX4.out.trans (show Ext w4 w6 by assumption))
  refine doneL (by kernel_rfl) ?_
  clear hx5 hx6 hHeld HS
  have HA6 := Lib.hid (fun W (e : Ext w6 W) => HA.out W (HX6.out.trans e))
  clear HA4 HX4
  have wxy : IntKind.i64.wrap (x * y) = x * y := by
   rcases (show x = -1 ∨ x = 0 ∨ x = 1 by omega) with h | h | h <;> rcases (show y = -1 ∨ y = 0 ∨ y = 1 by omega) with h2 | h2 | h2 <;> subst h <;> subst h2 <;> rfl
  by_cases c0 : x = 0 ∧ y = 0
  ·have HM := Lib.hid (show meetF s t = lineF (normF s) (normF t) by rw [HM0.out, if_pos c0])
   obtain ⟨c1, c2⟩ := c0
   subst c1; subst c2
   clear HM0 HCR bx bY wxy
   go_upto_region 5 with (fail)
   refine wp_region_held_drew (S := fun W => Ext w W ∧ Blk W B s.cs 25 ∧ Blk W (B + 1) t.cs 25) (by kernel_rfl) ⟨HE.out.trans HX6.out.drew, HK.out.1.ext HX6.out.drew, HK.out.2.ext HX6.out.drew⟩ (fun hHeld => ?_)
   refine takeL (i := 0) (v := ?_) rfl (by kernel_rfl) (by kernel_rfl) (by kernel_rfl) (fun _ _ _ h => h) (Or.inl ⟨by rfl, ?_⟩) (by assumption) ?_; rotate_left; (focus (intro wq hSw; have y0 := hSw.2.1.cell 0; have y1 := hSw.2.1.cell 1; have y2 := hSw.2.1.cell 2; have y3 := hSw.2.1.cell 3; have z0 := hSw.2.2.cell 0; have z1 := hSw.2.2.cell 1; have z2 := hSw.2.2.cell 2; have z3 := hSw.2.2.cell 3; (simp only [List.getElem?_toArray, List.getElem?_cons_zero, List.getElem?_cons_succ] at y0 y1 y2 y3 z0 z1 z2 z3); clear hSw; go_simp; try with_reducible rfl)); (try simp only [Act.put, List.setIfInBounds_toArray, List.set_cons_zero, List.set_cons_succ])
   refine takeL (i := 2) (v := ?_) rfl (by kernel_rfl) (by kernel_rfl) (by kernel_rfl) (fun _ _ _ h => h) (Or.inl ⟨by rfl, ?_⟩) (by assumption) ?_; rotate_left; (focus (intro wq hSw; have y0 := hSw.2.1.cell 0; have y1 := hSw.2.1.cell 1; have y2 := hSw.2.1.cell 2; have y3 := hSw.2.1.cell 3; have z0 := hSw.2.2.cell 0; have z1 := hSw.2.2.cell 1; have z2 := hSw.2.2.cell 2; have z3 := hSw.2.2.cell 3; (simp only [List.getElem?_toArray, List.getElem?_cons_zero, List.getElem?_cons_succ] at y0 y1 y2 y3 z0 z1 z2 z3); clear hSw; go_simp; try with_reducible rfl)); (try simp only [Act.put, List.setIfInBounds_toArray, List.set_cons_zero, List.set_cons_succ])
   refine consL (i := 1) (by kernel_rfl) rfl (fun K hK => ?_); go_simp; go_at_call 41; refine (normal_seg_c s _).mono ?_; rintro e w7 ⟨rfl, hx7⟩; go_wp2_with fail; refine hK.out _ _ ?_ ?_; rotate_left; clear hK K; intro hHeld; rotate_right; (focus (exact ⟨hHeld.1.trans hx7, hHeld.2.1.ext hx7, hHeld.2.2.ext hx7⟩)); (try simp only [Act.put, List.setIfInBounds_toArray, List.set_cons_zero, List.set_cons_succ])
   refine consL (i := 3) (by kernel_rfl) rfl (fun K hK => ?_); go_simp; go_at_call 41; refine (normal_seg_c t _).mono ?_; rintro e w8 ⟨rfl, hx8⟩; go_wp2_with fail; refine hK.out _ _ ?_ ?_; rotate_left; clear hK K; intro hHeld; rotate_right; (focus (exact ⟨hHeld.1.trans hx8, hHeld.2.1.ext hx8, hHeld.2.2.ext hx8⟩)); (try simp only [Act.put, List.setIfInBounds_toArray, List.set_cons_zero, List.set_cons_succ])
   refine consL (i := 4) (by kernel_rfl) rfl (fun K hK => ?_); go_simp; go_at_call 72; refine (line_c (normF s) (normF t) _ (normF_good HO.out.1) (normF_good HO.out.2)).mono ?_; rintro e w9 ⟨c, rfl, hc, hx9⟩; go_wp2_with fail; refine hK.out _ _ ?_ ?_; rotate_left; clear hK K; intro hHeld; rotate_right; (focus (exact ⟨hHeld.1.trans hx9, hHeld.2.1.ext hx9, hHeld.2.2.ext hx9⟩)); (try simp only [Act.put, List.setIfInBounds_toArray, List.set_cons_zero, List.set_cons_succ])
   have HR6 := Lib.hid (HR.out.ext (HX6.out.trans ((((Ext.refl w6).drew.trans hx7).trans hx8).trans hx9)))
   obtain ⟨RB, RI, RX⟩ := row_cut (hHeld.1) HR6.out (by omega) c
   have HRI := Lib.hid (And.intro RI (And.intro RX (And.intro hc RB)))
   clear RB RI RX hc hx7 hx8 hx9
   refine consL (i := 5) (by kernel_rfl) rfl (fun K hK => ?_); rw [if_pos (show Region.wanted _ _ = true by rfl)]; refine wp_store_row _ _ _ rfl (B + 1 + 1) c.cs rfl rfl 47 _ HR6.out (by kernel_rfl) rfl (all_one _ rfl) ?_; refine hK.out _ _ ?_ ?_; rotate_left; clear hK K; intro hHeld; rotate_right; (focus (exact ⟨HRI.out.2.1, hHeld.2.1.setRowOther (by omega), hHeld.2.2.setRowOther (by omega)⟩)); (try simp only [Act.put, List.setIfInBounds_toArray, List.set_cons_zero, List.set_cons_succ])
   refine doneL (by kernel_rfl) ?_
   go_wp2_with fail
   refine bodyPost_ret (v := CV.v c) (results_cell_row Try.results47 _ _ (B + 1 + 1) 47 _ (0, 0) _ rfl HRI.out.2.2.2 Try.underlying47 rfl (by kernel_rfl)) rfl ?_
   exact ⟨c, rfl, by rw [HM.out]; exact HRI.out.2.2.1.keep HRI.out.1, HRI.out.2.1⟩
  ·have HM1 := Lib.hid (show meetF s t = if 0 < x * y ∨ 0 < sideF s.a s.b t.a * sideF s.a s.b t.b then (0, zeroQ, zeroQ) else (1, crossQ s t, zeroQ) by rw [HM0.out, if_neg c0])
   have hc0 : (x == 0 && y == 0) = false := by rw [Bool.and_eq_false_iff, beq_eq_false_iff_ne, beq_eq_false_iff_ne]; by_cases h : x = 0; exact .inr (fun h2 => c0 ⟨h, h2⟩); exact .inl h
   have HCR2 := Lib.hid (HCR.out c0)
   clear HM0 HCR
   obtain ⟨b1, hb1⟩ : ∃ b, (x == 0) = b := ⟨_, rfl⟩
   obtain ⟨b2, hb2⟩ : ∃ b, (y == 0) = b := ⟨_, rfl⟩
   have hk : b1 = false ∨ (b1 = true ∧ b2 = false) := by rw [hb1, hb2] at hc0; cases b1 <;> cases b2 <;> simp_all
   clear c0 hc0
   rcases hk with rfl | ⟨rfl, rfl⟩
   all_goals
    go_upto_region 6 with (fail)
    by_cases g1 : 0 < x * y
    ·have HM := Lib.hid (show meetF s t = (0, zeroQ, zeroQ) by rw [HM1.out, if_pos (.inl g1)])
     have g1' : decide (0 < x * y) = true := decide_eq_true g1
     clear HM1 HCR2
     refine wp_region_held_drew (S := fun W => Ext w6 W) (by kernel_rfl) ((Ext.refl w6).drew) (fun hHeld => ?_)
     refine tkW (i := 0) (h := ?_)
     refine tkW (i := 1) (h := ?_)
     refine tkW (i := 2) (h := ?_)
     refine tkW (i := 3) (h := ?_)
     refine tkW (i := 4) (h := ?_)
     refine tkN (i := 5) (h := ?_)
     refine tkN (i := 6) (h := ?_)
     refine tkN (i := 7) (h := ?_)
     refine tkN (i := 8) (h := ?_)
     refine tkN (i := 9) (h := ?_)
     refine tkN (i := 10) (h := ?_)
     refine tkN (i := 11) (h := ?_)
     refine tkN (i := 12) (h := ?_)
     refine tkN (i := 13) (h := ?_)
     refine tkN (i := 14) (h := ?_)
     refine tkW (i := 15) (h := ?_)
     refine doneL (by kernel_rfl) ?_
     have HR6 := Lib.hid (HR.out.ext (HX6.out.drew))
     obtain ⟨RB, RI, RX⟩ := row_cut (HE.out.trans (HX6.out.drew)) HR6.out (by omega) zCV
     have HRI := Lib.hid (And.intro RI (And.intro RX RB))
     clear RB RI RX
     go_wp2_with (refine wpList_store_row rfl 47 _ _ rfl (B + 1 + 1) _ rfl rfl 47 _ HR6.out (by kernel_rfl) rfl (all_one _ rfl) ?_)
     refine bodyPost_ret (v := CV.v zCV) (results_cell_row Try.results47 _ _ (B + 1 + 1) 47 _ (0, 0) _ rfl HRI.out.2.2 Try.underlying47 rfl (by kernel_rfl)) rfl ?_
     exact ⟨zCV, rfl, by rw [HM.out]; exact IsC.keep ⟨rfl, zero_isPQ _, zero_isPQ _⟩ HRI.out.1, HRI.out.2.1⟩
    ·have g1' : decide (0 < x * y) = false := decide_eq_false g1
     have g1n := Int.not_lt.1 g1
     have hcr := HCR2.out (by first | exact g1 | exact g1n)
     have HCR3 := Lib.hid hcr
     have bu := sideF_bd s.a s.b t.a
     have bv := sideF_bd s.a s.b t.b
     obtain ⟨u, hu⟩ : ∃ u, sideF s.a s.b t.a = u := ⟨_, rfl⟩
     obtain ⟨v, hv⟩ : ∃ v, sideF s.a s.b t.b = v := ⟨_, rfl⟩
     rw [hu] at bu; rw [hv] at bv
     rw [hu, hv] at HM1
     have HS := Lib.hid (And.intro hu hv)
     have wuv : IntKind.i64.wrap (u * v) = u * v := by
      rcases (show u = -1 ∨ u = 0 ∨ u = 1 by omega) with h | h | h <;> rcases (show v = -1 ∨ v = 0 ∨ v = 1 by omega) with h2 | h2 | h2 <;> subst h <;> subst h2 <;> rfl
     have HG1 := Lib.hid (show ¬ 0 < x * y from g1)
     clear hcr hu hv HCR2 bu bv bx bY g1 g1n
     refine wp_region_held_drew (S := fun W => Ext w6 W) (by kernel_rfl) ((Ext.refl w6).drew) (fun hHeld => ?_)
     refine tkW (i := 0) (h := ?_)
     refine tkW (i := 1) (h := ?_)
     refine tkW (i := 2) (h := ?_)
     refine tkW (i := 3) (h := ?_)
     refine tkW (i := 4) (h := ?_)
     refine tkL (i := 5) (H := HA6) (h := ?_)
     refine tkW (i := 6) (h := ?_)
     refine tkL (i := 7) (H := HA6) (h := ?_)
     refine tkL (i := 9) (H := HA6) (h := ?_)
     refine tkW (i := 10) (h := ?_)
     refine tkL (i := 11) (H := HA6) (h := ?_)
     refine ckL (i := 8) (h := fun K hK => ?_); go_simp; go_at_call 53; refine (cside_c s t.a _ HO.out.1.ga HO.out.1.gb HO.out.2.ga).mono ?_; rw [HS.out.1]; rintro e w7 ⟨rfl, hx7⟩; go_wp2_with fail; refine shG hK (h := ?_); clear hK K; intro hHeld
     refine ckL (i := 12) (h := fun K hK => ?_); go_simp; go_at_call 53; refine (cside_c s t.b _ HO.out.1.ga HO.out.1.gb HO.out.2.gb).mono ?_; rw [HS.out.2]; rintro e w8 ⟨rfl, hx8⟩; go_wp2_with fail; refine shG hK (h := ?_); clear hK K; intro hHeld
     have HX8 := Lib.hid (HX6.out.trans (show Ext w6 w8 by assumption))
     clear hx7 hx8
     by_cases g2 : 0 < u * v
     ·have HM := Lib.hid (show meetF s t = (0, zeroQ, zeroQ) by rw [HM1.out, if_pos (.inr g2)])
      have g2' : decide (0 < u * v) = true := decide_eq_true g2
      clear HM1
      refine tkW (i := 13) (h := ?_)
      refine tkW (i := 14) (h := ?_)
      refine tkW (i := 15) (h := ?_)
      refine doneL (by kernel_rfl) ?_
      clear hHeld g2
      have HR6 := Lib.hid (HR.out.ext HX8.out)
      obtain ⟨RB, RI, RX⟩ := row_cut (HE.out.trans HX8.out) HR6.out (by omega) zCV
      have HRI := Lib.hid (And.intro RI (And.intro RX RB))
      clear RB RI RX
      go_wp2_with (refine wpList_store_row rfl 47 _ _ rfl (B + 1 + 1) _ rfl rfl 47 _ HR6.out (by kernel_rfl) rfl (all_one _ rfl) ?_)
      refine bodyPost_ret (v := CV.v zCV) (results_cell_row Try.results47 _ _ (B + 1 + 1) 47 _ (0, 0) _ rfl HRI.out.2.2 Try.underlying47 rfl (by kernel_rfl)) rfl ?_
      exact ⟨zCV, rfl, by rw [HM.out]; exact IsC.keep ⟨rfl, zero_isPQ _, zero_isPQ _⟩ HRI.out.1, HRI.out.2.1⟩
     ·have HM := Lib.hid (show meetF s t = (1, crossQ s t, zeroQ) by rw [HM1.out, if_neg (by have := HG1.out; omega)])
      have g2' : decide (0 < u * v) = false := decide_eq_false g2
      clear HM1
      refine tkW (i := 13) (h := ?_)
      refine tkW (i := 14) (h := ?_)
      refine tkW (i := 15) (h := ?_)
      refine doneL (by kernel_rfl) ?_
      clear hHeld g2
      obtain ⟨⟨x0, x1, x2, x3⟩, y0, y1, y2, y3⟩ := HA.out w8 HX8.out
      go_wp2_with fail
      refine (crossing_q s t _ HO.out.1 HO.out.2 HCR3.out).mono ?_
      rintro e w9 ⟨p, rfl, hp, hx9⟩
      have HX9 := Lib.hid (HX8.out.trans hx9)
      have HP := Lib.hid hp
      clear hp hx9 x0 x1 x2 x3 y0 y1 y2 y3
      have HR6 := Lib.hid (HR.out.ext HX9.out)
      obtain ⟨RB, RI, RX⟩ := row_cut (HE.out.trans HX9.out) HR6.out (by omega) ⟨1, p, zPV⟩
      have HRI := Lib.hid (And.intro RI (And.intro RX RB))
      clear RB RI RX
      go_wp2_with (refine wpList_store_row rfl 47 _ _ rfl (B + 1 + 1) _ rfl rfl 47 _ HR6.out (by kernel_rfl) rfl (all_one _ rfl) ?_)
      refine bodyPost_ret (v := CV.v ⟨1, p, zPV⟩) (results_cell_row Try.results47 _ _ (B + 1 + 1) 47 _ (0, 0) _ rfl HRI.out.2.2 Try.underlying47 rfl (by kernel_rfl)) rfl ?_
      exact ⟨⟨1, p, zPV⟩, rfl, by rw [HM.out]; exact IsC.keep ⟨rfl, HP.out, zero_isPQ _⟩ HRI.out.1, HRI.out.2.1⟩
end Go.Proofs.Ytagiaiocgjagnaa
