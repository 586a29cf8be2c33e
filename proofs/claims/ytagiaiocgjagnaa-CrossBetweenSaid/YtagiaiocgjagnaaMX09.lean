/- cross: on, On. -/
import Derived.Test.YtagiaiocgjagnaaWT
import Derived.Test.YtagiaiocgjagnaaMX04
namespace Go.Proofs.Ytagiaiocgjagnaa
set_option linter.unusedSimpArgs false
set_option linter.unusedVariables false
open Go.RowKit

theorem IsQ.isR2 {w : World} {f : FV} {q : Rat} (h : IsQ w f q) (hs : SmB QB q) : ∃ N D : Int, IsR w f N D 129 ∧ q * (D : Rat) = (N : Rat) := h.isR hs QB_lt
/-- The side of three points, the first two of the grid. -/
theorem side_q (A B C : PV) (a b : Pt) (p : QP) (w : World) (hA : IsPQ w A a.q) (hB : IsPQ w B b.q) (hC : IsPQ w C p) (ga : Good a) (gb : Good b) (sx : SmB QB p.x) (sy : SmB QB p.y) :
    Calls Try.prog 40 #[A.v, B.v, C.v] w fun e w' => e = .returned (.tuple #[.int .i64 (cmpQ (crs a.q b.q p) 0), .int .i64 0]) ∧ Ext w w' := by
  obtain ⟨a1, a2, a3, a4⟩ := ga
  obtain ⟨b1, b2, b3, b4⟩ := gb
  have one : ∀ {f : FV} {n : Int}, IsQ w f (n : Rat) → n.natAbs ≤ 1073741824 → IsR w f n 1 129 := fun {f n} h hn => by
    obtain ⟨N, D, h1, h2⟩ := h.isR2 (smb_int (n := n) (by omega))
    refine h1.eq ?_ (by omega)
    have := icast_eq.1 (show ((n * D : Int) : Rat) = ((N : Int) : Rat) by rw [Rat.intCast_mul]; exact h2)
    omega
  obtain ⟨X, D, x1, x2⟩ := hC.x.isR2 sx
  obtain ⟨Y, E, y1, y2⟩ := hC.y.isR2 sy
  have dp := x1.pos
  have ep := y1.pos
  have de := pos_mul dp ep
  have ha : IsPt w A a.x 1 a.y 1 129 := ⟨one hA.x (by omega), one hA.y (by omega)⟩
  have hb : IsPt w B b.x 1 b.y 1 129 := ⟨one hB.x (by omega), one hB.y (by omega)⟩
  have hc : IsPt w C (X * E) (D * E) (Y * D) (D * E) 129 := ⟨x1.eq (by grind) de, y1.eq (by grind) de⟩
  refine (Side_c A B C a.x a.y 1 b.x b.y 1 (X * E) (Y * D) (D * E) 129 w ha hb hc (by omega)).mono ?_
  have key : cmpI (areaF a.x a.y 1 b.x b.y 1 (X * E) (Y * D) (D * E)) 0 = cmpQ (crs a.q b.q p) 0 := by
    have h := cmpI_cmpQ (a := areaF a.x a.y 1 b.x b.y 1 (X * E) (Y * D) (D * E)) (b := 0) (d := D * E) (e := 1) de (by omega) (p := crs a.q b.q p) (q := 0) (by
      unfold areaF crs
      simp only [Rat.intCast_sub, Rat.intCast_mul, ← x2, ← y2]
      grind) (by grind)
    rw [Int.mul_one, Int.zero_mul] at h
    exact h
  rw [key]
  exact fun e w' h => h
/-- The box of a segment. -/
abbrev Sg.bx (s : Sg) : Bx := ⟨min s.a.x s.b.x, min s.a.y s.b.y, max s.a.x s.b.x, max s.a.y s.b.y⟩
/-- Whether a point lies on a segment. -/
def onB (s : Sg) (p : QP) : Bool := inB s.bx p && (cmpQ (crs s.a.q s.b.q p) 0 == 0)
theorem btw_box {a b : Int} {x : Rat} : (((min a b : Int) : Rat) ≤ x ∧ x ≤ ((max a b : Int) : Rat)) ↔ BtwQ (a : Rat) x (b : Rat) := by
  unfold BtwQ
  rcases Int.le_total a b with h | h
  · rw [Int.min_eq_left h, Int.max_eq_right h]
    constructor
    · intro h1; exact .inl h1
    · rintro (h1 | h1)
      · exact h1
      · have := icast_le.2 h
        exact ⟨by grind, by grind⟩
  · rw [Int.min_eq_right h, Int.max_eq_left h]
    constructor
    · intro h1; exact .inr h1
    · rintro (h1 | h1)
      · have := icast_le.2 h
        exact ⟨by grind, by grind⟩
      · exact h1
theorem onB_on {s : Sg} {p : QP} : onB s p = true ↔ OnQ s.q p := by
  unfold onB inB OnQ
  rw [Bool.and_eq_true, Bool.and_eq_true, decide_eq_true_iff, decide_eq_true_iff, beq_iff_eq, cmpQ_zero, btw_box, btw_box]
  exact And.comm
theorem bx_ok {s : Sg} (h : OKs s) : s.bx.ok := by
  obtain ⟨⟨a1, a2, a3, a4⟩, ⟨b1, b2, b3, b4⟩, _⟩ := h
  unfold Bx.ok Sg.bx
  simp only
  omega
set_option maxRecDepth 100000 in
set_option maxHeartbeats 8000000 in
theorem con_c (s : Sg) (a : PV) (p : QP) (w : World) (hs : OKs s) (ha : IsPQ w a p) (sx : SmB QB p.x) (sy : SmB QB p.y) :
    Calls Try.prog 42 #[s.v, a.v] w fun e w' => e = .returned (.bool (onB s p)) ∧ Ext w w' := by
  have HO := Lib.hid (And.intro hs (And.intro ha (And.intro sx sy)))
  have HK := Lib.hid (bx_ok hs)
  clear hs ha sx sy
  obtain ⟨m, hm⟩ : ∃ m, inB s.bx p = m := ⟨_, rfl⟩
  obtain ⟨z, hz⟩ : ∃ z, cmpQ (crs s.a.q s.b.q p) 0 = z := ⟨_, rfl⟩
  have HV := Lib.hid (show onB s p = (m && (z == 0)) by unfold onB; rw [hm, hz])
  rw [HV.out]
  have HS := Lib.hid (And.intro hm hz)
  have HI := Lib.hid (show (((-9223372036854775808 ≤ s.a.x ∧ s.a.x ≤ 9223372036854775807) ∧ -9223372036854775808 ≤ s.a.y ∧ s.a.y ≤ 9223372036854775807) ∧ (-9223372036854775808 ≤ s.b.x ∧ s.b.x ≤ 9223372036854775807) ∧ -9223372036854775808 ≤ s.b.y ∧ s.b.y ≤ 9223372036854775807) by
    obtain ⟨⟨a1, a2, a3, a4⟩, ⟨b1, b2, b3, b4⟩, _⟩ := HO.out.1
    omega)
  clear hm hz HV
  obtain ⟨B, hB⟩ : ∃ B, w.heap.size = B := ⟨_, rfl⟩
  go_enter Try.func42, Try.ntmps42
  go_upto_region 1 with (fail)
  refine wp_gen (fun W => Ext w W ∧ SgB W B s ∧ PtB W (B + 1) a) ⟨(by repeat (first | exact Ext.refl _ | assumption | refine Ext.setCell ?_ (by first | (simp; done) | (simp; omega) | omega) _ | refine Ext.alloc ?_ _ | refine Ext.drew ?_ | refine Ext.trans ?_ (by assumption))), ((Blk.at _ 25 hB.symm).alloc _).sgB, (Blk.at a.cs 43 (by simp [hB])).at'.ptB⟩ ?_
  try rw [hB]
  rintro V ⟨E0, A0, A1⟩
  have HE := Lib.hid E0
  have HA := Lib.hid (fun W (e : Ext V W) => (show (W.cell? ⟨B, 0, none⟩ = some (.int .i64 s.a.x) ∧ W.cell? ⟨B, 1, none⟩ = some (.int .i64 s.a.y) ∧ W.cell? ⟨B, 2, none⟩ = some (.int .i64 s.b.x) ∧ W.cell? ⟨B, 3, none⟩ = some (.int .i64 s.b.y)) from A0.ext e))
  have HB := Lib.hid (fun W (e : Ext V W) => A1.ext e)
  clear E0 A0 A1
  refine wp_region_held_drew (S := fun W => Ext V W) (by kernel_rfl) ((Ext.refl V).drew) (fun hHeld => ?_)
  refine takeL (i := 0) (v := ?_) rfl (by kernel_rfl) (by kernel_rfl) (by kernel_rfl) (fun _ _ _ h => h) (Or.inl ⟨by rfl, ?_⟩) (by assumption) ?_; rotate_left; (focus (intro wq hSw; have hcc := HA.out wq hSw; clear hSw; (try unfold PtB at hcc); go_split_ands; go_simp; try with_reducible rfl)); (try simp only [Act.put, List.setIfInBounds_toArray, List.set_cons_zero, List.set_cons_succ])
  refine takeL (i := 2) (v := ?_) rfl (by kernel_rfl) (by kernel_rfl) (by kernel_rfl) (fun _ _ _ h => h) (Or.inl ⟨by rfl, ?_⟩) (by assumption) ?_; rotate_left; (focus (intro wq hSw; have hcc := HB.out wq hSw; clear hSw; (try unfold PtB at hcc); go_split_ands; go_simp; try with_reducible rfl)); (try simp only [Act.put, List.setIfInBounds_toArray, List.set_cons_zero, List.set_cons_succ])
  refine ckL (i := 1) (h := fun K hK => ?_); go_simp; go_at_call 52; refine (box_c s _).mono ?_; rintro e w2 ⟨rfl, hx2⟩; go_wp2_with fail; refine shG hK (h := ?_); clear hK K; intro hHeld
  refine ckL (i := 3) (h := fun K hK => ?_); go_simp; go_at_call 51; refine (pIn_c s.bx a p _ HK.out (HO.out.2.1.keep (HE.out.trans (by assumption)).ik)).mono ?_; rw [HS.out.1]; rintro e w3 ⟨rfl, hx3⟩; go_wp2_with fail; refine shG hK (h := ?_); clear hK K; intro hHeld
  refine tkW (i := 4) (h := ?_)
  have HX3 := Lib.hid (show Ext V w3 by assumption)
  refine doneL (by kernel_rfl) ?_
  clear hx2 hx3 hHeld
  cases m with
  | false =>
    go_wp2_with fail
    go_ret
    exact ⟨rfl, HE.out.trans HX3.out⟩
  | true =>
    have HA3 := Lib.hid (fun W (e : Ext w3 W) => HA.out W (HX3.out.trans e))
    have HB3 := Lib.hid (fun W (e : Ext w3 W) => HB.out W (HX3.out.trans e))
    go_upto_region 3 with (fail)
    refine wp_region_held_drew (S := fun W => Ext w3 W) (by kernel_rfl) ((Ext.refl w3).drew) (fun hHeld => ?_)
    refine tkW (i := 0) (h := ?_)
    refine takeL (i := 1) (v := ?_) rfl (by kernel_rfl) (by kernel_rfl) (by kernel_rfl) (fun _ _ _ h => h) (Or.inl ⟨by rfl, ?_⟩) (by assumption) ?_; rotate_left; (focus (intro wq hSw; have hcc := HA3.out wq hSw; clear hSw; (try unfold PtB at hcc); go_split_ands; go_simp; try with_reducible rfl)); (try simp only [Act.put, List.setIfInBounds_toArray, List.set_cons_zero, List.set_cons_succ])
    refine tkW (i := 3) (h := ?_)
    refine takeL (i := 4) (v := ?_) rfl (by kernel_rfl) (by kernel_rfl) (by kernel_rfl) (fun _ _ _ h => h) (Or.inl ⟨by rfl, ?_⟩) (by assumption) ?_; rotate_left; (focus (intro wq hSw; have hcc := HA3.out wq hSw; clear hSw; (try unfold PtB at hcc); go_split_ands; go_simp; try with_reducible rfl)); (try simp only [Act.put, List.setIfInBounds_toArray, List.set_cons_zero, List.set_cons_succ])
    refine takeL (i := 6) (v := ?_) rfl (by kernel_rfl) (by kernel_rfl) (by kernel_rfl) (fun _ _ _ h => h) (Or.inl ⟨by rfl, ?_⟩) (by assumption) ?_; rotate_left; (focus (intro wq hSw; have hcc := HB3.out wq hSw; clear hSw; (try unfold PtB at hcc); go_split_ands; go_simp; try with_reducible rfl)); (try simp only [Act.put, List.setIfInBounds_toArray, List.set_cons_zero, List.set_cons_succ])
    refine ckL (i := 2) (h := fun K hK => ?_); go_simp; go_at_call 15; refine (pOf_q s.a _ HI.out.1.1.1 HI.out.1.1.2 HI.out.1.2.1 HI.out.1.2.2).mono ?_; rintro e w5 ⟨f, rfl, hf, hx5⟩; go_wp2_with fail; refine shG hK (h := ?_); clear hK K; intro hHeld
    refine ckL (i := 5) (h := fun K hK => ?_); go_simp; go_at_call 15; refine (pOf_q s.b _ HI.out.2.1.1 HI.out.2.1.2 HI.out.2.2.1 HI.out.2.2.2).mono ?_; rintro e w6 ⟨g, rfl, hg, hx6⟩; go_wp2_with fail; refine shG hK (h := ?_); clear hK K; intro hHeld
    refine ckL (i := 7) (h := fun K hK => ?_); go_simp; go_at_call 40; refine (side_q f g a s.a s.b p _ (hf.keep hx6.ik) hg (HO.out.2.1.keep (HE.out.trans (HX3.out.trans (by assumption))).ik) HO.out.1.ga HO.out.1.gb HO.out.2.2.1 HO.out.2.2.2).mono ?_; rw [HS.out.2]; rintro e w7 ⟨rfl, hx7⟩; go_wp2_with fail; refine shG hK (h := ?_); clear hK K; intro hHeld
    have HX7 := Lib.hid (HX3.out.trans (show Ext w3 w7 by assumption))
    clear hf hg hx5 hx6
    refine tkW (i := 8) (h := ?_)
    refine tkW (i := 9) (h := ?_)
    refine tkW (i := 10) (h := ?_)
    refine tkW (i := 11) (h := ?_)
    refine tkW (i := 12) (h := ?_)
    refine doneL (by kernel_rfl) ?_
    clear hx7 hHeld
    go_wp2_with fail
    go_ret
    exact ⟨by simp, HE.out.trans HX7.out⟩
/-- What On returns. -/
def onR (s : Sg) (p : QP) : Bool × Int := if segE s = 0 then (onB s p, 0) else (false, segE s)
set_option maxRecDepth 100000 in
set_option maxHeartbeats 4000000 in
theorem cOn_c (s : Sg) (a : PV) (p : QP) (w : World) (ha : IsPQ w a p) (sx : SmB QB p.x) (sy : SmB QB p.y) :
    Calls Try.prog 14 #[s.v, a.v] w fun e w' => e = .returned (.tuple #[.bool (onR s p).1, .int .i64 (onR s p).2]) ∧ Ext w w' := by
  have HO := Lib.hid (And.intro ha (And.intro sx sy))
  clear ha sx sy
  by_cases h0 : segE s = 0
  · have HV := Lib.hid (show onR s p = (onB s p, 0) from if_pos h0)
    have HG := Lib.hid (segE_ok.1 h0)
    have H0 := Lib.hid h0
    clear h0
    rw [HV.out]
    go_enter Try.func14, Try.ntmps14
    go_wp2_with fail
    refine (cValid_c s _).mono ?_
    rw [H0.out]
    rintro e w2 ⟨rfl, hx⟩
    have A0 := (((Blk.at _ 25 (w := w) rfl).alloc (.cells a.cs 43)).ext hx).sgB (s := s)
    have A1 := ((Blk.at a.cs 43 (w := w.alloc (.cells #[.int .i64 s.a.x, .int .i64 s.a.y, .int .i64 s.b.x, .int .i64 s.b.y] 25)) rfl).ext hx).at'.ptB
    simp only [World.size_alloc] at A1
    obtain ⟨x0, x1, x2, x3⟩ := A0
    obtain ⟨p0, p1, p2, p3, p4, p5, p6, p7⟩ := A1
    have HE := Lib.hid (show Ext w w2 from Ext.trans (by repeat (first | exact Ext.refl _ | assumption | refine Ext.setCell ?_ (by first | (simp; done) | (simp; omega) | omega) _ | refine Ext.alloc ?_ _ | refine Ext.drew ?_ | refine Ext.trans ?_ (by assumption))) hx)
    clear hx
    go_wp2_with fail
    refine (con_c s a p _ HG.out (HO.out.1.keep HE.out.ik) HO.out.2.1 HO.out.2.2).mono ?_
    rintro e w3 ⟨rfl, hx3⟩
    have HE3 := Lib.hid (HE.out.trans hx3)
    clear hx3
    go_wp2_with fail
    go_ret2
    exact ⟨rfl, HE3.out⟩
  · have HV := Lib.hid (show onR s p = (false, segE s) from if_neg h0)
    rw [HV.out]
    obtain ⟨v, hv⟩ : ∃ v, segE s = v := ⟨_, rfl⟩
    rw [hv] at h0 ⊢
    have H0 := Lib.hid hv
    have h0' : (v != 0) = true := by rw [bne_iff_ne]; exact h0
    clear h0 hv HV
    go_enter Try.func14, Try.ntmps14
    go_wp2_with fail
    refine (cValid_c s _).mono ?_
    rw [H0.out]
    rintro e w2 ⟨rfl, hx⟩
    have HE := Lib.hid (show Ext w w2 from Ext.trans (by repeat (first | exact Ext.refl _ | assumption | refine Ext.setCell ?_ (by first | (simp; done) | (simp; omega) | omega) _ | refine Ext.alloc ?_ _ | refine Ext.drew ?_ | refine Ext.trans ?_ (by assumption))) hx)
    clear hx
    go_wp2_with fail
    go_ret2
    exact ⟨rfl, HE.out⟩
end Go.Proofs.Ytagiaiocgjagnaa
