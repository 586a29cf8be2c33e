/- cross: of, area, along, crossing. -/
import Derived.Test.YtagiaiocgjagnaaQWT
import Derived.Test.YtagiaiocgjagnaaQX03
namespace Go.Proofs.Ytagiaiocgjagnaa
set_option linter.unusedSimpArgs false
set_option linter.unusedVariables false
open Go.RowKit

@[irreducible] def QB : Nat := 340282366920938463463374607431768211456
theorem QB_eq : QB = 340282366920938463463374607431768211456 := by unfold QB; rfl
theorem QB_lt : QB < 2 ^ 129 := by rw [QB_eq]; decide
theorem smb_int {n : Int} (h : n.natAbs ≤ 340282366920938463463374607431768211456) : SmB QB (n : Rat) := ⟨n, 1, Nat.le_refl 1, by rw [QB_eq]; omega, by rw [QB_eq]; exact h, by simp⟩
set_option maxRecDepth 100000 in
theorem cof_q (x : Int) (w : World) (h1 : -9223372036854775808 ≤ x) (h2 : x ≤ 9223372036854775807) :
  Calls Try.prog 110 #[.int .i64 x] w fun e w' => ∃ f : FV, e = .returned f.v ∧ IsQ w' f (x : Rat) ∧ Ext w w' := by
 go_enter Try.func110, Try.ntmps110
 go_wp2_with fail
 refine (Of_c x 1 _ h1 h2 (by omega) (by omega)).mono ?_
 rw [(low_one x).1, (low_one x).2]
 rintro e w2 ⟨f, rfl, hf, hx⟩
 have HF := Lib.hid (And.intro hf (show Ext w w2 from Ext.trans (by repeat (first | exact Ext.refl _ | assumption | refine Ext.setCell ?_ (by first | (simp; done) | (simp; omega) | omega) _ | refine Ext.alloc ?_ _ | refine Ext.drew ?_ | refine Ext.trans ?_ (by assumption))) hx))
 have O2 : Own (w2.alloc (.cells f.cs 41)) w.heap.size 4 := Own.ext ((Ext.refl _).alloc _) (Own.ext hx ((Blk.at #[.bool false, .slice none 0 0, .bool false, .slice none 0 0] 41 rfl).own _ (by simp) (noIntF _ _ _ _ _ _ _ _)) (by omega)) (by omega)
 clear hf hx
 have o0 := O2.1 0 (by omega)
 have o1 := O2.1 1 (by omega)
 have o2 := O2.1 2 (by omega)
 have o3 := O2.1 3 (by omega)
 have hf0 := O2.2.1
 obtain ⟨p0, p1, p2, p3⟩ := putF_cells O2 f
 go_wp2_with fail
 refine bodyPost_ret (v := f.v) (by simp [results, Try.results110, go_sem, p0, p1, p2, p3]) rfl ?_
 have hq : IsQ w2 f (x : Rat) := ⟨x, 1, HF.out.1, rat_one x⟩
 exact ⟨f, rfl, ((hq.keep ((Ext.refl _).alloc _).ik).keep (IK.putF O2 f)), ext_putF (HF.out.2.alloc _) (by omega) f⟩
theorem abs_mul_le {x y : Int} {m n : Nat} (hx : x.natAbs ≤ m) (hy : y.natAbs ≤ n) : (x * y).natAbs ≤ m * n := by
 rw [Int.natAbs_mul]; exact Nat.mul_le_mul hx hy
theorem i32_prod {x y : Int} (h1 : -2147483648 ≤ x) (h2 : x ≤ 2147483648) (h3 : -2147483648 ≤ y) (h4 : y ≤ 2147483648) : (x * y).natAbs ≤ 4611686018427387904 := by
 have := abs_mul_le (x := x) (y := y) (m := 2147483648) (n := 2147483648) (by omega) (by omega)
 omega
/-- Where a fraction lies behind a statement 'f, _ := ..'. -/
def BoxQ (V wx : World) (s t : Value) (q : Rat) : Prop := ∃ (G : Nat) (f : FV) (er : Int), s = .pointer (some ⟨G, 0, none⟩) ∧ t = .int .i64 er ∧ Ext V wx ∧ V.heap.size ≤ G ∧ At wx G f.cs ∧ IsQ wx f q
/-- A segment's box, a point's box. -/
def SgB (w : World) (b : Nat) (s : Sg) : Prop := w.cell? ⟨b, 0, none⟩ = some (.int .i64 s.a.x) ∧ w.cell? ⟨b, 1, none⟩ = some (.int .i64 s.a.y) ∧ w.cell? ⟨b, 2, none⟩ = some (.int .i64 s.b.x) ∧ w.cell? ⟨b, 3, none⟩ = some (.int .i64 s.b.y)
def GpB (w : World) (b : Nat) (p : Pt) : Prop := w.cell? ⟨b, 0, none⟩ = some (.int .i64 p.x) ∧ w.cell? ⟨b, 1, none⟩ = some (.int .i64 p.y)
theorem SgB.ext {w w' : World} {b : Nat} {s : Sg} (h : SgB w b s) (e : Ext w w') : SgB w' b s := ⟨e.cell h.1, e.cell h.2.1, e.cell h.2.2.1, e.cell h.2.2.2⟩
theorem GpB.ext {w w' : World} {b : Nat} {p : Pt} (h : GpB w b p) (e : Ext w w') : GpB w' b p := ⟨e.cell h.1, e.cell h.2⟩
theorem Blk.sgB {w : World} {b : Nat} {s : Sg} {t : TypeId} (h : Blk w b #[.int .i64 s.a.x, .int .i64 s.a.y, .int .i64 s.b.x, .int .i64 s.b.y] t) : SgB w b s := ⟨h.cell 0, h.cell 1, h.cell 2, h.cell 3⟩
theorem Blk.gpB {w : World} {b : Nat} {p : Pt} {t : TypeId} (h : Blk w b #[.int .i64 p.x, .int .i64 p.y] t) : GpB w b p := ⟨h.cell 0, h.cell 1⟩
set_option maxRecDepth 100000 in
set_option maxHeartbeats 8000000 in
theorem area_q (s : Sg) (p : Pt) (w : World) (ha : Good s.a) (hb : Good s.b) (hp : Good p) :
  Calls Try.prog 95 #[s.v, p.v] w fun e w' => ∃ f : FV, e = .returned f.v ∧ IsQ w' f ((crsI s.a s.b p : Int) : Rat) ∧ Ext w w' := by
 obtain ⟨a1, a2, a3, a4⟩ := ha
 obtain ⟨b1, b2, b3, b4⟩ := hb
 obtain ⟨p1, p2, p3, p4⟩ := hp
 have u1 : -2147483648 ≤ s.b.x - s.a.x := by omega
 have u2 : s.b.x - s.a.x ≤ 2147483648 := by omega
 have u3 : -2147483648 ≤ s.b.y - s.a.y := by omega
 have u4 : s.b.y - s.a.y ≤ 2147483648 := by omega
 have u5 : -2147483648 ≤ p.x - s.a.x := by omega
 have u6 : p.x - s.a.x ≤ 2147483648 := by omega
 have u7 : -2147483648 ≤ p.y - s.a.y := by omega
 have u8 : p.y - s.a.y ≤ 2147483648 := by omega
 have m1 := i32_prod u1 u2 u7 u8
 have m2 := i32_prod u3 u4 u5 u6
 have e1 : IntKind.i64.wrap (s.b.x - s.a.x) = s.b.x - s.a.x := IntWalk.i64_in _ (by omega)
 have e2 : IntKind.i64.wrap (s.b.y - s.a.y) = s.b.y - s.a.y := IntWalk.i64_in _ (by omega)
 have e3 : IntKind.i64.wrap (p.x - s.a.x) = p.x - s.a.x := IntWalk.i64_in _ (by omega)
 have e4 : IntKind.i64.wrap (p.y - s.a.y) = p.y - s.a.y := IntWalk.i64_in _ (by omega)
 have HB := Lib.hid (And.intro (And.intro (show -9223372036854775808 ≤ s.b.x - s.a.x by omega) (show s.b.x - s.a.x ≤ 9223372036854775807 by omega)) (And.intro (And.intro (show -9223372036854775808 ≤ s.b.y - s.a.y by omega) (show s.b.y - s.a.y ≤ 9223372036854775807 by omega)) (And.intro (And.intro (show -9223372036854775808 ≤ p.x - s.a.x by omega) (show p.x - s.a.x ≤ 9223372036854775807 by omega)) (And.intro (show -9223372036854775808 ≤ p.y - s.a.y by omega) (show p.y - s.a.y ≤ 9223372036854775807 by omega)))))
 have HS := Lib.hid (And.intro (smb_int (n := s.b.x - s.a.x) (by omega)) (And.intro (smb_int (n := s.b.y - s.a.y) (by omega)) (And.intro (smb_int (n := p.x - s.a.x) (by omega)) (smb_int (n := p.y - s.a.y) (by omega)))))
 have HM := Lib.hid (And.intro (smb_int (n := (s.b.x - s.a.x) * (p.y - s.a.y)) (by omega)) (smb_int (n := (s.b.y - s.a.y) * (p.x - s.a.x)) (by omega)))
 clear a1 a2 a3 a4 b1 b2 b3 b4 p1 p2 p3 p4 u1 u2 u3 u4 u5 u6 u7 u8 m1 m2
 obtain ⟨B, hB⟩ : ∃ B, w.heap.size = B := ⟨_, rfl⟩
 go_enter Try.func95, Try.ntmps95
 go_upto_region 1 with (fail)
 refine wp_gen (fun W => Ext w W ∧ SgB W B s ∧ GpB W (B + 1) p ∧ Own W (B + 1 + 1) 4) ⟨(by repeat (first | exact Ext.refl _ | assumption | refine Ext.setCell ?_ (by first | (simp; done) | (simp; omega) | omega) _ | refine Ext.alloc ?_ _ | refine Ext.drew ?_ | refine Ext.trans ?_ (by assumption))), ((Blk.at _ 25 hB.symm).alloc _ |>.alloc _).sgB, ((Blk.at _ 23 (by simp [hB])).alloc _).gpB, (Blk.at #[.bool false, .slice none 0 0, .bool false, .slice none 0 0] 41 (by simp [hB])).own _ (by simp) (noIntF _ _ _ _ _ _ _ _)⟩ ?_
 try rw [hB]
 rintro V ⟨E0, A0, A1, O2⟩
 have HE := Lib.hid E0
 have HA := Lib.hid (fun W (e : Ext V W) => (show W.cell? ⟨B, 0, none⟩ = some (.int .i64 s.a.x) ∧ W.cell? ⟨B, 1, none⟩ = some (.int .i64 s.a.y) ∧ W.cell? ⟨B, 2, none⟩ = some (.int .i64 s.b.x) ∧ W.cell? ⟨B, 3, none⟩ = some (.int .i64 s.b.y) from A0.ext e))
 have HP := Lib.hid (fun W (e : Ext V W) => (show W.cell? ⟨B + 1, 0, none⟩ = some (.int .i64 p.x) ∧ W.cell? ⟨B + 1, 1, none⟩ = some (.int .i64 p.y) from A1.ext e))
 have HO := Lib.hid O2
 have lv := O2.lt (by omega)
 clear E0 A0 A1 O2
 go_cut [5, 6] (fun s5 s6 wx => BoxQ V wx s5 s6 ((((s.b.x - s.a.x) * (p.y - s.a.y) : Int)) : Rat))
 case first =>
  refine wp_region_held_drew (S := fun W => Ext V W) (by kernel_rfl) ((Ext.refl V).drew) (fun hHeld => ?_)
  refine tkW (i := 0) (h := ?_)
  refine tkW (i := 1) (h := ?_)
  refine tkL (i := 2) (H := HA) (h := ?_)
  refine tkW (i := 3) (h := ?_)
  refine tkW (i := 4) (h := ?_)
  refine tkL (i := 5) (H := HA) (h := ?_)
  refine tkW (i := 6) (h := ?_)
  refine tkW (i := 8) (h := ?_)
  refine tkL (i := 9) (H := HP) (h := ?_)
  refine tkW (i := 10) (h := ?_)
  refine tkW (i := 11) (h := ?_)
  refine tkL (i := 12) (H := HA) (h := ?_)
  refine tkW (i := 13) (h := ?_)
  refine cons2L (i := 7) (j := 19) (by kernel_rfl) rfl rfl (fun K hK => ?_) (fun K hK => ?_)
  ·skip
   go_simp; go_at_call 110; refine (cof_q (s.b.x - s.a.x) _ HB.out.1.1 HB.out.1.2).mono ?_; rintro e w2 ⟨f, rfl, hf, hx2⟩; have sz := Ext.size hx2; (try simp only [World.size_alloc, World.size_drew] at sz); (first | (have OG := Own.ext hx2 ((Blk.at #[.bool false, .slice none 0 0, .bool false, .slice none 0 0] 41 rfl).own 4 (by simp) (noIntF _ _ _ _ _ _ _ _)) (by omega)) | (have OG := Own.ext hx2 OG (by omega)) | skip); (try simp only [World.size_alloc] at OG); go_wp2_with fail; refine hK.out _ _ ?_ ?_; rotate_left; clear hK K; intro hHeld; rotate_right; (focus (refine Ext.trans ?_ (by assumption); first | assumption | (refine Ext.alloc ?_ _; assumption))); (try simp only [Act.put, List.setIfInBounds_toArray, List.set_cons_zero, List.set_cons_succ])
   refine cons2L (i := 14) (j := 19) (by kernel_rfl) rfl rfl (fun K hK => ?_) (fun K hK => ?_)
   ·skip
    go_simp; go_at_call 110; refine (cof_q (p.y - s.a.y) _ HB.out.2.2.2.1 HB.out.2.2.2.2).mono ?_; rintro e w3 ⟨g, rfl, hg, hx3⟩; have sz := Ext.size hx3; (try simp only [World.size_alloc, World.size_drew] at sz); (first | (have OG := Own.ext hx3 ((Blk.at #[.bool false, .slice none 0 0, .bool false, .slice none 0 0] 41 rfl).own 4 (by simp) (noIntF _ _ _ _ _ _ _ _)) (by omega)) | (have OG := Own.ext hx3 OG (by omega)) | skip); (try simp only [World.size_alloc] at OG); (replace hf : IsQ w3 f ((s.b.x - s.a.x : Int) : Rat) := by (first | exact hf.keep (Ext.ik hx3) | exact hf.keep (((Ext.refl _).alloc _).trans hx3).ik)); go_wp2_with fail; refine hK.out _ _ ?_ ?_; rotate_left; clear hK K; intro hHeld; rotate_right; (focus (refine Ext.trans ?_ (by assumption); first | assumption | (refine Ext.alloc ?_ _; assumption))); (try simp only [Act.put, List.setIfInBounds_toArray, List.set_cons_zero, List.set_cons_succ])
    refine cons2L (i := 15) (j := 19) (by kernel_rfl) rfl rfl (fun K hK => ?_) (fun K hK => ?_)
    ·skip
     go_simp; go_at_call 61; refine (mulQ_c f g ((s.b.x - s.a.x : Int) : Rat) ((p.y - s.a.y : Int) : Rat) QB 129 _ (by (first | exact hf | exact hf.keep ((Ext.refl _).alloc _).ik)) (by (first | exact hg | exact hg.keep ((Ext.refl _).alloc _).ik)) HS.out.1 HS.out.2.2.2 QB_lt (by omega)).mono ?_; rintro e w4 ⟨r, rfl, hr, hx4⟩; have sz := Ext.size hx4; (try simp only [World.size_alloc, World.size_drew] at sz); (first | (have OG := Own.ext hx4 ((Blk.at #[.bool false, .slice none 0 0, .bool false, .slice none 0 0] 41 rfl).own 4 (by simp) (noIntF _ _ _ _ _ _ _ _)) (by omega)) | (have OG := Own.ext hx4 OG (by omega)) | skip); (try simp only [World.size_alloc] at OG); (try rw [← Rat.intCast_mul] at hr); go_wp2_with fail; refine hK.out _ _ ?_ ?_; rotate_left; clear hK K; intro hHeld; rotate_right; (focus (refine Ext.trans ?_ (by assumption); first | assumption | (refine Ext.alloc ?_ _; assumption))); (try simp only [Act.put, List.setIfInBounds_toArray, List.set_cons_zero, List.set_cons_succ])
     refine tkW (i := 16) (h := ?_)
     refine tkW (i := 17) (h := ?_)
     refine tkW (i := 18) (h := ?_)
     refine consL (i := 19) (by kernel_rfl) rfl (fun K hK => ?_); go_simp; refine hK.out _ _ ?_ ?_; rotate_left; clear hK K; intro hHeld; rotate_right; (focus ((try dsimp only); first | (refine Ext.alloc ?_ _; assumption) | (exact ((Ext.refl _).drew).alloc _) | (exact (Ext.refl _).alloc _) | (refine ext_putF (f := r) ?_ ?_; assumption; (first | omega | (simp; omega))))); (try simp only [Act.put, List.setIfInBounds_toArray, List.set_cons_zero, List.set_cons_succ])
     refine consL (i := 20) (by kernel_rfl) rfl (fun K hK => ?_); go_simp; refine hK.out _ _ ?_ ?_; rotate_left; clear hK K; intro hHeld; rotate_right; (focus ((try dsimp only); first | (refine Ext.alloc ?_ _; assumption) | (exact ((Ext.refl _).drew).alloc _) | (exact (Ext.refl _).alloc _) | (refine ext_putF (f := r) ?_ ?_; assumption; (first | omega | (simp; omega))))); (try simp only [Act.put, List.setIfInBounds_toArray, List.set_cons_zero, List.set_cons_succ])
     refine tkW (i := 21) (h := ?_)
     refine doneL (by kernel_rfl) ?_; go_wp2_with fail; go_meet; refine ⟨_, r, 0, rfl, rfl, hHeld, ?_, ?_, ?_⟩; (focus (first | omega | (simp; omega))); (focus (first | exact At.putF' OG r | exact (Blk.at _ 41 rfl).at')); (focus (first | exact IsQ.keep hr (IK.putF OG r) | exact IsQ.keep hr ((Ext.refl _).alloc _).ik))
    ·skip
     go_simp; refine hK.out _ _ ?_ ?_; rotate_left; clear hK K; intro hHeld; rotate_right; (focus ((try dsimp only); first | (refine Ext.alloc ?_ _; assumption) | (exact ((Ext.refl _).drew).alloc _) | (exact (Ext.refl _).alloc _) | (refine ext_putF (f := r) ?_ ?_; assumption; (first | omega | (simp; omega))))); (try simp only [Act.put, List.setIfInBounds_toArray, List.set_cons_zero, List.set_cons_succ])
     refine consL (i := 15) (by kernel_rfl) rfl (fun K hK => ?_)
     go_simp; go_at_call 61; refine (mulQ_c f g ((s.b.x - s.a.x : Int) : Rat) ((p.y - s.a.y : Int) : Rat) QB 129 _ (by (first | exact hf | exact hf.keep ((Ext.refl _).alloc _).ik)) (by (first | exact hg | exact hg.keep ((Ext.refl _).alloc _).ik)) HS.out.1 HS.out.2.2.2 QB_lt (by omega)).mono ?_; rintro e w4 ⟨r, rfl, hr, hx4⟩; have sz := Ext.size hx4; (try simp only [World.size_alloc, World.size_drew] at sz); (first | (have OG := Own.ext hx4 ((Blk.at #[.bool false, .slice none 0 0, .bool false, .slice none 0 0] 41 rfl).own 4 (by simp) (noIntF _ _ _ _ _ _ _ _)) (by omega)) | (have OG := Own.ext hx4 OG (by omega)) | skip); (try simp only [World.size_alloc] at OG); (try rw [← Rat.intCast_mul] at hr); go_wp2_with fail; refine hK.out _ _ ?_ ?_; rotate_left; clear hK K; intro hHeld; rotate_right; (focus (refine Ext.trans ?_ (by assumption); first | assumption | (refine Ext.alloc ?_ _; assumption))); (try simp only [Act.put, List.setIfInBounds_toArray, List.set_cons_zero, List.set_cons_succ])
     refine tkW (i := 16) (h := ?_)
     refine tkW (i := 17) (h := ?_)
     refine tkW (i := 18) (h := ?_)
     refine consL (i := 20) (by kernel_rfl) rfl (fun K hK => ?_); go_simp; refine hK.out _ _ ?_ ?_; rotate_left; clear hK K; intro hHeld; rotate_right; (focus ((try dsimp only); first | (refine Ext.alloc ?_ _; assumption) | (exact ((Ext.refl _).drew).alloc _) | (exact (Ext.refl _).alloc _) | (refine ext_putF (f := r) ?_ ?_; assumption; (first | omega | (simp; omega))))); (try simp only [Act.put, List.setIfInBounds_toArray, List.set_cons_zero, List.set_cons_succ])
     refine tkW (i := 21) (h := ?_)
     refine doneL (by kernel_rfl) ?_; go_wp2_with fail; go_meet; refine ⟨_, r, 0, rfl, rfl, hHeld, ?_, ?_, ?_⟩; (focus (first | omega | (simp; omega))); (focus (first | exact At.putF' OG r | exact (Blk.at _ 41 rfl).at')); (focus (first | exact IsQ.keep hr (IK.putF OG r) | exact IsQ.keep hr ((Ext.refl _).alloc _).ik))
   ·skip
    go_simp; refine hK.out _ _ ?_ ?_; rotate_left; clear hK K; intro hHeld; rotate_right; (focus ((try dsimp only); first | (refine Ext.alloc ?_ _; assumption) | (exact ((Ext.refl _).drew).alloc _) | (exact (Ext.refl _).alloc _) | (refine ext_putF (f := r) ?_ ?_; assumption; (first | omega | (simp; omega))))); (try simp only [Act.put, List.setIfInBounds_toArray, List.set_cons_zero, List.set_cons_succ])
    refine consL (i := 14) (by kernel_rfl) rfl (fun K hK => ?_)
    go_simp; go_at_call 110; refine (cof_q (p.y - s.a.y) _ HB.out.2.2.2.1 HB.out.2.2.2.2).mono ?_; rintro e w3 ⟨g, rfl, hg, hx3⟩; have sz := Ext.size hx3; (try simp only [World.size_alloc, World.size_drew] at sz); (first | (have OG := Own.ext hx3 ((Blk.at #[.bool false, .slice none 0 0, .bool false, .slice none 0 0] 41 rfl).own 4 (by simp) (noIntF _ _ _ _ _ _ _ _)) (by omega)) | (have OG := Own.ext hx3 OG (by omega)) | skip); (try simp only [World.size_alloc] at OG); (replace hf : IsQ w3 f ((s.b.x - s.a.x : Int) : Rat) := by (first | exact hf.keep (Ext.ik hx3) | exact hf.keep (((Ext.refl _).alloc _).trans hx3).ik)); go_wp2_with fail; refine hK.out _ _ ?_ ?_; rotate_left; clear hK K; intro hHeld; rotate_right; (focus (refine Ext.trans ?_ (by assumption); first | assumption | (refine Ext.alloc ?_ _; assumption))); (try simp only [Act.put, List.setIfInBounds_toArray, List.set_cons_zero, List.set_cons_succ])
    refine consL (i := 15) (by kernel_rfl) rfl (fun K hK => ?_)
    go_simp; go_at_call 61; refine (mulQ_c f g ((s.b.x - s.a.x : Int) : Rat) ((p.y - s.a.y : Int) : Rat) QB 129 _ (by (first | exact hf | exact hf.keep ((Ext.refl _).alloc _).ik)) (by (first | exact hg | exact hg.keep ((Ext.refl _).alloc _).ik)) HS.out.1 HS.out.2.2.2 QB_lt (by omega)).mono ?_; rintro e w4 ⟨r, rfl, hr, hx4⟩; have sz := Ext.size hx4; (try simp only [World.size_alloc, World.size_drew] at sz); (first | (have OG := Own.ext hx4 ((Blk.at #[.bool false, .slice none 0 0, .bool false, .slice none 0 0] 41 rfl).own 4 (by simp) (noIntF _ _ _ _ _ _ _ _)) (by omega)) | (have OG := Own.ext hx4 OG (by omega)) | skip); (try simp only [World.size_alloc] at OG); (try rw [← Rat.intCast_mul] at hr); go_wp2_with fail; refine hK.out _ _ ?_ ?_; rotate_left; clear hK K; intro hHeld; rotate_right; (focus (refine Ext.trans ?_ (by assumption); first | assumption | (refine Ext.alloc ?_ _; assumption))); (try simp only [Act.put, List.setIfInBounds_toArray, List.set_cons_zero, List.set_cons_succ])
    refine tkW (i := 16) (h := ?_)
    refine tkW (i := 17) (h := ?_)
    refine tkW (i := 18) (h := ?_)
    refine consL (i := 20) (by kernel_rfl) rfl (fun K hK => ?_); go_simp; refine hK.out _ _ ?_ ?_; rotate_left; clear hK K; intro hHeld; rotate_right; (focus ((try dsimp only); first | (refine Ext.alloc ?_ _; assumption) | (exact ((Ext.refl _).drew).alloc _) | (exact (Ext.refl _).alloc _) | (refine ext_putF (f := r) ?_ ?_; assumption; (first | omega | (simp; omega))))); (try simp only [Act.put, List.setIfInBounds_toArray, List.set_cons_zero, List.set_cons_succ])
    refine tkW (i := 21) (h := ?_)
    refine doneL (by kernel_rfl) ?_; go_wp2_with fail; go_meet; refine ⟨_, r, 0, rfl, rfl, hHeld, ?_, ?_, ?_⟩; (focus (first | omega | (simp; omega))); (focus (first | exact At.putF' OG r | exact (Blk.at _ 41 rfl).at')); (focus (first | exact IsQ.keep hr (IK.putF OG r) | exact IsQ.keep hr ((Ext.refl _).alloc _).ik))
  ·skip
   go_simp; refine hK.out _ _ ?_ ?_; rotate_left; clear hK K; intro hHeld; rotate_right; (focus ((try dsimp only); first | (refine Ext.alloc ?_ _; assumption) | (exact ((Ext.refl _).drew).alloc _) | (exact (Ext.refl _).alloc _) | (refine ext_putF (f := r) ?_ ?_; assumption; (first | omega | (simp; omega))))); (try simp only [Act.put, List.setIfInBounds_toArray, List.set_cons_zero, List.set_cons_succ])
   refine consL (i := 7) (by kernel_rfl) rfl (fun K hK => ?_)
   go_simp; go_at_call 110; refine (cof_q (s.b.x - s.a.x) _ HB.out.1.1 HB.out.1.2).mono ?_; rintro e w2 ⟨f, rfl, hf, hx2⟩; have sz := Ext.size hx2; (try simp only [World.size_alloc, World.size_drew] at sz); (first | (have OG := Own.ext hx2 ((Blk.at #[.bool false, .slice none 0 0, .bool false, .slice none 0 0] 41 rfl).own 4 (by simp) (noIntF _ _ _ _ _ _ _ _)) (by omega)) | (have OG := Own.ext hx2 OG (by omega)) | skip); (try simp only [World.size_alloc] at OG); go_wp2_with fail; refine hK.out _ _ ?_ ?_; rotate_left; clear hK K; intro hHeld; rotate_right; (focus (refine Ext.trans ?_ (by assumption); first | assumption | (refine Ext.alloc ?_ _; assumption))); (try simp only [Act.put, List.setIfInBounds_toArray, List.set_cons_zero, List.set_cons_succ])
   refine consL (i := 14) (by kernel_rfl) rfl (fun K hK => ?_)
   go_simp; go_at_call 110; refine (cof_q (p.y - s.a.y) _ HB.out.2.2.2.1 HB.out.2.2.2.2).mono ?_; rintro e w3 ⟨g, rfl, hg, hx3⟩; have sz := Ext.size hx3; (try simp only [World.size_alloc, World.size_drew] at sz); (first | (have OG := Own.ext hx3 ((Blk.at #[.bool false, .slice none 0 0, .bool false, .slice none 0 0] 41 rfl).own 4 (by simp) (noIntF _ _ _ _ _ _ _ _)) (by omega)) | (have OG := Own.ext hx3 OG (by omega)) | skip); (try simp only [World.size_alloc] at OG); (replace hf : IsQ w3 f ((s.b.x - s.a.x : Int) : Rat) := by (first | exact hf.keep (Ext.ik hx3) | exact hf.keep (((Ext.refl _).alloc _).trans hx3).ik)); go_wp2_with fail; refine hK.out _ _ ?_ ?_; rotate_left; clear hK K; intro hHeld; rotate_right; (focus (refine Ext.trans ?_ (by assumption); first | assumption | (refine Ext.alloc ?_ _; assumption))); (try simp only [Act.put, List.setIfInBounds_toArray, List.set_cons_zero, List.set_cons_succ])
   refine consL (i := 15) (by kernel_rfl) rfl (fun K hK => ?_)
   go_simp; go_at_call 61; refine (mulQ_c f g ((s.b.x - s.a.x : Int) : Rat) ((p.y - s.a.y : Int) : Rat) QB 129 _ (by (first | exact hf | exact hf.keep ((Ext.refl _).alloc _).ik)) (by (first | exact hg | exact hg.keep ((Ext.refl _).alloc _).ik)) HS.out.1 HS.out.2.2.2 QB_lt (by omega)).mono ?_; rintro e w4 ⟨r, rfl, hr, hx4⟩; have sz := Ext.size hx4; (try simp only [World.size_alloc, World.size_drew] at sz); (first | (have OG := Own.ext hx4 ((Blk.at #[.bool false, .slice none 0 0, .bool false, .slice none 0 0] 41 rfl).own 4 (by simp) (noIntF _ _ _ _ _ _ _ _)) (by omega)) | (have OG := Own.ext hx4 OG (by omega)) | skip); (try simp only [World.size_alloc] at OG); (try rw [← Rat.intCast_mul] at hr); go_wp2_with fail; refine hK.out _ _ ?_ ?_; rotate_left; clear hK K; intro hHeld; rotate_right; (focus (refine Ext.trans ?_ (by assumption); first | assumption | (refine Ext.alloc ?_ _; assumption))); (try simp only [Act.put, List.setIfInBounds_toArray, List.set_cons_zero, List.set_cons_succ])
   refine tkW (i := 16) (h := ?_)
   refine tkW (i := 17) (h := ?_)
   refine tkW (i := 18) (h := ?_)
   refine consL (i := 20) (by kernel_rfl) rfl (fun K hK => ?_); go_simp; refine hK.out _ _ ?_ ?_; rotate_left; clear hK K; intro hHeld; rotate_right; (focus ((try dsimp only); first | (refine Ext.alloc ?_ _; assumption) | (exact ((Ext.refl _).drew).alloc _) | (exact (Ext.refl _).alloc _) | (refine ext_putF (f := r) ?_ ?_; assumption; (first | omega | (simp; omega))))); (try simp only [Act.put, List.setIfInBounds_toArray, List.set_cons_zero, List.set_cons_succ])
   refine tkW (i := 21) (h := ?_)
   refine doneL (by kernel_rfl) ?_; go_wp2_with fail; go_meet; refine ⟨_, r, 0, rfl, rfl, hHeld, ?_, ?_, ?_⟩; (focus (first | omega | (simp; omega))); (focus (first | exact At.putF' OG r | exact (Blk.at _ 41 rfl).at')); (focus (first | exact IsQ.keep hr (IK.putF OG r) | exact IsQ.keep hr ((Ext.refl _).alloc _).ik))
 case rest =>
  obtain ⟨G, f1, er, rfl, rfl, hE1, hG, AG, hf1⟩ := hcut
  have HE1 := Lib.hid (And.intro hE1 hf1)
  have HG := Lib.hid (AG)
  have hsz := hE1.size
  have lg := AG.lt (by simp)
  clear hE1 AG hf1
  go_upto_region 2 with (fail)
  go_cut [7, 8] (fun s7 s8 wx => BoxQ wc wx s7 s8 ((((s.b.y - s.a.y) * (p.x - s.a.x) : Int)) : Rat))
  case first =>
   have HA2 := Lib.hid (fun W (e : Ext wc W) => HA.out W (HE1.out.1.trans e))
   have HP2 := Lib.hid (fun W (e : Ext wc W) => HP.out W (HE1.out.1.trans e))
   refine wp_region_held_drew (S := fun W => Ext wc W) (by kernel_rfl) ((Ext.refl wc).drew) (fun hHeld => ?_)
   refine tkW (i := 0) (h := ?_)
   refine tkW (i := 1) (h := ?_)
   refine tkL (i := 2) (H := HA2) (h := ?_)
   refine tkW (i := 3) (h := ?_)
   refine tkW (i := 4) (h := ?_)
   refine tkL (i := 5) (H := HA2) (h := ?_)
   refine tkW (i := 6) (h := ?_)
   refine tkW (i := 8) (h := ?_)
   refine tkL (i := 9) (H := HP2) (h := ?_)
   refine tkW (i := 10) (h := ?_)
   refine tkW (i := 11) (h := ?_)
   refine tkL (i := 12) (H := HA2) (h := ?_)
   refine tkW (i := 13) (h := ?_)
   refine cons2L (i := 7) (j := 19) (by kernel_rfl) rfl rfl (fun K hK => ?_) (fun K hK => ?_)
   ·skip
    go_simp; go_at_call 110; refine (cof_q (s.b.y - s.a.y) _ HB.out.2.1.1 HB.out.2.1.2).mono ?_; rintro e w2 ⟨f, rfl, hf, hx2⟩; have sz := Ext.size hx2; (try simp only [World.size_alloc, World.size_drew] at sz); (first | (have OG := Own.ext hx2 ((Blk.at #[.bool false, .slice none 0 0, .bool false, .slice none 0 0] 41 rfl).own 4 (by simp) (noIntF _ _ _ _ _ _ _ _)) (by omega)) | (have OG := Own.ext hx2 OG (by omega)) | skip); (try simp only [World.size_alloc] at OG); go_wp2_with fail; refine hK.out _ _ ?_ ?_; rotate_left; clear hK K; intro hHeld; rotate_right; (focus (refine Ext.trans ?_ (by assumption); first | assumption | (refine Ext.alloc ?_ _; assumption))); (try simp only [Act.put, List.setIfInBounds_toArray, List.set_cons_zero, List.set_cons_succ])
    refine cons2L (i := 14) (j := 19) (by kernel_rfl) rfl rfl (fun K hK => ?_) (fun K hK => ?_)
    ·skip
     go_simp; go_at_call 110; refine (cof_q (p.x - s.a.x) _ HB.out.2.2.1.1 HB.out.2.2.1.2).mono ?_; rintro e w3 ⟨g, rfl, hg, hx3⟩; have sz := Ext.size hx3; (try simp only [World.size_alloc, World.size_drew] at sz); (first | (have OG := Own.ext hx3 ((Blk.at #[.bool false, .slice none 0 0, .bool false, .slice none 0 0] 41 rfl).own 4 (by simp) (noIntF _ _ _ _ _ _ _ _)) (by omega)) | (have OG := Own.ext hx3 OG (by omega)) | skip); (try simp only [World.size_alloc] at OG); (replace hf : IsQ w3 f ((s.b.y - s.a.y : Int) : Rat) := by (first | exact hf.keep (Ext.ik hx3) | exact hf.keep (((Ext.refl _).alloc _).trans hx3).ik)); go_wp2_with fail; refine hK.out _ _ ?_ ?_; rotate_left; clear hK K; intro hHeld; rotate_right; (focus (refine Ext.trans ?_ (by assumption); first | assumption | (refine Ext.alloc ?_ _; assumption))); (try simp only [Act.put, List.setIfInBounds_toArray, List.set_cons_zero, List.set_cons_succ])
     refine cons2L (i := 15) (j := 19) (by kernel_rfl) rfl rfl (fun K hK => ?_) (fun K hK => ?_)
     ·skip
      go_simp; go_at_call 61; refine (mulQ_c f g ((s.b.y - s.a.y : Int) : Rat) ((p.x - s.a.x : Int) : Rat) QB 129 _ (by (first | exact hf | exact hf.keep ((Ext.refl _).alloc _).ik)) (by (first | exact hg | exact hg.keep ((Ext.refl _).alloc _).ik)) HS.out.2.1 HS.out.2.2.1 QB_lt (by omega)).mono ?_; rintro e w4 ⟨r, rfl, hr, hx4⟩; have sz := Ext.size hx4; (try simp only [World.size_alloc, World.size_drew] at sz); (first | (have OG := Own.ext hx4 ((Blk.at #[.bool false, .slice none 0 0, .bool false, .slice none 0 0] 41 rfl).own 4 (by simp) (noIntF _ _ _ _ _ _ _ _)) (by omega)) | (have OG := Own.ext hx4 OG (by omega)) | skip); (try simp only [World.size_alloc] at OG); (try rw [← Rat.intCast_mul] at hr); go_wp2_with fail; refine hK.out _ _ ?_ ?_; rotate_left; clear hK K; intro hHeld; rotate_right; (focus (refine Ext.trans ?_ (by assumption); first | assumption | (refine Ext.alloc ?_ _; assumption))); (try simp only [Act.put, List.setIfInBounds_toArray, List.set_cons_zero, List.set_cons_succ])
      refine tkW (i := 16) (h := ?_)
      refine tkW (i := 17) (h := ?_)
      refine tkW (i := 18) (h := ?_)
      refine consL (i := 19) (by kernel_rfl) rfl (fun K hK => ?_); go_simp; refine hK.out _ _ ?_ ?_; rotate_left; clear hK K; intro hHeld; rotate_right; (focus ((try dsimp only); first | (refine Ext.alloc ?_ _; assumption) | (exact ((Ext.refl _).drew).alloc _) | (exact (Ext.refl _).alloc _) | (refine ext_putF (f := r) ?_ ?_; assumption; (first | omega | (simp; omega))))); (try simp only [Act.put, List.setIfInBounds_toArray, List.set_cons_zero, List.set_cons_succ])
      refine consL (i := 20) (by kernel_rfl) rfl (fun K hK => ?_); go_simp; refine hK.out _ _ ?_ ?_; rotate_left; clear hK K; intro hHeld; rotate_right; (focus ((try dsimp only); first | (refine Ext.alloc ?_ _; assumption) | (exact ((Ext.refl _).drew).alloc _) | (exact (Ext.refl _).alloc _) | (refine ext_putF (f := r) ?_ ?_; assumption; (first | omega | (simp; omega))))); (try simp only [Act.put, List.setIfInBounds_toArray, List.set_cons_zero, List.set_cons_succ])
      refine tkW (i := 21) (h := ?_)
      refine doneL (by kernel_rfl) ?_; go_wp2_with fail; go_meet; refine ⟨_, r, 0, rfl, rfl, hHeld, ?_, ?_, ?_⟩; (focus (first | omega | (simp; omega))); (focus (first | exact At.putF' OG r | exact (Blk.at _ 41 rfl).at')); (focus (first | exact IsQ.keep hr (IK.putF OG r) | exact IsQ.keep hr ((Ext.refl _).alloc _).ik))
     ·skip
      go_simp; refine hK.out _ _ ?_ ?_; rotate_left; clear hK K; intro hHeld; rotate_right; (focus ((try dsimp only); first | (refine Ext.alloc ?_ _; assumption) | (exact ((Ext.refl _).drew).alloc _) | (exact (Ext.refl _).alloc _) | (refine ext_putF (f := r) ?_ ?_; assumption; (first | omega | (simp; omega))))); (try simp only [Act.put, List.setIfInBounds_toArray, List.set_cons_zero, List.set_cons_succ])
      refine consL (i := 15) (by kernel_rfl) rfl (fun K hK => ?_)
      go_simp; go_at_call 61; refine (mulQ_c f g ((s.b.y - s.a.y : Int) : Rat) ((p.x - s.a.x : Int) : Rat) QB 129 _ (by (first | exact hf | exact hf.keep ((Ext.refl _).alloc _).ik)) (by (first | exact hg | exact hg.keep ((Ext.refl _).alloc _).ik)) HS.out.2.1 HS.out.2.2.1 QB_lt (by omega)).mono ?_; rintro e w4 ⟨r, rfl, hr, hx4⟩; have sz := Ext.size hx4; (try simp only [World.size_alloc, World.size_drew] at sz); (first | (have OG := Own.ext hx4 ((Blk.at #[.bool false, .slice none 0 0, .bool false, .slice none 0 0] 41 rfl).own 4 (by simp) (noIntF _ _ _ _ _ _ _ _)) (by omega)) | (have OG := Own.ext hx4 OG (by omega)) | skip); (try simp only [World.size_alloc] at OG); (try rw [← Rat.intCast_mul] at hr); go_wp2_with fail; refine hK.out _ _ ?_ ?_; rotate_left; clear hK K; intro hHeld; rotate_right; (focus (refine Ext.trans ?_ (by assumption); first | assumption | (refine Ext.alloc ?_ _; assumption))); (try simp only [Act.put, List.setIfInBounds_toArray, List.set_cons_zero, List.set_cons_succ])
      refine tkW (i := 16) (h := ?_)
      refine tkW (i := 17) (h := ?_)
      refine tkW (i := 18) (h := ?_)
      refine consL (i := 20) (by kernel_rfl) rfl (fun K hK => ?_); go_simp; refine hK.out _ _ ?_ ?_; rotate_left; clear hK K; intro hHeld; rotate_right; (focus ((try dsimp only); first | (refine Ext.alloc ?_ _; assumption) | (exact ((Ext.refl _).drew).alloc _) | (exact (Ext.refl _).alloc _) | (refine ext_putF (f := r) ?_ ?_; assumption; (first | omega | (simp; omega))))); (try simp only [Act.put, List.setIfInBounds_toArray, List.set_cons_zero, List.set_cons_succ])
      refine tkW (i := 21) (h := ?_)
      refine doneL (by kernel_rfl) ?_; go_wp2_with fail; go_meet; refine ⟨_, r, 0, rfl, rfl, hHeld, ?_, ?_, ?_⟩; (focus (first | omega | (simp; omega))); (focus (first | exact At.putF' OG r | exact (Blk.at _ 41 rfl).at')); (focus (first | exact IsQ.keep hr (IK.putF OG r) | exact IsQ.keep hr ((Ext.refl _).alloc _).ik))
    ·skip
     go_simp; refine hK.out _ _ ?_ ?_; rotate_left; clear hK K; intro hHeld; rotate_right; (focus ((try dsimp only); first | (refine Ext.alloc ?_ _; assumption) | (exact ((Ext.refl _).drew).alloc _) | (exact (Ext.refl _).alloc _) | (refine ext_putF (f := r) ?_ ?_; assumption; (first | omega | (simp; omega))))); (try simp only [Act.put, List.setIfInBounds_toArray, List.set_cons_zero, List.set_cons_succ])
     refine consL (i := 14) (by kernel_rfl) rfl (fun K hK => ?_)
     go_simp; go_at_call 110; refine (cof_q (p.x - s.a.x) _ HB.out.2.2.1.1 HB.out.2.2.1.2).mono ?_; rintro e w3 ⟨g, rfl, hg, hx3⟩; have sz := Ext.size hx3; (try simp only [World.size_alloc, World.size_drew] at sz); (first | (have OG := Own.ext hx3 ((Blk.at #[.bool false, .slice none 0 0, .bool false, .slice none 0 0] 41 rfl).own 4 (by simp) (noIntF _ _ _ _ _ _ _ _)) (by omega)) | (have OG := Own.ext hx3 OG (by omega)) | skip); (try simp only [World.size_alloc] at OG); (replace hf : IsQ w3 f ((s.b.y - s.a.y : Int) : Rat) := by (first | exact hf.keep (Ext.ik hx3) | exact hf.keep (((Ext.refl _).alloc _).trans hx3).ik)); go_wp2_with fail; refine hK.out _ _ ?_ ?_; rotate_left; clear hK K; intro hHeld; rotate_right; (focus (refine Ext.trans ?_ (by assumption); first | assumption | (refine Ext.alloc ?_ _; assumption))); (try simp only [Act.put, List.setIfInBounds_toArray, List.set_cons_zero, List.set_cons_succ])
     refine consL (i := 15) (by kernel_rfl) rfl (fun K hK => ?_)
     go_simp; go_at_call 61; refine (mulQ_c f g ((s.b.y - s.a.y : Int) : Rat) ((p.x - s.a.x : Int) : Rat) QB 129 _ (by (first | exact hf | exact hf.keep ((Ext.refl _).alloc _).ik)) (by (first | exact hg | exact hg.keep ((Ext.refl _).alloc _).ik)) HS.out.2.1 HS.out.2.2.1 QB_lt (by omega)).mono ?_; rintro e w4 ⟨r, rfl, hr, hx4⟩; have sz := Ext.size hx4; (try simp only [World.size_alloc, World.size_drew] at sz); (first | (have OG := Own.ext hx4 ((Blk.at #[.bool false, .slice none 0 0, .bool false, .slice none 0 0] 41 rfl).own 4 (by simp) (noIntF _ _ _ _ _ _ _ _)) (by omega)) | (have OG := Own.ext hx4 OG (by omega)) | skip); (try simp only [World.size_alloc] at OG); (try rw [← Rat.intCast_mul] at hr); go_wp2_with fail; refine hK.out _ _ ?_ ?_; rotate_left; clear hK K; intro hHeld; rotate_right; (focus (refine Ext.trans ?_ (by assumption); first | assumption | (refine Ext.alloc ?_ _; assumption))); (try simp only [Act.put, List.setIfInBounds_toArray, List.set_cons_zero, List.set_cons_succ])
     refine tkW (i := 16) (h := ?_)
     refine tkW (i := 17) (h := ?_)
     refine tkW (i := 18) (h := ?_)
     refine consL (i := 20) (by kernel_rfl) rfl (fun K hK => ?_); go_simp; refine hK.out _ _ ?_ ?_; rotate_left; clear hK K; intro hHeld; rotate_right; (focus ((try dsimp only); first | (refine Ext.alloc ?_ _; assumption) | (exact ((Ext.refl _).drew).alloc _) | (exact (Ext.refl _).alloc _) | (refine ext_putF (f := r) ?_ ?_; assumption; (first | omega | (simp; omega))))); (try simp only [Act.put, List.setIfInBounds_toArray, List.set_cons_zero, List.set_cons_succ])
     refine tkW (i := 21) (h := ?_)
     refine doneL (by kernel_rfl) ?_; go_wp2_with fail; go_meet; refine ⟨_, r, 0, rfl, rfl, hHeld, ?_, ?_, ?_⟩; (focus (first | omega | (simp; omega))); (focus (first | exact At.putF' OG r | exact (Blk.at _ 41 rfl).at')); (focus (first | exact IsQ.keep hr (IK.putF OG r) | exact IsQ.keep hr ((Ext.refl _).alloc _).ik))
   ·skip
    go_simp; refine hK.out _ _ ?_ ?_; rotate_left; clear hK K; intro hHeld; rotate_right; (focus ((try dsimp only); first | (refine Ext.alloc ?_ _; assumption) | (exact ((Ext.refl _).drew).alloc _) | (exact (Ext.refl _).alloc _) | (refine ext_putF (f := r) ?_ ?_; assumption; (first | omega | (simp; omega))))); (try simp only [Act.put, List.setIfInBounds_toArray, List.set_cons_zero, List.set_cons_succ])
    refine consL (i := 7) (by kernel_rfl) rfl (fun K hK => ?_)
    go_simp; go_at_call 110; refine (cof_q (s.b.y - s.a.y) _ HB.out.2.1.1 HB.out.2.1.2).mono ?_; rintro e w2 ⟨f, rfl, hf, hx2⟩; have sz := Ext.size hx2; (try simp only [World.size_alloc, World.size_drew] at sz); (first | (have OG := Own.ext hx2 ((Blk.at #[.bool false, .slice none 0 0, .bool false, .slice none 0 0] 41 rfl).own 4 (by simp) (noIntF _ _ _ _ _ _ _ _)) (by omega)) | (have OG := Own.ext hx2 OG (by omega)) | skip); (try simp only [World.size_alloc] at OG); go_wp2_with fail; refine hK.out _ _ ?_ ?_; rotate_left; clear hK K; intro hHeld; rotate_right; (focus (refine Ext.trans ?_ (by assumption); first | assumption | (refine Ext.alloc ?_ _; assumption))); (try simp only [Act.put, List.setIfInBounds_toArray, List.set_cons_zero, List.set_cons_succ])
    refine consL (i := 14) (by kernel_rfl) rfl (fun K hK => ?_)
    go_simp; go_at_call 110; refine (cof_q (p.x - s.a.x) _ HB.out.2.2.1.1 HB.out.2.2.1.2).mono ?_; rintro e w3 ⟨g, rfl, hg, hx3⟩; have sz := Ext.size hx3; (try simp only [World.size_alloc, World.size_drew] at sz); (first | (have OG := Own.ext hx3 ((Blk.at #[.bool false, .slice none 0 0, .bool false, .slice none 0 0] 41 rfl).own 4 (by simp) (noIntF _ _ _ _ _ _ _ _)) (by omega)) | (have OG := Own.ext hx3 OG (by omega)) | skip); (try simp only [World.size_alloc] at OG); (replace hf : IsQ w3 f ((s.b.y - s.a.y : Int) : Rat) := by (first | exact hf.keep (Ext.ik hx3) | exact hf.keep (((Ext.refl _).alloc _).trans hx3).ik)); go_wp2_with fail; refine hK.out _ _ ?_ ?_; rotate_left; clear hK K; intro hHeld; rotate_right; (focus (refine Ext.trans ?_ (by assumption); first | assumption | (refine Ext.alloc ?_ _; assumption))); (try simp only [Act.put, List.setIfInBounds_toArray, List.set_cons_zero, List.set_cons_succ])
    refine consL (i := 15) (by kernel_rfl) rfl (fun K hK => ?_)
    go_simp; go_at_call 61; refine (mulQ_c f g ((s.b.y - s.a.y : Int) : Rat) ((p.x - s.a.x : Int) : Rat) QB 129 _ (by (first | exact hf | exact hf.keep ((Ext.refl _).alloc _).ik)) (by (first | exact hg | exact hg.keep ((Ext.refl _).alloc _).ik)) HS.out.2.1 HS.out.2.2.1 QB_lt (by omega)).mono ?_; rintro e w4 ⟨r, rfl, hr, hx4⟩; have sz := Ext.size hx4; (try simp only [World.size_alloc, World.size_drew] at sz); (first | (have OG := Own.ext hx4 ((Blk.at #[.bool false, .slice none 0 0, .bool false, .slice none 0 0] 41 rfl).own 4 (by simp) (noIntF _ _ _ _ _ _ _ _)) (by omega)) | (have OG := Own.ext hx4 OG (by omega)) | skip); (try simp only [World.size_alloc] at OG); (try rw [← Rat.intCast_mul] at hr); go_wp2_with fail; refine hK.out _ _ ?_ ?_; rotate_left; clear hK K; intro hHeld; rotate_right; (focus (refine Ext.trans ?_ (by assumption); first | assumption | (refine Ext.alloc ?_ _; assumption))); (try simp only [Act.put, List.setIfInBounds_toArray, List.set_cons_zero, List.set_cons_succ])
    refine tkW (i := 16) (h := ?_)
    refine tkW (i := 17) (h := ?_)
    refine tkW (i := 18) (h := ?_)
    refine consL (i := 20) (by kernel_rfl) rfl (fun K hK => ?_); go_simp; refine hK.out _ _ ?_ ?_; rotate_left; clear hK K; intro hHeld; rotate_right; (focus ((try dsimp only); first | (refine Ext.alloc ?_ _; assumption) | (exact ((Ext.refl _).drew).alloc _) | (exact (Ext.refl _).alloc _) | (refine ext_putF (f := r) ?_ ?_; assumption; (first | omega | (simp; omega))))); (try simp only [Act.put, List.setIfInBounds_toArray, List.set_cons_zero, List.set_cons_succ])
    refine tkW (i := 21) (h := ?_)
    refine doneL (by kernel_rfl) ?_; go_wp2_with fail; go_meet; refine ⟨_, r, 0, rfl, rfl, hHeld, ?_, ?_, ?_⟩; (focus (first | omega | (simp; omega))); (focus (first | exact At.putF' OG r | exact (Blk.at _ 41 rfl).at')); (focus (first | exact IsQ.keep hr (IK.putF OG r) | exact IsQ.keep hr ((Ext.refl _).alloc _).ik))
  case rest =>
   obtain ⟨G2, f2, er2, rfl, rfl, hE2, hG2, AG2, hf2⟩ := hcut
   have A1 := HG.out.ext hE2 (by simp)
   have hO := HO.out.ext (HE1.out.1.trans hE2) (by omega)
   have HE2 := Lib.hid (And.intro hE2 (And.intro hf2 hO))
   have g0 := A1 0 (by simp); have g1 := A1 1 (by simp); have g2 := A1 2 (by simp); have g3 := A1 3 (by simp)
   have k0 := AG2 0 (by simp); have k1 := AG2 1 (by simp); have k2 := AG2 2 (by simp); have k3 := AG2 3 (by simp)
   simp only [List.getElem?_toArray, List.getElem?_cons_zero, List.getElem?_cons_succ] at g0 g1 g2 g3 k0 k1 k2 k3
   clear hE2 hf2 hO A1 AG2
   go_wp2_with fail
   refine (subQ_c f1 f2 _ _ QB 129 _ (HE1.out.2.keep HE2.out.1.ik) HE2.out.2.1 HM.out.1 HM.out.2 QB_lt (by omega)).mono ?_
   rw [← Rat.intCast_sub]
   rintro e w5 ⟨r, rfl, hr, hx5⟩
   have O5 : Own (w5.alloc (.cells r.cs 41)) (B + 1 + 1) 4 := Own.ext ((Ext.refl _).alloc _) (Own.ext hx5 HE2.out.2.2 (by omega)) (by omega)
   have HR := Lib.hid (And.intro hr (HE.out.trans (HE1.out.1.trans (HE2.out.1.trans hx5))))
   have HO5 := Lib.hid O5
   clear hr hx5 g0 g1 g2 g3 k0 k1 k2 k3
   have o0 := O5.1 0 (by omega); have o1 := O5.1 1 (by omega); have o2 := O5.1 2 (by omega); have o3 := O5.1 3 (by omega); have of0 := O5.2.1
   obtain ⟨q0, q1, q2, q3⟩ := putF_cells O5 r
   clear O5
   go_wp2_with fail
   refine bodyPost_ret (v := r.v) (by simp [results, Try.results95, go_sem, q0, q1, q2, q3]) rfl ?_
   exact ⟨r, rfl, (HR.out.1.keep ((Ext.refl _).alloc _).ik).keep (IK.putF HO5.out r), ext_putF (HR.out.2.alloc _) (by omega) r⟩
end Go.Proofs.Ytagiaiocgjagnaa
