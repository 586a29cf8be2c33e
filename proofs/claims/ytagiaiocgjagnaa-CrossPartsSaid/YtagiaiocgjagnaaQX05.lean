/- cross: along, crossing. -/
import Derived.Test.YtagiaiocgjagnaaQWT
import Derived.Test.YtagiaiocgjagnaaQX04
namespace Go.Proofs.Ytagiaiocgjagnaa
set_option linter.unusedSimpArgs false
set_option linter.unusedVariables false
open Go.RowKit

/-- A part of a way: a fraction of two integers that are not too great. -/
structure PartQ (l : Rat) (x : Int) (y : Nat) : Prop where
 eq : l * (y : Rat) = (x : Rat)
 y1 : 1 ≤ y
 ym : y ≤ 18446744073709551616
 xm : x.natAbs ≤ 18446744073709551616
theorem PartQ.smb {l : Rat} {x : Int} {y : Nat} (h : PartQ l x y) : SmB QB l := ⟨x, y, h.y1, by rw [QB_eq]; have := h.ym; omega, by rw [QB_eq]; have := h.xm; omega, h.eq⟩
theorem PartQ.way {l : Rat} {x : Int} {y : Nat} (h : PartQ l x y) {d : Int} (hd : d.natAbs ≤ 2147483648) : SmB QB ((d : Rat) * l) := by
 refine ⟨d * x, y, h.y1, by rw [QB_eq]; have := h.ym; omega, ?_, ?_⟩
 ·have := abs_mul_le (x := d) (y := x) hd h.xm
  rw [QB_eq]; omega
 ·rw [Rat.intCast_mul, ← h.eq]; grind
set_option maxRecDepth 100000 in
set_option maxHeartbeats 8000000 in
theorem along_q (a b : Int) (part : FV) (l : Rat) (x : Int) (y : Nat) (w : World) (ha : a.natAbs ≤ 1073741824) (hb : b.natAbs ≤ 1073741824) (hp : IsQ w part l) (hl : PartQ l x y) :
  Calls Try.prog 96 #[.int .i64 a, .int .i64 b, part.v] w fun e w' => ∃ f : FV, e = .returned f.v ∧ IsQ w' f ((a : Rat) + ((b - a : Int) : Rat) * l) ∧ Ext w w' := by
 have e1 : IntKind.i64.wrap (b - a) = b - a := IntWalk.i64_in _ (by omega)
 have hd : (b - a).natAbs ≤ 2147483648 := by omega
 have HB := Lib.hid (And.intro (And.intro (show -9223372036854775808 ≤ b - a by omega) (show b - a ≤ 9223372036854775807 by omega)) (And.intro (show -9223372036854775808 ≤ a by omega) (show a ≤ 9223372036854775807 by omega)))
 have HS := Lib.hid (And.intro (smb_int (n := b - a) (by omega)) (And.intro hl.smb (And.intro (smb_int (n := a) (by omega)) (hl.way hd))))
 have HP := Lib.hid hp
 clear hp hl hd ha hb
 obtain ⟨B, hB⟩ : ∃ B, w.heap.size = B := ⟨_, rfl⟩
 go_enter Try.func96, Try.ntmps96
 go_upto_region 1 with (fail)
 refine wp_gen (fun W => Ext w W ∧ At W B part.cs ∧ Own W (B + 1) 4) ⟨(by repeat (first | exact Ext.refl _ | assumption | refine Ext.setCell ?_ (by first | (simp; done) | (simp; omega) | omega) _ | refine Ext.alloc ?_ _ | refine Ext.drew ?_ | refine Ext.trans ?_ (by assumption))), ((Blk.at part.cs 41 hB.symm).alloc _).at', (Blk.at #[.bool false, .slice none 0 0, .bool false, .slice none 0 0] 41 (by simp [hB])).own _ (by simp) (noIntF _ _ _ _ _ _ _ _)⟩ ?_
 try rw [hB]
 rintro V ⟨E0, A0, O1⟩
 have HE := Lib.hid E0
 have HA := Lib.hid (fun W (e : Ext V W) => (show W.cell? ⟨B, 0, none⟩ = some (.bool part.n.neg) ∧ W.cell? ⟨B, 1, none⟩ = some (.slice part.n.a part.n.n part.n.c) ∧ W.cell? ⟨B, 2, none⟩ = some (.bool part.d.neg) ∧ W.cell? ⟨B, 3, none⟩ = some (.slice part.d.a part.d.n part.d.c) from ⟨e.cell (A0 0 (by simp)), e.cell (A0 1 (by simp)), e.cell (A0 2 (by simp)), e.cell (A0 3 (by simp))⟩))
 have HO := Lib.hid O1
 have lv := O1.lt (by omega)
 clear E0 A0 O1
 go_cut [7, 8] (fun s7 s8 wx => BoxQ V wx s7 s8 (((b - a : Int) : Rat) * l))
 case first =>
  refine wp_region_held_drew (S := fun W => Ext V W) (by kernel_rfl) ((Ext.refl V).drew) (fun hHeld => ?_)
  refine tkW (i := 0) (h := ?_)
  refine tkW (i := 1) (h := ?_)
  refine tkW (i := 2) (h := ?_)
  refine tkL (i := 4) (H := HA) (h := ?_)
  refine cons2L (i := 3) (j := 9) (by kernel_rfl) rfl rfl (fun K hK => ?_) (fun K hK => ?_)
  ·skip
   go_simp; go_at_call 110; refine (cof_q (b - a) _ HB.out.1.1 HB.out.1.2).mono ?_; rintro e w2 ⟨f, rfl, hf, hx2⟩; have sz := Ext.size hx2; (try simp only [World.size_alloc, World.size_drew] at sz); (first | (have OG := Own.ext hx2 ((Blk.at #[.bool false, .slice none 0 0, .bool false, .slice none 0 0] 41 rfl).own 4 (by simp) (noIntF _ _ _ _ _ _ _ _)) (by omega)) | (have OG := Own.ext hx2 OG (by omega)) | skip); (try simp only [World.size_alloc] at OG); go_wp2_with fail; refine hK.out _ _ ?_ ?_; rotate_left; clear hK K; intro hHeld; rotate_right; (focus (refine Ext.trans ?_ (by assumption); first | assumption | (refine Ext.alloc ?_ _; assumption))); (try simp only [Act.put, List.setIfInBounds_toArray, List.set_cons_zero, List.set_cons_succ])
   refine cons2L (i := 5) (j := 9) (by kernel_rfl) rfl rfl (fun K hK => ?_) (fun K hK => ?_)
   ·skip
    go_simp; go_at_call 61; refine (mulQ_c f part _ _ QB 129 _ (by (first | exact hf | exact hf.keep ((Ext.refl _).alloc _).ik)) (HP.out.keep (HE.out.trans (by assumption)).ik) HS.out.1 HS.out.2.1 QB_lt (by omega)).mono ?_; rintro e w4 ⟨r, rfl, hr, hx4⟩; have sz := Ext.size hx4; (try simp only [World.size_alloc, World.size_drew] at sz); (first | (have OG := Own.ext hx4 ((Blk.at #[.bool false, .slice none 0 0, .bool false, .slice none 0 0] 41 rfl).own 4 (by simp) (noIntF _ _ _ _ _ _ _ _)) (by omega)) | (have OG := Own.ext hx4 OG (by omega)) | skip); (try simp only [World.size_alloc] at OG); go_wp2_with fail; refine hK.out _ _ ?_ ?_; rotate_left; clear hK K; intro hHeld; rotate_right; (focus (refine Ext.trans ?_ (by assumption); first | assumption | (refine Ext.alloc ?_ _; assumption))); (try simp only [Act.put, List.setIfInBounds_toArray, List.set_cons_zero, List.set_cons_succ])
    refine tkW (i := 6) (h := ?_)
    refine tkW (i := 7) (h := ?_)
    refine tkW (i := 8) (h := ?_)
    refine consL (i := 9) (by kernel_rfl) rfl (fun K hK => ?_); go_simp; refine hK.out _ _ ?_ ?_; rotate_left; clear hK K; intro hHeld; rotate_right; (focus ((try dsimp only); first | (refine Ext.alloc ?_ _; assumption) | (exact ((Ext.refl _).drew).alloc _) | (exact (Ext.refl _).alloc _) | (refine ext_putF (f := r) ?_ ?_; assumption; (first | omega | (simp; omega))))); (try simp only [Act.put, List.setIfInBounds_toArray, List.set_cons_zero, List.set_cons_succ])
    refine consL (i := 10) (by kernel_rfl) rfl (fun K hK => ?_); go_simp; refine hK.out _ _ ?_ ?_; rotate_left; clear hK K; intro hHeld; rotate_right; (focus ((try dsimp only); first | (refine Ext.alloc ?_ _; assumption) | (exact ((Ext.refl _).drew).alloc _) | (exact (Ext.refl _).alloc _) | (refine ext_putF (f := r) ?_ ?_; assumption; (first | omega | (simp; omega))))); (try simp only [Act.put, List.setIfInBounds_toArray, List.set_cons_zero, List.set_cons_succ])
    refine tkW (i := 11) (h := ?_)
    refine doneL (by kernel_rfl) ?_; go_wp2_with fail; go_meet; refine ⟨_, r, 0, rfl, rfl, hHeld, ?_, ?_, ?_⟩; (focus (first | omega | (simp; omega))); (focus (first | exact At.putF' OG r | exact (Blk.at _ 41 rfl).at')); (focus (first | exact IsQ.keep hr (IK.putF OG r) | exact IsQ.keep hr ((Ext.refl _).alloc _).ik))
   ·skip
    go_simp; refine hK.out _ _ ?_ ?_; rotate_left; clear hK K; intro hHeld; rotate_right; (focus ((try dsimp only); first | (refine Ext.alloc ?_ _; assumption) | (exact ((Ext.refl _).drew).alloc _) | (exact (Ext.refl _).alloc _) | (refine ext_putF (f := r) ?_ ?_; assumption; (first | omega | (simp; omega))))); (try simp only [Act.put, List.setIfInBounds_toArray, List.set_cons_zero, List.set_cons_succ])
    refine consL (i := 5) (by kernel_rfl) rfl (fun K hK => ?_)
    go_simp; go_at_call 61; refine (mulQ_c f part _ _ QB 129 _ (by (first | exact hf | exact hf.keep ((Ext.refl _).alloc _).ik)) (HP.out.keep (HE.out.trans (by assumption)).ik) HS.out.1 HS.out.2.1 QB_lt (by omega)).mono ?_; rintro e w4 ⟨r, rfl, hr, hx4⟩; have sz := Ext.size hx4; (try simp only [World.size_alloc, World.size_drew] at sz); (first | (have OG := Own.ext hx4 ((Blk.at #[.bool false, .slice none 0 0, .bool false, .slice none 0 0] 41 rfl).own 4 (by simp) (noIntF _ _ _ _ _ _ _ _)) (by omega)) | (have OG := Own.ext hx4 OG (by omega)) | skip); (try simp only [World.size_alloc] at OG); go_wp2_with fail; refine hK.out _ _ ?_ ?_; rotate_left; clear hK K; intro hHeld; rotate_right; (focus (refine Ext.trans ?_ (by assumption); first | assumption | (refine Ext.alloc ?_ _; assumption))); (try simp only [Act.put, List.setIfInBounds_toArray, List.set_cons_zero, List.set_cons_succ])
    refine tkW (i := 6) (h := ?_)
    refine tkW (i := 7) (h := ?_)
    refine tkW (i := 8) (h := ?_)
    refine consL (i := 10) (by kernel_rfl) rfl (fun K hK => ?_); go_simp; refine hK.out _ _ ?_ ?_; rotate_left; clear hK K; intro hHeld; rotate_right; (focus ((try dsimp only); first | (refine Ext.alloc ?_ _; assumption) | (exact ((Ext.refl _).drew).alloc _) | (exact (Ext.refl _).alloc _) | (refine ext_putF (f := r) ?_ ?_; assumption; (first | omega | (simp; omega))))); (try simp only [Act.put, List.setIfInBounds_toArray, List.set_cons_zero, List.set_cons_succ])
    refine tkW (i := 11) (h := ?_)
    refine doneL (by kernel_rfl) ?_; go_wp2_with fail; go_meet; refine ⟨_, r, 0, rfl, rfl, hHeld, ?_, ?_, ?_⟩; (focus (first | omega | (simp; omega))); (focus (first | exact At.putF' OG r | exact (Blk.at _ 41 rfl).at')); (focus (first | exact IsQ.keep hr (IK.putF OG r) | exact IsQ.keep hr ((Ext.refl _).alloc _).ik))
  ·skip
   go_simp; refine hK.out _ _ ?_ ?_; rotate_left; clear hK K; intro hHeld; rotate_right; (focus ((try dsimp only); first | (refine Ext.alloc ?_ _; assumption) | (exact ((Ext.refl _).drew).alloc _) | (exact (Ext.refl _).alloc _) | (refine ext_putF (f := r) ?_ ?_; assumption; (first | omega | (simp; omega))))); (try simp only [Act.put, List.setIfInBounds_toArray, List.set_cons_zero, List.set_cons_succ])
   refine consL (i := 3) (by kernel_rfl) rfl (fun K hK => ?_)
   go_simp; go_at_call 110; refine (cof_q (b - a) _ HB.out.1.1 HB.out.1.2).mono ?_; rintro e w2 ⟨f, rfl, hf, hx2⟩; have sz := Ext.size hx2; (try simp only [World.size_alloc, World.size_drew] at sz); (first | (have OG := Own.ext hx2 ((Blk.at #[.bool false, .slice none 0 0, .bool false, .slice none 0 0] 41 rfl).own 4 (by simp) (noIntF _ _ _ _ _ _ _ _)) (by omega)) | (have OG := Own.ext hx2 OG (by omega)) | skip); (try simp only [World.size_alloc] at OG); go_wp2_with fail; refine hK.out _ _ ?_ ?_; rotate_left; clear hK K; intro hHeld; rotate_right; (focus (refine Ext.trans ?_ (by assumption); first | assumption | (refine Ext.alloc ?_ _; assumption))); (try simp only [Act.put, List.setIfInBounds_toArray, List.set_cons_zero, List.set_cons_succ])
   refine consL (i := 5) (by kernel_rfl) rfl (fun K hK => ?_)
   go_simp; go_at_call 61; refine (mulQ_c f part _ _ QB 129 _ (by (first | exact hf | exact hf.keep ((Ext.refl _).alloc _).ik)) (HP.out.keep (HE.out.trans (by assumption)).ik) HS.out.1 HS.out.2.1 QB_lt (by omega)).mono ?_; rintro e w4 ⟨r, rfl, hr, hx4⟩; have sz := Ext.size hx4; (try simp only [World.size_alloc, World.size_drew] at sz); (first | (have OG := Own.ext hx4 ((Blk.at #[.bool false, .slice none 0 0, .bool false, .slice none 0 0] 41 rfl).own 4 (by simp) (noIntF _ _ _ _ _ _ _ _)) (by omega)) | (have OG := Own.ext hx4 OG (by omega)) | skip); (try simp only [World.size_alloc] at OG); go_wp2_with fail; refine hK.out _ _ ?_ ?_; rotate_left; clear hK K; intro hHeld; rotate_right; (focus (refine Ext.trans ?_ (by assumption); first | assumption | (refine Ext.alloc ?_ _; assumption))); (try simp only [Act.put, List.setIfInBounds_toArray, List.set_cons_zero, List.set_cons_succ])
   refine tkW (i := 6) (h := ?_)
   refine tkW (i := 7) (h := ?_)
   refine tkW (i := 8) (h := ?_)
   refine consL (i := 10) (by kernel_rfl) rfl (fun K hK => ?_); go_simp; refine hK.out _ _ ?_ ?_; rotate_left; clear hK K; intro hHeld; rotate_right; (focus ((try dsimp only); first | (refine Ext.alloc ?_ _; assumption) | (exact ((Ext.refl _).drew).alloc _) | (exact (Ext.refl _).alloc _) | (refine ext_putF (f := r) ?_ ?_; assumption; (first | omega | (simp; omega))))); (try simp only [Act.put, List.setIfInBounds_toArray, List.set_cons_zero, List.set_cons_succ])
   refine tkW (i := 11) (h := ?_)
   refine doneL (by kernel_rfl) ?_; go_wp2_with fail; go_meet; refine ⟨_, r, 0, rfl, rfl, hHeld, ?_, ?_, ?_⟩; (focus (first | omega | (simp; omega))); (focus (first | exact At.putF' OG r | exact (Blk.at _ 41 rfl).at')); (focus (first | exact IsQ.keep hr (IK.putF OG r) | exact IsQ.keep hr ((Ext.refl _).alloc _).ik))
 case rest =>
  obtain ⟨G, f1, er, rfl, rfl, hE1, hG, AG, hf1⟩ := hcut
  have HE1 := Lib.hid (And.intro hE1 hf1)
  have hsz := hE1.size
  have lg := AG.lt (by simp)
  have HG := Lib.hid (fun W (e : Ext wc W) => (show W.cell? ⟨G, 0, none⟩ = some (.bool f1.n.neg) ∧ W.cell? ⟨G, 1, none⟩ = some (.slice f1.n.a f1.n.n f1.n.c) ∧ W.cell? ⟨G, 2, none⟩ = some (.bool f1.d.neg) ∧ W.cell? ⟨G, 3, none⟩ = some (.slice f1.d.a f1.d.n f1.d.c) from ⟨e.cell (AG 0 (by simp)), e.cell (AG 1 (by simp)), e.cell (AG 2 (by simp)), e.cell (AG 3 (by simp))⟩))
  clear hE1 AG hf1
  go_upto_region 2 with (fail)
  go_cut [9, 10] (fun s9 s10 wx => BoxQ wc wx s9 s10 ((a : Rat) + ((b - a : Int) : Rat) * l))
  case first =>
   refine wp_region_held_drew (S := fun W => Ext wc W) (by kernel_rfl) ((Ext.refl wc).drew) (fun hHeld => ?_)
   refine tkW (i := 0) (h := ?_)
   refine tkL (i := 2) (H := HG) (h := ?_)
   refine cons2L (i := 1) (j := 7) (by kernel_rfl) rfl rfl (fun K hK => ?_) (fun K hK => ?_)
   ·skip
    go_simp; go_at_call 110; refine (cof_q a _ HB.out.2.1 HB.out.2.2).mono ?_; rintro e w2 ⟨f, rfl, hf, hx2⟩; have sz := Ext.size hx2; (try simp only [World.size_alloc, World.size_drew] at sz); (first | (have OG := Own.ext hx2 ((Blk.at #[.bool false, .slice none 0 0, .bool false, .slice none 0 0] 41 rfl).own 4 (by simp) (noIntF _ _ _ _ _ _ _ _)) (by omega)) | (have OG := Own.ext hx2 OG (by omega)) | skip); (try simp only [World.size_alloc] at OG); go_wp2_with fail; refine hK.out _ _ ?_ ?_; rotate_left; clear hK K; intro hHeld; rotate_right; (focus (refine Ext.trans ?_ (by assumption); first | assumption | (refine Ext.alloc ?_ _; assumption))); (try simp only [Act.put, List.setIfInBounds_toArray, List.set_cons_zero, List.set_cons_succ])
    refine cons2L (i := 3) (j := 7) (by kernel_rfl) rfl rfl (fun K hK => ?_) (fun K hK => ?_)
    ·skip
     go_simp; go_at_call 56; refine (addQ_c f f1 _ _ QB 129 _ (by (first | exact hf | exact hf.keep ((Ext.refl _).alloc _).ik)) (HE1.out.2.keep (Ext.ik (by assumption))) HS.out.2.2.1 HS.out.2.2.2 QB_lt (by omega)).mono ?_; rintro e w4 ⟨r, rfl, hr, hx4⟩; have sz := Ext.size hx4; (try simp only [World.size_alloc, World.size_drew] at sz); (first | (have OG := Own.ext hx4 ((Blk.at #[.bool false, .slice none 0 0, .bool false, .slice none 0 0] 41 rfl).own 4 (by simp) (noIntF _ _ _ _ _ _ _ _)) (by omega)) | (have OG := Own.ext hx4 OG (by omega)) | skip); (try simp only [World.size_alloc] at OG); go_wp2_with fail; refine hK.out _ _ ?_ ?_; rotate_left; clear hK K; intro hHeld; rotate_right; (focus (refine Ext.trans ?_ (by assumption); first | assumption | (refine Ext.alloc ?_ _; assumption))); (try simp only [Act.put, List.setIfInBounds_toArray, List.set_cons_zero, List.set_cons_succ])
     refine tkW (i := 4) (h := ?_)
     refine tkW (i := 5) (h := ?_)
     refine tkW (i := 6) (h := ?_)
     refine consL (i := 7) (by kernel_rfl) rfl (fun K hK => ?_); go_simp; refine hK.out _ _ ?_ ?_; rotate_left; clear hK K; intro hHeld; rotate_right; (focus ((try dsimp only); first | (refine Ext.alloc ?_ _; assumption) | (exact ((Ext.refl _).drew).alloc _) | (exact (Ext.refl _).alloc _) | (refine ext_putF (f := r) ?_ ?_; assumption; (first | omega | (simp; omega))))); (try simp only [Act.put, List.setIfInBounds_toArray, List.set_cons_zero, List.set_cons_succ])
     refine consL (i := 8) (by kernel_rfl) rfl (fun K hK => ?_); go_simp; refine hK.out _ _ ?_ ?_; rotate_left; clear hK K; intro hHeld; rotate_right; (focus ((try dsimp only); first | (refine Ext.alloc ?_ _; assumption) | (exact ((Ext.refl _).drew).alloc _) | (exact (Ext.refl _).alloc _) | (refine ext_putF (f := r) ?_ ?_; assumption; (first | omega | (simp; omega))))); (try simp only [Act.put, List.setIfInBounds_toArray, List.set_cons_zero, List.set_cons_succ])
     refine tkW (i := 9) (h := ?_)
     refine doneL (by kernel_rfl) ?_; go_wp2_with fail; go_meet; refine ⟨_, r, 0, rfl, rfl, hHeld, ?_, ?_, ?_⟩; (focus (first | omega | (simp; omega))); (focus (first | exact At.putF' OG r | exact (Blk.at _ 41 rfl).at')); (focus (first | exact IsQ.keep hr (IK.putF OG r) | exact IsQ.keep hr ((Ext.refl _).alloc _).ik))
    ·skip
     go_simp; refine hK.out _ _ ?_ ?_; rotate_left; clear hK K; intro hHeld; rotate_right; (focus ((try dsimp only); first | (refine Ext.alloc ?_ _; assumption) | (exact ((Ext.refl _).drew).alloc _) | (exact (Ext.refl _).alloc _) | (refine ext_putF (f := r) ?_ ?_; assumption; (first | omega | (simp; omega))))); (try simp only [Act.put, List.setIfInBounds_toArray, List.set_cons_zero, List.set_cons_succ])
     refine consL (i := 3) (by kernel_rfl) rfl (fun K hK => ?_)
     go_simp; go_at_call 56; refine (addQ_c f f1 _ _ QB 129 _ (by (first | exact hf | exact hf.keep ((Ext.refl _).alloc _).ik)) (HE1.out.2.keep (Ext.ik (by assumption))) HS.out.2.2.1 HS.out.2.2.2 QB_lt (by omega)).mono ?_; rintro e w4 ⟨r, rfl, hr, hx4⟩; have sz := Ext.size hx4; (try simp only [World.size_alloc, World.size_drew] at sz); (first | (have OG := Own.ext hx4 ((Blk.at #[.bool false, .slice none 0 0, .bool false, .slice none 0 0] 41 rfl).own 4 (by simp) (noIntF _ _ _ _ _ _ _ _)) (by omega)) | (have OG := Own.ext hx4 OG (by omega)) | skip); (try simp only [World.size_alloc] at OG); go_wp2_with fail; refine hK.out _ _ ?_ ?_; rotate_left; clear hK K; intro hHeld; rotate_right; (focus (refine Ext.trans ?_ (by assumption); first | assumption | (refine Ext.alloc ?_ _; assumption))); (try simp only [Act.put, List.setIfInBounds_toArray, List.set_cons_zero, List.set_cons_succ])
     refine tkW (i := 4) (h := ?_)
     refine tkW (i := 5) (h := ?_)
     refine tkW (i := 6) (h := ?_)
     refine consL (i := 8) (by kernel_rfl) rfl (fun K hK => ?_); go_simp; refine hK.out _ _ ?_ ?_; rotate_left; clear hK K; intro hHeld; rotate_right; (focus ((try dsimp only); first | (refine Ext.alloc ?_ _; assumption) | (exact ((Ext.refl _).drew).alloc _) | (exact (Ext.refl _).alloc _) | (refine ext_putF (f := r) ?_ ?_; assumption; (first | omega | (simp; omega))))); (try simp only [Act.put, List.setIfInBounds_toArray, List.set_cons_zero, List.set_cons_succ])
     refine tkW (i := 9) (h := ?_)
     refine doneL (by kernel_rfl) ?_; go_wp2_with fail; go_meet; refine ⟨_, r, 0, rfl, rfl, hHeld, ?_, ?_, ?_⟩; (focus (first | omega | (simp; omega))); (focus (first | exact At.putF' OG r | exact (Blk.at _ 41 rfl).at')); (focus (first | exact IsQ.keep hr (IK.putF OG r) | exact IsQ.keep hr ((Ext.refl _).alloc _).ik))
   ·skip
    go_simp; refine hK.out _ _ ?_ ?_; rotate_left; clear hK K; intro hHeld; rotate_right; (focus ((try dsimp only); first | (refine Ext.alloc ?_ _; assumption) | (exact ((Ext.refl _).drew).alloc _) | (exact (Ext.refl _).alloc _) | (refine ext_putF (f := r) ?_ ?_; assumption; (first | omega | (simp; omega))))); (try simp only [Act.put, List.setIfInBounds_toArray, List.set_cons_zero, List.set_cons_succ])
    refine consL (i := 1) (by kernel_rfl) rfl (fun K hK => ?_)
    go_simp; go_at_call 110; refine (cof_q a _ HB.out.2.1 HB.out.2.2).mono ?_; rintro e w2 ⟨f, rfl, hf, hx2⟩; have sz := Ext.size hx2; (try simp only [World.size_alloc, World.size_drew] at sz); (first | (have OG := Own.ext hx2 ((Blk.at #[.bool false, .slice none 0 0, .bool false, .slice none 0 0] 41 rfl).own 4 (by simp) (noIntF _ _ _ _ _ _ _ _)) (by omega)) | (have OG := Own.ext hx2 OG (by omega)) | skip); (try simp only [World.size_alloc] at OG); go_wp2_with fail; refine hK.out _ _ ?_ ?_; rotate_left; clear hK K; intro hHeld; rotate_right; (focus (refine Ext.trans ?_ (by assumption); first | assumption | (refine Ext.alloc ?_ _; assumption))); (try simp only [Act.put, List.setIfInBounds_toArray, List.set_cons_zero, List.set_cons_succ])
    refine consL (i := 3) (by kernel_rfl) rfl (fun K hK => ?_)
    go_simp; go_at_call 56; refine (addQ_c f f1 _ _ QB 129 _ (by (first | exact hf | exact hf.keep ((Ext.refl _).alloc _).ik)) (HE1.out.2.keep (Ext.ik (by assumption))) HS.out.2.2.1 HS.out.2.2.2 QB_lt (by omega)).mono ?_; rintro e w4 ⟨r, rfl, hr, hx4⟩; have sz := Ext.size hx4; (try simp only [World.size_alloc, World.size_drew] at sz); (first | (have OG := Own.ext hx4 ((Blk.at #[.bool false, .slice none 0 0, .bool false, .slice none 0 0] 41 rfl).own 4 (by simp) (noIntF _ _ _ _ _ _ _ _)) (by omega)) | (have OG := Own.ext hx4 OG (by omega)) | skip); (try simp only [World.size_alloc] at OG); go_wp2_with fail; refine hK.out _ _ ?_ ?_; rotate_left; clear hK K; intro hHeld; rotate_right; (focus (refine Ext.trans ?_ (by assumption); first | assumption | (refine Ext.alloc ?_ _; assumption))); (try simp only [Act.put, List.setIfInBounds_toArray, List.set_cons_zero, List.set_cons_succ])
    refine tkW (i := 4) (h := ?_)
    refine tkW (i := 5) (h := ?_)
    refine tkW (i := 6) (h := ?_)
    refine consL (i := 8) (by kernel_rfl) rfl (fun K hK => ?_); go_simp; refine hK.out _ _ ?_ ?_; rotate_left; clear hK K; intro hHeld; rotate_right; (focus ((try dsimp only); first | (refine Ext.alloc ?_ _; assumption) | (exact ((Ext.refl _).drew).alloc _) | (exact (Ext.refl _).alloc _) | (refine ext_putF (f := r) ?_ ?_; assumption; (first | omega | (simp; omega))))); (try simp only [Act.put, List.setIfInBounds_toArray, List.set_cons_zero, List.set_cons_succ])
    refine tkW (i := 9) (h := ?_)
    refine doneL (by kernel_rfl) ?_; go_wp2_with fail; go_meet; refine ⟨_, r, 0, rfl, rfl, hHeld, ?_, ?_, ?_⟩; (focus (first | omega | (simp; omega))); (focus (first | exact At.putF' OG r | exact (Blk.at _ 41 rfl).at')); (focus (first | exact IsQ.keep hr (IK.putF OG r) | exact IsQ.keep hr ((Ext.refl _).alloc _).ik))
  case rest =>
   obtain ⟨G2, r, er2, rfl, rfl, hE2, hG2, AG2, hr⟩ := hcut
   have O5 := HO.out.ext (HE1.out.1.trans hE2) (by omega)
   have HR := Lib.hid (And.intro hr (HE.out.trans (HE1.out.1.trans hE2)))
   have HO5 := Lib.hid O5
   have g0 := AG2 0 (by simp); have g1 := AG2 1 (by simp); have g2 := AG2 2 (by simp); have g3 := AG2 3 (by simp); (simp only [List.getElem?_toArray, List.getElem?_cons_zero, List.getElem?_cons_succ] at g0 g1 g2 g3)
   clear hE2 hr AG2
   have o0 := O5.1 0 (by omega); have o1 := O5.1 1 (by omega); have o2 := O5.1 2 (by omega); have o3 := O5.1 3 (by omega); have of0 := O5.2.1
   obtain ⟨q0, q1, q2, q3⟩ := putF_cells O5 r
   clear O5
   go_wp2_with fail
   refine bodyPost_ret (v := r.v) (by simp [results, Try.results96, go_sem, q0, q1, q2, q3]) rfl ?_
   exact ⟨r, rfl, HR.out.1.keep (IK.putF HO5.out r), ext_putF HR.out.2 (by omega) r⟩
/-- Two fractions in boxes of their own. -/
def TwoQ (V wx : World) (s t : Value) (p q : Rat) : Prop := ∃ (G H : Nat) (f g : FV), s = .pointer (some ⟨G, 0, none⟩) ∧ t = .pointer (some ⟨H, 0, none⟩) ∧ Ext V wx ∧ At wx G f.cs ∧ At wx H g.cs ∧ IsQ wx f p ∧ IsQ wx g q
theorem part_of {u v : Int} (hu : u.natAbs ≤ 9223372036854775808) (hv : v.natAbs ≤ 9223372036854775808) (hne : u ≠ v) : ∃ (x : Int) (y : Nat), PartQ ((u : Rat) / ((u - v : Int) : Rat)) x y := by
 have hd : ((u - v : Int) : Rat) ≠ 0 := fun e => by
  have := Rat.intCast_eq_zero_iff.1 e
  omega
 have e := Rat.div_mul_cancel (a := (u : Rat)) hd
 generalize (u : Rat) / ((u - v : Int) : Rat) = l at *
 rcases Int.lt_or_le v u with h | h
 ·refine ⟨u, (u - v).natAbs, ?_, by omega, by omega, by omega⟩
  rw [show (((u - v).natAbs : Nat) : Rat) = ((u - v : Int) : Rat) by rw [← Rat.intCast_natCast]; congr 1; omega]
  exact e
 ·refine ⟨-u, (u - v).natAbs, ?_, by omega, by omega, by omega⟩
  rw [show (((u - v).natAbs : Nat) : Rat) = ((-(u - v) : Int) : Rat) by rw [← Rat.intCast_natCast]; congr 1; omega, Rat.intCast_neg, Rat.intCast_neg, ← e]
  grind
theorem crsI_bd {a b p : Pt} (ha : Good a) (hb : Good b) (hp : Good p) : (crsI a b p).natAbs ≤ 9223372036854775808 := by
 obtain ⟨a1, a2, a3, a4⟩ := ha
 obtain ⟨b1, b2, b3, b4⟩ := hb
 obtain ⟨p1, p2, p3, p4⟩ := hp
 have m1 := i32_prod (x := b.x - a.x) (y := p.y - a.y) (by omega) (by omega) (by omega) (by omega)
 have m2 := i32_prod (x := b.y - a.y) (y := p.x - a.x) (by omega) (by omega) (by omega) (by omega)
 unfold crsI; omega
end Go.Proofs.Ytagiaiocgjagnaa
