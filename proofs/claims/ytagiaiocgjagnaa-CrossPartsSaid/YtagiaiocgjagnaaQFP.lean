/- frac: Add and Sub, where nothing is too great. -/
import Derived.Test.YtagiaiocgjagnaaQWT
import Derived.Test.YtagiaiocgjagnaaQFB
/- frac: Add, where nothing is too great. -/
namespace Go.Proofs.Ytagiaiocgjagnaa
set_option linter.unusedSimpArgs false
set_option linter.unusedVariables false
open Go.RowKit

set_option maxRecDepth 100000 in
set_option maxHeartbeats 8000000 in
theorem fAdd_c (a b : FV) (p q r s : Int) (w : World) (ha : IsF w a p q) (hb : IsF w b r s) (h1 : Big (p * (s / gcdI q s))) (h2 : Big (r * (q / gcdI q s))) (h3 : Big (p * (s / gcdI q s) + r * (q / gcdI q s))) (h4 : Big (q / gcdI q s * s)) :
  Calls Try.prog 56 #[a.v, b.v] w (RetQ ((p * (s / gcdI q s) + r * (q / gcdI q s)) / gcdI (p * (s / gcdI q s) + r * (q / gcdI q s)) (q / gcdI q s * s)) (q / gcdI q s * s / gcdI (p * (s / gcdI q s) + r * (q / gcdI q s)) (q / gcdI q s * s)) w) := by
 have HA := Lib.hid ha; have HB := Lib.hid hb
 have hs1 := hb.pos
 have hgp := gcdI_pos (x := q) hs1
 have hgl := gcdI_le (x := q) hs1
 have hlow := low_of q s hs1
 have hq1 := ha.pos
 have hQ1 : 1 ≤ q / gcdI q s := (Int.le_ediv_iff_mul_le (by omega)).2 (by rw [Int.one_mul]; exact Int.le_of_dvd (by omega) (gcdI_dvd q s).1)
 have hgg : ((Nat.gcd q.natAbs s.natAbs : Nat) : Int) = gcdI q s := rfl
 obtain ⟨gg, hgv⟩ : ∃ z, gcdI q s = z := ⟨_, rfl⟩
 rw [hgv] at h1 h2 h3 h4 hgp hgl hlow hQ1 hgg ⊢
 have L1 := Lib.hid (lim_big h1); have L2 := Lib.hid (lim_big h2); have L3 := Lib.hid (lim_big h3)
 have L4 := Lib.hid (lim_big h4); have HLOW := Lib.hid hlow; have HGG := Lib.hid hgg;
 have hD1 : 1 ≤ q / gg * s := by
  have := Int.mul_le_mul hQ1 hs1 (by omega) (by omega)
  simpa using this
 clear ha hb h1 h2 h3 h4 hlow hgg hgv
 go_enter Try.func56, Try.ntmps56
 go_upto_region 1 with (fail)
 obtain ⟨B, hB⟩ : ∃ B, w.heap.size = B := ⟨_, rfl⟩
 refine wp_gen (fun W => Ext w W ∧ At W B #[.bool a.n.neg, .slice a.n.a a.n.n a.n.c, .bool a.d.neg, .slice a.d.a a.d.n a.d.c] ∧ At W (B + 1) #[.bool b.n.neg, .slice b.n.a b.n.n b.n.c, .bool b.d.neg, .slice b.d.a b.d.n b.d.c] ∧ Own W (B + 1 + 1) 4) ⟨(by repeat (first | exact Ext.refl _ | assumption | refine Ext.setCell ?_ (by first | (simp; done) | (simp; omega) | omega) _ | refine Ext.alloc ?_ _ | refine Ext.drew ?_ | refine Ext.trans ?_ (by assumption))), (((Blk.at _ 41 hB.symm).alloc _).alloc _).at', ((Blk.at _ 41 (by simp [hB])).alloc _).at', (Blk.at #[.bool false, .slice none 0 0, .bool false, .slice none 0 0] 41 (by simp [hB])).own _ (by simp) (noIntF _ _ _ _ _ _ _ _)⟩ ?_
 try rw [hB]
 rintro V ⟨E0, A0, A1, O2⟩
 have HE := Lib.hid E0
 go_cut [6] (fun s wx => ∃ (G : Nat) (g : IV), s = .pointer (some ⟨G, 0, none⟩) ∧ (Ext w wx ∧ At wx B #[.bool a.n.neg, .slice a.n.a a.n.n a.n.c, .bool a.d.neg, .slice a.d.a a.d.n a.d.c] ∧ At wx (B + 1) #[.bool b.n.neg, .slice b.n.a b.n.n b.n.c, .bool b.d.neg, .slice b.d.a b.d.n b.d.c] ∧ Own wx (B + 1 + 1) 4) ∧ B + 1 + 1 < G ∧ At wx G #[.bool g.neg, .slice g.a g.n g.c] ∧ IsI wx g gg)
 case first =>
  have lv := O2.lt (by omega)
  refine wp_region_held_drew (S := fun w' => Ext w w' ∧ At w' B #[.bool a.n.neg, .slice a.n.a a.n.n a.n.c, .bool a.d.neg, .slice a.d.a a.d.n a.d.c] ∧ At w' (B + 1) #[.bool b.n.neg, .slice b.n.a b.n.n b.n.c, .bool b.d.neg, .slice b.d.a b.d.n b.d.c] ∧ Own w' (B + 1 + 1) 4) (by kernel_rfl) ?_ (fun hHeld => ?_)
  ·exact ⟨E0.drew, A0, A1, O2⟩
  refine tkW (i := 0) (h := ?_)
  refine tkW (i := 2) (h := ?_)
  refine cons2L (i := 1) (j := 5) (by kernel_rfl) rfl rfl (fun K hK => ?_) (fun K hK => ?_)
  ·skip
   go_simp; go_at_call 79; refine (Den_c a p q _ (HA.out.keep (Ext.ik (And.left (by assumption))))).mono ?_; rintro e w2 ⟨t1, rfl, ht1, hx2⟩; have HX2 := Lib.hid hx2; have sz := Ext.size hx2; (try simp only [World.size_alloc, World.size_drew] at sz); (first | (have OG := Own.ext hx2 ((Blk.at #[.bool false, .slice none 0 0] 39 rfl).own 2 (by simp) noIntW) (by omega)) | (have OG := Own.ext hx2 (((Blk.at #[.bool false, .slice none 0 0] 39 rfl).alloc _).own 2 (by simp) noIntW) (by omega)) | (have OG := Own.ext hx2 OG (by omega)) | (have OG := Own.ext (Ext.trans ((Ext.refl _).alloc _) hx2) OG (by omega)) | skip); (try simp only [World.size_alloc] at OG); go_wp2_with fail; refine hK.out _ _ ?_ (fun hHeld => ?_); rotate_left; clear hK K; rotate_right; (focus ((try dsimp only); exact kept)); (try simp only [Act.put, List.setIfInBounds_toArray, List.set_cons_zero, List.set_cons_succ])
   refine cons2L (i := 3) (j := 5) (by kernel_rfl) rfl rfl (fun K hK => ?_) (fun K hK => ?_)
   ·skip
    go_simp; go_at_call 79; refine (Den_c b r s _ (HB.out.keep (Ext.ik (And.left (by assumption))))).mono ?_; rintro e w3 ⟨t2, rfl, ht2, hx3⟩; have HX3 := Lib.hid hx3; have sz := Ext.size hx3; (try simp only [World.size_alloc, World.size_drew] at sz); (first | (have OG := Own.ext hx3 ((Blk.at #[.bool false, .slice none 0 0] 39 rfl).own 2 (by simp) noIntW) (by omega)) | (have OG := Own.ext hx3 (((Blk.at #[.bool false, .slice none 0 0] 39 rfl).alloc _).own 2 (by simp) noIntW) (by omega)) | (have OG := Own.ext hx3 OG (by omega)) | (have OG := Own.ext (Ext.trans ((Ext.refl _).alloc _) hx3) OG (by omega)) | skip); (try simp only [World.size_alloc] at OG); go_wp2_with fail; refine hK.out _ _ ?_ (fun hHeld => ?_); rotate_left; clear hK K; rotate_right; (focus ((try dsimp only); exact kept)); (try simp only [Act.put, List.setIfInBounds_toArray, List.set_cons_zero, List.set_cons_succ])
    refine cons2L (i := 4) (j := 5) (by kernel_rfl) rfl rfl (fun K hK => ?_) (fun K hK => ?_)
    ·skip
     go_simp; go_at_call 78; refine (Gcd_c t1 t2 q s _ (by first | exact ht1.keep (Ext.ik HX3.out) | exact ht1.keep (Ext.ik (Ext.trans HX3.out ((Ext.refl _).alloc _))) | exact ht1.keep (Ext.ik (Ext.trans ((Ext.refl _).alloc _) HX3.out))) (by first | exact ht2 | exact ht2.keep ((Ext.refl _).alloc _).ik)).mono ?_; rw [HGG.out]; rintro e w4 ⟨g, rfl, hg, hx4⟩; have sz := Ext.size hx4; (try simp only [World.size_alloc, World.size_drew] at sz); (first | (have OG := Own.ext hx4 ((Blk.at #[.bool false, .slice none 0 0] 39 rfl).own 2 (by simp) noIntW) (by omega)) | (have OG := Own.ext hx4 (((Blk.at #[.bool false, .slice none 0 0] 39 rfl).alloc _).own 2 (by simp) noIntW) (by omega)) | (have OG := Own.ext hx4 OG (by omega)) | (have OG := Own.ext (Ext.trans ((Ext.refl _).alloc _) hx4) OG (by omega)) | skip); (try simp only [World.size_alloc] at OG); go_wp2_with fail; refine hK.out _ _ ?_ (fun hHeld => ?_); rotate_left; clear hK K; rotate_right; (focus ((try dsimp only); exact kept)); (try simp only [Act.put, List.setIfInBounds_toArray, List.set_cons_zero, List.set_cons_succ])
     refine consL (i := 5) (by kernel_rfl) rfl (fun K hK => ?_); go_simp; refine hK.out _ _ ?_ (fun hHeld => ?_); rotate_left; clear hK K; rotate_right; (focus ((try dsimp only); exact kept)); (try simp only [Act.put, List.setIfInBounds_toArray, List.set_cons_zero, List.set_cons_succ])
     refine consL (i := 6) (by kernel_rfl) rfl (fun K hK => ?_); go_simp; refine hK.out _ _ ?_ (fun hHeld => ?_); rotate_left; clear hK K; rotate_right; (focus ((try dsimp only); exact kept)); (try simp only [Act.put, List.setIfInBounds_toArray, List.set_cons_zero, List.set_cons_succ])
     refine doneL (by kernel_rfl) ?_
     go_wp2_with fail
     go_meet
     exact ⟨_, g, rfl, hHeld, by omega, by first | exact (Blk.at _ 39 rfl).at' | exact At.mk2 (put2_cells OG _ _).1 (put2_cells OG _ _).2, by first | exact hg.keep ((Ext.refl _).alloc _).ik | exact hg.keep (IK.put2 OG _ _ _ _)⟩
    ·skip
     go_simp; refine hK.out _ _ ?_ (fun hHeld => ?_); rotate_left; clear hK K; rotate_right; (focus ((try dsimp only); exact kept)); (try simp only [Act.put, List.setIfInBounds_toArray, List.set_cons_zero, List.set_cons_succ])
     refine consL (i := 4) (by kernel_rfl) rfl (fun K hK => ?_)
     go_simp; go_at_call 78; refine (Gcd_c t1 t2 q s _ (by first | exact ht1.keep (Ext.ik HX3.out) | exact ht1.keep (Ext.ik (Ext.trans HX3.out ((Ext.refl _).alloc _))) | exact ht1.keep (Ext.ik (Ext.trans ((Ext.refl _).alloc _) HX3.out))) (by first | exact ht2 | exact ht2.keep ((Ext.refl _).alloc _).ik)).mono ?_; rw [HGG.out]; rintro e w4 ⟨g, rfl, hg, hx4⟩; have sz := Ext.size hx4; (try simp only [World.size_alloc, World.size_drew] at sz); (first | (have OG := Own.ext hx4 ((Blk.at #[.bool false, .slice none 0 0] 39 rfl).own 2 (by simp) noIntW) (by omega)) | (have OG := Own.ext hx4 (((Blk.at #[.bool false, .slice none 0 0] 39 rfl).alloc _).own 2 (by simp) noIntW) (by omega)) | (have OG := Own.ext hx4 OG (by omega)) | (have OG := Own.ext (Ext.trans ((Ext.refl _).alloc _) hx4) OG (by omega)) | skip); (try simp only [World.size_alloc] at OG); go_wp2_with fail; refine hK.out _ _ ?_ (fun hHeld => ?_); rotate_left; clear hK K; rotate_right; (focus ((try dsimp only); exact kept)); (try simp only [Act.put, List.setIfInBounds_toArray, List.set_cons_zero, List.set_cons_succ])
     refine consL (i := 6) (by kernel_rfl) rfl (fun K hK => ?_); go_simp; refine hK.out _ _ ?_ (fun hHeld => ?_); rotate_left; clear hK K; rotate_right; (focus ((try dsimp only); exact kept)); (try simp only [Act.put, List.setIfInBounds_toArray, List.set_cons_zero, List.set_cons_succ])
     refine doneL (by kernel_rfl) ?_
     go_wp2_with fail
     go_meet
     exact ⟨_, g, rfl, hHeld, by omega, by first | exact (Blk.at _ 39 rfl).at' | exact At.mk2 (put2_cells OG _ _).1 (put2_cells OG _ _).2, by first | exact hg.keep ((Ext.refl _).alloc _).ik | exact hg.keep (IK.put2 OG _ _ _ _)⟩
   ·skip
    go_simp; refine hK.out _ _ ?_ (fun hHeld => ?_); rotate_left; clear hK K; rotate_right; (focus ((try dsimp only); exact kept)); (try simp only [Act.put, List.setIfInBounds_toArray, List.set_cons_zero, List.set_cons_succ])
    refine consL (i := 3) (by kernel_rfl) rfl (fun K hK => ?_)
    go_simp; go_at_call 79; refine (Den_c b r s _ (HB.out.keep (Ext.ik (And.left (by assumption))))).mono ?_; rintro e w3 ⟨t2, rfl, ht2, hx3⟩; have HX3 := Lib.hid hx3; have sz := Ext.size hx3; (try simp only [World.size_alloc, World.size_drew] at sz); (first | (have OG := Own.ext hx3 ((Blk.at #[.bool false, .slice none 0 0] 39 rfl).own 2 (by simp) noIntW) (by omega)) | (have OG := Own.ext hx3 (((Blk.at #[.bool false, .slice none 0 0] 39 rfl).alloc _).own 2 (by simp) noIntW) (by omega)) | (have OG := Own.ext hx3 OG (by omega)) | (have OG := Own.ext (Ext.trans ((Ext.refl _).alloc _) hx3) OG (by omega)) | skip); (try simp only [World.size_alloc] at OG); go_wp2_with fail; refine hK.out _ _ ?_ (fun hHeld => ?_); rotate_left; clear hK K; rotate_right; (focus ((try dsimp only); exact kept)); (try simp only [Act.put, List.setIfInBounds_toArray, List.set_cons_zero, List.set_cons_succ])
    refine consL (i := 4) (by kernel_rfl) rfl (fun K hK => ?_)
    go_simp; go_at_call 78; refine (Gcd_c t1 t2 q s _ (by first | exact ht1.keep (Ext.ik HX3.out) | exact ht1.keep (Ext.ik (Ext.trans HX3.out ((Ext.refl _).alloc _))) | exact ht1.keep (Ext.ik (Ext.trans ((Ext.refl _).alloc _) HX3.out))) (by first | exact ht2 | exact ht2.keep ((Ext.refl _).alloc _).ik)).mono ?_; rw [HGG.out]; rintro e w4 ⟨g, rfl, hg, hx4⟩; have sz := Ext.size hx4; (try simp only [World.size_alloc, World.size_drew] at sz); (first | (have OG := Own.ext hx4 ((Blk.at #[.bool false, .slice none 0 0] 39 rfl).own 2 (by simp) noIntW) (by omega)) | (have OG := Own.ext hx4 (((Blk.at #[.bool false, .slice none 0 0] 39 rfl).alloc _).own 2 (by simp) noIntW) (by omega)) | (have OG := Own.ext hx4 OG (by omega)) | (have OG := Own.ext (Ext.trans ((Ext.refl _).alloc _) hx4) OG (by omega)) | skip); (try simp only [World.size_alloc] at OG); go_wp2_with fail; refine hK.out _ _ ?_ (fun hHeld => ?_); rotate_left; clear hK K; rotate_right; (focus ((try dsimp only); exact kept)); (try simp only [Act.put, List.setIfInBounds_toArray, List.set_cons_zero, List.set_cons_succ])
    refine consL (i := 6) (by kernel_rfl) rfl (fun K hK => ?_); go_simp; refine hK.out _ _ ?_ (fun hHeld => ?_); rotate_left; clear hK K; rotate_right; (focus ((try dsimp only); exact kept)); (try simp only [Act.put, List.setIfInBounds_toArray, List.set_cons_zero, List.set_cons_succ])
    refine doneL (by kernel_rfl) ?_
    go_wp2_with fail
    go_meet
    exact ⟨_, g, rfl, hHeld, by omega, by first | exact (Blk.at _ 39 rfl).at' | exact At.mk2 (put2_cells OG _ _).1 (put2_cells OG _ _).2, by first | exact hg.keep ((Ext.refl _).alloc _).ik | exact hg.keep (IK.put2 OG _ _ _ _)⟩
  ·skip
   go_simp; refine hK.out _ _ ?_ (fun hHeld => ?_); rotate_left; clear hK K; rotate_right; (focus ((try dsimp only); exact kept)); (try simp only [Act.put, List.setIfInBounds_toArray, List.set_cons_zero, List.set_cons_succ])
   refine consL (i := 1) (by kernel_rfl) rfl (fun K hK => ?_)
   go_simp; go_at_call 79; refine (Den_c a p q _ (HA.out.keep (Ext.ik (And.left (by assumption))))).mono ?_; rintro e w2 ⟨t1, rfl, ht1, hx2⟩; have HX2 := Lib.hid hx2; have sz := Ext.size hx2; (try simp only [World.size_alloc, World.size_drew] at sz); (first | (have OG := Own.ext hx2 ((Blk.at #[.bool false, .slice none 0 0] 39 rfl).own 2 (by simp) noIntW) (by omega)) | (have OG := Own.ext hx2 (((Blk.at #[.bool false, .slice none 0 0] 39 rfl).alloc _).own 2 (by simp) noIntW) (by omega)) | (have OG := Own.ext hx2 OG (by omega)) | (have OG := Own.ext (Ext.trans ((Ext.refl _).alloc _) hx2) OG (by omega)) | skip); (try simp only [World.size_alloc] at OG); go_wp2_with fail; refine hK.out _ _ ?_ (fun hHeld => ?_); rotate_left; clear hK K; rotate_right; (focus ((try dsimp only); exact kept)); (try simp only [Act.put, List.setIfInBounds_toArray, List.set_cons_zero, List.set_cons_succ])
   refine consL (i := 3) (by kernel_rfl) rfl (fun K hK => ?_)
   go_simp; go_at_call 79; refine (Den_c b r s _ (HB.out.keep (Ext.ik (And.left (by assumption))))).mono ?_; rintro e w3 ⟨t2, rfl, ht2, hx3⟩; have HX3 := Lib.hid hx3; have sz := Ext.size hx3; (try simp only [World.size_alloc, World.size_drew] at sz); (first | (have OG := Own.ext hx3 ((Blk.at #[.bool false, .slice none 0 0] 39 rfl).own 2 (by simp) noIntW) (by omega)) | (have OG := Own.ext hx3 (((Blk.at #[.bool false, .slice none 0 0] 39 rfl).alloc _).own 2 (by simp) noIntW) (by omega)) | (have OG := Own.ext hx3 OG (by omega)) | (have OG := Own.ext (Ext.trans ((Ext.refl _).alloc _) hx3) OG (by omega)) | skip); (try simp only [World.size_alloc] at OG); go_wp2_with fail; refine hK.out _ _ ?_ (fun hHeld => ?_); rotate_left; clear hK K; rotate_right; (focus ((try dsimp only); exact kept)); (try simp only [Act.put, List.setIfInBounds_toArray, List.set_cons_zero, List.set_cons_succ])
   refine consL (i := 4) (by kernel_rfl) rfl (fun K hK => ?_)
   go_simp; go_at_call 78; refine (Gcd_c t1 t2 q s _ (by first | exact ht1.keep (Ext.ik HX3.out) | exact ht1.keep (Ext.ik (Ext.trans HX3.out ((Ext.refl _).alloc _))) | exact ht1.keep (Ext.ik (Ext.trans ((Ext.refl _).alloc _) HX3.out))) (by first | exact ht2 | exact ht2.keep ((Ext.refl _).alloc _).ik)).mono ?_; rw [HGG.out]; rintro e w4 ⟨g, rfl, hg, hx4⟩; have sz := Ext.size hx4; (try simp only [World.size_alloc, World.size_drew] at sz); (first | (have OG := Own.ext hx4 ((Blk.at #[.bool false, .slice none 0 0] 39 rfl).own 2 (by simp) noIntW) (by omega)) | (have OG := Own.ext hx4 (((Blk.at #[.bool false, .slice none 0 0] 39 rfl).alloc _).own 2 (by simp) noIntW) (by omega)) | (have OG := Own.ext hx4 OG (by omega)) | (have OG := Own.ext (Ext.trans ((Ext.refl _).alloc _) hx4) OG (by omega)) | skip); (try simp only [World.size_alloc] at OG); go_wp2_with fail; refine hK.out _ _ ?_ (fun hHeld => ?_); rotate_left; clear hK K; rotate_right; (focus ((try dsimp only); exact kept)); (try simp only [Act.put, List.setIfInBounds_toArray, List.set_cons_zero, List.set_cons_succ])
   refine consL (i := 6) (by kernel_rfl) rfl (fun K hK => ?_); go_simp; refine hK.out _ _ ?_ (fun hHeld => ?_); rotate_left; clear hK K; rotate_right; (focus ((try dsimp only); exact kept)); (try simp only [Act.put, List.setIfInBounds_toArray, List.set_cons_zero, List.set_cons_succ])
   refine doneL (by kernel_rfl) ?_
   go_wp2_with fail
   go_meet
   exact ⟨_, g, rfl, hHeld, by omega, by first | exact (Blk.at _ 39 rfl).at' | exact At.mk2 (put2_cells OG _ _).1 (put2_cells OG _ _).2, by first | exact hg.keep ((Ext.refl _).alloc _).ik | exact hg.keep (IK.put2 OG _ _ _ _)⟩
 case rest =>
  obtain ⟨G, g, rfl, ⟨E0, A0, A1, O2⟩, hBG, AG, hg⟩ := hcut
  have HGI := Lib.hid hg
  clear hg
  have lv : B + 1 + 1 < wc.heap.size := O2.lt (by omega)
  have HW := Lib.hid E0
  have lg := AG.lt (by simp)
  obtain ⟨wd, rfl⟩ : ∃ W, W = wc := ⟨_, rfl⟩
  go_upto_region 2 with (fail)
  go_cut [7, 8] (fun s7 s8 wx => ∃ (H : Nat) (x : IV), s7 = .pointer (some ⟨H, 0, none⟩) ∧ s8 = .int .i64 0 ∧ Ext wd wx ∧ B + 1 + 1 < H ∧ At wx H #[.bool x.neg, .slice x.a x.n x.c] ∧ IsI wx x (p * (s / gg)))
  case first =>
   refine wp_region_held_drew (S := fun w' => Ext wd w' ∧ At w' B #[.bool a.n.neg, .slice a.n.a a.n.n a.n.c, .bool a.d.neg, .slice a.d.a a.d.n a.d.c] ∧ At w' (B + 1) #[.bool b.n.neg, .slice b.n.a b.n.n b.n.c, .bool b.d.neg, .slice b.d.a b.d.n b.d.c] ∧ At w' G #[.bool g.neg, .slice g.a g.n g.c]) (by kernel_rfl) ?_ (fun hHeld => ?_)
   ·exact ⟨(Ext.refl wd).drew, A0, A1, AG⟩
   refine tkW (i := 0) (h := ?_)
   refine tkW (i := 1) (h := ?_)
   refine tkW (i := 2) (h := ?_)
   refine tkW (i := 4) (h := ?_)
   refine cons2L (i := 3) (j := 11) (by kernel_rfl) rfl rfl (fun K hK => ?_) (fun K hK => ?_)
   ·skip
    go_simp; go_at_call 79; refine (Den_c b r s _ (HB.out.keep (Ext.ik (Ext.trans HW.out (And.left (by assumption)))))).mono ?_; rintro e w3 ⟨t3, rfl, ht3, hxt3⟩; have HXt3 := Lib.hid hxt3; have sz := Ext.size hxt3; (try simp only [World.size_alloc, World.size_drew] at sz); (first | (have OG := Own.ext hxt3 ((Blk.at #[.bool false, .slice none 0 0] 39 rfl).own 2 (by simp) noIntW) (by omega)) | (have OG := Own.ext hxt3 (((Blk.at #[.bool false, .slice none 0 0] 39 rfl).alloc _).own 2 (by simp) noIntW) (by omega)) | (have OG := Own.ext hxt3 OG (by omega)) | (have OG := Own.ext (Ext.trans ((Ext.refl _).alloc _) hxt3) OG (by omega)) | skip); (try simp only [World.size_alloc] at OG); go_wp2_with fail; refine hK.out _ _ ?_ (fun hHeld => ?_); rotate_left; clear hK K; rotate_right; (focus ((try dsimp only); exact kept)); (try simp only [Act.put, List.setIfInBounds_toArray, List.set_cons_zero, List.set_cons_succ])
    refine cons2L (i := 5) (j := 11) (by kernel_rfl) rfl rfl (fun K hK => ?_) (fun K hK => ?_)
    ·skip
     go_simp; go_at_call 81; refine (over_c t3 g s gg _ (by first | exact ht3 | exact ht3.keep ((Ext.refl _).alloc _).ik) (HGI.out.keep (Ext.ik (And.left (by assumption)))) (by omega)).mono ?_; rintro e w5 ⟨o5, rfl, ho5, hxo5⟩; have HXo5 := Lib.hid hxo5; have sz := Ext.size hxo5; (try simp only [World.size_alloc, World.size_drew] at sz); (first | (have OG := Own.ext hxo5 ((Blk.at #[.bool false, .slice none 0 0] 39 rfl).own 2 (by simp) noIntW) (by omega)) | (have OG := Own.ext hxo5 (((Blk.at #[.bool false, .slice none 0 0] 39 rfl).alloc _).own 2 (by simp) noIntW) (by omega)) | (have OG := Own.ext hxo5 OG (by omega)) | (have OG := Own.ext (Ext.trans ((Ext.refl _).alloc _) hxo5) OG (by omega)) | skip); (try simp only [World.size_alloc] at OG); go_wp2_with fail; refine hK.out _ _ ?_ (fun hHeld => ?_); rotate_left; clear hK K; rotate_right; (focus ((try dsimp only); exact kept)); (try simp only [Act.put, List.setIfInBounds_toArray, List.set_cons_zero, List.set_cons_succ])
     refine cons2L (i := 6) (j := 11) (by kernel_rfl) rfl rfl (fun K hK => ?_) (fun K hK => ?_)
     ·skip
      go_simp; refine hK.out _ _ ?_ (fun hHeld => ?_); rotate_left; clear hK K; rotate_right; (focus ((try dsimp only); exact kept)); (try simp only [Act.put, List.setIfInBounds_toArray, List.set_cons_zero, List.set_cons_succ])
      refine cons2L (i := 7) (j := 11) (by kernel_rfl) rfl rfl (fun K hK => ?_) (fun K hK => ?_)
      ·skip
       go_simp; go_at_call 80; refine (ftimes_c a.n o5 (p) (s / gg) _ _ _ (by first | exact (Blk.at _ _ rfl).at' | exact (Blk.at _ _ (by simp)).at' | exact ((Blk.at _ _ rfl).alloc _).at' | exact ((Blk.at _ _ (by simp)).alloc _).at') (HA.out.num.keep (Ext.ik (Ext.trans HW.out (And.left (by assumption))))) (by first | exact ho5.keep ((Ext.refl _).alloc _).ik | exact ho5.keep (((Ext.refl _).alloc _).alloc _).ik)).mono ?_; rw [L1.out]; rintro e w7 ⟨t7, rfl, ht7, hxt7⟩; have HXt7 := Lib.hid hxt7; have sz := Ext.size hxt7; (try simp only [World.size_alloc, World.size_drew] at sz); (first | (have OG := Own.ext hxt7 ((Blk.at #[.bool false, .slice none 0 0] 39 rfl).own 2 (by simp) noIntW) (by omega)) | (have OG := Own.ext hxt7 (((Blk.at #[.bool false, .slice none 0 0] 39 rfl).alloc _).own 2 (by simp) noIntW) (by omega)) | (have OG := Own.ext hxt7 OG (by omega)) | (have OG := Own.ext (Ext.trans ((Ext.refl _).alloc _) hxt7) OG (by omega)) | skip); (try simp only [World.size_alloc] at OG); go_wp2_with fail; refine hK.out _ _ ?_ (fun hHeld => ?_); rotate_left; clear hK K; rotate_right; (focus ((try dsimp only); exact kept)); (try simp only [Act.put, List.setIfInBounds_toArray, List.set_cons_zero, List.set_cons_succ])
       refine tkW (i := 8) (h := ?_)
       refine tkW (i := 9) (h := ?_)
       refine tkW (i := 10) (h := ?_)
       refine consL (i := 11) (by kernel_rfl) rfl (fun K hK => ?_); go_simp; refine hK.out _ _ ?_ (fun hHeld => ?_); rotate_left; clear hK K; rotate_right; (focus ((try dsimp only); exact kept)); (try simp only [Act.put, List.setIfInBounds_toArray, List.set_cons_zero, List.set_cons_succ])
       refine consL (i := 12) (by kernel_rfl) rfl (fun K hK => ?_); go_simp; refine hK.out _ _ ?_ (fun hHeld => ?_); rotate_left; clear hK K; rotate_right; (focus ((try dsimp only); exact kept)); (try simp only [Act.put, List.setIfInBounds_toArray, List.set_cons_zero, List.set_cons_succ])
       refine consL (i := 13) (by kernel_rfl) rfl (fun K hK => ?_); go_simp; refine hK.out _ _ ?_ (fun hHeld => ?_); rotate_left; clear hK K; rotate_right; (focus ((try dsimp only); exact kept)); (try simp only [Act.put, List.setIfInBounds_toArray, List.set_cons_zero, List.set_cons_succ])
       refine doneL (by kernel_rfl) ?_
       go_wp2_with fail
       go_meet
       exact ⟨_, t7, rfl, rfl, And.left hHeld, by omega, by first | exact (Blk.at _ 39 rfl).at' | exact At.mk2 (put2_cells OG _ _).1 (put2_cells OG _ _).2, by first | exact ht7.keep ((Ext.refl _).alloc _).ik | exact ht7.keep (IK.put2 OG _ _ _ _)⟩
      ·skip
       go_simp; refine hK.out _ _ ?_ (fun hHeld => ?_); rotate_left; clear hK K; rotate_right; (focus ((try dsimp only); exact kept)); (try simp only [Act.put, List.setIfInBounds_toArray, List.set_cons_zero, List.set_cons_succ])
       refine consL (i := 7) (by kernel_rfl) rfl (fun K hK => ?_)
       go_simp; go_at_call 80; refine (ftimes_c a.n o5 (p) (s / gg) _ _ _ (by first | exact (Blk.at _ _ rfl).at' | exact (Blk.at _ _ (by simp)).at' | exact ((Blk.at _ _ rfl).alloc _).at' | exact ((Blk.at _ _ (by simp)).alloc _).at') (HA.out.num.keep (Ext.ik (Ext.trans HW.out (And.left (by assumption))))) (by first | exact ho5.keep ((Ext.refl _).alloc _).ik | exact ho5.keep (((Ext.refl _).alloc _).alloc _).ik)).mono ?_; rw [L1.out]; rintro e w7 ⟨t7, rfl, ht7, hxt7⟩; have HXt7 := Lib.hid hxt7; have sz := Ext.size hxt7; (try simp only [World.size_alloc, World.size_drew] at sz); (first | (have OG := Own.ext hxt7 ((Blk.at #[.bool false, .slice none 0 0] 39 rfl).own 2 (by simp) noIntW) (by omega)) | (have OG := Own.ext hxt7 (((Blk.at #[.bool false, .slice none 0 0] 39 rfl).alloc _).own 2 (by simp) noIntW) (by omega)) | (have OG := Own.ext hxt7 OG (by omega)) | (have OG := Own.ext (Ext.trans ((Ext.refl _).alloc _) hxt7) OG (by omega)) | skip); (try simp only [World.size_alloc] at OG); go_wp2_with fail; refine hK.out _ _ ?_ (fun hHeld => ?_); rotate_left; clear hK K; rotate_right; (focus ((try dsimp only); exact kept)); (try simp only [Act.put, List.setIfInBounds_toArray, List.set_cons_zero, List.set_cons_succ])
       refine tkW (i := 8) (h := ?_)
       refine tkW (i := 9) (h := ?_)
       refine tkW (i := 10) (h := ?_)
       refine consL (i := 12) (by kernel_rfl) rfl (fun K hK => ?_); go_simp; refine hK.out _ _ ?_ (fun hHeld => ?_); rotate_left; clear hK K; rotate_right; (focus ((try dsimp only); exact kept)); (try simp only [Act.put, List.setIfInBounds_toArray, List.set_cons_zero, List.set_cons_succ])
       refine consL (i := 13) (by kernel_rfl) rfl (fun K hK => ?_); go_simp; refine hK.out _ _ ?_ (fun hHeld => ?_); rotate_left; clear hK K; rotate_right; (focus ((try dsimp only); exact kept)); (try simp only [Act.put, List.setIfInBounds_toArray, List.set_cons_zero, List.set_cons_succ])
       refine doneL (by kernel_rfl) ?_
       go_wp2_with fail
       go_meet
       exact ⟨_, t7, rfl, rfl, And.left hHeld, by omega, by first | exact (Blk.at _ 39 rfl).at' | exact At.mk2 (put2_cells OG _ _).1 (put2_cells OG _ _).2, by first | exact ht7.keep ((Ext.refl _).alloc _).ik | exact ht7.keep (IK.put2 OG _ _ _ _)⟩
     ·skip
      go_simp; refine hK.out _ _ ?_ (fun hHeld => ?_); rotate_left; clear hK K; rotate_right; (focus ((try dsimp only); exact kept)); (try simp only [Act.put, List.setIfInBounds_toArray, List.set_cons_zero, List.set_cons_succ])
      refine consL (i := 6) (by kernel_rfl) rfl (fun K hK => ?_)
      go_simp; refine hK.out _ _ ?_ (fun hHeld => ?_); rotate_left; clear hK K; rotate_right; (focus ((try dsimp only); exact kept)); (try simp only [Act.put, List.setIfInBounds_toArray, List.set_cons_zero, List.set_cons_succ])
      refine consL (i := 7) (by kernel_rfl) rfl (fun K hK => ?_)
      go_simp; go_at_call 80; refine (ftimes_c a.n o5 (p) (s / gg) _ _ _ (by first | exact (Blk.at _ _ rfl).at' | exact (Blk.at _ _ (by simp)).at' | exact ((Blk.at _ _ rfl).alloc _).at' | exact ((Blk.at _ _ (by simp)).alloc _).at') (HA.out.num.keep (Ext.ik (Ext.trans HW.out (And.left (by assumption))))) (by first | exact ho5.keep ((Ext.refl _).alloc _).ik | exact ho5.keep (((Ext.refl _).alloc _).alloc _).ik)).mono ?_; rw [L1.out]; rintro e w7 ⟨t7, rfl, ht7, hxt7⟩; have HXt7 := Lib.hid hxt7; have sz := Ext.size hxt7; (try simp only [World.size_alloc, World.size_drew] at sz); (first | (have OG := Own.ext hxt7 ((Blk.at #[.bool false, .slice none 0 0] 39 rfl).own 2 (by simp) noIntW) (by omega)) | (have OG := Own.ext hxt7 (((Blk.at #[.bool false, .slice none 0 0] 39 rfl).alloc _).own 2 (by simp) noIntW) (by omega)) | (have OG := Own.ext hxt7 OG (by omega)) | (have OG := Own.ext (Ext.trans ((Ext.refl _).alloc _) hxt7) OG (by omega)) | skip); (try simp only [World.size_alloc] at OG); go_wp2_with fail; refine hK.out _ _ ?_ (fun hHeld => ?_); rotate_left; clear hK K; rotate_right; (focus ((try dsimp only); exact kept)); (try simp only [Act.put, List.setIfInBounds_toArray, List.set_cons_zero, List.set_cons_succ])
      refine tkW (i := 8) (h := ?_)
      refine tkW (i := 9) (h := ?_)
      refine tkW (i := 10) (h := ?_)
      refine consL (i := 12) (by kernel_rfl) rfl (fun K hK => ?_); go_simp; refine hK.out _ _ ?_ (fun hHeld => ?_); rotate_left; clear hK K; rotate_right; (focus ((try dsimp only); exact kept)); (try simp only [Act.put, List.setIfInBounds_toArray, List.set_cons_zero, List.set_cons_succ])
      refine consL (i := 13) (by kernel_rfl) rfl (fun K hK => ?_); go_simp; refine hK.out _ _ ?_ (fun hHeld => ?_); rotate_left; clear hK K; rotate_right; (focus ((try dsimp only); exact kept)); (try simp only [Act.put, List.setIfInBounds_toArray, List.set_cons_zero, List.set_cons_succ])
      refine doneL (by kernel_rfl) ?_
      go_wp2_with fail
      go_meet
      exact ⟨_, t7, rfl, rfl, And.left hHeld, by omega, by first | exact (Blk.at _ 39 rfl).at' | exact At.mk2 (put2_cells OG _ _).1 (put2_cells OG _ _).2, by first | exact ht7.keep ((Ext.refl _).alloc _).ik | exact ht7.keep (IK.put2 OG _ _ _ _)⟩
    ·skip
     go_simp; refine hK.out _ _ ?_ (fun hHeld => ?_); rotate_left; clear hK K; rotate_right; (focus ((try dsimp only); exact kept)); (try simp only [Act.put, List.setIfInBounds_toArray, List.set_cons_zero, List.set_cons_succ])
     refine consL (i := 5) (by kernel_rfl) rfl (fun K hK => ?_)
     go_simp; go_at_call 81; refine (over_c t3 g s gg _ (by first | exact ht3 | exact ht3.keep ((Ext.refl _).alloc _).ik) (HGI.out.keep (Ext.ik (And.left (by assumption)))) (by omega)).mono ?_; rintro e w5 ⟨o5, rfl, ho5, hxo5⟩; have HXo5 := Lib.hid hxo5; have sz := Ext.size hxo5; (try simp only [World.size_alloc, World.size_drew] at sz); (first | (have OG := Own.ext hxo5 ((Blk.at #[.bool false, .slice none 0 0] 39 rfl).own 2 (by simp) noIntW) (by omega)) | (have OG := Own.ext hxo5 (((Blk.at #[.bool false, .slice none 0 0] 39 rfl).alloc _).own 2 (by simp) noIntW) (by omega)) | (have OG := Own.ext hxo5 OG (by omega)) | (have OG := Own.ext (Ext.trans ((Ext.refl _).alloc _) hxo5) OG (by omega)) | skip); (try simp only [World.size_alloc] at OG); go_wp2_with fail; refine hK.out _ _ ?_ (fun hHeld => ?_); rotate_left; clear hK K; rotate_right; (focus ((try dsimp only); exact kept)); (try simp only [Act.put, List.setIfInBounds_toArray, List.set_cons_zero, List.set_cons_succ])
     refine consL (i := 6) (by kernel_rfl) rfl (fun K hK => ?_)
     go_simp; refine hK.out _ _ ?_ (fun hHeld => ?_); rotate_left; clear hK K; rotate_right; (focus ((try dsimp only); exact kept)); (try simp only [Act.put, List.setIfInBounds_toArray, List.set_cons_zero, List.set_cons_succ])
     refine consL (i := 7) (by kernel_rfl) rfl (fun K hK => ?_)
     go_simp; go_at_call 80; refine (ftimes_c a.n o5 (p) (s / gg) _ _ _ (by first | exact (Blk.at _ _ rfl).at' | exact (Blk.at _ _ (by simp)).at' | exact ((Blk.at _ _ rfl).alloc _).at' | exact ((Blk.at _ _ (by simp)).alloc _).at') (HA.out.num.keep (Ext.ik (Ext.trans HW.out (And.left (by assumption))))) (by first | exact ho5.keep ((Ext.refl _).alloc _).ik | exact ho5.keep (((Ext.refl _).alloc _).alloc _).ik)).mono ?_; rw [L1.out]; rintro e w7 ⟨t7, rfl, ht7, hxt7⟩; have HXt7 := Lib.hid hxt7; have sz := Ext.size hxt7; (try simp only [World.size_alloc, World.size_drew] at sz); (first | (have OG := Own.ext hxt7 ((Blk.at #[.bool false, .slice none 0 0] 39 rfl).own 2 (by simp) noIntW) (by omega)) | (have OG := Own.ext hxt7 (((Blk.at #[.bool false, .slice none 0 0] 39 rfl).alloc _).own 2 (by simp) noIntW) (by omega)) | (have OG := Own.ext hxt7 OG (by omega)) | (have OG := Own.ext (Ext.trans ((Ext.refl _).alloc _) hxt7) OG (by omega)) | skip); (try simp only [World.size_alloc] at OG); go_wp2_with fail; refine hK.out _ _ ?_ (fun hHeld => ?_); rotate_left; clear hK K; rotate_right; (focus ((try dsimp only); exact kept)); (try simp only [Act.put, List.setIfInBounds_toArray, List.set_cons_zero, List.set_cons_succ])
     refine tkW (i := 8) (h := ?_)
     refine tkW (i := 9) (h := ?_)
     refine tkW (i := 10) (h := ?_)
     refine consL (i := 12) (by kernel_rfl) rfl (fun K hK => ?_); go_simp; refine hK.out _ _ ?_ (fun hHeld => ?_); rotate_left; clear hK K; rotate_right; (focus ((try dsimp only); exact kept)); (try simp only [Act.put, List.setIfInBounds_toArray, List.set_cons_zero, List.set_cons_succ])
     refine consL (i := 13) (by kernel_rfl) rfl (fun K hK => ?_); go_simp; refine hK.out _ _ ?_ (fun hHeld => ?_); rotate_left; clear hK K; rotate_right; (focus ((try dsimp only); exact kept)); (try simp only [Act.put, List.setIfInBounds_toArray, List.set_cons_zero, List.set_cons_succ])
     refine doneL (by kernel_rfl) ?_
     go_wp2_with fail
     go_meet
     exact ⟨_, t7, rfl, rfl, And.left hHeld, by omega, by first | exact (Blk.at _ 39 rfl).at' | exact At.mk2 (put2_cells OG _ _).1 (put2_cells OG _ _).2, by first | exact ht7.keep ((Ext.refl _).alloc _).ik | exact ht7.keep (IK.put2 OG _ _ _ _)⟩
   ·skip
    go_simp; refine hK.out _ _ ?_ (fun hHeld => ?_); rotate_left; clear hK K; rotate_right; (focus ((try dsimp only); exact kept)); (try simp only [Act.put, List.setIfInBounds_toArray, List.set_cons_zero, List.set_cons_succ])
    refine consL (i := 3) (by kernel_rfl) rfl (fun K hK => ?_)
    go_simp; go_at_call 79; refine (Den_c b r s _ (HB.out.keep (Ext.ik (Ext.trans HW.out (And.left (by assumption)))))).mono ?_; rintro e w3 ⟨t3, rfl, ht3, hxt3⟩; have HXt3 := Lib.hid hxt3; have sz := Ext.size hxt3; (try simp only [World.size_alloc, World.size_drew] at sz); (first | (have OG := Own.ext hxt3 ((Blk.at #[.bool false, .slice none 0 0] 39 rfl).own 2 (by simp) noIntW) (by omega)) | (have OG := Own.ext hxt3 (((Blk.at #[.bool false, .slice none 0 0] 39 rfl).alloc _).own 2 (by simp) noIntW) (by omega)) | (have OG := Own.ext hxt3 OG (by omega)) | (have OG := Own.ext (Ext.trans ((Ext.refl _).alloc _) hxt3) OG (by omega)) | skip); (try simp only [World.size_alloc] at OG); go_wp2_with fail; refine hK.out _ _ ?_ (fun hHeld => ?_); rotate_left; clear hK K; rotate_right; (focus ((try dsimp only); exact kept)); (try simp only [Act.put, List.setIfInBounds_toArray, List.set_cons_zero, List.set_cons_succ])
    refine consL (i := 5) (by kernel_rfl) rfl (fun K hK => ?_)
    go_simp; go_at_call 81; refine (over_c t3 g s gg _ (by first | exact ht3 | exact ht3.keep ((Ext.refl _).alloc _).ik) (HGI.out.keep (Ext.ik (And.left (by assumption)))) (by omega)).mono ?_; rintro e w5 ⟨o5, rfl, ho5, hxo5⟩; have HXo5 := Lib.hid hxo5; have sz := Ext.size hxo5; (try simp only [World.size_alloc, World.size_drew] at sz); (first | (have OG := Own.ext hxo5 ((Blk.at #[.bool false, .slice none 0 0] 39 rfl).own 2 (by simp) noIntW) (by omega)) | (have OG := Own.ext hxo5 (((Blk.at #[.bool false, .slice none 0 0] 39 rfl).alloc _).own 2 (by simp) noIntW) (by omega)) | (have OG := Own.ext hxo5 OG (by omega)) | (have OG := Own.ext (Ext.trans ((Ext.refl _).alloc _) hxo5) OG (by omega)) | skip); (try simp only [World.size_alloc] at OG); go_wp2_with fail; refine hK.out _ _ ?_ (fun hHeld => ?_); rotate_left; clear hK K; rotate_right; (focus ((try dsimp only); exact kept)); (try simp only [Act.put, List.setIfInBounds_toArray, List.set_cons_zero, List.set_cons_succ])
    refine consL (i := 6) (by kernel_rfl) rfl (fun K hK => ?_)
    go_simp; refine hK.out _ _ ?_ (fun hHeld => ?_); rotate_left; clear hK K; rotate_right; (focus ((try dsimp only); exact kept)); (try simp only [Act.put, List.setIfInBounds_toArray, List.set_cons_zero, List.set_cons_succ])
    refine consL (i := 7) (by kernel_rfl) rfl (fun K hK => ?_)
    go_simp; go_at_call 80; refine (ftimes_c a.n o5 (p) (s / gg) _ _ _ (by first | exact (Blk.at _ _ rfl).at' | exact (Blk.at _ _ (by simp)).at' | exact ((Blk.at _ _ rfl).alloc _).at' | exact ((Blk.at _ _ (by simp)).alloc _).at') (HA.out.num.keep (Ext.ik (Ext.trans HW.out (And.left (by assumption))))) (by first | exact ho5.keep ((Ext.refl _).alloc _).ik | exact ho5.keep (((Ext.refl _).alloc _).alloc _).ik)).mono ?_; rw [L1.out]; rintro e w7 ⟨t7, rfl, ht7, hxt7⟩; have HXt7 := Lib.hid hxt7; have sz := Ext.size hxt7; (try simp only [World.size_alloc, World.size_drew] at sz); (first | (have OG := Own.ext hxt7 ((Blk.at #[.bool false, .slice none 0 0] 39 rfl).own 2 (by simp) noIntW) (by omega)) | (have OG := Own.ext hxt7 (((Blk.at #[.bool false, .slice none 0 0] 39 rfl).alloc _).own 2 (by simp) noIntW) (by omega)) | (have OG := Own.ext hxt7 OG (by omega)) | (have OG := Own.ext (Ext.trans ((Ext.refl _).alloc _) hxt7) OG (by omega)) | skip); (try simp only [World.size_alloc] at OG); go_wp2_with fail; refine hK.out _ _ ?_ (fun hHeld => ?_); rotate_left; clear hK K; rotate_right; (focus ((try dsimp only); exact kept)); (try simp only [Act.put, List.setIfInBounds_toArray, List.set_cons_zero, List.set_cons_succ])
    refine tkW (i := 8) (h := ?_)
    refine tkW (i := 9) (h := ?_)
    refine tkW (i := 10) (h := ?_)
    refine consL (i := 12) (by kernel_rfl) rfl (fun K hK => ?_); go_simp; refine hK.out _ _ ?_ (fun hHeld => ?_); rotate_left; clear hK K; rotate_right; (focus ((try dsimp only); exact kept)); (try simp only [Act.put, List.setIfInBounds_toArray, List.set_cons_zero, List.set_cons_succ])
    refine consL (i := 13) (by kernel_rfl) rfl (fun K hK => ?_); go_simp; refine hK.out _ _ ?_ (fun hHeld => ?_); rotate_left; clear hK K; rotate_right; (focus ((try dsimp only); exact kept)); (try simp only [Act.put, List.setIfInBounds_toArray, List.set_cons_zero, List.set_cons_succ])
    refine doneL (by kernel_rfl) ?_
    go_wp2_with fail
    go_meet
    exact ⟨_, t7, rfl, rfl, And.left hHeld, by omega, by first | exact (Blk.at _ 39 rfl).at' | exact At.mk2 (put2_cells OG _ _).1 (put2_cells OG _ _).2, by first | exact ht7.keep ((Ext.refl _).alloc _).ik | exact ht7.keep (IK.put2 OG _ _ _ _)⟩
  case rest =>
   obtain ⟨H7, x7, rfl, rfl, EE, lh7, A7, hi7⟩ := hcut
   replace A0 := At.ext EE A0 (by simp)
   replace A1 := At.ext EE A1 (by simp)
   replace AG := At.ext EE AG (by simp)
   replace O2 := Own.ext EE O2 (by omega)
   replace E0 := E0.trans EE
   replace HGI := Lib.hid (HGI.out.keep EE.ik)
   have HI7 := Lib.hid hi7
   clear EE hi7 HW lv lg
   have lv : B + 1 + 1 < wc.heap.size := O2.lt (by omega)
   have HW := Lib.hid E0
   have lg := AG.lt (by simp)
   obtain ⟨wd, rfl⟩ : ∃ W, W = wc := ⟨_, rfl⟩
   go_upto_region 3 with (fail)
   go_cut [9, 10] (fun s7 s8 wx => ∃ (H : Nat) (x : IV), s7 = .pointer (some ⟨H, 0, none⟩) ∧ s8 = .int .i64 0 ∧ Ext wd wx ∧ B + 1 + 1 < H ∧ At wx H #[.bool x.neg, .slice x.a x.n x.c] ∧ IsI wx x (r * (q / gg)))
   case first =>
    refine wp_region_held_drew (S := fun w' => Ext wd w' ∧ At w' B #[.bool a.n.neg, .slice a.n.a a.n.n a.n.c, .bool a.d.neg, .slice a.d.a a.d.n a.d.c] ∧ At w' (B + 1) #[.bool b.n.neg, .slice b.n.a b.n.n b.n.c, .bool b.d.neg, .slice b.d.a b.d.n b.d.c] ∧ At w' G #[.bool g.neg, .slice g.a g.n g.c]) (by kernel_rfl) ?_ (fun hHeld => ?_)
    ·exact ⟨(Ext.refl wd).drew, A0, A1, AG⟩
    refine tkW (i := 0) (h := ?_)
    refine tkW (i := 1) (h := ?_)
    refine tkW (i := 2) (h := ?_)
    refine tkW (i := 4) (h := ?_)
    refine cons2L (i := 3) (j := 11) (by kernel_rfl) rfl rfl (fun K hK => ?_) (fun K hK => ?_)
    ·skip
     go_simp; go_at_call 79; refine (Den_c a p q _ (HA.out.keep (Ext.ik (Ext.trans HW.out (And.left (by assumption)))))).mono ?_; rintro e w3 ⟨t3, rfl, ht3, hxt3⟩; have HXt3 := Lib.hid hxt3; have sz := Ext.size hxt3; (try simp only [World.size_alloc, World.size_drew] at sz); (first | (have OG := Own.ext hxt3 ((Blk.at #[.bool false, .slice none 0 0] 39 rfl).own 2 (by simp) noIntW) (by omega)) | (have OG := Own.ext hxt3 (((Blk.at #[.bool false, .slice none 0 0] 39 rfl).alloc _).own 2 (by simp) noIntW) (by omega)) | (have OG := Own.ext hxt3 OG (by omega)) | (have OG := Own.ext (Ext.trans ((Ext.refl _).alloc _) hxt3) OG (by omega)) | skip); (try simp only [World.size_alloc] at OG); go_wp2_with fail; refine hK.out _ _ ?_ (fun hHeld => ?_); rotate_left; clear hK K; rotate_right; (focus ((try dsimp only); exact kept)); (try simp only [Act.put, List.setIfInBounds_toArray, List.set_cons_zero, List.set_cons_succ])
     refine cons2L (i := 5) (j := 11) (by kernel_rfl) rfl rfl (fun K hK => ?_) (fun K hK => ?_)
     ·skip
      go_simp; go_at_call 81; refine (over_c t3 g q gg _ (by first | exact ht3 | exact ht3.keep ((Ext.refl _).alloc _).ik) (HGI.out.keep (Ext.ik (And.left (by assumption)))) (by omega)).mono ?_; rintro e w5 ⟨o5, rfl, ho5, hxo5⟩; have HXo5 := Lib.hid hxo5; have sz := Ext.size hxo5; (try simp only [World.size_alloc, World.size_drew] at sz); (first | (have OG := Own.ext hxo5 ((Blk.at #[.bool false, .slice none 0 0] 39 rfl).own 2 (by simp) noIntW) (by omega)) | (have OG := Own.ext hxo5 (((Blk.at #[.bool false, .slice none 0 0] 39 rfl).alloc _).own 2 (by simp) noIntW) (by omega)) | (have OG := Own.ext hxo5 OG (by omega)) | (have OG := Own.ext (Ext.trans ((Ext.refl _).alloc _) hxo5) OG (by omega)) | skip); (try simp only [World.size_alloc] at OG); go_wp2_with fail; refine hK.out _ _ ?_ (fun hHeld => ?_); rotate_left; clear hK K; rotate_right; (focus ((try dsimp only); exact kept)); (try simp only [Act.put, List.setIfInBounds_toArray, List.set_cons_zero, List.set_cons_succ])
      refine cons2L (i := 6) (j := 11) (by kernel_rfl) rfl rfl (fun K hK => ?_) (fun K hK => ?_)
      ·skip
       go_simp; refine hK.out _ _ ?_ (fun hHeld => ?_); rotate_left; clear hK K; rotate_right; (focus ((try dsimp only); exact kept)); (try simp only [Act.put, List.setIfInBounds_toArray, List.set_cons_zero, List.set_cons_succ])
       refine cons2L (i := 7) (j := 11) (by kernel_rfl) rfl rfl (fun K hK => ?_) (fun K hK => ?_)
       ·skip
        go_simp; go_at_call 80; refine (ftimes_c b.n o5 (r) (q / gg) _ _ _ (by first | exact (Blk.at _ _ rfl).at' | exact (Blk.at _ _ (by simp)).at' | exact ((Blk.at _ _ rfl).alloc _).at' | exact ((Blk.at _ _ (by simp)).alloc _).at') (HB.out.num.keep (Ext.ik (Ext.trans HW.out (And.left (by assumption))))) (by first | exact ho5.keep ((Ext.refl _).alloc _).ik | exact ho5.keep (((Ext.refl _).alloc _).alloc _).ik)).mono ?_; rw [L2.out]; rintro e w7 ⟨t7, rfl, ht7, hxt7⟩; have HXt7 := Lib.hid hxt7; have sz := Ext.size hxt7; (try simp only [World.size_alloc, World.size_drew] at sz); (first | (have OG := Own.ext hxt7 ((Blk.at #[.bool false, .slice none 0 0] 39 rfl).own 2 (by simp) noIntW) (by omega)) | (have OG := Own.ext hxt7 (((Blk.at #[.bool false, .slice none 0 0] 39 rfl).alloc _).own 2 (by simp) noIntW) (by omega)) | (have OG := Own.ext hxt7 OG (by omega)) | (have OG := Own.ext (Ext.trans ((Ext.refl _).alloc _) hxt7) OG (by omega)) | skip); (try simp only [World.size_alloc] at OG); go_wp2_with fail; refine hK.out _ _ ?_ (fun hHeld => ?_); rotate_left; clear hK K; rotate_right; (focus ((try dsimp only); exact kept)); (try simp only [Act.put, List.setIfInBounds_toArray, List.set_cons_zero, List.set_cons_succ])
        refine tkW (i := 8) (h := ?_)
        refine tkW (i := 9) (h := ?_)
        refine tkW (i := 10) (h := ?_)
        refine consL (i := 11) (by kernel_rfl) rfl (fun K hK => ?_); go_simp; refine hK.out _ _ ?_ (fun hHeld => ?_); rotate_left; clear hK K; rotate_right; (focus ((try dsimp only); exact kept)); (try simp only [Act.put, List.setIfInBounds_toArray, List.set_cons_zero, List.set_cons_succ])
        refine consL (i := 12) (by kernel_rfl) rfl (fun K hK => ?_); go_simp; refine hK.out _ _ ?_ (fun hHeld => ?_); rotate_left; clear hK K; rotate_right; (focus ((try dsimp only); exact kept)); (try simp only [Act.put, List.setIfInBounds_toArray, List.set_cons_zero, List.set_cons_succ])
        refine consL (i := 13) (by kernel_rfl) rfl (fun K hK => ?_); go_simp; refine hK.out _ _ ?_ (fun hHeld => ?_); rotate_left; clear hK K; rotate_right; (focus ((try dsimp only); exact kept)); (try simp only [Act.put, List.setIfInBounds_toArray, List.set_cons_zero, List.set_cons_succ])
        refine doneL (by kernel_rfl) ?_
        go_wp2_with fail
        go_meet
        exact ⟨_, t7, rfl, rfl, And.left hHeld, by omega, by first | exact (Blk.at _ 39 rfl).at' | exact At.mk2 (put2_cells OG _ _).1 (put2_cells OG _ _).2, by first | exact ht7.keep ((Ext.refl _).alloc _).ik | exact ht7.keep (IK.put2 OG _ _ _ _)⟩
       ·skip
        go_simp; refine hK.out _ _ ?_ (fun hHeld => ?_); rotate_left; clear hK K; rotate_right; (focus ((try dsimp only); exact kept)); (try simp only [Act.put, List.setIfInBounds_toArray, List.set_cons_zero, List.set_cons_succ])
        refine consL (i := 7) (by kernel_rfl) rfl (fun K hK => ?_)
        go_simp; go_at_call 80; refine (ftimes_c b.n o5 (r) (q / gg) _ _ _ (by first | exact (Blk.at _ _ rfl).at' | exact (Blk.at _ _ (by simp)).at' | exact ((Blk.at _ _ rfl).alloc _).at' | exact ((Blk.at _ _ (by simp)).alloc _).at') (HB.out.num.keep (Ext.ik (Ext.trans HW.out (And.left (by assumption))))) (by first | exact ho5.keep ((Ext.refl _).alloc _).ik | exact ho5.keep (((Ext.refl _).alloc _).alloc _).ik)).mono ?_; rw [L2.out]; rintro e w7 ⟨t7, rfl, ht7, hxt7⟩; have HXt7 := Lib.hid hxt7; have sz := Ext.size hxt7; (try simp only [World.size_alloc, World.size_drew] at sz); (first | (have OG := Own.ext hxt7 ((Blk.at #[.bool false, .slice none 0 0] 39 rfl).own 2 (by simp) noIntW) (by omega)) | (have OG := Own.ext hxt7 (((Blk.at #[.bool false, .slice none 0 0] 39 rfl).alloc _).own 2 (by simp) noIntW) (by omega)) | (have OG := Own.ext hxt7 OG (by omega)) | (have OG := Own.ext (Ext.trans ((Ext.refl _).alloc _) hxt7) OG (by omega)) | skip); (try simp only [World.size_alloc] at OG); go_wp2_with fail; refine hK.out _ _ ?_ (fun hHeld => ?_); rotate_left; clear hK K; rotate_right; (focus ((try dsimp only); exact kept)); (try simp only [Act.put, List.setIfInBounds_toArray, List.set_cons_zero, List.set_cons_succ])
        refine tkW (i := 8) (h := ?_)
        refine tkW (i := 9) (h := ?_)
        refine tkW (i := 10) (h := ?_)
        refine consL (i := 12) (by kernel_rfl) rfl (fun K hK => ?_); go_simp; refine hK.out _ _ ?_ (fun hHeld => ?_); rotate_left; clear hK K; rotate_right; (focus ((try dsimp only); exact kept)); (try simp only [Act.put, List.setIfInBounds_toArray, List.set_cons_zero, List.set_cons_succ])
        refine consL (i := 13) (by kernel_rfl) rfl (fun K hK => ?_); go_simp; refine hK.out _ _ ?_ (fun hHeld => ?_); rotate_left; clear hK K; rotate_right; (focus ((try dsimp only); exact kept)); (try simp only [Act.put, List.setIfInBounds_toArray, List.set_cons_zero, List.set_cons_succ])
        refine doneL (by kernel_rfl) ?_
        go_wp2_with fail
        go_meet
        exact ⟨_, t7, rfl, rfl, And.left hHeld, by omega, by first | exact (Blk.at _ 39 rfl).at' | exact At.mk2 (put2_cells OG _ _).1 (put2_cells OG _ _).2, by first | exact ht7.keep ((Ext.refl _).alloc _).ik | exact ht7.keep (IK.put2 OG _ _ _ _)⟩
      ·skip
       go_simp; refine hK.out _ _ ?_ (fun hHeld => ?_); rotate_left; clear hK K; rotate_right; (focus ((try dsimp only); exact kept)); (try simp only [Act.put, List.setIfInBounds_toArray, List.set_cons_zero, List.set_cons_succ])
       refine consL (i := 6) (by kernel_rfl) rfl (fun K hK => ?_)
       go_simp; refine hK.out _ _ ?_ (fun hHeld => ?_); rotate_left; clear hK K; rotate_right; (focus ((try dsimp only); exact kept)); (try simp only [Act.put, List.setIfInBounds_toArray, List.set_cons_zero, List.set_cons_succ])
       refine consL (i := 7) (by kernel_rfl) rfl (fun K hK => ?_)
       go_simp; go_at_call 80; refine (ftimes_c b.n o5 (r) (q / gg) _ _ _ (by first | exact (Blk.at _ _ rfl).at' | exact (Blk.at _ _ (by simp)).at' | exact ((Blk.at _ _ rfl).alloc _).at' | exact ((Blk.at _ _ (by simp)).alloc _).at') (HB.out.num.keep (Ext.ik (Ext.trans HW.out (And.left (by assumption))))) (by first | exact ho5.keep ((Ext.refl _).alloc _).ik | exact ho5.keep (((Ext.refl _).alloc _).alloc _).ik)).mono ?_; rw [L2.out]; rintro e w7 ⟨t7, rfl, ht7, hxt7⟩; have HXt7 := Lib.hid hxt7; have sz := Ext.size hxt7; (try simp only [World.size_alloc, World.size_drew] at sz); (first | (have OG := Own.ext hxt7 ((Blk.at #[.bool false, .slice none 0 0] 39 rfl).own 2 (by simp) noIntW) (by omega)) | (have OG := Own.ext hxt7 (((Blk.at #[.bool false, .slice none 0 0] 39 rfl).alloc _).own 2 (by simp) noIntW) (by omega)) | (have OG := Own.ext hxt7 OG (by omega)) | (have OG := Own.ext (Ext.trans ((Ext.refl _).alloc _) hxt7) OG (by omega)) | skip); (try simp only [World.size_alloc] at OG); go_wp2_with fail; refine hK.out _ _ ?_ (fun hHeld => ?_); rotate_left; clear hK K; rotate_right; (focus ((try dsimp only); exact kept)); (try simp only [Act.put, List.setIfInBounds_toArray, List.set_cons_zero, List.set_cons_succ])
       refine tkW (i := 8) (h := ?_)
       refine tkW (i := 9) (h := ?_)
       refine tkW (i := 10) (h := ?_)
       refine consL (i := 12) (by kernel_rfl) rfl (fun K hK => ?_); go_simp; refine hK.out _ _ ?_ (fun hHeld => ?_); rotate_left; clear hK K; rotate_right; (focus ((try dsimp only); exact kept)); (try simp only [Act.put, List.setIfInBounds_toArray, List.set_cons_zero, List.set_cons_succ])
       refine consL (i := 13) (by kernel_rfl) rfl (fun K hK => ?_); go_simp; refine hK.out _ _ ?_ (fun hHeld => ?_); rotate_left; clear hK K; rotate_right; (focus ((try dsimp only); exact kept)); (try simp only [Act.put, List.setIfInBounds_toArray, List.set_cons_zero, List.set_cons_succ])
       refine doneL (by kernel_rfl) ?_
       go_wp2_with fail
       go_meet
       exact ⟨_, t7, rfl, rfl, And.left hHeld, by omega, by first | exact (Blk.at _ 39 rfl).at' | exact At.mk2 (put2_cells OG _ _).1 (put2_cells OG _ _).2, by first | exact ht7.keep ((Ext.refl _).alloc _).ik | exact ht7.keep (IK.put2 OG _ _ _ _)⟩
     ·skip
      go_simp; refine hK.out _ _ ?_ (fun hHeld => ?_); rotate_left; clear hK K; rotate_right; (focus ((try dsimp only); exact kept)); (try simp only [Act.put, List.setIfInBounds_toArray, List.set_cons_zero, List.set_cons_succ])
      refine consL (i := 5) (by kernel_rfl) rfl (fun K hK => ?_)
      go_simp; go_at_call 81; refine (over_c t3 g q gg _ (by first | exact ht3 | exact ht3.keep ((Ext.refl _).alloc _).ik) (HGI.out.keep (Ext.ik (And.left (by assumption)))) (by omega)).mono ?_; rintro e w5 ⟨o5, rfl, ho5, hxo5⟩; have HXo5 := Lib.hid hxo5; have sz := Ext.size hxo5; (try simp only [World.size_alloc, World.size_drew] at sz); (first | (have OG := Own.ext hxo5 ((Blk.at #[.bool false, .slice none 0 0] 39 rfl).own 2 (by simp) noIntW) (by omega)) | (have OG := Own.ext hxo5 (((Blk.at #[.bool false, .slice none 0 0] 39 rfl).alloc _).own 2 (by simp) noIntW) (by omega)) | (have OG := Own.ext hxo5 OG (by omega)) | (have OG := Own.ext (Ext.trans ((Ext.refl _).alloc _) hxo5) OG (by omega)) | skip); (try simp only [World.size_alloc] at OG); go_wp2_with fail; refine hK.out _ _ ?_ (fun hHeld => ?_); rotate_left; clear hK K; rotate_right; (focus ((try dsimp only); exact kept)); (try simp only [Act.put, List.setIfInBounds_toArray, List.set_cons_zero, List.set_cons_succ])
      refine consL (i := 6) (by kernel_rfl) rfl (fun K hK => ?_)
      go_simp; refine hK.out _ _ ?_ (fun hHeld => ?_); rotate_left; clear hK K; rotate_right; (focus ((try dsimp only); exact kept)); (try simp only [Act.put, List.setIfInBounds_toArray, List.set_cons_zero, List.set_cons_succ])
      refine consL (i := 7) (by kernel_rfl) rfl (fun K hK => ?_)
      go_simp; go_at_call 80; refine (ftimes_c b.n o5 (r) (q / gg) _ _ _ (by first | exact (Blk.at _ _ rfl).at' | exact (Blk.at _ _ (by simp)).at' | exact ((Blk.at _ _ rfl).alloc _).at' | exact ((Blk.at _ _ (by simp)).alloc _).at') (HB.out.num.keep (Ext.ik (Ext.trans HW.out (And.left (by assumption))))) (by first | exact ho5.keep ((Ext.refl _).alloc _).ik | exact ho5.keep (((Ext.refl _).alloc _).alloc _).ik)).mono ?_; rw [L2.out]; rintro e w7 ⟨t7, rfl, ht7, hxt7⟩; have HXt7 := Lib.hid hxt7; have sz := Ext.size hxt7; (try simp only [World.size_alloc, World.size_drew] at sz); (first | (have OG := Own.ext hxt7 ((Blk.at #[.bool false, .slice none 0 0] 39 rfl).own 2 (by simp) noIntW) (by omega)) | (have OG := Own.ext hxt7 (((Blk.at #[.bool false, .slice none 0 0] 39 rfl).alloc _).own 2 (by simp) noIntW) (by omega)) | (have OG := Own.ext hxt7 OG (by omega)) | (have OG := Own.ext (Ext.trans ((Ext.refl _).alloc _) hxt7) OG (by omega)) | skip); (try simp only [World.size_alloc] at OG); go_wp2_with fail; refine hK.out _ _ ?_ (fun hHeld => ?_); rotate_left; clear hK K; rotate_right; (focus ((try dsimp only); exact kept)); (try simp only [Act.put, List.setIfInBounds_toArray, List.set_cons_zero, List.set_cons_succ])
      refine tkW (i := 8) (h := ?_)
      refine tkW (i := 9) (h := ?_)
      refine tkW (i := 10) (h := ?_)
      refine consL (i := 12) (by kernel_rfl) rfl (fun K hK => ?_); go_simp; refine hK.out _ _ ?_ (fun hHeld => ?_); rotate_left; clear hK K; rotate_right; (focus ((try dsimp only); exact kept)); (try simp only [Act.put, List.setIfInBounds_toArray, List.set_cons_zero, List.set_cons_succ])
      refine consL (i := 13) (by kernel_rfl) rfl (fun K hK => ?_); go_simp; refine hK.out _ _ ?_ (fun hHeld => ?_); rotate_left; clear hK K; rotate_right; (focus ((try dsimp only); exact kept)); (try simp only [Act.put, List.setIfInBounds_toArray, List.set_cons_zero, List.set_cons_succ])
      refine doneL (by kernel_rfl) ?_
      go_wp2_with fail
      go_meet
      exact ⟨_, t7, rfl, rfl, And.left hHeld, by omega, by first | exact (Blk.at _ 39 rfl).at' | exact At.mk2 (put2_cells OG _ _).1 (put2_cells OG _ _).2, by first | exact ht7.keep ((Ext.refl _).alloc _).ik | exact ht7.keep (IK.put2 OG _ _ _ _)⟩
    ·skip
     go_simp; refine hK.out _ _ ?_ (fun hHeld => ?_); rotate_left; clear hK K; rotate_right; (focus ((try dsimp only); exact kept)); (try simp only [Act.put, List.setIfInBounds_toArray, List.set_cons_zero, List.set_cons_succ])
     refine consL (i := 3) (by kernel_rfl) rfl (fun K hK => ?_)
     go_simp; go_at_call 79; refine (Den_c a p q _ (HA.out.keep (Ext.ik (Ext.trans HW.out (And.left (by assumption)))))).mono ?_; rintro e w3 ⟨t3, rfl, ht3, hxt3⟩; have HXt3 := Lib.hid hxt3; have sz := Ext.size hxt3; (try simp only [World.size_alloc, World.size_drew] at sz); (first | (have OG := Own.ext hxt3 ((Blk.at #[.bool false, .slice none 0 0] 39 rfl).own 2 (by simp) noIntW) (by omega)) | (have OG := Own.ext hxt3 (((Blk.at #[.bool false, .slice none 0 0] 39 rfl).alloc _).own 2 (by simp) noIntW) (by omega)) | (have OG := Own.ext hxt3 OG (by omega)) | (have OG := Own.ext (Ext.trans ((Ext.refl _).alloc _) hxt3) OG (by omega)) | skip); (try simp only [World.size_alloc] at OG); go_wp2_with fail; refine hK.out _ _ ?_ (fun hHeld => ?_); rotate_left; clear hK K; rotate_right; (focus ((try dsimp only); exact kept)); (try simp only [Act.put, List.setIfInBounds_toArray, List.set_cons_zero, List.set_cons_succ])
     refine consL (i := 5) (by kernel_rfl) rfl (fun K hK => ?_)
     go_simp; go_at_call 81; refine (over_c t3 g q gg _ (by first | exact ht3 | exact ht3.keep ((Ext.refl _).alloc _).ik) (HGI.out.keep (Ext.ik (And.left (by assumption)))) (by omega)).mono ?_; rintro e w5 ⟨o5, rfl, ho5, hxo5⟩; have HXo5 := Lib.hid hxo5; have sz := Ext.size hxo5; (try simp only [World.size_alloc, World.size_drew] at sz); (first | (have OG := Own.ext hxo5 ((Blk.at #[.bool false, .slice none 0 0] 39 rfl).own 2 (by simp) noIntW) (by omega)) | (have OG := Own.ext hxo5 (((Blk.at #[.bool false, .slice none 0 0] 39 rfl).alloc _).own 2 (by simp) noIntW) (by omega)) | (have OG := Own.ext hxo5 OG (by omega)) | (have OG := Own.ext (Ext.trans ((Ext.refl _).alloc _) hxo5) OG (by omega)) | skip); (try simp only [World.size_alloc] at OG); go_wp2_with fail; refine hK.out _ _ ?_ (fun hHeld => ?_); rotate_left; clear hK K; rotate_right; (focus ((try dsimp only); exact kept)); (try simp only [Act.put, List.setIfInBounds_toArray, List.set_cons_zero, List.set_cons_succ])
     refine consL (i := 6) (by kernel_rfl) rfl (fun K hK => ?_)
     go_simp; refine hK.out _ _ ?_ (fun hHeld => ?_); rotate_left; clear hK K; rotate_right; (focus ((try dsimp only); exact kept)); (try simp only [Act.put, List.setIfInBounds_toArray, List.set_cons_zero, List.set_cons_succ])
     refine consL (i := 7) (by kernel_rfl) rfl (fun K hK => ?_)
     go_simp; go_at_call 80; refine (ftimes_c b.n o5 (r) (q / gg) _ _ _ (by first | exact (Blk.at _ _ rfl).at' | exact (Blk.at _ _ (by simp)).at' | exact ((Blk.at _ _ rfl).alloc _).at' | exact ((Blk.at _ _ (by simp)).alloc _).at') (HB.out.num.keep (Ext.ik (Ext.trans HW.out (And.left (by assumption))))) (by first | exact ho5.keep ((Ext.refl _).alloc _).ik | exact ho5.keep (((Ext.refl _).alloc _).alloc _).ik)).mono ?_; rw [L2.out]; rintro e w7 ⟨t7, rfl, ht7, hxt7⟩; have HXt7 := Lib.hid hxt7; have sz := Ext.size hxt7; (try simp only [World.size_alloc, World.size_drew] at sz); (first | (have OG := Own.ext hxt7 ((Blk.at #[.bool false, .slice none 0 0] 39 rfl).own 2 (by simp) noIntW) (by omega)) | (have OG := Own.ext hxt7 (((Blk.at #[.bool false, .slice none 0 0] 39 rfl).alloc _).own 2 (by simp) noIntW) (by omega)) | (have OG := Own.ext hxt7 OG (by omega)) | (have OG := Own.ext (Ext.trans ((Ext.refl _).alloc _) hxt7) OG (by omega)) | skip); (try simp only [World.size_alloc] at OG); go_wp2_with fail; refine hK.out _ _ ?_ (fun hHeld => ?_); rotate_left; clear hK K; rotate_right; (focus ((try dsimp only); exact kept)); (try simp only [Act.put, List.setIfInBounds_toArray, List.set_cons_zero, List.set_cons_succ])
     refine tkW (i := 8) (h := ?_)
     refine tkW (i := 9) (h := ?_)
     refine tkW (i := 10) (h := ?_)
     refine consL (i := 12) (by kernel_rfl) rfl (fun K hK => ?_); go_simp; refine hK.out _ _ ?_ (fun hHeld => ?_); rotate_left; clear hK K; rotate_right; (focus ((try dsimp only); exact kept)); (try simp only [Act.put, List.setIfInBounds_toArray, List.set_cons_zero, List.set_cons_succ])
     refine consL (i := 13) (by kernel_rfl) rfl (fun K hK => ?_); go_simp; refine hK.out _ _ ?_ (fun hHeld => ?_); rotate_left; clear hK K; rotate_right; (focus ((try dsimp only); exact kept)); (try simp only [Act.put, List.setIfInBounds_toArray, List.set_cons_zero, List.set_cons_succ])
     refine doneL (by kernel_rfl) ?_
     go_wp2_with fail
     go_meet
     exact ⟨_, t7, rfl, rfl, And.left hHeld, by omega, by first | exact (Blk.at _ 39 rfl).at' | exact At.mk2 (put2_cells OG _ _).1 (put2_cells OG _ _).2, by first | exact ht7.keep ((Ext.refl _).alloc _).ik | exact ht7.keep (IK.put2 OG _ _ _ _)⟩
   case rest =>
    obtain ⟨H9, x9, rfl, rfl, EE, lh9, A9, hi9⟩ := hcut
    replace A0 := At.ext EE A0 (by simp)
    replace A1 := At.ext EE A1 (by simp)
    replace AG := At.ext EE AG (by simp)
    replace O2 := Own.ext EE O2 (by omega)
    replace E0 := E0.trans EE
    replace HGI := Lib.hid (HGI.out.keep EE.ik)
    have HI9 := Lib.hid hi9
    replace A7 := At.ext EE A7 (by simp)
    replace HI7 := Lib.hid (HI7.out.keep EE.ik)
    clear EE hi9 HW lv lg
    have c70 := A7 0 (by simp)
    have c71 := A7 1 (by simp)
    have c90 := A9 0 (by simp)
    have c91 := A9 1 (by simp)
    simp at c70 c71 c90 c91
    go_wp2_with fail
    refine (Add_c x7 x9 (p * (s / gg)) (r * (q / gg)) _ HI7.out HI9.out).mono ?_
    rw [L3.out]
    rintro e w5 ⟨x11, rfl, h11, hx5⟩
    obtain ⟨H11, hH11⟩ : ∃ H, w5.heap.size = H := ⟨_, rfl⟩
    have lw5 := hx5.size
    have lO := O2.lt (by omega)
    go_upto_region 5 with (fail)
    have EE : Ext wc (w5.alloc (.cells #[.bool x11.neg, .slice x11.a x11.n x11.c] 39)) := hx5.alloc _
    refine wp_gen (fun W => Ext w W ∧ At W B #[.bool a.n.neg, .slice a.n.a a.n.n a.n.c, .bool a.d.neg, .slice a.d.a a.d.n a.d.c] ∧ At W (B + 1) #[.bool b.n.neg, .slice b.n.a b.n.n b.n.c, .bool b.d.neg, .slice b.d.a b.d.n b.d.c] ∧ At W G #[.bool g.neg, .slice g.a g.n g.c] ∧ Own W (B + 1 + 1) 4 ∧ At W H11 #[.bool x11.neg, .slice x11.a x11.n x11.c] ∧ IsI W g gg ∧ IsI W x11 (p * (s / gg) + r * (q / gg)))
     ⟨E0.trans EE, At.ext EE A0 (by simp), At.ext EE A1 (by simp), At.ext EE AG (by simp), Own.ext EE O2 (by omega), (Blk.at _ 39 hH11.symm).at', HGI.out.keep EE.ik, h11.keep ((Ext.refl w5).alloc _).ik⟩ ?_
    have lh11 : B + 1 + 1 < H11 := by omega
    clear EE c70 c71 c90 c91 A0 A1 AG O2 E0 HGI HI7 HI9 A7 A9 h11 hx5 lw5 lO
    try rw [hH11]
    rintro wc ⟨E0, A0, A1, AG, O2, A11, hg, h11⟩
    have HGI := Lib.hid hg; have HI11 := Lib.hid h11
    clear hg h11 hH11
    have lv : B + 1 + 1 < wc.heap.size := O2.lt (by omega)
    have HW := Lib.hid E0
    have lg := AG.lt (by simp)
    obtain ⟨wd, rfl⟩ : ∃ W, W = wc := ⟨_, rfl⟩
    go_upto_region 5 with (fail)
    go_cut [13, 14] (fun s7 s8 wx => ∃ (H : Nat) (x : IV), s7 = .pointer (some ⟨H, 0, none⟩) ∧ s8 = .int .i64 0 ∧ Ext wd wx ∧ B + 1 + 1 < H ∧ At wx H #[.bool x.neg, .slice x.a x.n x.c] ∧ IsI wx x (q / gg * s))
    case first =>
     refine wp_region_held_drew (S := fun w' => Ext wd w' ∧ At w' B #[.bool a.n.neg, .slice a.n.a a.n.n a.n.c, .bool a.d.neg, .slice a.d.a a.d.n a.d.c] ∧ At w' (B + 1) #[.bool b.n.neg, .slice b.n.a b.n.n b.n.c, .bool b.d.neg, .slice b.d.a b.d.n b.d.c] ∧ At w' G #[.bool g.neg, .slice g.a g.n g.c]) (by kernel_rfl) ?_ (fun hHeld => ?_)
     ·exact ⟨(Ext.refl wd).drew, A0, A1, AG⟩
     refine tkW (i := 0) (h := ?_)
     refine tkW (i := 2) (h := ?_)
     refine tkW (i := 4) (h := ?_)
     refine cons2L (i := 1) (j := 11) (by kernel_rfl) rfl rfl (fun K hK => ?_) (fun K hK => ?_)
     ·skip
      go_simp; go_at_call 79; refine (Den_c a p q _ (HA.out.keep (Ext.ik (Ext.trans HW.out (And.left (by assumption)))))).mono ?_; rintro e w1 ⟨t1, rfl, ht1, hxt1⟩; have HXt1 := Lib.hid hxt1; have sz := Ext.size hxt1; (try simp only [World.size_alloc, World.size_drew] at sz); (first | (have OG := Own.ext hxt1 ((Blk.at #[.bool false, .slice none 0 0] 39 rfl).own 2 (by simp) noIntW) (by omega)) | (have OG := Own.ext hxt1 (((Blk.at #[.bool false, .slice none 0 0] 39 rfl).alloc _).own 2 (by simp) noIntW) (by omega)) | (have OG := Own.ext hxt1 OG (by omega)) | (have OG := Own.ext (Ext.trans ((Ext.refl _).alloc _) hxt1) OG (by omega)) | skip); (try simp only [World.size_alloc] at OG); go_wp2_with fail; refine hK.out _ _ ?_ (fun hHeld => ?_); rotate_left; clear hK K; rotate_right; (focus ((try dsimp only); exact kept)); (try simp only [Act.put, List.setIfInBounds_toArray, List.set_cons_zero, List.set_cons_succ])
      refine cons2L (i := 3) (j := 11) (by kernel_rfl) rfl rfl (fun K hK => ?_) (fun K hK => ?_)
      ·skip
       go_simp; go_at_call 81; refine (over_c t1 g q gg _ (by first | exact ht1 | exact ht1.keep ((Ext.refl _).alloc _).ik) (HGI.out.keep (Ext.ik (And.left (by assumption)))) (by omega)).mono ?_; rintro e w3 ⟨o3, rfl, ho3, hxo3⟩; have HXo3 := Lib.hid hxo3; have sz := Ext.size hxo3; (try simp only [World.size_alloc, World.size_drew] at sz); (first | (have OG := Own.ext hxo3 ((Blk.at #[.bool false, .slice none 0 0] 39 rfl).own 2 (by simp) noIntW) (by omega)) | (have OG := Own.ext hxo3 (((Blk.at #[.bool false, .slice none 0 0] 39 rfl).alloc _).own 2 (by simp) noIntW) (by omega)) | (have OG := Own.ext hxo3 OG (by omega)) | (have OG := Own.ext (Ext.trans ((Ext.refl _).alloc _) hxo3) OG (by omega)) | skip); (try simp only [World.size_alloc] at OG); go_wp2_with fail; refine hK.out _ _ ?_ (fun hHeld => ?_); rotate_left; clear hK K; rotate_right; (focus ((try dsimp only); exact kept)); (try simp only [Act.put, List.setIfInBounds_toArray, List.set_cons_zero, List.set_cons_succ])
       refine cons2L (i := 5) (j := 11) (by kernel_rfl) rfl rfl (fun K hK => ?_) (fun K hK => ?_)
       ·skip
        go_simp; go_at_call 79; refine (Den_c b r s _ (HB.out.keep (Ext.ik (Ext.trans HW.out (And.left (by assumption)))))).mono ?_; rintro e w5 ⟨t5, rfl, ht5, hxt5⟩; have HXt5 := Lib.hid hxt5; have sz := Ext.size hxt5; (try simp only [World.size_alloc, World.size_drew] at sz); (first | (have OG := Own.ext hxt5 ((Blk.at #[.bool false, .slice none 0 0] 39 rfl).own 2 (by simp) noIntW) (by omega)) | (have OG := Own.ext hxt5 (((Blk.at #[.bool false, .slice none 0 0] 39 rfl).alloc _).own 2 (by simp) noIntW) (by omega)) | (have OG := Own.ext hxt5 OG (by omega)) | (have OG := Own.ext (Ext.trans ((Ext.refl _).alloc _) hxt5) OG (by omega)) | skip); (try simp only [World.size_alloc] at OG); go_wp2_with fail; refine hK.out _ _ ?_ (fun hHeld => ?_); rotate_left; clear hK K; rotate_right; (focus ((try dsimp only); exact kept)); (try simp only [Act.put, List.setIfInBounds_toArray, List.set_cons_zero, List.set_cons_succ])
        refine cons2L (i := 6) (j := 11) (by kernel_rfl) rfl rfl (fun K hK => ?_) (fun K hK => ?_)
        ·skip
         go_simp; refine hK.out _ _ ?_ (fun hHeld => ?_); rotate_left; clear hK K; rotate_right; (focus ((try dsimp only); exact kept)); (try simp only [Act.put, List.setIfInBounds_toArray, List.set_cons_zero, List.set_cons_succ])
         refine cons2L (i := 7) (j := 11) (by kernel_rfl) rfl rfl (fun K hK => ?_) (fun K hK => ?_)
         ·skip
          go_simp; go_at_call 80; refine (ftimes_c o3 t5 (q / gg) (s) _ _ _ (by first | exact (Blk.at _ _ rfl).at' | exact (Blk.at _ _ (by simp)).at' | exact ((Blk.at _ _ rfl).alloc _).at' | exact ((Blk.at _ _ (by simp)).alloc _).at') (by first | exact ho3.keep (Ext.ik (Ext.trans HXt5.out ((Ext.refl _).alloc _))) | exact ho3.keep (Ext.ik (Ext.trans HXt5.out (((Ext.refl _).alloc _).alloc _))) | exact ho3.keep (Ext.ik (Ext.trans ((Ext.refl _).alloc _) (Ext.trans HXt5.out ((Ext.refl _).alloc _))))) (by first | exact ht5.keep ((Ext.refl _).alloc _).ik | exact ht5.keep (((Ext.refl _).alloc _).alloc _).ik)).mono ?_; rw [L4.out]; rintro e w7 ⟨t7, rfl, ht7, hxt7⟩; have HXt7 := Lib.hid hxt7; have sz := Ext.size hxt7; (try simp only [World.size_alloc, World.size_drew] at sz); (first | (have OG := Own.ext hxt7 ((Blk.at #[.bool false, .slice none 0 0] 39 rfl).own 2 (by simp) noIntW) (by omega)) | (have OG := Own.ext hxt7 (((Blk.at #[.bool false, .slice none 0 0] 39 rfl).alloc _).own 2 (by simp) noIntW) (by omega)) | (have OG := Own.ext hxt7 OG (by omega)) | (have OG := Own.ext (Ext.trans ((Ext.refl _).alloc _) hxt7) OG (by omega)) | skip); (try simp only [World.size_alloc] at OG); go_wp2_with fail; refine hK.out _ _ ?_ (fun hHeld => ?_); rotate_left; clear hK K; rotate_right; (focus ((try dsimp only); exact kept)); (try simp only [Act.put, List.setIfInBounds_toArray, List.set_cons_zero, List.set_cons_succ])
          refine tkW (i := 8) (h := ?_)
          refine tkW (i := 9) (h := ?_)
          refine tkW (i := 10) (h := ?_)
          refine consL (i := 11) (by kernel_rfl) rfl (fun K hK => ?_); go_simp; refine hK.out _ _ ?_ (fun hHeld => ?_); rotate_left; clear hK K; rotate_right; (focus ((try dsimp only); exact kept)); (try simp only [Act.put, List.setIfInBounds_toArray, List.set_cons_zero, List.set_cons_succ])
          refine consL (i := 12) (by kernel_rfl) rfl (fun K hK => ?_); go_simp; refine hK.out _ _ ?_ (fun hHeld => ?_); rotate_left; clear hK K; rotate_right; (focus ((try dsimp only); exact kept)); (try simp only [Act.put, List.setIfInBounds_toArray, List.set_cons_zero, List.set_cons_succ])
          refine consL (i := 13) (by kernel_rfl) rfl (fun K hK => ?_); go_simp; refine hK.out _ _ ?_ (fun hHeld => ?_); rotate_left; clear hK K; rotate_right; (focus ((try dsimp only); exact kept)); (try simp only [Act.put, List.setIfInBounds_toArray, List.set_cons_zero, List.set_cons_succ])
          refine doneL (by kernel_rfl) ?_
          go_wp2_with fail
          go_meet
          exact ⟨_, t7, rfl, rfl, And.left hHeld, by omega, by first | exact (Blk.at _ 39 rfl).at' | exact At.mk2 (put2_cells OG _ _).1 (put2_cells OG _ _).2, by first | exact ht7.keep ((Ext.refl _).alloc _).ik | exact ht7.keep (IK.put2 OG _ _ _ _)⟩
         ·skip
          go_simp; refine hK.out _ _ ?_ (fun hHeld => ?_); rotate_left; clear hK K; rotate_right; (focus ((try dsimp only); exact kept)); (try simp only [Act.put, List.setIfInBounds_toArray, List.set_cons_zero, List.set_cons_succ])
          refine consL (i := 7) (by kernel_rfl) rfl (fun K hK => ?_)
          go_simp; go_at_call 80; refine (ftimes_c o3 t5 (q / gg) (s) _ _ _ (by first | exact (Blk.at _ _ rfl).at' | exact (Blk.at _ _ (by simp)).at' | exact ((Blk.at _ _ rfl).alloc _).at' | exact ((Blk.at _ _ (by simp)).alloc _).at') (by first | exact ho3.keep (Ext.ik (Ext.trans HXt5.out ((Ext.refl _).alloc _))) | exact ho3.keep (Ext.ik (Ext.trans HXt5.out (((Ext.refl _).alloc _).alloc _))) | exact ho3.keep (Ext.ik (Ext.trans ((Ext.refl _).alloc _) (Ext.trans HXt5.out ((Ext.refl _).alloc _))))) (by first | exact ht5.keep ((Ext.refl _).alloc _).ik | exact ht5.keep (((Ext.refl _).alloc _).alloc _).ik)).mono ?_; rw [L4.out]; rintro e w7 ⟨t7, rfl, ht7, hxt7⟩; have HXt7 := Lib.hid hxt7; have sz := Ext.size hxt7; (try simp only [World.size_alloc, World.size_drew] at sz); (first | (have OG := Own.ext hxt7 ((Blk.at #[.bool false, .slice none 0 0] 39 rfl).own 2 (by simp) noIntW) (by omega)) | (have OG := Own.ext hxt7 (((Blk.at #[.bool false, .slice none 0 0] 39 rfl).alloc _).own 2 (by simp) noIntW) (by omega)) | (have OG := Own.ext hxt7 OG (by omega)) | (have OG := Own.ext (Ext.trans ((Ext.refl _).alloc _) hxt7) OG (by omega)) | skip); (try simp only [World.size_alloc] at OG); go_wp2_with fail; refine hK.out _ _ ?_ (fun hHeld => ?_); rotate_left; clear hK K; rotate_right; (focus ((try dsimp only); exact kept)); (try simp only [Act.put, List.setIfInBounds_toArray, List.set_cons_zero, List.set_cons_succ])
          refine tkW (i := 8) (h := ?_)
          refine tkW (i := 9) (h := ?_)
          refine tkW (i := 10) (h := ?_)
          refine consL (i := 12) (by kernel_rfl) rfl (fun K hK => ?_); go_simp; refine hK.out _ _ ?_ (fun hHeld => ?_); rotate_left; clear hK K; rotate_right; (focus ((try dsimp only); exact kept)); (try simp only [Act.put, List.setIfInBounds_toArray, List.set_cons_zero, List.set_cons_succ])
          refine consL (i := 13) (by kernel_rfl) rfl (fun K hK => ?_); go_simp; refine hK.out _ _ ?_ (fun hHeld => ?_); rotate_left; clear hK K; rotate_right; (focus ((try dsimp only); exact kept)); (try simp only [Act.put, List.setIfInBounds_toArray, List.set_cons_zero, List.set_cons_succ])
          refine doneL (by kernel_rfl) ?_
          go_wp2_with fail
          go_meet
          exact ⟨_, t7, rfl, rfl, And.left hHeld, by omega, by first | exact (Blk.at _ 39 rfl).at' | exact At.mk2 (put2_cells OG _ _).1 (put2_cells OG _ _).2, by first | exact ht7.keep ((Ext.refl _).alloc _).ik | exact ht7.keep (IK.put2 OG _ _ _ _)⟩
        ·skip
         go_simp; refine hK.out _ _ ?_ (fun hHeld => ?_); rotate_left; clear hK K; rotate_right; (focus ((try dsimp only); exact kept)); (try simp only [Act.put, List.setIfInBounds_toArray, List.set_cons_zero, List.set_cons_succ])
         refine consL (i := 6) (by kernel_rfl) rfl (fun K hK => ?_)
         go_simp; refine hK.out _ _ ?_ (fun hHeld => ?_); rotate_left; clear hK K; rotate_right; (focus ((try dsimp only); exact kept)); (try simp only [Act.put, List.setIfInBounds_toArray, List.set_cons_zero, List.set_cons_succ])
         refine consL (i := 7) (by kernel_rfl) rfl (fun K hK => ?_)
         go_simp; go_at_call 80; refine (ftimes_c o3 t5 (q / gg) (s) _ _ _ (by first | exact (Blk.at _ _ rfl).at' | exact (Blk.at _ _ (by simp)).at' | exact ((Blk.at _ _ rfl).alloc _).at' | exact ((Blk.at _ _ (by simp)).alloc _).at') (by first | exact ho3.keep (Ext.ik (Ext.trans HXt5.out ((Ext.refl _).alloc _))) | exact ho3.keep (Ext.ik (Ext.trans HXt5.out (((Ext.refl _).alloc _).alloc _))) | exact ho3.keep (Ext.ik (Ext.trans ((Ext.refl _).alloc _) (Ext.trans HXt5.out ((Ext.refl _).alloc _))))) (by first | exact ht5.keep ((Ext.refl _).alloc _).ik | exact ht5.keep (((Ext.refl _).alloc _).alloc _).ik)).mono ?_; rw [L4.out]; rintro e w7 ⟨t7, rfl, ht7, hxt7⟩; have HXt7 := Lib.hid hxt7; have sz := Ext.size hxt7; (try simp only [World.size_alloc, World.size_drew] at sz); (first | (have OG := Own.ext hxt7 ((Blk.at #[.bool false, .slice none 0 0] 39 rfl).own 2 (by simp) noIntW) (by omega)) | (have OG := Own.ext hxt7 (((Blk.at #[.bool false, .slice none 0 0] 39 rfl).alloc _).own 2 (by simp) noIntW) (by omega)) | (have OG := Own.ext hxt7 OG (by omega)) | (have OG := Own.ext (Ext.trans ((Ext.refl _).alloc _) hxt7) OG (by omega)) | skip); (try simp only [World.size_alloc] at OG); go_wp2_with fail; refine hK.out _ _ ?_ (fun hHeld => ?_); rotate_left; clear hK K; rotate_right; (focus ((try dsimp only); exact kept)); (try simp only [Act.put, List.setIfInBounds_toArray, List.set_cons_zero, List.set_cons_succ])
         refine tkW (i := 8) (h := ?_)
         refine tkW (i := 9) (h := ?_)
         refine tkW (i := 10) (h := ?_)
         refine consL (i := 12) (by kernel_rfl) rfl (fun K hK => ?_); go_simp; refine hK.out _ _ ?_ (fun hHeld => ?_); rotate_left; clear hK K; rotate_right; (focus ((try dsimp only); exact kept)); (try simp only [Act.put, List.setIfInBounds_toArray, List.set_cons_zero, List.set_cons_succ])
         refine consL (i := 13) (by kernel_rfl) rfl (fun K hK => ?_); go_simp; refine hK.out _ _ ?_ (fun hHeld => ?_); rotate_left; clear hK K; rotate_right; (focus ((try dsimp only); exact kept)); (try simp only [Act.put, List.setIfInBounds_toArray, List.set_cons_zero, List.set_cons_succ])
         refine doneL (by kernel_rfl) ?_
         go_wp2_with fail
         go_meet
         exact ⟨_, t7, rfl, rfl, And.left hHeld, by omega, by first | exact (Blk.at _ 39 rfl).at' | exact At.mk2 (put2_cells OG _ _).1 (put2_cells OG _ _).2, by first | exact ht7.keep ((Ext.refl _).alloc _).ik | exact ht7.keep (IK.put2 OG _ _ _ _)⟩
       ·skip
        go_simp; refine hK.out _ _ ?_ (fun hHeld => ?_); rotate_left; clear hK K; rotate_right; (focus ((try dsimp only); exact kept)); (try simp only [Act.put, List.setIfInBounds_toArray, List.set_cons_zero, List.set_cons_succ])
        refine consL (i := 5) (by kernel_rfl) rfl (fun K hK => ?_)
        go_simp; go_at_call 79; refine (Den_c b r s _ (HB.out.keep (Ext.ik (Ext.trans HW.out (And.left (by assumption)))))).mono ?_; rintro e w5 ⟨t5, rfl, ht5, hxt5⟩; have HXt5 := Lib.hid hxt5; have sz := Ext.size hxt5; (try simp only [World.size_alloc, World.size_drew] at sz); (first | (have OG := Own.ext hxt5 ((Blk.at #[.bool false, .slice none 0 0] 39 rfl).own 2 (by simp) noIntW) (by omega)) | (have OG := Own.ext hxt5 (((Blk.at #[.bool false, .slice none 0 0] 39 rfl).alloc _).own 2 (by simp) noIntW) (by omega)) | (have OG := Own.ext hxt5 OG (by omega)) | (have OG := Own.ext (Ext.trans ((Ext.refl _).alloc _) hxt5) OG (by omega)) | skip); (try simp only [World.size_alloc] at OG); go_wp2_with fail; refine hK.out _ _ ?_ (fun hHeld => ?_); rotate_left; clear hK K; rotate_right; (focus ((try dsimp only); exact kept)); (try simp only [Act.put, List.setIfInBounds_toArray, List.set_cons_zero, List.set_cons_succ])
        refine consL (i := 6) (by kernel_rfl) rfl (fun K hK => ?_)
        go_simp; refine hK.out _ _ ?_ (fun hHeld => ?_); rotate_left; clear hK K; rotate_right; (focus ((try dsimp only); exact kept)); (try simp only [Act.put, List.setIfInBounds_toArray, List.set_cons_zero, List.set_cons_succ])
        refine consL (i := 7) (by kernel_rfl) rfl (fun K hK => ?_)
        go_simp; go_at_call 80; refine (ftimes_c o3 t5 (q / gg) (s) _ _ _ (by first | exact (Blk.at _ _ rfl).at' | exact (Blk.at _ _ (by simp)).at' | exact ((Blk.at _ _ rfl).alloc _).at' | exact ((Blk.at _ _ (by simp)).alloc _).at') (by first | exact ho3.keep (Ext.ik (Ext.trans HXt5.out ((Ext.refl _).alloc _))) | exact ho3.keep (Ext.ik (Ext.trans HXt5.out (((Ext.refl _).alloc _).alloc _))) | exact ho3.keep (Ext.ik (Ext.trans ((Ext.refl _).alloc _) (Ext.trans HXt5.out ((Ext.refl _).alloc _))))) (by first | exact ht5.keep ((Ext.refl _).alloc _).ik | exact ht5.keep (((Ext.refl _).alloc _).alloc _).ik)).mono ?_; rw [L4.out]; rintro e w7 ⟨t7, rfl, ht7, hxt7⟩; have HXt7 := Lib.hid hxt7; have sz := Ext.size hxt7; (try simp only [World.size_alloc, World.size_drew] at sz); (first | (have OG := Own.ext hxt7 ((Blk.at #[.bool false, .slice none 0 0] 39 rfl).own 2 (by simp) noIntW) (by omega)) | (have OG := Own.ext hxt7 (((Blk.at #[.bool false, .slice none 0 0] 39 rfl).alloc _).own 2 (by simp) noIntW) (by omega)) | (have OG := Own.ext hxt7 OG (by omega)) | (have OG := Own.ext (Ext.trans ((Ext.refl _).alloc _) hxt7) OG (by omega)) | skip); (try simp only [World.size_alloc] at OG); go_wp2_with fail; refine hK.out _ _ ?_ (fun hHeld => ?_); rotate_left; clear hK K; rotate_right; (focus ((try dsimp only); exact kept)); (try simp only [Act.put, List.setIfInBounds_toArray, List.set_cons_zero, List.set_cons_succ])
        refine tkW (i := 8) (h := ?_)
        refine tkW (i := 9) (h := ?_)
        refine tkW (i := 10) (h := ?_)
        refine consL (i := 12) (by kernel_rfl) rfl (fun K hK => ?_); go_simp; refine hK.out _ _ ?_ (fun hHeld => ?_); rotate_left; clear hK K; rotate_right; (focus ((try dsimp only); exact kept)); (try simp only [Act.put, List.setIfInBounds_toArray, List.set_cons_zero, List.set_cons_succ])
        refine consL (i := 13) (by kernel_rfl) rfl (fun K hK => ?_); go_simp; refine hK.out _ _ ?_ (fun hHeld => ?_); rotate_left; clear hK K; rotate_right; (focus ((try dsimp only); exact kept)); (try simp only [Act.put, List.setIfInBounds_toArray, List.set_cons_zero, List.set_cons_succ])
        refine doneL (by kernel_rfl) ?_
        go_wp2_with fail
        go_meet
        exact ⟨_, t7, rfl, rfl, And.left hHeld, by omega, by first | exact (Blk.at _ 39 rfl).at' | exact At.mk2 (put2_cells OG _ _).1 (put2_cells OG _ _).2, by first | exact ht7.keep ((Ext.refl _).alloc _).ik | exact ht7.keep (IK.put2 OG _ _ _ _)⟩
      ·skip
       go_simp; refine hK.out _ _ ?_ (fun hHeld => ?_); rotate_left; clear hK K; rotate_right; (focus ((try dsimp only); exact kept)); (try simp only [Act.put, List.setIfInBounds_toArray, List.set_cons_zero, List.set_cons_succ])
       refine consL (i := 3) (by kernel_rfl) rfl (fun K hK => ?_)
       go_simp; go_at_call 81; refine (over_c t1 g q gg _ (by first | exact ht1 | exact ht1.keep ((Ext.refl _).alloc _).ik) (HGI.out.keep (Ext.ik (And.left (by assumption)))) (by omega)).mono ?_; rintro e w3 ⟨o3, rfl, ho3, hxo3⟩; have HXo3 := Lib.hid hxo3; have sz := Ext.size hxo3; (try simp only [World.size_alloc, World.size_drew] at sz); (first | (have OG := Own.ext hxo3 ((Blk.at #[.bool false, .slice none 0 0] 39 rfl).own 2 (by simp) noIntW) (by omega)) | (have OG := Own.ext hxo3 (((Blk.at #[.bool false, .slice none 0 0] 39 rfl).alloc _).own 2 (by simp) noIntW) (by omega)) | (have OG := Own.ext hxo3 OG (by omega)) | (have OG := Own.ext (Ext.trans ((Ext.refl _).alloc _) hxo3) OG (by omega)) | skip); (try simp only [World.size_alloc] at OG); go_wp2_with fail; refine hK.out _ _ ?_ (fun hHeld => ?_); rotate_left; clear hK K; rotate_right; (focus ((try dsimp only); exact kept)); (try simp only [Act.put, List.setIfInBounds_toArray, List.set_cons_zero, List.set_cons_succ])
       refine consL (i := 5) (by kernel_rfl) rfl (fun K hK => ?_)
       go_simp; go_at_call 79; refine (Den_c b r s _ (HB.out.keep (Ext.ik (Ext.trans HW.out (And.left (by assumption)))))).mono ?_; rintro e w5 ⟨t5, rfl, ht5, hxt5⟩; have HXt5 := Lib.hid hxt5; have sz := Ext.size hxt5; (try simp only [World.size_alloc, World.size_drew] at sz); (first | (have OG := Own.ext hxt5 ((Blk.at #[.bool false, .slice none 0 0] 39 rfl).own 2 (by simp) noIntW) (by omega)) | (have OG := Own.ext hxt5 (((Blk.at #[.bool false, .slice none 0 0] 39 rfl).alloc _).own 2 (by simp) noIntW) (by omega)) | (have OG := Own.ext hxt5 OG (by omega)) | (have OG := Own.ext (Ext.trans ((Ext.refl _).alloc _) hxt5) OG (by omega)) | skip); (try simp only [World.size_alloc] at OG); go_wp2_with fail; refine hK.out _ _ ?_ (fun hHeld => ?_); rotate_left; clear hK K; rotate_right; (focus ((try dsimp only); exact kept)); (try simp only [Act.put, List.setIfInBounds_toArray, List.set_cons_zero, List.set_cons_succ])
       refine consL (i := 6) (by kernel_rfl) rfl (fun K hK => ?_)
       go_simp; refine hK.out _ _ ?_ (fun hHeld => ?_); rotate_left; clear hK K; rotate_right; (focus ((try dsimp only); exact kept)); (try simp only [Act.put, List.setIfInBounds_toArray, List.set_cons_zero, List.set_cons_succ])
       refine consL (i := 7) (by kernel_rfl) rfl (fun K hK => ?_)
       go_simp; go_at_call 80; refine (ftimes_c o3 t5 (q / gg) (s) _ _ _ (by first | exact (Blk.at _ _ rfl).at' | exact (Blk.at _ _ (by simp)).at' | exact ((Blk.at _ _ rfl).alloc _).at' | exact ((Blk.at _ _ (by simp)).alloc _).at') (by first | exact ho3.keep (Ext.ik (Ext.trans HXt5.out ((Ext.refl _).alloc _))) | exact ho3.keep (Ext.ik (Ext.trans HXt5.out (((Ext.refl _).alloc _).alloc _))) | exact ho3.keep (Ext.ik (Ext.trans ((Ext.refl _).alloc _) (Ext.trans HXt5.out ((Ext.refl _).alloc _))))) (by first | exact ht5.keep ((Ext.refl _).alloc _).ik | exact ht5.keep (((Ext.refl _).alloc _).alloc _).ik)).mono ?_; rw [L4.out]; rintro e w7 ⟨t7, rfl, ht7, hxt7⟩; have HXt7 := Lib.hid hxt7; have sz := Ext.size hxt7; (try simp only [World.size_alloc, World.size_drew] at sz); (first | (have OG := Own.ext hxt7 ((Blk.at #[.bool false, .slice none 0 0] 39 rfl).own 2 (by simp) noIntW) (by omega)) | (have OG := Own.ext hxt7 (((Blk.at #[.bool false, .slice none 0 0] 39 rfl).alloc _).own 2 (by simp) noIntW) (by omega)) | (have OG := Own.ext hxt7 OG (by omega)) | (have OG := Own.ext (Ext.trans ((Ext.refl _).alloc _) hxt7) OG (by omega)) | skip); (try simp only [World.size_alloc] at OG); go_wp2_with fail; refine hK.out _ _ ?_ (fun hHeld => ?_); rotate_left; clear hK K; rotate_right; (focus ((try dsimp only); exact kept)); (try simp only [Act.put, List.setIfInBounds_toArray, List.set_cons_zero, List.set_cons_succ])
       refine tkW (i := 8) (h := ?_)
       refine tkW (i := 9) (h := ?_)
       refine tkW (i := 10) (h := ?_)
       refine consL (i := 12) (by kernel_rfl) rfl (fun K hK => ?_); go_simp; refine hK.out _ _ ?_ (fun hHeld => ?_); rotate_left; clear hK K; rotate_right; (focus ((try dsimp only); exact kept)); (try simp only [Act.put, List.setIfInBounds_toArray, List.set_cons_zero, List.set_cons_succ])
       refine consL (i := 13) (by kernel_rfl) rfl (fun K hK => ?_); go_simp; refine hK.out _ _ ?_ (fun hHeld => ?_); rotate_left; clear hK K; rotate_right; (focus ((try dsimp only); exact kept)); (try simp only [Act.put, List.setIfInBounds_toArray, List.set_cons_zero, List.set_cons_succ])
       refine doneL (by kernel_rfl) ?_
       go_wp2_with fail
       go_meet
       exact ⟨_, t7, rfl, rfl, And.left hHeld, by omega, by first | exact (Blk.at _ 39 rfl).at' | exact At.mk2 (put2_cells OG _ _).1 (put2_cells OG _ _).2, by first | exact ht7.keep ((Ext.refl _).alloc _).ik | exact ht7.keep (IK.put2 OG _ _ _ _)⟩
     ·skip
      go_simp; refine hK.out _ _ ?_ (fun hHeld => ?_); rotate_left; clear hK K; rotate_right; (focus ((try dsimp only); exact kept)); (try simp only [Act.put, List.setIfInBounds_toArray, List.set_cons_zero, List.set_cons_succ])
      refine consL (i := 1) (by kernel_rfl) rfl (fun K hK => ?_)
      go_simp; go_at_call 79; refine (Den_c a p q _ (HA.out.keep (Ext.ik (Ext.trans HW.out (And.left (by assumption)))))).mono ?_; rintro e w1 ⟨t1, rfl, ht1, hxt1⟩; have HXt1 := Lib.hid hxt1; have sz := Ext.size hxt1; (try simp only [World.size_alloc, World.size_drew] at sz); (first | (have OG := Own.ext hxt1 ((Blk.at #[.bool false, .slice none 0 0] 39 rfl).own 2 (by simp) noIntW) (by omega)) | (have OG := Own.ext hxt1 (((Blk.at #[.bool false, .slice none 0 0] 39 rfl).alloc _).own 2 (by simp) noIntW) (by omega)) | (have OG := Own.ext hxt1 OG (by omega)) | (have OG := Own.ext (Ext.trans ((Ext.refl _).alloc _) hxt1) OG (by omega)) | skip); (try simp only [World.size_alloc] at OG); go_wp2_with fail; refine hK.out _ _ ?_ (fun hHeld => ?_); rotate_left; clear hK K; rotate_right; (focus ((try dsimp only); exact kept)); (try simp only [Act.put, List.setIfInBounds_toArray, List.set_cons_zero, List.set_cons_succ])
      refine consL (i := 3) (by kernel_rfl) rfl (fun K hK => ?_)
      go_simp; go_at_call 81; refine (over_c t1 g q gg _ (by first | exact ht1 | exact ht1.keep ((Ext.refl _).alloc _).ik) (HGI.out.keep (Ext.ik (And.left (by assumption)))) (by omega)).mono ?_; rintro e w3 ⟨o3, rfl, ho3, hxo3⟩; have HXo3 := Lib.hid hxo3; have sz := Ext.size hxo3; (try simp only [World.size_alloc, World.size_drew] at sz); (first | (have OG := Own.ext hxo3 ((Blk.at #[.bool false, .slice none 0 0] 39 rfl).own 2 (by simp) noIntW) (by omega)) | (have OG := Own.ext hxo3 (((Blk.at #[.bool false, .slice none 0 0] 39 rfl).alloc _).own 2 (by simp) noIntW) (by omega)) | (have OG := Own.ext hxo3 OG (by omega)) | (have OG := Own.ext (Ext.trans ((Ext.refl _).alloc _) hxo3) OG (by omega)) | skip); (try simp only [World.size_alloc] at OG); go_wp2_with fail; refine hK.out _ _ ?_ (fun hHeld => ?_); rotate_left; clear hK K; rotate_right; (focus ((try dsimp only); exact kept)); (try simp only [Act.put, List.setIfInBounds_toArray, List.set_cons_zero, List.set_cons_succ])
      refine consL (i := 5) (by kernel_rfl) rfl (fun K hK => ?_)
      go_simp; go_at_call 79; refine (Den_c b r s _ (HB.out.keep (Ext.ik (Ext.trans HW.out (And.left (by assumption)))))).mono ?_; rintro e w5 ⟨t5, rfl, ht5, hxt5⟩; have HXt5 := Lib.hid hxt5; have sz := Ext.size hxt5; (try simp only [World.size_alloc, World.size_drew] at sz); (first | (have OG := Own.ext hxt5 ((Blk.at #[.bool false, .slice none 0 0] 39 rfl).own 2 (by simp) noIntW) (by omega)) | (have OG := Own.ext hxt5 (((Blk.at #[.bool false, .slice none 0 0] 39 rfl).alloc _).own 2 (by simp) noIntW) (by omega)) | (have OG := Own.ext hxt5 OG (by omega)) | (have OG := Own.ext (Ext.trans ((Ext.refl _).alloc _) hxt5) OG (by omega)) | skip); (try simp only [World.size_alloc] at OG); go_wp2_with fail; refine hK.out _ _ ?_ (fun hHeld => ?_); rotate_left; clear hK K; rotate_right; (focus ((try dsimp only); exact kept)); (try simp only [Act.put, List.setIfInBounds_toArray, List.set_cons_zero, List.set_cons_succ])
      refine consL (i := 6) (by kernel_rfl) rfl (fun K hK => ?_)
      go_simp; refine hK.out _ _ ?_ (fun hHeld => ?_); rotate_left; clear hK K; rotate_right; (focus ((try dsimp only); exact kept)); (try simp only [Act.put, List.setIfInBounds_toArray, List.set_cons_zero, List.set_cons_succ])
      refine consL (i := 7) (by kernel_rfl) rfl (fun K hK => ?_)
      go_simp; go_at_call 80; refine (ftimes_c o3 t5 (q / gg) (s) _ _ _ (by first | exact (Blk.at _ _ rfl).at' | exact (Blk.at _ _ (by simp)).at' | exact ((Blk.at _ _ rfl).alloc _).at' | exact ((Blk.at _ _ (by simp)).alloc _).at') (by first | exact ho3.keep (Ext.ik (Ext.trans HXt5.out ((Ext.refl _).alloc _))) | exact ho3.keep (Ext.ik (Ext.trans HXt5.out (((Ext.refl _).alloc _).alloc _))) | exact ho3.keep (Ext.ik (Ext.trans ((Ext.refl _).alloc _) (Ext.trans HXt5.out ((Ext.refl _).alloc _))))) (by first | exact ht5.keep ((Ext.refl _).alloc _).ik | exact ht5.keep (((Ext.refl _).alloc _).alloc _).ik)).mono ?_; rw [L4.out]; rintro e w7 ⟨t7, rfl, ht7, hxt7⟩; have HXt7 := Lib.hid hxt7; have sz := Ext.size hxt7; (try simp only [World.size_alloc, World.size_drew] at sz); (first | (have OG := Own.ext hxt7 ((Blk.at #[.bool false, .slice none 0 0] 39 rfl).own 2 (by simp) noIntW) (by omega)) | (have OG := Own.ext hxt7 (((Blk.at #[.bool false, .slice none 0 0] 39 rfl).alloc _).own 2 (by simp) noIntW) (by omega)) | (have OG := Own.ext hxt7 OG (by omega)) | (have OG := Own.ext (Ext.trans ((Ext.refl _).alloc _) hxt7) OG (by omega)) | skip); (try simp only [World.size_alloc] at OG); go_wp2_with fail; refine hK.out _ _ ?_ (fun hHeld => ?_); rotate_left; clear hK K; rotate_right; (focus ((try dsimp only); exact kept)); (try simp only [Act.put, List.setIfInBounds_toArray, List.set_cons_zero, List.set_cons_succ])
      refine tkW (i := 8) (h := ?_)
      refine tkW (i := 9) (h := ?_)
      refine tkW (i := 10) (h := ?_)
      refine consL (i := 12) (by kernel_rfl) rfl (fun K hK => ?_); go_simp; refine hK.out _ _ ?_ (fun hHeld => ?_); rotate_left; clear hK K; rotate_right; (focus ((try dsimp only); exact kept)); (try simp only [Act.put, List.setIfInBounds_toArray, List.set_cons_zero, List.set_cons_succ])
      refine consL (i := 13) (by kernel_rfl) rfl (fun K hK => ?_); go_simp; refine hK.out _ _ ?_ (fun hHeld => ?_); rotate_left; clear hK K; rotate_right; (focus ((try dsimp only); exact kept)); (try simp only [Act.put, List.setIfInBounds_toArray, List.set_cons_zero, List.set_cons_succ])
      refine doneL (by kernel_rfl) ?_
      go_wp2_with fail
      go_meet
      exact ⟨_, t7, rfl, rfl, And.left hHeld, by omega, by first | exact (Blk.at _ 39 rfl).at' | exact At.mk2 (put2_cells OG _ _).1 (put2_cells OG _ _).2, by first | exact ht7.keep ((Ext.refl _).alloc _).ik | exact ht7.keep (IK.put2 OG _ _ _ _)⟩
    case rest =>
     obtain ⟨H13, x13, rfl, rfl, EE, lh13, A13, hi13⟩ := hcut
     replace A0 := At.ext EE A0 (by simp)
     replace A1 := At.ext EE A1 (by simp)
     replace AG := At.ext EE AG (by simp)
     replace O2 := Own.ext EE O2 (by omega)
     replace E0 := E0.trans EE
     replace HGI := Lib.hid (HGI.out.keep EE.ik)
     have HI13 := Lib.hid hi13
     replace A11 := At.ext EE A11 (by simp)
     replace HI11 := Lib.hid (HI11.out.keep EE.ik)
     clear EE hi13 HW lv lg
     have c70 := A11 0 (by simp)
     have c71 := A11 1 (by simp)
     have c90 := A13 0 (by simp)
     have c91 := A13 1 (by simp)
     simp at c70 c71 c90 c91
     have HO2 := Lib.hid O2
     clear O2 A0 A1 AG
     go_wp2_with fail
     refine (Make_c x11 x13 _ _ _ HI11.out HI13.out hD1).mono ?_
     rintro e w9 ⟨f, rfl, hf, hx9⟩
     have O4 := HO2.out.ext hx9 (by omega)
     have HF := Lib.hid (And.intro hf (E0.trans hx9))
     clear hf hx9 c70 c71 c90 c91
     have hp := putF_cells O4 f
     obtain ⟨p0, p1, p2, p3⟩ := hp
     go_wp2_with fail
     refine bodyPost_ret (v := .tuple #[f.v, .int .i64 0]) (by simp [results, Try.results56, go_sem, p0, p1, p2, p3]) rfl ?_
     exact ⟨f, rfl, HF.out.1.keep (IK.putF O4 f), ext_putF HF.out.2 (by omega) f⟩
end Go.Proofs.Ytagiaiocgjagnaa
/- frac: Sub, where nothing is too great. -/
namespace Go.Proofs.Ytagiaiocgjagnaa
set_option linter.unusedSimpArgs false
set_option linter.unusedVariables false
open Go.RowKit

set_option maxRecDepth 100000 in
set_option maxHeartbeats 2000000 in
theorem fSub_c (a b : FV) (p q r s : Int) (w : World) (ha : IsF w a p q) (hb : IsF w b r s) (h1 : Big (p * (s / gcdI q s))) (h2 : Big (-r * (q / gcdI q s))) (h3 : Big (p * (s / gcdI q s) + -r * (q / gcdI q s))) (h4 : Big (q / gcdI q s * s)) :
  Calls Try.prog 91 #[a.v, b.v] w (RetQ ((p * (s / gcdI q s) + -r * (q / gcdI q s)) / gcdI (p * (s / gcdI q s) + -r * (q / gcdI q s)) (q / gcdI q s * s)) (q / gcdI q s * s / gcdI (p * (s / gcdI q s) + -r * (q / gcdI q s)) (q / gcdI q s * s)) w) := by
 have HA := Lib.hid ha; have HB := Lib.hid hb
 have HH := Lib.hid (And.intro h1 (And.intro h2 (And.intro h3 h4)))
 clear ha hb h1 h2 h3 h4
 obtain ⟨N, hN⟩ : ∃ N, (p * (s / gcdI q s) + -r * (q / gcdI q s)) / gcdI (p * (s / gcdI q s) + -r * (q / gcdI q s)) (q / gcdI q s * s) = N := ⟨_, rfl⟩
 obtain ⟨D, hD⟩ : ∃ D, q / gcdI q s * s / gcdI (p * (s / gcdI q s) + -r * (q / gcdI q s)) (q / gcdI q s * s) = D := ⟨_, rfl⟩
 have HN := Lib.hid hN; have HD := Lib.hid hD
 rw [hN, hD]
 clear hN hD
 go_enter Try.func91, Try.ntmps91
 go_upto_region 1 with (fail)
 obtain ⟨B, hB⟩ : ∃ B, w.heap.size = B := ⟨_, rfl⟩
 refine wp_gen (fun W => Ext w W ∧ At W B #[.bool a.n.neg, .slice a.n.a a.n.n a.n.c, .bool a.d.neg, .slice a.d.a a.d.n a.d.c] ∧ At W (B + 1) #[.bool b.n.neg, .slice b.n.a b.n.n b.n.c, .bool b.d.neg, .slice b.d.a b.d.n b.d.c] ∧ Own W (B + 1 + 1) 4) ⟨(by repeat (first | exact Ext.refl _ | assumption | refine Ext.setCell ?_ (by first | (simp; done) | (simp; omega) | omega) _ | refine Ext.alloc ?_ _ | refine Ext.drew ?_ | refine Ext.trans ?_ (by assumption))), (((Blk.at _ 41 hB.symm).alloc _).alloc _).at', ((Blk.at _ 41 (by simp [hB])).alloc _).at', (Blk.at #[.bool false, .slice none 0 0, .bool false, .slice none 0 0] 41 (by simp [hB])).own _ (by simp) (noIntF _ _ _ _ _ _ _ _)⟩ ?_
 try rw [hB]
 rintro V ⟨E0, A0, A1, O2⟩
 refine wp_region_held_drew (S := fun w' => Ext w w' ∧ At w' B #[.bool a.n.neg, .slice a.n.a a.n.n a.n.c, .bool a.d.neg, .slice a.d.a a.d.n a.d.c] ∧ At w' (B + 1) #[.bool b.n.neg, .slice b.n.a b.n.n b.n.c, .bool b.d.neg, .slice b.d.a b.d.n b.d.c] ∧ Own w' (B + 1 + 1) 4) (by kernel_rfl) ?_ (fun hHeld => ?_)
 ·exact ⟨E0.drew, A0, A1, O2⟩
 refine tkW (i := 0) (h := ?_)
 refine tkW (i := 1) (h := ?_)
 refine tkW (i := 2) (h := ?_)
 refine tkW (i := 4) (h := ?_)
 refine tkW (i := 5) (h := ?_)
 refine consL (i := 3) (by kernel_rfl) rfl (fun K hK => ?_); go_simp; go_at_call 107; refine (Neg_c b.n r _ (HB.out.num.keep (Ext.ik (And.left (by assumption))))).mono ?_; rintro e w2 ⟨t, rfl, ht, hx2⟩; go_wp2_with fail; refine hK.out _ _ ?_ (fun hHeld => ?_); rotate_left; clear hK K; rotate_right; (focus ((try dsimp only); exact kept)); (try simp only [Act.put, List.setIfInBounds_toArray, List.set_cons_zero, List.set_cons_succ])
 refine tkW (i := 6) (h := ?_)
 refine consL (i := 7) (by kernel_rfl) rfl (fun K hK => ?_); go_simp; go_at_call 56; refine (fAdd_c a ⟨t, b.d⟩ p q (-r) s _ (HA.out.keep (Ext.ik (And.left (by assumption)))) ⟨ht, HB.out.den.keep (Ext.ik (And.left (by assumption))), HB.out.pos, HB.out.big, by rw [Int.natAbs_neg]; exact HB.out.low⟩ HH.out.1 HH.out.2.1 HH.out.2.2.1 HH.out.2.2.2).mono ?_; rw [HN.out, HD.out]; rintro e w3 ⟨f, rfl, hf, hx3⟩; go_wp2_with fail; refine hK.out _ _ ?_ (fun hHeld => ?_); rotate_left; clear hK K; rotate_right; (focus ((try dsimp only); exact kept)); (try simp only [Act.put, List.setIfInBounds_toArray, List.set_cons_zero, List.set_cons_succ])
 have O4 := hHeld.2.2.2
 have E4 := hHeld.1
 refine tkW (i := 8) (h := ?_)
 refine tkW (i := 9) (h := ?_)
 refine consL (i := 10) (by kernel_rfl) rfl (fun K hK => ?_); go_simp; refine hK.out _ _ ?_ (fun hHeld => ?_); rotate_left; clear hK K; rotate_right; (focus ((try dsimp only); exact kept)); (try simp only [Act.put, List.setIfInBounds_toArray, List.set_cons_zero, List.set_cons_succ])
 refine consL (i := 11) (by kernel_rfl) rfl (fun K hK => ?_); go_simp; refine hK.out _ _ ?_ (fun hHeld => ?_); rotate_left; clear hK K; rotate_right; (focus ((try dsimp only); exact kept)); (try simp only [Act.put, List.setIfInBounds_toArray, List.set_cons_zero, List.set_cons_succ])
 refine doneL (by kernel_rfl) ?_
 have hp := putF_cells O4 f
 obtain ⟨p0, p1, p2, p3⟩ := hp
 go_wp2_with fail
 refine bodyPost_ret (v := .tuple #[f.v, .int .i64 0]) (by simp [results, Try.results91, go_sem, p0, p1, p2, p3]) rfl ?_
 exact ⟨f, rfl, hf.keep (IK.putF O4 f), ext_putF E4 (by omega) f⟩
end Go.Proofs.Ytagiaiocgjagnaa
