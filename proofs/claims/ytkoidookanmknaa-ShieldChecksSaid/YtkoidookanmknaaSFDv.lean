/- frac: Div. -/
import Derived.Test.YtkoidookanmknaaSFN
import Derived.Test.YtkoidookanmknaaSFMk
import Derived.Test.YtkoidookanmknaaSWS
namespace Go.Proofs.Ytkoidookanmknaa
set_option linter.unusedSimpArgs false
set_option linter.unusedVariables false
open Go.RowKit

theorem low_isR {w : World} {f : FV} {x d : Int} {k : Nat} (hd : 1 ≤ d) (h : IsF w f (x / gcdI x d) (d / gcdI x d)) (hx : x.natAbs < 2 ^ k) (hk : d.natAbs < 2 ^ k) : IsR w f x d k := by
 have hl := low_of x d hd
 have dv := gcdI_dvd x d
 exact ⟨_, _, h, ⟨h.pos, hd, hl.eq⟩, div_small' hx dv.1, div_small' hk dv.2⟩
/-- 1 / b. -/
def Inv (w : World) (f : FV) (u v s : Int) (k : Nat) : Prop := IsR w f (s * v) (s * u) k
theorem make_inv {b : FV} {u v s : Int} {k : Nat} {w w1 : World} {t : IV} {M E : Int} (hb : IsF w b M E) (hq : EqQ M E u v) (hs : s = 1 ∨ s = -1) (hu : 1 ≤ s * u) (b1 : M.natAbs < 2 ^ k) (b2 : E.natAbs < 2 ^ k) (ht : IsI w1 t E) (hn : IsI w1 b.n M) :
  Calls Try.prog 29 #[t.v, b.n.v] w1 fun e w' => ∃ f : FV, e = .returned (.tuple #[f.v, .int .i64 0]) ∧ Inv w' f u v s k ∧ Ext w1 w' := by
 obtain ⟨hE, hv, he⟩ := hq
 rcases hs with rfl | rfl
 ·have hM : 1 ≤ M := by
   have : 0 < M * v := by rw [he]; exact Int.mul_pos (by omega) (by omega)
   rcases Int.lt_or_le 0 M with h | h
   ·omega
   ·exfalso
    have := Int.mul_nonpos_of_nonpos_of_nonneg h (show 0 ≤ v by omega)
    omega
  refine (Make_c t b.n E M w1 ht hn hM).mono ?_
  rintro e w' ⟨f, rfl, hf, hx⟩
  refine ⟨f, rfl, (low_isR hM hf b2 b1).eq ?_ (by omega), hx⟩
  rw [Int.one_mul, Int.one_mul, Int.mul_comm v, he, Int.mul_comm]
 ·have hM : 1 ≤ -M := by
   have : M * v < 0 := by rw [he]; exact Int.mul_neg_of_neg_of_pos (by omega) (by omega)
   rcases Int.lt_or_le M 0 with h | h
   ·omega
   ·exfalso
    have := Int.mul_nonneg h (show 0 ≤ v by omega)
    omega
  refine (MakeN_c t b.n (-E) (-M) w1 (by rw [Int.neg_neg]; exact ht) (by rw [Int.neg_neg]; exact hn) hM).mono ?_
  rintro e w' ⟨f, rfl, hf, hx⟩
  refine ⟨f, rfl, (low_isR hM hf (by rw [Int.natAbs_neg]; exact b2) (by rw [Int.natAbs_neg]; exact b1)).eq ?_ (by omega), hx⟩
  grind
theorem At.putF' {w : World} {b : Nat} (h : Own w b 4) (f : FV) : At (putF w b f) b #[.bool f.n.neg, .slice f.n.a f.n.n f.n.c, .bool f.d.neg, .slice f.d.a f.d.n f.d.c] := fun o ho => by
 obtain ⟨p0, p1, p2, p3⟩ := putF_cells h f
 match o, ho with
 | 0, _ => exact p0
 | 1, _ => exact p1
 | 2, _ => exact p2
 | 3, _ => exact p3
 | o + 4, ho => simp at ho; omega
set_option maxRecDepth 100000 in
set_option maxHeartbeats 4000000 in
theorem divN_c (a b : FV) (x y u v s : Int) (k : Nat) (w : World) (ha : IsR w a x y k) (hb : IsR w b u v k) (hs : s = 1 ∨ s = -1) (hu : 1 ≤ s * u) (hk : 2 * k ≤ 16384) :
  Calls Try.prog 81 #[a.v, b.v] w (RetN (x * (s * v)) (y * (s * u)) (2 * k) w) := by
 obtain ⟨M, E, hb1, hb2, hb3, hb4⟩ := hb
 have HA := Lib.hid ha
 have HB := Lib.hid (And.intro hb1 (And.intro hb2 (And.intro hb3 hb4)))
 have HS := Lib.hid (And.intro hs hu)
 clear ha hb1 hb2 hb3 hb4 hs hu
 obtain ⟨B, hB⟩ : ∃ B, w.heap.size = B := ⟨_, rfl⟩
 go_enter Try.func81, Try.ntmps81
 go_upto_region 1 with (fail)
 refine wp_gen (fun W => Ext w W ∧ At W B #[.bool a.n.neg, .slice a.n.a a.n.n a.n.c, .bool a.d.neg, .slice a.d.a a.d.n a.d.c] ∧ At W (B + 1) #[.bool b.n.neg, .slice b.n.a b.n.n b.n.c, .bool b.d.neg, .slice b.d.a b.d.n b.d.c] ∧ Own W (B + 1 + 1) 4) ⟨(by repeat (first | exact Ext.refl _ | assumption | refine Ext.setCell ?_ (by first | (simp; done) | (simp; omega) | omega) _ | refine Ext.alloc ?_ _ | refine Ext.drew ?_ | refine Ext.trans ?_ (by assumption))), (((Blk.at _ 58 hB.symm).alloc _).alloc _).at', ((Blk.at _ 58 (by simp [hB])).alloc _).at', (Blk.at #[.bool false, .slice none 0 0, .bool false, .slice none 0 0] 58 (by simp [hB])).own _ (by simp) (noIntF _ _ _ _ _ _ _ _)⟩ ?_
 try rw [hB]
 rintro V ⟨E0, A0, A1, O2⟩
 have HE := Lib.hid E0
 go_cut [6, 7] (fun s6 s7 wx => ∃ (G : Nat) (f : FV), s6 = .pointer (some ⟨G, 0, none⟩) ∧ s7 = .int .i64 0 ∧ (Ext w wx ∧ At wx B #[.bool a.n.neg, .slice a.n.a a.n.n a.n.c, .bool a.d.neg, .slice a.d.a a.d.n a.d.c] ∧ At wx (B + 1) #[.bool b.n.neg, .slice b.n.a b.n.n b.n.c, .bool b.d.neg, .slice b.d.a b.d.n b.d.c] ∧ Own wx (B + 1 + 1) 4) ∧ B + 1 + 1 < G ∧ At wx G #[.bool f.n.neg, .slice f.n.a f.n.n f.n.c, .bool f.d.neg, .slice f.d.a f.d.n f.d.c] ∧ Inv wx f u v s k)
 case first =>
  have lv := O2.lt (by omega)
  refine wp_region_held_drew (S := fun w' => Ext w w' ∧ At w' B #[.bool a.n.neg, .slice a.n.a a.n.n a.n.c, .bool a.d.neg, .slice a.d.a a.d.n a.d.c] ∧ At w' (B + 1) #[.bool b.n.neg, .slice b.n.a b.n.n b.n.c, .bool b.d.neg, .slice b.d.a b.d.n b.d.c] ∧ Own w' (B + 1 + 1) 4) (by kernel_rfl) ?_ (fun hHeld => ?_)
  ·exact ⟨E0.drew, A0, A1, O2⟩
  refine takeL (i := 0) (v := ?_) rfl (by kernel_rfl) (by kernel_rfl) (by kernel_rfl) (fun _ _ _ h => h) (Or.inl ⟨by rfl, ?_⟩) (by assumption) ?_; rotate_left; (focus (intro wq hSw; (try dsimp only at hSw); go_simp; try with_reducible rfl)); (try simp only [Act.put, List.setIfInBounds_toArray, List.set_cons_zero, List.set_cons_succ])
  refine takeL (i := 2) (v := ?_) rfl (by kernel_rfl) (by kernel_rfl) (by kernel_rfl) (fun _ _ _ h => h) (Or.inl ⟨by rfl, ?_⟩) (by assumption) ?_; rotate_left; (focus (intro wq hSw; (try dsimp only at hSw); go_simp; try with_reducible rfl)); (try simp only [Act.put, List.setIfInBounds_toArray, List.set_cons_zero, List.set_cons_succ])
  refine takeL (i := 3) (v := ?_) rfl (by kernel_rfl) (by kernel_rfl) (by kernel_rfl) (fun _ _ _ h => h) (Or.inl ⟨by rfl, ?_⟩) (by assumption) ?_; rotate_left; (focus (intro wq hSw; (try dsimp only at hSw); go_simp; try with_reducible rfl)); (try simp only [Act.put, List.setIfInBounds_toArray, List.set_cons_zero, List.set_cons_succ])
  refine cons2L (i := 1) (j := 8) (by kernel_rfl) rfl rfl (fun K hK => ?_) (fun K hK => ?_)
  ·go_simp; go_at_call 56; refine (Den_c b M E _ (HB.out.1.keep (Ext.ik (And.left (by assumption))))).mono ?_; rintro e w2 ⟨t, rfl, ht, hx2⟩; have HX2 := Lib.hid hx2; have sz := Ext.size hx2; (try simp only [World.size_alloc, World.size_drew] at sz); (first | (have OG := Own.ext hx2 ((Blk.at #[.bool false, .slice none 0 0, .bool false, .slice none 0 0] 58 rfl).own 4 (by simp) (noIntF _ _ _ _ _ _ _ _)) (by omega)) | (have OG := Own.ext hx2 OG (by omega)) | skip); (try simp only [World.size_alloc] at OG); go_wp2_with fail; refine hK.out _ _ ?_ (fun hHeld => ?_); rotate_left; clear hK K; rotate_right; (focus ((try dsimp only); exact kept)); (try simp only [Act.put, List.setIfInBounds_toArray, List.set_cons_zero, List.set_cons_succ])
   refine cons2L (i := 4) (j := 8) (by kernel_rfl) rfl rfl (fun K hK => ?_) (fun K hK => ?_)
   ·go_simp; go_at_call 29; refine (make_inv (w1 := _) HB.out.1 HB.out.2.1 HS.out.1 HS.out.2 HB.out.2.2.1 HB.out.2.2.2 (ht) (HB.out.1.num.keep (Ext.ik (And.left (by assumption))))).mono ?_; rintro e w3 ⟨f, rfl, hf, hx3⟩; have sz := Ext.size hx3; (try simp only [World.size_alloc, World.size_drew] at sz); (first | (have OG := Own.ext hx3 ((Blk.at #[.bool false, .slice none 0 0, .bool false, .slice none 0 0] 58 rfl).own 4 (by simp) (noIntF _ _ _ _ _ _ _ _)) (by omega)) | (have OG := Own.ext hx3 OG (by omega)) | skip); (try simp only [World.size_alloc] at OG); go_wp2_with fail; refine hK.out _ _ ?_ (fun hHeld => ?_); rotate_left; clear hK K; rotate_right; (focus ((try dsimp only); exact kept)); (try simp only [Act.put, List.setIfInBounds_toArray, List.set_cons_zero, List.set_cons_succ])
    refine takeL (i := 5) (v := ?_) rfl (by kernel_rfl) (by kernel_rfl) (by kernel_rfl) (fun _ _ _ h => h) (Or.inl ⟨by rfl, ?_⟩) (by assumption) ?_; rotate_left; (focus (intro wq hSw; (try dsimp only at hSw); go_simp; try with_reducible rfl)); (try simp only [Act.put, List.setIfInBounds_toArray, List.set_cons_zero, List.set_cons_succ])
    refine takeL (i := 6) (v := ?_) rfl (by kernel_rfl) (by kernel_rfl) (by kernel_rfl) (fun _ _ _ h => h) (Or.inl ⟨by rfl, ?_⟩) (by assumption) ?_; rotate_left; (focus (intro wq hSw; (try dsimp only at hSw); go_simp; try with_reducible rfl)); (try simp only [Act.put, List.setIfInBounds_toArray, List.set_cons_zero, List.set_cons_succ])
    refine takeL (i := 7) (v := ?_) rfl (by kernel_rfl) (by kernel_rfl) (by kernel_rfl) (fun _ _ _ h => h) (Or.inl ⟨by rfl, ?_⟩) (by assumption) ?_; rotate_left; (focus (intro wq hSw; (try dsimp only at hSw); go_simp; try with_reducible rfl)); (try simp only [Act.put, List.setIfInBounds_toArray, List.set_cons_zero, List.set_cons_succ])
    refine consL (i := 8) (by kernel_rfl) rfl (fun K hK => ?_); go_simp; refine hK.out _ _ ?_ (fun hHeld => ?_); rotate_left; clear hK K; rotate_right; (focus ((try dsimp only); exact kept)); (try simp only [Act.put, List.setIfInBounds_toArray, List.set_cons_zero, List.set_cons_succ])
    refine consL (i := 9) (by kernel_rfl) rfl (fun K hK => ?_); go_simp; refine hK.out _ _ ?_ (fun hHeld => ?_); rotate_left; clear hK K; rotate_right; (focus ((try dsimp only); exact kept)); (try simp only [Act.put, List.setIfInBounds_toArray, List.set_cons_zero, List.set_cons_succ])
    refine takeL (i := 10) (v := ?_) rfl (by kernel_rfl) (by kernel_rfl) (by kernel_rfl) (fun _ _ _ h => h) (Or.inl ⟨by rfl, ?_⟩) (by assumption) ?_; rotate_left; (focus (intro wq hSw; (try dsimp only at hSw); go_simp; try with_reducible rfl)); (try simp only [Act.put, List.setIfInBounds_toArray, List.set_cons_zero, List.set_cons_succ])
    refine doneL (by kernel_rfl) ?_; go_wp2_with fail; go_meet; refine ⟨_, f, rfl, rfl, hHeld, ?_, ?_, ?_⟩; (focus omega); (focus (first | exact At.putF' OG f | exact (Blk.at _ 58 rfl).at')); (focus (first | exact IsR.keep hf (IK.putF OG f) | exact IsR.keep hf ((Ext.refl _).alloc _).ik))
   ·go_simp; refine hK.out _ _ ?_ (fun hHeld => ?_); rotate_left; clear hK K; rotate_right; (focus ((try dsimp only); exact kept)); (try simp only [Act.put, List.setIfInBounds_toArray, List.set_cons_zero, List.set_cons_succ])
    refine consL (i := 4) (by kernel_rfl) rfl (fun K hK => ?_)
    go_simp; go_at_call 29; refine (make_inv (w1 := _) HB.out.1 HB.out.2.1 HS.out.1 HS.out.2 HB.out.2.2.1 HB.out.2.2.2 (ht.keep ((Ext.refl _).alloc _).ik) (HB.out.1.num.keep (Ext.ik (And.left (by assumption))))).mono ?_; rintro e w3 ⟨f, rfl, hf, hx3⟩; have sz := Ext.size hx3; (try simp only [World.size_alloc, World.size_drew] at sz); (first | (have OG := Own.ext hx3 ((Blk.at #[.bool false, .slice none 0 0, .bool false, .slice none 0 0] 58 rfl).own 4 (by simp) (noIntF _ _ _ _ _ _ _ _)) (by omega)) | (have OG := Own.ext hx3 OG (by omega)) | skip); (try simp only [World.size_alloc] at OG); go_wp2_with fail; refine hK.out _ _ ?_ (fun hHeld => ?_); rotate_left; clear hK K; rotate_right; (focus ((try dsimp only); exact kept)); (try simp only [Act.put, List.setIfInBounds_toArray, List.set_cons_zero, List.set_cons_succ])
    refine takeL (i := 5) (v := ?_) rfl (by kernel_rfl) (by kernel_rfl) (by kernel_rfl) (fun _ _ _ h => h) (Or.inl ⟨by rfl, ?_⟩) (by assumption) ?_; rotate_left; (focus (intro wq hSw; (try dsimp only at hSw); go_simp; try with_reducible rfl)); (try simp only [Act.put, List.setIfInBounds_toArray, List.set_cons_zero, List.set_cons_succ])
    refine takeL (i := 6) (v := ?_) rfl (by kernel_rfl) (by kernel_rfl) (by kernel_rfl) (fun _ _ _ h => h) (Or.inl ⟨by rfl, ?_⟩) (by assumption) ?_; rotate_left; (focus (intro wq hSw; (try dsimp only at hSw); go_simp; try with_reducible rfl)); (try simp only [Act.put, List.setIfInBounds_toArray, List.set_cons_zero, List.set_cons_succ])
    refine takeL (i := 7) (v := ?_) rfl (by kernel_rfl) (by kernel_rfl) (by kernel_rfl) (fun _ _ _ h => h) (Or.inl ⟨by rfl, ?_⟩) (by assumption) ?_; rotate_left; (focus (intro wq hSw; (try dsimp only at hSw); go_simp; try with_reducible rfl)); (try simp only [Act.put, List.setIfInBounds_toArray, List.set_cons_zero, List.set_cons_succ])
    refine consL (i := 9) (by kernel_rfl) rfl (fun K hK => ?_); go_simp; refine hK.out _ _ ?_ (fun hHeld => ?_); rotate_left; clear hK K; rotate_right; (focus ((try dsimp only); exact kept)); (try simp only [Act.put, List.setIfInBounds_toArray, List.set_cons_zero, List.set_cons_succ])
    refine takeL (i := 10) (v := ?_) rfl (by kernel_rfl) (by kernel_rfl) (by kernel_rfl) (fun _ _ _ h => h) (Or.inl ⟨by rfl, ?_⟩) (by assumption) ?_; rotate_left; (focus (intro wq hSw; (try dsimp only at hSw); go_simp; try with_reducible rfl)); (try simp only [Act.put, List.setIfInBounds_toArray, List.set_cons_zero, List.set_cons_succ])
    refine doneL (by kernel_rfl) ?_; go_wp2_with fail; go_meet; refine ⟨_, f, rfl, rfl, hHeld, ?_, ?_, ?_⟩; (focus omega); (focus (first | exact At.putF' OG f | exact (Blk.at _ 58 rfl).at')); (focus (first | exact IsR.keep hf (IK.putF OG f) | exact IsR.keep hf ((Ext.refl _).alloc _).ik))
  ·go_simp; refine hK.out _ _ ?_ (fun hHeld => ?_); rotate_left; clear hK K; rotate_right; (focus ((try dsimp only); exact kept)); (try simp only [Act.put, List.setIfInBounds_toArray, List.set_cons_zero, List.set_cons_succ])
   refine consL (i := 1) (by kernel_rfl) rfl (fun K hK => ?_)
   go_simp; go_at_call 56; refine (Den_c b M E _ (HB.out.1.keep (Ext.ik (And.left (by assumption))))).mono ?_; rintro e w2 ⟨t, rfl, ht, hx2⟩; have HX2 := Lib.hid hx2; have sz := Ext.size hx2; (try simp only [World.size_alloc, World.size_drew] at sz); (first | (have OG := Own.ext hx2 ((Blk.at #[.bool false, .slice none 0 0, .bool false, .slice none 0 0] 58 rfl).own 4 (by simp) (noIntF _ _ _ _ _ _ _ _)) (by omega)) | (have OG := Own.ext hx2 OG (by omega)) | skip); (try simp only [World.size_alloc] at OG); go_wp2_with fail; refine hK.out _ _ ?_ (fun hHeld => ?_); rotate_left; clear hK K; rotate_right; (focus ((try dsimp only); exact kept)); (try simp only [Act.put, List.setIfInBounds_toArray, List.set_cons_zero, List.set_cons_succ])
   refine consL (i := 4) (by kernel_rfl) rfl (fun K hK => ?_)
   go_simp; go_at_call 29; refine (make_inv (w1 := _) HB.out.1 HB.out.2.1 HS.out.1 HS.out.2 HB.out.2.2.1 HB.out.2.2.2 (ht) (HB.out.1.num.keep (Ext.ik (And.left (by assumption))))).mono ?_; rintro e w3 ⟨f, rfl, hf, hx3⟩; have sz := Ext.size hx3; (try simp only [World.size_alloc, World.size_drew] at sz); (first | (have OG := Own.ext hx3 ((Blk.at #[.bool false, .slice none 0 0, .bool false, .slice none 0 0] 58 rfl).own 4 (by simp) (noIntF _ _ _ _ _ _ _ _)) (by omega)) | (have OG := Own.ext hx3 OG (by omega)) | skip); (try simp only [World.size_alloc] at OG); go_wp2_with fail; refine hK.out _ _ ?_ (fun hHeld => ?_); rotate_left; clear hK K; rotate_right; (focus ((try dsimp only); exact kept)); (try simp only [Act.put, List.setIfInBounds_toArray, List.set_cons_zero, List.set_cons_succ])
   refine takeL (i := 5) (v := ?_) rfl (by kernel_rfl) (by kernel_rfl) (by kernel_rfl) (fun _ _ _ h => h) (Or.inl ⟨by rfl, ?_⟩) (by assumption) ?_; rotate_left; (focus (intro wq hSw; (try dsimp only at hSw); go_simp; try with_reducible rfl)); (try simp only [Act.put, List.setIfInBounds_toArray, List.set_cons_zero, List.set_cons_succ])
   refine takeL (i := 6) (v := ?_) rfl (by kernel_rfl) (by kernel_rfl) (by kernel_rfl) (fun _ _ _ h => h) (Or.inl ⟨by rfl, ?_⟩) (by assumption) ?_; rotate_left; (focus (intro wq hSw; (try dsimp only at hSw); go_simp; try with_reducible rfl)); (try simp only [Act.put, List.setIfInBounds_toArray, List.set_cons_zero, List.set_cons_succ])
   refine takeL (i := 7) (v := ?_) rfl (by kernel_rfl) (by kernel_rfl) (by kernel_rfl) (fun _ _ _ h => h) (Or.inl ⟨by rfl, ?_⟩) (by assumption) ?_; rotate_left; (focus (intro wq hSw; (try dsimp only at hSw); go_simp; try with_reducible rfl)); (try simp only [Act.put, List.setIfInBounds_toArray, List.set_cons_zero, List.set_cons_succ])
   refine consL (i := 9) (by kernel_rfl) rfl (fun K hK => ?_); go_simp; refine hK.out _ _ ?_ (fun hHeld => ?_); rotate_left; clear hK K; rotate_right; (focus ((try dsimp only); exact kept)); (try simp only [Act.put, List.setIfInBounds_toArray, List.set_cons_zero, List.set_cons_succ])
   refine takeL (i := 10) (v := ?_) rfl (by kernel_rfl) (by kernel_rfl) (by kernel_rfl) (fun _ _ _ h => h) (Or.inl ⟨by rfl, ?_⟩) (by assumption) ?_; rotate_left; (focus (intro wq hSw; (try dsimp only at hSw); go_simp; try with_reducible rfl)); (try simp only [Act.put, List.setIfInBounds_toArray, List.set_cons_zero, List.set_cons_succ])
   refine doneL (by kernel_rfl) ?_; go_wp2_with fail; go_meet; refine ⟨_, f, rfl, rfl, hHeld, ?_, ?_, ?_⟩; (focus omega); (focus (first | exact At.putF' OG f | exact (Blk.at _ 58 rfl).at')); (focus (first | exact IsR.keep hf (IK.putF OG f) | exact IsR.keep hf ((Ext.refl _).alloc _).ik))
 case rest =>
  obtain ⟨G, f, rfl, rfl, ⟨E1, A0', A1', O2'⟩, hG, AG, hf⟩ := hcut
  have g0 := AG 0 (by simp); have g1 := AG 1 (by simp); have g2 := AG 2 (by simp); have g3 := AG 3 (by simp)
  have a0 := A0' 0 (by simp); have a1 := A0' 1 (by simp); have a2 := A0' 2 (by simp); have a3 := A0' 3 (by simp)
  simp only [List.getElem?_toArray, List.getElem?_cons_zero, List.getElem?_cons_succ] at g0 g1 g2 g3 a0 a1 a2 a3
  have HF := Lib.hid (And.intro E1 (And.intro O2' hf))
  clear E1 O2' hf A0' A1' AG A0 A1 O2 E0
  go_wp2_with fail
  refine (mulN_c a f x y (s * v) (s * u) k _ (HA.out.keep HF.out.1.ik) HF.out.2.2 hk).mono ?_
  rintro e w5 ⟨h, rfl, hh, hx5⟩
  have O5 := HF.out.2.1.ext hx5 (by omega)
  have HX := Lib.hid (And.intro hh (HF.out.1.trans hx5))
  clear hh hx5 g0 g1 g2 g3 a0 a1 a2 a3
  obtain ⟨p0, p1, p2, p3⟩ := putF_cells O5 h
  go_wp2_with fail
  refine bodyPost_ret (v := .tuple #[h.v, .int .i64 0]) (by simp [results, Try.results81, go_sem, p0, p1, p2, p3]) rfl ?_
  exact ⟨h, rfl, HX.out.1.keep (IK.putF O5 h), ext_putF HX.out.2 (by omega) h⟩
end Go.Proofs.Ytkoidookanmknaa
