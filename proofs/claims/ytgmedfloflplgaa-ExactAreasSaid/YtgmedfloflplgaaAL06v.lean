/- The walk of ExactAreas. -/
import Derived.Test.YtgmedfloflplgaaWT
import Derived.Test.YtgmedfloflplgaaAL06w
import Derived.Test.YtgmedfloflplgaaAL06p
import Derived.Test.YtgmedfloflplgaaAR06w
import Derived.Test.YtgmedfloflplgaaAP06v
import Derived.Test.YtgmedfloflplgaaAL06a
import Derived.Test.YtgmedfloflplgaaAPW
namespace Go.Proofs.Ytgmedfloflplgaa
set_option linter.unusedSimpArgs false
set_option linter.unusedVariables false
open Go.RowKit

/-- A fraction is stored into a point of a slice. -/
theorem cell_putO_at {w : World} {b o : Nat} {f : FV} {n j : Nat} (h : Own w b n) (ho : o + 4 ≤ n) (hj : j < 4) : (putO w b o f).cell? ⟨b, o + j, none⟩ = ([.bool f.n.neg, .slice f.n.a f.n.n f.n.c, .bool f.d.neg, .slice f.d.a f.d.n f.d.c] : List Value)[j]? := by
 obtain ⟨h0, h1, h2, h3⟩ := Four.new (f := f) h ho
 match j, hj with
 | 0, _ => exact h0
 | 1, _ => exact h1
 | 2, _ => exact h2
 | 3, _ => exact h3
theorem GAt.putX {w : World} {b n k : Nat} {l : List PV} {q : PV} {f : FV} (h : GAt encPV w b l) (hk : l[k]? = some q) (hO : Own w b n) (hn : k * 8 + 4 ≤ n) : GAt encPV (putO w b (k * 8) f) b (l.set k ⟨f, q.y⟩) := fun i a hi j hj => by
 have hs : encPV.s = 8 := rfl
 rw [hs] at hj ⊢
 by_cases hik : k = i
 ·subst hik
  rw [List.getElem?_set_self (List.getElem?_eq_some_iff.1 hk).1] at hi
  injection hi with hi
  subst hi
  by_cases h4 : j < 4
  ·rw [cell_putO_at hO hn h4]
   match j, h4 with
   | 0, _ | 1, _ | 2, _ | 3, _ => rfl
  ·have := h k q hk j hj
   rw [hs] at this
   obtain ⟨v, hv⟩ : ∃ v, (encPV.f q)[j]? = some v := ⟨_, List.getElem?_eq_getElem (by rw [encPV.len]; exact hj)⟩
   rw [hv] at this
   rw [cell_putO this (by omega), ← hv]
   match j, hj, h4 with
   | 0, _, h | 1, _, h | 2, _, h | 3, _, h => omega
   | 4, _, _ | 5, _, _ | 6, _, _ | 7, _, _ => rfl
 ·rw [List.getElem?_set_ne hik] at hi
  have := h i a hi j hj
  rw [hs] at this
  obtain ⟨v, hv⟩ : ∃ v, (encPV.f a)[j]? = some v := ⟨_, List.getElem?_eq_getElem (by rw [encPV.len]; exact hj)⟩
  rw [hv] at this
  rw [cell_putO this (by omega), ← hv]
theorem GAt.putY {w : World} {b n k : Nat} {l : List PV} {q : PV} {f : FV} (h : GAt encPV w b l) (hk : l[k]? = some q) (hO : Own w b n) (hn : k * 8 + 8 ≤ n) : GAt encPV (putO w b (k * 8 + 4) f) b (l.set k ⟨q.x, f⟩) := fun i a hi j hj => by
 have hs : encPV.s = 8 := rfl
 rw [hs] at hj ⊢
 by_cases hik : k = i
 ·subst hik
  rw [List.getElem?_set_self (List.getElem?_eq_some_iff.1 hk).1] at hi
  injection hi with hi
  subst hi
  by_cases h4 : 4 ≤ j
  ·obtain ⟨j, rfl⟩ : ∃ i, j = 4 + i := ⟨j - 4, by omega⟩
   rw [← Nat.add_assoc, cell_putO_at hO (by omega) (by omega)]
   match j, hj with
   | 0, _ | 1, _ | 2, _ | 3, _ => rfl
   | j + 4, h => omega
  ·have := h k q hk j hj
   rw [hs] at this
   obtain ⟨v, hv⟩ : ∃ v, (encPV.f q)[j]? = some v := ⟨_, List.getElem?_eq_getElem (by rw [encPV.len]; exact hj)⟩
   rw [hv] at this
   rw [cell_putO this (by omega), ← hv]
   match j, hj, h4 with
   | 0, _, _ | 1, _, _ | 2, _, _ | 3, _, _ => rfl
   | 4, _, h | 5, _, h | 6, _, h | 7, _, h => omega
 ·rw [List.getElem?_set_ne hik] at hi
  have := h i a hi j hj
  rw [hs] at this
  obtain ⟨v, hv⟩ : ∃ v, (encPV.f a)[j]? = some v := ⟨_, List.getElem?_eq_getElem (by rw [encPV.len]; exact hj)⟩
  rw [hv] at this
  rw [cell_putO this (by omega), ← hv]
/-- Four points, in a slice of the call's own. -/
structure Pts4 (w W : World) (h : Nat) (qs : List PV) : Prop where
 ext : Ext w W
 at' : GAt encPV W h qs
 n : qs.length = 4
 own : Own W h 32
 new : w.heap.size ≤ h
 val : ∀ (i : Nat) (q : PV), qs[i]? = some q → ∃ v, IsPG W q v
theorem Pts4.keep {w W W' : World} {h : Nat} {qs : List PV} (H : Pts4 w W h qs) (e : Ext W W') : Pts4 w W' h qs :=
 ⟨H.ext.trans e, H.at'.ext e, H.n, H.own.ext e (by omega), H.new, fun i q hq => by obtain ⟨v, hv⟩ := H.val i q hq; exact ⟨v, hv.keep e.ik⟩⟩
theorem Pts4.putX {w W : World} {h k : Nat} {qs : List PV} {f : FV} {N D : Int} (H : Pts4 w W h qs) (hk : k < 4) (hf : IsF W f N D) : ∃ qs', Pts4 w (putO W h (k * 8) f) h qs' := by
 obtain ⟨q, hq⟩ : ∃ q, qs[k]? = some q := ⟨_, List.getElem?_eq_getElem (by rw [H.n]; exact hk)⟩
 have hik := IK.putO H.own (o := k * 8) f
 refine ⟨_, ext_putO H.ext H.new f, H.at'.putX hq H.own (by omega), by rw [List.length_set]; exact H.n, H.own.putO, H.new, fun i a hi => ?_⟩
 by_cases hki : k = i
 ·subst hki
  rw [List.getElem?_set_self (by rw [H.n]; exact hk)] at hi
  injection hi with hi
  subst hi
  obtain ⟨v, hv⟩ := H.val k q hq
  exact ⟨((N, D), v.2), (hf.keep hik), (hv.2.keep hik)⟩
 ·rw [List.getElem?_set_ne hki] at hi
  obtain ⟨v, hv⟩ := H.val i a hi
  exact ⟨v, hv.keep hik⟩
theorem Pts4.putY {w W : World} {h k : Nat} {qs : List PV} {f : FV} {N D : Int} (H : Pts4 w W h qs) (hk : k < 4) (hf : IsF W f N D) : ∃ qs', Pts4 w (putO W h (k * 8 + 4) f) h qs' := by
 obtain ⟨q, hq⟩ : ∃ q, qs[k]? = some q := ⟨_, List.getElem?_eq_getElem (by rw [H.n]; exact hk)⟩
 have hik := IK.putO H.own (o := k * 8 + 4) f
 refine ⟨_, ext_putO H.ext H.new f, H.at'.putY hq H.own (by omega), by rw [List.length_set]; exact H.n, H.own.putO, H.new, fun i a hi => ?_⟩
 by_cases hki : k = i
 ·subst hki
  rw [List.getElem?_set_self (by rw [H.n]; exact hk)] at hi
  injection hi with hi
  subst hi
  obtain ⟨v, hv⟩ := H.val k q hq
  exact ⟨(v.1, (N, D)), (hv.1.keep hik), (hf.keep hik)⟩
 ·rw [List.getElem?_set_ne hki] at hi
  obtain ⟨v, hv⟩ := H.val i a hi
  exact ⟨v, hv.keep hik⟩
theorem cmpI_self (a : Int) : cmpI a a = 0 := by unfold cmpI; rw [if_neg (by omega), if_neg (by omega)]
theorem IsPt.pg {w : World} {p : PV} {x xd y yd : Int} {k : Nat} (h : IsPt w p x xd y yd k) : ∃ v, IsPG w p v := by
 obtain ⟨N, D, h1, _⟩ := h.fx
 obtain ⟨M, E, h2, _⟩ := h.fy
 exact ⟨((N, D), (M, E)), h1, h2⟩
set_option maxRecDepth 100000 in
set_option maxHeartbeats 16000000 in
theorem walkAreas (a0 : Option Addr) (n c : Nat) (zs : List Int) (a1 a2 : Int) (w : World) (h0 : Ints w a0 n zs) (h1 : Int64 a1) (h2 : Int64 a2) :
  Calls Try.prog 6 #[.slice a0 n c, .int .i64 a1, .int .i64 a2] w fun e w' => e = .returned (.bool true) ∧ Ext w w' := by
 have H0 := Lib.hid h0; have H1 := Lib.hid h1; have H2 := Lib.hid h2
 clear h0 h1 h2
 go_enter Try.func6, Try.ntmps6
 go_wp2_with fail
 refine (points_c a0 n c zs _ H0.out).mono ?_
 rintro e w1 ⟨g, cap, rfl, hG, hF, hgb, hgl, hx1⟩
 obtain ⟨r0, r1, r2, r3, hl, i0, i1, i2, i3⟩ := pointsF_in zs
 rw [hl] at hG
 have HI := Lib.hid (And.intro (i0.le (show (12 : Int) ≤ 288 by omega)) (And.intro (i1.le (show (12 : Int) ≤ 288 by omega)) (And.intro i2 i3)))
 have HG := Lib.hid hG
 have HX := Lib.hid hx1
 clear hl i2 i3 i0 i1 hG hF hx1
 go_wp2_with fail
 refine (four_c g cap [r0, r1, r2, r3] 20 _ HG.out rfl (fun j p hj => by
  match j with
  | 0 => simp at hj; subst hj; exact (HI.out.1.le (by omega)).b
  | 1 => simp at hj; subst hj; exact (HI.out.2.1.le (by omega)).b
  | 2 => simp at hj; subst hj; exact (HI.out.2.2.1.le (by omega)).b
  | 3 => simp at hj; subst hj; exact (HI.out.2.2.2.le (by omega)).b
  | j + 4 => simp at hj) (by omega)).mono ?_
 rintro e w3 ⟨h, cap2, qs, rfl, hqn, hq, hst, hhb, hhl, hx3, hfq, hni⟩
 have HK := Lib.hid (show Pts4 w w3 h qs from ⟨HX.out.trans hx3, hq, hqn, ⟨fun o ho => by
   have hd : o = o / 8 * 8 + o % 8 := by omega
   obtain ⟨q, hq0⟩ : ∃ q, qs[o / 8]? = some q := ⟨_, List.getElem?_eq_getElem (by rw [hqn]; omega)⟩
   have hc := hq (o / 8) q hq0 (o % 8) (show o % 8 < 8 by omega)
   obtain ⟨v, hv⟩ : ∃ v, (encPV.f q)[o % 8]? = some v := ⟨_, List.getElem?_eq_getElem (by rw [encPV.len]; exact (show o % 8 < 8 by omega))⟩
   rw [hv, show o / 8 * encPV.s + o % 8 = o from by rw [show encPV.s = 8 from rfl]; omega] at hc
   rw [hc]
   unfold cellAt
   rw [hc]
   rfl, hfq, hni⟩, Nat.le_trans HX.out.size hhb, fun i q hqi => by
   obtain ⟨p, hp⟩ : ∃ p, ([r0, r1, r2, r3] : List RP)[i]? = some p := ⟨_, List.getElem?_eq_getElem (by
    have := (List.getElem?_eq_some_iff.1 hqi).1
    rw [hqn] at this
    simpa using this)⟩
   exact (hst i q p hqi hp).pg⟩)
 clear hqn hq hst hx3 hfq hni hhb
 go_wp2_with fail
 refine (From_c 3 _ (by omega) (by omega)).mono ?_
 rintro e w4 ⟨t, rfl, ht, hx4⟩
 go_upto_region 6 with (fail)
 obtain ⟨M, hM⟩ : ∃ M, w4.heap.size = M := ⟨_, rfl⟩
 rw [hM]
 refine wp_gen (fun W => Ext w3 W ∧ At W M #[.bool t.neg, .slice t.a t.n t.c] ∧ Own W M 2 ∧ IsI W t 3) ⟨hx4.alloc _, (Blk.at _ 47 hM.symm).at', (Blk.at _ 47 hM.symm).own 2 (by simp) (noIntW2 _ _ _ _), ht.keep ((Ext.refl _).alloc _).ik⟩ ?_
 have hM3 : w3.heap.size ≤ M := by rw [← hM]; exact hx4.size
 clear hM ht hx4
 intro W0 hW
 have HW := Lib.hid hW
 clear hW
 obtain ⟨G, hG⟩ : ∃ G, aroundF a1 14 = G := ⟨_, rfl⟩
 have hGb := aroundF_bd a1 14 (by omega)
 rw [hG] at hGb
 have HGG := Lib.hid hG
 clear hG
 go_loopw [10] (fun iv ws => ∃ (i : Nat) (p : IV), i ≤ 13 ∧ iv = .int .i64 (i : Int) ∧ Ext w3 ws ∧ At ws M #[.bool p.neg, .slice p.a p.n p.c] ∧ Own ws M 2 ∧ IsI ws p (pow3 i)) (fun iv _ => 13 - (intOf iv).toNat)
 case atStart => exact ⟨0, t, by omega, rfl, HW.out.1, HW.out.2.1, HW.out.2.2.1, HW.out.2.2.2⟩
 case round =>
  obtain ⟨i, p, hi, rfl, hE, hA, hO, hp⟩ := hrel
  have HP := Lib.hid (And.intro hE (And.intro hA (And.intro hO hp)))
  have hl := hO.lt (by omega)
  have c0 := hA 0 (by simp)
  have c1 := hA 1 (by simp)
  simp at c0 c1
  clear hE hA hO hp
  go_wp2_with fail
  refine (around_c _ _ _ (by omega) (by omega) H1.out).mono ?_
  rintro e _ ⟨rfl, rfl⟩
  rw [HGG.out]
  by_cases hlt : (i : Int) < G
  ·have hb1 : Big (pow3 (i + 1)) := big28 (by have := pow3_bd (i + 1) (by omega); omega)
   have hlim := Lib.hid (show lim (pow3 i * pow3 i) = (pow3 (i + 1), 0) from lim_big hb1)
   clear hb1
   go_wp2_with fail
   refine (Mul_c p p (pow3 i) (pow3 i) _ HP.out.2.2.2 HP.out.2.2.2).mono ?_
   rw [hlim.out]
   rintro e w5 ⟨q, rfl, hq, hx5⟩
   have hs5 := hx5.size
   have hl5 : M < w5.heap.size := by omega
   have O5 := HP.out.2.2.1.ext hx5 (by omega)
   have o0 := O5.1 0 (by omega)
   have o1 := O5.1 1 (by omega)
   have of := O5.2.1
   have HQ := Lib.hid (And.intro hq (And.intro O5 (HP.out.1.trans hx5)))
   clear c0 c1 hq hx5 O5
   go_wp2_with fail
   go_roundw
   case rel => exact ⟨i + 1, q, by omega, by go_num, ((HQ.out.2.2.setCell hM3 _).setCell hM3 _).alloc _, At.ext ((Ext.refl _).alloc _) (At.mk2 (put2_cells HQ.out.2.1 _ _).1 (put2_cells HQ.out.2.1 _ _).2) (by simp), Own.ext ((Ext.refl _).alloc _) (own_put2 HQ.out.2.1 _ _ _ _) (by omega), (HQ.out.1.keep (IK.put2 HQ.out.2.1 _ _ _ _)).keep ((Ext.refl _).alloc _).ik⟩
   case measure => simp [intOf]; omega
  ·obtain ⟨x, hx⟩ : ∃ x, pow3 i = x := ⟨_, rfl⟩
   rw [hx] at HP
   clear hx hGb
   have HEW := Lib.hid HP.out.1
   have HPC := Lib.hid (fun W (e : Ext wr W) => (show W.cell? ⟨M, 0, none⟩ = some (.bool p.neg) ∧ W.cell? ⟨M, 1, none⟩ = some (.slice p.a p.n p.c) from ⟨e.cell c0, e.cell c1⟩))
   clear c0 c1
   as_aux_lemma =>
    go_upto_region 11 with (fail)
    go_cut [13, 14] (fun s13 s14 wx => ∃ (X : Nat) (f : FV), s13 = .pointer (some ⟨X, 0, none⟩) ∧ s14 = .int .i64 0 ∧ Ext wr wx ∧ wr.heap.size ≤ X ∧ At wx X #[.bool f.n.neg, .slice f.n.a f.n.n f.n.c, .bool f.d.neg, .slice f.d.a f.d.n f.d.c] ∧ IsF wx f (x / gcdI x 7) (7 / gcdI x 7))
    case first =>
     refine wp_region_held_drew (S := fun W => Ext wr W) (by kernel_rfl) (Ext.refl wr).drew (fun hHeld => ?_)
     refine takeL (i := 0) (v := ?_) rfl (by kernel_rfl) (by kernel_rfl) (by kernel_rfl) (fun _ _ _ h => h) (Or.inl ⟨by rfl, ?_⟩) (by assumption) ?_; rotate_left; (focus (intro wq hSw; have hcc := HPC.out wq (Ext.trans (Ext.refl wr) hSw); clear hSw; go_split_ands; go_simp; try with_reducible rfl)); (try simp only [Act.put, List.setIfInBounds_toArray, List.set_cons_zero, List.set_cons_succ])
     refine cons2L (i := 1) (j := 6) (by kernel_rfl) rfl rfl (fun K hK => ?_) (fun K hK => ?_)
     ·go_simp; go_at_call 32; refine (From_c 7 _ (by omega) (by omega)).mono ?_; rintro e w5 ⟨s, rfl, hs, hx5⟩; have HX5 := Lib.hid hx5; have sz := Ext.size hx5; (try simp only [World.size_alloc, World.size_drew] at sz); (first | (have OG := Own.ext hx5 ((Blk.at #[.bool false, .slice none 0 0, .bool false, .slice none 0 0] 49 rfl).own 4 (by simp) (noIntF _ _ _ _ _ _ _ _)) (by omega)) | (have OG := Own.ext hx5 OG (by omega)) | skip); (try simp only [World.size_alloc] at OG); go_wp2_with fail; refine hK.out _ _ ?_ ?_; rotate_left; clear hK K; (try clear hHeld); intro hHeld; rotate_right; (focus ((try dsimp only); exact kept)); (try simp only [Act.put, List.setIfInBounds_toArray, List.set_cons_zero, List.set_cons_succ])
      refine cons2L (i := 2) (j := 6) (by kernel_rfl) rfl rfl (fun K hK => ?_) (fun K hK => ?_)
      ·go_simp; go_at_call 34; refine (Make_c p s x 7 _ (HP.out.2.2.2.keep (Ext.ik (by assumption))) (by first | exact hs | exact hs.keep ((Ext.refl _).alloc _).ik) (by omega)).mono ?_; rintro e w6 ⟨f, rfl, hf, hx6⟩; have sz := Ext.size hx6; (try simp only [World.size_alloc, World.size_drew] at sz); (first | (have OG := Own.ext hx6 ((Blk.at #[.bool false, .slice none 0 0, .bool false, .slice none 0 0] 49 rfl).own 4 (by simp) (noIntF _ _ _ _ _ _ _ _)) (by omega)) | (have OG := Own.ext hx6 OG (by omega)) | skip); (try simp only [World.size_alloc] at OG); go_wp2_with fail; refine hK.out _ _ ?_ ?_; rotate_left; clear hK K; (try clear hHeld); intro hHeld; rotate_right; (focus ((try dsimp only); exact kept)); (try simp only [Act.put, List.setIfInBounds_toArray, List.set_cons_zero, List.set_cons_succ])
       have hH6 := hHeld
       refine tkW (i := 3) (h := ?_)
       refine tkW (i := 4) (h := ?_)
       refine tkW (i := 5) (h := ?_)
       refine consL (i := 6) (by kernel_rfl) rfl (fun K hK => ?_); go_simp; refine hK.out _ _ ?_ ?_; rotate_left; clear hK K; (try clear hHeld); intro hHeld; rotate_right; (focus ((try dsimp only); exact kept)); (try simp only [Act.put, List.setIfInBounds_toArray, List.set_cons_zero, List.set_cons_succ])
       refine consL (i := 7) (by kernel_rfl) rfl (fun K hK => ?_); go_simp; refine hK.out _ _ ?_ ?_; rotate_left; clear hK K; (try clear hHeld); intro hHeld; rotate_right; (focus ((try dsimp only); exact kept)); (try simp only [Act.put, List.setIfInBounds_toArray, List.set_cons_zero, List.set_cons_succ])
       refine tkW (i := 8) (h := ?_)
       refine doneL (by kernel_rfl) ?_; go_wp2_with fail; go_meet; refine ⟨_, f, rfl, rfl, hHeld, (by first | omega | (simp; omega)), ?_, ?_⟩; (focus (first | exact At.putF' OG f | exact (Blk.at _ 49 rfl).at')); (focus (first | exact hf.keep (IK.putF OG f) | exact hf.keep ((Ext.refl _).alloc _).ik))
      ·go_simp; refine hK.out _ _ ?_ ?_; rotate_left; clear hK K; (try clear hHeld); intro hHeld; rotate_right; (focus ((try dsimp only); exact kept)); (try simp only [Act.put, List.setIfInBounds_toArray, List.set_cons_zero, List.set_cons_succ])
       refine consL (i := 2) (by kernel_rfl) rfl (fun K hK => ?_)
       go_simp; go_at_call 34; refine (Make_c p s x 7 _ (HP.out.2.2.2.keep (Ext.ik (by assumption))) (by first | exact hs | exact hs.keep ((Ext.refl _).alloc _).ik) (by omega)).mono ?_; rintro e w6 ⟨f, rfl, hf, hx6⟩; have sz := Ext.size hx6; (try simp only [World.size_alloc, World.size_drew] at sz); (first | (have OG := Own.ext hx6 ((Blk.at #[.bool false, .slice none 0 0, .bool false, .slice none 0 0] 49 rfl).own 4 (by simp) (noIntF _ _ _ _ _ _ _ _)) (by omega)) | (have OG := Own.ext hx6 OG (by omega)) | skip); (try simp only [World.size_alloc] at OG); go_wp2_with fail; refine hK.out _ _ ?_ ?_; rotate_left; clear hK K; (try clear hHeld); intro hHeld; rotate_right; (focus ((try dsimp only); exact kept)); (try simp only [Act.put, List.setIfInBounds_toArray, List.set_cons_zero, List.set_cons_succ])
       refine tkW (i := 3) (h := ?_)
       refine tkW (i := 4) (h := ?_)
       refine tkW (i := 5) (h := ?_)
       refine consL (i := 7) (by kernel_rfl) rfl (fun K hK => ?_); go_simp; refine hK.out _ _ ?_ ?_; rotate_left; clear hK K; (try clear hHeld); intro hHeld; rotate_right; (focus ((try dsimp only); exact kept)); (try simp only [Act.put, List.setIfInBounds_toArray, List.set_cons_zero, List.set_cons_succ])
       refine tkW (i := 8) (h := ?_)
       refine doneL (by kernel_rfl) ?_; go_wp2_with fail; go_meet; refine ⟨_, f, rfl, rfl, hHeld, (by first | omega | (simp; omega)), ?_, ?_⟩; (focus (first | exact At.putF' OG f | exact (Blk.at _ 49 rfl).at')); (focus (first | exact hf.keep (IK.putF OG f) | exact hf.keep ((Ext.refl _).alloc _).ik))
     ·go_simp; refine hK.out _ _ ?_ ?_; rotate_left; clear hK K; (try clear hHeld); intro hHeld; rotate_right; (focus ((try dsimp only); exact kept)); (try simp only [Act.put, List.setIfInBounds_toArray, List.set_cons_zero, List.set_cons_succ])
      refine consL (i := 1) (by kernel_rfl) rfl (fun K hK => ?_)
      go_simp; go_at_call 32; refine (From_c 7 _ (by omega) (by omega)).mono ?_; rintro e w5 ⟨s, rfl, hs, hx5⟩; have HX5 := Lib.hid hx5; have sz := Ext.size hx5; (try simp only [World.size_alloc, World.size_drew] at sz); (first | (have OG := Own.ext hx5 ((Blk.at #[.bool false, .slice none 0 0, .bool false, .slice none 0 0] 49 rfl).own 4 (by simp) (noIntF _ _ _ _ _ _ _ _)) (by omega)) | (have OG := Own.ext hx5 OG (by omega)) | skip); (try simp only [World.size_alloc] at OG); go_wp2_with fail; refine hK.out _ _ ?_ ?_; rotate_left; clear hK K; (try clear hHeld); intro hHeld; rotate_right; (focus ((try dsimp only); exact kept)); (try simp only [Act.put, List.setIfInBounds_toArray, List.set_cons_zero, List.set_cons_succ])
      refine consL (i := 2) (by kernel_rfl) rfl (fun K hK => ?_)
      go_simp; go_at_call 34; refine (Make_c p s x 7 _ (HP.out.2.2.2.keep (Ext.ik (by assumption))) (by first | exact hs | exact hs.keep ((Ext.refl _).alloc _).ik) (by omega)).mono ?_; rintro e w6 ⟨f, rfl, hf, hx6⟩; have sz := Ext.size hx6; (try simp only [World.size_alloc, World.size_drew] at sz); (first | (have OG := Own.ext hx6 ((Blk.at #[.bool false, .slice none 0 0, .bool false, .slice none 0 0] 49 rfl).own 4 (by simp) (noIntF _ _ _ _ _ _ _ _)) (by omega)) | (have OG := Own.ext hx6 OG (by omega)) | skip); (try simp only [World.size_alloc] at OG); go_wp2_with fail; refine hK.out _ _ ?_ ?_; rotate_left; clear hK K; (try clear hHeld); intro hHeld; rotate_right; (focus ((try dsimp only); exact kept)); (try simp only [Act.put, List.setIfInBounds_toArray, List.set_cons_zero, List.set_cons_succ])
      refine tkW (i := 3) (h := ?_)
      refine tkW (i := 4) (h := ?_)
      refine tkW (i := 5) (h := ?_)
      refine consL (i := 7) (by kernel_rfl) rfl (fun K hK => ?_); go_simp; refine hK.out _ _ ?_ ?_; rotate_left; clear hK K; (try clear hHeld); intro hHeld; rotate_right; (focus ((try dsimp only); exact kept)); (try simp only [Act.put, List.setIfInBounds_toArray, List.set_cons_zero, List.set_cons_succ])
      refine tkW (i := 8) (h := ?_)
      refine doneL (by kernel_rfl) ?_; go_wp2_with fail; go_meet; refine ⟨_, f, rfl, rfl, hHeld, (by first | omega | (simp; omega)), ?_, ?_⟩; (focus (first | exact At.putF' OG f | exact (Blk.at _ 49 rfl).at')); (focus (first | exact hf.keep (IK.putF OG f) | exact hf.keep ((Ext.refl _).alloc _).ik))
    case rest =>
     obtain ⟨X, f, rfl, rfl, hE5, hXs, AX, hf⟩ := hcut
     obtain ⟨w5, hw5⟩ : ∃ W, W = wc := ⟨_, rfl⟩
     subst hw5
     obtain ⟨N, hN⟩ : ∃ N, x / gcdI x 7 = N := ⟨_, rfl⟩
     obtain ⟨D, hD⟩ : ∃ D, 7 / gcdI x 7 = D := ⟨_, rfl⟩
     rw [hN, hD] at hf
     have HS5 := Lib.hid (And.intro (HK.out.keep (HEW.out.trans hE5)) (And.intro AX hf))
     have hXh : h < X := by
      have h1 := HK.out.own.lt (by omega)
      have h2 := HEW.out.size
      omega
     clear hE5 AX hf hN hD HPC
     go_wp2_with fail
     refine (around_c _ _ _ (by omega) (by omega) H2.out).mono ?_
     rintro e _ ⟨rfl, rfl⟩
     obtain ⟨k, hk, hk4⟩ : ∃ k : Nat, aroundF a2 4 = (k : Int) ∧ k < 4 := by
      have := aroundF_bd a2 4 (by omega)
      exact ⟨(aroundF a2 4).toNat, by omega, by omega⟩
     rw [hk]
     clear hk
     as_aux_lemma =>
      go_upto_if 69 with (fail)
      go_cut [] (fun wx => ∃ qs', Pts4 w wx h qs' ∧ At wx X #[.bool f.n.neg, .slice f.n.a f.n.n f.n.c, .bool f.d.neg, .slice f.d.a f.d.n f.d.c] ∧ IsF wx f N D)
      case first =>
       have t0 : (0 : Int) ≤ (k : Int) := by omega
       have t1 : (k : Int) < 4 := by omega
       obtain ⟨x0, x1, x2, x3⟩ : w5.cell? ⟨X, 0, none⟩ = some (.bool f.n.neg) ∧ w5.cell? ⟨X, 1, none⟩ = some (.slice f.n.a f.n.n f.n.c) ∧ w5.cell? ⟨X, 2, none⟩ = some (.bool f.d.neg) ∧ w5.cell? ⟨X, 3, none⟩ = some (.slice f.d.a f.d.n f.d.c) := ⟨HS5.out.2.1 0 (by simp), HS5.out.2.1 1 (by simp), HS5.out.2.1 2 (by simp), HS5.out.2.1 3 (by simp)⟩
       have o0 := HS5.out.1.own.1 (k * 8) (by omega)
       have o1 := HS5.out.1.own.1 (k * 8 + 1) (by omega)
       have o2 := HS5.out.1.own.1 (k * 8 + 2) (by omega)
       have o3 := HS5.out.1.own.1 (k * 8 + 3) (by omega)
       have of := HS5.out.1.own.2.1
       obtain ⟨y, hy⟩ : ∃ y, ((wrap64 (a2.tdiv 4)).tmod 2 == 0) = y := ⟨_, rfl⟩
       rw [hy]
       clear hy
       cases y with
       | true =>
        go_wp2_with fail
        go_meet
        case rel =>
         obtain ⟨qs', hq'⟩ := HS5.out.1.putX hk4 HS5.out.2.2
         exact ⟨qs', hq', HS5.out.2.1.putO (by omega), HS5.out.2.2.keep (IK.putO HS5.out.1.own f)⟩
       | false =>
        go_wp2_with fail
        go_meet
        case rel => exact ⟨qs, HS5.out.1, HS5.out.2.1, HS5.out.2.2⟩
      case rest =>
       obtain ⟨qs2, hP2, hA2, hf2⟩ := hcut
       obtain ⟨w6, hw6⟩ : ∃ W, W = wc := ⟨_, rfl⟩
       subst hw6
       have HS6 := Lib.hid (And.intro hP2 (And.intro hA2 hf2))
       clear hP2 hA2 hf2 HS5
       as_aux_lemma =>
        go_upto_if 78 with (fail)
        go_cut [] (fun wx => ∃ qs', Pts4 w wx h qs')
        case first =>
         obtain ⟨y, hy⟩ : ∃ y, ((wrap64 (a2.tdiv 8)).tmod 3 == 0) = y := ⟨_, rfl⟩
         rw [hy]
         clear hy
         cases y with
         | true =>
          obtain ⟨u, hu⟩ : ∃ u, IntKind.i64.wrap (a2.tdiv 24) = u := ⟨_, rfl⟩
          have hu64 : Int64 u := by rw [← hu, IntKind.wrap_i64]; unfold Int64; omega
          have HUU := Lib.hid hu
          clear hu
          have HU := Lib.hid hu64
          obtain ⟨m, hm, hm4⟩ : ∃ m : Nat, aroundF u 4 = (m : Int) ∧ m < 4 := by
           have := aroundF_bd u 4 (by omega)
           exact ⟨(aroundF u 4).toNat, by omega, by omega⟩
          have HMM := Lib.hid hm
          have t0 : (0 : Int) ≤ (m : Int) := by omega
          have t1 : (m : Int) < 4 := by omega
          clear hu64 hm
          go_upto_region 18 with (fail)
          have hOw := HS6.out.1.own
          refine wp_region_held_drew (S := fun W => Ext w W ∧ At W X #[.bool f.n.neg, .slice f.n.a f.n.n f.n.c, .bool f.d.neg, .slice f.d.a f.d.n f.d.c] ∧ Own W h 32) (by kernel_rfl) ⟨HS6.out.1.ext.drew, HS6.out.2.1, hOw⟩ (fun hHeld => ?_)
          refine tkW (i := 0) (h := ?_)
          refine tkW (i := 1) (h := ?_)
          refine tkW (i := 2) (h := ?_)
          refine tkW (i := 4) (h := ?_)
          refine consL (i := 3) (by kernel_rfl) rfl (fun K hK => ?_)
          go_simp
          rw [HUU.out]
          go_at_call 12
          refine (around_c u 4 _ (by omega) (by omega) HU.out).mono ?_
          rw [HMM.out]
          rintro e w9 ⟨rfl, rfl⟩
          refine hK.out _ _ hHeld (fun _ => ?_)
          clear hK K
          (try simp only [Act.put, List.setIfInBounds_toArray, List.set_cons_zero, List.set_cons_succ])
          refine tkW (i := 5) (h := ?_)
          refine tkW (i := 6) (h := ?_)
          have o0 := hOw.1 (m * 8 + 4) (by omega)
          have o1 := hOw.1 (m * 8 + 4 + 1) (by omega)
          have o2 := hOw.1 (m * 8 + 4 + 2) (by omega)
          have o3 := hOw.1 (m * 8 + 4 + 3) (by omega)
          have of := hOw.2.1
          clear hOw hHeld
          refine consL (i := 7) (by kernel_rfl) rfl (fun K hK => ?_)
          go_simp
          have hO9 : Own (putO w6 h (m * 8 + 4) f) h 32 := Own.putO HS6.out.1.own
          refine hK.out _ _ ⟨Ext.drew (ext_putO HS6.out.1.ext HS6.out.1.new f), At.drew (At.putO HS6.out.2.1 (by omega)), own1_drew hO9.1, own2_drew hO9.2.1, own3_drew hO9.2.2⟩ (fun _ => ?_)
          clear hK K
          (try simp only [Act.put, List.setIfInBounds_toArray, List.set_cons_zero, List.set_cons_succ])
          refine doneL (by kernel_rfl) ?_
          go_wp2_with fail
          go_meet
          case rel =>
           obtain ⟨qs', hq'⟩ := HS6.out.1.putY hm4 HS6.out.2.2
           exact ⟨qs', hq'.keep (Ext.refl _).drew⟩
         | false =>
          go_wp2_with fail
          go_meet
          case rel => exact ⟨qs2, HS6.out.1⟩
        case rest =>
         obtain ⟨qs3, hP3⟩ := hcut
         obtain ⟨wb, hwb⟩ : ∃ W, W = wc := ⟨_, rfl⟩
         subst hwb
         clear HS6
         obtain ⟨q0, q1, q2, q3, rfl⟩ : ∃ a b c d, qs3 = [a, b, c, d] := by
          match qs3, hP3.n with
          | [a, b, c, d], _ => exact ⟨a, b, c, d, rfl⟩
         obtain ⟨v0, hv0⟩ := hP3.val 0 q0 rfl
         obtain ⟨v1, hv1⟩ := hP3.val 1 q1 rfl
         obtain ⟨v2, hv2⟩ := hP3.val 2 q2 rfl
         obtain ⟨v3, hv3⟩ := hP3.val 3 q3 rfl
         have HV := Lib.hid (And.intro hv0 (And.intro hv1 (And.intro hv2 hv3)))
         have HEB := Lib.hid hP3.ext
         have HFA := Lib.hid (fun W (e : Ext wb W) => (show W.cell? ⟨h, 0, none⟩ = some (.bool q0.x.n.neg) ∧ W.cell? ⟨h, 1, none⟩ = some (.slice q0.x.n.a q0.x.n.n q0.x.n.c) ∧ W.cell? ⟨h, 2, none⟩ = some (.bool q0.x.d.neg) ∧ W.cell? ⟨h, 3, none⟩ = some (.slice q0.x.d.a q0.x.d.n q0.x.d.c) ∧ W.cell? ⟨h, 4, none⟩ = some (.bool q0.y.n.neg) ∧ W.cell? ⟨h, 5, none⟩ = some (.slice q0.y.n.a q0.y.n.n q0.y.n.c) ∧ W.cell? ⟨h, 6, none⟩ = some (.bool q0.y.d.neg) ∧ W.cell? ⟨h, 7, none⟩ = some (.slice q0.y.d.a q0.y.d.n q0.y.d.c) from (hP3.at'.ext e).pv (i := 0) rfl))
         have HFB := Lib.hid (fun W (e : Ext wb W) => (show W.cell? ⟨h, 8, none⟩ = some (.bool q1.x.n.neg) ∧ W.cell? ⟨h, 9, none⟩ = some (.slice q1.x.n.a q1.x.n.n q1.x.n.c) ∧ W.cell? ⟨h, 10, none⟩ = some (.bool q1.x.d.neg) ∧ W.cell? ⟨h, 11, none⟩ = some (.slice q1.x.d.a q1.x.d.n q1.x.d.c) ∧ W.cell? ⟨h, 12, none⟩ = some (.bool q1.y.n.neg) ∧ W.cell? ⟨h, 13, none⟩ = some (.slice q1.y.n.a q1.y.n.n q1.y.n.c) ∧ W.cell? ⟨h, 14, none⟩ = some (.bool q1.y.d.neg) ∧ W.cell? ⟨h, 15, none⟩ = some (.slice q1.y.d.a q1.y.d.n q1.y.d.c) from (hP3.at'.ext e).pv (i := 1) rfl))
         have HFC := Lib.hid (fun W (e : Ext wb W) => (show W.cell? ⟨h, 16, none⟩ = some (.bool q2.x.n.neg) ∧ W.cell? ⟨h, 17, none⟩ = some (.slice q2.x.n.a q2.x.n.n q2.x.n.c) ∧ W.cell? ⟨h, 18, none⟩ = some (.bool q2.x.d.neg) ∧ W.cell? ⟨h, 19, none⟩ = some (.slice q2.x.d.a q2.x.d.n q2.x.d.c) ∧ W.cell? ⟨h, 20, none⟩ = some (.bool q2.y.n.neg) ∧ W.cell? ⟨h, 21, none⟩ = some (.slice q2.y.n.a q2.y.n.n q2.y.n.c) ∧ W.cell? ⟨h, 22, none⟩ = some (.bool q2.y.d.neg) ∧ W.cell? ⟨h, 23, none⟩ = some (.slice q2.y.d.a q2.y.d.n q2.y.d.c) from (hP3.at'.ext e).pv (i := 2) rfl))
         have HFD := Lib.hid (fun W (e : Ext wb W) => (show W.cell? ⟨h, 24, none⟩ = some (.bool q3.x.n.neg) ∧ W.cell? ⟨h, 25, none⟩ = some (.slice q3.x.n.a q3.x.n.n q3.x.n.c) ∧ W.cell? ⟨h, 26, none⟩ = some (.bool q3.x.d.neg) ∧ W.cell? ⟨h, 27, none⟩ = some (.slice q3.x.d.a q3.x.d.n q3.x.d.c) ∧ W.cell? ⟨h, 28, none⟩ = some (.bool q3.y.n.neg) ∧ W.cell? ⟨h, 29, none⟩ = some (.slice q3.y.n.a q3.y.n.n q3.y.n.c) ∧ W.cell? ⟨h, 30, none⟩ = some (.bool q3.y.d.neg) ∧ W.cell? ⟨h, 31, none⟩ = some (.slice q3.y.d.a q3.y.d.n q3.y.d.c) from (hP3.at'.ext e).pv (i := 3) rfl))
         obtain ⟨A, hA⟩ : ∃ A, areaE v0 v1 v2 = A := ⟨_, rfl⟩
         obtain ⟨P, hP⟩ : ∃ A, areaE v0 v1 v3 = A := ⟨_, rfl⟩
         obtain ⟨Q, hQ⟩ : ∃ A, areaE v1 v2 v3 = A := ⟨_, rfl⟩
         obtain ⟨R, hR⟩ : ∃ A, areaE v2 v0 v3 = A := ⟨_, rfl⟩
         have HAR := Lib.hid (And.intro hA (And.intro hP (And.intro hQ hR)))
         obtain ⟨eA, heA⟩ : ∃ z, errO A = z := ⟨_, rfl⟩
         have HER := Lib.hid heA
         have HEA := Lib.hid heA
         clear hv0 hv1 hv2 hv3 hP3 hA hP hQ hR heA
         have HB := Lib.hid (Ext.refl wb)
         as_aux_lemma =>
          go_upto_region 19 with (fail)
          go_cut [16, 17] (fun s t wx => ∃ (X : Nat) (f : FV), s = .pointer (some ⟨X, 0, none⟩) ∧ t = .int .i64 eA ∧ Ext wb wx ∧ At wx X #[.bool f.n.neg, .slice f.n.a f.n.n f.n.c, .bool f.d.neg, .slice f.d.a f.d.n f.d.c] ∧ IsF wx f (valO A).1 (valO A).2)
          case first =>
           as_aux_lemma =>
            refine wp_region_held_drew (S := fun W => Ext wb W) (by kernel_rfl) (Ext.refl wb).drew (fun hHeld => ?_); refine tkW (i := 0) (h := ?_); refine tkW (i := 1) (h := ?_); refine takeL (i := 2) (v := ?_) rfl (by kernel_rfl) (by kernel_rfl) (by kernel_rfl) (fun _ _ _ h => h) (Or.inl ⟨by rfl, ?_⟩) (by assumption) ?_; rotate_left; (focus (intro wq hSw; have hcc := HFA.out wq (Ext.trans HB.out hSw); clear hSw; go_split_ands; go_simp; try with_reducible rfl)); (try simp only [Act.put, List.setIfInBounds_toArray, List.set_cons_zero, List.set_cons_succ]); refine tkW (i := 3) (h := ?_); refine tkW (i := 4) (h := ?_); refine takeL (i := 5) (v := ?_) rfl (by kernel_rfl) (by kernel_rfl) (by kernel_rfl) (fun _ _ _ h => h) (Or.inl ⟨by rfl, ?_⟩) (by assumption) ?_; rotate_left; (focus (intro wq hSw; have hcc := HFB.out wq (Ext.trans HB.out hSw); clear hSw; go_split_ands; go_simp; try with_reducible rfl)); (try simp only [Act.put, List.setIfInBounds_toArray, List.set_cons_zero, List.set_cons_succ]); refine tkW (i := 6) (h := ?_); refine tkW (i := 7) (h := ?_); refine takeL (i := 8) (v := ?_) rfl (by kernel_rfl) (by kernel_rfl) (by kernel_rfl) (fun _ _ _ h => h) (Or.inl ⟨by rfl, ?_⟩) (by assumption) ?_; rotate_left; (focus (intro wq hSw; have hcc := HFC.out wq (Ext.trans HB.out hSw); clear hSw; go_split_ands; go_simp; try with_reducible rfl)); (try simp only [Act.put, List.setIfInBounds_toArray, List.set_cons_zero, List.set_cons_succ]); refine cons2L (i := 9) (j := 13) (by kernel_rfl) rfl rfl (fun K hK => ?_) (fun K hK => ?_); rotate_left; (focus (go_simp; refine hK.out _ _ ?_ ?_; rotate_left; clear hK K; (try clear hHeld); intro hHeld; rotate_right; (focus ((try dsimp only); exact kept)); (try simp only [Act.put, List.setIfInBounds_toArray, List.set_cons_zero, List.set_cons_succ]); refine consL (i := 9) (by kernel_rfl) rfl (fun K hK => ?_); go_simp; go_at_call 35; refine (AreaO_c q0 q1 q2 v0 v1 v2 A _ (HV.out.1.keep (Ext.ik (Ext.trans HB.out (by assumption)))) (HV.out.2.1.keep (Ext.ik (Ext.trans HB.out (by assumption)))) (HV.out.2.2.1.keep (Ext.ik (Ext.trans HB.out (by assumption)))) HAR.out.1).mono ?_; rintro e w6 ⟨f, rfl, hf, hx6⟩; rw [HER.out]; have sz := Ext.size hx6; (try simp only [World.size_alloc, World.size_drew] at sz); (first | (have OG := Own.ext hx6 ((Blk.at #[.bool false, .slice none 0 0, .bool false, .slice none 0 0] 49 rfl).own 4 (by simp) (noIntF _ _ _ _ _ _ _ _)) (by omega)) | skip); (try simp only [World.size_alloc] at OG); go_wp2_with fail; refine hK.out _ _ ?_ ?_; rotate_left; clear hK K; (try clear hHeld); intro hHeld; rotate_right; (focus ((try dsimp only); exact kept)); (try simp only [Act.put, List.setIfInBounds_toArray, List.set_cons_zero, List.set_cons_succ]); refine tkW (i := 10) (h := ?_); refine tkW (i := 11) (h := ?_); refine tkW (i := 12) (h := ?_); refine consL (i := 14) (by kernel_rfl) rfl (fun K hK => ?_); go_simp; refine hK.out _ _ ?_ ?_; rotate_left; clear hK K; (try clear hHeld); intro hHeld; rotate_right; (focus ((try dsimp only); exact kept)); (try simp only [Act.put, List.setIfInBounds_toArray, List.set_cons_zero, List.set_cons_succ]); refine tkW (i := 15) (h := ?_); refine doneL (by kernel_rfl) ?_; go_wp2_with fail; go_meet; refine ⟨_, f, rfl, rfl, hHeld, ?_, ?_⟩; (focus (first | exact At.putF' OG f | exact (Blk.at _ 49 rfl).at')); (focus (first | exact hf.keep (IK.putF OG f) | exact hf.keep ((Ext.refl _).alloc _).ik)))); go_simp; go_at_call 35; refine (AreaO_c q0 q1 q2 v0 v1 v2 A _ (HV.out.1.keep (Ext.ik (Ext.trans HB.out (by assumption)))) (HV.out.2.1.keep (Ext.ik (Ext.trans HB.out (by assumption)))) (HV.out.2.2.1.keep (Ext.ik (Ext.trans HB.out (by assumption)))) HAR.out.1).mono ?_; rintro e w6 ⟨f, rfl, hf, hx6⟩; rw [HER.out]; have sz := Ext.size hx6; (try simp only [World.size_alloc, World.size_drew] at sz); (first | (have OG := Own.ext hx6 ((Blk.at #[.bool false, .slice none 0 0, .bool false, .slice none 0 0] 49 rfl).own 4 (by simp) (noIntF _ _ _ _ _ _ _ _)) (by omega)) | skip); (try simp only [World.size_alloc] at OG); go_wp2_with fail; refine hK.out _ _ ?_ ?_; rotate_left; clear hK K; (try clear hHeld); intro hHeld; rotate_right; (focus ((try dsimp only); exact kept)); (try simp only [Act.put, List.setIfInBounds_toArray, List.set_cons_zero, List.set_cons_succ]); have hH6 := hHeld; refine tkW (i := 10) (h := ?_); refine tkW (i := 11) (h := ?_); refine tkW (i := 12) (h := ?_); refine consL (i := 13) (by kernel_rfl) rfl (fun K hK => ?_); go_simp; refine hK.out _ _ ?_ ?_; rotate_left; clear hK K; (try clear hHeld); intro hHeld; rotate_right; (focus ((try dsimp only); exact kept)); (try simp only [Act.put, List.setIfInBounds_toArray, List.set_cons_zero, List.set_cons_succ]); refine consL (i := 14) (by kernel_rfl) rfl (fun K hK => ?_); go_simp; refine hK.out _ _ ?_ ?_; rotate_left; clear hK K; (try clear hHeld); intro hHeld; rotate_right; (focus ((try dsimp only); exact kept)); (try simp only [Act.put, List.setIfInBounds_toArray, List.set_cons_zero, List.set_cons_succ]); refine tkW (i := 15) (h := ?_); refine doneL (by kernel_rfl) ?_; go_wp2_with fail; go_meet; refine ⟨_, f, rfl, rfl, hHeld, ?_, ?_⟩; (focus (first | exact At.putF' OG f | exact (Blk.at _ 49 rfl).at')); (focus (first | exact hf.keep (IK.putF OG f) | exact hf.keep ((Ext.refl _).alloc _).ik))
          case rest =>
           obtain ⟨X1, f1, rfl, rfl, hE, AX, hf1⟩ := hcut
           obtain ⟨u1, hu1⟩ : ∃ W, W = wc := ⟨_, rfl⟩
           subst hu1
           have H1A := Lib.hid (And.intro hE (And.intro AX hf1))
           replace HB := Lib.hid hE
           clear hE AX hf1
           as_aux_lemma =>
            go_upto_region 20 with (fail)
            go_cut [18, 19] (fun s t wx => ∃ (X : Nat) (f : FV), s = .pointer (some ⟨X, 0, none⟩) ∧ t = .int .i64 eA ∧ Ext u1 wx ∧ At wx X #[.bool f.n.neg, .slice f.n.a f.n.n f.n.c, .bool f.d.neg, .slice f.d.a f.d.n f.d.c] ∧ IsF wx f (valO A).1 (valO A).2)
            case first =>
             as_aux_lemma =>
              refine wp_region_held_drew (S := fun W => Ext u1 W) (by kernel_rfl) (Ext.refl u1).drew (fun hHeld => ?_); refine tkW (i := 0) (h := ?_); refine tkW (i := 1) (h := ?_); refine takeL (i := 2) (v := ?_) rfl (by kernel_rfl) (by kernel_rfl) (by kernel_rfl) (fun _ _ _ h => h) (Or.inl ⟨by rfl, ?_⟩) (by assumption) ?_; rotate_left; (focus (intro wq hSw; have hcc := HFA.out wq (Ext.trans HB.out hSw); clear hSw; go_split_ands; go_simp; try with_reducible rfl)); (try simp only [Act.put, List.setIfInBounds_toArray, List.set_cons_zero, List.set_cons_succ]); refine tkW (i := 3) (h := ?_); refine tkW (i := 4) (h := ?_); refine takeL (i := 5) (v := ?_) rfl (by kernel_rfl) (by kernel_rfl) (by kernel_rfl) (fun _ _ _ h => h) (Or.inl ⟨by rfl, ?_⟩) (by assumption) ?_; rotate_left; (focus (intro wq hSw; have hcc := HFB.out wq (Ext.trans HB.out hSw); clear hSw; go_split_ands; go_simp; try with_reducible rfl)); (try simp only [Act.put, List.setIfInBounds_toArray, List.set_cons_zero, List.set_cons_succ]); refine tkW (i := 6) (h := ?_); refine tkW (i := 7) (h := ?_); refine takeL (i := 8) (v := ?_) rfl (by kernel_rfl) (by kernel_rfl) (by kernel_rfl) (fun _ _ _ h => h) (Or.inl ⟨by rfl, ?_⟩) (by assumption) ?_; rotate_left; (focus (intro wq hSw; have hcc := HFC.out wq (Ext.trans HB.out hSw); clear hSw; go_split_ands; go_simp; try with_reducible rfl)); (try simp only [Act.put, List.setIfInBounds_toArray, List.set_cons_zero, List.set_cons_succ]); refine cons2L (i := 9) (j := 13) (by kernel_rfl) rfl rfl (fun K hK => ?_) (fun K hK => ?_); rotate_left; (focus (go_simp; refine hK.out _ _ ?_ ?_; rotate_left; clear hK K; (try clear hHeld); intro hHeld; rotate_right; (focus ((try dsimp only); exact kept)); (try simp only [Act.put, List.setIfInBounds_toArray, List.set_cons_zero, List.set_cons_succ]); refine consL (i := 9) (by kernel_rfl) rfl (fun K hK => ?_); go_simp; go_at_call 36; refine (stepsO_c q0 q1 q2 v0 v1 v2 A _ (HV.out.1.keep (Ext.ik (Ext.trans HB.out (by assumption)))) (HV.out.2.1.keep (Ext.ik (Ext.trans HB.out (by assumption)))) (HV.out.2.2.1.keep (Ext.ik (Ext.trans HB.out (by assumption)))) HAR.out.1).mono ?_; rintro e w6 ⟨f, rfl, hf, hx6⟩; rw [HER.out]; have sz := Ext.size hx6; (try simp only [World.size_alloc, World.size_drew] at sz); (first | (have OG := Own.ext hx6 ((Blk.at #[.bool false, .slice none 0 0, .bool false, .slice none 0 0] 49 rfl).own 4 (by simp) (noIntF _ _ _ _ _ _ _ _)) (by omega)) | skip); (try simp only [World.size_alloc] at OG); go_wp2_with fail; refine hK.out _ _ ?_ ?_; rotate_left; clear hK K; (try clear hHeld); intro hHeld; rotate_right; (focus ((try dsimp only); exact kept)); (try simp only [Act.put, List.setIfInBounds_toArray, List.set_cons_zero, List.set_cons_succ]); refine tkW (i := 10) (h := ?_); refine tkW (i := 11) (h := ?_); refine tkW (i := 12) (h := ?_); refine consL (i := 14) (by kernel_rfl) rfl (fun K hK => ?_); go_simp; refine hK.out _ _ ?_ ?_; rotate_left; clear hK K; (try clear hHeld); intro hHeld; rotate_right; (focus ((try dsimp only); exact kept)); (try simp only [Act.put, List.setIfInBounds_toArray, List.set_cons_zero, List.set_cons_succ]); refine tkW (i := 15) (h := ?_); refine doneL (by kernel_rfl) ?_; go_wp2_with fail; go_meet; refine ⟨_, f, rfl, rfl, hHeld, ?_, ?_⟩; (focus (first | exact At.putF' OG f | exact (Blk.at _ 49 rfl).at')); (focus (first | exact hf.keep (IK.putF OG f) | exact hf.keep ((Ext.refl _).alloc _).ik)))); go_simp; go_at_call 36; refine (stepsO_c q0 q1 q2 v0 v1 v2 A _ (HV.out.1.keep (Ext.ik (Ext.trans HB.out (by assumption)))) (HV.out.2.1.keep (Ext.ik (Ext.trans HB.out (by assumption)))) (HV.out.2.2.1.keep (Ext.ik (Ext.trans HB.out (by assumption)))) HAR.out.1).mono ?_; rintro e w6 ⟨f, rfl, hf, hx6⟩; rw [HER.out]; have sz := Ext.size hx6; (try simp only [World.size_alloc, World.size_drew] at sz); (first | (have OG := Own.ext hx6 ((Blk.at #[.bool false, .slice none 0 0, .bool false, .slice none 0 0] 49 rfl).own 4 (by simp) (noIntF _ _ _ _ _ _ _ _)) (by omega)) | skip); (try simp only [World.size_alloc] at OG); go_wp2_with fail; refine hK.out _ _ ?_ ?_; rotate_left; clear hK K; (try clear hHeld); intro hHeld; rotate_right; (focus ((try dsimp only); exact kept)); (try simp only [Act.put, List.setIfInBounds_toArray, List.set_cons_zero, List.set_cons_succ]); have hH6 := hHeld; refine tkW (i := 10) (h := ?_); refine tkW (i := 11) (h := ?_); refine tkW (i := 12) (h := ?_); refine consL (i := 13) (by kernel_rfl) rfl (fun K hK => ?_); go_simp; refine hK.out _ _ ?_ ?_; rotate_left; clear hK K; (try clear hHeld); intro hHeld; rotate_right; (focus ((try dsimp only); exact kept)); (try simp only [Act.put, List.setIfInBounds_toArray, List.set_cons_zero, List.set_cons_succ]); refine consL (i := 14) (by kernel_rfl) rfl (fun K hK => ?_); go_simp; refine hK.out _ _ ?_ ?_; rotate_left; clear hK K; (try clear hHeld); intro hHeld; rotate_right; (focus ((try dsimp only); exact kept)); (try simp only [Act.put, List.setIfInBounds_toArray, List.set_cons_zero, List.set_cons_succ]); refine tkW (i := 15) (h := ?_); refine doneL (by kernel_rfl) ?_; go_wp2_with fail; go_meet; refine ⟨_, f, rfl, rfl, hHeld, ?_, ?_⟩; (focus (first | exact At.putF' OG f | exact (Blk.at _ 49 rfl).at')); (focus (first | exact hf.keep (IK.putF OG f) | exact hf.keep ((Ext.refl _).alloc _).ik))
            case rest =>
             obtain ⟨X2, f2, rfl, rfl, hE, AX, hf2⟩ := hcut
             obtain ⟨u2, hu2⟩ : ∃ W, W = wc := ⟨_, rfl⟩
             subst hu2
             have HB2 := Lib.hid (HB.out.trans hE)
             have H2A := Lib.hid (And.intro (H1A.out.2.1.ext hE (by simp)) (And.intro (H1A.out.2.2.keep hE.ik) (And.intro AX hf2)))
             clear hE AX hf2
             replace HB := HB2
             obtain ⟨sg, hsg⟩ : ∃ z, cmpI (valO A).1 0 = z := ⟨_, rfl⟩
             have HSG := Lib.hid hsg
             clear hsg
             as_aux_lemma =>
              go_upto_region 21 with (fail)
              refine wp_region_held_drew (S := fun W => Ext u2 W) (by kernel_rfl) (Ext.refl u2).drew (fun hHeld => ?_)
              refine tkW (i := 0) (h := ?_); refine tkW (i := 1) (h := ?_); refine takeL (i := 2) (v := ?_) rfl (by kernel_rfl) (by kernel_rfl) (by kernel_rfl) (fun _ _ _ h => h) (Or.inl ⟨by rfl, ?_⟩) (by assumption) ?_; rotate_left; (focus (intro wq hSw; have hcc := HFA.out wq (Ext.trans HB.out hSw); clear hSw; go_split_ands; go_simp; try with_reducible rfl)); (try simp only [Act.put, List.setIfInBounds_toArray, List.set_cons_zero, List.set_cons_succ]); refine tkW (i := 3) (h := ?_); refine tkW (i := 4) (h := ?_); refine takeL (i := 5) (v := ?_) rfl (by kernel_rfl) (by kernel_rfl) (by kernel_rfl) (fun _ _ _ h => h) (Or.inl ⟨by rfl, ?_⟩) (by assumption) ?_; rotate_left; (focus (intro wq hSw; have hcc := HFB.out wq (Ext.trans HB.out hSw); clear hSw; go_split_ands; go_simp; try with_reducible rfl)); (try simp only [Act.put, List.setIfInBounds_toArray, List.set_cons_zero, List.set_cons_succ]); refine tkW (i := 6) (h := ?_); refine tkW (i := 7) (h := ?_); refine takeL (i := 8) (v := ?_) rfl (by kernel_rfl) (by kernel_rfl) (by kernel_rfl) (fun _ _ _ h => h) (Or.inl ⟨by rfl, ?_⟩) (by assumption) ?_; rotate_left; (focus (intro wq hSw; have hcc := HFC.out wq (Ext.trans HB.out hSw); clear hSw; go_split_ands; go_simp; try with_reducible rfl)); (try simp only [Act.put, List.setIfInBounds_toArray, List.set_cons_zero, List.set_cons_succ])
              refine consL (i := 9) (by kernel_rfl) rfl (fun K hK => ?_); go_simp; go_at_call 28; refine (SideO_c q0 q1 q2 v0 v1 v2 A _ (HV.out.1.keep (Ext.ik (Ext.trans HB.out (by assumption)))) (HV.out.2.1.keep (Ext.ik (Ext.trans HB.out (by assumption)))) (HV.out.2.2.1.keep (Ext.ik (Ext.trans HB.out (by assumption)))) HAR.out.1).mono ?_; rw [HSG.out, HEA.out]; rintro e u3 ⟨rfl, hx3⟩; go_wp2_with fail; refine hK.out _ _ ?_ ?_; rotate_left; clear hK K; (try clear hHeld); intro hHeld; rotate_right; (focus ((try dsimp only); exact kept)); (try simp only [Act.put, List.setIfInBounds_toArray, List.set_cons_zero, List.set_cons_succ])
              refine tkW (i := 10) (h := ?_)
              refine tkW (i := 11) (h := ?_)
              refine tkW (i := 12) (h := ?_)
              refine tkW (i := 13) (h := ?_)
              refine tkW (i := 14) (h := ?_)
              have HX3 := Lib.hid hHeld
              refine doneL (by kernel_rfl) ?_
              clear hHeld hx3
              have HF3 := Lib.hid (And.intro (H2A.out.1.ext HX3.out (by simp)) (And.intro (H2A.out.2.1.keep HX3.out.ik) (And.intro (H2A.out.2.2.1.ext HX3.out (by simp)) (H2A.out.2.2.2.keep HX3.out.ik))))
              replace HB := Lib.hid (HB2.out.trans HX3.out)
              clear HB2 H2A H1A HX3
              obtain ⟨x0, x1, x2, x3⟩ : u3.cell? ⟨X1, 0, none⟩ = some (.bool f1.n.neg) ∧ u3.cell? ⟨X1, 1, none⟩ = some (.slice f1.n.a f1.n.n f1.n.c) ∧ u3.cell? ⟨X1, 2, none⟩ = some (.bool f1.d.neg) ∧ u3.cell? ⟨X1, 3, none⟩ = some (.slice f1.d.a f1.d.n f1.d.c) := ⟨HF3.out.1 0 (by simp), HF3.out.1 1 (by simp), HF3.out.1 2 (by simp), HF3.out.1 3 (by simp)⟩
              obtain ⟨y0, y1, y2, y3⟩ : u3.cell? ⟨X2, 0, none⟩ = some (.bool f2.n.neg) ∧ u3.cell? ⟨X2, 1, none⟩ = some (.slice f2.n.a f2.n.n f2.n.c) ∧ u3.cell? ⟨X2, 2, none⟩ = some (.bool f2.d.neg) ∧ u3.cell? ⟨X2, 3, none⟩ = some (.slice f2.d.a f2.d.n f2.d.c) := ⟨HF3.out.2.2.1 0 (by simp), HF3.out.2.2.1 1 (by simp), HF3.out.2.2.1 2 (by simp), HF3.out.2.2.1 3 (by simp)⟩
              have hee : (eA == eA) = true := by simp
              have hss : (sg == sg) = true := by simp
              go_wp2_with fail
              refine (fCompare_c f1 f2 (valO A).1 (valO A).2 (valO A).1 (valO A).2 _ HF3.out.2.1 HF3.out.2.2.2).mono ?_
              rw [cmpI_self]
              rintro e u4 ⟨rfl, hx4⟩
              have HX4 := Lib.hid hx4
              clear x0 x1 x2 x3 y0 y1 y2 y3
              obtain ⟨y0, y1, y2, y3⟩ : u4.cell? ⟨X2, 0, none⟩ = some (.bool f2.n.neg) ∧ u4.cell? ⟨X2, 1, none⟩ = some (.slice f2.n.a f2.n.n f2.n.c) ∧ u4.cell? ⟨X2, 2, none⟩ = some (.bool f2.d.neg) ∧ u4.cell? ⟨X2, 3, none⟩ = some (.slice f2.d.a f2.d.n f2.d.c) := ⟨(HF3.out.2.2.1.ext hx4 (by simp)) 0 (by simp), (HF3.out.2.2.1.ext hx4 (by simp)) 1 (by simp), (HF3.out.2.2.1.ext hx4 (by simp)) 2 (by simp), (HF3.out.2.2.1.ext hx4 (by simp)) 3 (by simp)⟩
              clear hx4
              go_wp2_with fail
              refine (fSign_c f2 (valO A).1 (valO A).2 _ _ (HF3.out.2.2.2.r.keep HX4.out.ik)).mono ?_
              rw [HSG.out]
              rintro e u5 ⟨rfl, hx5⟩
              have HF5 := Lib.hid (And.intro (HF3.out.1.ext (HX4.out.trans hx5) (by simp)) (HF3.out.2.1.keep (HX4.out.trans hx5).ik))
              replace HB := Lib.hid (HB.out.trans (HX4.out.trans hx5))
              clear y0 y1 y2 y3 hx5 HX4 HF3 hss hee
              obtain ⟨eP, heP⟩ : ∃ z, errO P = z := ⟨_, rfl⟩
              obtain ⟨eQ, heQ⟩ : ∃ z, errO Q = z := ⟨_, rfl⟩
              obtain ⟨eR, heR⟩ : ∃ z, errO R = z := ⟨_, rfl⟩
              have HEP := Lib.hid (And.intro heP (And.intro heQ heR))
              clear heP heQ heR
              replace HER := Lib.hid HEP.out.1
              as_aux_lemma =>
               go_upto_region 24 with (fail)
               go_cut [22, 23] (fun s t wx => ∃ (X : Nat) (f : FV), s = .pointer (some ⟨X, 0, none⟩) ∧ t = .int .i64 eP ∧ Ext u5 wx ∧ At wx X #[.bool f.n.neg, .slice f.n.a f.n.n f.n.c, .bool f.d.neg, .slice f.d.a f.d.n f.d.c] ∧ IsF wx f (valO P).1 (valO P).2)
               case first =>
                as_aux_lemma =>
                 refine wp_region_held_drew (S := fun W => Ext u5 W) (by kernel_rfl) (Ext.refl u5).drew (fun hHeld => ?_); refine tkW (i := 0) (h := ?_); refine tkW (i := 1) (h := ?_); refine takeL (i := 2) (v := ?_) rfl (by kernel_rfl) (by kernel_rfl) (by kernel_rfl) (fun _ _ _ h => h) (Or.inl ⟨by rfl, ?_⟩) (by assumption) ?_; rotate_left; (focus (intro wq hSw; have hcc := HFA.out wq (Ext.trans HB.out hSw); clear hSw; go_split_ands; go_simp; try with_reducible rfl)); (try simp only [Act.put, List.setIfInBounds_toArray, List.set_cons_zero, List.set_cons_succ]); refine tkW (i := 3) (h := ?_); refine tkW (i := 4) (h := ?_); refine takeL (i := 5) (v := ?_) rfl (by kernel_rfl) (by kernel_rfl) (by kernel_rfl) (fun _ _ _ h => h) (Or.inl ⟨by rfl, ?_⟩) (by assumption) ?_; rotate_left; (focus (intro wq hSw; have hcc := HFB.out wq (Ext.trans HB.out hSw); clear hSw; go_split_ands; go_simp; try with_reducible rfl)); (try simp only [Act.put, List.setIfInBounds_toArray, List.set_cons_zero, List.set_cons_succ]); refine tkW (i := 6) (h := ?_); refine tkW (i := 7) (h := ?_); refine takeL (i := 8) (v := ?_) rfl (by kernel_rfl) (by kernel_rfl) (by kernel_rfl) (fun _ _ _ h => h) (Or.inl ⟨by rfl, ?_⟩) (by assumption) ?_; rotate_left; (focus (intro wq hSw; have hcc := HFD.out wq (Ext.trans HB.out hSw); clear hSw; go_split_ands; go_simp; try with_reducible rfl)); (try simp only [Act.put, List.setIfInBounds_toArray, List.set_cons_zero, List.set_cons_succ]); refine cons2L (i := 9) (j := 13) (by kernel_rfl) rfl rfl (fun K hK => ?_) (fun K hK => ?_); rotate_left; (focus (go_simp; refine hK.out _ _ ?_ ?_; rotate_left; clear hK K; (try clear hHeld); intro hHeld; rotate_right; (focus ((try dsimp only); exact kept)); (try simp only [Act.put, List.setIfInBounds_toArray, List.set_cons_zero, List.set_cons_succ]); refine consL (i := 9) (by kernel_rfl) rfl (fun K hK => ?_); go_simp; go_at_call 35; refine (AreaO_c q0 q1 q3 v0 v1 v3 P _ (HV.out.1.keep (Ext.ik (Ext.trans HB.out (by assumption)))) (HV.out.2.1.keep (Ext.ik (Ext.trans HB.out (by assumption)))) (HV.out.2.2.2.keep (Ext.ik (Ext.trans HB.out (by assumption)))) HAR.out.2.1).mono ?_; rintro e w6 ⟨f, rfl, hf, hx6⟩; rw [HER.out]; have sz := Ext.size hx6; (try simp only [World.size_alloc, World.size_drew] at sz); (first | (have OG := Own.ext hx6 ((Blk.at #[.bool false, .slice none 0 0, .bool false, .slice none 0 0] 49 rfl).own 4 (by simp) (noIntF _ _ _ _ _ _ _ _)) (by omega)) | skip); (try simp only [World.size_alloc] at OG); go_wp2_with fail; refine hK.out _ _ ?_ ?_; rotate_left; clear hK K; (try clear hHeld); intro hHeld; rotate_right; (focus ((try dsimp only); exact kept)); (try simp only [Act.put, List.setIfInBounds_toArray, List.set_cons_zero, List.set_cons_succ]); refine tkW (i := 10) (h := ?_); refine tkW (i := 11) (h := ?_); refine tkW (i := 12) (h := ?_); refine consL (i := 14) (by kernel_rfl) rfl (fun K hK => ?_); go_simp; refine hK.out _ _ ?_ ?_; rotate_left; clear hK K; (try clear hHeld); intro hHeld; rotate_right; (focus ((try dsimp only); exact kept)); (try simp only [Act.put, List.setIfInBounds_toArray, List.set_cons_zero, List.set_cons_succ]); refine tkW (i := 15) (h := ?_); refine doneL (by kernel_rfl) ?_; go_wp2_with fail; go_meet; refine ⟨_, f, rfl, rfl, hHeld, ?_, ?_⟩; (focus (first | exact At.putF' OG f | exact (Blk.at _ 49 rfl).at')); (focus (first | exact hf.keep (IK.putF OG f) | exact hf.keep ((Ext.refl _).alloc _).ik)))); go_simp; go_at_call 35; refine (AreaO_c q0 q1 q3 v0 v1 v3 P _ (HV.out.1.keep (Ext.ik (Ext.trans HB.out (by assumption)))) (HV.out.2.1.keep (Ext.ik (Ext.trans HB.out (by assumption)))) (HV.out.2.2.2.keep (Ext.ik (Ext.trans HB.out (by assumption)))) HAR.out.2.1).mono ?_; rintro e w6 ⟨f, rfl, hf, hx6⟩; rw [HER.out]; have sz := Ext.size hx6; (try simp only [World.size_alloc, World.size_drew] at sz); (first | (have OG := Own.ext hx6 ((Blk.at #[.bool false, .slice none 0 0, .bool false, .slice none 0 0] 49 rfl).own 4 (by simp) (noIntF _ _ _ _ _ _ _ _)) (by omega)) | skip); (try simp only [World.size_alloc] at OG); go_wp2_with fail; refine hK.out _ _ ?_ ?_; rotate_left; clear hK K; (try clear hHeld); intro hHeld; rotate_right; (focus ((try dsimp only); exact kept)); (try simp only [Act.put, List.setIfInBounds_toArray, List.set_cons_zero, List.set_cons_succ]); have hH6 := hHeld; refine tkW (i := 10) (h := ?_); refine tkW (i := 11) (h := ?_); refine tkW (i := 12) (h := ?_); refine consL (i := 13) (by kernel_rfl) rfl (fun K hK => ?_); go_simp; refine hK.out _ _ ?_ ?_; rotate_left; clear hK K; (try clear hHeld); intro hHeld; rotate_right; (focus ((try dsimp only); exact kept)); (try simp only [Act.put, List.setIfInBounds_toArray, List.set_cons_zero, List.set_cons_succ]); refine consL (i := 14) (by kernel_rfl) rfl (fun K hK => ?_); go_simp; refine hK.out _ _ ?_ ?_; rotate_left; clear hK K; (try clear hHeld); intro hHeld; rotate_right; (focus ((try dsimp only); exact kept)); (try simp only [Act.put, List.setIfInBounds_toArray, List.set_cons_zero, List.set_cons_succ]); refine tkW (i := 15) (h := ?_); refine doneL (by kernel_rfl) ?_; go_wp2_with fail; go_meet; refine ⟨_, f, rfl, rfl, hHeld, ?_, ?_⟩; (focus (first | exact At.putF' OG f | exact (Blk.at _ 49 rfl).at')); (focus (first | exact hf.keep (IK.putF OG f) | exact hf.keep ((Ext.refl _).alloc _).ik))
               case rest =>
                obtain ⟨X4, f4, rfl, rfl, hE, AX, hf4⟩ := hcut
                obtain ⟨u6, hu6⟩ : ∃ W, W = wc := ⟨_, rfl⟩
                subst hu6
                have HF6 := Lib.hid (And.intro (And.intro (HF5.out.1.ext hE (by simp)) (HF5.out.2.keep hE.ik)) (And.intro AX hf4))
                replace HB := Lib.hid (HB.out.trans hE)
                clear hE AX hf4 HF5
                replace HER := Lib.hid HEP.out.2.1
                as_aux_lemma =>
                 go_upto_region 25 with (fail)
                 go_cut [24, 25] (fun s t wx => ∃ (X : Nat) (f : FV), s = .pointer (some ⟨X, 0, none⟩) ∧ t = .int .i64 eQ ∧ Ext u6 wx ∧ At wx X #[.bool f.n.neg, .slice f.n.a f.n.n f.n.c, .bool f.d.neg, .slice f.d.a f.d.n f.d.c] ∧ IsF wx f (valO Q).1 (valO Q).2)
                 case first =>
                  as_aux_lemma =>
                   refine wp_region_held_drew (S := fun W => Ext u6 W) (by kernel_rfl) (Ext.refl u6).drew (fun hHeld => ?_); refine tkW (i := 0) (h := ?_); refine tkW (i := 1) (h := ?_); refine takeL (i := 2) (v := ?_) rfl (by kernel_rfl) (by kernel_rfl) (by kernel_rfl) (fun _ _ _ h => h) (Or.inl ⟨by rfl, ?_⟩) (by assumption) ?_; rotate_left; (focus (intro wq hSw; have hcc := HFB.out wq (Ext.trans HB.out hSw); clear hSw; go_split_ands; go_simp; try with_reducible rfl)); (try simp only [Act.put, List.setIfInBounds_toArray, List.set_cons_zero, List.set_cons_succ]); refine tkW (i := 3) (h := ?_); refine tkW (i := 4) (h := ?_); refine takeL (i := 5) (v := ?_) rfl (by kernel_rfl) (by kernel_rfl) (by kernel_rfl) (fun _ _ _ h => h) (Or.inl ⟨by rfl, ?_⟩) (by assumption) ?_; rotate_left; (focus (intro wq hSw; have hcc := HFC.out wq (Ext.trans HB.out hSw); clear hSw; go_split_ands; go_simp; try with_reducible rfl)); (try simp only [Act.put, List.setIfInBounds_toArray, List.set_cons_zero, List.set_cons_succ]); refine tkW (i := 6) (h := ?_); refine tkW (i := 7) (h := ?_); refine takeL (i := 8) (v := ?_) rfl (by kernel_rfl) (by kernel_rfl) (by kernel_rfl) (fun _ _ _ h => h) (Or.inl ⟨by rfl, ?_⟩) (by assumption) ?_; rotate_left; (focus (intro wq hSw; have hcc := HFD.out wq (Ext.trans HB.out hSw); clear hSw; go_split_ands; go_simp; try with_reducible rfl)); (try simp only [Act.put, List.setIfInBounds_toArray, List.set_cons_zero, List.set_cons_succ]); refine cons2L (i := 9) (j := 13) (by kernel_rfl) rfl rfl (fun K hK => ?_) (fun K hK => ?_); rotate_left; (focus (go_simp; refine hK.out _ _ ?_ ?_; rotate_left; clear hK K; (try clear hHeld); intro hHeld; rotate_right; (focus ((try dsimp only); exact kept)); (try simp only [Act.put, List.setIfInBounds_toArray, List.set_cons_zero, List.set_cons_succ]); refine consL (i := 9) (by kernel_rfl) rfl (fun K hK => ?_); go_simp; go_at_call 35; refine (AreaO_c q1 q2 q3 v1 v2 v3 Q _ (HV.out.2.1.keep (Ext.ik (Ext.trans HB.out (by assumption)))) (HV.out.2.2.1.keep (Ext.ik (Ext.trans HB.out (by assumption)))) (HV.out.2.2.2.keep (Ext.ik (Ext.trans HB.out (by assumption)))) HAR.out.2.2.1).mono ?_; rintro e w6 ⟨f, rfl, hf, hx6⟩; rw [HER.out]; have sz := Ext.size hx6; (try simp only [World.size_alloc, World.size_drew] at sz); (first | (have OG := Own.ext hx6 ((Blk.at #[.bool false, .slice none 0 0, .bool false, .slice none 0 0] 49 rfl).own 4 (by simp) (noIntF _ _ _ _ _ _ _ _)) (by omega)) | skip); (try simp only [World.size_alloc] at OG); go_wp2_with fail; refine hK.out _ _ ?_ ?_; rotate_left; clear hK K; (try clear hHeld); intro hHeld; rotate_right; (focus ((try dsimp only); exact kept)); (try simp only [Act.put, List.setIfInBounds_toArray, List.set_cons_zero, List.set_cons_succ]); refine tkW (i := 10) (h := ?_); refine tkW (i := 11) (h := ?_); refine tkW (i := 12) (h := ?_); refine consL (i := 14) (by kernel_rfl) rfl (fun K hK => ?_); go_simp; refine hK.out _ _ ?_ ?_; rotate_left; clear hK K; (try clear hHeld); intro hHeld; rotate_right; (focus ((try dsimp only); exact kept)); (try simp only [Act.put, List.setIfInBounds_toArray, List.set_cons_zero, List.set_cons_succ]); refine tkW (i := 15) (h := ?_); refine doneL (by kernel_rfl) ?_; go_wp2_with fail; go_meet; refine ⟨_, f, rfl, rfl, hHeld, ?_, ?_⟩; (focus (first | exact At.putF' OG f | exact (Blk.at _ 49 rfl).at')); (focus (first | exact hf.keep (IK.putF OG f) | exact hf.keep ((Ext.refl _).alloc _).ik)))); go_simp; go_at_call 35; refine (AreaO_c q1 q2 q3 v1 v2 v3 Q _ (HV.out.2.1.keep (Ext.ik (Ext.trans HB.out (by assumption)))) (HV.out.2.2.1.keep (Ext.ik (Ext.trans HB.out (by assumption)))) (HV.out.2.2.2.keep (Ext.ik (Ext.trans HB.out (by assumption)))) HAR.out.2.2.1).mono ?_; rintro e w6 ⟨f, rfl, hf, hx6⟩; rw [HER.out]; have sz := Ext.size hx6; (try simp only [World.size_alloc, World.size_drew] at sz); (first | (have OG := Own.ext hx6 ((Blk.at #[.bool false, .slice none 0 0, .bool false, .slice none 0 0] 49 rfl).own 4 (by simp) (noIntF _ _ _ _ _ _ _ _)) (by omega)) | skip); (try simp only [World.size_alloc] at OG); go_wp2_with fail; refine hK.out _ _ ?_ ?_; rotate_left; clear hK K; (try clear hHeld); intro hHeld; rotate_right; (focus ((try dsimp only); exact kept)); (try simp only [Act.put, List.setIfInBounds_toArray, List.set_cons_zero, List.set_cons_succ]); have hH6 := hHeld; refine tkW (i := 10) (h := ?_); refine tkW (i := 11) (h := ?_); refine tkW (i := 12) (h := ?_); refine consL (i := 13) (by kernel_rfl) rfl (fun K hK => ?_); go_simp; refine hK.out _ _ ?_ ?_; rotate_left; clear hK K; (try clear hHeld); intro hHeld; rotate_right; (focus ((try dsimp only); exact kept)); (try simp only [Act.put, List.setIfInBounds_toArray, List.set_cons_zero, List.set_cons_succ]); refine consL (i := 14) (by kernel_rfl) rfl (fun K hK => ?_); go_simp; refine hK.out _ _ ?_ ?_; rotate_left; clear hK K; (try clear hHeld); intro hHeld; rotate_right; (focus ((try dsimp only); exact kept)); (try simp only [Act.put, List.setIfInBounds_toArray, List.set_cons_zero, List.set_cons_succ]); refine tkW (i := 15) (h := ?_); refine doneL (by kernel_rfl) ?_; go_wp2_with fail; go_meet; refine ⟨_, f, rfl, rfl, hHeld, ?_, ?_⟩; (focus (first | exact At.putF' OG f | exact (Blk.at _ 49 rfl).at')); (focus (first | exact hf.keep (IK.putF OG f) | exact hf.keep ((Ext.refl _).alloc _).ik))
                 case rest =>
                  obtain ⟨X5, f5, rfl, rfl, hE, AX, hf5⟩ := hcut
                  obtain ⟨u7, hu7⟩ : ∃ W, W = wc := ⟨_, rfl⟩
                  subst hu7
                  have HF7 := Lib.hid (And.intro (And.intro (HF6.out.1.1.ext hE (by simp)) (HF6.out.1.2.keep hE.ik)) (And.intro (And.intro (HF6.out.2.1.ext hE (by simp)) (HF6.out.2.2.keep hE.ik)) (And.intro AX hf5)))
                  replace HB := Lib.hid (HB.out.trans hE)
                  clear hE AX hf5 HF6
                  replace HER := Lib.hid HEP.out.2.2
                  as_aux_lemma =>
                   go_upto_region 26 with (fail)
                   go_cut [26, 27] (fun s t wx => ∃ (X : Nat) (f : FV), s = .pointer (some ⟨X, 0, none⟩) ∧ t = .int .i64 eR ∧ Ext u7 wx ∧ At wx X #[.bool f.n.neg, .slice f.n.a f.n.n f.n.c, .bool f.d.neg, .slice f.d.a f.d.n f.d.c] ∧ IsF wx f (valO R).1 (valO R).2)
                   case first =>
                    as_aux_lemma =>
                     refine wp_region_held_drew (S := fun W => Ext u7 W) (by kernel_rfl) (Ext.refl u7).drew (fun hHeld => ?_); refine tkW (i := 0) (h := ?_); refine tkW (i := 1) (h := ?_); refine takeL (i := 2) (v := ?_) rfl (by kernel_rfl) (by kernel_rfl) (by kernel_rfl) (fun _ _ _ h => h) (Or.inl ⟨by rfl, ?_⟩) (by assumption) ?_; rotate_left; (focus (intro wq hSw; have hcc := HFC.out wq (Ext.trans HB.out hSw); clear hSw; go_split_ands; go_simp; try with_reducible rfl)); (try simp only [Act.put, List.setIfInBounds_toArray, List.set_cons_zero, List.set_cons_succ]); refine tkW (i := 3) (h := ?_); refine tkW (i := 4) (h := ?_); refine takeL (i := 5) (v := ?_) rfl (by kernel_rfl) (by kernel_rfl) (by kernel_rfl) (fun _ _ _ h => h) (Or.inl ⟨by rfl, ?_⟩) (by assumption) ?_; rotate_left; (focus (intro wq hSw; have hcc := HFA.out wq (Ext.trans HB.out hSw); clear hSw; go_split_ands; go_simp; try with_reducible rfl)); (try simp only [Act.put, List.setIfInBounds_toArray, List.set_cons_zero, List.set_cons_succ]); refine tkW (i := 6) (h := ?_); refine tkW (i := 7) (h := ?_); refine takeL (i := 8) (v := ?_) rfl (by kernel_rfl) (by kernel_rfl) (by kernel_rfl) (fun _ _ _ h => h) (Or.inl ⟨by rfl, ?_⟩) (by assumption) ?_; rotate_left; (focus (intro wq hSw; have hcc := HFD.out wq (Ext.trans HB.out hSw); clear hSw; go_split_ands; go_simp; try with_reducible rfl)); (try simp only [Act.put, List.setIfInBounds_toArray, List.set_cons_zero, List.set_cons_succ]); refine cons2L (i := 9) (j := 13) (by kernel_rfl) rfl rfl (fun K hK => ?_) (fun K hK => ?_); rotate_left; (focus (go_simp; refine hK.out _ _ ?_ ?_; rotate_left; clear hK K; (try clear hHeld); intro hHeld; rotate_right; (focus ((try dsimp only); exact kept)); (try simp only [Act.put, List.setIfInBounds_toArray, List.set_cons_zero, List.set_cons_succ]); refine consL (i := 9) (by kernel_rfl) rfl (fun K hK => ?_); go_simp; go_at_call 35; refine (AreaO_c q2 q0 q3 v2 v0 v3 R _ (HV.out.2.2.1.keep (Ext.ik (Ext.trans HB.out (by assumption)))) (HV.out.1.keep (Ext.ik (Ext.trans HB.out (by assumption)))) (HV.out.2.2.2.keep (Ext.ik (Ext.trans HB.out (by assumption)))) HAR.out.2.2.2).mono ?_; rintro e w6 ⟨f, rfl, hf, hx6⟩; rw [HER.out]; have sz := Ext.size hx6; (try simp only [World.size_alloc, World.size_drew] at sz); (first | (have OG := Own.ext hx6 ((Blk.at #[.bool false, .slice none 0 0, .bool false, .slice none 0 0] 49 rfl).own 4 (by simp) (noIntF _ _ _ _ _ _ _ _)) (by omega)) | skip); (try simp only [World.size_alloc] at OG); go_wp2_with fail; refine hK.out _ _ ?_ ?_; rotate_left; clear hK K; (try clear hHeld); intro hHeld; rotate_right; (focus ((try dsimp only); exact kept)); (try simp only [Act.put, List.setIfInBounds_toArray, List.set_cons_zero, List.set_cons_succ]); refine tkW (i := 10) (h := ?_); refine tkW (i := 11) (h := ?_); refine tkW (i := 12) (h := ?_); refine consL (i := 14) (by kernel_rfl) rfl (fun K hK => ?_); go_simp; refine hK.out _ _ ?_ ?_; rotate_left; clear hK K; (try clear hHeld); intro hHeld; rotate_right; (focus ((try dsimp only); exact kept)); (try simp only [Act.put, List.setIfInBounds_toArray, List.set_cons_zero, List.set_cons_succ]); refine tkW (i := 15) (h := ?_); refine doneL (by kernel_rfl) ?_; go_wp2_with fail; go_meet; refine ⟨_, f, rfl, rfl, hHeld, ?_, ?_⟩; (focus (first | exact At.putF' OG f | exact (Blk.at _ 49 rfl).at')); (focus (first | exact hf.keep (IK.putF OG f) | exact hf.keep ((Ext.refl _).alloc _).ik)))); go_simp; go_at_call 35; refine (AreaO_c q2 q0 q3 v2 v0 v3 R _ (HV.out.2.2.1.keep (Ext.ik (Ext.trans HB.out (by assumption)))) (HV.out.1.keep (Ext.ik (Ext.trans HB.out (by assumption)))) (HV.out.2.2.2.keep (Ext.ik (Ext.trans HB.out (by assumption)))) HAR.out.2.2.2).mono ?_; rintro e w6 ⟨f, rfl, hf, hx6⟩; rw [HER.out]; have sz := Ext.size hx6; (try simp only [World.size_alloc, World.size_drew] at sz); (first | (have OG := Own.ext hx6 ((Blk.at #[.bool false, .slice none 0 0, .bool false, .slice none 0 0] 49 rfl).own 4 (by simp) (noIntF _ _ _ _ _ _ _ _)) (by omega)) | skip); (try simp only [World.size_alloc] at OG); go_wp2_with fail; refine hK.out _ _ ?_ ?_; rotate_left; clear hK K; (try clear hHeld); intro hHeld; rotate_right; (focus ((try dsimp only); exact kept)); (try simp only [Act.put, List.setIfInBounds_toArray, List.set_cons_zero, List.set_cons_succ]); have hH6 := hHeld; refine tkW (i := 10) (h := ?_); refine tkW (i := 11) (h := ?_); refine tkW (i := 12) (h := ?_); refine consL (i := 13) (by kernel_rfl) rfl (fun K hK => ?_); go_simp; refine hK.out _ _ ?_ ?_; rotate_left; clear hK K; (try clear hHeld); intro hHeld; rotate_right; (focus ((try dsimp only); exact kept)); (try simp only [Act.put, List.setIfInBounds_toArray, List.set_cons_zero, List.set_cons_succ]); refine consL (i := 14) (by kernel_rfl) rfl (fun K hK => ?_); go_simp; refine hK.out _ _ ?_ ?_; rotate_left; clear hK K; (try clear hHeld); intro hHeld; rotate_right; (focus ((try dsimp only); exact kept)); (try simp only [Act.put, List.setIfInBounds_toArray, List.set_cons_zero, List.set_cons_succ]); refine tkW (i := 15) (h := ?_); refine doneL (by kernel_rfl) ?_; go_wp2_with fail; go_meet; refine ⟨_, f, rfl, rfl, hHeld, ?_, ?_⟩; (focus (first | exact At.putF' OG f | exact (Blk.at _ 49 rfl).at')); (focus (first | exact hf.keep (IK.putF OG f) | exact hf.keep ((Ext.refl _).alloc _).ik))
                   case rest =>
                    obtain ⟨X6, f6, rfl, rfl, hE, AX, hf6⟩ := hcut
                    obtain ⟨u8, hu8⟩ : ∃ W, W = wc := ⟨_, rfl⟩
                    subst hu8
                    have HF8 := Lib.hid (And.intro (And.intro (HF7.out.1.1.ext hE (by simp)) (HF7.out.1.2.keep hE.ik)) (And.intro (And.intro (HF7.out.2.1.1.ext hE (by simp)) (HF7.out.2.1.2.keep hE.ik)) (And.intro (And.intro (HF7.out.2.2.1.ext hE (by simp)) (HF7.out.2.2.2.keep hE.ik)) (And.intro AX hf6))))
                    have HEND := Lib.hid (HEB.out.trans (HB.out.trans hE))
                    clear hE AX hf6 HF7 HER HB
                    as_aux_lemma =>
                     cases A with
                     | none =>
                      obtain rfl : (4 : Int) = eA := HEA.out
                      (go_wp2_with fail; refine (lives_c _).mono ?_; rintro e w99 ⟨rfl, hx99⟩; go_wp2_with fail; go_ret; exact ⟨rfl, Ext.trans HEND.out hx99⟩)
                     | some xA =>
                      obtain rfl : (0 : Int) = eA := HEA.out
                      cases P with
                      | none =>
                       obtain rfl : (4 : Int) = eP := HEP.out.1
                       (go_wp2_with fail; refine (lives_c _).mono ?_; rintro e w99 ⟨rfl, hx99⟩; go_wp2_with fail; go_ret; exact ⟨rfl, Ext.trans HEND.out hx99⟩)
                      | some xP =>
                       obtain rfl : (0 : Int) = eP := HEP.out.1
                       cases Q with
                       | none =>
                        obtain rfl : (4 : Int) = eQ := HEP.out.2.1
                        (go_wp2_with fail; refine (lives_c _).mono ?_; rintro e w99 ⟨rfl, hx99⟩; go_wp2_with fail; go_ret; exact ⟨rfl, Ext.trans HEND.out hx99⟩)
                       | some xQ =>
                        obtain rfl : (0 : Int) = eQ := HEP.out.2.1
                        cases R with
                        | none =>
                         obtain rfl : (4 : Int) = eR := HEP.out.2.2
                         (go_wp2_with fail; refine (lives_c _).mono ?_; rintro e w99 ⟨rfl, hx99⟩; go_wp2_with fail; go_ret; exact ⟨rfl, Ext.trans HEND.out hx99⟩)
                        | some xR =>
                         obtain rfl : (0 : Int) = eR := HEP.out.2.2
                         obtain ⟨a0, a1, a2', a3⟩ : u8.cell? ⟨X4, 0, none⟩ = some (.bool f4.n.neg) ∧ u8.cell? ⟨X4, 1, none⟩ = some (.slice f4.n.a f4.n.n f4.n.c) ∧ u8.cell? ⟨X4, 2, none⟩ = some (.bool f4.d.neg) ∧ u8.cell? ⟨X4, 3, none⟩ = some (.slice f4.d.a f4.d.n f4.d.c) := ⟨HF8.out.2.1.1 0 (by simp), HF8.out.2.1.1 1 (by simp), HF8.out.2.1.1 2 (by simp), HF8.out.2.1.1 3 (by simp)⟩
                         obtain ⟨b0, b1, b2, b3⟩ : u8.cell? ⟨X5, 0, none⟩ = some (.bool f5.n.neg) ∧ u8.cell? ⟨X5, 1, none⟩ = some (.slice f5.n.a f5.n.n f5.n.c) ∧ u8.cell? ⟨X5, 2, none⟩ = some (.bool f5.d.neg) ∧ u8.cell? ⟨X5, 3, none⟩ = some (.slice f5.d.a f5.d.n f5.d.c) := ⟨HF8.out.2.2.1.1 0 (by simp), HF8.out.2.2.1.1 1 (by simp), HF8.out.2.2.1.1 2 (by simp), HF8.out.2.2.1.1 3 (by simp)⟩
                         obtain ⟨O1, hO1⟩ : ∃ o, addE xP xQ = o := ⟨_, rfl⟩
                         obtain ⟨e1, he1⟩ : ∃ o, errO O1 = o := ⟨_, rfl⟩
                         have HO1 := Lib.hid (And.intro hO1 he1)
                         clear hO1 he1
                         go_wp2_with fail
                         refine (fAddO_c f4 f5 xP xQ _ HF8.out.2.1.2 HF8.out.2.2.1.2).mono ?_
                         rw [HO1.out.1]
                         rintro e u9 ⟨g1, rfl, hg1, hx9⟩
                         rw [HO1.out.2]
                         go_upto_region 30 with (fail)
                         obtain ⟨Y1, hY1⟩ : ∃ Y, u9.heap.size = Y := ⟨_, rfl⟩
                         rw [hY1]
                         refine wp_gen (fun W => Ext u8 W ∧ At W Y1 #[.bool g1.n.neg, .slice g1.n.a g1.n.n g1.n.c, .bool g1.d.neg, .slice g1.d.a g1.d.n g1.d.c] ∧ IsF W g1 (valO O1).1 (valO O1).2) ⟨hx9.alloc _, (Blk.at _ 49 hY1.symm).at', hg1.keep ((Ext.refl _).alloc _).ik⟩ ?_
                         clear a0 a1 a2' a3 b0 b1 b2 b3 hY1 hg1 hx9
                         rintro u10 ⟨hx10, AY, hg1⟩
                         have H10 := Lib.hid (And.intro hx10 hg1)
                         obtain ⟨a0, a1, a2', a3⟩ : u10.cell? ⟨Y1, 0, none⟩ = some (.bool g1.n.neg) ∧ u10.cell? ⟨Y1, 1, none⟩ = some (.slice g1.n.a g1.n.n g1.n.c) ∧ u10.cell? ⟨Y1, 2, none⟩ = some (.bool g1.d.neg) ∧ u10.cell? ⟨Y1, 3, none⟩ = some (.slice g1.d.a g1.d.n g1.d.c) := ⟨AY 0 (by simp), AY 1 (by simp), AY 2 (by simp), AY 3 (by simp)⟩
                         have A6 := HF8.out.2.2.2.1.ext hx10 (by simp)
                         obtain ⟨b0, b1, b2, b3⟩ : u10.cell? ⟨X6, 0, none⟩ = some (.bool f6.n.neg) ∧ u10.cell? ⟨X6, 1, none⟩ = some (.slice f6.n.a f6.n.n f6.n.c) ∧ u10.cell? ⟨X6, 2, none⟩ = some (.bool f6.d.neg) ∧ u10.cell? ⟨X6, 3, none⟩ = some (.slice f6.d.a f6.d.n f6.d.c) := ⟨A6 0 (by simp), A6 1 (by simp), A6 2 (by simp), A6 3 (by simp)⟩
                         clear hx10 AY hg1 A6
                         obtain ⟨O2, hO2⟩ : ∃ o, addE (valO O1) xR = o := ⟨_, rfl⟩
                         obtain ⟨e2, he2⟩ : ∃ o, errO O2 = o := ⟨_, rfl⟩
                         have HO2 := Lib.hid (And.intro hO2 he2)
                         clear hO2 he2
                         go_wp2_with fail
                         refine (fAddO_c g1 f6 (valO O1) xR _ H10.out.2 (HF8.out.2.2.2.2.keep H10.out.1.ik)).mono ?_
                         rw [HO2.out.1]
                         rintro e u11 ⟨g2, rfl, hg2, hx11⟩
                         rw [HO2.out.2]
                         go_upto_region 31 with (fail)
                         obtain ⟨Y2, hY2⟩ : ∃ Y, u11.heap.size = Y := ⟨_, rfl⟩
                         rw [hY2]
                         refine wp_gen (fun W => Ext u10 W ∧ At W Y2 #[.bool g2.n.neg, .slice g2.n.a g2.n.n g2.n.c, .bool g2.d.neg, .slice g2.d.a g2.d.n g2.d.c] ∧ IsF W g2 (valO O2).1 (valO O2).2) ⟨hx11.alloc _, (Blk.at _ 49 hY2.symm).at', hg2.keep ((Ext.refl _).alloc _).ik⟩ ?_
                         clear a0 a1 a2' a3 b0 b1 b2 b3 hY2 hg2 hx11
                         rintro u12 ⟨hx12, AY, hg2⟩
                         have HEN2 := Lib.hid (HEND.out.trans (H10.out.1.trans hx12))
                         have A1 := HF8.out.1.1.ext (H10.out.1.trans hx12) (by simp)
                         have HC := Lib.hid (And.intro hg2 (HF8.out.1.2.keep (H10.out.1.trans hx12).ik))
                         cases O1 with
                         | none =>
                          obtain rfl : (4 : Int) = e1 := HO1.out.2
                          clear AY A1 hx12 hg2
                          (go_wp2_with fail; refine (lives_c _).mono ?_; rintro e w99 ⟨rfl, hx99⟩; go_wp2_with fail; go_ret; exact ⟨rfl, Ext.trans HEN2.out hx99⟩)
                         | some xO =>
                          obtain rfl : (0 : Int) = e1 := HO1.out.2
                          cases O2 with
                          | none =>
                           obtain rfl : (4 : Int) = e2 := HO2.out.2
                           clear AY A1 hx12 hg2
                           (go_wp2_with fail; refine (lives_c _).mono ?_; rintro e w99 ⟨rfl, hx99⟩; go_wp2_with fail; go_ret; exact ⟨rfl, Ext.trans HEN2.out hx99⟩)
                          | some xV =>
                           obtain rfl : (0 : Int) = e2 := HO2.out.2
                           have hlaw := areas_law HV.out.1.pos HV.out.2.1.pos HV.out.2.2.1.pos HV.out.2.2.2.pos HAR.out.1 HAR.out.2.1 HAR.out.2.2.1 HAR.out.2.2.2 HO1.out.1 HO2.out.1
                           have HLAW := Lib.hid hlaw
                           obtain ⟨a0, a1, a2', a3⟩ : u12.cell? ⟨Y2, 0, none⟩ = some (.bool g2.n.neg) ∧ u12.cell? ⟨Y2, 1, none⟩ = some (.slice g2.n.a g2.n.n g2.n.c) ∧ u12.cell? ⟨Y2, 2, none⟩ = some (.bool g2.d.neg) ∧ u12.cell? ⟨Y2, 3, none⟩ = some (.slice g2.d.a g2.d.n g2.d.c) := ⟨AY 0 (by simp), AY 1 (by simp), AY 2 (by simp), AY 3 (by simp)⟩
                           obtain ⟨b0, b1, b2, b3⟩ : u12.cell? ⟨X1, 0, none⟩ = some (.bool f1.n.neg) ∧ u12.cell? ⟨X1, 1, none⟩ = some (.slice f1.n.a f1.n.n f1.n.c) ∧ u12.cell? ⟨X1, 2, none⟩ = some (.bool f1.d.neg) ∧ u12.cell? ⟨X1, 3, none⟩ = some (.slice f1.d.a f1.d.n f1.d.c) := ⟨A1 0 (by simp), A1 1 (by simp), A1 2 (by simp), A1 3 (by simp)⟩
                           clear AY A1 hx12 hg2 hlaw
                           go_wp2_with fail
                           refine (fCompare_c g2 f1 xV.1 xV.2 xA.1 xA.2 _ HC.out.1 HC.out.2).mono ?_
                           rw [HLAW.out, cmpI_self]
                           rintro e u13 ⟨rfl, hx13⟩
                           clear a0 a1 a2' a3 b0 b1 b2 b3
                           (go_wp2_with fail; refine (lives_c _).mono ?_; rintro e w99 ⟨rfl, hx99⟩; go_wp2_with fail; go_ret; exact ⟨rfl, Ext.trans (HEN2.out.trans hx13) hx99⟩)
end Go.Proofs.Ytgmedfloflplgaa
