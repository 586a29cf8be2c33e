/- frac: Make of a negative denominator; Div. -/
import Derived.Test.YtkoidookanmknaaSFB
namespace Go.Proofs.Ytkoidookanmknaa
set_option linter.unusedSimpArgs false
set_option linter.unusedVariables false
open Go.RowKit

/-- What the boxes hold behind the turn of signs. -/
def Turned (w : World) (B : Nat) (x y : Int) (W : World) : Prop := ∃ p q : IV, Ext w W ∧ At W B #[.bool p.neg, .slice p.a p.n p.c] ∧ At W (B + 1) #[.bool q.neg, .slice q.a q.n q.c] ∧ IsI W p x ∧ IsI W q y ∧ Own W (B + 1 + 1) 4
theorem turned_mk {w W : World} {B : Nat} {r s : IV} {x y : Int} (hE : Ext w W) (hB : w.heap.size ≤ B) (o0 : Own W B 2) (o1 : Own W (B + 1) 2) (o2 : Own W (B + 1 + 1) 4) (hr : IsI W r x) (hs : IsI W s y) :
  Turned w B x y ((((W.setCell ⟨B, 0, none⟩ (.bool r.neg)).setCell ⟨B, 1, none⟩ (.slice r.a r.n r.c)).setCell ⟨B + 1, 0, none⟩ (.bool s.neg)).setCell ⟨B + 1, 1, none⟩ (.slice s.a s.n s.c)) := by
 have q1 := own_put2 (b := B) o1 r.neg r.a r.n r.c
 have k1 := IK.put2 o0 r.neg r.a r.n r.c
 have k2 := IK.put2 q1 s.neg s.a s.n s.c
 refine ⟨r, s, ext_put2 (ext_put2 hE hB _ _ _ _) (by omega) _ _ _ _, At.set (At.set (At.mk2 (put2_cells o0 _ _).1 (put2_cells o0 _ _).2) (by omega)) (by omega), At.mk2 (put2_cells q1 _ _).1 (put2_cells q1 _ _).2, (hr.keep k1).keep k2, (hs.keep k1).keep k2, ?_⟩
 exact ⟨own1_set (own1_set (own1_set (own1_set o2.1))), own2_set (own2_set (own2_set (own2_set o2.2.1))), own3_set (own3_set (own3_set (own3_set o2.2.2 (by simp)) (by simp)) (by simp)) (by simp)⟩
theorem noIntW2 (g : Bool) (a : Option Addr) (n c : Nat) : ∀ (o : Nat) k m, (#[Value.bool g, Value.slice a n c] : Array Value)[o]? ≠ some (Value.int k m) := by
 intro o k m h
 match o with
 | 0 | 1 => simp at h
 | o + 2 => simp at h
set_option maxRecDepth 100000 in
set_option maxHeartbeats 4000000 in
theorem MakeN_c (p q : IV) (x y : Int) (w : World) (hp : IsI w p (-x)) (hq : IsI w q (-y)) (hy : 1 ≤ y) : Calls Try.prog 29 #[p.v, q.v] w (RetQ (x / gcdI x y) (y / gcdI x y) w) := by
 have HP := Lib.hid hp; have HQ := Lib.hid hq
 have hlow := low_of x y hy
 have hgp := gcdI_pos (x := x) hy
 have hgl := gcdI_le (x := x) hy
 have hbig : Big (y / gcdI x y) := by have h1 := hq.big; have h2 := hlow.le; have h3 := hlow.pos; unfold Big at *; omega
 have hgg : ((Nat.gcd x.natAbs y.natAbs : Nat) : Int) = gcdI x y := rfl
 obtain ⟨gg, hgv⟩ : ∃ z, gcdI x y = z := ⟨_, rfl⟩
 rw [hgv] at hlow hgp hgl hbig hgg ⊢
 have HLOW := Lib.hid hlow; have HBIG := Lib.hid hbig; have HGG := Lib.hid hgg
 have es : cmpI (-y) 0 = -1 := by unfold cmpI; rw [if_pos (by omega)]
 have ES := Lib.hid es
 have HNN := Lib.hid (And.intro (Int.neg_neg x) (Int.neg_neg y))
 clear hp hq hlow hbig hgg hgv es
 go_enter Try.func29, Try.ntmps29
 go_wp2_with fail
 refine (Sign_c q (-y) _ (HQ.out.keep (by repeat (first | exact IK.refl _ | refine IK.alloc ?_ _ | refine IK.drew ?_ | refine IK.setCell ?_ (by simp [hc, go_sem]) _)))).mono ?_
 rw [ES.out]
 rintro e w2 ⟨rfl, hx2⟩
 have hE2 : Ext w w2 := Ext.trans (by repeat (first | exact Ext.refl _ | assumption | refine Ext.setCell ?_ (by first | (simp; done) | (simp; omega) | omega) _ | refine Ext.alloc ?_ _ | refine Ext.drew ?_ | refine Ext.trans ?_ (by assumption))) hx2
 have A0 : At w2 w.heap.size #[.bool p.neg, .slice p.a p.n p.c] := At.ext hx2 (((Blk.at _ 56 rfl).alloc _).alloc _).at' (by simp)
 have A1 : At w2 (w.heap.size + 1) #[.bool q.neg, .slice q.a q.n q.c] := At.ext hx2 ((Blk.at _ 56 (by simp)).alloc _).at' (by simp)
 have O0 : Own w2 w.heap.size 2 := Own.ext hx2 (((((Blk.at _ 56 rfl).alloc _).alloc _).own 2 (by simp) (noIntW2 _ _ _ _))) (by omega)
 have O1 : Own w2 (w.heap.size + 1) 2 := Own.ext hx2 ((((Blk.at _ 56 (by simp)).alloc _).own 2 (by simp) (noIntW2 _ _ _ _))) (by omega)
 have O2 : Own w2 (w.heap.size + 1 + 1) 4 := Own.ext hx2 ((Blk.at #[.bool false, .slice none 0 0, .bool false, .slice none 0 0] 58 (by simp)).own _ (by simp) (noIntF _ _ _ _ _ _ _ _)) (by omega)
 obtain ⟨B, hB⟩ : ∃ B, w.heap.size = B := ⟨_, rfl⟩
 rw [hB] at A0 A1 O2 O0 O1
 have HF := Lib.hid (show Ext w w2 ∧ At w2 B #[.bool p.neg, .slice p.a p.n p.c] ∧ At w2 (B + 1) #[.bool q.neg, .slice q.a q.n q.c] ∧ Own w2 (B + 1 + 1) 4 from ⟨hE2, A0, A1, O2⟩)
 have HO := Lib.hid (And.intro O0 O1)
 have c00 := A0 0 (by simp)
 have c01 := A0 1 (by simp)
 have c10 := A1 0 (by simp)
 have c11 := A1 1 (by simp)
 simp at c00 c01 c10 c11
 clear hE2 A0 A1 O2 hx2 O0 O1
 go_wp2_with fail
 refine (Sign_c q (-y) _ (HQ.out.keep HF.out.1.ik)).mono ?_
 rw [ES.out]
 rintro e w3 ⟨rfl, hx3⟩
 have d00 := hx3.cell c00
 have d01 := hx3.cell c01
 have d10 := hx3.cell c10
 have d11 := hx3.cell c11
 have HX3 := Lib.hid hx3
 clear c00 c01 c10 c11 hx3
 go_upto_region 4 with (fail)
 go_cut [13] (fun s13 wx => s13 = .bool true ∧ Turned w B x y wx)
 case first =>
  have hE := Lib.hid (HF.out.1.trans HX3.out)
  have B0 := At.ext HX3.out HF.out.2.1 (by simp)
  have B1 := At.ext HX3.out HF.out.2.2.1 (by simp)
  have HW := Lib.hid (show Own w3 B 2 ∧ Own w3 (B + 1) 2 ∧ Own w3 (B + 1 + 1) 4 from ⟨Own.ext HX3.out HO.out.1 (by omega), Own.ext HX3.out HO.out.2 (by omega), Own.ext HX3.out HF.out.2.2.2 (by omega)⟩)
  clear d00 d01 d10 d11
  refine wp_region_held_drew (S := fun W => Ext w W) (by kernel_rfl) hE.out.drew (fun hHeld => ?_)
  have f0 := B0 0 (by simp); have f1 := B0 1 (by simp); have f2 := B1 0 (by simp); have f3 := B1 1 (by simp); simp only [List.getElem?_toArray, List.getElem?_cons_zero, List.getElem?_cons_succ] at f0 f1 f2 f3
  refine cons2L (i := 0) (j := 2) (by kernel_rfl) rfl rfl (fun K hK => ?_) (fun K hK => ?_)
  ·go_simp; refine hK.out _ _ ?_ (fun hHeld => ?_); rotate_left; clear hK K; rotate_right; (focus assumption); (try simp only [Act.put, List.setIfInBounds_toArray, List.set_cons_zero, List.set_cons_succ])
   refine cons2L (i := 1) (j := 2) (by kernel_rfl) rfl rfl (fun K hK => ?_) (fun K hK => ?_)
   ·go_simp; go_at_call 49; refine (Neg_c p (-x) _ (HP.out.keep (hE.out.drew.ik))).mono ?_; rw [Int.neg_neg]; rintro e w5 ⟨r, rfl, hr, hx5⟩; clear f0 f1 f2 f3; go_wp2_with fail; refine hK.out _ _ ?_ (fun hHeld => ?_); rotate_left; clear hK K; rotate_right; (focus exact Ext.trans (by assumption) hx5); (try simp only [Act.put, List.setIfInBounds_toArray, List.set_cons_zero, List.set_cons_succ])
    have f0 := (B0.drew.ext hx5 (by simp)) 0 (by simp); have f1 := (B0.drew.ext hx5 (by simp)) 1 (by simp); have f2 := (B1.drew.ext hx5 (by simp)) 0 (by simp); have f3 := (B1.drew.ext hx5 (by simp)) 1 (by simp); simp only [List.getElem?_toArray, List.getElem?_cons_zero, List.getElem?_cons_succ] at f0 f1 f2 f3
    refine consL (i := 2) (by kernel_rfl) rfl (fun K hK => ?_); go_simp; refine hK.out _ _ ?_ (fun hHeld => ?_); rotate_left; clear hK K; rotate_right; (focus assumption); (try simp only [Act.put, List.setIfInBounds_toArray, List.set_cons_zero, List.set_cons_succ])
    refine consL (i := 3) (by kernel_rfl) rfl (fun K hK => ?_); go_simp; go_at_call 49; refine (Neg_c q (-y) _ ((HQ.out.keep (hE.out.drew.ik)).keep hx5.ik)).mono ?_; rw [Int.neg_neg]; rintro e w6 ⟨s, rfl, hs, hx6⟩; clear f0 f1 f2 f3; go_wp2_with fail; refine hK.out _ _ ?_ (fun hHeld => ?_); rotate_left; clear hK K; rotate_right; (focus exact Ext.trans (by assumption) hx6); (try simp only [Act.put, List.setIfInBounds_toArray, List.set_cons_zero, List.set_cons_succ]); have hx56 := (Ext.refl w3).drew.trans (hx5.trans hx6); have f0 := (B0.ext hx56 (by simp)) 0 (by simp); have f1 := (B0.ext hx56 (by simp)) 1 (by simp); have f2 := (B1.ext hx56 (by simp)) 0 (by simp); have f3 := (B1.ext hx56 (by simp)) 1 (by simp); simp only [List.getElem?_toArray, List.getElem?_cons_zero, List.getElem?_cons_succ] at f0 f1 f2 f3; have o0 := Own.ext hx56 HW.out.1 (by omega); have o1 := Own.ext hx56 HW.out.2.1 (by omega); have o2 := Own.ext hx56 HW.out.2.2 (by omega); have HT := Lib.hid (turned_mk (hE.out.trans hx56) (show w.heap.size ≤ B by omega) o0 o1 o2 (hr.keep hx6.ik) hs); have of0 := o0.2.1; have of1 := o1.2.1; have HEE := Lib.hid (hE.out.trans hx56); clear o0 o1 o2 hr hs hx5 hx6 hx56; refine consL (i := 4) (by kernel_rfl) rfl (fun K hK => ?_); go_simp; refine hK.out _ _ ?_ (fun hHeld => ?_); rotate_left; clear hK K; rotate_right; (focus exact ext_put2 HEE.out (by omega) _ _ _ _); (try simp only [Act.put, List.setIfInBounds_toArray, List.set_cons_zero, List.set_cons_succ]); refine consL (i := 5) (by kernel_rfl) rfl (fun K hK => ?_); go_simp; refine hK.out _ _ ?_ (fun hHeld => ?_); rotate_left; clear hK K; rotate_right; (focus exact ext_put2 (ext_put2 HEE.out (by omega) _ _ _ _) (by omega) _ _ _ _); (try simp only [Act.put, List.setIfInBounds_toArray, List.set_cons_zero, List.set_cons_succ]); refine doneL (by kernel_rfl) ?_; go_wp2_with fail; go_meet; exact ⟨rfl, HT.out⟩
   ·go_simp; refine hK.out _ _ ?_ (fun hHeld => ?_); rotate_left; clear hK K; rotate_right; (focus assumption); (try simp only [Act.put, List.setIfInBounds_toArray, List.set_cons_zero, List.set_cons_succ])
    refine consL (i := 1) (by kernel_rfl) rfl (fun K hK => ?_); go_simp; go_at_call 49; refine (Neg_c p (-x) _ (HP.out.keep (hE.out.drew.ik))).mono ?_; rw [Int.neg_neg]; rintro e w5 ⟨r, rfl, hr, hx5⟩; clear f0 f1 f2 f3; go_wp2_with fail; refine hK.out _ _ ?_ (fun hHeld => ?_); rotate_left; clear hK K; rotate_right; (focus exact Ext.trans (by assumption) hx5); (try simp only [Act.put, List.setIfInBounds_toArray, List.set_cons_zero, List.set_cons_succ])
    have f0 := (B0.drew.ext hx5 (by simp)) 0 (by simp); have f1 := (B0.drew.ext hx5 (by simp)) 1 (by simp); have f2 := (B1.drew.ext hx5 (by simp)) 0 (by simp); have f3 := (B1.drew.ext hx5 (by simp)) 1 (by simp); simp only [List.getElem?_toArray, List.getElem?_cons_zero, List.getElem?_cons_succ] at f0 f1 f2 f3
    refine consL (i := 3) (by kernel_rfl) rfl (fun K hK => ?_); go_simp; go_at_call 49; refine (Neg_c q (-y) _ ((HQ.out.keep (hE.out.drew.ik)).keep hx5.ik)).mono ?_; rw [Int.neg_neg]; rintro e w6 ⟨s, rfl, hs, hx6⟩; clear f0 f1 f2 f3; go_wp2_with fail; refine hK.out _ _ ?_ (fun hHeld => ?_); rotate_left; clear hK K; rotate_right; (focus exact Ext.trans (by assumption) hx6); (try simp only [Act.put, List.setIfInBounds_toArray, List.set_cons_zero, List.set_cons_succ]); have hx56 := (Ext.refl w3).drew.trans (hx5.trans hx6); have f0 := (B0.ext hx56 (by simp)) 0 (by simp); have f1 := (B0.ext hx56 (by simp)) 1 (by simp); have f2 := (B1.ext hx56 (by simp)) 0 (by simp); have f3 := (B1.ext hx56 (by simp)) 1 (by simp); simp only [List.getElem?_toArray, List.getElem?_cons_zero, List.getElem?_cons_succ] at f0 f1 f2 f3; have o0 := Own.ext hx56 HW.out.1 (by omega); have o1 := Own.ext hx56 HW.out.2.1 (by omega); have o2 := Own.ext hx56 HW.out.2.2 (by omega); have HT := Lib.hid (turned_mk (hE.out.trans hx56) (show w.heap.size ≤ B by omega) o0 o1 o2 (hr.keep hx6.ik) hs); have of0 := o0.2.1; have of1 := o1.2.1; have HEE := Lib.hid (hE.out.trans hx56); clear o0 o1 o2 hr hs hx5 hx6 hx56; refine consL (i := 4) (by kernel_rfl) rfl (fun K hK => ?_); go_simp; refine hK.out _ _ ?_ (fun hHeld => ?_); rotate_left; clear hK K; rotate_right; (focus exact ext_put2 HEE.out (by omega) _ _ _ _); (try simp only [Act.put, List.setIfInBounds_toArray, List.set_cons_zero, List.set_cons_succ]); refine consL (i := 5) (by kernel_rfl) rfl (fun K hK => ?_); go_simp; refine hK.out _ _ ?_ (fun hHeld => ?_); rotate_left; clear hK K; rotate_right; (focus exact ext_put2 (ext_put2 HEE.out (by omega) _ _ _ _) (by omega) _ _ _ _); (try simp only [Act.put, List.setIfInBounds_toArray, List.set_cons_zero, List.set_cons_succ]); refine doneL (by kernel_rfl) ?_; go_wp2_with fail; go_meet; exact ⟨rfl, HT.out⟩
  ·go_simp; refine hK.out _ _ ?_ (fun hHeld => ?_); rotate_left; clear hK K; rotate_right; (focus assumption); (try simp only [Act.put, List.setIfInBounds_toArray, List.set_cons_zero, List.set_cons_succ])
   refine consL (i := 0) (by kernel_rfl) rfl (fun K hK => ?_); go_simp; refine hK.out _ _ ?_ (fun hHeld => ?_); rotate_left; clear hK K; rotate_right; (focus assumption); (try simp only [Act.put, List.setIfInBounds_toArray, List.set_cons_zero, List.set_cons_succ])
   refine consL (i := 1) (by kernel_rfl) rfl (fun K hK => ?_); go_simp; go_at_call 49; refine (Neg_c p (-x) _ (HP.out.keep (hE.out.drew.ik))).mono ?_; rw [Int.neg_neg]; rintro e w5 ⟨r, rfl, hr, hx5⟩; clear f0 f1 f2 f3; go_wp2_with fail; refine hK.out _ _ ?_ (fun hHeld => ?_); rotate_left; clear hK K; rotate_right; (focus exact Ext.trans (by assumption) hx5); (try simp only [Act.put, List.setIfInBounds_toArray, List.set_cons_zero, List.set_cons_succ])
   have f0 := (B0.drew.ext hx5 (by simp)) 0 (by simp); have f1 := (B0.drew.ext hx5 (by simp)) 1 (by simp); have f2 := (B1.drew.ext hx5 (by simp)) 0 (by simp); have f3 := (B1.drew.ext hx5 (by simp)) 1 (by simp); simp only [List.getElem?_toArray, List.getElem?_cons_zero, List.getElem?_cons_succ] at f0 f1 f2 f3
   refine consL (i := 3) (by kernel_rfl) rfl (fun K hK => ?_); go_simp; go_at_call 49; refine (Neg_c q (-y) _ ((HQ.out.keep (hE.out.drew.ik)).keep hx5.ik)).mono ?_; rw [Int.neg_neg]; rintro e w6 ⟨s, rfl, hs, hx6⟩; clear f0 f1 f2 f3; go_wp2_with fail; refine hK.out _ _ ?_ (fun hHeld => ?_); rotate_left; clear hK K; rotate_right; (focus exact Ext.trans (by assumption) hx6); (try simp only [Act.put, List.setIfInBounds_toArray, List.set_cons_zero, List.set_cons_succ]); have hx56 := (Ext.refl w3).drew.trans (hx5.trans hx6); have f0 := (B0.ext hx56 (by simp)) 0 (by simp); have f1 := (B0.ext hx56 (by simp)) 1 (by simp); have f2 := (B1.ext hx56 (by simp)) 0 (by simp); have f3 := (B1.ext hx56 (by simp)) 1 (by simp); simp only [List.getElem?_toArray, List.getElem?_cons_zero, List.getElem?_cons_succ] at f0 f1 f2 f3; have o0 := Own.ext hx56 HW.out.1 (by omega); have o1 := Own.ext hx56 HW.out.2.1 (by omega); have o2 := Own.ext hx56 HW.out.2.2 (by omega); have HT := Lib.hid (turned_mk (hE.out.trans hx56) (show w.heap.size ≤ B by omega) o0 o1 o2 (hr.keep hx6.ik) hs); have of0 := o0.2.1; have of1 := o1.2.1; have HEE := Lib.hid (hE.out.trans hx56); clear o0 o1 o2 hr hs hx5 hx6 hx56; refine consL (i := 4) (by kernel_rfl) rfl (fun K hK => ?_); go_simp; refine hK.out _ _ ?_ (fun hHeld => ?_); rotate_left; clear hK K; rotate_right; (focus exact ext_put2 HEE.out (by omega) _ _ _ _); (try simp only [Act.put, List.setIfInBounds_toArray, List.set_cons_zero, List.set_cons_succ]); refine consL (i := 5) (by kernel_rfl) rfl (fun K hK => ?_); go_simp; refine hK.out _ _ ?_ (fun hHeld => ?_); rotate_left; clear hK K; rotate_right; (focus exact ext_put2 (ext_put2 HEE.out (by omega) _ _ _ _) (by omega) _ _ _ _); (try simp only [Act.put, List.setIfInBounds_toArray, List.set_cons_zero, List.set_cons_succ]); refine doneL (by kernel_rfl) ?_; go_wp2_with fail; go_meet; exact ⟨rfl, HT.out⟩
 case rest =>
  obtain ⟨rfl, p', q', E0, A0, A1, hp', hq', O2⟩ := hcut
  have HP2 := Lib.hid (And.intro hp' hq')
  have HF2 := Lib.hid (And.intro E0 (And.intro A0 (And.intro A1 O2)))
  have f0 := A0 0 (by simp); have f1 := A0 1 (by simp); have f2 := A1 0 (by simp); have f3 := A1 1 (by simp); simp only [List.getElem?_toArray, List.getElem?_cons_zero, List.getElem?_cons_succ] at f0 f1 f2 f3
  clear hp' hq' E0 A0 A1 O2 d00 d01 d10 d11
  go_wp2_with fail
  refine (Gcd_c p' q' x y _ HP2.out.1 HP2.out.2).mono ?_
  rw [HGG.out]
  rintro e w4 ⟨g, rfl, hg, hx⟩
  clear f0 f1 f2 f3
  have l4 := (Own.ext hx HF2.out.2.2.2 (by omega)).lt (by omega)
  go_upto_region 6 with (fail)
  obtain ⟨G, hG⟩ : ∃ G, w4.heap.size = G := ⟨_, rfl⟩
  refine wp_gen (fun W => (Ext w W ∧ At W B #[.bool p'.neg, .slice p'.a p'.n p'.c] ∧ At W (B + 1) #[.bool q'.neg, .slice q'.a q'.n q'.c] ∧ At W G #[.bool g.neg, .slice g.a g.n g.c] ∧ Own W (B + 1 + 1) 4) ∧ IsI W g gg ∧ IsI W p' x ∧ IsI W q' y) ⟨⟨(HF2.out.1.trans hx).alloc _, At.alloc (At.ext hx HF2.out.2.1 (by simp)) (by simp), At.alloc (At.ext hx HF2.out.2.2.1 (by simp)) (by simp), (Blk.at _ 56 hG.symm).at', Own.ext (hx.alloc _) HF2.out.2.2.2 (by omega)⟩, hg.keep ((Ext.refl w4).alloc _).ik, HP2.out.1.keep (hx.alloc _).ik, HP2.out.2.keep (hx.alloc _).ik⟩ ?_
  clear hx hg
  rintro V ⟨⟨E0, A0, A1, A2, O2⟩, hg, hp', hq'⟩
  have HGI := Lib.hid (And.intro hg (And.intro hp' hq'))
  clear hg hp' hq'
  try rw [hG]
  refine wp_region_held_drew (S := fun w' => Ext w w' ∧ At w' B #[.bool p'.neg, .slice p'.a p'.n p'.c] ∧ At w' (B + 1) #[.bool q'.neg, .slice q'.a q'.n q'.c] ∧ At w' G #[.bool g.neg, .slice g.a g.n g.c] ∧ Own w' (B + 1 + 1) 4) (by kernel_rfl) ?_ (fun hHeld => ?_)
  ·exact ⟨E0.drew, A0, A1, A2, O2⟩
  have EV : Ext V V.drew := (Ext.refl V).drew
  refine takeL (i := 0) (v := ?_) rfl (by kernel_rfl) (by kernel_rfl) (by kernel_rfl) (fun _ _ _ h => h) (Or.inl ⟨by rfl, ?_⟩) (by assumption) ?_; rotate_left; (focus (intro wq hSw; (try dsimp only at hSw); go_simp; try with_reducible rfl)); (try simp only [Act.put, List.setIfInBounds_toArray, List.set_cons_zero, List.set_cons_succ])
  refine takeL (i := 1) (v := ?_) rfl (by kernel_rfl) (by kernel_rfl) (by kernel_rfl) (fun _ _ _ h => h) (Or.inl ⟨by rfl, ?_⟩) (by assumption) ?_; rotate_left; (focus (intro wq hSw; (try dsimp only at hSw); go_simp; try with_reducible rfl)); (try simp only [Act.put, List.setIfInBounds_toArray, List.set_cons_zero, List.set_cons_succ])
  refine takeL (i := 3) (v := ?_) rfl (by kernel_rfl) (by kernel_rfl) (by kernel_rfl) (fun _ _ _ h => h) (Or.inl ⟨by rfl, ?_⟩) (by assumption) ?_; rotate_left; (focus (intro wq hSw; (try dsimp only at hSw); go_simp; try with_reducible rfl)); (try simp only [Act.put, List.setIfInBounds_toArray, List.set_cons_zero, List.set_cons_succ])
  refine takeL (i := 4) (v := ?_) rfl (by kernel_rfl) (by kernel_rfl) (by kernel_rfl) (fun _ _ _ h => h) (Or.inl ⟨by rfl, ?_⟩) (by assumption) ?_; rotate_left; (focus (intro wq hSw; (try dsimp only at hSw); go_simp; try with_reducible rfl)); (try simp only [Act.put, List.setIfInBounds_toArray, List.set_cons_zero, List.set_cons_succ])
  refine consL (i := 2) (by kernel_rfl) rfl (fun K hK => ?_); go_simp; go_at_call 52; refine (over_c p' g x gg _ (HGI.out.2.1.keep EV.ik) (HGI.out.1.keep EV.ik) (by omega)).mono ?_; rintro e w5 ⟨r, rfl, hr, hx5⟩; go_wp2_with fail; refine hK.out _ _ ?_ (fun hHeld => ?_); rotate_left; clear hK K; rotate_right; (focus ((try dsimp only); exact kept)); (try simp only [Act.put, List.setIfInBounds_toArray, List.set_cons_zero, List.set_cons_succ])
  refine consL (i := 5) (by kernel_rfl) rfl (fun K hK => ?_); go_simp; go_at_call 52; refine (over_c q' g y gg _ (HGI.out.2.2.keep (EV.trans hx5).ik) (HGI.out.1.keep (EV.trans hx5).ik) (by omega)).mono ?_; rintro e w6 ⟨s, rfl, hs, hx6⟩; go_wp2_with fail; refine hK.out _ _ ?_ (fun hHeld => ?_); rotate_left; clear hK K; rotate_right; (focus ((try dsimp only); exact kept)); (try simp only [Act.put, List.setIfInBounds_toArray, List.set_cons_zero, List.set_cons_succ])
  refine consL (i := 6) (by kernel_rfl) rfl (fun K hK => ?_); go_simp; go_at_call 51; refine (lowest_c r s (x / gg) (y / gg) _ (hr.keep hx6.ik) hs HLOW.out.pos).mono ?_; rintro e w7 ⟨f, rfl, hf1, hf2, hx7⟩; go_wp2_with fail; refine hK.out _ _ ?_ (fun hHeld => ?_); rotate_left; clear hK K; rotate_right; (focus ((try dsimp only); exact kept)); (try simp only [Act.put, List.setIfInBounds_toArray, List.set_cons_zero, List.set_cons_succ])
  have O4 := hHeld.2.2.2.2
  have E4 := hHeld.1
  refine takeL (i := 7) (v := ?_) rfl (by kernel_rfl) (by kernel_rfl) (by kernel_rfl) (fun _ _ _ h => h) (Or.inl ⟨by rfl, ?_⟩) (by assumption) ?_; rotate_left; (focus (intro wq hSw; (try dsimp only at hSw); go_simp; try with_reducible rfl)); (try simp only [Act.put, List.setIfInBounds_toArray, List.set_cons_zero, List.set_cons_succ])
  refine takeL (i := 8) (v := ?_) rfl (by kernel_rfl) (by kernel_rfl) (by kernel_rfl) (fun _ _ _ h => h) (Or.inl ⟨by rfl, ?_⟩) (by assumption) ?_; rotate_left; (focus (intro wq hSw; (try dsimp only at hSw); go_simp; try with_reducible rfl)); (try simp only [Act.put, List.setIfInBounds_toArray, List.set_cons_zero, List.set_cons_succ])
  refine consL (i := 9) (by kernel_rfl) rfl (fun K hK => ?_); go_simp; refine hK.out _ _ ?_ (fun hHeld => ?_); rotate_left; clear hK K; rotate_right; (focus ((try dsimp only); exact kept)); (try simp only [Act.put, List.setIfInBounds_toArray, List.set_cons_zero, List.set_cons_succ])
  refine consL (i := 10) (by kernel_rfl) rfl (fun K hK => ?_); go_simp; refine hK.out _ _ ?_ (fun hHeld => ?_); rotate_left; clear hK K; rotate_right; (focus ((try dsimp only); exact kept)); (try simp only [Act.put, List.setIfInBounds_toArray, List.set_cons_zero, List.set_cons_succ])
  refine doneL (by kernel_rfl) ?_
  have hp := putF_cells O4 f
  obtain ⟨p0, p1, p2, p3⟩ := hp
  go_wp2_with fail
  refine bodyPost_ret (v := .tuple #[f.v, .int .i64 0]) (by simp [results, Try.results29, go_sem, p0, p1, p2, p3]) rfl ?_
  exact ⟨f, rfl, ⟨hf1.keep (IK.putF O4 f), hf2.keep (IK.putF O4 f), HLOW.out.pos, HBIG.out, HLOW.out.low⟩, ext_putF E4 (by omega) f⟩
end Go.Proofs.Ytkoidookanmknaa
