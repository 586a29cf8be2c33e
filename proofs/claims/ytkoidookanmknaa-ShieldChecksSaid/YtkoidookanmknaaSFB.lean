/- frac: Make, Of and what they call. -/
import Derived.Test.YtkoidookanmknaaSWG
import Derived.Test.YtkoidookanmknaaSWB
/- frac: over, must. -/
namespace Go.Proofs.Ytkoidookanmknaa
set_option linter.unusedSimpArgs false
set_option linter.unusedVariables false
open Go.RowKit

theorem ext_put2 {a w : World} {b : Nat} (h : Ext a w) (hb : a.heap.size ≤ b) (g : Bool) (s : Option Addr) (n c : Nat) : Ext a ((w.setCell ⟨b, 0, none⟩ (.bool g)).setCell ⟨b, 1, none⟩ (.slice s n c)) :=
 (h.setCell hb _).setCell hb _
set_option maxRecDepth 100000 in
set_option maxHeartbeats 1000000 in
theorem over_c (p q : IV) (x y : Int) (w : World) (hp : IsI w p x) (hq : IsI w q y) (hy0 : y ≠ 0) : Calls Try.prog 52 #[p.v, q.v] w (RetI (x / y) w) := by
 have HP := Lib.hid hp; have HQ := Lib.hid hq; clear hp hq
 go_enter Try.func52, Try.ntmps52
 go_wp2_with fail
 refine (Div_c p q x y _ (HP.out.keep (by repeat (first | exact IK.refl _ | refine IK.alloc ?_ _ | refine IK.drew ?_ | refine IK.setCell ?_ (by simp [hc, go_sem]) _))) (HQ.out.keep (by repeat (first | exact IK.refl _ | refine IK.alloc ?_ _ | refine IK.drew ?_ | refine IK.setCell ?_ (by simp [hc, go_sem]) _))) hy0).mono ?_
 rintro e w5 ⟨r, s, rfl, hr, hs, hx5⟩
 have hE5 : Ext w w5 := Ext.trans (by repeat (first | exact Ext.refl _ | assumption | refine Ext.setCell ?_ (by first | (simp; done) | (simp; omega) | omega) _ | refine Ext.alloc ?_ _ | refine Ext.drew ?_ | refine Ext.trans ?_ (by assumption))) hx5
 have O2 : Own w5 (w.heap.size + 1 + 1) 2 := Own.ext hx5 ((Blk.at #[.bool false, .slice none 0 0] 56 (by simp)).own _ (by simp) noIntW) (by omega)
 obtain ⟨B, hB⟩ : ∃ B, w.heap.size = B := ⟨_, rfl⟩
 rw [hB] at O2
 have l2 := O2.lt (by omega)
 go_upto_region 2 with (fail)
 refine wp_gen (fun V => Ext w V ∧ At V w5.heap.size #[.bool r.neg, .slice r.a r.n r.c] ∧ Own V (B + 1 + 1) 2 ∧ IsI V r (x / y))
  ⟨(hE5.alloc _).alloc _, (At.alloc (Blk.at _ _ rfl).at' (by simp)), Own.ext (((Ext.refl w5).alloc _).alloc _) O2 (by omega), hr.keep (((Ext.refl w5).alloc _).alloc _).ik⟩ ?_
 clear hr hs hx5 hE5 O2
 rintro V ⟨E0, A5, O2, hr⟩
 have HR := Lib.hid hr; clear hr
 have c50 := A5 0 (by simp)
 have c51 := A5 1 (by simp)
 simp at c50 c51
 have hp := put2_cells O2 (.bool r.neg) (.slice r.a r.n r.c)
 obtain ⟨p0, p1⟩ := hp
 clear A5
 go_wp2_with fail
 refine bodyPost_ret (v := r.v) (by simp [results, Try.results52, go_sem, p0, p1]) rfl ?_
 exact ⟨r, rfl, HR.out.keep (IK.put2 O2 _ _ _ _), ext_put2 E0 (by omega) _ _ _ _⟩
set_option maxHeartbeats 1000000 in
theorem must_c (p : IV) (x er : Int) (w : World) (hp : IsI w p x) : Calls Try.prog 72 #[p.v, .int .i64 er] w (RetI x w) := by
 have HP := Lib.hid hp; clear hp
 go_enter Try.func72, Try.ntmps72
 go_wp2_with fail
 refine bodyPost_ret (v := p.v) (by simp [results, Try.results72, go_sem]) rfl ?_
 exact ⟨p, rfl, HP.out.keep (by repeat (first | exact IK.refl _ | refine IK.alloc ?_ _ | refine IK.drew ?_ | refine IK.setCell ?_ (by simp [hc, go_sem]) _)), (by repeat (first | exact Ext.refl _ | assumption | refine Ext.setCell ?_ (by first | (simp; done) | (simp; omega) | omega) _ | refine Ext.alloc ?_ _ | refine Ext.drew ?_ | refine Ext.trans ?_ (by assumption)))⟩
end Go.Proofs.Ytkoidookanmknaa
/- frac: times of two numbers. -/
namespace Go.Proofs.Ytkoidookanmknaa
set_option linter.unusedSimpArgs false
set_option linter.unusedVariables false
open Go.RowKit

def prodF (x y : Int) : Nat → Int
 | 0 => 1
 | 1 => x
 | _ => x * y
theorem prodF0 (x y : Int) : prodF x y 0 = 1 := rfl
theorem prodF1 (x y : Int) : prodF x y 1 = x := rfl
theorem prodF2 (x y : Int) : prodF x y 2 = x * y := rfl
theorem lim_big {x : Int} (h : Big x) : lim x = (x, 0) := by unfold lim; exact if_pos h
theorem lim_cases (x : Int) : lim x = (x, 0) ∨ lim x = (0, 4) := by unfold lim; split; exact .inl rfl; exact .inr rfl
set_option maxRecDepth 100000 in
set_option maxHeartbeats 1000000 in
theorem ftimes_c (p q : IV) (x y : Int) (ab c : Nat) (w : World) (hA : At w ab #[.bool p.neg, .slice p.a p.n p.c, .bool q.neg, .slice q.a q.n q.c]) (hp : IsI w p x) (hq : IsI w q y) :
  Calls Try.prog 57 #[.slice (some ⟨ab, 0, none⟩) 2 c] w (RetIE (lim (x * y)).1 (lim (x * y)).2 w) := by
 have HP := Lib.hid hp; have HQ := Lib.hid hq; have HA := Lib.hid hA
 have hbx := hp.big
 have hlx : lim (1 * x) = (x, 0) := by rw [Int.one_mul]; exact lim_big hbx
 have HLX := Lib.hid hlx
 have la := hA.lt (by simp)
 clear hp hq hA hbx hlx
 go_enter Try.func57, Try.ntmps57
 go_wp2_with fail
 refine (From_c 1 _ (by omega) (by omega)).mono ?_
 rintro e w2 ⟨r, rfl, hr, hx⟩
 have hx2 : Ext w w2 := ((Ext.refl w).alloc _).trans hx
 have O0 : Own w2 w.heap.size 2 := Own.ext hx ((Blk.at #[.bool false, .slice none 0 0] 56 rfl).own _ (by simp) noIntW) (by omega)
 have l0 := O0.lt (by omega)
 go_upto_region 3 with (fail)
 obtain ⟨B, hB⟩ : ∃ B, w2.heap.size = B := ⟨_, rfl⟩
 have hO1 : Own (w2.alloc (.cells #[.bool r.neg, .slice r.a r.n r.c] 56)) B 2 := (Blk.at #[.bool r.neg, .slice r.a r.n r.c] 56 hB.symm).own _ (by simp) (noInt2 _ _ (by simp) (by simp))
 have hA1 : At (w2.alloc (.cells #[.bool r.neg, .slice r.a r.n r.c] 56)) B #[.bool r.neg, .slice r.a r.n r.c] := (Blk.at _ 56 hB.symm).at'
 have HST := Lib.hid (show Ext w (w2.alloc (.cells #[.bool r.neg, .slice r.a r.n r.c] 56)) ∧ Own (w2.alloc (.cells #[.bool r.neg, .slice r.a r.n r.c] 56)) w.heap.size 2 ∧ Own (w2.alloc (.cells #[.bool r.neg, .slice r.a r.n r.c] 56)) B 2 ∧
  At (w2.alloc (.cells #[.bool r.neg, .slice r.a r.n r.c] 56)) B #[.bool r.neg, .slice r.a r.n r.c] ∧ IsI (w2.alloc (.cells #[.bool r.neg, .slice r.a r.n r.c] 56)) r 1 from
  ⟨hx2.alloc _, Own.ext ((Ext.refl w2).alloc _) O0 (by omega), hO1, hA1, hr.keep ((Ext.refl w2).alloc _).ik⟩)
 have hBw : w.heap.size < B := by omega
 clear hx hx2 O0 hO1 hA1 hr
 try rw [hB]
 go_loopw [12] (fun v ws => ∃ (i : Nat) (r : IV), i ≤ 2 ∧ v = .int .i64 (i : Int) ∧ Ext w ws ∧ Own ws w.heap.size 2 ∧ Own ws B 2 ∧ At ws B #[.bool r.neg, .slice r.a r.n r.c] ∧ IsI ws r (prodF x y i)) (fun v _ => 2 - (intOf v).toNat)
 case atStart => exact ⟨0, r, by omega, rfl, HST.out⟩
 case round =>
  obtain ⟨i, r0, hi, rfl, hE, O0, O1, A1, hr⟩ := hrel
  have HR := Lib.hid hr; have HE := Lib.hid hE
  have cA := At.ext hE HA.out (by simp)
  have d0 := cA 0 (by simp)
  have d1 := cA 1 (by simp)
  have d2 := cA 2 (by simp)
  have d3 := cA 3 (by simp)
  have c10 := A1 0 (by simp)
  have c11 := A1 1 (by simp)
  simp at d0 d1 d2 d3 c10 c11
  have lB := O1.lt (by omega)
  have HO0 := Lib.hid O0; have HO1 := Lib.hid O1
  clear cA A1 hr hE O0 O1
  by_cases h0 : i = 0
  ·subst h0
   rw [prodF0] at HR
   rw [show ((0 : Nat) : Int) = 0 from rfl]
   go_wp2_with fail
   refine (Mul_c r0 p 1 x _ (HR.out.keep ((Ext.refl wr).alloc _).ik) (HP.out.keep (HE.out.alloc _).ik)).mono ?_
   rw [HLX.out]
   rintro e w5 ⟨s, rfl, hs, hx5⟩
   have e5 : Ext wr w5 := ((Ext.refl wr).alloc _).trans hx5
   go_upto_region 8 with (fail); refine wp_gen (fun V => Ext w V ∧ Own V w.heap.size 2 ∧ Own V B 2 ∧ At V w5.heap.size #[.bool s.neg, .slice s.a s.n s.c] ∧ IsI V s x) ⟨(HE.out.trans e5).alloc _, Own.ext (e5.alloc _) HO0.out (by omega), Own.ext (e5.alloc _) HO1.out (by omega), (Blk.at _ _ rfl).at', hs.keep ((Ext.refl w5).alloc _).ik⟩ ?_; clear hs hx5 e5 HO0 HO1 c10 c11 d0 d1 d2 d3; rintro V ⟨E0, O0, O1, A5, hs⟩; have HS := Lib.hid hs; have c50 := A5 0 (by simp); have c51 := A5 1 (by simp); simp at c50 c51; clear A5 hs; go_wp2_with fail; go_roundw; (case rel => exact ⟨1, s, by omega, by go_num, ext_put2 E0 (by omega) _ _ _ _, own_put2 O0 _ _ _ _, own_put2 O1 _ _ _ _, At.mk2 (put2_cells O1 _ _).1 (put2_cells O1 _ _).2, HS.out.keep (IK.put2 O1 _ _ _ _)⟩); (case measure => simp [intOf])
  ·by_cases h1 : i = 1
   ·subst h1
    rw [prodF1] at HR
    rw [show ((1 : Nat) : Int) = 1 from rfl]
    go_wp2_with fail
    refine (Mul_c r0 q x y _ (HR.out.keep ((Ext.refl wr).alloc _).ik) (HQ.out.keep (HE.out.alloc _).ik)).mono ?_
    rcases lim_cases (x * y) with hl | hl
    ·have HLI := Lib.hid hl
     rw [hl]
     clear hl
     rintro e w5 ⟨s, rfl, hs, hx5⟩
     have e5 : Ext wr w5 := ((Ext.refl wr).alloc _).trans hx5
     go_upto_region 8 with (fail); refine wp_gen (fun V => Ext w V ∧ Own V w.heap.size 2 ∧ Own V B 2 ∧ At V w5.heap.size #[.bool s.neg, .slice s.a s.n s.c] ∧ IsI V s (x * y)) ⟨(HE.out.trans e5).alloc _, Own.ext (e5.alloc _) HO0.out (by omega), Own.ext (e5.alloc _) HO1.out (by omega), (Blk.at _ _ rfl).at', hs.keep ((Ext.refl w5).alloc _).ik⟩ ?_; clear hs hx5 e5 HO0 HO1 c10 c11 d0 d1 d2 d3; rintro V ⟨E0, O0, O1, A5, hs⟩; have HS := Lib.hid hs; have c50 := A5 0 (by simp); have c51 := A5 1 (by simp); simp at c50 c51; clear A5 hs; go_wp2_with fail; go_roundw; (case rel => exact ⟨2, s, by omega, by go_num, ext_put2 E0 (by omega) _ _ _ _, own_put2 O0 _ _ _ _, own_put2 O1 _ _ _ _, At.mk2 (put2_cells O1 _ _).1 (put2_cells O1 _ _).2, HS.out.keep (IK.put2 O1 _ _ _ _)⟩); (case measure => simp [intOf])
    ·have HLI := Lib.hid hl
     rw [hl]
     clear hl
     rintro e w5 ⟨s, rfl, hs, hx5⟩
     have e5 : Ext wr w5 := ((Ext.refl wr).alloc _).trans hx5
     go_upto_region 7 with (fail)
     refine wp_gen (fun V => Ext w V ∧ Own V w.heap.size 2) ⟨(HE.out.trans e5).alloc _, Own.ext (e5.alloc _) HO0.out (by omega)⟩ ?_
     clear hs hx5 e5 HO0 HO1
     rintro V ⟨E0, O0⟩
     have hp := put2_cells O0 (.bool false) (.slice none 0 0)
     obtain ⟨p0, p1⟩ := hp
     go_wp2_with fail
     refine bodyPost_ret (v := .tuple #[.agg #[.bool false, .slice none 0 0], .int .i64 4]) (by simp [results, Try.results57, go_sem, p0, p1]) rfl ?_
     rw [HLI.out]
     exact ⟨⟨false, none, 0, 0⟩, rfl, isI_zero _, ext_put2 E0 (by omega) _ _ _ _⟩
   ·obtain rfl : i = 2 := by omega
    rw [prodF2] at HR
    rw [show ((2 : Nat) : Int) = 2 from rfl]
    have O0 := HO0.out
    have hp := put2_cells O0 (.bool r0.neg) (.slice r0.a r0.n r0.c)
    obtain ⟨p0, p1⟩ := hp
    have hl := lim_big HR.out.big
    have HLI := Lib.hid hl
    clear hl
    go_wp2_with fail
    refine bodyPost_ret (v := .tuple #[r0.v, .int .i64 0]) (by simp [results, Try.results57, go_sem, p0, p1]) rfl ?_
    rw [HLI.out]
    exact ⟨r0, rfl, HR.out.keep (IK.put2 O0 _ _ _ _), ext_put2 HE.out (by omega) _ _ _ _⟩
end Go.Proofs.Ytkoidookanmknaa
/- frac: fractions, Den, lowest. -/
namespace Go.Proofs.Ytkoidookanmknaa
set_option linter.unusedSimpArgs false
set_option linter.unusedVariables false
open Go.RowKit

structure FV where
 n : IV
 d : IV
abbrev FV.v (f : FV) : Value := .agg #[.bool f.n.neg, .slice f.n.a f.n.n f.n.c, .bool f.d.neg, .slice f.d.a f.d.n f.d.c]
/-- The cells of a fraction. -/
abbrev FV.cs (f : FV) : Array Value := #[.bool f.n.neg, .slice f.n.a f.n.n f.n.c, .bool f.d.neg, .slice f.d.a f.d.n f.d.c]
/-- f stands for p / q, in lowest terms. -/
structure IsF (w : World) (f : FV) (p q : Int) : Prop where
 num : IsI w f.n p
 den : IsI w f.d (q - 1)
 pos : 1 ≤ q
 big : Big q
 low : Nat.gcd p.natAbs q.natAbs = 1
theorem IsF.keep {w w' : World} {f : FV} {p q : Int} (h : IsF w f p q) (k : IK w w') : IsF w' f p q := ⟨h.num.keep k, h.den.keep k, h.pos, h.big, h.low⟩
theorem noInt4 (x y z u : Value) (hx : ∀ k m, x ≠ .int k m) (hy : ∀ k m, y ≠ .int k m) (hz : ∀ k m, z ≠ .int k m) (hu : ∀ k m, u ≠ .int k m) : ∀ (o : Nat) k m, (#[x, y, z, u] : Array Value)[o]? ≠ some (Value.int k m) := by
 intro o k m h
 match o with
 | 0 => exact hx k m (by simpa using h)
 | 1 => exact hy k m (by simpa using h)
 | 2 => exact hz k m (by simpa using h)
 | 3 => exact hu k m (by simpa using h)
 | o + 4 => simp at h
theorem noIntF (g h : Bool) (a b : Option Addr) (n c m d : Nat) : ∀ (o : Nat) k z, (#[Value.bool g, Value.slice a n c, Value.bool h, Value.slice b m d] : Array Value)[o]? ≠ some (Value.int k z) := noInt4 _ _ _ _ (by simp) (by simp) (by simp) (by simp)
theorem big_one : Big 1 := by unfold Big; exact WTop_ge (l := [1]) (Fit.nil.cons (by rw [B32_eq]; omega)) (by simp) |> fun h => by simpa [mval] using h
set_option maxRecDepth 100000 in
set_option maxHeartbeats 2000000 in
theorem Den_c (f : FV) (p q : Int) (w : World) (h : IsF w f p q) : Calls Try.prog 56 #[f.v] w (RetI q w) := by
 have H := Lib.hid h
 have hl : lim (q - 1 + 1) = (q, 0) := by rw [Int.sub_add_cancel]; exact lim_big h.big
 have HL := Lib.hid hl
 clear h hl
 go_enter Try.func56, Try.ntmps56
 go_wp2_with fail
 refine wp_gen (fun W => Ext w W ∧ At W w.heap.size #[.bool f.n.neg, .slice f.n.a f.n.n f.n.c, .bool f.d.neg, .slice f.d.a f.d.n f.d.c] ∧ Own W (w.heap.size + 1) 2) ⟨(by repeat (first | exact Ext.refl _ | assumption | refine Ext.setCell ?_ (by first | (simp; done) | (simp; omega) | omega) _ | refine Ext.alloc ?_ _ | refine Ext.drew ?_ | refine Ext.trans ?_ (by assumption))), ((Blk.at _ 58 rfl).alloc _).at', (Blk.at #[.bool false, .slice none 0 0] 56 (by simp)).own _ (by simp) noIntW⟩ ?_
 rintro W ⟨E0, A0, O1⟩
 refine wp_region_held_drew (S := fun w' => Ext w w' ∧ At w' w.heap.size #[.bool f.n.neg, .slice f.n.a f.n.n f.n.c, .bool f.d.neg, .slice f.d.a f.d.n f.d.c] ∧ Own w' (w.heap.size + 1) 2) (by kernel_rfl) ?_ (fun hHeld => ?_)
 ·exact ⟨E0.drew, A0, O1⟩
 refine takeL (i := 0) (v := ?_) rfl (by kernel_rfl) (by kernel_rfl) (by kernel_rfl) (fun _ _ _ h => h) (Or.inl ⟨by rfl, ?_⟩) (by assumption) ?_; rotate_left; (focus (intro wq hSw; (try dsimp only at hSw); go_simp; try with_reducible rfl)); (try simp only [Act.put, List.setIfInBounds_toArray, List.set_cons_zero, List.set_cons_succ])
 refine takeL (i := 1) (v := ?_) rfl (by kernel_rfl) (by kernel_rfl) (by kernel_rfl) (fun _ _ _ h => h) (Or.inl ⟨by rfl, ?_⟩) (by assumption) ?_; rotate_left; (focus (intro wq hSw; (try dsimp only at hSw); go_simp; try with_reducible rfl)); (try simp only [Act.put, List.setIfInBounds_toArray, List.set_cons_zero, List.set_cons_succ])
 refine consL (i := 2) (by kernel_rfl) rfl (fun K hK => ?_); go_simp; go_at_call 27; refine (From_c 1 _ (by omega) (by omega)).mono ?_; rintro e w2 ⟨r, rfl, hr, hx2⟩; go_wp2_with fail; refine hK.out _ _ ?_ (fun hHeld => ?_); rotate_left; clear hK K; rotate_right; (focus ((try dsimp only); exact kept)); (try simp only [Act.put, List.setIfInBounds_toArray, List.set_cons_zero, List.set_cons_succ])
 refine consL (i := 3) (by kernel_rfl) rfl (fun K hK => ?_); go_simp; go_at_call 30; refine (Add_c f.d r (q - 1) 1 _ (H.out.den.in4 (by assumption)) hr).mono ?_; rw [HL.out]; rintro e w3 ⟨s, rfl, hs, hx3⟩; go_wp2_with fail; refine hK.out _ _ ?_ (fun hHeld => ?_); rotate_left; clear hK K; rotate_right; (focus ((try dsimp only); exact kept)); (try simp only [Act.put, List.setIfInBounds_toArray, List.set_cons_zero, List.set_cons_succ])
 refine takeL (i := 4) (v := ?_) rfl (by kernel_rfl) (by kernel_rfl) (by kernel_rfl) (fun _ _ _ h => h) (Or.inl ⟨by rfl, ?_⟩) (by assumption) ?_; rotate_left; (focus (intro wq hSw; (try dsimp only at hSw); go_simp; try with_reducible rfl)); (try simp only [Act.put, List.setIfInBounds_toArray, List.set_cons_zero, List.set_cons_succ])
 refine takeL (i := 5) (v := ?_) rfl (by kernel_rfl) (by kernel_rfl) (by kernel_rfl) (fun _ _ _ h => h) (Or.inl ⟨by rfl, ?_⟩) (by assumption) ?_; rotate_left; (focus (intro wq hSw; (try dsimp only at hSw); go_simp; try with_reducible rfl)); (try simp only [Act.put, List.setIfInBounds_toArray, List.set_cons_zero, List.set_cons_succ])
 refine consL (i := 6) (by kernel_rfl) rfl (fun K hK => ?_); go_simp; go_at_call 72; refine (must_c s q 0 _ hs).mono ?_; rintro e w4 ⟨t, rfl, ht, hx4⟩; go_wp2_with fail; refine hK.out _ _ ?_ (fun hHeld => ?_); rotate_left; clear hK K; rotate_right; (focus ((try dsimp only); exact kept)); (try simp only [Act.put, List.setIfInBounds_toArray, List.set_cons_zero, List.set_cons_succ])
 have O4 := hHeld.2.2
 have E4 := hHeld.1
 refine consL (i := 7) (by kernel_rfl) rfl (fun K hK => ?_); go_simp; refine hK.out _ _ ?_ (fun hHeld => ?_); rotate_left; clear hK K; rotate_right; (focus ((try dsimp only); exact kept)); (try simp only [Act.put, List.setIfInBounds_toArray, List.set_cons_zero, List.set_cons_succ])
 refine doneL (by kernel_rfl) ?_
 have hp := put2_cells O4 (.bool t.neg) (.slice t.a t.n t.c)
 obtain ⟨p0, p1⟩ := hp
 go_wp2_with fail
 refine bodyPost_ret (v := t.v) (by simp [results, Try.results56, go_sem, p0, p1]) rfl ?_
 exact ⟨t, rfl, ht.keep (IK.put2 O4 _ _ _ _), ext_put2 E4 (by omega) _ _ _ _⟩
end Go.Proofs.Ytkoidookanmknaa
/- frac: lowest, without errors. -/
namespace Go.Proofs.Ytkoidookanmknaa
set_option linter.unusedSimpArgs false
set_option linter.unusedVariables false
open Go.RowKit

/-- A fraction is stored. -/
abbrev putF (w : World) (b : Nat) (f : FV) : World := (((w.setCell ⟨b, 0, none⟩ (.bool f.n.neg)).setCell ⟨b, 1, none⟩ (.slice f.n.a f.n.n f.n.c)).setCell ⟨b, 2, none⟩ (.bool f.d.neg)).setCell ⟨b, 3, none⟩ (.slice f.d.a f.d.n f.d.c)
theorem IK.putF {w : World} {b : Nat} (h : Own w b 4) (f : FV) : IK w (putF w b f) :=
 ((((IK.refl w).setCell (h.2.2 0) _).setCell (own3_set h.2.2 (by simp) 1) _).setCell (own3_set (own3_set h.2.2 (by simp)) (by simp) 2) _).setCell (own3_set (own3_set (own3_set h.2.2 (by simp)) (by simp)) (by simp) 3) _
theorem ext_putF {a w : World} {b : Nat} (h : Ext a w) (hb : a.heap.size ≤ b) (f : FV) : Ext a (putF w b f) := (((h.setCell hb _).setCell hb _).setCell hb _).setCell hb _
theorem putF_cells {w : World} {b : Nat} (h : Own w b 4) (f : FV) : (putF w b f).cell? ⟨b, 0, none⟩ = some (.bool f.n.neg) ∧ (putF w b f).cell? ⟨b, 1, none⟩ = some (.slice f.n.a f.n.n f.n.c) ∧
  (putF w b f).cell? ⟨b, 2, none⟩ = some (.bool f.d.neg) ∧ (putF w b f).cell? ⟨b, 3, none⟩ = some (.slice f.d.a f.d.n f.d.c) := by
 refine ⟨?_, ?_, ?_, ?_⟩
 ·rw [World.cell?_setCell_other _ _ _ _ (by simp), World.cell?_setCell_other _ _ _ _ (by simp), World.cell?_setCell_other _ _ _ _ (by simp)]
  exact World.cell?_setCell_same' _ _ _ (by rw [h.1 0 (by omega)]; rfl)
 ·rw [World.cell?_setCell_other _ _ _ _ (by simp), World.cell?_setCell_other _ _ _ _ (by simp)]
  refine World.cell?_setCell_same' _ _ _ ?_
  rw [World.cell?_setCell_other _ _ _ _ (by simp), h.1 1 (by omega)]; rfl
 ·rw [World.cell?_setCell_other _ _ _ _ (by simp)]
  refine World.cell?_setCell_same' _ _ _ ?_
  rw [World.cell?_setCell_other _ _ _ _ (by simp), World.cell?_setCell_other _ _ _ _ (by simp), h.1 2 (by omega)]; rfl
 ·refine World.cell?_setCell_same' _ _ _ ?_
  rw [World.cell?_setCell_other _ _ _ _ (by simp), World.cell?_setCell_other _ _ _ _ (by simp), World.cell?_setCell_other _ _ _ _ (by simp), h.1 3 (by omega)]; rfl
/-- What functions return that make a fraction. -/
def RetFr (x y : Int) (w : World) (e : Ending) (w' : World) : Prop := ∃ f : FV, e = .returned (.tuple #[f.v, .int .i64 0]) ∧ IsI w' f.n x ∧ IsI w' f.d (y - 1) ∧ Ext w w'
set_option maxRecDepth 100000 in
set_option maxHeartbeats 2000000 in
theorem lowest_c (p q : IV) (x y : Int) (w : World) (hp : IsI w p x) (hq : IsI w q y) (hy : 1 ≤ y) : Calls Try.prog 51 #[p.v, q.v, .int .i64 0, .int .i64 0] w (RetFr x y w) := by
 have HP := Lib.hid hp; have HQ := Lib.hid hq
 have hl : lim (y - 1) = (y - 1, 0) := lim_big (by have := hq.big; unfold Big at *; omega)
 have HL := Lib.hid hl
 clear hp hq hl
 go_enter Try.func51, Try.ntmps51
 go_upto_region 3 with (fail)
 refine wp_gen (fun W => Ext w W ∧ At W w.heap.size #[.bool p.neg, .slice p.a p.n p.c] ∧ At W (w.heap.size + 1) #[.bool q.neg, .slice q.a q.n q.c] ∧ Own W (w.heap.size + 1 + 1) 4) ⟨(by repeat (first | exact Ext.refl _ | assumption | refine Ext.setCell ?_ (by first | (simp; done) | (simp; omega) | omega) _ | refine Ext.alloc ?_ _ | refine Ext.drew ?_ | refine Ext.trans ?_ (by assumption))), (((Blk.at _ 56 rfl).alloc _).alloc _).at', ((Blk.at _ 56 (by simp)).alloc _).at', (Blk.at #[.bool false, .slice none 0 0, .bool false, .slice none 0 0] 58 (by simp)).own _ (by simp) (noIntF _ _ _ _ _ _ _ _)⟩ ?_
 rintro W ⟨E0, A0, A1, O2⟩
 refine wp_region_held_drew (S := fun w' => Ext w w' ∧ At w' w.heap.size #[.bool p.neg, .slice p.a p.n p.c] ∧ At w' (w.heap.size + 1) #[.bool q.neg, .slice q.a q.n q.c] ∧ Own w' (w.heap.size + 1 + 1) 4) (by kernel_rfl) ?_ (fun hHeld => ?_)
 ·exact ⟨E0.drew, A0, A1, O2⟩
 refine takeL (i := 0) (v := ?_) rfl (by kernel_rfl) (by kernel_rfl) (by kernel_rfl) (fun _ _ _ h => h) (Or.inl ⟨by rfl, ?_⟩) (by assumption) ?_; rotate_left; (focus (intro wq hSw; (try dsimp only at hSw); go_simp; try with_reducible rfl)); (try simp only [Act.put, List.setIfInBounds_toArray, List.set_cons_zero, List.set_cons_succ])
 refine takeL (i := 1) (v := ?_) rfl (by kernel_rfl) (by kernel_rfl) (by kernel_rfl) (fun _ _ _ h => h) (Or.inl ⟨by rfl, ?_⟩) (by assumption) ?_; rotate_left; (focus (intro wq hSw; (try dsimp only at hSw); go_simp; try with_reducible rfl)); (try simp only [Act.put, List.setIfInBounds_toArray, List.set_cons_zero, List.set_cons_succ])
 refine consL (i := 2) (by kernel_rfl) rfl (fun K hK => ?_); go_simp; go_at_call 27; refine (From_c 1 _ (by omega) (by omega)).mono ?_; rintro e w2 ⟨r, rfl, hr, hx2⟩; go_wp2_with fail; refine hK.out _ _ ?_ (fun hHeld => ?_); rotate_left; clear hK K; rotate_right; (focus ((try dsimp only); exact kept)); (try simp only [Act.put, List.setIfInBounds_toArray, List.set_cons_zero, List.set_cons_succ])
 refine consL (i := 3) (by kernel_rfl) rfl (fun K hK => ?_); go_simp; go_at_call 73; refine (Sub_c q r y 1 _ (HQ.out.in4 (by assumption)) hr).mono ?_; rw [HL.out]; rintro e w3 ⟨s, rfl, hs, hx3⟩; go_wp2_with fail; refine hK.out _ _ ?_ (fun hHeld => ?_); rotate_left; clear hK K; rotate_right; (focus ((try dsimp only); exact kept)); (try simp only [Act.put, List.setIfInBounds_toArray, List.set_cons_zero, List.set_cons_succ])
 refine takeL (i := 4) (v := ?_) rfl (by kernel_rfl) (by kernel_rfl) (by kernel_rfl) (fun _ _ _ h => h) (Or.inl ⟨by rfl, ?_⟩) (by assumption) ?_; rotate_left; (focus (intro wq hSw; (try dsimp only at hSw); go_simp; try with_reducible rfl)); (try simp only [Act.put, List.setIfInBounds_toArray, List.set_cons_zero, List.set_cons_succ])
 refine takeL (i := 5) (v := ?_) rfl (by kernel_rfl) (by kernel_rfl) (by kernel_rfl) (fun _ _ _ h => h) (Or.inl ⟨by rfl, ?_⟩) (by assumption) ?_; rotate_left; (focus (intro wq hSw; (try dsimp only at hSw); go_simp; try with_reducible rfl)); (try simp only [Act.put, List.setIfInBounds_toArray, List.set_cons_zero, List.set_cons_succ])
 refine consL (i := 6) (by kernel_rfl) rfl (fun K hK => ?_); go_simp; go_at_call 72; refine (must_c s (y - 1) 0 _ hs).mono ?_; rintro e w4 ⟨t, rfl, ht, hx4⟩; go_wp2_with fail; refine hK.out _ _ ?_ (fun hHeld => ?_); rotate_left; clear hK K; rotate_right; (focus ((try dsimp only); exact kept)); (try simp only [Act.put, List.setIfInBounds_toArray, List.set_cons_zero, List.set_cons_succ])
 have O4 := hHeld.2.2.2
 have E4 := hHeld.1
 refine takeL (i := 7) (v := ?_) rfl (by kernel_rfl) (by kernel_rfl) (by kernel_rfl) (fun _ _ _ h => h) (Or.inl ⟨by rfl, ?_⟩) (by assumption) ?_; rotate_left; (focus (intro wq hSw; (try dsimp only at hSw); go_simp; try with_reducible rfl)); (try simp only [Act.put, List.setIfInBounds_toArray, List.set_cons_zero, List.set_cons_succ])
 refine consL (i := 8) (by kernel_rfl) rfl (fun K hK => ?_); go_simp; refine hK.out _ _ ?_ (fun hHeld => ?_); rotate_left; clear hK K; rotate_right; (focus ((try dsimp only); exact kept)); (try simp only [Act.put, List.setIfInBounds_toArray, List.set_cons_zero, List.set_cons_succ])
 refine consL (i := 9) (by kernel_rfl) rfl (fun K hK => ?_); go_simp; refine hK.out _ _ ?_ (fun hHeld => ?_); rotate_left; clear hK K; rotate_right; (focus ((try dsimp only); exact kept)); (try simp only [Act.put, List.setIfInBounds_toArray, List.set_cons_zero, List.set_cons_succ])
 refine doneL (by kernel_rfl) ?_
 have hp := putF_cells O4 ⟨p, t⟩
 obtain ⟨p0, p1, p2, p3⟩ := hp
 go_wp2_with fail
 refine bodyPost_ret (v := .tuple #[FV.v ⟨p, t⟩, .int .i64 0]) (by simp [results, Try.results51, go_sem, p0, p1, p2, p3]) rfl ?_
 exact ⟨⟨p, t⟩, rfl, (HP.out.keep E4.ik).keep (IK.putF O4 ⟨p, t⟩), ht.keep (IK.putF O4 ⟨p, t⟩), ext_putF E4 (by omega) ⟨p, t⟩⟩
end Go.Proofs.Ytkoidookanmknaa
/- frac: Make, Of (a denominator of one word, above 0). -/
namespace Go.Proofs.Ytkoidookanmknaa
set_option linter.unusedSimpArgs false
set_option linter.unusedVariables false
open Go.RowKit

/-- The greatest common divisor. -/
def gcdI (x y : Int) : Int := ((Nat.gcd x.natAbs y.natAbs : Nat) : Int)
theorem gcdI_pos {x y : Int} (hy : 1 ≤ y) : 1 ≤ gcdI x y := by
 unfold gcdI
 have := Nat.gcd_pos_of_pos_right x.natAbs (show 0 < y.natAbs by omega)
 omega
theorem gcdI_dvd (x y : Int) : gcdI x y ∣ x ∧ gcdI x y ∣ y := by
 unfold gcdI
 exact ⟨Int.ofNat_dvd_left.2 (Nat.gcd_dvd_left _ _), Int.ofNat_dvd_left.2 (Nat.gcd_dvd_right _ _)⟩
theorem gcdI_le {x y : Int} (hy : 1 ≤ y) : gcdI x y ≤ y := Int.le_of_dvd (by omega) (gcdI_dvd x y).2
/-- x / y in lowest terms. -/
structure Low (x y N D : Int) : Prop where
 n : N = x / gcdI x y
 d : D = y / gcdI x y
 pos : 1 ≤ D
 le : D ≤ y
 nle : N.natAbs ≤ x.natAbs
 eq : N * y = x * D
 low : Nat.gcd N.natAbs D.natAbs = 1
theorem low_of (x y : Int) (hy : 1 ≤ y) : Low x y (x / gcdI x y) (y / gcdI x y) := by
 have hp := gcdI_pos (x := x) hy
 obtain ⟨h1, h2⟩ := gcdI_dvd x y
 have e1 := Int.ediv_mul_cancel h1
 have e2 := Int.ediv_mul_cancel h2
 have a1 := Int.natAbs_ediv_of_dvd h1
 have a2 := Int.natAbs_ediv_of_dvd h2
 have hg : (gcdI x y).natAbs = Nat.gcd x.natAbs y.natAbs := by unfold gcdI; simp
 have hgp : 0 < Nat.gcd x.natAbs y.natAbs := Nat.gcd_pos_of_pos_right _ (by omega)
 refine ⟨rfl, rfl, ?_, ?_, ?_, ?_, ?_⟩
 ·exact (Int.le_ediv_iff_mul_le (by omega)).2 (by rw [Int.one_mul]; exact gcdI_le hy)
 ·exact Int.ediv_le_self _ (by omega)
 ·rw [a1]; exact Nat.div_le_self _ _
 ·generalize x / gcdI x y = N at *
  generalize y / gcdI x y = D at *
  generalize gcdI x y = G at *
  rw [← e1, ← e2]; grind
 ·rw [a1, a2, hg]; exact Nat.coprime_div_gcd_div_gcd hgp
/-- A fraction and no error. -/
def RetQ (N D : Int) (w : World) (e : Ending) (w' : World) : Prop := ∃ f : FV, e = .returned (.tuple #[f.v, .int .i64 0]) ∧ IsF w' f N D ∧ Ext w w'
set_option maxRecDepth 100000 in
set_option maxHeartbeats 2000000 in
theorem Make_c (p q : IV) (x y : Int) (w : World) (hp : IsI w p x) (hq : IsI w q y) (hy : 1 ≤ y) : Calls Try.prog 29 #[p.v, q.v] w (RetQ (x / gcdI x y) (y / gcdI x y) w) := by
 have HP := Lib.hid hp; have HQ := Lib.hid hq
 have hlow := low_of x y hy
 have hgp := gcdI_pos (x := x) hy
 have hgl := gcdI_le (x := x) hy
 have hbig : Big (y / gcdI x y) := by have h1 := hq.big; have h2 := hlow.le; have h3 := hlow.pos; unfold Big at *; omega
 have hgg : ((Nat.gcd x.natAbs y.natAbs : Nat) : Int) = gcdI x y := rfl
 obtain ⟨gg, hgv⟩ : ∃ z, gcdI x y = z := ⟨_, rfl⟩
 rw [hgv] at hlow hgp hgl hbig hgg ⊢
 have HLOW := Lib.hid hlow; have HBIG := Lib.hid hbig; have HGG := Lib.hid hgg
 have es : cmpI y 0 = 1 := by unfold cmpI; rw [if_neg (by omega), if_pos (by omega)]
 have ES := Lib.hid es
 clear hp hq hlow hbig hgg hgv es
 go_enter Try.func29, Try.ntmps29
 go_wp2_with fail
 refine (Sign_c q y _ (HQ.out.keep (by repeat (first | exact IK.refl _ | refine IK.alloc ?_ _ | refine IK.drew ?_ | refine IK.setCell ?_ (by simp [hc, go_sem]) _)))).mono ?_
 rw [ES.out]
 rintro e w2 ⟨rfl, hx2⟩
 have hE2 : Ext w w2 := Ext.trans (by repeat (first | exact Ext.refl _ | assumption | refine Ext.setCell ?_ (by first | (simp; done) | (simp; omega) | omega) _ | refine Ext.alloc ?_ _ | refine Ext.drew ?_ | refine Ext.trans ?_ (by assumption))) hx2
 have A0 : At w2 w.heap.size #[.bool p.neg, .slice p.a p.n p.c] := At.ext hx2 (((Blk.at _ 56 rfl).alloc _).alloc _).at' (by simp)
 have A1 : At w2 (w.heap.size + 1) #[.bool q.neg, .slice q.a q.n q.c] := At.ext hx2 ((Blk.at _ 56 (by simp)).alloc _).at' (by simp)
 have O2 : Own w2 (w.heap.size + 1 + 1) 4 := Own.ext hx2 ((Blk.at #[.bool false, .slice none 0 0, .bool false, .slice none 0 0] 58 (by simp)).own _ (by simp) (noIntF _ _ _ _ _ _ _ _)) (by omega)
 obtain ⟨B, hB⟩ : ∃ B, w.heap.size = B := ⟨_, rfl⟩
 rw [hB] at A0 A1 O2
 have HF := Lib.hid (show Ext w w2 ∧ At w2 B #[.bool p.neg, .slice p.a p.n p.c] ∧ At w2 (B + 1) #[.bool q.neg, .slice q.a q.n q.c] ∧ Own w2 (B + 1 + 1) 4 from ⟨hE2, A0, A1, O2⟩)
 have c00 := A0 0 (by simp)
 have c01 := A0 1 (by simp)
 have c10 := A1 0 (by simp)
 have c11 := A1 1 (by simp)
 simp at c00 c01 c10 c11
 clear hE2 A0 A1 O2 hx2
 go_wp2_with fail
 refine (Sign_c q y _ (HQ.out.keep HF.out.1.ik)).mono ?_
 rw [ES.out]
 rintro e w3 ⟨rfl, hx3⟩
 have d00 := hx3.cell c00
 have d01 := hx3.cell c01
 have d10 := hx3.cell c10
 have d11 := hx3.cell c11
 have HX3 := Lib.hid hx3
 clear c00 c01 c10 c11 hx3
 go_wp2_with fail
 refine (Gcd_c p q x y _ (HP.out.keep (HF.out.1.trans HX3.out).ik) (HQ.out.keep (HF.out.1.trans HX3.out).ik)).mono ?_
 rw [HGG.out]
 rintro e w4 ⟨g, rfl, hg, hx4⟩
 clear d00 d01 d10 d11
 have hx := HX3.out.trans hx4
 have l4 := (Own.ext hx HF.out.2.2.2 (by omega)).lt (by omega)
 go_upto_region 6 with (fail)
 obtain ⟨G, hG⟩ : ∃ G, w4.heap.size = G := ⟨_, rfl⟩
 refine wp_gen (fun W => (Ext w W ∧ At W B #[.bool p.neg, .slice p.a p.n p.c] ∧ At W (B + 1) #[.bool q.neg, .slice q.a q.n q.c] ∧ At W G #[.bool g.neg, .slice g.a g.n g.c] ∧ Own W (B + 1 + 1) 4) ∧ IsI W g gg) ⟨⟨(HF.out.1.trans hx).alloc _, At.alloc (At.ext hx HF.out.2.1 (by simp)) (by simp), At.alloc (At.ext hx HF.out.2.2.1 (by simp)) (by simp), (Blk.at _ 56 hG.symm).at', Own.ext (hx.alloc _) HF.out.2.2.2 (by omega)⟩, hg.keep ((Ext.refl w4).alloc _).ik⟩ ?_
 clear hx hg hx4
 rintro V ⟨⟨E0, A0, A1, A2, O2⟩, hg⟩
 have HGI := Lib.hid hg
 clear hg
 try rw [hG]
 refine wp_region_held_drew (S := fun w' => Ext w w' ∧ At w' B #[.bool p.neg, .slice p.a p.n p.c] ∧ At w' (B + 1) #[.bool q.neg, .slice q.a q.n q.c] ∧ At w' G #[.bool g.neg, .slice g.a g.n g.c] ∧ Own w' (B + 1 + 1) 4) (by kernel_rfl) ?_ (fun hHeld => ?_)
 ·exact ⟨E0.drew, A0, A1, A2, O2⟩
 have EV : Ext V V.drew := (Ext.refl V).drew
 refine takeL (i := 0) (v := ?_) rfl (by kernel_rfl) (by kernel_rfl) (by kernel_rfl) (fun _ _ _ h => h) (Or.inl ⟨by rfl, ?_⟩) (by assumption) ?_; rotate_left; (focus (intro wq hSw; (try dsimp only at hSw); go_simp; try with_reducible rfl)); (try simp only [Act.put, List.setIfInBounds_toArray, List.set_cons_zero, List.set_cons_succ])
 refine takeL (i := 1) (v := ?_) rfl (by kernel_rfl) (by kernel_rfl) (by kernel_rfl) (fun _ _ _ h => h) (Or.inl ⟨by rfl, ?_⟩) (by assumption) ?_; rotate_left; (focus (intro wq hSw; (try dsimp only at hSw); go_simp; try with_reducible rfl)); (try simp only [Act.put, List.setIfInBounds_toArray, List.set_cons_zero, List.set_cons_succ])
 refine takeL (i := 3) (v := ?_) rfl (by kernel_rfl) (by kernel_rfl) (by kernel_rfl) (fun _ _ _ h => h) (Or.inl ⟨by rfl, ?_⟩) (by assumption) ?_; rotate_left; (focus (intro wq hSw; (try dsimp only at hSw); go_simp; try with_reducible rfl)); (try simp only [Act.put, List.setIfInBounds_toArray, List.set_cons_zero, List.set_cons_succ])
 refine takeL (i := 4) (v := ?_) rfl (by kernel_rfl) (by kernel_rfl) (by kernel_rfl) (fun _ _ _ h => h) (Or.inl ⟨by rfl, ?_⟩) (by assumption) ?_; rotate_left; (focus (intro wq hSw; (try dsimp only at hSw); go_simp; try with_reducible rfl)); (try simp only [Act.put, List.setIfInBounds_toArray, List.set_cons_zero, List.set_cons_succ])
 refine consL (i := 2) (by kernel_rfl) rfl (fun K hK => ?_); go_simp; go_at_call 52; refine (over_c p g x gg _ (HP.out.in4 (by assumption)) (HGI.out.keep EV.ik) (by omega)).mono ?_; rintro e w5 ⟨r, rfl, hr, hx5⟩; go_wp2_with fail; refine hK.out _ _ ?_ (fun hHeld => ?_); rotate_left; clear hK K; rotate_right; (focus ((try dsimp only); exact kept)); (try simp only [Act.put, List.setIfInBounds_toArray, List.set_cons_zero, List.set_cons_succ])
 refine consL (i := 5) (by kernel_rfl) rfl (fun K hK => ?_); go_simp; go_at_call 52; refine (over_c q g y gg _ (HQ.out.in4 (by assumption)) (HGI.out.keep (EV.trans hx5).ik) (by omega)).mono ?_; rintro e w6 ⟨s, rfl, hs, hx6⟩; go_wp2_with fail; refine hK.out _ _ ?_ (fun hHeld => ?_); rotate_left; clear hK K; rotate_right; (focus ((try dsimp only); exact kept)); (try simp only [Act.put, List.setIfInBounds_toArray, List.set_cons_zero, List.set_cons_succ])
 refine consL (i := 6) (by kernel_rfl) rfl (fun K hK => ?_); go_simp; go_at_call 51; refine (lowest_c r s (x / gg) (y / gg) _ (hr.keep hx6.ik) hs HLOW.out.pos).mono ?_; rintro e w7 ⟨f, rfl, hf1, hf2, hx7⟩; go_wp2_with fail; refine hK.out _ _ ?_ (fun hHeld => ?_); rotate_left; clear hK K; rotate_right; (focus ((try dsimp only); exact kept)); (try simp only [Act.put, List.setIfInBounds_toArray, List.set_cons_zero, List.set_cons_succ])
 have O4 := hHeld.2.2.2.2
 have E4 := hHeld.1
 refine takeL (i := 7) (v := ?_) rfl (by kernel_rfl) (by kernel_rfl) (by kernel_rfl) (fun _ _ _ h => h) (Or.inl ⟨by rfl, ?_⟩) (by assumption) ?_; rotate_left; (focus (intro wq hSw; (try dsimp only at hSw); go_simp; try with_reducible rfl)); (try simp only [Act.put, List.setIfInBounds_toArray, List.set_cons_zero, List.set_cons_succ])
 refine takeL (i := 8) (v := ?_) rfl (by kernel_rfl) (by kernel_rfl) (by kernel_rfl) (fun _ _ _ h => h) (Or.inl ⟨by rfl, ?_⟩) (by assumption) ?_; rotate_left; (focus (intro wq hSw; (try dsimp only at hSw); go_simp; try with_reducible rfl)); (try simp only [Act.put, List.setIfInBounds_toArray, List.set_cons_zero, List.set_cons_succ])
 refine consL (i := 9) (by kernel_rfl) rfl (fun K hK => ?_); go_simp; refine hK.out _ _ ?_ (fun hHeld => ?_); rotate_left; clear hK K; rotate_right; (focus ((try dsimp only); exact kept)); (try simp only [Act.put, List.setIfInBounds_toArray, List.set_cons_zero, List.set_cons_succ])
 refine consL (i := 10) (by kernel_rfl) rfl (fun K hK => ?_); go_simp; refine hK.out _ _ ?_ (fun hHeld => ?_); rotate_left; clear hK K; rotate_right; (focus ((try dsimp only); exact kept)); (try simp only [Act.put, List.setIfInBounds_toArray, List.set_cons_zero, List.set_cons_succ])
 refine doneL (by kernel_rfl) ?_
 have hp := putF_cells O4 f
 obtain ⟨p0, p1, p2, p3⟩ := hp
 go_wp2_with fail
 refine bodyPost_ret (v := .tuple #[f.v, .int .i64 0]) (by simp [results, Try.results29, go_sem, p0, p1, p2, p3]) rfl ?_
 exact ⟨f, rfl, ⟨hf1.keep (IK.putF O4 f), hf2.keep (IK.putF O4 f), HLOW.out.pos, HBIG.out, HLOW.out.low⟩, ext_putF E4 (by omega) f⟩
end Go.Proofs.Ytkoidookanmknaa
/- frac: Of, Num. -/
namespace Go.Proofs.Ytkoidookanmknaa
set_option linter.unusedSimpArgs false
set_option linter.unusedVariables false
open Go.RowKit

set_option maxRecDepth 100000 in
set_option maxHeartbeats 1000000 in
theorem Of_c (x y : Int) (w : World) (hx1 : -9223372036854775808 ≤ x) (hx2 : x ≤ 9223372036854775807) (hy : 1 ≤ y) (hy2 : y ≤ 9223372036854775807) : Calls Try.prog 24 #[.int .i64 x, .int .i64 y] w (RetQ (x / gcdI x y) (y / gcdI x y) w) := by
 go_enter Try.func24, Try.ntmps24
 go_wp2_with fail
 refine (From_c x _ hx1 hx2).mono ?_
 rintro e w2 ⟨p, rfl, hp, hx2⟩
 have HP := Lib.hid (And.intro hp hx2)
 have O2 : Own w2 w.heap.size 4 := Own.ext hx2 ((Blk.at #[.bool false, .slice none 0 0, .bool false, .slice none 0 0] 58 rfl).own _ (by simp) (noIntF _ _ _ _ _ _ _ _)) (by omega)
 clear hp hx2
 go_wp2_with fail
 refine (From_c y _ (by omega) (by omega)).mono ?_
 rintro e w3 ⟨q, rfl, hq, hx3⟩
 have HQ := Lib.hid (And.intro hq hx3)
 have O3 := O2.ext hx3 (by omega)
 clear hq hx3 O2
 go_wp2_with fail
 refine (Make_c p q x y _ (HP.out.1.keep HQ.out.2.ik) HQ.out.1 hy).mono ?_
 rintro e w4 ⟨f, rfl, hf, hx4⟩
 have O4 := O3.ext hx4 (by omega)
 have HF := Lib.hid (And.intro hf (show Ext w w4 from ((((Ext.refl w).alloc _).trans HP.out.2).trans HQ.out.2).trans hx4))
 clear O3 hf hx4
 have hp := putF_cells O4 f
 obtain ⟨p0, p1, p2, p3⟩ := hp
 go_wp2_with fail
 refine bodyPost_ret (v := .tuple #[f.v, .int .i64 0]) (by simp [results, Try.results24, go_sem, p0, p1, p2, p3]) rfl ?_
 exact ⟨f, rfl, HF.out.1.keep (IK.putF O4 f), ext_putF HF.out.2 (by omega) f⟩
end Go.Proofs.Ytkoidookanmknaa
