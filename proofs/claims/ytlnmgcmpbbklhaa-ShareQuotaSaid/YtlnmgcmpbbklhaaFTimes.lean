/- frac: times of two numbers. -/
import Derived.Test.YtlnmgcmpbbklhaaFOver
import Derived.Test.YtlnmgcmpbbklhaaWMul
namespace Go.Proofs.Ytlnmgcmpbbklhaa
set_option linter.unusedSimpArgs false
set_option linter.unusedVariables false
open Go.RowKit

def prodF (x y : Int) : Nat → Int
  | 0 => 1
  | 1 => x
  | _ => x * y
theorem prodF0 (x y : Int) : prodF x y 0 = 1 := rfl
theorem prodF1 (x y : Int) : prodF x y 1 = x := rfl
theorem prodF2 (x y : Int) : prodF x y 2 = x * y := rfl
theorem lim_big {x : Int} (h : Big x) : lim x = (x, 0) := by unfold lim; exact if_pos h
theorem lim_cases (x : Int) : lim x = (x, 0) ∨ lim x = (0, 4) := by unfold lim; split; exact .inl rfl; exact .inr rfl
set_option maxRecDepth 100000 in
set_option maxHeartbeats 1000000 in
theorem ftimes_c (p q : IV) (x y : Int) (ab c : Nat) (w : World) (hA : At w ab #[.bool p.neg, .slice p.a p.n p.c, .bool q.neg, .slice q.a q.n q.c]) (hp : IsI w p x) (hq : IsI w q y) :
    Calls Try.prog 60 #[.slice (some ⟨ab, 0, none⟩) 2 c] w (RetIE (lim (x * y)).1 (lim (x * y)).2 w) := by
  have HP := Lib.hid hp; have HQ := Lib.hid hq; have HA := Lib.hid hA
  have hbx := hp.big
  have hlx : lim (1 * x) = (x, 0) := by rw [Int.one_mul]; exact lim_big hbx
  have HLX := Lib.hid hlx
  have la := hA.lt (by simp)
  clear hp hq hA hbx hlx
  go_enter Try.func60, Try.ntmps60
  go_wp2_with fail
  refine (From_c 1 _ (by omega) (by omega)).mono ?_
  rintro e w2 ⟨r, rfl, hr, hx⟩
  have hx2 : Ext w w2 := ((Ext.refl w).alloc _).trans hx
  have O0 : Own w2 w.heap.size 2 := Own.ext hx ((Blk.at #[.bool false, .slice none 0 0] 48 rfl).own _ (by simp) noIntW) (by omega)
  have l0 := O0.lt (by omega)
  go_upto_region 3 with (fail)
  obtain ⟨B, hB⟩ : ∃ B, w2.heap.size = B := ⟨_, rfl⟩
  have hO1 : Own (w2.alloc (.cells #[.bool r.neg, .slice r.a r.n r.c] 48)) B 2 := (Blk.at #[.bool r.neg, .slice r.a r.n r.c] 48 hB.symm).own _ (by simp) (noInt2 _ _ (by simp) (by simp))
  have hA1 : At (w2.alloc (.cells #[.bool r.neg, .slice r.a r.n r.c] 48)) B #[.bool r.neg, .slice r.a r.n r.c] := (Blk.at _ 48 hB.symm).at'
  have HST := Lib.hid (show Ext w (w2.alloc (.cells #[.bool r.neg, .slice r.a r.n r.c] 48)) ∧ Own (w2.alloc (.cells #[.bool r.neg, .slice r.a r.n r.c] 48)) w.heap.size 2 ∧ Own (w2.alloc (.cells #[.bool r.neg, .slice r.a r.n r.c] 48)) B 2 ∧
    At (w2.alloc (.cells #[.bool r.neg, .slice r.a r.n r.c] 48)) B #[.bool r.neg, .slice r.a r.n r.c] ∧ IsI (w2.alloc (.cells #[.bool r.neg, .slice r.a r.n r.c] 48)) r 1 from
    ⟨hx2.alloc _, Own.ext ((Ext.refl w2).alloc _) O0 (by omega), hO1, hA1, hr.keep ((Ext.refl w2).alloc _).ik⟩)
  have hBw : w.heap.size < B := by omega
  clear hx hx2 O0 hO1 hA1 hr
  try rw [hB]
  go_loopw [12] (fun v ws => ∃ (i : Nat) (r : IV), i ≤ 2 ∧ v = .int .i64 (i : Int) ∧ Ext w ws ∧ Own ws w.heap.size 2 ∧ Own ws B 2 ∧ At ws B #[.bool r.neg, .slice r.a r.n r.c] ∧ IsI ws r (prodF x y i)) (fun v _ => 2 - (intOf v).toNat)
  case atStart => exact ⟨0, r, by omega, rfl, HST.out⟩
  case round =>
    obtain ⟨i, r0, hi, rfl, hE, O0, O1, A1, hr⟩ := hrel
    have HR := Lib.hid hr; have HE := Lib.hid hE
    have cA := At.ext hE HA.out (by simp)
    have d0 := cA 0 (by simp)
    have d1 := cA 1 (by simp)
    have d2 := cA 2 (by simp)
    have d3 := cA 3 (by simp)
    have c10 := A1 0 (by simp)
    have c11 := A1 1 (by simp)
    simp at d0 d1 d2 d3 c10 c11
    have lB := O1.lt (by omega)
    have HO0 := Lib.hid O0; have HO1 := Lib.hid O1
    clear cA A1 hr hE O0 O1
    by_cases h0 : i = 0
    · subst h0
      rw [prodF0] at HR
      rw [show ((0 : Nat) : Int) = 0 from rfl]
      go_wp2_with fail
      refine (Mul_c r0 p 1 x _ (HR.out.keep ((Ext.refl wr).alloc _).ik) (HP.out.keep (HE.out.alloc _).ik)).mono ?_
      rw [HLX.out]
      rintro e w5 ⟨s, rfl, hs, hx5⟩
      have e5 : Ext wr w5 := ((Ext.refl wr).alloc _).trans hx5
      go_upto_region 8 with (fail); refine wp_gen (fun V => Ext w V ∧ Own V w.heap.size 2 ∧ Own V B 2 ∧ At V w5.heap.size #[.bool s.neg, .slice s.a s.n s.c] ∧ IsI V s x) ⟨(HE.out.trans e5).alloc _, Own.ext (e5.alloc _) HO0.out (by omega), Own.ext (e5.alloc _) HO1.out (by omega), (Blk.at _ _ rfl).at', hs.keep ((Ext.refl w5).alloc _).ik⟩ ?_; clear hs hx5 e5 HO0 HO1 c10 c11 d0 d1 d2 d3; rintro V ⟨E0, O0, O1, A5, hs⟩; have HS := Lib.hid hs; have c50 := A5 0 (by simp); have c51 := A5 1 (by simp); simp at c50 c51; clear A5 hs; go_wp2_with fail; go_roundw; (case rel => exact ⟨1, s, by omega, by go_num, ext_put2 E0 (by omega) _ _ _ _, own_put2 O0 _ _ _ _, own_put2 O1 _ _ _ _, At.mk2 (put2_cells O1 _ _).1 (put2_cells O1 _ _).2, HS.out.keep (IK.put2 O1 _ _ _ _)⟩); (case measure => simp [intOf])
    · by_cases h1 : i = 1
      · subst h1
        rw [prodF1] at HR
        rw [show ((1 : Nat) : Int) = 1 from rfl]
        go_wp2_with fail
        refine (Mul_c r0 q x y _ (HR.out.keep ((Ext.refl wr).alloc _).ik) (HQ.out.keep (HE.out.alloc _).ik)).mono ?_
        rcases lim_cases (x * y) with hl | hl
        · have HLI := Lib.hid hl
          rw [hl]
          clear hl
          rintro e w5 ⟨s, rfl, hs, hx5⟩
          have e5 : Ext wr w5 := ((Ext.refl wr).alloc _).trans hx5
          go_upto_region 8 with (fail); refine wp_gen (fun V => Ext w V ∧ Own V w.heap.size 2 ∧ Own V B 2 ∧ At V w5.heap.size #[.bool s.neg, .slice s.a s.n s.c] ∧ IsI V s (x * y)) ⟨(HE.out.trans e5).alloc _, Own.ext (e5.alloc _) HO0.out (by omega), Own.ext (e5.alloc _) HO1.out (by omega), (Blk.at _ _ rfl).at', hs.keep ((Ext.refl w5).alloc _).ik⟩ ?_; clear hs hx5 e5 HO0 HO1 c10 c11 d0 d1 d2 d3; rintro V ⟨E0, O0, O1, A5, hs⟩; have HS := Lib.hid hs; have c50 := A5 0 (by simp); have c51 := A5 1 (by simp); simp at c50 c51; clear A5 hs; go_wp2_with fail; go_roundw; (case rel => exact ⟨2, s, by omega, by go_num, ext_put2 E0 (by omega) _ _ _ _, own_put2 O0 _ _ _ _, own_put2 O1 _ _ _ _, At.mk2 (put2_cells O1 _ _).1 (put2_cells O1 _ _).2, HS.out.keep (IK.put2 O1 _ _ _ _)⟩); (case measure => simp [intOf])
        · have HLI := Lib.hid hl
          rw [hl]
          clear hl
          rintro e w5 ⟨s, rfl, hs, hx5⟩
          have e5 : Ext wr w5 := ((Ext.refl wr).alloc _).trans hx5
          go_upto_region 7 with (fail)
          refine wp_gen (fun V => Ext w V ∧ Own V w.heap.size 2) ⟨(HE.out.trans e5).alloc _, Own.ext (e5.alloc _) HO0.out (by omega)⟩ ?_
          clear hs hx5 e5 HO0 HO1
          rintro V ⟨E0, O0⟩
          have hp := put2_cells O0 (.bool false) (.slice none 0 0)
          obtain ⟨p0, p1⟩ := hp
          go_wp2_with fail
          refine bodyPost_ret (v := .tuple #[.agg #[.bool false, .slice none 0 0], .int .i64 4]) (by simp [results, Try.results60, go_sem, p0, p1]) rfl ?_
          rw [HLI.out]
          exact ⟨⟨false, none, 0, 0⟩, rfl, isI_zero _, ext_put2 E0 (by omega) _ _ _ _⟩
      · obtain rfl : i = 2 := by omega
        rw [prodF2] at HR
        rw [show ((2 : Nat) : Int) = 2 from rfl]
        have O0 := HO0.out
        have hp := put2_cells O0 (.bool r0.neg) (.slice r0.a r0.n r0.c)
        obtain ⟨p0, p1⟩ := hp
        have hl := lim_big HR.out.big
        have HLI := Lib.hid hl
        clear hl
        go_wp2_with fail
        refine bodyPost_ret (v := .tuple #[r0.v, .int .i64 0]) (by simp [results, Try.results60, go_sem, p0, p1]) rfl ?_
        rw [HLI.out]
        exact ⟨r0, rfl, HR.out.keep (IK.put2 O0 _ _ _ _), ext_put2 HE.out (by omega) _ _ _ _⟩
end Go.Proofs.Ytlnmgcmpbbklhaa
