/- meresmanref06: SideOf. -/
import Derived.Test.YtgmedfloflplgaaE03
import Derived.Test.YtgmedfloflplgaaR05
namespace Go.Proofs.Ytgmedfloflplgaa
set_option linter.unusedSimpArgs false
set_option linter.unusedVariables false
open Go.RowKit

theorem pts_three {w : World} {b : Nat} {p q r : Pt} (h : At w b #[.int .i64 p.x, .int .i64 p.y, .int .i64 q.x, .int .i64 q.y, .int .i64 r.x, .int .i64 r.y]) : Pts w b [p, q, r] := fun i hi => by
  match i, hi with
  | 0, _ => exact ⟨h 0 (by simp), h 1 (by simp)⟩
  | 1, _ => exact ⟨h 2 (by simp), h 3 (by simp)⟩
  | 2, _ => exact ⟨h 4 (by simp), h 5 (by simp)⟩
  | i + 3, hi => simp at hi; omega
theorem n62_small {x : Int} (h1 : -100000 ≤ x) (h2 : x ≤ 100000) : N62 x := by unfold N62; omega
theorem tiny_mul {x y : Int} (x1 : -32 ≤ x) (x2 : x ≤ 32) (y1 : -32 ≤ y) (y2 : y ≤ 32) : N62 (x * y) := by
  have := mul_bd x1 x2 y1 y2
  simp only [Int.reduceMul, Int.reduceNeg] at this
  exact n62_small (by omega) (by omega)
def ofP (p : Pt) : RP := ⟨p.x, p.y, 1⟩
theorem area_of (a b c : Pt) : cmpI (areaRP (ofP a) (ofP b) (ofP c)) 0 = sideF a b c := by
  rw [sideF_eq]; unfold areaRP ofP S3 S6; simp only [Int.mul_one]
set_option maxRecDepth 100000 in
set_option maxHeartbeats 4000000 in
theorem rsideOf_c (a b c : Pt) (w : World) (ha : Tiny a) (hb : Tiny b) (hc : Tiny c) :
    Calls Try.prog 27 #[a.v, b.v, c.v] w fun e w' => e = .returned (.tuple #[.int .i64 (sideF a b c), .int .i64 0]) ∧ Ext w w' := by
  have hV : ∀ i, i < 3 → validE (([a, b, c] : List Pt).getD i ⟨0, 0⟩) = 0 := fun i hi => by
    match i, hi with
    | 0, _ => exact ha.validE
    | 1, _ => exact hb.validE
    | 2, _ => exact hc.validE
    | i + 3, hi => omega
  have HV := Lib.hid hV; clear hV
  obtain ⟨a1, a2, a3, a4⟩ := ha
  obtain ⟨b1, b2, b3, b4⟩ := hb
  obtain ⟨c1, c2, c3, c4⟩ := hc
  have hs : ∀ w, Calls Try.prog 61 #[(ofP a).v, (ofP b).v, (ofP c).v] w fun e w' => e = .returned (.int .i64 (sideF a b c)) ∧ Ext w w' := fun w => by
    have h := side5_c (ofP a) (ofP b) (ofP c) w (by unfold ofP; simp only [Int.mul_one]; exact n62_small (by omega) (by omega)) (by unfold ofP; simp only [Int.mul_one]; exact n62_small (by omega) (by omega)) (by unfold ofP; simp only [Int.mul_one]; exact n62_small (by omega) (by omega)) (by unfold ofP; simp only [Int.mul_one]; exact n62_small (by omega) (by omega)) (by unfold ofP; simp only [Int.mul_one]; exact n62_small (by omega) (by omega)) (by unfold ofP; simp only [Int.mul_one]; exact n62_small (by omega) (by omega)) (by unfold ofP; simp only [Int.mul_one]; exact n62_small (by omega) (by omega)) (by unfold ofP; simp only [Int.mul_one]; exact n62_small (by omega) (by omega))
      (by unfold ofP; simp only [Int.mul_one]; exact tiny_mul (by omega) (by omega) (by omega) (by omega)) (by unfold ofP; simp only [Int.mul_one]; exact tiny_mul (by omega) (by omega) (by omega) (by omega))
    rw [area_of] at h
    exact h
  have HS := Lib.hid hs
  clear hs a1 a2 a3 a4 b1 b2 b3 b4 c1 c2 c3 c4
  go_enter Try.func27, Try.ntmps27
  go_wp2_with fail
  refine (rvalid_c _ 3 3 [a, b, c] _ rfl (by omega) (by omega) (pts_three (Blk.at _ 25 (by simp)).at') HV.out).mono ?_
  rintro e w2 ⟨rfl, hx⟩
  obtain ⟨B, hB⟩ : ∃ B, w.heap.size = B := ⟨_, rfl⟩
  have hA : Blk w2 B #[.int .i64 a.x, .int .i64 a.y] 25 := ((((Blk.at _ 25 hB.symm).alloc _).alloc _).alloc _).ext hx
  have hB' : Blk w2 (B + 1) #[.int .i64 b.x, .int .i64 b.y] 25 := (((Blk.at _ 25 (by simp [hB])).alloc _).alloc _).ext hx
  have hC : Blk w2 (B + 2) #[.int .i64 c.x, .int .i64 c.y] 25 := ((Blk.at _ 25 (by simp [hB])).alloc _).ext hx
  have HE := Lib.hid (show Ext w w2 from (by repeat (first | exact Ext.refl _ | assumption | refine Ext.setCell ?_ (by first | (simp; done) | (simp; omega) | omega) _ | refine Ext.alloc ?_ _ | refine Ext.drew ?_ | refine Ext.trans ?_ (by assumption))))
  have HL := Lib.hid (fun W (e : Ext w2 W) => (show (W.cell? ⟨B, 0, none⟩ = some (.int .i64 a.x) ∧ W.cell? ⟨B, 1, none⟩ = some (.int .i64 a.y)) ∧ (W.cell? ⟨B + 1, 0, none⟩ = some (.int .i64 b.x) ∧ W.cell? ⟨B + 1, 1, none⟩ = some (.int .i64 b.y)) ∧ (W.cell? ⟨B + 2, 0, none⟩ = some (.int .i64 c.x) ∧ W.cell? ⟨B + 2, 1, none⟩ = some (.int .i64 c.y)) from
    ⟨⟨(hA.ext e).cell 0, (hA.ext e).cell 1⟩, ⟨(hB'.ext e).cell 0, (hB'.ext e).cell 1⟩, ⟨(hC.ext e).cell 0, (hC.ext e).cell 1⟩⟩))
  rw [hB]
  clear hx hB hA hB' hC
  go_upto_region 3 with fail
  refine wp_region_held_drew (S := fun W => Ext w2 W) (by kernel_rfl) ((Ext.refl w2).drew) (fun hHeld => ?_)
  refine tkL (i := 0) (H := HL) (h := ?_)
  refine tkL (i := 2) (H := HL) (h := ?_)
  refine tkL (i := 4) (H := HL) (h := ?_)
  refine ckL (i := 1) (h := fun K hK => ?_); go_simp; go_at_call 62; refine (of5_c a.x a.y _).mono ?_; rintro e w3 ⟨rfl, hx3⟩; go_wp2_with fail; refine shG hK (h := ?_); clear hK K; intro hHeld
  clear hx3
  refine ckL (i := 3) (h := fun K hK => ?_); go_simp; go_at_call 62; refine (of5_c b.x b.y _).mono ?_; rintro e w4 ⟨rfl, hx4⟩; go_wp2_with fail; refine shG hK (h := ?_); clear hK K; intro hHeld
  clear hx4
  refine ckL (i := 5) (h := fun K hK => ?_); go_simp; go_at_call 62; refine (of5_c c.x c.y _).mono ?_; rintro e w5 ⟨rfl, hx5⟩; go_wp2_with fail; refine shG hK (h := ?_); clear hK K; intro hHeld
  clear hx5
  refine ckL (i := 6) (h := fun K hK => ?_); go_simp; go_at_call 61; refine (HS.out _).mono ?_; rintro e w6 ⟨rfl, hx6⟩; go_wp2_with fail; refine shG hK (h := ?_); clear hK K; intro hHeld
  have HX := Lib.hid hHeld
  clear hx6
  refine tkW (i := 7) (h := ?_)
  refine tkW (i := 8) (h := ?_)
  refine doneL (by kernel_rfl) ?_
  clear hHeld
  go_wp2_with fail
  go_ret2
  exact ⟨rfl, HE.out.trans HX.out⟩
end Go.Proofs.Ytgmedfloflplgaa
