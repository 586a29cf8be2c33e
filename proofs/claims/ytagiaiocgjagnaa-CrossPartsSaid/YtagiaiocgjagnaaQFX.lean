/- exact, point: numbers and points as rational ones; Side, whole, Of, Compare of fractions. -/
import Derived.Test.YtagiaiocgjagnaaQWT
import Derived.Test.YtagiaiocgjagnaaQFArea
import Derived.Test.YtagiaiocgjagnaaQFCmp
namespace Go.Proofs.Ytagiaiocgjagnaa
set_option linter.unusedSimpArgs false
set_option linter.unusedVariables false
open Go.RowKit

/-- p stands for the point (x / xd, y / yd). -/
structure IsPt (w : World) (p : PV) (x xd y yd : Int) (k : Nat) : Prop where
 fx : IsR w p.x x xd k
 fy : IsR w p.y y yd k
theorem IsPt.keep {w w' : World} {p : PV} {x xd y yd : Int} {k : Nat} (h : IsPt w p x xd y yd k) (e : IK w w') : IsPt w' p x xd y yd k := ⟨h.fx.keep e, h.fy.keep e⟩
/-- The numerator of the doubled area of three points, each with one denominator. -/
def areaF (ax ay ad bx by' bd cx cy cd : Int) : Int := (bx * ad - ax * bd) * (cy * ad - ay * cd) - (by' * ad - ay * bd) * (cx * ad - ax * cd)
theorem low_one (x : Int) : x / gcdI x 1 = x ∧ 1 / gcdI x 1 = (1 : Int) := by
 have : gcdI x 1 = 1 := by unfold gcdI; simp
 rw [this]; simp
theorem one_lt (k : Nat) (hk : 1 ≤ k) : (1 : Int).natAbs < 2 ^ k := by
 have := Nat.pow_le_pow_right (show 0 < 2 by decide) hk
 simp; omega
set_option maxRecDepth 100000 in
set_option maxHeartbeats 1000000 in
theorem whole_c (x : Int) (k : Nat) (w : World) (h1 : -9223372036854775808 ≤ x) (h2 : x ≤ 9223372036854775807) (hk : 1 ≤ k) (hx : x.natAbs < 2 ^ k) :
  Calls Try.prog 43 #[.int .i64 x] w fun e w' => ∃ f : FV, e = .returned f.v ∧ IsR w' f x 1 k ∧ Ext w w' := by
 have HX := Lib.hid hx
 clear hx
 go_enter Try.func43, Try.ntmps43
 go_wp2_with fail
 refine (Of_c x 1 _ h1 h2 (by omega) (by omega)).mono ?_
 rw [(low_one x).1, (low_one x).2]
 rintro e w2 ⟨f, rfl, hf, hx⟩
 have HF := Lib.hid (And.intro hf (show Ext w w2 from Ext.trans (by repeat (first | exact Ext.refl _ | assumption | refine Ext.setCell ?_ (by first | (simp; done) | (simp; omega) | omega) _ | refine Ext.alloc ?_ _ | refine Ext.drew ?_ | refine Ext.trans ?_ (by assumption))) hx))
 have O2 : Own (w2.alloc (.cells f.cs 41)) w.heap.size 4 := Own.ext ((Ext.refl _).alloc _) (Own.ext hx ((Blk.at #[.bool false, .slice none 0 0, .bool false, .slice none 0 0] 41 rfl).own _ (by simp) (noIntF _ _ _ _ _ _ _ _)) (by omega)) (by omega)
 clear hf hx
 have o0 := O2.1 0 (by omega)
 have o1 := O2.1 1 (by omega)
 have o2 := O2.1 2 (by omega)
 have o3 := O2.1 3 (by omega)
 have hf0 := O2.2.1
 obtain ⟨p0, p1, p2, p3⟩ := putF_cells O2 f
 go_wp2_with fail
 refine bodyPost_ret (v := f.v) (by simp [results, Try.results43, go_sem, p0, p1, p2, p3]) rfl ?_
 exact ⟨f, rfl, ⟨x, 1, (HF.out.1.keep ((Ext.refl _).alloc _).ik).keep (IK.putF O2 f), EqQ.refl (by omega), HX.out, one_lt k hk⟩, ext_putF (HF.out.2.alloc _) (by omega) f⟩
/-- A point is stored. -/
abbrev putP (w : World) (b : Nat) (p : PV) : World := (((((((w.setCell ⟨b, 0, none⟩ (.bool p.x.n.neg)).setCell ⟨b, 1, none⟩ (.slice p.x.n.a p.x.n.n p.x.n.c)).setCell ⟨b, 2, none⟩ (.bool p.x.d.neg)).setCell ⟨b, 3, none⟩ (.slice p.x.d.a p.x.d.n p.x.d.c)).setCell ⟨b, 4, none⟩ (.bool p.y.n.neg)).setCell ⟨b, 5, none⟩ (.slice p.y.n.a p.y.n.n p.y.n.c)).setCell ⟨b, 6, none⟩ (.bool p.y.d.neg)).setCell ⟨b, 7, none⟩ (.slice p.y.d.a p.y.d.n p.y.d.c)
theorem putP_eq (w : World) (b : Nat) (p : PV) : putP w b p = putO (putO w b 0 p.x) b 4 p.y := rfl
theorem putP_cells {w : World} {b : Nat} (h : Own w b 8) (p : PV) : (putP w b p).cell? ⟨b, 0, none⟩ = some (.bool p.x.n.neg) ∧ (putP w b p).cell? ⟨b, 1, none⟩ = some (.slice p.x.n.a p.x.n.n p.x.n.c) ∧ (putP w b p).cell? ⟨b, 2, none⟩ = some (.bool p.x.d.neg) ∧ (putP w b p).cell? ⟨b, 3, none⟩ = some (.slice p.x.d.a p.x.d.n p.x.d.c) ∧
  (putP w b p).cell? ⟨b, 4, none⟩ = some (.bool p.y.n.neg) ∧ (putP w b p).cell? ⟨b, 5, none⟩ = some (.slice p.y.n.a p.y.n.n p.y.n.c) ∧ (putP w b p).cell? ⟨b, 6, none⟩ = some (.bool p.y.d.neg) ∧ (putP w b p).cell? ⟨b, 7, none⟩ = some (.slice p.y.d.a p.y.d.n p.y.d.c) := by
 rw [putP_eq]
 have f0 : Four (putO w b 0 p.x) b 0 p.x := Four.new h (by omega)
 have h' : Own (putO w b 0 p.x) b 8 := h.putO
 have f1 : Four (putO (putO w b 0 p.x) b 4 p.y) b 4 p.y := Four.new h' (by omega)
 have f2 : Four (putO (putO w b 0 p.x) b 4 p.y) b 0 p.x := f0.putO (by omega)
 exact ⟨f2.1, f2.2.1, f2.2.2.1, f2.2.2.2, f1.1, f1.2.1, f1.2.2.1, f1.2.2.2⟩
theorem IK.putP {w : World} {b : Nat} (h : Own w b 8) (p : PV) : IK w (putP w b p) := by
 rw [putP_eq]
 exact (IK.putO h p.x).trans (IK.putO (Own.putO h) p.y)
theorem ext_putP {a w : World} {b : Nat} (h : Ext a w) (hb : a.heap.size ≤ b) (p : PV) : Ext a (putP w b p) := by
 rw [putP_eq]
 exact ext_putO (ext_putO h hb p.x) hb p.y
abbrev PV.cs (p : PV) : Array Value := #[.bool p.x.n.neg, .slice p.x.n.a p.x.n.n p.x.n.c, .bool p.x.d.neg, .slice p.x.d.a p.x.d.n p.x.d.c, .bool p.y.n.neg, .slice p.y.n.a p.y.n.n p.y.n.c, .bool p.y.d.neg, .slice p.y.d.a p.y.d.n p.y.d.c]
abbrev zeroP : Array Value := #[.bool false, .slice none 0 0, .bool false, .slice none 0 0, .bool false, .slice none 0 0, .bool false, .slice none 0 0]
set_option maxRecDepth 100000 in
set_option maxHeartbeats 2000000 in
theorem pOf_c (x y : Int) (k : Nat) (w : World) (h1 : -9223372036854775808 ≤ x) (h2 : x ≤ 9223372036854775807) (h3 : -9223372036854775808 ≤ y) (h4 : y ≤ 9223372036854775807) (hk : 1 ≤ k) (hx : x.natAbs < 2 ^ k) (hy : y.natAbs < 2 ^ k) :
  Calls Try.prog 15 #[.agg #[.int .i64 x, .int .i64 y]] w fun e w' => ∃ p : PV, e = .returned p.v ∧ IsPt w' p x 1 y 1 k ∧ Ext w w' := by
 have HX := Lib.hid (And.intro hx hy)
 clear hx hy
 obtain ⟨B, hB⟩ : ∃ B, w.heap.size = B := ⟨_, rfl⟩
 go_enter Try.func15, Try.ntmps15
 go_upto_region 1 with (fail)
 refine wp_gen (fun W => Ext w W ∧ At W B #[.int .i64 x, .int .i64 y] ∧ Own W (B + 1) 8) ⟨(by repeat (first | exact Ext.refl _ | assumption | refine Ext.setCell ?_ (by first | (simp; done) | (simp; omega) | omega) _ | refine Ext.alloc ?_ _ | refine Ext.drew ?_ | refine Ext.trans ?_ (by assumption))), ((Blk.at _ 23 hB.symm).alloc _).at', (Blk.at zeroP 43 (by simp [hB])).own _ (by simp) noInt8⟩ ?_
 try rw [hB]
 rintro V ⟨E0, A0, O1⟩
 refine wp_region_held_drew (S := fun w' => Ext w w' ∧ At w' B #[.int .i64 x, .int .i64 y] ∧ Own w' (B + 1) 8) (by kernel_rfl) ?_ (fun hHeld => ?_)
 ·exact ⟨E0.drew, A0, O1⟩
 refine tkW (i := 0) (h := ?_)
 refine tkW (i := 1) (h := ?_)
 refine tkW (i := 3) (h := ?_)
 refine tkW (i := 4) (h := ?_)
 refine consL (i := 2) (by kernel_rfl) rfl (fun K hK => ?_); go_simp; go_at_call 43; refine (whole_c x k _ h1 h2 hk HX.out.1).mono ?_; rintro e w2 ⟨f, rfl, hf, hx2⟩; go_wp2_with fail; refine hK.out _ _ ?_ (fun hHeld => ?_); rotate_left; clear hK K; rotate_right; (focus ((try dsimp only); exact kept)); (try simp only [Act.put, List.setIfInBounds_toArray, List.set_cons_zero, List.set_cons_succ])
 refine consL (i := 5) (by kernel_rfl) rfl (fun K hK => ?_); go_simp; go_at_call 43; refine (whole_c y k _ h3 h4 hk HX.out.2).mono ?_; rintro e w3 ⟨g, rfl, hg, hx3⟩; go_wp2_with fail; refine hK.out _ _ ?_ (fun hHeld => ?_); rotate_left; clear hK K; rotate_right; (focus ((try dsimp only); exact kept)); (try simp only [Act.put, List.setIfInBounds_toArray, List.set_cons_zero, List.set_cons_succ])
 refine tkW (i := 6) (h := ?_)
 have O4 := hHeld.2.2
 have E4 := hHeld.1
 have HF := Lib.hid (And.intro (hf.keep hx3.ik) hg)
 clear hf hg
 refine consL (i := 7) (by kernel_rfl) rfl (fun K hK => ?_); go_simp; refine hK.out _ _ ?_ (fun hHeld => ?_); rotate_left; clear hK K; rotate_right; (focus ((try dsimp only); exact kept)); (try simp only [Act.put, List.setIfInBounds_toArray, List.set_cons_zero, List.set_cons_succ])
 refine doneL (by kernel_rfl) ?_
 obtain ⟨p0, p1, p2, p3, p4, p5, p6, p7⟩ := putP_cells O4 ⟨f, g⟩
 go_wp2_with fail
 refine bodyPost_ret (v := PV.v ⟨f, g⟩) (by simp [results, Try.results15, go_sem, p0, p1, p2, p3, p4, p5, p6, p7]) rfl ?_
 exact ⟨⟨f, g⟩, rfl, IsPt.keep ⟨HF.out.1, HF.out.2⟩ (IK.putP O4 ⟨f, g⟩), ext_putP E4 (by omega) ⟨f, g⟩⟩
end Go.Proofs.Ytagiaiocgjagnaa
