/- cross: of, area, along, crossing; point: Compare, In; as rational numbers. -/
import Derived.Test.YtagiaiocgjagnaaQWT
import Derived.Test.YtagiaiocgjagnaaQX02
import Derived.Test.YtagiaiocgjagnaaQFX
import Derived.Test.YtagiaiocgjagnaaQFQ
import Derived.Test.YtagiaiocgjagnaaQLNu
namespace Go.Proofs.Ytagiaiocgjagnaa
set_option linter.unusedSimpArgs false
set_option linter.unusedVariables false
open Go.RowKit

theorem IsQ.keepU {w w' : World} {f : FV} {q : Rat} (h : IsQ w f q) (k : IU w w') : IsQ w' f q := by
 obtain ⟨N, D, h1, h2⟩ := h
 exact ⟨N, D, ⟨h1.num.keepU k, h1.den.keepU k, h1.pos, h1.big, h1.low⟩, h2⟩

/-- p stands for the point q. -/
structure IsPQ (w : World) (p : PV) (q : QP) : Prop where
 x : IsQ w p.x q.x
 y : IsQ w p.y q.y
theorem IsPQ.keep {w w' : World} {p : PV} {q : QP} (h : IsPQ w p q) (k : IK w w') : IsPQ w' p q := ⟨h.x.keep k, h.y.keep k⟩
theorem IsPQ.keepU {w w' : World} {p : PV} {q : QP} (h : IsPQ w p q) (k : IU w w') : IsPQ w' p q := ⟨h.x.keepU k, h.y.keepU k⟩
theorem p64 : (2 : Nat) ^ 64 = 18446744073709551616 := by decide
theorem rat_one (x : Int) : (x : Rat) * ((1 : Int) : Rat) = (x : Rat) := by grind
theorem whole_q (x : Int) (w : World) (h1 : -9223372036854775808 ≤ x) (h2 : x ≤ 9223372036854775807) :
  Calls Try.prog 43 #[.int .i64 x] w fun e w' => ∃ f : FV, e = .returned f.v ∧ IsQ w' f (x : Rat) ∧ Ext w w' := by
 refine (whole_c x 64 w h1 h2 (by omega) (by rw [p64]; omega)).mono ?_
 rintro e w' ⟨f, rfl, hf, hx⟩
 exact ⟨f, rfl, hf.isQ (rat_one x), hx⟩
theorem pOf_q (p : Pt) (w : World) (h1 : -9223372036854775808 ≤ p.x) (h2 : p.x ≤ 9223372036854775807) (h3 : -9223372036854775808 ≤ p.y) (h4 : p.y ≤ 9223372036854775807) :
  Calls Try.prog 15 #[p.v] w fun e w' => ∃ f : PV, e = .returned f.v ∧ IsPQ w' f p.q ∧ Ext w w' := by
 refine (pOf_c p.x p.y 64 w h1 h2 h3 h4 (by omega) (by rw [p64]; omega) (by rw [p64]; omega)).mono ?_
 rintro e w' ⟨f, rfl, hf, hx⟩
 exact ⟨f, rfl, ⟨hf.fx.isQ (rat_one _), hf.fy.isQ (rat_one _)⟩, hx⟩
theorem compareQ_c (a b : FV) (p q : Rat) (w : World) (ha : IsQ w a p) (hb : IsQ w b q) :
  Calls Try.prog 59 #[a.v, b.v] w fun e w' => e = .returned (.int .i64 (cmpQ p q)) ∧ Ext w w' := by
 obtain ⟨N, D, h1, h2⟩ := ha
 obtain ⟨M, E, g1, g2⟩ := hb
 have h := fCompare_c a b N D M E w h1 g1
 rw [cmpI_cmpQ h1.pos g1.pos h2 g2] at h
 exact h
/-- The first number that is not zero. -/
def orF (x y : Int) : Int := if x = 0 then y else x
theorem or_c (b : Nat) (x y : Int) (w : World) (h : At w b #[.int .i64 x, .int .i64 y]) :
  Calls Try.prog 58 #[.slice (some ⟨b, 0, none⟩) 2 2] w fun e w' => e = .returned (.int .i64 (orF x y)) ∧ Ext w w' := by
 have c0 := h 0 (by simp); have c1 := h 1 (by simp)
 simp only [List.getElem?_toArray, List.getElem?_cons_zero, List.getElem?_cons_succ] at c0 c1
 clear h
 by_cases hx : x = 0
 ·by_cases hy : y = 0
  ·rw [show orF x y = 0 by unfold orF; rw [if_pos hx, hy]]
   subst hx; subst hy
   go_enter Try.func58, Try.ntmps58
   go_wp2_with fail
   refine wp_loop_rounds 3 ?_
   rw [rounds_succ]
   go_wp2_with fail
   rw [rounds_succ]
   go_wp2_with fail
   rw [rounds_succ]
   go_wp2_with fail
   go_ret
   exact ⟨rfl, (by repeat (first | exact Ext.refl _ | assumption | refine Ext.setCell ?_ (by first | (simp; done) | (simp; omega) | omega) _ | refine Ext.alloc ?_ _ | refine Ext.drew ?_ | refine Ext.trans ?_ (by assumption)))⟩
  ·rw [show orF x y = y by unfold orF; rw [if_pos hx]]
   have hy' : (y != 0) = true := by rw [bne_iff_ne]; exact hy
   subst hx; clear hy
   go_enter Try.func58, Try.ntmps58
   go_wp2_with fail
   refine wp_loop_rounds 2 ?_
   rw [rounds_succ]
   go_wp2_with fail
   rw [rounds_succ]
   go_wp2_with fail
   go_ret
   exact ⟨rfl, (by repeat (first | exact Ext.refl _ | assumption | refine Ext.setCell ?_ (by first | (simp; done) | (simp; omega) | omega) _ | refine Ext.alloc ?_ _ | refine Ext.drew ?_ | refine Ext.trans ?_ (by assumption)))⟩
 ·rw [show orF x y = x by unfold orF; rw [if_neg hx]]
  have hx' : (x != 0) = true := by rw [bne_iff_ne]; exact hx
  clear hx
  go_enter Try.func58, Try.ntmps58
  go_wp2_with fail
  refine wp_loop_rounds 1 ?_
  rw [rounds_succ]
  go_wp2_with fail
  go_ret
  exact ⟨rfl, (by repeat (first | exact Ext.refl _ | assumption | refine Ext.setCell ?_ (by first | (simp; done) | (simp; omega) | omega) _ | refine Ext.alloc ?_ _ | refine Ext.drew ?_ | refine Ext.trans ?_ (by assumption)))⟩
/-- What a point's box holds. -/
def PtB (w : World) (b : Nat) (p : PV) : Prop := w.cell? ⟨b, 0, none⟩ = some (.bool p.x.n.neg) ∧ w.cell? ⟨b, 1, none⟩ = some (.slice p.x.n.a p.x.n.n p.x.n.c) ∧ w.cell? ⟨b, 2, none⟩ = some (.bool p.x.d.neg) ∧ w.cell? ⟨b, 3, none⟩ = some (.slice p.x.d.a p.x.d.n p.x.d.c) ∧ w.cell? ⟨b, 4, none⟩ = some (.bool p.y.n.neg) ∧ w.cell? ⟨b, 5, none⟩ = some (.slice p.y.n.a p.y.n.n p.y.n.c) ∧ w.cell? ⟨b, 6, none⟩ = some (.bool p.y.d.neg) ∧ w.cell? ⟨b, 7, none⟩ = some (.slice p.y.d.a p.y.d.n p.y.d.c)
theorem At.ptB {w : World} {b : Nat} {p : PV} (h : At w b p.cs) : PtB w b p := ⟨h 0 (by simp), h 1 (by simp), h 2 (by simp), h 3 (by simp), h 4 (by simp), h 5 (by simp), h 6 (by simp), h 7 (by simp)⟩
theorem PtB.ext {w w' : World} {b : Nat} {p : PV} (h : PtB w b p) (e : Ext w w') : PtB w' b p := by
 obtain ⟨h0, h1, h2, h3, h4, h5, h6, h7⟩ := h
 exact ⟨e.cell h0, e.cell h1, e.cell h2, e.cell h3, e.cell h4, e.cell h5, e.cell h6, e.cell h7⟩
set_option maxRecDepth 100000 in
set_option maxHeartbeats 4000000 in
theorem pCompare_c (a b : PV) (p q : QP) (w : World) (ha : IsPQ w a p) (hb : IsPQ w b q) :
  Calls Try.prog 24 #[a.v, b.v] w fun e w' => e = .returned (.int .i64 (cmpP p q)) ∧ Ext w w' := by
 have HH := Lib.hid (And.intro ha hb)
 clear ha hb
 obtain ⟨x, hx⟩ : ∃ x, cmpQ p.x q.x = x := ⟨_, rfl⟩
 obtain ⟨y, hy⟩ : ∃ y, cmpQ p.y q.y = y := ⟨_, rfl⟩
 have HV := Lib.hid (show cmpP p q = orF x y by unfold cmpP orF; rw [hx, hy])
 have HS := Lib.hid (And.intro hx hy)
 rw [HV.out]
 clear hx hy HV
 obtain ⟨B, hB⟩ : ∃ B, w.heap.size = B := ⟨_, rfl⟩
 go_enter Try.func24, Try.ntmps24
 go_upto_region 1 with (fail)
 refine wp_gen (fun W => Ext w W ∧ PtB W B a ∧ PtB W (B + 1) b) ⟨(by repeat (first | exact Ext.refl _ | assumption | refine Ext.setCell ?_ (by first | (simp; done) | (simp; omega) | omega) _ | refine Ext.alloc ?_ _ | refine Ext.drew ?_ | refine Ext.trans ?_ (by assumption))), ((Blk.at a.cs 43 hB.symm).alloc _).at'.ptB, (Blk.at b.cs 43 (by simp [hB])).at'.ptB⟩ ?_
 try rw [hB]
 rintro V ⟨E0, A0, A1⟩
 have HE := Lib.hid E0
 have HA := Lib.hid (fun W (e : Ext V W) => And.intro (A0.ext e) (A1.ext e))
 clear E0 A0 A1
 refine wp_region_held_drew (S := fun W => Ext V W) (by kernel_rfl) ((Ext.refl V).drew) (fun hHeld => ?_)
 refine tkW (i := 0) (h := ?_)
 refine takeL (i := 1) (v := ?_) rfl (by kernel_rfl) (by kernel_rfl) (by kernel_rfl) (fun _ _ _ h => h) (Or.inl ⟨by rfl, ?_⟩) (by assumption) ?_; rotate_left; (focus (intro wq hSw; have hcc := HA.out wq hSw; clear hSw; unfold PtB at hcc; go_split_ands; go_simp; try with_reducible rfl)); (try simp only [Act.put, List.setIfInBounds_toArray, List.set_cons_zero, List.set_cons_succ])
 refine tkW (i := 2) (h := ?_)
 refine takeL (i := 3) (v := ?_) rfl (by kernel_rfl) (by kernel_rfl) (by kernel_rfl) (fun _ _ _ h => h) (Or.inl ⟨by rfl, ?_⟩) (by assumption) ?_; rotate_left; (focus (intro wq hSw; have hcc := HA.out wq hSw; clear hSw; unfold PtB at hcc; go_split_ands; go_simp; try with_reducible rfl)); (try simp only [Act.put, List.setIfInBounds_toArray, List.set_cons_zero, List.set_cons_succ])
 refine tkW (i := 5) (h := ?_)
 refine takeL (i := 6) (v := ?_) rfl (by kernel_rfl) (by kernel_rfl) (by kernel_rfl) (fun _ _ _ h => h) (Or.inl ⟨by rfl, ?_⟩) (by assumption) ?_; rotate_left; (focus (intro wq hSw; have hcc := HA.out wq hSw; clear hSw; unfold PtB at hcc; go_split_ands; go_simp; try with_reducible rfl)); (try simp only [Act.put, List.setIfInBounds_toArray, List.set_cons_zero, List.set_cons_succ])
 refine tkW (i := 7) (h := ?_)
 refine takeL (i := 8) (v := ?_) rfl (by kernel_rfl) (by kernel_rfl) (by kernel_rfl) (fun _ _ _ h => h) (Or.inl ⟨by rfl, ?_⟩) (by assumption) ?_; rotate_left; (focus (intro wq hSw; have hcc := HA.out wq hSw; clear hSw; unfold PtB at hcc; go_split_ands; go_simp; try with_reducible rfl)); (try simp only [Act.put, List.setIfInBounds_toArray, List.set_cons_zero, List.set_cons_succ])
 refine consL (i := 4) (by kernel_rfl) rfl (fun K hK => ?_); go_simp; go_at_call 59; refine (compareQ_c a.x b.x p.x q.x _ (HH.out.1.x.keep (HE.out.trans (by assumption)).ik) (HH.out.2.x.keep (HE.out.trans (by assumption)).ik)).mono ?_; rw [HS.out.1]; rintro e w2 ⟨rfl, hx2⟩; go_wp2_with fail; refine hK.out _ _ ?_ ?_; rotate_left; clear hK K; (try clear hHeld); intro hHeld; rotate_right; (focus (exact Ext.trans (by assumption) (by assumption))); (try simp only [Act.put, List.setIfInBounds_toArray, List.set_cons_zero, List.set_cons_succ])
 refine consL (i := 9) (by kernel_rfl) rfl (fun K hK => ?_); go_simp; go_at_call 59; refine (compareQ_c a.y b.y p.y q.y _ (HH.out.1.y.keep (HE.out.trans (by assumption)).ik) (HH.out.2.y.keep (HE.out.trans (by assumption)).ik)).mono ?_; rw [HS.out.2]; rintro e w3 ⟨rfl, hx3⟩; go_wp2_with fail; refine hK.out _ _ ?_ ?_; rotate_left; clear hK K; (try clear hHeld); intro hHeld; rotate_right; (focus (exact Ext.trans (by assumption) (by assumption))); (try simp only [Act.put, List.setIfInBounds_toArray, List.set_cons_zero, List.set_cons_succ])
 refine consL (i := 10) (by kernel_rfl) rfl (fun K hK => ?_); go_simp; refine hK.out _ _ ?_ ?_; rotate_left; clear hK K; (try clear hHeld); intro hHeld; rotate_right; (focus (exact (hHeld : Ext V _).alloc _)); (try simp only [Act.put, List.setIfInBounds_toArray, List.set_cons_zero, List.set_cons_succ])
 have hB3 := (Blk.at (w := w3) #[.int .i64 x, .int .i64 y] 3 rfl).at'
 refine consL (i := 11) (by kernel_rfl) rfl (fun K hK => ?_); go_simp; go_at_call 58; refine (or_c _ x y _ hB3).mono ?_; rintro e w4 ⟨rfl, hx4⟩; go_wp2_with fail; refine hK.out _ _ ?_ ?_; rotate_left; clear hK K; (try clear hHeld); intro hHeld; rotate_right; (focus (exact Ext.trans (by assumption) (by assumption))); (try simp only [Act.put, List.setIfInBounds_toArray, List.set_cons_zero, List.set_cons_succ])
 have HE4 := Lib.hid (HE.out.trans hHeld)
 refine tkW (i := 12) (h := ?_)
 refine doneL (by kernel_rfl) ?_
 go_wp2_with fail
 go_ret
 exact ⟨rfl, HE4.out⟩

theorem within_q (f g h : FV) (lo x hi : Rat) (w : World) (h1 : IsQ w f lo) (h2 : IsQ w g x) (h3 : IsQ w h hi) :
  Calls Try.prog 76 #[f.v, g.v, h.v, .func (.func 59) #[] #[]] w fun e w' => e = .returned (.bool (decide (lo ≤ x ∧ x ≤ hi))) ∧ Ext w w' := by
 have HH := Lib.hid (And.intro h1 (And.intro h2 h3))
 clear h1 h2 h3
 by_cases c1 : lo ≤ x
 ·have k1 : cmpQ lo x ≤ 0 := cmpQ_le.2 c1
  obtain ⟨s, hs⟩ : ∃ s, cmpQ lo x = s := ⟨_, rfl⟩
  obtain ⟨t, ht⟩ : ∃ t, cmpQ x hi = t := ⟨_, rfl⟩
  have HV := Lib.hid (show decide (lo ≤ x ∧ x ≤ hi) = decide (t ≤ 0) by rw [← ht]; simp [c1, cmpQ_le])
  rw [hs] at k1
  have HS := Lib.hid (And.intro hs ht)
  clear hs ht c1
  go_enter Try.func76, Try.ntmps76
  go_wp2_with fail
  refine (compareQ_c f g lo x _ (HH.out.1.keep (by repeat (first | exact IK.refl _ | refine IK.alloc ?_ _ | refine IK.drew ?_ | refine IK.setCell ?_ (by simp [hc, go_sem]) _))) (HH.out.2.1.keep (by repeat (first | exact IK.refl _ | refine IK.alloc ?_ _ | refine IK.drew ?_ | refine IK.setCell ?_ (by simp [hc, go_sem]) _)))).mono ?_
  rw [HS.out.1]
  rintro e w2 ⟨rfl, hx⟩
  have E2 : Ext w w2 := Ext.trans (by repeat (first | exact Ext.refl _ | assumption | refine Ext.setCell ?_ (by first | (simp; done) | (simp; omega) | omega) _ | refine Ext.alloc ?_ _ | refine Ext.drew ?_ | refine Ext.trans ?_ (by assumption))) hx
  have A1 := ((Blk.at g.cs 41 (w := w.alloc (.cells f.cs 41)) rfl).alloc (.cells h.cs 41)).ext hx |>.at'
  have A2 := (Blk.at h.cs 41 (w := (w.alloc (.cells f.cs 41)).alloc (.cells g.cs 41)) rfl).ext hx |>.at'
  simp only [World.size_alloc] at A1 A2
  have a0 := A1 0 (by simp); have a1 := A1 1 (by simp); have a2 := A1 2 (by simp); have a3 := A1 3 (by simp)
  have b0 := A2 0 (by simp); have b1 := A2 1 (by simp); have b2 := A2 2 (by simp); have b3 := A2 3 (by simp)
  simp only [List.getElem?_toArray, List.getElem?_cons_zero, List.getElem?_cons_succ] at a0 a1 a2 a3 b0 b1 b2 b3
  have HE := Lib.hid E2
  clear E2 hx A1 A2
  go_wp2_with fail
  refine (compareQ_c g h x hi _ (HH.out.2.1.keep HE.out.ik) (HH.out.2.2.keep HE.out.ik)).mono ?_
  rw [HS.out.2]
  rintro e w3 ⟨rfl, hx3⟩
  have HE3 := Lib.hid (HE.out.trans hx3)
  clear hx3
  go_wp2_with fail
  go_ret
  exact ⟨by rw [HV.out]; rfl, HE3.out⟩
 ·have k1 : cmpQ lo x = 1 := by
   have h0 : ¬ cmpQ lo x ≤ 0 := fun h => c1 (cmpQ_le.1 h)
   have := cmpQ_bd lo x
   omega
  have HV := Lib.hid (show decide (lo ≤ x ∧ x ≤ hi) = false by simp [c1])
  have HS := Lib.hid k1
  clear k1 c1
  go_enter Try.func76, Try.ntmps76
  go_wp2_with fail
  refine (compareQ_c f g lo x _ (HH.out.1.keep (by repeat (first | exact IK.refl _ | refine IK.alloc ?_ _ | refine IK.drew ?_ | refine IK.setCell ?_ (by simp [hc, go_sem]) _))) (HH.out.2.1.keep (by repeat (first | exact IK.refl _ | refine IK.alloc ?_ _ | refine IK.drew ?_ | refine IK.setCell ?_ (by simp [hc, go_sem]) _)))).mono ?_
  rw [HS.out]
  rintro e w2 ⟨rfl, hx⟩
  have E2 : Ext w w2 := Ext.trans (by repeat (first | exact Ext.refl _ | assumption | refine Ext.setCell ?_ (by first | (simp; done) | (simp; omega) | omega) _ | refine Ext.alloc ?_ _ | refine Ext.drew ?_ | refine Ext.trans ?_ (by assumption))) hx
  have HE := Lib.hid E2
  clear E2 hx
  go_wp2_with fail
  go_ret
  exact ⟨by rw [HV.out]; rfl, HE.out⟩
def Bx.ok (s : Bx) : Prop := (-9223372036854775808 ≤ s.a ∧ s.a ≤ 9223372036854775807) ∧ (-9223372036854775808 ≤ s.b ∧ s.b ≤ 9223372036854775807) ∧ (-9223372036854775808 ≤ s.c ∧ s.c ≤ 9223372036854775807) ∧ (-9223372036854775808 ≤ s.d ∧ s.d ≤ 9223372036854775807)
/-- Whether a point lies in a box. -/
def inB (s : Bx) (p : QP) : Bool := decide ((s.a : Rat) ≤ p.x ∧ p.x ≤ (s.c : Rat)) && decide ((s.b : Rat) ≤ p.y ∧ p.y ≤ (s.d : Rat))
set_option maxRecDepth 100000 in
set_option maxHeartbeats 8000000 in
theorem pIn_c (s : Bx) (a : PV) (p : QP) (w : World) (hs : s.ok) (ha : IsPQ w a p) :
  Calls Try.prog 51 #[s.v, a.v] w fun e w' => e = .returned (.bool (inB s p)) ∧ Ext w w' := by
 have HH := Lib.hid ha
 have HO := Lib.hid hs
 clear ha hs
 obtain ⟨u, hu⟩ : ∃ u, decide ((s.a : Rat) ≤ p.x ∧ p.x ≤ (s.c : Rat)) = u := ⟨_, rfl⟩
 obtain ⟨v, hv⟩ : ∃ v, decide ((s.b : Rat) ≤ p.y ∧ p.y ≤ (s.d : Rat)) = v := ⟨_, rfl⟩
 have HV := Lib.hid (show inB s p = (u && v) by unfold inB; rw [hu, hv])
 rw [HV.out]
 have HS := Lib.hid (And.intro hu hv)
 clear hu hv HV
 obtain ⟨B, hB⟩ : ∃ B, w.heap.size = B := ⟨_, rfl⟩
 cases u
 ·skip
  go_enter Try.func51, Try.ntmps51
  go_upto_region 1 with (fail)
  refine wp_gen (fun W => Ext w W ∧ (W.cell? ⟨B, 0, none⟩ = some (.int .i64 s.a) ∧ W.cell? ⟨B, 1, none⟩ = some (.int .i64 s.b) ∧ W.cell? ⟨B, 2, none⟩ = some (.int .i64 s.c) ∧ W.cell? ⟨B, 3, none⟩ = some (.int .i64 s.d)) ∧ PtB W (B + 1) a) ⟨(by repeat (first | exact Ext.refl _ | assumption | refine Ext.setCell ?_ (by first | (simp; done) | (simp; omega) | omega) _ | refine Ext.alloc ?_ _ | refine Ext.drew ?_ | refine Ext.trans ?_ (by assumption))), ⟨((Blk.at #[.int .i64 s.a, .int .i64 s.b, .int .i64 s.c, .int .i64 s.d] 101 hB.symm).alloc _).cell 0, ((Blk.at #[.int .i64 s.a, .int .i64 s.b, .int .i64 s.c, .int .i64 s.d] 101 hB.symm).alloc _).cell 1, ((Blk.at #[.int .i64 s.a, .int .i64 s.b, .int .i64 s.c, .int .i64 s.d] 101 hB.symm).alloc _).cell 2, ((Blk.at #[.int .i64 s.a, .int .i64 s.b, .int .i64 s.c, .int .i64 s.d] 101 hB.symm).alloc _).cell 3⟩, (Blk.at a.cs 43 (by simp [hB])).at'.ptB⟩ ?_
  try rw [hB]
  rintro V ⟨E0, A0, A1⟩
  have HE := Lib.hid E0
  have HA := Lib.hid (fun W (e : Ext V W) => (show W.cell? ⟨B, 0, none⟩ = some (.int .i64 s.a) ∧ W.cell? ⟨B, 1, none⟩ = some (.int .i64 s.b) ∧ W.cell? ⟨B, 2, none⟩ = some (.int .i64 s.c) ∧ W.cell? ⟨B, 3, none⟩ = some (.int .i64 s.d) from ⟨e.cell A0.1, e.cell A0.2.1, e.cell A0.2.2.1, e.cell A0.2.2.2⟩))
  have HB := Lib.hid (fun W (e : Ext V W) => A1.ext e)
  clear E0 A0 A1
  refine wp_region_held_drew (S := fun W => Ext V W) (by kernel_rfl) ((Ext.refl V).drew) (fun hHeld => ?_)
  refine tkW (i := 0) (h := ?_)
  refine tkW (i := 1) (h := ?_)
  refine takeL (i := 2) (v := ?_) rfl (by kernel_rfl) (by kernel_rfl) (by kernel_rfl) (fun _ _ _ h => h) (Or.inl ⟨by rfl, ?_⟩) (by assumption) ?_; rotate_left; (focus (intro wq hSw; have hcc := HA.out wq hSw; clear hSw; unfold PtB at hcc; go_split_ands; go_simp; try with_reducible rfl)); (try simp only [Act.put, List.setIfInBounds_toArray, List.set_cons_zero, List.set_cons_succ])
  refine tkW (i := 4) (h := ?_)
  refine takeL (i := 5) (v := ?_) rfl (by kernel_rfl) (by kernel_rfl) (by kernel_rfl) (fun _ _ _ h => h) (Or.inl ⟨by rfl, ?_⟩) (by assumption) ?_; rotate_left; (focus (intro wq hSw; have hcc := HB.out wq hSw; clear hSw; unfold PtB at hcc; go_split_ands; go_simp; try with_reducible rfl)); (try simp only [Act.put, List.setIfInBounds_toArray, List.set_cons_zero, List.set_cons_succ])
  refine tkW (i := 6) (h := ?_)
  refine tkW (i := 7) (h := ?_)
  refine takeL (i := 8) (v := ?_) rfl (by kernel_rfl) (by kernel_rfl) (by kernel_rfl) (fun _ _ _ h => h) (Or.inl ⟨by rfl, ?_⟩) (by assumption) ?_; rotate_left; (focus (intro wq hSw; have hcc := HA.out wq hSw; clear hSw; unfold PtB at hcc; go_split_ands; go_simp; try with_reducible rfl)); (try simp only [Act.put, List.setIfInBounds_toArray, List.set_cons_zero, List.set_cons_succ])
  refine consL (i := 3) (by kernel_rfl) rfl (fun K hK => ?_); go_simp; go_at_call 43; refine (whole_q s.a _ HO.out.1.1 HO.out.1.2).mono ?_; rintro e w2 ⟨f1, rfl, hf1, hx2⟩; go_wp2_with fail; refine hK.out _ _ ?_ ?_; rotate_left; clear hK K; (try clear hHeld); intro hHeld; rotate_right; (focus (exact Ext.trans (by assumption) (by assumption))); (try simp only [Act.put, List.setIfInBounds_toArray, List.set_cons_zero, List.set_cons_succ])
  refine consL (i := 9) (by kernel_rfl) rfl (fun K hK => ?_); go_simp; go_at_call 43; refine (whole_q s.c _ HO.out.2.2.1.1 HO.out.2.2.1.2).mono ?_; rintro e w3 ⟨f2, rfl, hf2, hx3⟩; go_wp2_with fail; refine hK.out _ _ ?_ ?_; rotate_left; clear hK K; (try clear hHeld); intro hHeld; rotate_right; (focus (exact Ext.trans (by assumption) (by assumption))); (try simp only [Act.put, List.setIfInBounds_toArray, List.set_cons_zero, List.set_cons_succ])
  refine consL (i := 10) (by kernel_rfl) rfl (fun K hK => ?_); go_simp; go_at_call 76; refine (within_q f1 a.x f2 _ _ _ _ (hf1.keep hx3.ik) (HH.out.x.keep (HE.out.trans (by assumption)).ik) hf2).mono ?_; rw [HS.out.1]; rintro e w4 ⟨rfl, hx4⟩; go_wp2_with fail; refine hK.out _ _ ?_ ?_; rotate_left; clear hK K; (try clear hHeld); intro hHeld; rotate_right; (focus (exact Ext.trans (by assumption) (by assumption))); (try simp only [Act.put, List.setIfInBounds_toArray, List.set_cons_zero, List.set_cons_succ])
  refine tkW (i := 11) (h := ?_)
  clear hf1 hf2 hx2 hx3 hx4
  refine tkN (i := 12) (h := ?_)
  refine tkN (i := 13) (h := ?_)
  refine tkN (i := 14) (h := ?_)
  refine tkN (i := 15) (h := ?_)
  refine tkN (i := 16) (h := ?_)
  refine tkN (i := 17) (h := ?_)
  refine tkN (i := 18) (h := ?_)
  refine tkN (i := 19) (h := ?_)
  refine tkN (i := 20) (h := ?_)
  refine tkN (i := 21) (h := ?_)
  refine tkN (i := 22) (h := ?_)
  have HE9 := Lib.hid (HE.out.trans hHeld)
  refine tkW (i := 23) (h := ?_)
  refine tkW (i := 24) (h := ?_)
  refine doneL (by kernel_rfl) ?_
  go_wp2_with fail
  go_ret
  exact ⟨rfl, HE9.out⟩
 ·skip
  go_enter Try.func51, Try.ntmps51
  go_upto_region 1 with (fail)
  refine wp_gen (fun W => Ext w W ∧ (W.cell? ⟨B, 0, none⟩ = some (.int .i64 s.a) ∧ W.cell? ⟨B, 1, none⟩ = some (.int .i64 s.b) ∧ W.cell? ⟨B, 2, none⟩ = some (.int .i64 s.c) ∧ W.cell? ⟨B, 3, none⟩ = some (.int .i64 s.d)) ∧ PtB W (B + 1) a) ⟨(by repeat (first | exact Ext.refl _ | assumption | refine Ext.setCell ?_ (by first | (simp; done) | (simp; omega) | omega) _ | refine Ext.alloc ?_ _ | refine Ext.drew ?_ | refine Ext.trans ?_ (by assumption))), ⟨((Blk.at #[.int .i64 s.a, .int .i64 s.b, .int .i64 s.c, .int .i64 s.d] 101 hB.symm).alloc _).cell 0, ((Blk.at #[.int .i64 s.a, .int .i64 s.b, .int .i64 s.c, .int .i64 s.d] 101 hB.symm).alloc _).cell 1, ((Blk.at #[.int .i64 s.a, .int .i64 s.b, .int .i64 s.c, .int .i64 s.d] 101 hB.symm).alloc _).cell 2, ((Blk.at #[.int .i64 s.a, .int .i64 s.b, .int .i64 s.c, .int .i64 s.d] 101 hB.symm).alloc _).cell 3⟩, (Blk.at a.cs 43 (by simp [hB])).at'.ptB⟩ ?_
  try rw [hB]
  rintro V ⟨E0, A0, A1⟩
  have HE := Lib.hid E0
  have HA := Lib.hid (fun W (e : Ext V W) => (show W.cell? ⟨B, 0, none⟩ = some (.int .i64 s.a) ∧ W.cell? ⟨B, 1, none⟩ = some (.int .i64 s.b) ∧ W.cell? ⟨B, 2, none⟩ = some (.int .i64 s.c) ∧ W.cell? ⟨B, 3, none⟩ = some (.int .i64 s.d) from ⟨e.cell A0.1, e.cell A0.2.1, e.cell A0.2.2.1, e.cell A0.2.2.2⟩))
  have HB := Lib.hid (fun W (e : Ext V W) => A1.ext e)
  clear E0 A0 A1
  refine wp_region_held_drew (S := fun W => Ext V W) (by kernel_rfl) ((Ext.refl V).drew) (fun hHeld => ?_)
  refine tkW (i := 0) (h := ?_)
  refine tkW (i := 1) (h := ?_)
  refine takeL (i := 2) (v := ?_) rfl (by kernel_rfl) (by kernel_rfl) (by kernel_rfl) (fun _ _ _ h => h) (Or.inl ⟨by rfl, ?_⟩) (by assumption) ?_; rotate_left; (focus (intro wq hSw; have hcc := HA.out wq hSw; clear hSw; unfold PtB at hcc; go_split_ands; go_simp; try with_reducible rfl)); (try simp only [Act.put, List.setIfInBounds_toArray, List.set_cons_zero, List.set_cons_succ])
  refine tkW (i := 4) (h := ?_)
  refine takeL (i := 5) (v := ?_) rfl (by kernel_rfl) (by kernel_rfl) (by kernel_rfl) (fun _ _ _ h => h) (Or.inl ⟨by rfl, ?_⟩) (by assumption) ?_; rotate_left; (focus (intro wq hSw; have hcc := HB.out wq hSw; clear hSw; unfold PtB at hcc; go_split_ands; go_simp; try with_reducible rfl)); (try simp only [Act.put, List.setIfInBounds_toArray, List.set_cons_zero, List.set_cons_succ])
  refine tkW (i := 6) (h := ?_)
  refine tkW (i := 7) (h := ?_)
  refine takeL (i := 8) (v := ?_) rfl (by kernel_rfl) (by kernel_rfl) (by kernel_rfl) (fun _ _ _ h => h) (Or.inl ⟨by rfl, ?_⟩) (by assumption) ?_; rotate_left; (focus (intro wq hSw; have hcc := HA.out wq hSw; clear hSw; unfold PtB at hcc; go_split_ands; go_simp; try with_reducible rfl)); (try simp only [Act.put, List.setIfInBounds_toArray, List.set_cons_zero, List.set_cons_succ])
  refine consL (i := 3) (by kernel_rfl) rfl (fun K hK => ?_); go_simp; go_at_call 43; refine (whole_q s.a _ HO.out.1.1 HO.out.1.2).mono ?_; rintro e w2 ⟨f1, rfl, hf1, hx2⟩; go_wp2_with fail; refine hK.out _ _ ?_ ?_; rotate_left; clear hK K; (try clear hHeld); intro hHeld; rotate_right; (focus (exact Ext.trans (by assumption) (by assumption))); (try simp only [Act.put, List.setIfInBounds_toArray, List.set_cons_zero, List.set_cons_succ])
  refine consL (i := 9) (by kernel_rfl) rfl (fun K hK => ?_); go_simp; go_at_call 43; refine (whole_q s.c _ HO.out.2.2.1.1 HO.out.2.2.1.2).mono ?_; rintro e w3 ⟨f2, rfl, hf2, hx3⟩; go_wp2_with fail; refine hK.out _ _ ?_ ?_; rotate_left; clear hK K; (try clear hHeld); intro hHeld; rotate_right; (focus (exact Ext.trans (by assumption) (by assumption))); (try simp only [Act.put, List.setIfInBounds_toArray, List.set_cons_zero, List.set_cons_succ])
  refine consL (i := 10) (by kernel_rfl) rfl (fun K hK => ?_); go_simp; go_at_call 76; refine (within_q f1 a.x f2 _ _ _ _ (hf1.keep hx3.ik) (HH.out.x.keep (HE.out.trans (by assumption)).ik) hf2).mono ?_; rw [HS.out.1]; rintro e w4 ⟨rfl, hx4⟩; go_wp2_with fail; refine hK.out _ _ ?_ ?_; rotate_left; clear hK K; (try clear hHeld); intro hHeld; rotate_right; (focus (exact Ext.trans (by assumption) (by assumption))); (try simp only [Act.put, List.setIfInBounds_toArray, List.set_cons_zero, List.set_cons_succ])
  refine tkW (i := 11) (h := ?_)
  clear hf1 hf2 hx2 hx3 hx4
  refine tkW (i := 12) (h := ?_)
  refine tkW (i := 13) (h := ?_)
  refine takeL (i := 14) (v := ?_) rfl (by kernel_rfl) (by kernel_rfl) (by kernel_rfl) (fun _ _ _ h => h) (Or.inl ⟨by rfl, ?_⟩) (by assumption) ?_; rotate_left; (focus (intro wq hSw; have hcc := HA.out wq hSw; clear hSw; unfold PtB at hcc; go_split_ands; go_simp; try with_reducible rfl)); (try simp only [Act.put, List.setIfInBounds_toArray, List.set_cons_zero, List.set_cons_succ])
  refine tkW (i := 16) (h := ?_)
  refine takeL (i := 17) (v := ?_) rfl (by kernel_rfl) (by kernel_rfl) (by kernel_rfl) (fun _ _ _ h => h) (Or.inl ⟨by rfl, ?_⟩) (by assumption) ?_; rotate_left; (focus (intro wq hSw; have hcc := HB.out wq hSw; clear hSw; unfold PtB at hcc; go_split_ands; go_simp; try with_reducible rfl)); (try simp only [Act.put, List.setIfInBounds_toArray, List.set_cons_zero, List.set_cons_succ])
  refine tkW (i := 18) (h := ?_)
  refine tkW (i := 19) (h := ?_)
  refine takeL (i := 20) (v := ?_) rfl (by kernel_rfl) (by kernel_rfl) (by kernel_rfl) (fun _ _ _ h => h) (Or.inl ⟨by rfl, ?_⟩) (by assumption) ?_; rotate_left; (focus (intro wq hSw; have hcc := HA.out wq hSw; clear hSw; unfold PtB at hcc; go_split_ands; go_simp; try with_reducible rfl)); (try simp only [Act.put, List.setIfInBounds_toArray, List.set_cons_zero, List.set_cons_succ])
  refine consL (i := 15) (by kernel_rfl) rfl (fun K hK => ?_); go_simp; go_at_call 43; refine (whole_q s.b _ HO.out.2.1.1 HO.out.2.1.2).mono ?_; rintro e w5 ⟨g1, rfl, hg1, hx5⟩; go_wp2_with fail; refine hK.out _ _ ?_ ?_; rotate_left; clear hK K; (try clear hHeld); intro hHeld; rotate_right; (focus (exact Ext.trans (by assumption) (by assumption))); (try simp only [Act.put, List.setIfInBounds_toArray, List.set_cons_zero, List.set_cons_succ])
  refine consL (i := 21) (by kernel_rfl) rfl (fun K hK => ?_); go_simp; go_at_call 43; refine (whole_q s.d _ HO.out.2.2.2.1 HO.out.2.2.2.2).mono ?_; rintro e w6 ⟨g2, rfl, hg2, hx6⟩; go_wp2_with fail; refine hK.out _ _ ?_ ?_; rotate_left; clear hK K; (try clear hHeld); intro hHeld; rotate_right; (focus (exact Ext.trans (by assumption) (by assumption))); (try simp only [Act.put, List.setIfInBounds_toArray, List.set_cons_zero, List.set_cons_succ])
  refine consL (i := 22) (by kernel_rfl) rfl (fun K hK => ?_); go_simp; go_at_call 76; refine (within_q g1 a.y g2 _ _ _ _ (hg1.keep hx6.ik) (HH.out.y.keep (HE.out.trans (by assumption)).ik) hg2).mono ?_; rw [HS.out.2]; rintro e w7 ⟨rfl, hx7⟩; go_wp2_with fail; refine hK.out _ _ ?_ ?_; rotate_left; clear hK K; (try clear hHeld); intro hHeld; rotate_right; (focus (exact Ext.trans (by assumption) (by assumption))); (try simp only [Act.put, List.setIfInBounds_toArray, List.set_cons_zero, List.set_cons_succ])
  have HE9 := Lib.hid (HE.out.trans hHeld)
  refine tkW (i := 23) (h := ?_)
  refine tkW (i := 24) (h := ?_)
  refine doneL (by kernel_rfl) ?_
  go_wp2_with fail
  go_ret
  exact ⟨rfl, HE9.out⟩
end Go.Proofs.Ytagiaiocgjagnaa
