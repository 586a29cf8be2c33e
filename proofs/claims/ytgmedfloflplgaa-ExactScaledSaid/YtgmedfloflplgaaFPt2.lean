/- point, exact: Of, between, Between. -/
import Derived.Test.YtgmedfloflplgaaFPt
import Derived.Test.YtgmedfloflplgaaFCmp
namespace Go.Proofs.Ytgmedfloflplgaa
set_option linter.unusedSimpArgs false
set_option linter.unusedVariables false
open Go.RowKit

theorem compareN_c (a b : FV) (x y u v : Int) (k j : Nat) (w : World) (ha : IsR w a x y k) (hb : IsR w b u v j) :
    Calls Try.prog 37 #[a.v, b.v] w fun e w' => e = .returned (.int .i64 (cmpI (x * v) (u * y))) ∧ Ext w w' := by
  obtain ⟨N, D, h1, h2, _⟩ := ha
  obtain ⟨M, E, g1, g2, _⟩ := hb
  have h := fCompare_c a b N D M E w h1 g1
  rw [EqQ.cmp h2 g2] at h
  exact h
/-- A point is stored. -/
abbrev putP (w : World) (b : Nat) (p : PV) : World := (((((((w.setCell ⟨b, 0, none⟩ (.bool p.x.n.neg)).setCell ⟨b, 1, none⟩ (.slice p.x.n.a p.x.n.n p.x.n.c)).setCell ⟨b, 2, none⟩ (.bool p.x.d.neg)).setCell ⟨b, 3, none⟩ (.slice p.x.d.a p.x.d.n p.x.d.c)).setCell ⟨b, 4, none⟩ (.bool p.y.n.neg)).setCell ⟨b, 5, none⟩ (.slice p.y.n.a p.y.n.n p.y.n.c)).setCell ⟨b, 6, none⟩ (.bool p.y.d.neg)).setCell ⟨b, 7, none⟩ (.slice p.y.d.a p.y.d.n p.y.d.c)
theorem putP_eq (w : World) (b : Nat) (p : PV) : putP w b p = putO (putO w b 0 p.x) b 4 p.y := rfl
theorem putP_cells {w : World} {b : Nat} (h : Own w b 8) (p : PV) : (putP w b p).cell? ⟨b, 0, none⟩ = some (.bool p.x.n.neg) ∧ (putP w b p).cell? ⟨b, 1, none⟩ = some (.slice p.x.n.a p.x.n.n p.x.n.c) ∧ (putP w b p).cell? ⟨b, 2, none⟩ = some (.bool p.x.d.neg) ∧ (putP w b p).cell? ⟨b, 3, none⟩ = some (.slice p.x.d.a p.x.d.n p.x.d.c) ∧
    (putP w b p).cell? ⟨b, 4, none⟩ = some (.bool p.y.n.neg) ∧ (putP w b p).cell? ⟨b, 5, none⟩ = some (.slice p.y.n.a p.y.n.n p.y.n.c) ∧ (putP w b p).cell? ⟨b, 6, none⟩ = some (.bool p.y.d.neg) ∧ (putP w b p).cell? ⟨b, 7, none⟩ = some (.slice p.y.d.a p.y.d.n p.y.d.c) := by
  rw [putP_eq]
  have f0 : Four (putO w b 0 p.x) b 0 p.x := Four.new h (by omega)
  have h' : Own (putO w b 0 p.x) b 8 := h.putO
  have f1 : Four (putO (putO w b 0 p.x) b 4 p.y) b 4 p.y := Four.new h' (by omega)
  have f2 : Four (putO (putO w b 0 p.x) b 4 p.y) b 0 p.x := f0.putO (by omega)
  exact ⟨f2.1, f2.2.1, f2.2.2.1, f2.2.2.2, f1.1, f1.2.1, f1.2.2.1, f1.2.2.2⟩
theorem IK.putP {w : World} {b : Nat} (h : Own w b 8) (p : PV) : IK w (putP w b p) := by
  rw [putP_eq]
  exact (IK.putO h p.x).trans (IK.putO (Own.putO h) p.y)
theorem ext_putP {a w : World} {b : Nat} (h : Ext a w) (hb : a.heap.size ≤ b) (p : PV) : Ext a (putP w b p) := by
  rw [putP_eq]
  exact ext_putO (ext_putO h hb p.x) hb p.y
abbrev PV.cs (p : PV) : Array Value := #[.bool p.x.n.neg, .slice p.x.n.a p.x.n.n p.x.n.c, .bool p.x.d.neg, .slice p.x.d.a p.x.d.n p.x.d.c, .bool p.y.n.neg, .slice p.y.n.a p.y.n.n p.y.n.c, .bool p.y.d.neg, .slice p.y.d.a p.y.d.n p.y.d.c]
abbrev zeroP : Array Value := #[.bool false, .slice none 0 0, .bool false, .slice none 0 0, .bool false, .slice none 0 0, .bool false, .slice none 0 0]
set_option maxRecDepth 100000 in
set_option maxHeartbeats 2000000 in
theorem pOf_c (x y : Int) (k : Nat) (w : World) (h1 : -9223372036854775808 ≤ x) (h2 : x ≤ 9223372036854775807) (h3 : -9223372036854775808 ≤ y) (h4 : y ≤ 9223372036854775807) (hk : 1 ≤ k) (hx : x.natAbs < 2 ^ k) (hy : y.natAbs < 2 ^ k) :
    Calls Try.prog 29 #[.agg #[.int .i64 x, .int .i64 y]] w fun e w' => ∃ p : PV, e = .returned p.v ∧ IsPt w' p x 1 y 1 k ∧ Ext w w' := by
  have HX := Lib.hid (And.intro hx hy)
  clear hx hy
  obtain ⟨B, hB⟩ : ∃ B, w.heap.size = B := ⟨_, rfl⟩
  go_enter Try.func29, Try.ntmps29
  go_upto_region 1 with (fail)
  refine wp_gen (fun W => Ext w W ∧ At W B #[.int .i64 x, .int .i64 y] ∧ Own W (B + 1) 8) ⟨(by repeat (first | exact Ext.refl _ | assumption | refine Ext.setCell ?_ (by first | (simp; done) | (simp; omega) | omega) _ | refine Ext.alloc ?_ _ | refine Ext.drew ?_ | refine Ext.trans ?_ (by assumption))), ((Blk.at _ 25 hB.symm).alloc _).at', (Blk.at zeroP 51 (by simp [hB])).own _ (by simp) noInt8⟩ ?_
  try rw [hB]
  rintro V ⟨E0, A0, O1⟩
  refine wp_region_held_drew (S := fun w' => Ext w w' ∧ At w' B #[.int .i64 x, .int .i64 y] ∧ Own w' (B + 1) 8) (by kernel_rfl) ?_ (fun hHeld => ?_)
  · exact ⟨E0.drew, A0, O1⟩
  refine takeL (i := 0) (v := ?_) rfl (by kernel_rfl) (by kernel_rfl) (by kernel_rfl) (fun _ _ _ h => h) (Or.inl ⟨by rfl, ?_⟩) (by assumption) ?_; rotate_left; (focus (intro wq hSw; (try dsimp only at hSw); go_simp; try with_reducible rfl)); (try simp only [Act.put, List.setIfInBounds_toArray, List.set_cons_zero, List.set_cons_succ])
  refine takeL (i := 1) (v := ?_) rfl (by kernel_rfl) (by kernel_rfl) (by kernel_rfl) (fun _ _ _ h => h) (Or.inl ⟨by rfl, ?_⟩) (by assumption) ?_; rotate_left; (focus (intro wq hSw; (try dsimp only at hSw); go_simp; try with_reducible rfl)); (try simp only [Act.put, List.setIfInBounds_toArray, List.set_cons_zero, List.set_cons_succ])
  refine takeL (i := 3) (v := ?_) rfl (by kernel_rfl) (by kernel_rfl) (by kernel_rfl) (fun _ _ _ h => h) (Or.inl ⟨by rfl, ?_⟩) (by assumption) ?_; rotate_left; (focus (intro wq hSw; (try dsimp only at hSw); go_simp; try with_reducible rfl)); (try simp only [Act.put, List.setIfInBounds_toArray, List.set_cons_zero, List.set_cons_succ])
  refine takeL (i := 4) (v := ?_) rfl (by kernel_rfl) (by kernel_rfl) (by kernel_rfl) (fun _ _ _ h => h) (Or.inl ⟨by rfl, ?_⟩) (by assumption) ?_; rotate_left; (focus (intro wq hSw; (try dsimp only at hSw); go_simp; try with_reducible rfl)); (try simp only [Act.put, List.setIfInBounds_toArray, List.set_cons_zero, List.set_cons_succ])
  refine consL (i := 2) (by kernel_rfl) rfl (fun K hK => ?_); go_simp; go_at_call 64; refine (whole_c x k _ h1 h2 hk HX.out.1).mono ?_; rintro e w2 ⟨f, rfl, hf, hx2⟩; go_wp2_with fail; refine hK.out _ _ ?_ (fun hHeld => ?_); rotate_left; clear hK K; rotate_right; (focus ((try dsimp only); exact kept)); (try simp only [Act.put, List.setIfInBounds_toArray, List.set_cons_zero, List.set_cons_succ])
  refine consL (i := 5) (by kernel_rfl) rfl (fun K hK => ?_); go_simp; go_at_call 64; refine (whole_c y k _ h3 h4 hk HX.out.2).mono ?_; rintro e w3 ⟨g, rfl, hg, hx3⟩; go_wp2_with fail; refine hK.out _ _ ?_ (fun hHeld => ?_); rotate_left; clear hK K; rotate_right; (focus ((try dsimp only); exact kept)); (try simp only [Act.put, List.setIfInBounds_toArray, List.set_cons_zero, List.set_cons_succ])
  refine takeL (i := 6) (v := ?_) rfl (by kernel_rfl) (by kernel_rfl) (by kernel_rfl) (fun _ _ _ h => h) (Or.inl ⟨by rfl, ?_⟩) (by assumption) ?_; rotate_left; (focus (intro wq hSw; (try dsimp only at hSw); go_simp; try with_reducible rfl)); (try simp only [Act.put, List.setIfInBounds_toArray, List.set_cons_zero, List.set_cons_succ])
  have O4 := hHeld.2.2
  have E4 := hHeld.1
  have HF := Lib.hid (And.intro (hf.keep hx3.ik) hg)
  clear hf hg
  refine consL (i := 7) (by kernel_rfl) rfl (fun K hK => ?_); go_simp; refine hK.out _ _ ?_ (fun hHeld => ?_); rotate_left; clear hK K; rotate_right; (focus ((try dsimp only); exact kept)); (try simp only [Act.put, List.setIfInBounds_toArray, List.set_cons_zero, List.set_cons_succ])
  refine doneL (by kernel_rfl) ?_
  obtain ⟨p0, p1, p2, p3, p4, p5, p6, p7⟩ := putP_cells O4 ⟨f, g⟩
  go_wp2_with fail
  refine bodyPost_ret (v := PV.v ⟨f, g⟩) (by simp [results, Try.results29, go_sem, p0, p1, p2, p3, p4, p5, p6, p7]) rfl ?_
  exact ⟨⟨f, g⟩, rfl, IsPt.keep ⟨HF.out.1, HF.out.2⟩ (IK.putP O4 ⟨f, g⟩), ext_putP E4 (by omega) ⟨f, g⟩⟩
/-- Whether x lies between a and b. -/
def insF (a ad b bd x xd : Int) : Bool := decide (0 ≤ cmpI (a * xd) (x * ad) * cmpI (x * bd) (b * xd))
theorem cmp_mul_bd (a b c d : Int) : -1 ≤ cmpI a b * cmpI c d ∧ cmpI a b * cmpI c d ≤ 1 := by
  unfold cmpI
  repeat' split
  all_goals simp
set_option maxRecDepth 100000 in
set_option maxHeartbeats 2000000 in
theorem between_c (a b p : FV) (x xd y yd z zd : Int) (k : Nat) (w : World) (ha : IsR w a x xd k) (hb : IsR w b y yd k) (hp : IsR w p z zd k) :
    Calls Try.prog 79 #[a.v, b.v, p.v] w fun e w' => e = .returned (.bool (insF x xd y yd z zd)) ∧ Ext w w' := by
  have HH := Lib.hid (And.intro ha (And.intro hb hp))
  clear ha hb hp
  have hbd := cmp_mul_bd (x * zd) (z * xd) (z * yd) (y * zd)
  obtain ⟨s, hs⟩ : ∃ s, cmpI (x * zd) (z * xd) = s := ⟨_, rfl⟩
  obtain ⟨t, ht⟩ : ∃ t, cmpI (z * yd) (y * zd) = t := ⟨_, rfl⟩
  have HV := Lib.hid (show insF x xd y yd z zd = decide (0 ≤ s * t) by unfold insF; rw [hs, ht])
  rw [hs, ht] at hbd
  have HS := Lib.hid (And.intro hs ht)
  have hw : IntKind.i64.wrap (s * t) = s * t := IntWalk.i64_in _ (by omega)
  clear hs ht hbd
  obtain ⟨B, hB⟩ : ∃ B, w.heap.size = B := ⟨_, rfl⟩
  go_enter Try.func79, Try.ntmps79
  go_upto_region 1 with (fail)
  refine wp_gen (fun W => Ext w W ∧ At W B a.cs ∧ At W (B + 1) b.cs ∧ At W (B + 1 + 1) p.cs) ⟨(by repeat (first | exact Ext.refl _ | assumption | refine Ext.setCell ?_ (by first | (simp; done) | (simp; omega) | omega) _ | refine Ext.alloc ?_ _ | refine Ext.drew ?_ | refine Ext.trans ?_ (by assumption))), (((Blk.at _ 49 hB.symm).alloc _).alloc _).at', ((Blk.at _ 49 (by simp [hB])).alloc _).at', (Blk.at _ 49 (by simp [hB])).at'⟩ ?_
  try rw [hB]
  rintro V ⟨E0, A0, A1, A2⟩
  refine wp_region_held_drew (S := fun w' => Ext w w' ∧ At w' B a.cs ∧ At w' (B + 1) b.cs ∧ At w' (B + 1 + 1) p.cs) (by kernel_rfl) ?_ (fun hHeld => ?_)
  · exact ⟨E0.drew, A0, A1, A2⟩
  refine takeL (i := 0) (v := ?_) rfl (by kernel_rfl) (by kernel_rfl) (by kernel_rfl) (fun _ _ _ h => h) (Or.inl ⟨by rfl, ?_⟩) (by assumption) ?_; rotate_left; (focus (intro wq hSw; (try dsimp only at hSw); go_simp; try with_reducible rfl)); (try simp only [Act.put, List.setIfInBounds_toArray, List.set_cons_zero, List.set_cons_succ])
  refine takeL (i := 1) (v := ?_) rfl (by kernel_rfl) (by kernel_rfl) (by kernel_rfl) (fun _ _ _ h => h) (Or.inl ⟨by rfl, ?_⟩) (by assumption) ?_; rotate_left; (focus (intro wq hSw; (try dsimp only at hSw); go_simp; try with_reducible rfl)); (try simp only [Act.put, List.setIfInBounds_toArray, List.set_cons_zero, List.set_cons_succ])
  refine takeL (i := 3) (v := ?_) rfl (by kernel_rfl) (by kernel_rfl) (by kernel_rfl) (fun _ _ _ h => h) (Or.inl ⟨by rfl, ?_⟩) (by assumption) ?_; rotate_left; (focus (intro wq hSw; (try dsimp only at hSw); go_simp; try with_reducible rfl)); (try simp only [Act.put, List.setIfInBounds_toArray, List.set_cons_zero, List.set_cons_succ])
  refine takeL (i := 4) (v := ?_) rfl (by kernel_rfl) (by kernel_rfl) (by kernel_rfl) (fun _ _ _ h => h) (Or.inl ⟨by rfl, ?_⟩) (by assumption) ?_; rotate_left; (focus (intro wq hSw; (try dsimp only at hSw); go_simp; try with_reducible rfl)); (try simp only [Act.put, List.setIfInBounds_toArray, List.set_cons_zero, List.set_cons_succ])
  refine consL (i := 2) (by kernel_rfl) rfl (fun K hK => ?_); go_simp; go_at_call 37; refine (compareN_c a p x xd z zd k k _ (HH.out.1.keep (Ext.ik (And.left (by assumption)))) (HH.out.2.2.keep (Ext.ik (And.left (by assumption))))).mono ?_; rw [HS.out.1]; rintro e w2 ⟨rfl, hx2⟩; go_wp2_with fail; refine hK.out _ _ ?_ (fun hHeld => ?_); rotate_left; clear hK K; rotate_right; (focus ((try dsimp only); exact kept)); (try simp only [Act.put, List.setIfInBounds_toArray, List.set_cons_zero, List.set_cons_succ])
  refine consL (i := 5) (by kernel_rfl) rfl (fun K hK => ?_); go_simp; go_at_call 37; refine (compareN_c p b z zd y yd k k _ (HH.out.2.2.keep (Ext.ik (And.left (by assumption)))) (HH.out.2.1.keep (Ext.ik (And.left (by assumption))))).mono ?_; rw [HS.out.2]; rintro e w3 ⟨rfl, hx3⟩; go_wp2_with fail; refine hK.out _ _ ?_ (fun hHeld => ?_); rotate_left; clear hK K; rotate_right; (focus ((try dsimp only); exact kept)); (try simp only [Act.put, List.setIfInBounds_toArray, List.set_cons_zero, List.set_cons_succ])
  have E9 := hHeld.1
  refine takeL (i := 6) (v := ?_) rfl (by kernel_rfl) (by kernel_rfl) (by kernel_rfl) (fun _ _ _ h => h) (Or.inl ⟨by rfl, ?_⟩) (by assumption) ?_; rotate_left; (focus (intro wq hSw; (try dsimp only at hSw); go_simp; try with_reducible rfl)); (try simp only [Act.put, List.setIfInBounds_toArray, List.set_cons_zero, List.set_cons_succ])
  refine takeL (i := 7) (v := ?_) rfl (by kernel_rfl) (by kernel_rfl) (by kernel_rfl) (fun _ _ _ h => h) (Or.inl ⟨by rfl, ?_⟩) (by assumption) ?_; rotate_left; (focus (intro wq hSw; (try dsimp only at hSw); go_simp; try with_reducible rfl)); (try simp only [Act.put, List.setIfInBounds_toArray, List.set_cons_zero, List.set_cons_succ])
  refine takeL (i := 8) (v := ?_) rfl (by kernel_rfl) (by kernel_rfl) (by kernel_rfl) (fun _ _ _ h => h) (Or.inl ⟨by rfl, ?_⟩) (by assumption) ?_; rotate_left; (focus (intro wq hSw; (try dsimp only at hSw); go_simp; try with_reducible rfl)); (try simp only [Act.put, List.setIfInBounds_toArray, List.set_cons_zero, List.set_cons_succ])
  refine doneL (by kernel_rfl) ?_
  go_wp2_with fail
  go_ret
  exact ⟨by rw [HV.out]; rfl, E9⟩
/-- Whether the point p lies on the segment from a to b. -/
def btwF (ax ay ad bx by' bd px py pd : Int) : Bool := (cmpI (areaF ax ay ad bx by' bd px py pd) 0 == 0) && insF ax ad bx bd px pd && insF ay ad by' bd py pd
set_option maxRecDepth 100000 in
set_option maxHeartbeats 4000000 in
theorem Between_c (a b p : PV) (ax ay ad bx by' bd px py pd : Int) (k : Nat) (w : World) (ha : IsPt w a ax ad ay ad k) (hb : IsPt w b bx bd by' bd k) (hp : IsPt w p px pd py pd k) (hk : 8 * k + 5 ≤ 16384) :
    Calls Try.prog 41 #[a.v, b.v, p.v] w fun e w' => e = .returned (.tuple #[.bool (btwF ax ay ad bx by' bd px py pd), .int .i64 0]) ∧ Ext w w' := by
  have HH := Lib.hid (And.intro ha (And.intro hb hp))
  clear ha hb hp
  obtain ⟨s, hs⟩ : ∃ s, cmpI (areaF ax ay ad bx by' bd px py pd) 0 = s := ⟨_, rfl⟩
  obtain ⟨u, hu⟩ : ∃ u, insF ax ad bx bd px pd = u := ⟨_, rfl⟩
  obtain ⟨v, hv⟩ : ∃ v, insF ay ad by' bd py pd = v := ⟨_, rfl⟩
  have hval : btwF ax ay ad bx by' bd px py pd = ((s == 0) && u && v) := by unfold btwF; rw [hs, hu, hv]
  have HS := Lib.hid (And.intro hs (And.intro hu hv))
  rw [hval]
  clear hs hu hv hval
  cases hz : (s == 0) <;> cases u <;> cases v
  all_goals
    go_enter Try.func41, Try.ntmps41
    go_wp2_with fail
    refine (Side_c a b p ax ay ad bx by' bd px py pd k _ (HH.out.1.keep (by repeat (first | exact IK.refl _ | refine IK.alloc ?_ _ | refine IK.drew ?_ | refine IK.setCell ?_ (by simp [hc, go_sem]) _))) (HH.out.2.1.keep (by repeat (first | exact IK.refl _ | refine IK.alloc ?_ _ | refine IK.drew ?_ | refine IK.setCell ?_ (by simp [hc, go_sem]) _))) (HH.out.2.2.keep (by repeat (first | exact IK.refl _ | refine IK.alloc ?_ _ | refine IK.drew ?_ | refine IK.setCell ?_ (by simp [hc, go_sem]) _))) hk).mono ?_
    rw [HS.out.1]
    rintro e w2 ⟨rfl, hx2⟩
    obtain ⟨hc, hf, hsz⟩ := hx2.see
    have hs0 : w.heap.size < w2.heap.size := by simp at hsz; omega
    have hs1 : w.heap.size + 1 < w2.heap.size := by simp at hsz; omega
    have hs2 : w.heap.size + 1 + 1 < w2.heap.size := by simp at hsz; omega
    have HX2 := Lib.hid (show Ext w w2 from Ext.trans (by repeat (first | exact Ext.refl _ | assumption | refine Ext.setCell ?_ (by first | (simp; done) | (simp; omega) | omega) _ | refine Ext.alloc ?_ _ | refine Ext.drew ?_ | refine Ext.trans ?_ (by assumption))) hx2)
    clear hx2 hsz
    go_wp2_with fail
    first
    | (go_ret2
       exact ⟨rfl, HX2.out⟩)
    | (refine (between_c a.x b.x p.x ax ad bx bd px pd k _ (HH.out.1.fx.keep HX2.out.ik) (HH.out.2.1.fx.keep HX2.out.ik) (HH.out.2.2.fx.keep HX2.out.ik)).mono ?_
       rw [HS.out.2.1]
       rintro e w3 ⟨rfl, hx3⟩
       obtain ⟨hc3, hf3, hsz3⟩ := hx3.see
       have HX3 := Lib.hid (HX2.out.trans hx3)
       clear hx3
       go_wp2_with fail
       first
       | (go_ret2
          exact ⟨rfl, HX3.out⟩)
       | (refine (between_c a.y b.y p.y ay ad by' bd py pd k _ (HH.out.1.fy.keep HX3.out.ik) (HH.out.2.1.fy.keep HX3.out.ik) (HH.out.2.2.fy.keep HX3.out.ik)).mono ?_
          rw [HS.out.2.2]
          rintro e w4 ⟨rfl, hx4⟩
          have HX4 := Lib.hid (HX3.out.trans hx4)
          clear hx4
          go_wp2_with fail
          go_ret2
          exact ⟨rfl, HX4.out⟩))
end Go.Proofs.Ytgmedfloflplgaa
