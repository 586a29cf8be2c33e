/- meresmanref06: Side, Area, Between of points with small numbers. -/
import Derived.Test.YtgmedfloflplgaaR05b
namespace Go.Proofs.Ytgmedfloflplgaa
set_option linter.unusedSimpArgs false
set_option linter.unusedVariables false
open Go.RowKit

/-- A point in the box from -1 to 32, its denominator at most m. -/
structure RIn (p : RP) (m : Int) : Prop where
  d1 : 1 ≤ p.d
  dm : p.d ≤ m
  x1 : -p.d ≤ p.x
  x2 : p.x ≤ 32 * p.d
  y1 : -p.d ≤ p.y
  y2 : p.y ≤ 32 * p.d
theorem RIn.le {p : RP} {m n : Int} (h : RIn p m) (hm : m ≤ n) : RIn p n := ⟨h.d1, Int.le_trans h.dm hm, h.x1, h.x2, h.y1, h.y2⟩
/-- x times a denominator, within the box. -/
theorem box_mul {x d e : Int} (h1 : -d ≤ x) (h2 : x ≤ 32 * d) (he : 1 ≤ e) : -(d * e) ≤ x * e ∧ x * e ≤ 32 * (d * e) := by
  have a := Int.mul_le_mul_of_nonneg_right h1 (show 0 ≤ e by omega)
  have b := Int.mul_le_mul_of_nonneg_right h2 (show 0 ≤ e by omega)
  rw [Int.neg_mul] at a
  rw [Int.mul_assoc] at b
  exact ⟨a, b⟩
theorem den_mul {d e m n : Int} (h1 : 1 ≤ d) (h2 : d ≤ m) (h3 : 1 ≤ e) (h4 : e ≤ n) : 1 ≤ d * e ∧ d * e ≤ m * n := by
  refine ⟨?_, Int.mul_le_mul h2 h4 (by omega) (by omega)⟩
  have := Int.mul_le_mul h1 h3 (by omega) (by omega)
  simpa using this
theorem abs_mul {x y : Int} {m n : Int} (h1 : -m ≤ x) (h2 : x ≤ m) (h3 : -n ≤ y) (h4 : y ≤ n) : -(m * n) ≤ x * y ∧ x * y ≤ m * n := by
  have hx : x.natAbs ≤ m.toNat := by omega
  have hy : y.natAbs ≤ n.toNat := by omega
  have h : (x * y).natAbs ≤ m.toNat * n.toNat := by rw [Int.natAbs_mul]; exact Nat.mul_le_mul hx hy
  have h5 : ((m.toNat * n.toNat : Nat) : Int) = m * n := by rw [Int.natCast_mul, Int.toNat_of_nonneg (by omega), Int.toNat_of_nonneg (by omega)]
  omega
/-- The difference of two coordinates, times the denominators. -/
theorem rdiff_bd {x y d e m : Int} (h1 : -d ≤ x) (h2 : x ≤ 32 * d) (h3 : -e ≤ y) (h4 : y ≤ 32 * e) (hd : 1 ≤ d) (he : 1 ≤ e) (hm : d ≤ m) (hn : e ≤ m) (h0 : m ≤ 6912) :
    N62 (x * e) ∧ N62 (y * d) ∧ -1576599552 ≤ x * e - y * d ∧ x * e - y * d ≤ 1576599552 := by
  have a := box_mul h1 h2 he
  have b := box_mul h3 h4 hd
  have c := den_mul hd (Int.le_trans hm h0) he (Int.le_trans hn h0)
  rw [Int.mul_comm e d] at b
  generalize d * e = P at *
  generalize x * e = X at *
  generalize y * d = Y at *
  unfold N62
  omega
theorem rprod_bd {x y : Int} (h1 : -1576599552 ≤ x) (h2 : x ≤ 1576599552) (h3 : -1576599552 ≤ y) (h4 : y ≤ 1576599552) : N62 (x * y) := by
  have := abs_mul h1 h2 h3 h4
  unfold N62
  omega
theorem rside_c (a b c : RP) (w : World) (ha : RIn a 6912) (hb : RIn b 6912) (hc : RIn c 6912) :
    Calls Try.prog 47 #[a.v, b.v, c.v] w fun e w' => e = .returned (.int .i64 (cmpI (areaRP a b c) 0)) ∧ Ext w w' := by
  have p1 := rdiff_bd hb.x1 hb.x2 ha.x1 ha.x2 hb.d1 ha.d1 hb.dm ha.dm (by omega)
  have p2 := rdiff_bd hb.y1 hb.y2 ha.y1 ha.y2 hb.d1 ha.d1 hb.dm ha.dm (by omega)
  have p3 := rdiff_bd hc.x1 hc.x2 ha.x1 ha.x2 hc.d1 ha.d1 hc.dm ha.dm (by omega)
  have p4 := rdiff_bd hc.y1 hc.y2 ha.y1 ha.y2 hc.d1 ha.d1 hc.dm ha.dm (by omega)
  have q1 := rprod_bd p1.2.2.1 p1.2.2.2 p4.2.2.1 p4.2.2.2
  have q2 := rprod_bd p2.2.2.1 p2.2.2.2 p3.2.2.1 p3.2.2.2
  have HH := Lib.hid (And.intro p1 (And.intro p2 (And.intro p3 (And.intro p4 (And.intro q1 q2)))))
  clear p1 p2 p3 p4 q1 q2 ha hb hc
  go_enter Try.func47, Try.ntmps47
  go_wp2_with (go_at_call 61; refine (side5_c a b c _ HH.out.1.1 HH.out.1.2.1 HH.out.2.1.1 HH.out.2.1.2.1 HH.out.2.2.1.1 HH.out.2.2.1.2.1 HH.out.2.2.2.1.1 HH.out.2.2.2.1.2.1 HH.out.2.2.2.2.1 HH.out.2.2.2.2.2).mono ?_; rintro e w2 ⟨rfl, hx⟩)
  go_ret
  exact ⟨rfl, Ext.trans (by repeat (first | exact Ext.refl _ | assumption | refine Ext.setCell ?_ (by first | (simp; done) | (simp; omega) | omega) _ | refine Ext.alloc ?_ _ | refine Ext.drew ?_ | refine Ext.trans ?_ (by assumption))) hx⟩
theorem rcompare_c (a b : RP) (w : World) (ha : RIn a 6912) (hb : RIn b 6912) : Calls Try.prog 80 #[a.v, b.v] w fun e w' => e = .returned (.int .i64 (cmp5 a b)) ∧ Ext w w' := by
  have p1 := rdiff_bd ha.x1 ha.x2 hb.x1 hb.x2 ha.d1 hb.d1 ha.dm hb.dm (by omega)
  have p2 := rdiff_bd ha.y1 ha.y2 hb.y1 hb.y2 ha.d1 hb.d1 ha.dm hb.dm (by omega)
  exact compare5_c a b w p1.1 p1.2.1 p2.1 p2.2.1
theorem cmp5_bd (a b : RP) : -1 ≤ cmp5 a b ∧ cmp5 a b ≤ 1 := by unfold cmp5; split <;> exact cmpI_bd _ _
/-- Whether p lies on the segment from a to b. -/
def btwR (a b p : RP) : Bool := decide (cmpI (areaRP a b p) 0 = 0 ∧ 0 ≤ cmp5 a p * cmp5 p b)
set_option maxRecDepth 100000 in
set_option maxHeartbeats 4000000 in
theorem rbetween_c (a b p : RP) (w : World) (ha : RIn a 6912) (hb : RIn b 6912) (hp : RIn p 6912) :
    Calls Try.prog 42 #[a.v, b.v, p.v] w fun e w' => e = .returned (.bool (btwR a b p)) ∧ Ext w w' := by
  have HH := Lib.hid (And.intro ha (And.intro hb hp))
  clear ha hb hp
  by_cases c : cmpI (areaRP a b p) 0 = 0
  · have HC := Lib.hid c
    have c2 : (cmpI (areaRP a b p) 0 != 0) = false := by rw [c]; rfl
    have k1 := cmp5_bd a p
    have k2 := cmp5_bd p b
    have HV := Lib.hid (show btwR a b p = decide (0 ≤ cmp5 a p * cmp5 p b) by unfold btwR; simp [c])
    obtain ⟨s, hs⟩ : ∃ s, cmp5 a p = s := ⟨_, rfl⟩
    obtain ⟨t, ht⟩ : ∃ t, cmp5 p b = t := ⟨_, rfl⟩
    rw [hs, ht] at HV
    rw [hs] at k1
    rw [ht] at k2
    have HS := Lib.hid (And.intro hs ht)
    clear c hs ht
    obtain ⟨hst1, hst2⟩ := abs_mul (m := 1) (n := 1) k1.1 k1.2 k2.1 k2.2
    have hw : IntKind.i64.wrap (s * t) = s * t := IntWalk.i64_in _ (by omega)
    obtain ⟨B, hB⟩ : ∃ B, w.heap.size = B := ⟨_, rfl⟩
    clear hst1 hst2 k1 k2
    go_enter Try.func42, Try.ntmps42
    go_upto_region 1 with (fail)
    refine wp_gen (fun W => Ext w W ∧ At W B #[.int .i64 a.x, .int .i64 a.y, .int .i64 a.d] ∧ At W (B + 1) #[.int .i64 b.x, .int .i64 b.y, .int .i64 b.d] ∧ At W (B + 1 + 1) #[.int .i64 p.x, .int .i64 p.y, .int .i64 p.d]) ⟨(by repeat (first | exact Ext.refl _ | assumption | refine Ext.setCell ?_ (by first | (simp; done) | (simp; omega) | omega) _ | refine Ext.alloc ?_ _ | refine Ext.drew ?_ | refine Ext.trans ?_ (by assumption))), (((Blk.at _ 68 hB.symm).alloc _).alloc _).at', ((Blk.at _ 68 (by simp [hB])).alloc _).at', (Blk.at _ 68 (by simp [hB])).at'⟩ ?_
    rintro V ⟨E0, A0, A1, A2⟩
    have HE := Lib.hid E0
    clear E0
    have a0 := A0 0 (by simp); have a1 := A0 1 (by simp); have a2 := A0 2 (by simp)
    have b0 := A1 0 (by simp); have b1 := A1 1 (by simp); have b2 := A1 2 (by simp)
    have p0 := A2 0 (by simp); have p1 := A2 1 (by simp); have p2 := A2 2 (by simp)
    simp at a0 a1 a2 b0 b1 b2 p0 p1 p2
    go_wp2_with (go_at_call 47; refine (rside_c a b p _ HH.out.1 HH.out.2.1 HH.out.2.2).mono ?_; rintro e w2 ⟨rfl, hx⟩; have hA := A0.ext hx (by simp); have hB := A1.ext hx (by simp); have hP := A2.ext hx (by simp); have HE2 := Lib.hid (HE.out.trans hx); clear hx)
    clear a0 a1 a2 b0 b1 b2 p0 p1 p2 A0 A1 A2
    refine wp_region_held_drew (S := fun w' => Ext w w' ∧ At w' B #[.int .i64 a.x, .int .i64 a.y, .int .i64 a.d] ∧ At w' (B + 1) #[.int .i64 b.x, .int .i64 b.y, .int .i64 b.d] ∧ At w' (B + 1 + 1) #[.int .i64 p.x, .int .i64 p.y, .int .i64 p.d]) (by kernel_rfl) ?_ (fun hHeld => ?_)
    · exact ⟨HE2.out.drew, hA, hB, hP⟩
    refine takeL (i := 0) (v := ?_) rfl (by kernel_rfl) (by kernel_rfl) (by kernel_rfl) (fun _ _ _ h => h) (Or.inl ⟨by rfl, ?_⟩) (by assumption) ?_; rotate_left; (focus (intro wq hSw; (try dsimp only at hSw); go_simp; try with_reducible rfl)); (try simp only [Act.put, List.setIfInBounds_toArray, List.set_cons_zero, List.set_cons_succ])
    refine takeL (i := 1) (v := ?_) rfl (by kernel_rfl) (by kernel_rfl) (by kernel_rfl) (fun _ _ _ h => h) (Or.inl ⟨by rfl, ?_⟩) (by assumption) ?_; rotate_left; (focus (intro wq hSw; (try dsimp only at hSw); go_simp; try with_reducible rfl)); (try simp only [Act.put, List.setIfInBounds_toArray, List.set_cons_zero, List.set_cons_succ])
    refine takeL (i := 3) (v := ?_) rfl (by kernel_rfl) (by kernel_rfl) (by kernel_rfl) (fun _ _ _ h => h) (Or.inl ⟨by rfl, ?_⟩) (by assumption) ?_; rotate_left; (focus (intro wq hSw; (try dsimp only at hSw); go_simp; try with_reducible rfl)); (try simp only [Act.put, List.setIfInBounds_toArray, List.set_cons_zero, List.set_cons_succ])
    refine takeL (i := 4) (v := ?_) rfl (by kernel_rfl) (by kernel_rfl) (by kernel_rfl) (fun _ _ _ h => h) (Or.inl ⟨by rfl, ?_⟩) (by assumption) ?_; rotate_left; (focus (intro wq hSw; (try dsimp only at hSw); go_simp; try with_reducible rfl)); (try simp only [Act.put, List.setIfInBounds_toArray, List.set_cons_zero, List.set_cons_succ])
    refine consL (i := 2) (by kernel_rfl) rfl (fun K hK => ?_); go_simp; go_at_call 80; refine (rcompare_c a p _ HH.out.1 HH.out.2.2).mono ?_; rw [HS.out.1]; rintro e w5 ⟨rfl, hx5⟩; go_wp2_with fail; refine hK.out _ _ ?_ (fun hHeld => ?_); rotate_left; clear hK K; rotate_right; (focus ((try dsimp only); exact kept)); (try simp only [Act.put, List.setIfInBounds_toArray, List.set_cons_zero, List.set_cons_succ])
    refine consL (i := 5) (by kernel_rfl) rfl (fun K hK => ?_); go_simp; go_at_call 80; refine (rcompare_c p b _ HH.out.2.2 HH.out.2.1).mono ?_; rw [HS.out.2]; rintro e w6 ⟨rfl, hx6⟩; go_wp2_with fail; refine hK.out _ _ ?_ (fun hHeld => ?_); rotate_left; clear hK K; rotate_right; (focus ((try dsimp only); exact kept)); (try simp only [Act.put, List.setIfInBounds_toArray, List.set_cons_zero, List.set_cons_succ])
    have E9 := hHeld.1; refine takeL (i := 6) (v := ?_) rfl (by kernel_rfl) (by kernel_rfl) (by kernel_rfl) (fun _ _ _ h => h) (Or.inl ⟨by rfl, ?_⟩) (by assumption) ?_; rotate_left; (focus (intro wq hSw; (try dsimp only at hSw); go_simp; try with_reducible rfl)); (try simp only [Act.put, List.setIfInBounds_toArray, List.set_cons_zero, List.set_cons_succ]); refine takeL (i := 7) (v := ?_) rfl (by kernel_rfl) (by kernel_rfl) (by kernel_rfl) (fun _ _ _ h => h) (Or.inl ⟨by rfl, ?_⟩) (by assumption) ?_; rotate_left; (focus (intro wq hSw; (try dsimp only at hSw); go_simp; try with_reducible rfl)); (try simp only [Act.put, List.setIfInBounds_toArray, List.set_cons_zero, List.set_cons_succ]); refine takeL (i := 8) (v := ?_) rfl (by kernel_rfl) (by kernel_rfl) (by kernel_rfl) (fun _ _ _ h => h) (Or.inl ⟨by rfl, ?_⟩) (by assumption) ?_; rotate_left; (focus (intro wq hSw; (try dsimp only at hSw); go_simp; try with_reducible rfl)); (try simp only [Act.put, List.setIfInBounds_toArray, List.set_cons_zero, List.set_cons_succ]); refine doneL (by kernel_rfl) ?_; go_wp2_with fail; go_ret; exact ⟨by rw [HV.out]; rfl, E9⟩
  · have c2 : (cmpI (areaRP a b p) 0 != 0) = true := by simpa using c
    have HV := Lib.hid (show btwR a b p = false by unfold btwR; simp [c])
    clear c
    go_enter Try.func42, Try.ntmps42
    go_wp2_with (go_at_call 47; refine (rside_c a b p _ HH.out.1 HH.out.2.1 HH.out.2.2).mono ?_; rintro e w2 ⟨rfl, hx⟩)
    go_ret
    exact ⟨by rw [HV.out]; rfl, Ext.trans (by repeat (first | exact Ext.refl _ | assumption | refine Ext.setCell ?_ (by first | (simp; done) | (simp; omega) | omega) _ | refine Ext.alloc ?_ _ | refine Ext.drew ?_ | refine Ext.trans ?_ (by assumption))) hx⟩
end Go.Proofs.Ytgmedfloflplgaa
