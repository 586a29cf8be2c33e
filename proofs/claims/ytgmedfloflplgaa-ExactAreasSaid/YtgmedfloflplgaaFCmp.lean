/- frac: Compare. -/
import Derived.Test.YtgmedfloflplgaaFP
import Derived.Test.YtgmedfloflplgaaWS
import Derived.StillTailTactics
namespace Go.Proofs.Ytgmedfloflplgaa
set_option linter.unusedSimpArgs false
set_option linter.unusedVariables false
open Go.RowKit

theorem IsI.val {w : World} {v : IV} {x : Int} (h : IsI w v x) : wvalF w (.slice v.a v.n v.c) = x.natAbs := by
  obtain ⟨l, h1, h2, h3, h4, rfl⟩ := h
  rw [h1.val, sgn_natAbs]
/-- The value that a slice in a cell holds. -/
def cellVal (w : World) (b : Nat) : Nat := match w.cell? ⟨b, 1, none⟩ with | some v => wvalF w v | none => 0
theorem cellVal_of {w : World} {b : Nat} {v : IV} {x : Int} (h : At w b #[.bool v.neg, .slice v.a v.n v.c]) (hx : IsI w v x) : cellVal w b = x.natAbs := by
  have h1 := h 1 (by simp)
  simp at h1
  unfold cellVal; rw [h1]; exact hx.val
theorem cmp_step1 {P Q R T : Int} (hQ : 1 ≤ Q) (hT : 1 ≤ T) (h : P / Q ≠ R / T) : cmpI (P * T) (R * Q) = cmpI (P / Q) (R / T) := by
  have e1 := Int.mul_ediv_add_emod P Q
  have e2 := Int.mul_ediv_add_emod R T
  have a1 := Int.emod_nonneg P (show Q ≠ 0 by omega)
  have a2 := Int.emod_lt_of_pos P (show 0 < Q by omega)
  have b1 := Int.emod_nonneg R (show T ≠ 0 by omega)
  have b2 := Int.emod_lt_of_pos R (show 0 < T by omega)
  generalize P / Q = x at *
  generalize R / T = y at *
  generalize P % Q = u at *
  generalize R % T = v at *
  subst e1; subst e2
  unfold cmpI
  rcases Int.lt_or_gt_of_ne h with h1 | h1
  · have k1 : (Q * x + u) * T < (T * y + v) * Q := by
      have h2 : 0 ≤ (y - x - 1) * (Q * T) := Int.mul_nonneg (by omega) (Int.mul_nonneg (by omega) (by omega))
      have h3 : 0 < (Q - u) * T := Int.mul_pos (by omega) (by omega)
      have h4 : 0 ≤ v * Q := Int.mul_nonneg b1 (by omega)
      grind
    rw [if_pos k1, if_pos h1]
  · have k1 : (T * y + v) * Q < (Q * x + u) * T := by
      have h2 : 0 ≤ (x - y - 1) * (Q * T) := Int.mul_nonneg (by omega) (Int.mul_nonneg (by omega) (by omega))
      have h3 : 0 < (T - v) * Q := Int.mul_pos (by omega) (by omega)
      have h4 : 0 ≤ u * T := Int.mul_nonneg a1 (by omega)
      grind
    rw [if_neg (by omega), if_pos k1, if_neg (by omega), if_pos h1]
theorem cmp_step2 {P Q R T : Int} (h : P / Q = R / T) : cmpI (P * T) (R * Q) = cmpI (P % Q * T) (R % T * Q) := by
  have e1 := Int.mul_ediv_add_emod P Q
  have e2 := Int.mul_ediv_add_emod R T
  generalize P / Q = x at *
  generalize R / T = y at *
  generalize P % Q = u at *
  generalize R % T = v at *
  subst e1; subst e2; subst h
  have k : (Q * x + u) * T - (T * x + v) * Q = u * T - v * Q := by grind
  unfold cmpI
  generalize (Q * x + u) * T = A at *
  generalize (T * x + v) * Q = B at *
  generalize u * T = C at *
  generalize v * Q = D at *
  by_cases h1 : A < B
  · rw [if_pos h1, if_pos (by omega)]
  · rw [if_neg h1]
    by_cases h2 : B < A
    · rw [if_pos h2, if_neg (by omega), if_pos (by omega)]
    · rw [if_neg h2, if_neg (by omega), if_neg (by omega)]
theorem cmp_flip (a b : Int) : cmpI a b = -cmpI b a := by
  unfold cmpI
  by_cases h1 : a < b
  · rw [if_pos h1, if_neg (by omega), if_pos h1]
  · rw [if_neg h1]
    by_cases h2 : b < a
    · rw [if_pos h2, if_pos h2]; rfl
    · rw [if_neg h2, if_neg h2, if_neg h1]; rfl
theorem cmp_zero {u v T Q : Int} (hu : 0 ≤ u) (hv : 0 ≤ v) (hT : 1 ≤ T) (hQ : 1 ≤ Q) (h : u = 0 ∨ v = 0) : cmpI (u * T) (v * Q) = cmpI u 0 - cmpI v 0 := by
  have p1 : 0 < u → 0 < u * T := fun h => Int.mul_pos h (by omega)
  have p2 : 0 < v → 0 < v * Q := fun h => Int.mul_pos h (by omega)
  rcases h with rfl | rfl
  · rw [Int.zero_mul]
    by_cases h1 : v = 0
    · subst h1; simp [cmpI]
    · have := p2 (by omega)
      unfold cmpI
      rw [if_pos (by omega), if_neg (by omega), if_neg (by omega), if_neg (by omega), if_pos (by omega)]; rfl
  · rw [Int.zero_mul]
    by_cases h1 : u = 0
    · subst h1; simp [cmpI]
    · have := p1 (by omega)
      unfold cmpI
      rw [if_neg (by omega), if_pos (by omega), if_neg (by omega), if_pos (by omega), if_neg (by omega), if_neg (by omega)]; rfl
abbrev P2 (w : World) (b : Nat) (v : IV) : World := (w.setCell ⟨b, 0, none⟩ (.bool v.neg)).setCell ⟨b, 1, none⟩ (.slice v.a v.n v.c)
theorem four_put {w : World} {G0 G1 G2 G3 : Nat} (o0 : Own w G0 2) (o1 : Own w G1 2) (o2 : Own w G2 2) (o3 : Own w G3 2) (n01 : G0 ≠ G1) (n02 : G0 ≠ G2) (n03 : G0 ≠ G3) (n12 : G1 ≠ G2) (n13 : G1 ≠ G3) (n23 : G2 ≠ G3) (a b c d : IV) :
    IK w (P2 (P2 (P2 (P2 w G0 a) G1 b) G2 c) G3 d) ∧ (Own (P2 (P2 (P2 (P2 w G0 a) G1 b) G2 c) G3 d) G0 2 ∧ Own (P2 (P2 (P2 (P2 w G0 a) G1 b) G2 c) G3 d) G1 2 ∧ Own (P2 (P2 (P2 (P2 w G0 a) G1 b) G2 c) G3 d) G2 2 ∧ Own (P2 (P2 (P2 (P2 w G0 a) G1 b) G2 c) G3 d) G3 2) ∧
      (At (P2 (P2 (P2 (P2 w G0 a) G1 b) G2 c) G3 d) G0 #[.bool a.neg, .slice a.a a.n a.c] ∧ At (P2 (P2 (P2 (P2 w G0 a) G1 b) G2 c) G3 d) G1 #[.bool b.neg, .slice b.a b.n b.c] ∧ At (P2 (P2 (P2 (P2 w G0 a) G1 b) G2 c) G3 d) G2 #[.bool c.neg, .slice c.a c.n c.c] ∧ At (P2 (P2 (P2 (P2 w G0 a) G1 b) G2 c) G3 d) G3 #[.bool d.neg, .slice d.a d.n d.c]) := by
  have q1 := own_put2 (b := G0) o1 a.neg a.a a.n a.c
  have q2 := own_put2 (b := G1) (own_put2 (b := G0) o2 a.neg a.a a.n a.c) b.neg b.a b.n b.c
  have q3 := own_put2 (b := G2) (own_put2 (b := G1) (own_put2 (b := G0) o3 a.neg a.a a.n a.c) b.neg b.a b.n b.c) c.neg c.a c.n c.c
  refine ⟨((IK.put2 o0 _ _ _ _).trans (IK.put2 q1 _ _ _ _)).trans ((IK.put2 q2 _ _ _ _).trans (IK.put2 q3 _ _ _ _)),
    ⟨own_put2 (own_put2 (own_put2 (own_put2 o0 _ _ _ _) _ _ _ _) _ _ _ _) _ _ _ _, own_put2 (own_put2 (own_put2 q1 _ _ _ _) _ _ _ _) _ _ _ _, own_put2 (own_put2 q2 _ _ _ _) _ _ _ _, own_put2 q3 _ _ _ _⟩, ?_, ?_, ?_, ?_⟩
  · exact At.set (At.set (At.set (At.set (At.set (At.set (At.mk2 (put2_cells o0 _ _).1 (put2_cells o0 _ _).2) n01) n01) n02) n02) n03) n03
  · exact At.set (At.set (At.set (At.set (At.mk2 (put2_cells q1 _ _).1 (put2_cells q1 _ _).2) n12) n12) n13) n13
  · exact At.set (At.set (At.mk2 (put2_cells q2 _ _).1 (put2_cells q2 _ _).2) n23) n23
  · exact At.mk2 (put2_cells q3 _ _).1 (put2_cells q3 _ _).2
theorem ext_P2 {a w : World} {b : Nat} (h : Ext a w) (hb : a.heap.size ≤ b) (v : IV) : Ext a (P2 w b v) := (h.setCell hb _).setCell hb _
abbrev CI (w : World) (a b : FV) (B : Nat) (W : World) : Prop := Ext w W ∧ At W B #[.bool a.n.neg, .slice a.n.a a.n.n a.n.c, .bool a.d.neg, .slice a.d.a a.d.n a.d.c] ∧ At W (B + 1) #[.bool b.n.neg, .slice b.n.a b.n.n b.n.c, .bool b.d.neg, .slice b.d.a b.d.n b.d.c]
abbrev CA (a b : FV) (B : Nat) (x5 x6 x7 x8 x19 x23 : Value) : Act := ⟨#[a.v, b.v, .pointer (some ⟨B, 0, none⟩), .pointer (some ⟨B + 1, 0, none⟩), .int .i64 0, x5, x6, x7, x8, undef, undef, undef, undef, undef, undef, undef, .pointer (some ⟨B, 0, none⟩), .agg #[.bool a.n.neg, .slice a.n.a a.n.n a.n.c], .agg #[.bool a.n.neg, .slice a.n.a a.n.n a.n.c, .bool a.d.neg, .slice a.d.a a.d.n a.d.c], x19, .pointer (some ⟨B + 1, 0, none⟩), .agg #[.bool b.n.neg, .slice b.n.a b.n.n b.n.c], .agg #[.bool b.n.neg, .slice b.n.a b.n.n b.n.c, .bool b.d.neg, .slice b.d.a b.d.n b.d.c], x23, undef, undef, undef, undef, undef, undef, undef, undef, undef, undef, undef, undef, undef, undef, undef, undef, undef, undef, undef, undef, undef, undef, undef, undef, undef, undef, undef, undef, undef, undef, undef, undef, undef, undef, undef, undef, undef, undef, undef, undef, undef, undef, undef, undef, undef, undef], []⟩
set_option maxRecDepth 100000 in
set_option maxHeartbeats 8000000 in
theorem fCompare_c (a b : FV) (p q r s : Int) (w : World) (ha : IsF w a p q) (hb : IsF w b r s) :
    Calls Try.prog 37 #[a.v, b.v] w fun e w' => e = .returned (.int .i64 (cmpI (p * s) (r * q))) ∧ Ext w w' := by
  have HA := Lib.hid ha; have HB := Lib.hid hb
  obtain ⟨cc, hcc⟩ : ∃ c, cmpI (p * s) (r * q) = c := ⟨_, rfl⟩
  rw [hcc]
  have HCC := Lib.hid hcc
  clear ha hb hcc
  go_enter Try.func37, Try.ntmps37
  go_upto_region 1 with (fail)
  obtain ⟨B, hB⟩ : ∃ B, w.heap.size = B := ⟨_, rfl⟩
  refine wp_gen (fun W => Ext w W ∧ At W B #[.bool a.n.neg, .slice a.n.a a.n.n a.n.c, .bool a.d.neg, .slice a.d.a a.d.n a.d.c] ∧ At W (B + 1) #[.bool b.n.neg, .slice b.n.a b.n.n b.n.c, .bool b.d.neg, .slice b.d.a b.d.n b.d.c]) ⟨(by repeat (first | exact Ext.refl _ | assumption | refine Ext.setCell ?_ (by first | (simp; done) | (simp; omega) | omega) _ | refine Ext.alloc ?_ _ | refine Ext.drew ?_ | refine Ext.trans ?_ (by assumption))), ((Blk.at _ 49 hB.symm).alloc _).at', (Blk.at _ 49 (by simp [hB])).at'⟩ ?_
  try rw [hB]
  rintro V ⟨E0, A0, A1⟩
  go_cut [5, 6, 7, 8] (fun s5 s6 s7 s8 wx => ∃ (G0 G1 G2 G3 : Nat) (r1 r2 : IV), s5 = .pointer (some ⟨G0, 0, none⟩) ∧ s6 = .pointer (some ⟨G1, 0, none⟩) ∧ s7 = .pointer (some ⟨G2, 0, none⟩) ∧ s8 = .pointer (some ⟨G3, 0, none⟩) ∧ Ext V wx ∧ IsI wx r1 q ∧ IsI wx r2 s ∧ Own wx G0 2 ∧ Own wx G1 2 ∧ Own wx G2 2 ∧ Own wx G3 2 ∧ B + 1 < G0 ∧ B + 1 < G1 ∧ B + 1 < G2 ∧ B + 1 < G3 ∧ G0 ≠ G1 ∧ G0 ≠ G2 ∧ G0 ≠ G3 ∧ G1 ≠ G2 ∧ G1 ≠ G3 ∧ G2 ≠ G3 ∧ At wx G0 #[.bool a.n.neg, .slice a.n.a a.n.n a.n.c] ∧ At wx G1 #[.bool r1.neg, .slice r1.a r1.n r1.c] ∧ At wx G2 #[.bool b.n.neg, .slice b.n.a b.n.n b.n.c] ∧ At wx G3 #[.bool r2.neg, .slice r2.a r2.n r2.c])
  case first =>
    refine wp_region_held_drew (S := fun w' => Ext w w' ∧ At w' B #[.bool a.n.neg, .slice a.n.a a.n.n a.n.c, .bool a.d.neg, .slice a.d.a a.d.n a.d.c] ∧ At w' (B + 1) #[.bool b.n.neg, .slice b.n.a b.n.n b.n.c, .bool b.d.neg, .slice b.d.a b.d.n b.d.c]) (by kernel_rfl) ?_ (fun hHeld => ?_)
    · exact ⟨E0.drew, A0, A1⟩
    refine takeL (i := 0) (v := ?_) rfl (by kernel_rfl) (by kernel_rfl) (by kernel_rfl) (fun _ _ _ h => h) (Or.inl ⟨by rfl, ?_⟩) (by assumption) ?_; rotate_left; (focus (intro wq hSw; (try dsimp only at hSw); go_simp; try with_reducible rfl)); (try simp only [Act.put, List.setIfInBounds_toArray, List.set_cons_zero, List.set_cons_succ])
    refine takeL (i := 1) (v := ?_) rfl (by kernel_rfl) (by kernel_rfl) (by kernel_rfl) (fun _ _ _ h => h) (Or.inl ⟨by rfl, ?_⟩) (by assumption) ?_; rotate_left; (focus (intro wq hSw; (try dsimp only at hSw); go_simp; try with_reducible rfl)); (try simp only [Act.put, List.setIfInBounds_toArray, List.set_cons_zero, List.set_cons_succ])
    refine takeL (i := 2) (v := ?_) rfl (by kernel_rfl) (by kernel_rfl) (by kernel_rfl) (fun _ _ _ h => h) (Or.inl ⟨by rfl, ?_⟩) (by assumption) ?_; rotate_left; (focus (intro wq hSw; (try dsimp only at hSw); go_simp; try with_reducible rfl)); (try simp only [Act.put, List.setIfInBounds_toArray, List.set_cons_zero, List.set_cons_succ])
    refine takeL (i := 4) (v := ?_) rfl (by kernel_rfl) (by kernel_rfl) (by kernel_rfl) (fun _ _ _ h => h) (Or.inl ⟨by rfl, ?_⟩) (by assumption) ?_; rotate_left; (focus (intro wq hSw; (try dsimp only at hSw); go_simp; try with_reducible rfl)); (try simp only [Act.put, List.setIfInBounds_toArray, List.set_cons_zero, List.set_cons_succ])
    refine takeL (i := 5) (v := ?_) rfl (by kernel_rfl) (by kernel_rfl) (by kernel_rfl) (fun _ _ _ h => h) (Or.inl ⟨by rfl, ?_⟩) (by assumption) ?_; rotate_left; (focus (intro wq hSw; (try dsimp only at hSw); go_simp; try with_reducible rfl)); (try simp only [Act.put, List.setIfInBounds_toArray, List.set_cons_zero, List.set_cons_succ])
    refine takeL (i := 6) (v := ?_) rfl (by kernel_rfl) (by kernel_rfl) (by kernel_rfl) (fun _ _ _ h => h) (Or.inl ⟨by rfl, ?_⟩) (by assumption) ?_; rotate_left; (focus (intro wq hSw; (try dsimp only at hSw); go_simp; try with_reducible rfl)); (try simp only [Act.put, List.setIfInBounds_toArray, List.set_cons_zero, List.set_cons_succ])
    have lV := A1.lt (by simp)
    refine name_ops (fun ops q0 hops hq0 => ?_)
    --BEGIN STATES
    have st2_0123 : ∀ (W : World) (r1 : IV) (r2 : IV) (G0 : Nat) (G1 : Nat) (G2 : Nat) (G3 : Nat), CI w a b B W → Ext V W → IsI W r1 q → IsI W r2 s → Own W G0 2 → V.heap.size ≤ G0 → Own W G1 2 → V.heap.size ≤ G1 → Own W G2 2 → V.heap.size ≤ G2 → Own W G3 2 → V.heap.size ≤ G3 → G0 ≠ G1 → G0 ≠ G2 → G0 ≠ G3 → G1 ≠ G2 → G1 ≠ G3 → G2 ≠ G3 → wpAnyH Try.prog .any ops q0 (fun w' => CI w a b B w') 4 #[true, true, true, true, true, true, true, true, true, true, true, true, false, false, false, false] (CA a b B (.pointer (some ⟨G0, 0, none⟩)) (.pointer (some ⟨G1, 0, none⟩)) (.pointer (some ⟨G2, 0, none⟩)) (.pointer (some ⟨G3, 0, none⟩)) r1.v r2.v) W := by
      intro W r1 r2 G0 G1 G2 G3 hS hE hr1 hr2 o0 b0 o1 b1 o2 b2 o3 b3 n01 n02 n03 n12 n13 n23
      have lB := hS.2.2.lt (by simp)
      have sE := hE.size
      have l0 := o0.lt (by omega)
      have l1 := o1.lt (by omega)
      have l2 := o2.lt (by omega)
      have l3 := o3.lt (by omega)
      rw [hops]; unfold CA
      have hHeld := hS; refine consL (i := 12) (by kernel_rfl) rfl (fun K hK => ?_); go_simp; refine hK.out _ _ ?_ (fun hHeld => ?_); rotate_left; clear hK K; rotate_right; (focus ((try dsimp only); exact kept)); (try simp only [Act.put, List.setIfInBounds_toArray, List.set_cons_zero, List.set_cons_succ]); refine wpAnyH_gen (fun X => ((CI w a b B X) ∧ Ext V X ∧ IsI X r1 q ∧ IsI X r2 s ∧ Own X G0 2 ∧ Own X G1 2 ∧ Own X G2 2 ∧ Own X G3 2) ∧ At X G0 #[.bool a.n.neg, .slice a.n.a a.n.n a.n.c]) ⟨⟨hHeld, ext_put2 hE b0 _ _ _ _, hr1.keep (IK.put2 o0 _ _ _ _), hr2.keep (IK.put2 o0 _ _ _ _), own_put2 o0 _ _ _ _, own_put2 o1 _ _ _ _, own_put2 o2 _ _ _ _, own_put2 o3 _ _ _ _⟩, At.mk2 (put2_cells o0 _ _).1 (put2_cells o0 _ _).2⟩ ?_; clear hHeld hS hE hr1 hr2 o0 o1 o2 o3; rintro X ⟨⟨hS, hE, hr1, hr2, o0, o1, o2, o3⟩, z0⟩; have hHeld := hS; refine consL (i := 13) (by kernel_rfl) rfl (fun K hK => ?_); go_simp; refine hK.out _ _ ?_ (fun hHeld => ?_); rotate_left; clear hK K; rotate_right; (focus ((try dsimp only); exact kept)); (try simp only [Act.put, List.setIfInBounds_toArray, List.set_cons_zero, List.set_cons_succ]); refine wpAnyH_gen (fun X => ((CI w a b B X) ∧ Ext V X ∧ IsI X r1 q ∧ IsI X r2 s ∧ Own X G0 2 ∧ Own X G1 2 ∧ Own X G2 2 ∧ Own X G3 2) ∧ At X G0 #[.bool a.n.neg, .slice a.n.a a.n.n a.n.c] ∧ At X G1 #[.bool r1.neg, .slice r1.a r1.n r1.c]) ⟨⟨hHeld, ext_put2 hE b1 _ _ _ _, hr1.keep (IK.put2 o1 _ _ _ _), hr2.keep (IK.put2 o1 _ _ _ _), own_put2 o0 _ _ _ _, own_put2 o1 _ _ _ _, own_put2 o2 _ _ _ _, own_put2 o3 _ _ _ _⟩, ⟨At.set (At.set z0 n01) n01, At.mk2 (put2_cells o1 _ _).1 (put2_cells o1 _ _).2⟩⟩ ?_; clear hHeld hS hE hr1 hr2 o0 o1 o2 o3; rintro X ⟨⟨hS, hE, hr1, hr2, o0, o1, o2, o3⟩, ⟨z0, z1⟩⟩; have hHeld := hS; refine consL (i := 14) (by kernel_rfl) rfl (fun K hK => ?_); go_simp; refine hK.out _ _ ?_ (fun hHeld => ?_); rotate_left; clear hK K; rotate_right; (focus ((try dsimp only); exact kept)); (try simp only [Act.put, List.setIfInBounds_toArray, List.set_cons_zero, List.set_cons_succ]); refine wpAnyH_gen (fun X => ((CI w a b B X) ∧ Ext V X ∧ IsI X r1 q ∧ IsI X r2 s ∧ Own X G0 2 ∧ Own X G1 2 ∧ Own X G2 2 ∧ Own X G3 2) ∧ At X G0 #[.bool a.n.neg, .slice a.n.a a.n.n a.n.c] ∧ At X G1 #[.bool r1.neg, .slice r1.a r1.n r1.c] ∧ At X G2 #[.bool b.n.neg, .slice b.n.a b.n.n b.n.c]) ⟨⟨hHeld, ext_put2 hE b2 _ _ _ _, hr1.keep (IK.put2 o2 _ _ _ _), hr2.keep (IK.put2 o2 _ _ _ _), own_put2 o0 _ _ _ _, own_put2 o1 _ _ _ _, own_put2 o2 _ _ _ _, own_put2 o3 _ _ _ _⟩, ⟨At.set (At.set z0 n02) n02, At.set (At.set z1 n12) n12, At.mk2 (put2_cells o2 _ _).1 (put2_cells o2 _ _).2⟩⟩ ?_; clear hHeld hS hE hr1 hr2 o0 o1 o2 o3; rintro X ⟨⟨hS, hE, hr1, hr2, o0, o1, o2, o3⟩, ⟨z0, z1, z2⟩⟩; have hHeld := hS; refine consL (i := 15) (by kernel_rfl) rfl (fun K hK => ?_); go_simp; refine hK.out _ _ ?_ (fun hHeld => ?_); rotate_left; clear hK K; rotate_right; (focus ((try dsimp only); exact kept)); (try simp only [Act.put, List.setIfInBounds_toArray, List.set_cons_zero, List.set_cons_succ]); refine wpAnyH_gen (fun X => ((CI w a b B X) ∧ Ext V X ∧ IsI X r1 q ∧ IsI X r2 s ∧ Own X G0 2 ∧ Own X G1 2 ∧ Own X G2 2 ∧ Own X G3 2) ∧ At X G0 #[.bool a.n.neg, .slice a.n.a a.n.n a.n.c] ∧ At X G1 #[.bool r1.neg, .slice r1.a r1.n r1.c] ∧ At X G2 #[.bool b.n.neg, .slice b.n.a b.n.n b.n.c] ∧ At X G3 #[.bool r2.neg, .slice r2.a r2.n r2.c]) ⟨⟨hHeld, ext_put2 hE b3 _ _ _ _, hr1.keep (IK.put2 o3 _ _ _ _), hr2.keep (IK.put2 o3 _ _ _ _), own_put2 o0 _ _ _ _, own_put2 o1 _ _ _ _, own_put2 o2 _ _ _ _, own_put2 o3 _ _ _ _⟩, ⟨At.set (At.set z0 n03) n03, At.set (At.set z1 n13) n13, At.set (At.set z2 n23) n23, At.mk2 (put2_cells o3 _ _).1 (put2_cells o3 _ _).2⟩⟩ ?_; clear hHeld hS hE hr1 hr2 o0 o1 o2 o3; rintro X ⟨⟨hS, hE, hr1, hr2, o0, o1, o2, o3⟩, ⟨z0, z1, z2, z3⟩⟩; have hHeld := hS; refine doneL (by kernel_rfl) ?_; rw [hq0]; go_wp2_with fail; go_meet; exact ⟨G0, G1, G2, G3, r1, r2, rfl, rfl, rfl, rfl, hE, hr1, hr2, o0, o1, o2, o3, by omega, by omega, by omega, by omega, n01, n02, n03, n12, n13, n23, z0, z1, z2, z3⟩
    have st2_012 : ∀ (W : World) (r1 : IV) (r2 : IV) (G0 : Nat) (G1 : Nat) (G2 : Nat), CI w a b B W → Ext V W → IsI W r1 q → IsI W r2 s → Own W G0 2 → V.heap.size ≤ G0 → Own W G1 2 → V.heap.size ≤ G1 → Own W G2 2 → V.heap.size ≤ G2 → G0 ≠ G1 → G0 ≠ G2 → G1 ≠ G2 → wpAnyH Try.prog .any ops q0 (fun w' => CI w a b B w') 5 #[true, true, true, true, true, true, true, true, true, true, true, false, false, false, false, false] (CA a b B (.pointer (some ⟨G0, 0, none⟩)) (.pointer (some ⟨G1, 0, none⟩)) (.pointer (some ⟨G2, 0, none⟩)) undef r1.v r2.v) W := by
      intro W r1 r2 G0 G1 G2 hS hE hr1 hr2 o0 b0 o1 b1 o2 b2 n01 n02 n12
      have lB := hS.2.2.lt (by simp)
      have sE := hE.size
      have l0 := o0.lt (by omega)
      have l1 := o1.lt (by omega)
      have l2 := o2.lt (by omega)
      rw [hops]; unfold CA
      refine wpAnyH_ready (rs := [11]) (by kernel_rfl) (by simp) ?_
      refine consR (i := 11) rfl (fun K hK => ?_) ?_
      · go_simp
        have hx := (Ext.refl W).alloc (.cells #[.bool false, .slice none 0 0] 47)
        refine hK.out _ _ ⟨hS.1.trans hx, At.ext hx hS.2.1 (by simp), At.ext hx hS.2.2 (by simp)⟩ (fun hHeld => ?_)
        (try simp only [Act.put, List.setIfInBounds_toArray, List.set_cons_zero, List.set_cons_succ])
        rw [← hops]
        exact wpAnyH_listed (by kernel_rfl) (st2_0123 _ _ _ _ _ _ _ hHeld (hE.trans hx) (hr1.keep hx.ik) (hr2.keep hx.ik) (o0.ext hx (by omega)) (by omega) (o1.ext hx (by omega)) (by omega) (o2.ext hx (by omega)) (by omega) ((Blk.at #[.bool false, .slice none 0 0] 47 rfl).own 2 (by simp) noIntW) (by omega) n01 n02 (by omega) n12 (by omega) (by omega))
      exact AllReadyH.nil
    have st2_013 : ∀ (W : World) (r1 : IV) (r2 : IV) (G0 : Nat) (G1 : Nat) (G3 : Nat), CI w a b B W → Ext V W → IsI W r1 q → IsI W r2 s → Own W G0 2 → V.heap.size ≤ G0 → Own W G1 2 → V.heap.size ≤ G1 → Own W G3 2 → V.heap.size ≤ G3 → G0 ≠ G1 → G0 ≠ G3 → G1 ≠ G3 → wpAnyH Try.prog .any ops q0 (fun w' => CI w a b B w') 5 #[true, true, true, true, true, true, true, true, true, true, false, true, false, false, false, false] (CA a b B (.pointer (some ⟨G0, 0, none⟩)) (.pointer (some ⟨G1, 0, none⟩)) undef (.pointer (some ⟨G3, 0, none⟩)) r1.v r2.v) W := by
      intro W r1 r2 G0 G1 G3 hS hE hr1 hr2 o0 b0 o1 b1 o3 b3 n01 n03 n13
      have lB := hS.2.2.lt (by simp)
      have sE := hE.size
      have l0 := o0.lt (by omega)
      have l1 := o1.lt (by omega)
      have l3 := o3.lt (by omega)
      rw [hops]; unfold CA
      refine wpAnyH_ready (rs := [10]) (by kernel_rfl) (by simp) ?_
      refine consR (i := 10) rfl (fun K hK => ?_) ?_
      · go_simp
        have hx := (Ext.refl W).alloc (.cells #[.bool false, .slice none 0 0] 47)
        refine hK.out _ _ ⟨hS.1.trans hx, At.ext hx hS.2.1 (by simp), At.ext hx hS.2.2 (by simp)⟩ (fun hHeld => ?_)
        (try simp only [Act.put, List.setIfInBounds_toArray, List.set_cons_zero, List.set_cons_succ])
        rw [← hops]
        exact wpAnyH_listed (by kernel_rfl) (st2_0123 _ _ _ _ _ _ _ hHeld (hE.trans hx) (hr1.keep hx.ik) (hr2.keep hx.ik) (o0.ext hx (by omega)) (by omega) (o1.ext hx (by omega)) (by omega) ((Blk.at #[.bool false, .slice none 0 0] 47 rfl).own 2 (by simp) noIntW) (by omega) (o3.ext hx (by omega)) (by omega) n01 (by omega) n03 (by omega) n13 (by omega))
      exact AllReadyH.nil
    have st2_023 : ∀ (W : World) (r1 : IV) (r2 : IV) (G0 : Nat) (G2 : Nat) (G3 : Nat), CI w a b B W → Ext V W → IsI W r1 q → IsI W r2 s → Own W G0 2 → V.heap.size ≤ G0 → Own W G2 2 → V.heap.size ≤ G2 → Own W G3 2 → V.heap.size ≤ G3 → G0 ≠ G2 → G0 ≠ G3 → G2 ≠ G3 → wpAnyH Try.prog .any ops q0 (fun w' => CI w a b B w') 5 #[true, true, true, true, true, true, true, true, true, false, true, true, false, false, false, false] (CA a b B (.pointer (some ⟨G0, 0, none⟩)) undef (.pointer (some ⟨G2, 0, none⟩)) (.pointer (some ⟨G3, 0, none⟩)) r1.v r2.v) W := by
      intro W r1 r2 G0 G2 G3 hS hE hr1 hr2 o0 b0 o2 b2 o3 b3 n02 n03 n23
      have lB := hS.2.2.lt (by simp)
      have sE := hE.size
      have l0 := o0.lt (by omega)
      have l2 := o2.lt (by omega)
      have l3 := o3.lt (by omega)
      rw [hops]; unfold CA
      refine wpAnyH_ready (rs := [9]) (by kernel_rfl) (by simp) ?_
      refine consR (i := 9) rfl (fun K hK => ?_) ?_
      · go_simp
        have hx := (Ext.refl W).alloc (.cells #[.bool false, .slice none 0 0] 47)
        refine hK.out _ _ ⟨hS.1.trans hx, At.ext hx hS.2.1 (by simp), At.ext hx hS.2.2 (by simp)⟩ (fun hHeld => ?_)
        (try simp only [Act.put, List.setIfInBounds_toArray, List.set_cons_zero, List.set_cons_succ])
        rw [← hops]
        exact wpAnyH_listed (by kernel_rfl) (st2_0123 _ _ _ _ _ _ _ hHeld (hE.trans hx) (hr1.keep hx.ik) (hr2.keep hx.ik) (o0.ext hx (by omega)) (by omega) ((Blk.at #[.bool false, .slice none 0 0] 47 rfl).own 2 (by simp) noIntW) (by omega) (o2.ext hx (by omega)) (by omega) (o3.ext hx (by omega)) (by omega) (by omega) n02 n03 (by omega) (by omega) n23)
      exact AllReadyH.nil
    have st2_123 : ∀ (W : World) (r1 : IV) (r2 : IV) (G1 : Nat) (G2 : Nat) (G3 : Nat), CI w a b B W → Ext V W → IsI W r1 q → IsI W r2 s → Own W G1 2 → V.heap.size ≤ G1 → Own W G2 2 → V.heap.size ≤ G2 → Own W G3 2 → V.heap.size ≤ G3 → G1 ≠ G2 → G1 ≠ G3 → G2 ≠ G3 → wpAnyH Try.prog .any ops q0 (fun w' => CI w a b B w') 5 #[true, true, true, true, true, true, true, true, false, true, true, true, false, false, false, false] (CA a b B undef (.pointer (some ⟨G1, 0, none⟩)) (.pointer (some ⟨G2, 0, none⟩)) (.pointer (some ⟨G3, 0, none⟩)) r1.v r2.v) W := by
      intro W r1 r2 G1 G2 G3 hS hE hr1 hr2 o1 b1 o2 b2 o3 b3 n12 n13 n23
      have lB := hS.2.2.lt (by simp)
      have sE := hE.size
      have l1 := o1.lt (by omega)
      have l2 := o2.lt (by omega)
      have l3 := o3.lt (by omega)
      rw [hops]; unfold CA
      refine wpAnyH_ready (rs := [8]) (by kernel_rfl) (by simp) ?_
      refine consR (i := 8) rfl (fun K hK => ?_) ?_
      · go_simp
        have hx := (Ext.refl W).alloc (.cells #[.bool false, .slice none 0 0] 47)
        refine hK.out _ _ ⟨hS.1.trans hx, At.ext hx hS.2.1 (by simp), At.ext hx hS.2.2 (by simp)⟩ (fun hHeld => ?_)
        (try simp only [Act.put, List.setIfInBounds_toArray, List.set_cons_zero, List.set_cons_succ])
        rw [← hops]
        exact wpAnyH_listed (by kernel_rfl) (st2_0123 _ _ _ _ _ _ _ hHeld (hE.trans hx) (hr1.keep hx.ik) (hr2.keep hx.ik) ((Blk.at #[.bool false, .slice none 0 0] 47 rfl).own 2 (by simp) noIntW) (by omega) (o1.ext hx (by omega)) (by omega) (o2.ext hx (by omega)) (by omega) (o3.ext hx (by omega)) (by omega) (by omega) (by omega) (by omega) n12 n13 n23)
      exact AllReadyH.nil
    have st1_0123 : ∀ (W : World) (r1 : IV) (G0 : Nat) (G1 : Nat) (G2 : Nat) (G3 : Nat), CI w a b B W → Ext V W → IsI W r1 q → Own W G0 2 → V.heap.size ≤ G0 → Own W G1 2 → V.heap.size ≤ G1 → Own W G2 2 → V.heap.size ≤ G2 → Own W G3 2 → V.heap.size ≤ G3 → G0 ≠ G1 → G0 ≠ G2 → G0 ≠ G3 → G1 ≠ G2 → G1 ≠ G3 → G2 ≠ G3 → wpAnyH Try.prog .any ops q0 (fun w' => CI w a b B w') 5 #[true, true, true, true, true, true, true, false, true, true, true, true, false, false, false, false] (CA a b B (.pointer (some ⟨G0, 0, none⟩)) (.pointer (some ⟨G1, 0, none⟩)) (.pointer (some ⟨G2, 0, none⟩)) (.pointer (some ⟨G3, 0, none⟩)) r1.v undef) W := by
      intro W r1 G0 G1 G2 G3 hS hE hr1 o0 b0 o1 b1 o2 b2 o3 b3 n01 n02 n03 n12 n13 n23
      have lB := hS.2.2.lt (by simp)
      have sE := hE.size
      have l0 := o0.lt (by omega)
      have l1 := o1.lt (by omega)
      have l2 := o2.lt (by omega)
      have l3 := o3.lt (by omega)
      rw [hops]; unfold CA
      refine wpAnyH_ready (rs := [7]) (by kernel_rfl) (by simp) ?_
      refine consR (i := 7) rfl (fun K hK => ?_) ?_
      · go_simp
        go_at_call 46
        refine (Den_c b r s _ (HB.out.keep hS.1.ik)).mono ?_
        rintro e W2 ⟨t, rfl, ht, hx⟩
        have sx := hx.size
        go_wp2_with fail
        refine hK.out _ _ ⟨hS.1.trans hx, At.ext hx hS.2.1 (by simp), At.ext hx hS.2.2 (by simp)⟩ (fun hHeld => ?_)
        (try simp only [Act.put, List.setIfInBounds_toArray, List.set_cons_zero, List.set_cons_succ])
        rw [← hops]
        exact wpAnyH_listed (by kernel_rfl) (st2_0123 _ _ _ _ _ _ _ hHeld (hE.trans hx) (hr1.keep hx.ik) ht (o0.ext hx (by omega)) (by omega) (o1.ext hx (by omega)) (by omega) (o2.ext hx (by omega)) (by omega) (o3.ext hx (by omega)) (by omega) n01 n02 n03 n12 n13 n23)
      exact AllReadyH.nil
    have st2_01 : ∀ (W : World) (r1 : IV) (r2 : IV) (G0 : Nat) (G1 : Nat), CI w a b B W → Ext V W → IsI W r1 q → IsI W r2 s → Own W G0 2 → V.heap.size ≤ G0 → Own W G1 2 → V.heap.size ≤ G1 → G0 ≠ G1 → wpAnyH Try.prog .any ops q0 (fun w' => CI w a b B w') 6 #[true, true, true, true, true, true, true, true, true, true, false, false, false, false, false, false] (CA a b B (.pointer (some ⟨G0, 0, none⟩)) (.pointer (some ⟨G1, 0, none⟩)) undef undef r1.v r2.v) W := by
      intro W r1 r2 G0 G1 hS hE hr1 hr2 o0 b0 o1 b1 n01
      have lB := hS.2.2.lt (by simp)
      have sE := hE.size
      have l0 := o0.lt (by omega)
      have l1 := o1.lt (by omega)
      rw [hops]; unfold CA
      refine wpAnyH_ready (rs := [10, 11]) (by kernel_rfl) (by simp) ?_
      refine consR (i := 10) rfl (fun K hK => ?_) ?_
      · go_simp
        have hx := (Ext.refl W).alloc (.cells #[.bool false, .slice none 0 0] 47)
        refine hK.out _ _ ⟨hS.1.trans hx, At.ext hx hS.2.1 (by simp), At.ext hx hS.2.2 (by simp)⟩ (fun hHeld => ?_)
        (try simp only [Act.put, List.setIfInBounds_toArray, List.set_cons_zero, List.set_cons_succ])
        rw [← hops]
        exact wpAnyH_listed (by kernel_rfl) (st2_012 _ _ _ _ _ _ hHeld (hE.trans hx) (hr1.keep hx.ik) (hr2.keep hx.ik) (o0.ext hx (by omega)) (by omega) (o1.ext hx (by omega)) (by omega) ((Blk.at #[.bool false, .slice none 0 0] 47 rfl).own 2 (by simp) noIntW) (by omega) n01 (by omega) (by omega))
      refine consR (i := 11) rfl (fun K hK => ?_) ?_
      · go_simp
        have hx := (Ext.refl W).alloc (.cells #[.bool false, .slice none 0 0] 47)
        refine hK.out _ _ ⟨hS.1.trans hx, At.ext hx hS.2.1 (by simp), At.ext hx hS.2.2 (by simp)⟩ (fun hHeld => ?_)
        (try simp only [Act.put, List.setIfInBounds_toArray, List.set_cons_zero, List.set_cons_succ])
        rw [← hops]
        exact wpAnyH_listed (by kernel_rfl) (st2_013 _ _ _ _ _ _ hHeld (hE.trans hx) (hr1.keep hx.ik) (hr2.keep hx.ik) (o0.ext hx (by omega)) (by omega) (o1.ext hx (by omega)) (by omega) ((Blk.at #[.bool false, .slice none 0 0] 47 rfl).own 2 (by simp) noIntW) (by omega) n01 (by omega) (by omega))
      exact AllReadyH.nil
    have st2_02 : ∀ (W : World) (r1 : IV) (r2 : IV) (G0 : Nat) (G2 : Nat), CI w a b B W → Ext V W → IsI W r1 q → IsI W r2 s → Own W G0 2 → V.heap.size ≤ G0 → Own W G2 2 → V.heap.size ≤ G2 → G0 ≠ G2 → wpAnyH Try.prog .any ops q0 (fun w' => CI w a b B w') 6 #[true, true, true, true, true, true, true, true, true, false, true, false, false, false, false, false] (CA a b B (.pointer (some ⟨G0, 0, none⟩)) undef (.pointer (some ⟨G2, 0, none⟩)) undef r1.v r2.v) W := by
      intro W r1 r2 G0 G2 hS hE hr1 hr2 o0 b0 o2 b2 n02
      have lB := hS.2.2.lt (by simp)
      have sE := hE.size
      have l0 := o0.lt (by omega)
      have l2 := o2.lt (by omega)
      rw [hops]; unfold CA
      refine wpAnyH_ready (rs := [9, 11]) (by kernel_rfl) (by simp) ?_
      refine consR (i := 9) rfl (fun K hK => ?_) ?_
      · go_simp
        have hx := (Ext.refl W).alloc (.cells #[.bool false, .slice none 0 0] 47)
        refine hK.out _ _ ⟨hS.1.trans hx, At.ext hx hS.2.1 (by simp), At.ext hx hS.2.2 (by simp)⟩ (fun hHeld => ?_)
        (try simp only [Act.put, List.setIfInBounds_toArray, List.set_cons_zero, List.set_cons_succ])
        rw [← hops]
        exact wpAnyH_listed (by kernel_rfl) (st2_012 _ _ _ _ _ _ hHeld (hE.trans hx) (hr1.keep hx.ik) (hr2.keep hx.ik) (o0.ext hx (by omega)) (by omega) ((Blk.at #[.bool false, .slice none 0 0] 47 rfl).own 2 (by simp) noIntW) (by omega) (o2.ext hx (by omega)) (by omega) (by omega) n02 (by omega))
      refine consR (i := 11) rfl (fun K hK => ?_) ?_
      · go_simp
        have hx := (Ext.refl W).alloc (.cells #[.bool false, .slice none 0 0] 47)
        refine hK.out _ _ ⟨hS.1.trans hx, At.ext hx hS.2.1 (by simp), At.ext hx hS.2.2 (by simp)⟩ (fun hHeld => ?_)
        (try simp only [Act.put, List.setIfInBounds_toArray, List.set_cons_zero, List.set_cons_succ])
        rw [← hops]
        exact wpAnyH_listed (by kernel_rfl) (st2_023 _ _ _ _ _ _ hHeld (hE.trans hx) (hr1.keep hx.ik) (hr2.keep hx.ik) (o0.ext hx (by omega)) (by omega) (o2.ext hx (by omega)) (by omega) ((Blk.at #[.bool false, .slice none 0 0] 47 rfl).own 2 (by simp) noIntW) (by omega) n02 (by omega) (by omega))
      exact AllReadyH.nil
    have st2_03 : ∀ (W : World) (r1 : IV) (r2 : IV) (G0 : Nat) (G3 : Nat), CI w a b B W → Ext V W → IsI W r1 q → IsI W r2 s → Own W G0 2 → V.heap.size ≤ G0 → Own W G3 2 → V.heap.size ≤ G3 → G0 ≠ G3 → wpAnyH Try.prog .any ops q0 (fun w' => CI w a b B w') 6 #[true, true, true, true, true, true, true, true, true, false, false, true, false, false, false, false] (CA a b B (.pointer (some ⟨G0, 0, none⟩)) undef undef (.pointer (some ⟨G3, 0, none⟩)) r1.v r2.v) W := by
      intro W r1 r2 G0 G3 hS hE hr1 hr2 o0 b0 o3 b3 n03
      have lB := hS.2.2.lt (by simp)
      have sE := hE.size
      have l0 := o0.lt (by omega)
      have l3 := o3.lt (by omega)
      rw [hops]; unfold CA
      refine wpAnyH_ready (rs := [9, 10]) (by kernel_rfl) (by simp) ?_
      refine consR (i := 9) rfl (fun K hK => ?_) ?_
      · go_simp
        have hx := (Ext.refl W).alloc (.cells #[.bool false, .slice none 0 0] 47)
        refine hK.out _ _ ⟨hS.1.trans hx, At.ext hx hS.2.1 (by simp), At.ext hx hS.2.2 (by simp)⟩ (fun hHeld => ?_)
        (try simp only [Act.put, List.setIfInBounds_toArray, List.set_cons_zero, List.set_cons_succ])
        rw [← hops]
        exact wpAnyH_listed (by kernel_rfl) (st2_013 _ _ _ _ _ _ hHeld (hE.trans hx) (hr1.keep hx.ik) (hr2.keep hx.ik) (o0.ext hx (by omega)) (by omega) ((Blk.at #[.bool false, .slice none 0 0] 47 rfl).own 2 (by simp) noIntW) (by omega) (o3.ext hx (by omega)) (by omega) (by omega) n03 (by omega))
      refine consR (i := 10) rfl (fun K hK => ?_) ?_
      · go_simp
        have hx := (Ext.refl W).alloc (.cells #[.bool false, .slice none 0 0] 47)
        refine hK.out _ _ ⟨hS.1.trans hx, At.ext hx hS.2.1 (by simp), At.ext hx hS.2.2 (by simp)⟩ (fun hHeld => ?_)
        (try simp only [Act.put, List.setIfInBounds_toArray, List.set_cons_zero, List.set_cons_succ])
        rw [← hops]
        exact wpAnyH_listed (by kernel_rfl) (st2_023 _ _ _ _ _ _ hHeld (hE.trans hx) (hr1.keep hx.ik) (hr2.keep hx.ik) (o0.ext hx (by omega)) (by omega) ((Blk.at #[.bool false, .slice none 0 0] 47 rfl).own 2 (by simp) noIntW) (by omega) (o3.ext hx (by omega)) (by omega) (by omega) n03 (by omega))
      exact AllReadyH.nil
    have st2_12 : ∀ (W : World) (r1 : IV) (r2 : IV) (G1 : Nat) (G2 : Nat), CI w a b B W → Ext V W → IsI W r1 q → IsI W r2 s → Own W G1 2 → V.heap.size ≤ G1 → Own W G2 2 → V.heap.size ≤ G2 → G1 ≠ G2 → wpAnyH Try.prog .any ops q0 (fun w' => CI w a b B w') 6 #[true, true, true, true, true, true, true, true, false, true, true, false, false, false, false, false] (CA a b B undef (.pointer (some ⟨G1, 0, none⟩)) (.pointer (some ⟨G2, 0, none⟩)) undef r1.v r2.v) W := by
      intro W r1 r2 G1 G2 hS hE hr1 hr2 o1 b1 o2 b2 n12
      have lB := hS.2.2.lt (by simp)
      have sE := hE.size
      have l1 := o1.lt (by omega)
      have l2 := o2.lt (by omega)
      rw [hops]; unfold CA
      refine wpAnyH_ready (rs := [8, 11]) (by kernel_rfl) (by simp) ?_
      refine consR (i := 8) rfl (fun K hK => ?_) ?_
      · go_simp
        have hx := (Ext.refl W).alloc (.cells #[.bool false, .slice none 0 0] 47)
        refine hK.out _ _ ⟨hS.1.trans hx, At.ext hx hS.2.1 (by simp), At.ext hx hS.2.2 (by simp)⟩ (fun hHeld => ?_)
        (try simp only [Act.put, List.setIfInBounds_toArray, List.set_cons_zero, List.set_cons_succ])
        rw [← hops]
        exact wpAnyH_listed (by kernel_rfl) (st2_012 _ _ _ _ _ _ hHeld (hE.trans hx) (hr1.keep hx.ik) (hr2.keep hx.ik) ((Blk.at #[.bool false, .slice none 0 0] 47 rfl).own 2 (by simp) noIntW) (by omega) (o1.ext hx (by omega)) (by omega) (o2.ext hx (by omega)) (by omega) (by omega) (by omega) n12)
      refine consR (i := 11) rfl (fun K hK => ?_) ?_
      · go_simp
        have hx := (Ext.refl W).alloc (.cells #[.bool false, .slice none 0 0] 47)
        refine hK.out _ _ ⟨hS.1.trans hx, At.ext hx hS.2.1 (by simp), At.ext hx hS.2.2 (by simp)⟩ (fun hHeld => ?_)
        (try simp only [Act.put, List.setIfInBounds_toArray, List.set_cons_zero, List.set_cons_succ])
        rw [← hops]
        exact wpAnyH_listed (by kernel_rfl) (st2_123 _ _ _ _ _ _ hHeld (hE.trans hx) (hr1.keep hx.ik) (hr2.keep hx.ik) (o1.ext hx (by omega)) (by omega) (o2.ext hx (by omega)) (by omega) ((Blk.at #[.bool false, .slice none 0 0] 47 rfl).own 2 (by simp) noIntW) (by omega) n12 (by omega) (by omega))
      exact AllReadyH.nil
    have st2_13 : ∀ (W : World) (r1 : IV) (r2 : IV) (G1 : Nat) (G3 : Nat), CI w a b B W → Ext V W → IsI W r1 q → IsI W r2 s → Own W G1 2 → V.heap.size ≤ G1 → Own W G3 2 → V.heap.size ≤ G3 → G1 ≠ G3 → wpAnyH Try.prog .any ops q0 (fun w' => CI w a b B w') 6 #[true, true, true, true, true, true, true, true, false, true, false, true, false, false, false, false] (CA a b B undef (.pointer (some ⟨G1, 0, none⟩)) undef (.pointer (some ⟨G3, 0, none⟩)) r1.v r2.v) W := by
      intro W r1 r2 G1 G3 hS hE hr1 hr2 o1 b1 o3 b3 n13
      have lB := hS.2.2.lt (by simp)
      have sE := hE.size
      have l1 := o1.lt (by omega)
      have l3 := o3.lt (by omega)
      rw [hops]; unfold CA
      refine wpAnyH_ready (rs := [8, 10]) (by kernel_rfl) (by simp) ?_
      refine consR (i := 8) rfl (fun K hK => ?_) ?_
      · go_simp
        have hx := (Ext.refl W).alloc (.cells #[.bool false, .slice none 0 0] 47)
        refine hK.out _ _ ⟨hS.1.trans hx, At.ext hx hS.2.1 (by simp), At.ext hx hS.2.2 (by simp)⟩ (fun hHeld => ?_)
        (try simp only [Act.put, List.setIfInBounds_toArray, List.set_cons_zero, List.set_cons_succ])
        rw [← hops]
        exact wpAnyH_listed (by kernel_rfl) (st2_013 _ _ _ _ _ _ hHeld (hE.trans hx) (hr1.keep hx.ik) (hr2.keep hx.ik) ((Blk.at #[.bool false, .slice none 0 0] 47 rfl).own 2 (by simp) noIntW) (by omega) (o1.ext hx (by omega)) (by omega) (o3.ext hx (by omega)) (by omega) (by omega) (by omega) n13)
      refine consR (i := 10) rfl (fun K hK => ?_) ?_
      · go_simp
        have hx := (Ext.refl W).alloc (.cells #[.bool false, .slice none 0 0] 47)
        refine hK.out _ _ ⟨hS.1.trans hx, At.ext hx hS.2.1 (by simp), At.ext hx hS.2.2 (by simp)⟩ (fun hHeld => ?_)
        (try simp only [Act.put, List.setIfInBounds_toArray, List.set_cons_zero, List.set_cons_succ])
        rw [← hops]
        exact wpAnyH_listed (by kernel_rfl) (st2_123 _ _ _ _ _ _ hHeld (hE.trans hx) (hr1.keep hx.ik) (hr2.keep hx.ik) (o1.ext hx (by omega)) (by omega) ((Blk.at #[.bool false, .slice none 0 0] 47 rfl).own 2 (by simp) noIntW) (by omega) (o3.ext hx (by omega)) (by omega) (by omega) n13 (by omega))
      exact AllReadyH.nil
    have st2_23 : ∀ (W : World) (r1 : IV) (r2 : IV) (G2 : Nat) (G3 : Nat), CI w a b B W → Ext V W → IsI W r1 q → IsI W r2 s → Own W G2 2 → V.heap.size ≤ G2 → Own W G3 2 → V.heap.size ≤ G3 → G2 ≠ G3 → wpAnyH Try.prog .any ops q0 (fun w' => CI w a b B w') 6 #[true, true, true, true, true, true, true, true, false, false, true, true, false, false, false, false] (CA a b B undef undef (.pointer (some ⟨G2, 0, none⟩)) (.pointer (some ⟨G3, 0, none⟩)) r1.v r2.v) W := by
      intro W r1 r2 G2 G3 hS hE hr1 hr2 o2 b2 o3 b3 n23
      have lB := hS.2.2.lt (by simp)
      have sE := hE.size
      have l2 := o2.lt (by omega)
      have l3 := o3.lt (by omega)
      rw [hops]; unfold CA
      refine wpAnyH_ready (rs := [8, 9]) (by kernel_rfl) (by simp) ?_
      refine consR (i := 8) rfl (fun K hK => ?_) ?_
      · go_simp
        have hx := (Ext.refl W).alloc (.cells #[.bool false, .slice none 0 0] 47)
        refine hK.out _ _ ⟨hS.1.trans hx, At.ext hx hS.2.1 (by simp), At.ext hx hS.2.2 (by simp)⟩ (fun hHeld => ?_)
        (try simp only [Act.put, List.setIfInBounds_toArray, List.set_cons_zero, List.set_cons_succ])
        rw [← hops]
        exact wpAnyH_listed (by kernel_rfl) (st2_023 _ _ _ _ _ _ hHeld (hE.trans hx) (hr1.keep hx.ik) (hr2.keep hx.ik) ((Blk.at #[.bool false, .slice none 0 0] 47 rfl).own 2 (by simp) noIntW) (by omega) (o2.ext hx (by omega)) (by omega) (o3.ext hx (by omega)) (by omega) (by omega) (by omega) n23)
      refine consR (i := 9) rfl (fun K hK => ?_) ?_
      · go_simp
        have hx := (Ext.refl W).alloc (.cells #[.bool false, .slice none 0 0] 47)
        refine hK.out _ _ ⟨hS.1.trans hx, At.ext hx hS.2.1 (by simp), At.ext hx hS.2.2 (by simp)⟩ (fun hHeld => ?_)
        (try simp only [Act.put, List.setIfInBounds_toArray, List.set_cons_zero, List.set_cons_succ])
        rw [← hops]
        exact wpAnyH_listed (by kernel_rfl) (st2_123 _ _ _ _ _ _ hHeld (hE.trans hx) (hr1.keep hx.ik) (hr2.keep hx.ik) ((Blk.at #[.bool false, .slice none 0 0] 47 rfl).own 2 (by simp) noIntW) (by omega) (o2.ext hx (by omega)) (by omega) (o3.ext hx (by omega)) (by omega) (by omega) (by omega) n23)
      exact AllReadyH.nil
    have st1_012 : ∀ (W : World) (r1 : IV) (G0 : Nat) (G1 : Nat) (G2 : Nat), CI w a b B W → Ext V W → IsI W r1 q → Own W G0 2 → V.heap.size ≤ G0 → Own W G1 2 → V.heap.size ≤ G1 → Own W G2 2 → V.heap.size ≤ G2 → G0 ≠ G1 → G0 ≠ G2 → G1 ≠ G2 → wpAnyH Try.prog .any ops q0 (fun w' => CI w a b B w') 6 #[true, true, true, true, true, true, true, false, true, true, true, false, false, false, false, false] (CA a b B (.pointer (some ⟨G0, 0, none⟩)) (.pointer (some ⟨G1, 0, none⟩)) (.pointer (some ⟨G2, 0, none⟩)) undef r1.v undef) W := by
      intro W r1 G0 G1 G2 hS hE hr1 o0 b0 o1 b1 o2 b2 n01 n02 n12
      have lB := hS.2.2.lt (by simp)
      have sE := hE.size
      have l0 := o0.lt (by omega)
      have l1 := o1.lt (by omega)
      have l2 := o2.lt (by omega)
      rw [hops]; unfold CA
      refine wpAnyH_ready (rs := [7, 11]) (by kernel_rfl) (by simp) ?_
      refine consR (i := 7) rfl (fun K hK => ?_) ?_
      · go_simp
        go_at_call 46
        refine (Den_c b r s _ (HB.out.keep hS.1.ik)).mono ?_
        rintro e W2 ⟨t, rfl, ht, hx⟩
        have sx := hx.size
        go_wp2_with fail
        refine hK.out _ _ ⟨hS.1.trans hx, At.ext hx hS.2.1 (by simp), At.ext hx hS.2.2 (by simp)⟩ (fun hHeld => ?_)
        (try simp only [Act.put, List.setIfInBounds_toArray, List.set_cons_zero, List.set_cons_succ])
        rw [← hops]
        exact wpAnyH_listed (by kernel_rfl) (st2_012 _ _ _ _ _ _ hHeld (hE.trans hx) (hr1.keep hx.ik) ht (o0.ext hx (by omega)) (by omega) (o1.ext hx (by omega)) (by omega) (o2.ext hx (by omega)) (by omega) n01 n02 n12)
      refine consR (i := 11) rfl (fun K hK => ?_) ?_
      · go_simp
        have hx := (Ext.refl W).alloc (.cells #[.bool false, .slice none 0 0] 47)
        refine hK.out _ _ ⟨hS.1.trans hx, At.ext hx hS.2.1 (by simp), At.ext hx hS.2.2 (by simp)⟩ (fun hHeld => ?_)
        (try simp only [Act.put, List.setIfInBounds_toArray, List.set_cons_zero, List.set_cons_succ])
        rw [← hops]
        exact wpAnyH_listed (by kernel_rfl) (st1_0123 _ _ _ _ _ _ hHeld (hE.trans hx) (hr1.keep hx.ik) (o0.ext hx (by omega)) (by omega) (o1.ext hx (by omega)) (by omega) (o2.ext hx (by omega)) (by omega) ((Blk.at #[.bool false, .slice none 0 0] 47 rfl).own 2 (by simp) noIntW) (by omega) n01 n02 (by omega) n12 (by omega) (by omega))
      exact AllReadyH.nil
    have st1_013 : ∀ (W : World) (r1 : IV) (G0 : Nat) (G1 : Nat) (G3 : Nat), CI w a b B W → Ext V W → IsI W r1 q → Own W G0 2 → V.heap.size ≤ G0 → Own W G1 2 → V.heap.size ≤ G1 → Own W G3 2 → V.heap.size ≤ G3 → G0 ≠ G1 → G0 ≠ G3 → G1 ≠ G3 → wpAnyH Try.prog .any ops q0 (fun w' => CI w a b B w') 6 #[true, true, true, true, true, true, true, false, true, true, false, true, false, false, false, false] (CA a b B (.pointer (some ⟨G0, 0, none⟩)) (.pointer (some ⟨G1, 0, none⟩)) undef (.pointer (some ⟨G3, 0, none⟩)) r1.v undef) W := by
      intro W r1 G0 G1 G3 hS hE hr1 o0 b0 o1 b1 o3 b3 n01 n03 n13
      have lB := hS.2.2.lt (by simp)
      have sE := hE.size
      have l0 := o0.lt (by omega)
      have l1 := o1.lt (by omega)
      have l3 := o3.lt (by omega)
      rw [hops]; unfold CA
      refine wpAnyH_ready (rs := [7, 10]) (by kernel_rfl) (by simp) ?_
      refine consR (i := 7) rfl (fun K hK => ?_) ?_
      · go_simp
        go_at_call 46
        refine (Den_c b r s _ (HB.out.keep hS.1.ik)).mono ?_
        rintro e W2 ⟨t, rfl, ht, hx⟩
        have sx := hx.size
        go_wp2_with fail
        refine hK.out _ _ ⟨hS.1.trans hx, At.ext hx hS.2.1 (by simp), At.ext hx hS.2.2 (by simp)⟩ (fun hHeld => ?_)
        (try simp only [Act.put, List.setIfInBounds_toArray, List.set_cons_zero, List.set_cons_succ])
        rw [← hops]
        exact wpAnyH_listed (by kernel_rfl) (st2_013 _ _ _ _ _ _ hHeld (hE.trans hx) (hr1.keep hx.ik) ht (o0.ext hx (by omega)) (by omega) (o1.ext hx (by omega)) (by omega) (o3.ext hx (by omega)) (by omega) n01 n03 n13)
      refine consR (i := 10) rfl (fun K hK => ?_) ?_
      · go_simp
        have hx := (Ext.refl W).alloc (.cells #[.bool false, .slice none 0 0] 47)
        refine hK.out _ _ ⟨hS.1.trans hx, At.ext hx hS.2.1 (by simp), At.ext hx hS.2.2 (by simp)⟩ (fun hHeld => ?_)
        (try simp only [Act.put, List.setIfInBounds_toArray, List.set_cons_zero, List.set_cons_succ])
        rw [← hops]
        exact wpAnyH_listed (by kernel_rfl) (st1_0123 _ _ _ _ _ _ hHeld (hE.trans hx) (hr1.keep hx.ik) (o0.ext hx (by omega)) (by omega) (o1.ext hx (by omega)) (by omega) ((Blk.at #[.bool false, .slice none 0 0] 47 rfl).own 2 (by simp) noIntW) (by omega) (o3.ext hx (by omega)) (by omega) n01 (by omega) n03 (by omega) n13 (by omega))
      exact AllReadyH.nil
    have st1_023 : ∀ (W : World) (r1 : IV) (G0 : Nat) (G2 : Nat) (G3 : Nat), CI w a b B W → Ext V W → IsI W r1 q → Own W G0 2 → V.heap.size ≤ G0 → Own W G2 2 → V.heap.size ≤ G2 → Own W G3 2 → V.heap.size ≤ G3 → G0 ≠ G2 → G0 ≠ G3 → G2 ≠ G3 → wpAnyH Try.prog .any ops q0 (fun w' => CI w a b B w') 6 #[true, true, true, true, true, true, true, false, true, false, true, true, false, false, false, false] (CA a b B (.pointer (some ⟨G0, 0, none⟩)) undef (.pointer (some ⟨G2, 0, none⟩)) (.pointer (some ⟨G3, 0, none⟩)) r1.v undef) W := by
      intro W r1 G0 G2 G3 hS hE hr1 o0 b0 o2 b2 o3 b3 n02 n03 n23
      have lB := hS.2.2.lt (by simp)
      have sE := hE.size
      have l0 := o0.lt (by omega)
      have l2 := o2.lt (by omega)
      have l3 := o3.lt (by omega)
      rw [hops]; unfold CA
      refine wpAnyH_ready (rs := [7, 9]) (by kernel_rfl) (by simp) ?_
      refine consR (i := 7) rfl (fun K hK => ?_) ?_
      · go_simp
        go_at_call 46
        refine (Den_c b r s _ (HB.out.keep hS.1.ik)).mono ?_
        rintro e W2 ⟨t, rfl, ht, hx⟩
        have sx := hx.size
        go_wp2_with fail
        refine hK.out _ _ ⟨hS.1.trans hx, At.ext hx hS.2.1 (by simp), At.ext hx hS.2.2 (by simp)⟩ (fun hHeld => ?_)
        (try simp only [Act.put, List.setIfInBounds_toArray, List.set_cons_zero, List.set_cons_succ])
        rw [← hops]
        exact wpAnyH_listed (by kernel_rfl) (st2_023 _ _ _ _ _ _ hHeld (hE.trans hx) (hr1.keep hx.ik) ht (o0.ext hx (by omega)) (by omega) (o2.ext hx (by omega)) (by omega) (o3.ext hx (by omega)) (by omega) n02 n03 n23)
      refine consR (i := 9) rfl (fun K hK => ?_) ?_
      · go_simp
        have hx := (Ext.refl W).alloc (.cells #[.bool false, .slice none 0 0] 47)
        refine hK.out _ _ ⟨hS.1.trans hx, At.ext hx hS.2.1 (by simp), At.ext hx hS.2.2 (by simp)⟩ (fun hHeld => ?_)
        (try simp only [Act.put, List.setIfInBounds_toArray, List.set_cons_zero, List.set_cons_succ])
        rw [← hops]
        exact wpAnyH_listed (by kernel_rfl) (st1_0123 _ _ _ _ _ _ hHeld (hE.trans hx) (hr1.keep hx.ik) (o0.ext hx (by omega)) (by omega) ((Blk.at #[.bool false, .slice none 0 0] 47 rfl).own 2 (by simp) noIntW) (by omega) (o2.ext hx (by omega)) (by omega) (o3.ext hx (by omega)) (by omega) (by omega) n02 n03 (by omega) (by omega) n23)
      exact AllReadyH.nil
    have st1_123 : ∀ (W : World) (r1 : IV) (G1 : Nat) (G2 : Nat) (G3 : Nat), CI w a b B W → Ext V W → IsI W r1 q → Own W G1 2 → V.heap.size ≤ G1 → Own W G2 2 → V.heap.size ≤ G2 → Own W G3 2 → V.heap.size ≤ G3 → G1 ≠ G2 → G1 ≠ G3 → G2 ≠ G3 → wpAnyH Try.prog .any ops q0 (fun w' => CI w a b B w') 6 #[true, true, true, true, true, true, true, false, false, true, true, true, false, false, false, false] (CA a b B undef (.pointer (some ⟨G1, 0, none⟩)) (.pointer (some ⟨G2, 0, none⟩)) (.pointer (some ⟨G3, 0, none⟩)) r1.v undef) W := by
      intro W r1 G1 G2 G3 hS hE hr1 o1 b1 o2 b2 o3 b3 n12 n13 n23
      have lB := hS.2.2.lt (by simp)
      have sE := hE.size
      have l1 := o1.lt (by omega)
      have l2 := o2.lt (by omega)
      have l3 := o3.lt (by omega)
      rw [hops]; unfold CA
      refine wpAnyH_ready (rs := [7, 8]) (by kernel_rfl) (by simp) ?_
      refine consR (i := 7) rfl (fun K hK => ?_) ?_
      · go_simp
        go_at_call 46
        refine (Den_c b r s _ (HB.out.keep hS.1.ik)).mono ?_
        rintro e W2 ⟨t, rfl, ht, hx⟩
        have sx := hx.size
        go_wp2_with fail
        refine hK.out _ _ ⟨hS.1.trans hx, At.ext hx hS.2.1 (by simp), At.ext hx hS.2.2 (by simp)⟩ (fun hHeld => ?_)
        (try simp only [Act.put, List.setIfInBounds_toArray, List.set_cons_zero, List.set_cons_succ])
        rw [← hops]
        exact wpAnyH_listed (by kernel_rfl) (st2_123 _ _ _ _ _ _ hHeld (hE.trans hx) (hr1.keep hx.ik) ht (o1.ext hx (by omega)) (by omega) (o2.ext hx (by omega)) (by omega) (o3.ext hx (by omega)) (by omega) n12 n13 n23)
      refine consR (i := 8) rfl (fun K hK => ?_) ?_
      · go_simp
        have hx := (Ext.refl W).alloc (.cells #[.bool false, .slice none 0 0] 47)
        refine hK.out _ _ ⟨hS.1.trans hx, At.ext hx hS.2.1 (by simp), At.ext hx hS.2.2 (by simp)⟩ (fun hHeld => ?_)
        (try simp only [Act.put, List.setIfInBounds_toArray, List.set_cons_zero, List.set_cons_succ])
        rw [← hops]
        exact wpAnyH_listed (by kernel_rfl) (st1_0123 _ _ _ _ _ _ hHeld (hE.trans hx) (hr1.keep hx.ik) ((Blk.at #[.bool false, .slice none 0 0] 47 rfl).own 2 (by simp) noIntW) (by omega) (o1.ext hx (by omega)) (by omega) (o2.ext hx (by omega)) (by omega) (o3.ext hx (by omega)) (by omega) (by omega) (by omega) (by omega) n12 n13 n23)
      exact AllReadyH.nil
    have st0_0123 : ∀ (W : World) (G0 : Nat) (G1 : Nat) (G2 : Nat) (G3 : Nat), CI w a b B W → Ext V W → Own W G0 2 → V.heap.size ≤ G0 → Own W G1 2 → V.heap.size ≤ G1 → Own W G2 2 → V.heap.size ≤ G2 → Own W G3 2 → V.heap.size ≤ G3 → G0 ≠ G1 → G0 ≠ G2 → G0 ≠ G3 → G1 ≠ G2 → G1 ≠ G3 → G2 ≠ G3 → wpAnyH Try.prog .any ops q0 (fun w' => CI w a b B w') 6 #[true, true, true, false, true, true, true, false, true, true, true, true, false, false, false, false] (CA a b B (.pointer (some ⟨G0, 0, none⟩)) (.pointer (some ⟨G1, 0, none⟩)) (.pointer (some ⟨G2, 0, none⟩)) (.pointer (some ⟨G3, 0, none⟩)) undef undef) W := by
      intro W G0 G1 G2 G3 hS hE o0 b0 o1 b1 o2 b2 o3 b3 n01 n02 n03 n12 n13 n23
      have lB := hS.2.2.lt (by simp)
      have sE := hE.size
      have l0 := o0.lt (by omega)
      have l1 := o1.lt (by omega)
      have l2 := o2.lt (by omega)
      have l3 := o3.lt (by omega)
      rw [hops]; unfold CA
      refine wpAnyH_ready (rs := [3]) (by kernel_rfl) (by simp) ?_
      refine consR (i := 3) rfl (fun K hK => ?_) ?_
      · go_simp
        go_at_call 46
        refine (Den_c a p q _ (HA.out.keep hS.1.ik)).mono ?_
        rintro e W2 ⟨t, rfl, ht, hx⟩
        have sx := hx.size
        go_wp2_with fail
        refine hK.out _ _ ⟨hS.1.trans hx, At.ext hx hS.2.1 (by simp), At.ext hx hS.2.2 (by simp)⟩ (fun hHeld => ?_)
        (try simp only [Act.put, List.setIfInBounds_toArray, List.set_cons_zero, List.set_cons_succ])
        rw [← hops]
        exact wpAnyH_listed (by kernel_rfl) (st1_0123 _ _ _ _ _ _ hHeld (hE.trans hx) ht (o0.ext hx (by omega)) (by omega) (o1.ext hx (by omega)) (by omega) (o2.ext hx (by omega)) (by omega) (o3.ext hx (by omega)) (by omega) n01 n02 n03 n12 n13 n23)
      exact AllReadyH.nil
    have st2_0 : ∀ (W : World) (r1 : IV) (r2 : IV) (G0 : Nat), CI w a b B W → Ext V W → IsI W r1 q → IsI W r2 s → Own W G0 2 → V.heap.size ≤ G0 → wpAnyH Try.prog .any ops q0 (fun w' => CI w a b B w') 7 #[true, true, true, true, true, true, true, true, true, false, false, false, false, false, false, false] (CA a b B (.pointer (some ⟨G0, 0, none⟩)) undef undef undef r1.v r2.v) W := by
      intro W r1 r2 G0 hS hE hr1 hr2 o0 b0
      have lB := hS.2.2.lt (by simp)
      have sE := hE.size
      have l0 := o0.lt (by omega)
      rw [hops]; unfold CA
      refine wpAnyH_ready (rs := [9, 10, 11]) (by kernel_rfl) (by simp) ?_
      refine consR (i := 9) rfl (fun K hK => ?_) ?_
      · go_simp
        have hx := (Ext.refl W).alloc (.cells #[.bool false, .slice none 0 0] 47)
        refine hK.out _ _ ⟨hS.1.trans hx, At.ext hx hS.2.1 (by simp), At.ext hx hS.2.2 (by simp)⟩ (fun hHeld => ?_)
        (try simp only [Act.put, List.setIfInBounds_toArray, List.set_cons_zero, List.set_cons_succ])
        rw [← hops]
        exact wpAnyH_listed (by kernel_rfl) (st2_01 _ _ _ _ _ hHeld (hE.trans hx) (hr1.keep hx.ik) (hr2.keep hx.ik) (o0.ext hx (by omega)) (by omega) ((Blk.at #[.bool false, .slice none 0 0] 47 rfl).own 2 (by simp) noIntW) (by omega) (by omega))
      refine consR (i := 10) rfl (fun K hK => ?_) ?_
      · go_simp
        have hx := (Ext.refl W).alloc (.cells #[.bool false, .slice none 0 0] 47)
        refine hK.out _ _ ⟨hS.1.trans hx, At.ext hx hS.2.1 (by simp), At.ext hx hS.2.2 (by simp)⟩ (fun hHeld => ?_)
        (try simp only [Act.put, List.setIfInBounds_toArray, List.set_cons_zero, List.set_cons_succ])
        rw [← hops]
        exact wpAnyH_listed (by kernel_rfl) (st2_02 _ _ _ _ _ hHeld (hE.trans hx) (hr1.keep hx.ik) (hr2.keep hx.ik) (o0.ext hx (by omega)) (by omega) ((Blk.at #[.bool false, .slice none 0 0] 47 rfl).own 2 (by simp) noIntW) (by omega) (by omega))
      refine consR (i := 11) rfl (fun K hK => ?_) ?_
      · go_simp
        have hx := (Ext.refl W).alloc (.cells #[.bool false, .slice none 0 0] 47)
        refine hK.out _ _ ⟨hS.1.trans hx, At.ext hx hS.2.1 (by simp), At.ext hx hS.2.2 (by simp)⟩ (fun hHeld => ?_)
        (try simp only [Act.put, List.setIfInBounds_toArray, List.set_cons_zero, List.set_cons_succ])
        rw [← hops]
        exact wpAnyH_listed (by kernel_rfl) (st2_03 _ _ _ _ _ hHeld (hE.trans hx) (hr1.keep hx.ik) (hr2.keep hx.ik) (o0.ext hx (by omega)) (by omega) ((Blk.at #[.bool false, .slice none 0 0] 47 rfl).own 2 (by simp) noIntW) (by omega) (by omega))
      exact AllReadyH.nil
    have st2_1 : ∀ (W : World) (r1 : IV) (r2 : IV) (G1 : Nat), CI w a b B W → Ext V W → IsI W r1 q → IsI W r2 s → Own W G1 2 → V.heap.size ≤ G1 → wpAnyH Try.prog .any ops q0 (fun w' => CI w a b B w') 7 #[true, true, true, true, true, true, true, true, false, true, false, false, false, false, false, false] (CA a b B undef (.pointer (some ⟨G1, 0, none⟩)) undef undef r1.v r2.v) W := by
      intro W r1 r2 G1 hS hE hr1 hr2 o1 b1
      have lB := hS.2.2.lt (by simp)
      have sE := hE.size
      have l1 := o1.lt (by omega)
      rw [hops]; unfold CA
      refine wpAnyH_ready (rs := [8, 10, 11]) (by kernel_rfl) (by simp) ?_
      refine consR (i := 8) rfl (fun K hK => ?_) ?_
      · go_simp
        have hx := (Ext.refl W).alloc (.cells #[.bool false, .slice none 0 0] 47)
        refine hK.out _ _ ⟨hS.1.trans hx, At.ext hx hS.2.1 (by simp), At.ext hx hS.2.2 (by simp)⟩ (fun hHeld => ?_)
        (try simp only [Act.put, List.setIfInBounds_toArray, List.set_cons_zero, List.set_cons_succ])
        rw [← hops]
        exact wpAnyH_listed (by kernel_rfl) (st2_01 _ _ _ _ _ hHeld (hE.trans hx) (hr1.keep hx.ik) (hr2.keep hx.ik) ((Blk.at #[.bool false, .slice none 0 0] 47 rfl).own 2 (by simp) noIntW) (by omega) (o1.ext hx (by omega)) (by omega) (by omega))
      refine consR (i := 10) rfl (fun K hK => ?_) ?_
      · go_simp
        have hx := (Ext.refl W).alloc (.cells #[.bool false, .slice none 0 0] 47)
        refine hK.out _ _ ⟨hS.1.trans hx, At.ext hx hS.2.1 (by simp), At.ext hx hS.2.2 (by simp)⟩ (fun hHeld => ?_)
        (try simp only [Act.put, List.setIfInBounds_toArray, List.set_cons_zero, List.set_cons_succ])
        rw [← hops]
        exact wpAnyH_listed (by kernel_rfl) (st2_12 _ _ _ _ _ hHeld (hE.trans hx) (hr1.keep hx.ik) (hr2.keep hx.ik) (o1.ext hx (by omega)) (by omega) ((Blk.at #[.bool false, .slice none 0 0] 47 rfl).own 2 (by simp) noIntW) (by omega) (by omega))
      refine consR (i := 11) rfl (fun K hK => ?_) ?_
      · go_simp
        have hx := (Ext.refl W).alloc (.cells #[.bool false, .slice none 0 0] 47)
        refine hK.out _ _ ⟨hS.1.trans hx, At.ext hx hS.2.1 (by simp), At.ext hx hS.2.2 (by simp)⟩ (fun hHeld => ?_)
        (try simp only [Act.put, List.setIfInBounds_toArray, List.set_cons_zero, List.set_cons_succ])
        rw [← hops]
        exact wpAnyH_listed (by kernel_rfl) (st2_13 _ _ _ _ _ hHeld (hE.trans hx) (hr1.keep hx.ik) (hr2.keep hx.ik) (o1.ext hx (by omega)) (by omega) ((Blk.at #[.bool false, .slice none 0 0] 47 rfl).own 2 (by simp) noIntW) (by omega) (by omega))
      exact AllReadyH.nil
    have st2_2 : ∀ (W : World) (r1 : IV) (r2 : IV) (G2 : Nat), CI w a b B W → Ext V W → IsI W r1 q → IsI W r2 s → Own W G2 2 → V.heap.size ≤ G2 → wpAnyH Try.prog .any ops q0 (fun w' => CI w a b B w') 7 #[true, true, true, true, true, true, true, true, false, false, true, false, false, false, false, false] (CA a b B undef undef (.pointer (some ⟨G2, 0, none⟩)) undef r1.v r2.v) W := by
      intro W r1 r2 G2 hS hE hr1 hr2 o2 b2
      have lB := hS.2.2.lt (by simp)
      have sE := hE.size
      have l2 := o2.lt (by omega)
      rw [hops]; unfold CA
      refine wpAnyH_ready (rs := [8, 9, 11]) (by kernel_rfl) (by simp) ?_
      refine consR (i := 8) rfl (fun K hK => ?_) ?_
      · go_simp
        have hx := (Ext.refl W).alloc (.cells #[.bool false, .slice none 0 0] 47)
        refine hK.out _ _ ⟨hS.1.trans hx, At.ext hx hS.2.1 (by simp), At.ext hx hS.2.2 (by simp)⟩ (fun hHeld => ?_)
        (try simp only [Act.put, List.setIfInBounds_toArray, List.set_cons_zero, List.set_cons_succ])
        rw [← hops]
        exact wpAnyH_listed (by kernel_rfl) (st2_02 _ _ _ _ _ hHeld (hE.trans hx) (hr1.keep hx.ik) (hr2.keep hx.ik) ((Blk.at #[.bool false, .slice none 0 0] 47 rfl).own 2 (by simp) noIntW) (by omega) (o2.ext hx (by omega)) (by omega) (by omega))
      refine consR (i := 9) rfl (fun K hK => ?_) ?_
      · go_simp
        have hx := (Ext.refl W).alloc (.cells #[.bool false, .slice none 0 0] 47)
        refine hK.out _ _ ⟨hS.1.trans hx, At.ext hx hS.2.1 (by simp), At.ext hx hS.2.2 (by simp)⟩ (fun hHeld => ?_)
        (try simp only [Act.put, List.setIfInBounds_toArray, List.set_cons_zero, List.set_cons_succ])
        rw [← hops]
        exact wpAnyH_listed (by kernel_rfl) (st2_12 _ _ _ _ _ hHeld (hE.trans hx) (hr1.keep hx.ik) (hr2.keep hx.ik) ((Blk.at #[.bool false, .slice none 0 0] 47 rfl).own 2 (by simp) noIntW) (by omega) (o2.ext hx (by omega)) (by omega) (by omega))
      refine consR (i := 11) rfl (fun K hK => ?_) ?_
      · go_simp
        have hx := (Ext.refl W).alloc (.cells #[.bool false, .slice none 0 0] 47)
        refine hK.out _ _ ⟨hS.1.trans hx, At.ext hx hS.2.1 (by simp), At.ext hx hS.2.2 (by simp)⟩ (fun hHeld => ?_)
        (try simp only [Act.put, List.setIfInBounds_toArray, List.set_cons_zero, List.set_cons_succ])
        rw [← hops]
        exact wpAnyH_listed (by kernel_rfl) (st2_23 _ _ _ _ _ hHeld (hE.trans hx) (hr1.keep hx.ik) (hr2.keep hx.ik) (o2.ext hx (by omega)) (by omega) ((Blk.at #[.bool false, .slice none 0 0] 47 rfl).own 2 (by simp) noIntW) (by omega) (by omega))
      exact AllReadyH.nil
    have st2_3 : ∀ (W : World) (r1 : IV) (r2 : IV) (G3 : Nat), CI w a b B W → Ext V W → IsI W r1 q → IsI W r2 s → Own W G3 2 → V.heap.size ≤ G3 → wpAnyH Try.prog .any ops q0 (fun w' => CI w a b B w') 7 #[true, true, true, true, true, true, true, true, false, false, false, true, false, false, false, false] (CA a b B undef undef undef (.pointer (some ⟨G3, 0, none⟩)) r1.v r2.v) W := by
      intro W r1 r2 G3 hS hE hr1 hr2 o3 b3
      have lB := hS.2.2.lt (by simp)
      have sE := hE.size
      have l3 := o3.lt (by omega)
      rw [hops]; unfold CA
      refine wpAnyH_ready (rs := [8, 9, 10]) (by kernel_rfl) (by simp) ?_
      refine consR (i := 8) rfl (fun K hK => ?_) ?_
      · go_simp
        have hx := (Ext.refl W).alloc (.cells #[.bool false, .slice none 0 0] 47)
        refine hK.out _ _ ⟨hS.1.trans hx, At.ext hx hS.2.1 (by simp), At.ext hx hS.2.2 (by simp)⟩ (fun hHeld => ?_)
        (try simp only [Act.put, List.setIfInBounds_toArray, List.set_cons_zero, List.set_cons_succ])
        rw [← hops]
        exact wpAnyH_listed (by kernel_rfl) (st2_03 _ _ _ _ _ hHeld (hE.trans hx) (hr1.keep hx.ik) (hr2.keep hx.ik) ((Blk.at #[.bool false, .slice none 0 0] 47 rfl).own 2 (by simp) noIntW) (by omega) (o3.ext hx (by omega)) (by omega) (by omega))
      refine consR (i := 9) rfl (fun K hK => ?_) ?_
      · go_simp
        have hx := (Ext.refl W).alloc (.cells #[.bool false, .slice none 0 0] 47)
        refine hK.out _ _ ⟨hS.1.trans hx, At.ext hx hS.2.1 (by simp), At.ext hx hS.2.2 (by simp)⟩ (fun hHeld => ?_)
        (try simp only [Act.put, List.setIfInBounds_toArray, List.set_cons_zero, List.set_cons_succ])
        rw [← hops]
        exact wpAnyH_listed (by kernel_rfl) (st2_13 _ _ _ _ _ hHeld (hE.trans hx) (hr1.keep hx.ik) (hr2.keep hx.ik) ((Blk.at #[.bool false, .slice none 0 0] 47 rfl).own 2 (by simp) noIntW) (by omega) (o3.ext hx (by omega)) (by omega) (by omega))
      refine consR (i := 10) rfl (fun K hK => ?_) ?_
      · go_simp
        have hx := (Ext.refl W).alloc (.cells #[.bool false, .slice none 0 0] 47)
        refine hK.out _ _ ⟨hS.1.trans hx, At.ext hx hS.2.1 (by simp), At.ext hx hS.2.2 (by simp)⟩ (fun hHeld => ?_)
        (try simp only [Act.put, List.setIfInBounds_toArray, List.set_cons_zero, List.set_cons_succ])
        rw [← hops]
        exact wpAnyH_listed (by kernel_rfl) (st2_23 _ _ _ _ _ hHeld (hE.trans hx) (hr1.keep hx.ik) (hr2.keep hx.ik) ((Blk.at #[.bool false, .slice none 0 0] 47 rfl).own 2 (by simp) noIntW) (by omega) (o3.ext hx (by omega)) (by omega) (by omega))
      exact AllReadyH.nil
    have st1_01 : ∀ (W : World) (r1 : IV) (G0 : Nat) (G1 : Nat), CI w a b B W → Ext V W → IsI W r1 q → Own W G0 2 → V.heap.size ≤ G0 → Own W G1 2 → V.heap.size ≤ G1 → G0 ≠ G1 → wpAnyH Try.prog .any ops q0 (fun w' => CI w a b B w') 7 #[true, true, true, true, true, true, true, false, true, true, false, false, false, false, false, false] (CA a b B (.pointer (some ⟨G0, 0, none⟩)) (.pointer (some ⟨G1, 0, none⟩)) undef undef r1.v undef) W := by
      intro W r1 G0 G1 hS hE hr1 o0 b0 o1 b1 n01
      have lB := hS.2.2.lt (by simp)
      have sE := hE.size
      have l0 := o0.lt (by omega)
      have l1 := o1.lt (by omega)
      rw [hops]; unfold CA
      refine wpAnyH_ready (rs := [7, 10, 11]) (by kernel_rfl) (by simp) ?_
      refine consR (i := 7) rfl (fun K hK => ?_) ?_
      · go_simp
        go_at_call 46
        refine (Den_c b r s _ (HB.out.keep hS.1.ik)).mono ?_
        rintro e W2 ⟨t, rfl, ht, hx⟩
        have sx := hx.size
        go_wp2_with fail
        refine hK.out _ _ ⟨hS.1.trans hx, At.ext hx hS.2.1 (by simp), At.ext hx hS.2.2 (by simp)⟩ (fun hHeld => ?_)
        (try simp only [Act.put, List.setIfInBounds_toArray, List.set_cons_zero, List.set_cons_succ])
        rw [← hops]
        exact wpAnyH_listed (by kernel_rfl) (st2_01 _ _ _ _ _ hHeld (hE.trans hx) (hr1.keep hx.ik) ht (o0.ext hx (by omega)) (by omega) (o1.ext hx (by omega)) (by omega) n01)
      refine consR (i := 10) rfl (fun K hK => ?_) ?_
      · go_simp
        have hx := (Ext.refl W).alloc (.cells #[.bool false, .slice none 0 0] 47)
        refine hK.out _ _ ⟨hS.1.trans hx, At.ext hx hS.2.1 (by simp), At.ext hx hS.2.2 (by simp)⟩ (fun hHeld => ?_)
        (try simp only [Act.put, List.setIfInBounds_toArray, List.set_cons_zero, List.set_cons_succ])
        rw [← hops]
        exact wpAnyH_listed (by kernel_rfl) (st1_012 _ _ _ _ _ hHeld (hE.trans hx) (hr1.keep hx.ik) (o0.ext hx (by omega)) (by omega) (o1.ext hx (by omega)) (by omega) ((Blk.at #[.bool false, .slice none 0 0] 47 rfl).own 2 (by simp) noIntW) (by omega) n01 (by omega) (by omega))
      refine consR (i := 11) rfl (fun K hK => ?_) ?_
      · go_simp
        have hx := (Ext.refl W).alloc (.cells #[.bool false, .slice none 0 0] 47)
        refine hK.out _ _ ⟨hS.1.trans hx, At.ext hx hS.2.1 (by simp), At.ext hx hS.2.2 (by simp)⟩ (fun hHeld => ?_)
        (try simp only [Act.put, List.setIfInBounds_toArray, List.set_cons_zero, List.set_cons_succ])
        rw [← hops]
        exact wpAnyH_listed (by kernel_rfl) (st1_013 _ _ _ _ _ hHeld (hE.trans hx) (hr1.keep hx.ik) (o0.ext hx (by omega)) (by omega) (o1.ext hx (by omega)) (by omega) ((Blk.at #[.bool false, .slice none 0 0] 47 rfl).own 2 (by simp) noIntW) (by omega) n01 (by omega) (by omega))
      exact AllReadyH.nil
    have st1_02 : ∀ (W : World) (r1 : IV) (G0 : Nat) (G2 : Nat), CI w a b B W → Ext V W → IsI W r1 q → Own W G0 2 → V.heap.size ≤ G0 → Own W G2 2 → V.heap.size ≤ G2 → G0 ≠ G2 → wpAnyH Try.prog .any ops q0 (fun w' => CI w a b B w') 7 #[true, true, true, true, true, true, true, false, true, false, true, false, false, false, false, false] (CA a b B (.pointer (some ⟨G0, 0, none⟩)) undef (.pointer (some ⟨G2, 0, none⟩)) undef r1.v undef) W := by
      intro W r1 G0 G2 hS hE hr1 o0 b0 o2 b2 n02
      have lB := hS.2.2.lt (by simp)
      have sE := hE.size
      have l0 := o0.lt (by omega)
      have l2 := o2.lt (by omega)
      rw [hops]; unfold CA
      refine wpAnyH_ready (rs := [7, 9, 11]) (by kernel_rfl) (by simp) ?_
      refine consR (i := 7) rfl (fun K hK => ?_) ?_
      · go_simp
        go_at_call 46
        refine (Den_c b r s _ (HB.out.keep hS.1.ik)).mono ?_
        rintro e W2 ⟨t, rfl, ht, hx⟩
        have sx := hx.size
        go_wp2_with fail
        refine hK.out _ _ ⟨hS.1.trans hx, At.ext hx hS.2.1 (by simp), At.ext hx hS.2.2 (by simp)⟩ (fun hHeld => ?_)
        (try simp only [Act.put, List.setIfInBounds_toArray, List.set_cons_zero, List.set_cons_succ])
        rw [← hops]
        exact wpAnyH_listed (by kernel_rfl) (st2_02 _ _ _ _ _ hHeld (hE.trans hx) (hr1.keep hx.ik) ht (o0.ext hx (by omega)) (by omega) (o2.ext hx (by omega)) (by omega) n02)
      refine consR (i := 9) rfl (fun K hK => ?_) ?_
      · go_simp
        have hx := (Ext.refl W).alloc (.cells #[.bool false, .slice none 0 0] 47)
        refine hK.out _ _ ⟨hS.1.trans hx, At.ext hx hS.2.1 (by simp), At.ext hx hS.2.2 (by simp)⟩ (fun hHeld => ?_)
        (try simp only [Act.put, List.setIfInBounds_toArray, List.set_cons_zero, List.set_cons_succ])
        rw [← hops]
        exact wpAnyH_listed (by kernel_rfl) (st1_012 _ _ _ _ _ hHeld (hE.trans hx) (hr1.keep hx.ik) (o0.ext hx (by omega)) (by omega) ((Blk.at #[.bool false, .slice none 0 0] 47 rfl).own 2 (by simp) noIntW) (by omega) (o2.ext hx (by omega)) (by omega) (by omega) n02 (by omega))
      refine consR (i := 11) rfl (fun K hK => ?_) ?_
      · go_simp
        have hx := (Ext.refl W).alloc (.cells #[.bool false, .slice none 0 0] 47)
        refine hK.out _ _ ⟨hS.1.trans hx, At.ext hx hS.2.1 (by simp), At.ext hx hS.2.2 (by simp)⟩ (fun hHeld => ?_)
        (try simp only [Act.put, List.setIfInBounds_toArray, List.set_cons_zero, List.set_cons_succ])
        rw [← hops]
        exact wpAnyH_listed (by kernel_rfl) (st1_023 _ _ _ _ _ hHeld (hE.trans hx) (hr1.keep hx.ik) (o0.ext hx (by omega)) (by omega) (o2.ext hx (by omega)) (by omega) ((Blk.at #[.bool false, .slice none 0 0] 47 rfl).own 2 (by simp) noIntW) (by omega) n02 (by omega) (by omega))
      exact AllReadyH.nil
    have st1_03 : ∀ (W : World) (r1 : IV) (G0 : Nat) (G3 : Nat), CI w a b B W → Ext V W → IsI W r1 q → Own W G0 2 → V.heap.size ≤ G0 → Own W G3 2 → V.heap.size ≤ G3 → G0 ≠ G3 → wpAnyH Try.prog .any ops q0 (fun w' => CI w a b B w') 7 #[true, true, true, true, true, true, true, false, true, false, false, true, false, false, false, false] (CA a b B (.pointer (some ⟨G0, 0, none⟩)) undef undef (.pointer (some ⟨G3, 0, none⟩)) r1.v undef) W := by
      intro W r1 G0 G3 hS hE hr1 o0 b0 o3 b3 n03
      have lB := hS.2.2.lt (by simp)
      have sE := hE.size
      have l0 := o0.lt (by omega)
      have l3 := o3.lt (by omega)
      rw [hops]; unfold CA
      refine wpAnyH_ready (rs := [7, 9, 10]) (by kernel_rfl) (by simp) ?_
      refine consR (i := 7) rfl (fun K hK => ?_) ?_
      · go_simp
        go_at_call 46
        refine (Den_c b r s _ (HB.out.keep hS.1.ik)).mono ?_
        rintro e W2 ⟨t, rfl, ht, hx⟩
        have sx := hx.size
        go_wp2_with fail
        refine hK.out _ _ ⟨hS.1.trans hx, At.ext hx hS.2.1 (by simp), At.ext hx hS.2.2 (by simp)⟩ (fun hHeld => ?_)
        (try simp only [Act.put, List.setIfInBounds_toArray, List.set_cons_zero, List.set_cons_succ])
        rw [← hops]
        exact wpAnyH_listed (by kernel_rfl) (st2_03 _ _ _ _ _ hHeld (hE.trans hx) (hr1.keep hx.ik) ht (o0.ext hx (by omega)) (by omega) (o3.ext hx (by omega)) (by omega) n03)
      refine consR (i := 9) rfl (fun K hK => ?_) ?_
      · go_simp
        have hx := (Ext.refl W).alloc (.cells #[.bool false, .slice none 0 0] 47)
        refine hK.out _ _ ⟨hS.1.trans hx, At.ext hx hS.2.1 (by simp), At.ext hx hS.2.2 (by simp)⟩ (fun hHeld => ?_)
        (try simp only [Act.put, List.setIfInBounds_toArray, List.set_cons_zero, List.set_cons_succ])
        rw [← hops]
        exact wpAnyH_listed (by kernel_rfl) (st1_013 _ _ _ _ _ hHeld (hE.trans hx) (hr1.keep hx.ik) (o0.ext hx (by omega)) (by omega) ((Blk.at #[.bool false, .slice none 0 0] 47 rfl).own 2 (by simp) noIntW) (by omega) (o3.ext hx (by omega)) (by omega) (by omega) n03 (by omega))
      refine consR (i := 10) rfl (fun K hK => ?_) ?_
      · go_simp
        have hx := (Ext.refl W).alloc (.cells #[.bool false, .slice none 0 0] 47)
        refine hK.out _ _ ⟨hS.1.trans hx, At.ext hx hS.2.1 (by simp), At.ext hx hS.2.2 (by simp)⟩ (fun hHeld => ?_)
        (try simp only [Act.put, List.setIfInBounds_toArray, List.set_cons_zero, List.set_cons_succ])
        rw [← hops]
        exact wpAnyH_listed (by kernel_rfl) (st1_023 _ _ _ _ _ hHeld (hE.trans hx) (hr1.keep hx.ik) (o0.ext hx (by omega)) (by omega) ((Blk.at #[.bool false, .slice none 0 0] 47 rfl).own 2 (by simp) noIntW) (by omega) (o3.ext hx (by omega)) (by omega) (by omega) n03 (by omega))
      exact AllReadyH.nil
    have st1_12 : ∀ (W : World) (r1 : IV) (G1 : Nat) (G2 : Nat), CI w a b B W → Ext V W → IsI W r1 q → Own W G1 2 → V.heap.size ≤ G1 → Own W G2 2 → V.heap.size ≤ G2 → G1 ≠ G2 → wpAnyH Try.prog .any ops q0 (fun w' => CI w a b B w') 7 #[true, true, true, true, true, true, true, false, false, true, true, false, false, false, false, false] (CA a b B undef (.pointer (some ⟨G1, 0, none⟩)) (.pointer (some ⟨G2, 0, none⟩)) undef r1.v undef) W := by
      intro W r1 G1 G2 hS hE hr1 o1 b1 o2 b2 n12
      have lB := hS.2.2.lt (by simp)
      have sE := hE.size
      have l1 := o1.lt (by omega)
      have l2 := o2.lt (by omega)
      rw [hops]; unfold CA
      refine wpAnyH_ready (rs := [7, 8, 11]) (by kernel_rfl) (by simp) ?_
      refine consR (i := 7) rfl (fun K hK => ?_) ?_
      · go_simp
        go_at_call 46
        refine (Den_c b r s _ (HB.out.keep hS.1.ik)).mono ?_
        rintro e W2 ⟨t, rfl, ht, hx⟩
        have sx := hx.size
        go_wp2_with fail
        refine hK.out _ _ ⟨hS.1.trans hx, At.ext hx hS.2.1 (by simp), At.ext hx hS.2.2 (by simp)⟩ (fun hHeld => ?_)
        (try simp only [Act.put, List.setIfInBounds_toArray, List.set_cons_zero, List.set_cons_succ])
        rw [← hops]
        exact wpAnyH_listed (by kernel_rfl) (st2_12 _ _ _ _ _ hHeld (hE.trans hx) (hr1.keep hx.ik) ht (o1.ext hx (by omega)) (by omega) (o2.ext hx (by omega)) (by omega) n12)
      refine consR (i := 8) rfl (fun K hK => ?_) ?_
      · go_simp
        have hx := (Ext.refl W).alloc (.cells #[.bool false, .slice none 0 0] 47)
        refine hK.out _ _ ⟨hS.1.trans hx, At.ext hx hS.2.1 (by simp), At.ext hx hS.2.2 (by simp)⟩ (fun hHeld => ?_)
        (try simp only [Act.put, List.setIfInBounds_toArray, List.set_cons_zero, List.set_cons_succ])
        rw [← hops]
        exact wpAnyH_listed (by kernel_rfl) (st1_012 _ _ _ _ _ hHeld (hE.trans hx) (hr1.keep hx.ik) ((Blk.at #[.bool false, .slice none 0 0] 47 rfl).own 2 (by simp) noIntW) (by omega) (o1.ext hx (by omega)) (by omega) (o2.ext hx (by omega)) (by omega) (by omega) (by omega) n12)
      refine consR (i := 11) rfl (fun K hK => ?_) ?_
      · go_simp
        have hx := (Ext.refl W).alloc (.cells #[.bool false, .slice none 0 0] 47)
        refine hK.out _ _ ⟨hS.1.trans hx, At.ext hx hS.2.1 (by simp), At.ext hx hS.2.2 (by simp)⟩ (fun hHeld => ?_)
        (try simp only [Act.put, List.setIfInBounds_toArray, List.set_cons_zero, List.set_cons_succ])
        rw [← hops]
        exact wpAnyH_listed (by kernel_rfl) (st1_123 _ _ _ _ _ hHeld (hE.trans hx) (hr1.keep hx.ik) (o1.ext hx (by omega)) (by omega) (o2.ext hx (by omega)) (by omega) ((Blk.at #[.bool false, .slice none 0 0] 47 rfl).own 2 (by simp) noIntW) (by omega) n12 (by omega) (by omega))
      exact AllReadyH.nil
    have st1_13 : ∀ (W : World) (r1 : IV) (G1 : Nat) (G3 : Nat), CI w a b B W → Ext V W → IsI W r1 q → Own W G1 2 → V.heap.size ≤ G1 → Own W G3 2 → V.heap.size ≤ G3 → G1 ≠ G3 → wpAnyH Try.prog .any ops q0 (fun w' => CI w a b B w') 7 #[true, true, true, true, true, true, true, false, false, true, false, true, false, false, false, false] (CA a b B undef (.pointer (some ⟨G1, 0, none⟩)) undef (.pointer (some ⟨G3, 0, none⟩)) r1.v undef) W := by
      intro W r1 G1 G3 hS hE hr1 o1 b1 o3 b3 n13
      have lB := hS.2.2.lt (by simp)
      have sE := hE.size
      have l1 := o1.lt (by omega)
      have l3 := o3.lt (by omega)
      rw [hops]; unfold CA
      refine wpAnyH_ready (rs := [7, 8, 10]) (by kernel_rfl) (by simp) ?_
      refine consR (i := 7) rfl (fun K hK => ?_) ?_
      · go_simp
        go_at_call 46
        refine (Den_c b r s _ (HB.out.keep hS.1.ik)).mono ?_
        rintro e W2 ⟨t, rfl, ht, hx⟩
        have sx := hx.size
        go_wp2_with fail
        refine hK.out _ _ ⟨hS.1.trans hx, At.ext hx hS.2.1 (by simp), At.ext hx hS.2.2 (by simp)⟩ (fun hHeld => ?_)
        (try simp only [Act.put, List.setIfInBounds_toArray, List.set_cons_zero, List.set_cons_succ])
        rw [← hops]
        exact wpAnyH_listed (by kernel_rfl) (st2_13 _ _ _ _ _ hHeld (hE.trans hx) (hr1.keep hx.ik) ht (o1.ext hx (by omega)) (by omega) (o3.ext hx (by omega)) (by omega) n13)
      refine consR (i := 8) rfl (fun K hK => ?_) ?_
      · go_simp
        have hx := (Ext.refl W).alloc (.cells #[.bool false, .slice none 0 0] 47)
        refine hK.out _ _ ⟨hS.1.trans hx, At.ext hx hS.2.1 (by simp), At.ext hx hS.2.2 (by simp)⟩ (fun hHeld => ?_)
        (try simp only [Act.put, List.setIfInBounds_toArray, List.set_cons_zero, List.set_cons_succ])
        rw [← hops]
        exact wpAnyH_listed (by kernel_rfl) (st1_013 _ _ _ _ _ hHeld (hE.trans hx) (hr1.keep hx.ik) ((Blk.at #[.bool false, .slice none 0 0] 47 rfl).own 2 (by simp) noIntW) (by omega) (o1.ext hx (by omega)) (by omega) (o3.ext hx (by omega)) (by omega) (by omega) (by omega) n13)
      refine consR (i := 10) rfl (fun K hK => ?_) ?_
      · go_simp
        have hx := (Ext.refl W).alloc (.cells #[.bool false, .slice none 0 0] 47)
        refine hK.out _ _ ⟨hS.1.trans hx, At.ext hx hS.2.1 (by simp), At.ext hx hS.2.2 (by simp)⟩ (fun hHeld => ?_)
        (try simp only [Act.put, List.setIfInBounds_toArray, List.set_cons_zero, List.set_cons_succ])
        rw [← hops]
        exact wpAnyH_listed (by kernel_rfl) (st1_123 _ _ _ _ _ hHeld (hE.trans hx) (hr1.keep hx.ik) (o1.ext hx (by omega)) (by omega) ((Blk.at #[.bool false, .slice none 0 0] 47 rfl).own 2 (by simp) noIntW) (by omega) (o3.ext hx (by omega)) (by omega) (by omega) n13 (by omega))
      exact AllReadyH.nil
    have st1_23 : ∀ (W : World) (r1 : IV) (G2 : Nat) (G3 : Nat), CI w a b B W → Ext V W → IsI W r1 q → Own W G2 2 → V.heap.size ≤ G2 → Own W G3 2 → V.heap.size ≤ G3 → G2 ≠ G3 → wpAnyH Try.prog .any ops q0 (fun w' => CI w a b B w') 7 #[true, true, true, true, true, true, true, false, false, false, true, true, false, false, false, false] (CA a b B undef undef (.pointer (some ⟨G2, 0, none⟩)) (.pointer (some ⟨G3, 0, none⟩)) r1.v undef) W := by
      intro W r1 G2 G3 hS hE hr1 o2 b2 o3 b3 n23
      have lB := hS.2.2.lt (by simp)
      have sE := hE.size
      have l2 := o2.lt (by omega)
      have l3 := o3.lt (by omega)
      rw [hops]; unfold CA
      refine wpAnyH_ready (rs := [7, 8, 9]) (by kernel_rfl) (by simp) ?_
      refine consR (i := 7) rfl (fun K hK => ?_) ?_
      · go_simp
        go_at_call 46
        refine (Den_c b r s _ (HB.out.keep hS.1.ik)).mono ?_
        rintro e W2 ⟨t, rfl, ht, hx⟩
        have sx := hx.size
        go_wp2_with fail
        refine hK.out _ _ ⟨hS.1.trans hx, At.ext hx hS.2.1 (by simp), At.ext hx hS.2.2 (by simp)⟩ (fun hHeld => ?_)
        (try simp only [Act.put, List.setIfInBounds_toArray, List.set_cons_zero, List.set_cons_succ])
        rw [← hops]
        exact wpAnyH_listed (by kernel_rfl) (st2_23 _ _ _ _ _ hHeld (hE.trans hx) (hr1.keep hx.ik) ht (o2.ext hx (by omega)) (by omega) (o3.ext hx (by omega)) (by omega) n23)
      refine consR (i := 8) rfl (fun K hK => ?_) ?_
      · go_simp
        have hx := (Ext.refl W).alloc (.cells #[.bool false, .slice none 0 0] 47)
        refine hK.out _ _ ⟨hS.1.trans hx, At.ext hx hS.2.1 (by simp), At.ext hx hS.2.2 (by simp)⟩ (fun hHeld => ?_)
        (try simp only [Act.put, List.setIfInBounds_toArray, List.set_cons_zero, List.set_cons_succ])
        rw [← hops]
        exact wpAnyH_listed (by kernel_rfl) (st1_023 _ _ _ _ _ hHeld (hE.trans hx) (hr1.keep hx.ik) ((Blk.at #[.bool false, .slice none 0 0] 47 rfl).own 2 (by simp) noIntW) (by omega) (o2.ext hx (by omega)) (by omega) (o3.ext hx (by omega)) (by omega) (by omega) (by omega) n23)
      refine consR (i := 9) rfl (fun K hK => ?_) ?_
      · go_simp
        have hx := (Ext.refl W).alloc (.cells #[.bool false, .slice none 0 0] 47)
        refine hK.out _ _ ⟨hS.1.trans hx, At.ext hx hS.2.1 (by simp), At.ext hx hS.2.2 (by simp)⟩ (fun hHeld => ?_)
        (try simp only [Act.put, List.setIfInBounds_toArray, List.set_cons_zero, List.set_cons_succ])
        rw [← hops]
        exact wpAnyH_listed (by kernel_rfl) (st1_123 _ _ _ _ _ hHeld (hE.trans hx) (hr1.keep hx.ik) ((Blk.at #[.bool false, .slice none 0 0] 47 rfl).own 2 (by simp) noIntW) (by omega) (o2.ext hx (by omega)) (by omega) (o3.ext hx (by omega)) (by omega) (by omega) (by omega) n23)
      exact AllReadyH.nil
    have st0_012 : ∀ (W : World) (G0 : Nat) (G1 : Nat) (G2 : Nat), CI w a b B W → Ext V W → Own W G0 2 → V.heap.size ≤ G0 → Own W G1 2 → V.heap.size ≤ G1 → Own W G2 2 → V.heap.size ≤ G2 → G0 ≠ G1 → G0 ≠ G2 → G1 ≠ G2 → wpAnyH Try.prog .any ops q0 (fun w' => CI w a b B w') 7 #[true, true, true, false, true, true, true, false, true, true, true, false, false, false, false, false] (CA a b B (.pointer (some ⟨G0, 0, none⟩)) (.pointer (some ⟨G1, 0, none⟩)) (.pointer (some ⟨G2, 0, none⟩)) undef undef undef) W := by
      intro W G0 G1 G2 hS hE o0 b0 o1 b1 o2 b2 n01 n02 n12
      have lB := hS.2.2.lt (by simp)
      have sE := hE.size
      have l0 := o0.lt (by omega)
      have l1 := o1.lt (by omega)
      have l2 := o2.lt (by omega)
      rw [hops]; unfold CA
      refine wpAnyH_ready (rs := [3, 11]) (by kernel_rfl) (by simp) ?_
      refine consR (i := 3) rfl (fun K hK => ?_) ?_
      · go_simp
        go_at_call 46
        refine (Den_c a p q _ (HA.out.keep hS.1.ik)).mono ?_
        rintro e W2 ⟨t, rfl, ht, hx⟩
        have sx := hx.size
        go_wp2_with fail
        refine hK.out _ _ ⟨hS.1.trans hx, At.ext hx hS.2.1 (by simp), At.ext hx hS.2.2 (by simp)⟩ (fun hHeld => ?_)
        (try simp only [Act.put, List.setIfInBounds_toArray, List.set_cons_zero, List.set_cons_succ])
        rw [← hops]
        exact wpAnyH_listed (by kernel_rfl) (st1_012 _ _ _ _ _ hHeld (hE.trans hx) ht (o0.ext hx (by omega)) (by omega) (o1.ext hx (by omega)) (by omega) (o2.ext hx (by omega)) (by omega) n01 n02 n12)
      refine consR (i := 11) rfl (fun K hK => ?_) ?_
      · go_simp
        have hx := (Ext.refl W).alloc (.cells #[.bool false, .slice none 0 0] 47)
        refine hK.out _ _ ⟨hS.1.trans hx, At.ext hx hS.2.1 (by simp), At.ext hx hS.2.2 (by simp)⟩ (fun hHeld => ?_)
        (try simp only [Act.put, List.setIfInBounds_toArray, List.set_cons_zero, List.set_cons_succ])
        rw [← hops]
        exact wpAnyH_listed (by kernel_rfl) (st0_0123 _ _ _ _ _ hHeld (hE.trans hx) (o0.ext hx (by omega)) (by omega) (o1.ext hx (by omega)) (by omega) (o2.ext hx (by omega)) (by omega) ((Blk.at #[.bool false, .slice none 0 0] 47 rfl).own 2 (by simp) noIntW) (by omega) n01 n02 (by omega) n12 (by omega) (by omega))
      exact AllReadyH.nil
    have st0_013 : ∀ (W : World) (G0 : Nat) (G1 : Nat) (G3 : Nat), CI w a b B W → Ext V W → Own W G0 2 → V.heap.size ≤ G0 → Own W G1 2 → V.heap.size ≤ G1 → Own W G3 2 → V.heap.size ≤ G3 → G0 ≠ G1 → G0 ≠ G3 → G1 ≠ G3 → wpAnyH Try.prog .any ops q0 (fun w' => CI w a b B w') 7 #[true, true, true, false, true, true, true, false, true, true, false, true, false, false, false, false] (CA a b B (.pointer (some ⟨G0, 0, none⟩)) (.pointer (some ⟨G1, 0, none⟩)) undef (.pointer (some ⟨G3, 0, none⟩)) undef undef) W := by
      intro W G0 G1 G3 hS hE o0 b0 o1 b1 o3 b3 n01 n03 n13
      have lB := hS.2.2.lt (by simp)
      have sE := hE.size
      have l0 := o0.lt (by omega)
      have l1 := o1.lt (by omega)
      have l3 := o3.lt (by omega)
      rw [hops]; unfold CA
      refine wpAnyH_ready (rs := [3, 10]) (by kernel_rfl) (by simp) ?_
      refine consR (i := 3) rfl (fun K hK => ?_) ?_
      · go_simp
        go_at_call 46
        refine (Den_c a p q _ (HA.out.keep hS.1.ik)).mono ?_
        rintro e W2 ⟨t, rfl, ht, hx⟩
        have sx := hx.size
        go_wp2_with fail
        refine hK.out _ _ ⟨hS.1.trans hx, At.ext hx hS.2.1 (by simp), At.ext hx hS.2.2 (by simp)⟩ (fun hHeld => ?_)
        (try simp only [Act.put, List.setIfInBounds_toArray, List.set_cons_zero, List.set_cons_succ])
        rw [← hops]
        exact wpAnyH_listed (by kernel_rfl) (st1_013 _ _ _ _ _ hHeld (hE.trans hx) ht (o0.ext hx (by omega)) (by omega) (o1.ext hx (by omega)) (by omega) (o3.ext hx (by omega)) (by omega) n01 n03 n13)
      refine consR (i := 10) rfl (fun K hK => ?_) ?_
      · go_simp
        have hx := (Ext.refl W).alloc (.cells #[.bool false, .slice none 0 0] 47)
        refine hK.out _ _ ⟨hS.1.trans hx, At.ext hx hS.2.1 (by simp), At.ext hx hS.2.2 (by simp)⟩ (fun hHeld => ?_)
        (try simp only [Act.put, List.setIfInBounds_toArray, List.set_cons_zero, List.set_cons_succ])
        rw [← hops]
        exact wpAnyH_listed (by kernel_rfl) (st0_0123 _ _ _ _ _ hHeld (hE.trans hx) (o0.ext hx (by omega)) (by omega) (o1.ext hx (by omega)) (by omega) ((Blk.at #[.bool false, .slice none 0 0] 47 rfl).own 2 (by simp) noIntW) (by omega) (o3.ext hx (by omega)) (by omega) n01 (by omega) n03 (by omega) n13 (by omega))
      exact AllReadyH.nil
    have st0_023 : ∀ (W : World) (G0 : Nat) (G2 : Nat) (G3 : Nat), CI w a b B W → Ext V W → Own W G0 2 → V.heap.size ≤ G0 → Own W G2 2 → V.heap.size ≤ G2 → Own W G3 2 → V.heap.size ≤ G3 → G0 ≠ G2 → G0 ≠ G3 → G2 ≠ G3 → wpAnyH Try.prog .any ops q0 (fun w' => CI w a b B w') 7 #[true, true, true, false, true, true, true, false, true, false, true, true, false, false, false, false] (CA a b B (.pointer (some ⟨G0, 0, none⟩)) undef (.pointer (some ⟨G2, 0, none⟩)) (.pointer (some ⟨G3, 0, none⟩)) undef undef) W := by
      intro W G0 G2 G3 hS hE o0 b0 o2 b2 o3 b3 n02 n03 n23
      have lB := hS.2.2.lt (by simp)
      have sE := hE.size
      have l0 := o0.lt (by omega)
      have l2 := o2.lt (by omega)
      have l3 := o3.lt (by omega)
      rw [hops]; unfold CA
      refine wpAnyH_ready (rs := [3, 9]) (by kernel_rfl) (by simp) ?_
      refine consR (i := 3) rfl (fun K hK => ?_) ?_
      · go_simp
        go_at_call 46
        refine (Den_c a p q _ (HA.out.keep hS.1.ik)).mono ?_
        rintro e W2 ⟨t, rfl, ht, hx⟩
        have sx := hx.size
        go_wp2_with fail
        refine hK.out _ _ ⟨hS.1.trans hx, At.ext hx hS.2.1 (by simp), At.ext hx hS.2.2 (by simp)⟩ (fun hHeld => ?_)
        (try simp only [Act.put, List.setIfInBounds_toArray, List.set_cons_zero, List.set_cons_succ])
        rw [← hops]
        exact wpAnyH_listed (by kernel_rfl) (st1_023 _ _ _ _ _ hHeld (hE.trans hx) ht (o0.ext hx (by omega)) (by omega) (o2.ext hx (by omega)) (by omega) (o3.ext hx (by omega)) (by omega) n02 n03 n23)
      refine consR (i := 9) rfl (fun K hK => ?_) ?_
      · go_simp
        have hx := (Ext.refl W).alloc (.cells #[.bool false, .slice none 0 0] 47)
        refine hK.out _ _ ⟨hS.1.trans hx, At.ext hx hS.2.1 (by simp), At.ext hx hS.2.2 (by simp)⟩ (fun hHeld => ?_)
        (try simp only [Act.put, List.setIfInBounds_toArray, List.set_cons_zero, List.set_cons_succ])
        rw [← hops]
        exact wpAnyH_listed (by kernel_rfl) (st0_0123 _ _ _ _ _ hHeld (hE.trans hx) (o0.ext hx (by omega)) (by omega) ((Blk.at #[.bool false, .slice none 0 0] 47 rfl).own 2 (by simp) noIntW) (by omega) (o2.ext hx (by omega)) (by omega) (o3.ext hx (by omega)) (by omega) (by omega) n02 n03 (by omega) (by omega) n23)
      exact AllReadyH.nil
    have st0_123 : ∀ (W : World) (G1 : Nat) (G2 : Nat) (G3 : Nat), CI w a b B W → Ext V W → Own W G1 2 → V.heap.size ≤ G1 → Own W G2 2 → V.heap.size ≤ G2 → Own W G3 2 → V.heap.size ≤ G3 → G1 ≠ G2 → G1 ≠ G3 → G2 ≠ G3 → wpAnyH Try.prog .any ops q0 (fun w' => CI w a b B w') 7 #[true, true, true, false, true, true, true, false, false, true, true, true, false, false, false, false] (CA a b B undef (.pointer (some ⟨G1, 0, none⟩)) (.pointer (some ⟨G2, 0, none⟩)) (.pointer (some ⟨G3, 0, none⟩)) undef undef) W := by
      intro W G1 G2 G3 hS hE o1 b1 o2 b2 o3 b3 n12 n13 n23
      have lB := hS.2.2.lt (by simp)
      have sE := hE.size
      have l1 := o1.lt (by omega)
      have l2 := o2.lt (by omega)
      have l3 := o3.lt (by omega)
      rw [hops]; unfold CA
      refine wpAnyH_ready (rs := [3, 8]) (by kernel_rfl) (by simp) ?_
      refine consR (i := 3) rfl (fun K hK => ?_) ?_
      · go_simp
        go_at_call 46
        refine (Den_c a p q _ (HA.out.keep hS.1.ik)).mono ?_
        rintro e W2 ⟨t, rfl, ht, hx⟩
        have sx := hx.size
        go_wp2_with fail
        refine hK.out _ _ ⟨hS.1.trans hx, At.ext hx hS.2.1 (by simp), At.ext hx hS.2.2 (by simp)⟩ (fun hHeld => ?_)
        (try simp only [Act.put, List.setIfInBounds_toArray, List.set_cons_zero, List.set_cons_succ])
        rw [← hops]
        exact wpAnyH_listed (by kernel_rfl) (st1_123 _ _ _ _ _ hHeld (hE.trans hx) ht (o1.ext hx (by omega)) (by omega) (o2.ext hx (by omega)) (by omega) (o3.ext hx (by omega)) (by omega) n12 n13 n23)
      refine consR (i := 8) rfl (fun K hK => ?_) ?_
      · go_simp
        have hx := (Ext.refl W).alloc (.cells #[.bool false, .slice none 0 0] 47)
        refine hK.out _ _ ⟨hS.1.trans hx, At.ext hx hS.2.1 (by simp), At.ext hx hS.2.2 (by simp)⟩ (fun hHeld => ?_)
        (try simp only [Act.put, List.setIfInBounds_toArray, List.set_cons_zero, List.set_cons_succ])
        rw [← hops]
        exact wpAnyH_listed (by kernel_rfl) (st0_0123 _ _ _ _ _ hHeld (hE.trans hx) ((Blk.at #[.bool false, .slice none 0 0] 47 rfl).own 2 (by simp) noIntW) (by omega) (o1.ext hx (by omega)) (by omega) (o2.ext hx (by omega)) (by omega) (o3.ext hx (by omega)) (by omega) (by omega) (by omega) (by omega) n12 n13 n23)
      exact AllReadyH.nil
    have st2_n : ∀ (W : World) (r1 : IV) (r2 : IV), CI w a b B W → Ext V W → IsI W r1 q → IsI W r2 s → wpAnyH Try.prog .any ops q0 (fun w' => CI w a b B w') 8 #[true, true, true, true, true, true, true, true, false, false, false, false, false, false, false, false] (CA a b B undef undef undef undef r1.v r2.v) W := by
      intro W r1 r2 hS hE hr1 hr2
      have lB := hS.2.2.lt (by simp)
      have sE := hE.size
      rw [hops]; unfold CA
      refine wpAnyH_ready (rs := [8, 9, 10, 11]) (by kernel_rfl) (by simp) ?_
      refine consR (i := 8) rfl (fun K hK => ?_) ?_
      · go_simp
        have hx := (Ext.refl W).alloc (.cells #[.bool false, .slice none 0 0] 47)
        refine hK.out _ _ ⟨hS.1.trans hx, At.ext hx hS.2.1 (by simp), At.ext hx hS.2.2 (by simp)⟩ (fun hHeld => ?_)
        (try simp only [Act.put, List.setIfInBounds_toArray, List.set_cons_zero, List.set_cons_succ])
        rw [← hops]
        exact wpAnyH_listed (by kernel_rfl) (st2_0 _ _ _ _ hHeld (hE.trans hx) (hr1.keep hx.ik) (hr2.keep hx.ik) ((Blk.at #[.bool false, .slice none 0 0] 47 rfl).own 2 (by simp) noIntW) (by omega))
      refine consR (i := 9) rfl (fun K hK => ?_) ?_
      · go_simp
        have hx := (Ext.refl W).alloc (.cells #[.bool false, .slice none 0 0] 47)
        refine hK.out _ _ ⟨hS.1.trans hx, At.ext hx hS.2.1 (by simp), At.ext hx hS.2.2 (by simp)⟩ (fun hHeld => ?_)
        (try simp only [Act.put, List.setIfInBounds_toArray, List.set_cons_zero, List.set_cons_succ])
        rw [← hops]
        exact wpAnyH_listed (by kernel_rfl) (st2_1 _ _ _ _ hHeld (hE.trans hx) (hr1.keep hx.ik) (hr2.keep hx.ik) ((Blk.at #[.bool false, .slice none 0 0] 47 rfl).own 2 (by simp) noIntW) (by omega))
      refine consR (i := 10) rfl (fun K hK => ?_) ?_
      · go_simp
        have hx := (Ext.refl W).alloc (.cells #[.bool false, .slice none 0 0] 47)
        refine hK.out _ _ ⟨hS.1.trans hx, At.ext hx hS.2.1 (by simp), At.ext hx hS.2.2 (by simp)⟩ (fun hHeld => ?_)
        (try simp only [Act.put, List.setIfInBounds_toArray, List.set_cons_zero, List.set_cons_succ])
        rw [← hops]
        exact wpAnyH_listed (by kernel_rfl) (st2_2 _ _ _ _ hHeld (hE.trans hx) (hr1.keep hx.ik) (hr2.keep hx.ik) ((Blk.at #[.bool false, .slice none 0 0] 47 rfl).own 2 (by simp) noIntW) (by omega))
      refine consR (i := 11) rfl (fun K hK => ?_) ?_
      · go_simp
        have hx := (Ext.refl W).alloc (.cells #[.bool false, .slice none 0 0] 47)
        refine hK.out _ _ ⟨hS.1.trans hx, At.ext hx hS.2.1 (by simp), At.ext hx hS.2.2 (by simp)⟩ (fun hHeld => ?_)
        (try simp only [Act.put, List.setIfInBounds_toArray, List.set_cons_zero, List.set_cons_succ])
        rw [← hops]
        exact wpAnyH_listed (by kernel_rfl) (st2_3 _ _ _ _ hHeld (hE.trans hx) (hr1.keep hx.ik) (hr2.keep hx.ik) ((Blk.at #[.bool false, .slice none 0 0] 47 rfl).own 2 (by simp) noIntW) (by omega))
      exact AllReadyH.nil
    have st1_0 : ∀ (W : World) (r1 : IV) (G0 : Nat), CI w a b B W → Ext V W → IsI W r1 q → Own W G0 2 → V.heap.size ≤ G0 → wpAnyH Try.prog .any ops q0 (fun w' => CI w a b B w') 8 #[true, true, true, true, true, true, true, false, true, false, false, false, false, false, false, false] (CA a b B (.pointer (some ⟨G0, 0, none⟩)) undef undef undef r1.v undef) W := by
      intro W r1 G0 hS hE hr1 o0 b0
      have lB := hS.2.2.lt (by simp)
      have sE := hE.size
      have l0 := o0.lt (by omega)
      rw [hops]; unfold CA
      refine wpAnyH_ready (rs := [7, 9, 10, 11]) (by kernel_rfl) (by simp) ?_
      refine consR (i := 7) rfl (fun K hK => ?_) ?_
      · go_simp
        go_at_call 46
        refine (Den_c b r s _ (HB.out.keep hS.1.ik)).mono ?_
        rintro e W2 ⟨t, rfl, ht, hx⟩
        have sx := hx.size
        go_wp2_with fail
        refine hK.out _ _ ⟨hS.1.trans hx, At.ext hx hS.2.1 (by simp), At.ext hx hS.2.2 (by simp)⟩ (fun hHeld => ?_)
        (try simp only [Act.put, List.setIfInBounds_toArray, List.set_cons_zero, List.set_cons_succ])
        rw [← hops]
        exact wpAnyH_listed (by kernel_rfl) (st2_0 _ _ _ _ hHeld (hE.trans hx) (hr1.keep hx.ik) ht (o0.ext hx (by omega)) (by omega))
      refine consR (i := 9) rfl (fun K hK => ?_) ?_
      · go_simp
        have hx := (Ext.refl W).alloc (.cells #[.bool false, .slice none 0 0] 47)
        refine hK.out _ _ ⟨hS.1.trans hx, At.ext hx hS.2.1 (by simp), At.ext hx hS.2.2 (by simp)⟩ (fun hHeld => ?_)
        (try simp only [Act.put, List.setIfInBounds_toArray, List.set_cons_zero, List.set_cons_succ])
        rw [← hops]
        exact wpAnyH_listed (by kernel_rfl) (st1_01 _ _ _ _ hHeld (hE.trans hx) (hr1.keep hx.ik) (o0.ext hx (by omega)) (by omega) ((Blk.at #[.bool false, .slice none 0 0] 47 rfl).own 2 (by simp) noIntW) (by omega) (by omega))
      refine consR (i := 10) rfl (fun K hK => ?_) ?_
      · go_simp
        have hx := (Ext.refl W).alloc (.cells #[.bool false, .slice none 0 0] 47)
        refine hK.out _ _ ⟨hS.1.trans hx, At.ext hx hS.2.1 (by simp), At.ext hx hS.2.2 (by simp)⟩ (fun hHeld => ?_)
        (try simp only [Act.put, List.setIfInBounds_toArray, List.set_cons_zero, List.set_cons_succ])
        rw [← hops]
        exact wpAnyH_listed (by kernel_rfl) (st1_02 _ _ _ _ hHeld (hE.trans hx) (hr1.keep hx.ik) (o0.ext hx (by omega)) (by omega) ((Blk.at #[.bool false, .slice none 0 0] 47 rfl).own 2 (by simp) noIntW) (by omega) (by omega))
      refine consR (i := 11) rfl (fun K hK => ?_) ?_
      · go_simp
        have hx := (Ext.refl W).alloc (.cells #[.bool false, .slice none 0 0] 47)
        refine hK.out _ _ ⟨hS.1.trans hx, At.ext hx hS.2.1 (by simp), At.ext hx hS.2.2 (by simp)⟩ (fun hHeld => ?_)
        (try simp only [Act.put, List.setIfInBounds_toArray, List.set_cons_zero, List.set_cons_succ])
        rw [← hops]
        exact wpAnyH_listed (by kernel_rfl) (st1_03 _ _ _ _ hHeld (hE.trans hx) (hr1.keep hx.ik) (o0.ext hx (by omega)) (by omega) ((Blk.at #[.bool false, .slice none 0 0] 47 rfl).own 2 (by simp) noIntW) (by omega) (by omega))
      exact AllReadyH.nil
    have st1_1 : ∀ (W : World) (r1 : IV) (G1 : Nat), CI w a b B W → Ext V W → IsI W r1 q → Own W G1 2 → V.heap.size ≤ G1 → wpAnyH Try.prog .any ops q0 (fun w' => CI w a b B w') 8 #[true, true, true, true, true, true, true, false, false, true, false, false, false, false, false, false] (CA a b B undef (.pointer (some ⟨G1, 0, none⟩)) undef undef r1.v undef) W := by
      intro W r1 G1 hS hE hr1 o1 b1
      have lB := hS.2.2.lt (by simp)
      have sE := hE.size
      have l1 := o1.lt (by omega)
      rw [hops]; unfold CA
      refine wpAnyH_ready (rs := [7, 8, 10, 11]) (by kernel_rfl) (by simp) ?_
      refine consR (i := 7) rfl (fun K hK => ?_) ?_
      · go_simp
        go_at_call 46
        refine (Den_c b r s _ (HB.out.keep hS.1.ik)).mono ?_
        rintro e W2 ⟨t, rfl, ht, hx⟩
        have sx := hx.size
        go_wp2_with fail
        refine hK.out _ _ ⟨hS.1.trans hx, At.ext hx hS.2.1 (by simp), At.ext hx hS.2.2 (by simp)⟩ (fun hHeld => ?_)
        (try simp only [Act.put, List.setIfInBounds_toArray, List.set_cons_zero, List.set_cons_succ])
        rw [← hops]
        exact wpAnyH_listed (by kernel_rfl) (st2_1 _ _ _ _ hHeld (hE.trans hx) (hr1.keep hx.ik) ht (o1.ext hx (by omega)) (by omega))
      refine consR (i := 8) rfl (fun K hK => ?_) ?_
      · go_simp
        have hx := (Ext.refl W).alloc (.cells #[.bool false, .slice none 0 0] 47)
        refine hK.out _ _ ⟨hS.1.trans hx, At.ext hx hS.2.1 (by simp), At.ext hx hS.2.2 (by simp)⟩ (fun hHeld => ?_)
        (try simp only [Act.put, List.setIfInBounds_toArray, List.set_cons_zero, List.set_cons_succ])
        rw [← hops]
        exact wpAnyH_listed (by kernel_rfl) (st1_01 _ _ _ _ hHeld (hE.trans hx) (hr1.keep hx.ik) ((Blk.at #[.bool false, .slice none 0 0] 47 rfl).own 2 (by simp) noIntW) (by omega) (o1.ext hx (by omega)) (by omega) (by omega))
      refine consR (i := 10) rfl (fun K hK => ?_) ?_
      · go_simp
        have hx := (Ext.refl W).alloc (.cells #[.bool false, .slice none 0 0] 47)
        refine hK.out _ _ ⟨hS.1.trans hx, At.ext hx hS.2.1 (by simp), At.ext hx hS.2.2 (by simp)⟩ (fun hHeld => ?_)
        (try simp only [Act.put, List.setIfInBounds_toArray, List.set_cons_zero, List.set_cons_succ])
        rw [← hops]
        exact wpAnyH_listed (by kernel_rfl) (st1_12 _ _ _ _ hHeld (hE.trans hx) (hr1.keep hx.ik) (o1.ext hx (by omega)) (by omega) ((Blk.at #[.bool false, .slice none 0 0] 47 rfl).own 2 (by simp) noIntW) (by omega) (by omega))
      refine consR (i := 11) rfl (fun K hK => ?_) ?_
      · go_simp
        have hx := (Ext.refl W).alloc (.cells #[.bool false, .slice none 0 0] 47)
        refine hK.out _ _ ⟨hS.1.trans hx, At.ext hx hS.2.1 (by simp), At.ext hx hS.2.2 (by simp)⟩ (fun hHeld => ?_)
        (try simp only [Act.put, List.setIfInBounds_toArray, List.set_cons_zero, List.set_cons_succ])
        rw [← hops]
        exact wpAnyH_listed (by kernel_rfl) (st1_13 _ _ _ _ hHeld (hE.trans hx) (hr1.keep hx.ik) (o1.ext hx (by omega)) (by omega) ((Blk.at #[.bool false, .slice none 0 0] 47 rfl).own 2 (by simp) noIntW) (by omega) (by omega))
      exact AllReadyH.nil
    have st1_2 : ∀ (W : World) (r1 : IV) (G2 : Nat), CI w a b B W → Ext V W → IsI W r1 q → Own W G2 2 → V.heap.size ≤ G2 → wpAnyH Try.prog .any ops q0 (fun w' => CI w a b B w') 8 #[true, true, true, true, true, true, true, false, false, false, true, false, false, false, false, false] (CA a b B undef undef (.pointer (some ⟨G2, 0, none⟩)) undef r1.v undef) W := by
      intro W r1 G2 hS hE hr1 o2 b2
      have lB := hS.2.2.lt (by simp)
      have sE := hE.size
      have l2 := o2.lt (by omega)
      rw [hops]; unfold CA
      refine wpAnyH_ready (rs := [7, 8, 9, 11]) (by kernel_rfl) (by simp) ?_
      refine consR (i := 7) rfl (fun K hK => ?_) ?_
      · go_simp
        go_at_call 46
        refine (Den_c b r s _ (HB.out.keep hS.1.ik)).mono ?_
        rintro e W2 ⟨t, rfl, ht, hx⟩
        have sx := hx.size
        go_wp2_with fail
        refine hK.out _ _ ⟨hS.1.trans hx, At.ext hx hS.2.1 (by simp), At.ext hx hS.2.2 (by simp)⟩ (fun hHeld => ?_)
        (try simp only [Act.put, List.setIfInBounds_toArray, List.set_cons_zero, List.set_cons_succ])
        rw [← hops]
        exact wpAnyH_listed (by kernel_rfl) (st2_2 _ _ _ _ hHeld (hE.trans hx) (hr1.keep hx.ik) ht (o2.ext hx (by omega)) (by omega))
      refine consR (i := 8) rfl (fun K hK => ?_) ?_
      · go_simp
        have hx := (Ext.refl W).alloc (.cells #[.bool false, .slice none 0 0] 47)
        refine hK.out _ _ ⟨hS.1.trans hx, At.ext hx hS.2.1 (by simp), At.ext hx hS.2.2 (by simp)⟩ (fun hHeld => ?_)
        (try simp only [Act.put, List.setIfInBounds_toArray, List.set_cons_zero, List.set_cons_succ])
        rw [← hops]
        exact wpAnyH_listed (by kernel_rfl) (st1_02 _ _ _ _ hHeld (hE.trans hx) (hr1.keep hx.ik) ((Blk.at #[.bool false, .slice none 0 0] 47 rfl).own 2 (by simp) noIntW) (by omega) (o2.ext hx (by omega)) (by omega) (by omega))
      refine consR (i := 9) rfl (fun K hK => ?_) ?_
      · go_simp
        have hx := (Ext.refl W).alloc (.cells #[.bool false, .slice none 0 0] 47)
        refine hK.out _ _ ⟨hS.1.trans hx, At.ext hx hS.2.1 (by simp), At.ext hx hS.2.2 (by simp)⟩ (fun hHeld => ?_)
        (try simp only [Act.put, List.setIfInBounds_toArray, List.set_cons_zero, List.set_cons_succ])
        rw [← hops]
        exact wpAnyH_listed (by kernel_rfl) (st1_12 _ _ _ _ hHeld (hE.trans hx) (hr1.keep hx.ik) ((Blk.at #[.bool false, .slice none 0 0] 47 rfl).own 2 (by simp) noIntW) (by omega) (o2.ext hx (by omega)) (by omega) (by omega))
      refine consR (i := 11) rfl (fun K hK => ?_) ?_
      · go_simp
        have hx := (Ext.refl W).alloc (.cells #[.bool false, .slice none 0 0] 47)
        refine hK.out _ _ ⟨hS.1.trans hx, At.ext hx hS.2.1 (by simp), At.ext hx hS.2.2 (by simp)⟩ (fun hHeld => ?_)
        (try simp only [Act.put, List.setIfInBounds_toArray, List.set_cons_zero, List.set_cons_succ])
        rw [← hops]
        exact wpAnyH_listed (by kernel_rfl) (st1_23 _ _ _ _ hHeld (hE.trans hx) (hr1.keep hx.ik) (o2.ext hx (by omega)) (by omega) ((Blk.at #[.bool false, .slice none 0 0] 47 rfl).own 2 (by simp) noIntW) (by omega) (by omega))
      exact AllReadyH.nil
    have st1_3 : ∀ (W : World) (r1 : IV) (G3 : Nat), CI w a b B W → Ext V W → IsI W r1 q → Own W G3 2 → V.heap.size ≤ G3 → wpAnyH Try.prog .any ops q0 (fun w' => CI w a b B w') 8 #[true, true, true, true, true, true, true, false, false, false, false, true, false, false, false, false] (CA a b B undef undef undef (.pointer (some ⟨G3, 0, none⟩)) r1.v undef) W := by
      intro W r1 G3 hS hE hr1 o3 b3
      have lB := hS.2.2.lt (by simp)
      have sE := hE.size
      have l3 := o3.lt (by omega)
      rw [hops]; unfold CA
      refine wpAnyH_ready (rs := [7, 8, 9, 10]) (by kernel_rfl) (by simp) ?_
      refine consR (i := 7) rfl (fun K hK => ?_) ?_
      · go_simp
        go_at_call 46
        refine (Den_c b r s _ (HB.out.keep hS.1.ik)).mono ?_
        rintro e W2 ⟨t, rfl, ht, hx⟩
        have sx := hx.size
        go_wp2_with fail
        refine hK.out _ _ ⟨hS.1.trans hx, At.ext hx hS.2.1 (by simp), At.ext hx hS.2.2 (by simp)⟩ (fun hHeld => ?_)
        (try simp only [Act.put, List.setIfInBounds_toArray, List.set_cons_zero, List.set_cons_succ])
        rw [← hops]
        exact wpAnyH_listed (by kernel_rfl) (st2_3 _ _ _ _ hHeld (hE.trans hx) (hr1.keep hx.ik) ht (o3.ext hx (by omega)) (by omega))
      refine consR (i := 8) rfl (fun K hK => ?_) ?_
      · go_simp
        have hx := (Ext.refl W).alloc (.cells #[.bool false, .slice none 0 0] 47)
        refine hK.out _ _ ⟨hS.1.trans hx, At.ext hx hS.2.1 (by simp), At.ext hx hS.2.2 (by simp)⟩ (fun hHeld => ?_)
        (try simp only [Act.put, List.setIfInBounds_toArray, List.set_cons_zero, List.set_cons_succ])
        rw [← hops]
        exact wpAnyH_listed (by kernel_rfl) (st1_03 _ _ _ _ hHeld (hE.trans hx) (hr1.keep hx.ik) ((Blk.at #[.bool false, .slice none 0 0] 47 rfl).own 2 (by simp) noIntW) (by omega) (o3.ext hx (by omega)) (by omega) (by omega))
      refine consR (i := 9) rfl (fun K hK => ?_) ?_
      · go_simp
        have hx := (Ext.refl W).alloc (.cells #[.bool false, .slice none 0 0] 47)
        refine hK.out _ _ ⟨hS.1.trans hx, At.ext hx hS.2.1 (by simp), At.ext hx hS.2.2 (by simp)⟩ (fun hHeld => ?_)
        (try simp only [Act.put, List.setIfInBounds_toArray, List.set_cons_zero, List.set_cons_succ])
        rw [← hops]
        exact wpAnyH_listed (by kernel_rfl) (st1_13 _ _ _ _ hHeld (hE.trans hx) (hr1.keep hx.ik) ((Blk.at #[.bool false, .slice none 0 0] 47 rfl).own 2 (by simp) noIntW) (by omega) (o3.ext hx (by omega)) (by omega) (by omega))
      refine consR (i := 10) rfl (fun K hK => ?_) ?_
      · go_simp
        have hx := (Ext.refl W).alloc (.cells #[.bool false, .slice none 0 0] 47)
        refine hK.out _ _ ⟨hS.1.trans hx, At.ext hx hS.2.1 (by simp), At.ext hx hS.2.2 (by simp)⟩ (fun hHeld => ?_)
        (try simp only [Act.put, List.setIfInBounds_toArray, List.set_cons_zero, List.set_cons_succ])
        rw [← hops]
        exact wpAnyH_listed (by kernel_rfl) (st1_23 _ _ _ _ hHeld (hE.trans hx) (hr1.keep hx.ik) ((Blk.at #[.bool false, .slice none 0 0] 47 rfl).own 2 (by simp) noIntW) (by omega) (o3.ext hx (by omega)) (by omega) (by omega))
      exact AllReadyH.nil
    have st0_01 : ∀ (W : World) (G0 : Nat) (G1 : Nat), CI w a b B W → Ext V W → Own W G0 2 → V.heap.size ≤ G0 → Own W G1 2 → V.heap.size ≤ G1 → G0 ≠ G1 → wpAnyH Try.prog .any ops q0 (fun w' => CI w a b B w') 8 #[true, true, true, false, true, true, true, false, true, true, false, false, false, false, false, false] (CA a b B (.pointer (some ⟨G0, 0, none⟩)) (.pointer (some ⟨G1, 0, none⟩)) undef undef undef undef) W := by
      intro W G0 G1 hS hE o0 b0 o1 b1 n01
      have lB := hS.2.2.lt (by simp)
      have sE := hE.size
      have l0 := o0.lt (by omega)
      have l1 := o1.lt (by omega)
      rw [hops]; unfold CA
      refine wpAnyH_ready (rs := [3, 10, 11]) (by kernel_rfl) (by simp) ?_
      refine consR (i := 3) rfl (fun K hK => ?_) ?_
      · go_simp
        go_at_call 46
        refine (Den_c a p q _ (HA.out.keep hS.1.ik)).mono ?_
        rintro e W2 ⟨t, rfl, ht, hx⟩
        have sx := hx.size
        go_wp2_with fail
        refine hK.out _ _ ⟨hS.1.trans hx, At.ext hx hS.2.1 (by simp), At.ext hx hS.2.2 (by simp)⟩ (fun hHeld => ?_)
        (try simp only [Act.put, List.setIfInBounds_toArray, List.set_cons_zero, List.set_cons_succ])
        rw [← hops]
        exact wpAnyH_listed (by kernel_rfl) (st1_01 _ _ _ _ hHeld (hE.trans hx) ht (o0.ext hx (by omega)) (by omega) (o1.ext hx (by omega)) (by omega) n01)
      refine consR (i := 10) rfl (fun K hK => ?_) ?_
      · go_simp
        have hx := (Ext.refl W).alloc (.cells #[.bool false, .slice none 0 0] 47)
        refine hK.out _ _ ⟨hS.1.trans hx, At.ext hx hS.2.1 (by simp), At.ext hx hS.2.2 (by simp)⟩ (fun hHeld => ?_)
        (try simp only [Act.put, List.setIfInBounds_toArray, List.set_cons_zero, List.set_cons_succ])
        rw [← hops]
        exact wpAnyH_listed (by kernel_rfl) (st0_012 _ _ _ _ hHeld (hE.trans hx) (o0.ext hx (by omega)) (by omega) (o1.ext hx (by omega)) (by omega) ((Blk.at #[.bool false, .slice none 0 0] 47 rfl).own 2 (by simp) noIntW) (by omega) n01 (by omega) (by omega))
      refine consR (i := 11) rfl (fun K hK => ?_) ?_
      · go_simp
        have hx := (Ext.refl W).alloc (.cells #[.bool false, .slice none 0 0] 47)
        refine hK.out _ _ ⟨hS.1.trans hx, At.ext hx hS.2.1 (by simp), At.ext hx hS.2.2 (by simp)⟩ (fun hHeld => ?_)
        (try simp only [Act.put, List.setIfInBounds_toArray, List.set_cons_zero, List.set_cons_succ])
        rw [← hops]
        exact wpAnyH_listed (by kernel_rfl) (st0_013 _ _ _ _ hHeld (hE.trans hx) (o0.ext hx (by omega)) (by omega) (o1.ext hx (by omega)) (by omega) ((Blk.at #[.bool false, .slice none 0 0] 47 rfl).own 2 (by simp) noIntW) (by omega) n01 (by omega) (by omega))
      exact AllReadyH.nil
    have st0_02 : ∀ (W : World) (G0 : Nat) (G2 : Nat), CI w a b B W → Ext V W → Own W G0 2 → V.heap.size ≤ G0 → Own W G2 2 → V.heap.size ≤ G2 → G0 ≠ G2 → wpAnyH Try.prog .any ops q0 (fun w' => CI w a b B w') 8 #[true, true, true, false, true, true, true, false, true, false, true, false, false, false, false, false] (CA a b B (.pointer (some ⟨G0, 0, none⟩)) undef (.pointer (some ⟨G2, 0, none⟩)) undef undef undef) W := by
      intro W G0 G2 hS hE o0 b0 o2 b2 n02
      have lB := hS.2.2.lt (by simp)
      have sE := hE.size
      have l0 := o0.lt (by omega)
      have l2 := o2.lt (by omega)
      rw [hops]; unfold CA
      refine wpAnyH_ready (rs := [3, 9, 11]) (by kernel_rfl) (by simp) ?_
      refine consR (i := 3) rfl (fun K hK => ?_) ?_
      · go_simp
        go_at_call 46
        refine (Den_c a p q _ (HA.out.keep hS.1.ik)).mono ?_
        rintro e W2 ⟨t, rfl, ht, hx⟩
        have sx := hx.size
        go_wp2_with fail
        refine hK.out _ _ ⟨hS.1.trans hx, At.ext hx hS.2.1 (by simp), At.ext hx hS.2.2 (by simp)⟩ (fun hHeld => ?_)
        (try simp only [Act.put, List.setIfInBounds_toArray, List.set_cons_zero, List.set_cons_succ])
        rw [← hops]
        exact wpAnyH_listed (by kernel_rfl) (st1_02 _ _ _ _ hHeld (hE.trans hx) ht (o0.ext hx (by omega)) (by omega) (o2.ext hx (by omega)) (by omega) n02)
      refine consR (i := 9) rfl (fun K hK => ?_) ?_
      · go_simp
        have hx := (Ext.refl W).alloc (.cells #[.bool false, .slice none 0 0] 47)
        refine hK.out _ _ ⟨hS.1.trans hx, At.ext hx hS.2.1 (by simp), At.ext hx hS.2.2 (by simp)⟩ (fun hHeld => ?_)
        (try simp only [Act.put, List.setIfInBounds_toArray, List.set_cons_zero, List.set_cons_succ])
        rw [← hops]
        exact wpAnyH_listed (by kernel_rfl) (st0_012 _ _ _ _ hHeld (hE.trans hx) (o0.ext hx (by omega)) (by omega) ((Blk.at #[.bool false, .slice none 0 0] 47 rfl).own 2 (by simp) noIntW) (by omega) (o2.ext hx (by omega)) (by omega) (by omega) n02 (by omega))
      refine consR (i := 11) rfl (fun K hK => ?_) ?_
      · go_simp
        have hx := (Ext.refl W).alloc (.cells #[.bool false, .slice none 0 0] 47)
        refine hK.out _ _ ⟨hS.1.trans hx, At.ext hx hS.2.1 (by simp), At.ext hx hS.2.2 (by simp)⟩ (fun hHeld => ?_)
        (try simp only [Act.put, List.setIfInBounds_toArray, List.set_cons_zero, List.set_cons_succ])
        rw [← hops]
        exact wpAnyH_listed (by kernel_rfl) (st0_023 _ _ _ _ hHeld (hE.trans hx) (o0.ext hx (by omega)) (by omega) (o2.ext hx (by omega)) (by omega) ((Blk.at #[.bool false, .slice none 0 0] 47 rfl).own 2 (by simp) noIntW) (by omega) n02 (by omega) (by omega))
      exact AllReadyH.nil
    have st0_03 : ∀ (W : World) (G0 : Nat) (G3 : Nat), CI w a b B W → Ext V W → Own W G0 2 → V.heap.size ≤ G0 → Own W G3 2 → V.heap.size ≤ G3 → G0 ≠ G3 → wpAnyH Try.prog .any ops q0 (fun w' => CI w a b B w') 8 #[true, true, true, false, true, true, true, false, true, false, false, true, false, false, false, false] (CA a b B (.pointer (some ⟨G0, 0, none⟩)) undef undef (.pointer (some ⟨G3, 0, none⟩)) undef undef) W := by
      intro W G0 G3 hS hE o0 b0 o3 b3 n03
      have lB := hS.2.2.lt (by simp)
      have sE := hE.size
      have l0 := o0.lt (by omega)
      have l3 := o3.lt (by omega)
      rw [hops]; unfold CA
      refine wpAnyH_ready (rs := [3, 9, 10]) (by kernel_rfl) (by simp) ?_
      refine consR (i := 3) rfl (fun K hK => ?_) ?_
      · go_simp
        go_at_call 46
        refine (Den_c a p q _ (HA.out.keep hS.1.ik)).mono ?_
        rintro e W2 ⟨t, rfl, ht, hx⟩
        have sx := hx.size
        go_wp2_with fail
        refine hK.out _ _ ⟨hS.1.trans hx, At.ext hx hS.2.1 (by simp), At.ext hx hS.2.2 (by simp)⟩ (fun hHeld => ?_)
        (try simp only [Act.put, List.setIfInBounds_toArray, List.set_cons_zero, List.set_cons_succ])
        rw [← hops]
        exact wpAnyH_listed (by kernel_rfl) (st1_03 _ _ _ _ hHeld (hE.trans hx) ht (o0.ext hx (by omega)) (by omega) (o3.ext hx (by omega)) (by omega) n03)
      refine consR (i := 9) rfl (fun K hK => ?_) ?_
      · go_simp
        have hx := (Ext.refl W).alloc (.cells #[.bool false, .slice none 0 0] 47)
        refine hK.out _ _ ⟨hS.1.trans hx, At.ext hx hS.2.1 (by simp), At.ext hx hS.2.2 (by simp)⟩ (fun hHeld => ?_)
        (try simp only [Act.put, List.setIfInBounds_toArray, List.set_cons_zero, List.set_cons_succ])
        rw [← hops]
        exact wpAnyH_listed (by kernel_rfl) (st0_013 _ _ _ _ hHeld (hE.trans hx) (o0.ext hx (by omega)) (by omega) ((Blk.at #[.bool false, .slice none 0 0] 47 rfl).own 2 (by simp) noIntW) (by omega) (o3.ext hx (by omega)) (by omega) (by omega) n03 (by omega))
      refine consR (i := 10) rfl (fun K hK => ?_) ?_
      · go_simp
        have hx := (Ext.refl W).alloc (.cells #[.bool false, .slice none 0 0] 47)
        refine hK.out _ _ ⟨hS.1.trans hx, At.ext hx hS.2.1 (by simp), At.ext hx hS.2.2 (by simp)⟩ (fun hHeld => ?_)
        (try simp only [Act.put, List.setIfInBounds_toArray, List.set_cons_zero, List.set_cons_succ])
        rw [← hops]
        exact wpAnyH_listed (by kernel_rfl) (st0_023 _ _ _ _ hHeld (hE.trans hx) (o0.ext hx (by omega)) (by omega) ((Blk.at #[.bool false, .slice none 0 0] 47 rfl).own 2 (by simp) noIntW) (by omega) (o3.ext hx (by omega)) (by omega) (by omega) n03 (by omega))
      exact AllReadyH.nil
    have st0_12 : ∀ (W : World) (G1 : Nat) (G2 : Nat), CI w a b B W → Ext V W → Own W G1 2 → V.heap.size ≤ G1 → Own W G2 2 → V.heap.size ≤ G2 → G1 ≠ G2 → wpAnyH Try.prog .any ops q0 (fun w' => CI w a b B w') 8 #[true, true, true, false, true, true, true, false, false, true, true, false, false, false, false, false] (CA a b B undef (.pointer (some ⟨G1, 0, none⟩)) (.pointer (some ⟨G2, 0, none⟩)) undef undef undef) W := by
      intro W G1 G2 hS hE o1 b1 o2 b2 n12
      have lB := hS.2.2.lt (by simp)
      have sE := hE.size
      have l1 := o1.lt (by omega)
      have l2 := o2.lt (by omega)
      rw [hops]; unfold CA
      refine wpAnyH_ready (rs := [3, 8, 11]) (by kernel_rfl) (by simp) ?_
      refine consR (i := 3) rfl (fun K hK => ?_) ?_
      · go_simp
        go_at_call 46
        refine (Den_c a p q _ (HA.out.keep hS.1.ik)).mono ?_
        rintro e W2 ⟨t, rfl, ht, hx⟩
        have sx := hx.size
        go_wp2_with fail
        refine hK.out _ _ ⟨hS.1.trans hx, At.ext hx hS.2.1 (by simp), At.ext hx hS.2.2 (by simp)⟩ (fun hHeld => ?_)
        (try simp only [Act.put, List.setIfInBounds_toArray, List.set_cons_zero, List.set_cons_succ])
        rw [← hops]
        exact wpAnyH_listed (by kernel_rfl) (st1_12 _ _ _ _ hHeld (hE.trans hx) ht (o1.ext hx (by omega)) (by omega) (o2.ext hx (by omega)) (by omega) n12)
      refine consR (i := 8) rfl (fun K hK => ?_) ?_
      · go_simp
        have hx := (Ext.refl W).alloc (.cells #[.bool false, .slice none 0 0] 47)
        refine hK.out _ _ ⟨hS.1.trans hx, At.ext hx hS.2.1 (by simp), At.ext hx hS.2.2 (by simp)⟩ (fun hHeld => ?_)
        (try simp only [Act.put, List.setIfInBounds_toArray, List.set_cons_zero, List.set_cons_succ])
        rw [← hops]
        exact wpAnyH_listed (by kernel_rfl) (st0_012 _ _ _ _ hHeld (hE.trans hx) ((Blk.at #[.bool false, .slice none 0 0] 47 rfl).own 2 (by simp) noIntW) (by omega) (o1.ext hx (by omega)) (by omega) (o2.ext hx (by omega)) (by omega) (by omega) (by omega) n12)
      refine consR (i := 11) rfl (fun K hK => ?_) ?_
      · go_simp
        have hx := (Ext.refl W).alloc (.cells #[.bool false, .slice none 0 0] 47)
        refine hK.out _ _ ⟨hS.1.trans hx, At.ext hx hS.2.1 (by simp), At.ext hx hS.2.2 (by simp)⟩ (fun hHeld => ?_)
        (try simp only [Act.put, List.setIfInBounds_toArray, List.set_cons_zero, List.set_cons_succ])
        rw [← hops]
        exact wpAnyH_listed (by kernel_rfl) (st0_123 _ _ _ _ hHeld (hE.trans hx) (o1.ext hx (by omega)) (by omega) (o2.ext hx (by omega)) (by omega) ((Blk.at #[.bool false, .slice none 0 0] 47 rfl).own 2 (by simp) noIntW) (by omega) n12 (by omega) (by omega))
      exact AllReadyH.nil
    have st0_13 : ∀ (W : World) (G1 : Nat) (G3 : Nat), CI w a b B W → Ext V W → Own W G1 2 → V.heap.size ≤ G1 → Own W G3 2 → V.heap.size ≤ G3 → G1 ≠ G3 → wpAnyH Try.prog .any ops q0 (fun w' => CI w a b B w') 8 #[true, true, true, false, true, true, true, false, false, true, false, true, false, false, false, false] (CA a b B undef (.pointer (some ⟨G1, 0, none⟩)) undef (.pointer (some ⟨G3, 0, none⟩)) undef undef) W := by
      intro W G1 G3 hS hE o1 b1 o3 b3 n13
      have lB := hS.2.2.lt (by simp)
      have sE := hE.size
      have l1 := o1.lt (by omega)
      have l3 := o3.lt (by omega)
      rw [hops]; unfold CA
      refine wpAnyH_ready (rs := [3, 8, 10]) (by kernel_rfl) (by simp) ?_
      refine consR (i := 3) rfl (fun K hK => ?_) ?_
      · go_simp
        go_at_call 46
        refine (Den_c a p q _ (HA.out.keep hS.1.ik)).mono ?_
        rintro e W2 ⟨t, rfl, ht, hx⟩
        have sx := hx.size
        go_wp2_with fail
        refine hK.out _ _ ⟨hS.1.trans hx, At.ext hx hS.2.1 (by simp), At.ext hx hS.2.2 (by simp)⟩ (fun hHeld => ?_)
        (try simp only [Act.put, List.setIfInBounds_toArray, List.set_cons_zero, List.set_cons_succ])
        rw [← hops]
        exact wpAnyH_listed (by kernel_rfl) (st1_13 _ _ _ _ hHeld (hE.trans hx) ht (o1.ext hx (by omega)) (by omega) (o3.ext hx (by omega)) (by omega) n13)
      refine consR (i := 8) rfl (fun K hK => ?_) ?_
      · go_simp
        have hx := (Ext.refl W).alloc (.cells #[.bool false, .slice none 0 0] 47)
        refine hK.out _ _ ⟨hS.1.trans hx, At.ext hx hS.2.1 (by simp), At.ext hx hS.2.2 (by simp)⟩ (fun hHeld => ?_)
        (try simp only [Act.put, List.setIfInBounds_toArray, List.set_cons_zero, List.set_cons_succ])
        rw [← hops]
        exact wpAnyH_listed (by kernel_rfl) (st0_013 _ _ _ _ hHeld (hE.trans hx) ((Blk.at #[.bool false, .slice none 0 0] 47 rfl).own 2 (by simp) noIntW) (by omega) (o1.ext hx (by omega)) (by omega) (o3.ext hx (by omega)) (by omega) (by omega) (by omega) n13)
      refine consR (i := 10) rfl (fun K hK => ?_) ?_
      · go_simp
        have hx := (Ext.refl W).alloc (.cells #[.bool false, .slice none 0 0] 47)
        refine hK.out _ _ ⟨hS.1.trans hx, At.ext hx hS.2.1 (by simp), At.ext hx hS.2.2 (by simp)⟩ (fun hHeld => ?_)
        (try simp only [Act.put, List.setIfInBounds_toArray, List.set_cons_zero, List.set_cons_succ])
        rw [← hops]
        exact wpAnyH_listed (by kernel_rfl) (st0_123 _ _ _ _ hHeld (hE.trans hx) (o1.ext hx (by omega)) (by omega) ((Blk.at #[.bool false, .slice none 0 0] 47 rfl).own 2 (by simp) noIntW) (by omega) (o3.ext hx (by omega)) (by omega) (by omega) n13 (by omega))
      exact AllReadyH.nil
    have st0_23 : ∀ (W : World) (G2 : Nat) (G3 : Nat), CI w a b B W → Ext V W → Own W G2 2 → V.heap.size ≤ G2 → Own W G3 2 → V.heap.size ≤ G3 → G2 ≠ G3 → wpAnyH Try.prog .any ops q0 (fun w' => CI w a b B w') 8 #[true, true, true, false, true, true, true, false, false, false, true, true, false, false, false, false] (CA a b B undef undef (.pointer (some ⟨G2, 0, none⟩)) (.pointer (some ⟨G3, 0, none⟩)) undef undef) W := by
      intro W G2 G3 hS hE o2 b2 o3 b3 n23
      have lB := hS.2.2.lt (by simp)
      have sE := hE.size
      have l2 := o2.lt (by omega)
      have l3 := o3.lt (by omega)
      rw [hops]; unfold CA
      refine wpAnyH_ready (rs := [3, 8, 9]) (by kernel_rfl) (by simp) ?_
      refine consR (i := 3) rfl (fun K hK => ?_) ?_
      · go_simp
        go_at_call 46
        refine (Den_c a p q _ (HA.out.keep hS.1.ik)).mono ?_
        rintro e W2 ⟨t, rfl, ht, hx⟩
        have sx := hx.size
        go_wp2_with fail
        refine hK.out _ _ ⟨hS.1.trans hx, At.ext hx hS.2.1 (by simp), At.ext hx hS.2.2 (by simp)⟩ (fun hHeld => ?_)
        (try simp only [Act.put, List.setIfInBounds_toArray, List.set_cons_zero, List.set_cons_succ])
        rw [← hops]
        exact wpAnyH_listed (by kernel_rfl) (st1_23 _ _ _ _ hHeld (hE.trans hx) ht (o2.ext hx (by omega)) (by omega) (o3.ext hx (by omega)) (by omega) n23)
      refine consR (i := 8) rfl (fun K hK => ?_) ?_
      · go_simp
        have hx := (Ext.refl W).alloc (.cells #[.bool false, .slice none 0 0] 47)
        refine hK.out _ _ ⟨hS.1.trans hx, At.ext hx hS.2.1 (by simp), At.ext hx hS.2.2 (by simp)⟩ (fun hHeld => ?_)
        (try simp only [Act.put, List.setIfInBounds_toArray, List.set_cons_zero, List.set_cons_succ])
        rw [← hops]
        exact wpAnyH_listed (by kernel_rfl) (st0_023 _ _ _ _ hHeld (hE.trans hx) ((Blk.at #[.bool false, .slice none 0 0] 47 rfl).own 2 (by simp) noIntW) (by omega) (o2.ext hx (by omega)) (by omega) (o3.ext hx (by omega)) (by omega) (by omega) (by omega) n23)
      refine consR (i := 9) rfl (fun K hK => ?_) ?_
      · go_simp
        have hx := (Ext.refl W).alloc (.cells #[.bool false, .slice none 0 0] 47)
        refine hK.out _ _ ⟨hS.1.trans hx, At.ext hx hS.2.1 (by simp), At.ext hx hS.2.2 (by simp)⟩ (fun hHeld => ?_)
        (try simp only [Act.put, List.setIfInBounds_toArray, List.set_cons_zero, List.set_cons_succ])
        rw [← hops]
        exact wpAnyH_listed (by kernel_rfl) (st0_123 _ _ _ _ hHeld (hE.trans hx) ((Blk.at #[.bool false, .slice none 0 0] 47 rfl).own 2 (by simp) noIntW) (by omega) (o2.ext hx (by omega)) (by omega) (o3.ext hx (by omega)) (by omega) (by omega) (by omega) n23)
      exact AllReadyH.nil
    have st1_n : ∀ (W : World) (r1 : IV), CI w a b B W → Ext V W → IsI W r1 q → wpAnyH Try.prog .any ops q0 (fun w' => CI w a b B w') 9 #[true, true, true, true, true, true, true, false, false, false, false, false, false, false, false, false] (CA a b B undef undef undef undef r1.v undef) W := by
      intro W r1 hS hE hr1
      have lB := hS.2.2.lt (by simp)
      have sE := hE.size
      rw [hops]; unfold CA
      refine wpAnyH_ready (rs := [7, 8, 9, 10, 11]) (by kernel_rfl) (by simp) ?_
      refine consR (i := 7) rfl (fun K hK => ?_) ?_
      · go_simp
        go_at_call 46
        refine (Den_c b r s _ (HB.out.keep hS.1.ik)).mono ?_
        rintro e W2 ⟨t, rfl, ht, hx⟩
        have sx := hx.size
        go_wp2_with fail
        refine hK.out _ _ ⟨hS.1.trans hx, At.ext hx hS.2.1 (by simp), At.ext hx hS.2.2 (by simp)⟩ (fun hHeld => ?_)
        (try simp only [Act.put, List.setIfInBounds_toArray, List.set_cons_zero, List.set_cons_succ])
        rw [← hops]
        exact wpAnyH_listed (by kernel_rfl) (st2_n _ _ _ hHeld (hE.trans hx) (hr1.keep hx.ik) ht)
      refine consR (i := 8) rfl (fun K hK => ?_) ?_
      · go_simp
        have hx := (Ext.refl W).alloc (.cells #[.bool false, .slice none 0 0] 47)
        refine hK.out _ _ ⟨hS.1.trans hx, At.ext hx hS.2.1 (by simp), At.ext hx hS.2.2 (by simp)⟩ (fun hHeld => ?_)
        (try simp only [Act.put, List.setIfInBounds_toArray, List.set_cons_zero, List.set_cons_succ])
        rw [← hops]
        exact wpAnyH_listed (by kernel_rfl) (st1_0 _ _ _ hHeld (hE.trans hx) (hr1.keep hx.ik) ((Blk.at #[.bool false, .slice none 0 0] 47 rfl).own 2 (by simp) noIntW) (by omega))
      refine consR (i := 9) rfl (fun K hK => ?_) ?_
      · go_simp
        have hx := (Ext.refl W).alloc (.cells #[.bool false, .slice none 0 0] 47)
        refine hK.out _ _ ⟨hS.1.trans hx, At.ext hx hS.2.1 (by simp), At.ext hx hS.2.2 (by simp)⟩ (fun hHeld => ?_)
        (try simp only [Act.put, List.setIfInBounds_toArray, List.set_cons_zero, List.set_cons_succ])
        rw [← hops]
        exact wpAnyH_listed (by kernel_rfl) (st1_1 _ _ _ hHeld (hE.trans hx) (hr1.keep hx.ik) ((Blk.at #[.bool false, .slice none 0 0] 47 rfl).own 2 (by simp) noIntW) (by omega))
      refine consR (i := 10) rfl (fun K hK => ?_) ?_
      · go_simp
        have hx := (Ext.refl W).alloc (.cells #[.bool false, .slice none 0 0] 47)
        refine hK.out _ _ ⟨hS.1.trans hx, At.ext hx hS.2.1 (by simp), At.ext hx hS.2.2 (by simp)⟩ (fun hHeld => ?_)
        (try simp only [Act.put, List.setIfInBounds_toArray, List.set_cons_zero, List.set_cons_succ])
        rw [← hops]
        exact wpAnyH_listed (by kernel_rfl) (st1_2 _ _ _ hHeld (hE.trans hx) (hr1.keep hx.ik) ((Blk.at #[.bool false, .slice none 0 0] 47 rfl).own 2 (by simp) noIntW) (by omega))
      refine consR (i := 11) rfl (fun K hK => ?_) ?_
      · go_simp
        have hx := (Ext.refl W).alloc (.cells #[.bool false, .slice none 0 0] 47)
        refine hK.out _ _ ⟨hS.1.trans hx, At.ext hx hS.2.1 (by simp), At.ext hx hS.2.2 (by simp)⟩ (fun hHeld => ?_)
        (try simp only [Act.put, List.setIfInBounds_toArray, List.set_cons_zero, List.set_cons_succ])
        rw [← hops]
        exact wpAnyH_listed (by kernel_rfl) (st1_3 _ _ _ hHeld (hE.trans hx) (hr1.keep hx.ik) ((Blk.at #[.bool false, .slice none 0 0] 47 rfl).own 2 (by simp) noIntW) (by omega))
      exact AllReadyH.nil
    have st0_0 : ∀ (W : World) (G0 : Nat), CI w a b B W → Ext V W → Own W G0 2 → V.heap.size ≤ G0 → wpAnyH Try.prog .any ops q0 (fun w' => CI w a b B w') 9 #[true, true, true, false, true, true, true, false, true, false, false, false, false, false, false, false] (CA a b B (.pointer (some ⟨G0, 0, none⟩)) undef undef undef undef undef) W := by
      intro W G0 hS hE o0 b0
      have lB := hS.2.2.lt (by simp)
      have sE := hE.size
      have l0 := o0.lt (by omega)
      rw [hops]; unfold CA
      refine wpAnyH_ready (rs := [3, 9, 10, 11]) (by kernel_rfl) (by simp) ?_
      refine consR (i := 3) rfl (fun K hK => ?_) ?_
      · go_simp
        go_at_call 46
        refine (Den_c a p q _ (HA.out.keep hS.1.ik)).mono ?_
        rintro e W2 ⟨t, rfl, ht, hx⟩
        have sx := hx.size
        go_wp2_with fail
        refine hK.out _ _ ⟨hS.1.trans hx, At.ext hx hS.2.1 (by simp), At.ext hx hS.2.2 (by simp)⟩ (fun hHeld => ?_)
        (try simp only [Act.put, List.setIfInBounds_toArray, List.set_cons_zero, List.set_cons_succ])
        rw [← hops]
        exact wpAnyH_listed (by kernel_rfl) (st1_0 _ _ _ hHeld (hE.trans hx) ht (o0.ext hx (by omega)) (by omega))
      refine consR (i := 9) rfl (fun K hK => ?_) ?_
      · go_simp
        have hx := (Ext.refl W).alloc (.cells #[.bool false, .slice none 0 0] 47)
        refine hK.out _ _ ⟨hS.1.trans hx, At.ext hx hS.2.1 (by simp), At.ext hx hS.2.2 (by simp)⟩ (fun hHeld => ?_)
        (try simp only [Act.put, List.setIfInBounds_toArray, List.set_cons_zero, List.set_cons_succ])
        rw [← hops]
        exact wpAnyH_listed (by kernel_rfl) (st0_01 _ _ _ hHeld (hE.trans hx) (o0.ext hx (by omega)) (by omega) ((Blk.at #[.bool false, .slice none 0 0] 47 rfl).own 2 (by simp) noIntW) (by omega) (by omega))
      refine consR (i := 10) rfl (fun K hK => ?_) ?_
      · go_simp
        have hx := (Ext.refl W).alloc (.cells #[.bool false, .slice none 0 0] 47)
        refine hK.out _ _ ⟨hS.1.trans hx, At.ext hx hS.2.1 (by simp), At.ext hx hS.2.2 (by simp)⟩ (fun hHeld => ?_)
        (try simp only [Act.put, List.setIfInBounds_toArray, List.set_cons_zero, List.set_cons_succ])
        rw [← hops]
        exact wpAnyH_listed (by kernel_rfl) (st0_02 _ _ _ hHeld (hE.trans hx) (o0.ext hx (by omega)) (by omega) ((Blk.at #[.bool false, .slice none 0 0] 47 rfl).own 2 (by simp) noIntW) (by omega) (by omega))
      refine consR (i := 11) rfl (fun K hK => ?_) ?_
      · go_simp
        have hx := (Ext.refl W).alloc (.cells #[.bool false, .slice none 0 0] 47)
        refine hK.out _ _ ⟨hS.1.trans hx, At.ext hx hS.2.1 (by simp), At.ext hx hS.2.2 (by simp)⟩ (fun hHeld => ?_)
        (try simp only [Act.put, List.setIfInBounds_toArray, List.set_cons_zero, List.set_cons_succ])
        rw [← hops]
        exact wpAnyH_listed (by kernel_rfl) (st0_03 _ _ _ hHeld (hE.trans hx) (o0.ext hx (by omega)) (by omega) ((Blk.at #[.bool false, .slice none 0 0] 47 rfl).own 2 (by simp) noIntW) (by omega) (by omega))
      exact AllReadyH.nil
    have st0_1 : ∀ (W : World) (G1 : Nat), CI w a b B W → Ext V W → Own W G1 2 → V.heap.size ≤ G1 → wpAnyH Try.prog .any ops q0 (fun w' => CI w a b B w') 9 #[true, true, true, false, true, true, true, false, false, true, false, false, false, false, false, false] (CA a b B undef (.pointer (some ⟨G1, 0, none⟩)) undef undef undef undef) W := by
      intro W G1 hS hE o1 b1
      have lB := hS.2.2.lt (by simp)
      have sE := hE.size
      have l1 := o1.lt (by omega)
      rw [hops]; unfold CA
      refine wpAnyH_ready (rs := [3, 8, 10, 11]) (by kernel_rfl) (by simp) ?_
      refine consR (i := 3) rfl (fun K hK => ?_) ?_
      · go_simp
        go_at_call 46
        refine (Den_c a p q _ (HA.out.keep hS.1.ik)).mono ?_
        rintro e W2 ⟨t, rfl, ht, hx⟩
        have sx := hx.size
        go_wp2_with fail
        refine hK.out _ _ ⟨hS.1.trans hx, At.ext hx hS.2.1 (by simp), At.ext hx hS.2.2 (by simp)⟩ (fun hHeld => ?_)
        (try simp only [Act.put, List.setIfInBounds_toArray, List.set_cons_zero, List.set_cons_succ])
        rw [← hops]
        exact wpAnyH_listed (by kernel_rfl) (st1_1 _ _ _ hHeld (hE.trans hx) ht (o1.ext hx (by omega)) (by omega))
      refine consR (i := 8) rfl (fun K hK => ?_) ?_
      · go_simp
        have hx := (Ext.refl W).alloc (.cells #[.bool false, .slice none 0 0] 47)
        refine hK.out _ _ ⟨hS.1.trans hx, At.ext hx hS.2.1 (by simp), At.ext hx hS.2.2 (by simp)⟩ (fun hHeld => ?_)
        (try simp only [Act.put, List.setIfInBounds_toArray, List.set_cons_zero, List.set_cons_succ])
        rw [← hops]
        exact wpAnyH_listed (by kernel_rfl) (st0_01 _ _ _ hHeld (hE.trans hx) ((Blk.at #[.bool false, .slice none 0 0] 47 rfl).own 2 (by simp) noIntW) (by omega) (o1.ext hx (by omega)) (by omega) (by omega))
      refine consR (i := 10) rfl (fun K hK => ?_) ?_
      · go_simp
        have hx := (Ext.refl W).alloc (.cells #[.bool false, .slice none 0 0] 47)
        refine hK.out _ _ ⟨hS.1.trans hx, At.ext hx hS.2.1 (by simp), At.ext hx hS.2.2 (by simp)⟩ (fun hHeld => ?_)
        (try simp only [Act.put, List.setIfInBounds_toArray, List.set_cons_zero, List.set_cons_succ])
        rw [← hops]
        exact wpAnyH_listed (by kernel_rfl) (st0_12 _ _ _ hHeld (hE.trans hx) (o1.ext hx (by omega)) (by omega) ((Blk.at #[.bool false, .slice none 0 0] 47 rfl).own 2 (by simp) noIntW) (by omega) (by omega))
      refine consR (i := 11) rfl (fun K hK => ?_) ?_
      · go_simp
        have hx := (Ext.refl W).alloc (.cells #[.bool false, .slice none 0 0] 47)
        refine hK.out _ _ ⟨hS.1.trans hx, At.ext hx hS.2.1 (by simp), At.ext hx hS.2.2 (by simp)⟩ (fun hHeld => ?_)
        (try simp only [Act.put, List.setIfInBounds_toArray, List.set_cons_zero, List.set_cons_succ])
        rw [← hops]
        exact wpAnyH_listed (by kernel_rfl) (st0_13 _ _ _ hHeld (hE.trans hx) (o1.ext hx (by omega)) (by omega) ((Blk.at #[.bool false, .slice none 0 0] 47 rfl).own 2 (by simp) noIntW) (by omega) (by omega))
      exact AllReadyH.nil
    have st0_2 : ∀ (W : World) (G2 : Nat), CI w a b B W → Ext V W → Own W G2 2 → V.heap.size ≤ G2 → wpAnyH Try.prog .any ops q0 (fun w' => CI w a b B w') 9 #[true, true, true, false, true, true, true, false, false, false, true, false, false, false, false, false] (CA a b B undef undef (.pointer (some ⟨G2, 0, none⟩)) undef undef undef) W := by
      intro W G2 hS hE o2 b2
      have lB := hS.2.2.lt (by simp)
      have sE := hE.size
      have l2 := o2.lt (by omega)
      rw [hops]; unfold CA
      refine wpAnyH_ready (rs := [3, 8, 9, 11]) (by kernel_rfl) (by simp) ?_
      refine consR (i := 3) rfl (fun K hK => ?_) ?_
      · go_simp
        go_at_call 46
        refine (Den_c a p q _ (HA.out.keep hS.1.ik)).mono ?_
        rintro e W2 ⟨t, rfl, ht, hx⟩
        have sx := hx.size
        go_wp2_with fail
        refine hK.out _ _ ⟨hS.1.trans hx, At.ext hx hS.2.1 (by simp), At.ext hx hS.2.2 (by simp)⟩ (fun hHeld => ?_)
        (try simp only [Act.put, List.setIfInBounds_toArray, List.set_cons_zero, List.set_cons_succ])
        rw [← hops]
        exact wpAnyH_listed (by kernel_rfl) (st1_2 _ _ _ hHeld (hE.trans hx) ht (o2.ext hx (by omega)) (by omega))
      refine consR (i := 8) rfl (fun K hK => ?_) ?_
      · go_simp
        have hx := (Ext.refl W).alloc (.cells #[.bool false, .slice none 0 0] 47)
        refine hK.out _ _ ⟨hS.1.trans hx, At.ext hx hS.2.1 (by simp), At.ext hx hS.2.2 (by simp)⟩ (fun hHeld => ?_)
        (try simp only [Act.put, List.setIfInBounds_toArray, List.set_cons_zero, List.set_cons_succ])
        rw [← hops]
        exact wpAnyH_listed (by kernel_rfl) (st0_02 _ _ _ hHeld (hE.trans hx) ((Blk.at #[.bool false, .slice none 0 0] 47 rfl).own 2 (by simp) noIntW) (by omega) (o2.ext hx (by omega)) (by omega) (by omega))
      refine consR (i := 9) rfl (fun K hK => ?_) ?_
      · go_simp
        have hx := (Ext.refl W).alloc (.cells #[.bool false, .slice none 0 0] 47)
        refine hK.out _ _ ⟨hS.1.trans hx, At.ext hx hS.2.1 (by simp), At.ext hx hS.2.2 (by simp)⟩ (fun hHeld => ?_)
        (try simp only [Act.put, List.setIfInBounds_toArray, List.set_cons_zero, List.set_cons_succ])
        rw [← hops]
        exact wpAnyH_listed (by kernel_rfl) (st0_12 _ _ _ hHeld (hE.trans hx) ((Blk.at #[.bool false, .slice none 0 0] 47 rfl).own 2 (by simp) noIntW) (by omega) (o2.ext hx (by omega)) (by omega) (by omega))
      refine consR (i := 11) rfl (fun K hK => ?_) ?_
      · go_simp
        have hx := (Ext.refl W).alloc (.cells #[.bool false, .slice none 0 0] 47)
        refine hK.out _ _ ⟨hS.1.trans hx, At.ext hx hS.2.1 (by simp), At.ext hx hS.2.2 (by simp)⟩ (fun hHeld => ?_)
        (try simp only [Act.put, List.setIfInBounds_toArray, List.set_cons_zero, List.set_cons_succ])
        rw [← hops]
        exact wpAnyH_listed (by kernel_rfl) (st0_23 _ _ _ hHeld (hE.trans hx) (o2.ext hx (by omega)) (by omega) ((Blk.at #[.bool false, .slice none 0 0] 47 rfl).own 2 (by simp) noIntW) (by omega) (by omega))
      exact AllReadyH.nil
    have st0_3 : ∀ (W : World) (G3 : Nat), CI w a b B W → Ext V W → Own W G3 2 → V.heap.size ≤ G3 → wpAnyH Try.prog .any ops q0 (fun w' => CI w a b B w') 9 #[true, true, true, false, true, true, true, false, false, false, false, true, false, false, false, false] (CA a b B undef undef undef (.pointer (some ⟨G3, 0, none⟩)) undef undef) W := by
      intro W G3 hS hE o3 b3
      have lB := hS.2.2.lt (by simp)
      have sE := hE.size
      have l3 := o3.lt (by omega)
      rw [hops]; unfold CA
      refine wpAnyH_ready (rs := [3, 8, 9, 10]) (by kernel_rfl) (by simp) ?_
      refine consR (i := 3) rfl (fun K hK => ?_) ?_
      · go_simp
        go_at_call 46
        refine (Den_c a p q _ (HA.out.keep hS.1.ik)).mono ?_
        rintro e W2 ⟨t, rfl, ht, hx⟩
        have sx := hx.size
        go_wp2_with fail
        refine hK.out _ _ ⟨hS.1.trans hx, At.ext hx hS.2.1 (by simp), At.ext hx hS.2.2 (by simp)⟩ (fun hHeld => ?_)
        (try simp only [Act.put, List.setIfInBounds_toArray, List.set_cons_zero, List.set_cons_succ])
        rw [← hops]
        exact wpAnyH_listed (by kernel_rfl) (st1_3 _ _ _ hHeld (hE.trans hx) ht (o3.ext hx (by omega)) (by omega))
      refine consR (i := 8) rfl (fun K hK => ?_) ?_
      · go_simp
        have hx := (Ext.refl W).alloc (.cells #[.bool false, .slice none 0 0] 47)
        refine hK.out _ _ ⟨hS.1.trans hx, At.ext hx hS.2.1 (by simp), At.ext hx hS.2.2 (by simp)⟩ (fun hHeld => ?_)
        (try simp only [Act.put, List.setIfInBounds_toArray, List.set_cons_zero, List.set_cons_succ])
        rw [← hops]
        exact wpAnyH_listed (by kernel_rfl) (st0_03 _ _ _ hHeld (hE.trans hx) ((Blk.at #[.bool false, .slice none 0 0] 47 rfl).own 2 (by simp) noIntW) (by omega) (o3.ext hx (by omega)) (by omega) (by omega))
      refine consR (i := 9) rfl (fun K hK => ?_) ?_
      · go_simp
        have hx := (Ext.refl W).alloc (.cells #[.bool false, .slice none 0 0] 47)
        refine hK.out _ _ ⟨hS.1.trans hx, At.ext hx hS.2.1 (by simp), At.ext hx hS.2.2 (by simp)⟩ (fun hHeld => ?_)
        (try simp only [Act.put, List.setIfInBounds_toArray, List.set_cons_zero, List.set_cons_succ])
        rw [← hops]
        exact wpAnyH_listed (by kernel_rfl) (st0_13 _ _ _ hHeld (hE.trans hx) ((Blk.at #[.bool false, .slice none 0 0] 47 rfl).own 2 (by simp) noIntW) (by omega) (o3.ext hx (by omega)) (by omega) (by omega))
      refine consR (i := 10) rfl (fun K hK => ?_) ?_
      · go_simp
        have hx := (Ext.refl W).alloc (.cells #[.bool false, .slice none 0 0] 47)
        refine hK.out _ _ ⟨hS.1.trans hx, At.ext hx hS.2.1 (by simp), At.ext hx hS.2.2 (by simp)⟩ (fun hHeld => ?_)
        (try simp only [Act.put, List.setIfInBounds_toArray, List.set_cons_zero, List.set_cons_succ])
        rw [← hops]
        exact wpAnyH_listed (by kernel_rfl) (st0_23 _ _ _ hHeld (hE.trans hx) ((Blk.at #[.bool false, .slice none 0 0] 47 rfl).own 2 (by simp) noIntW) (by omega) (o3.ext hx (by omega)) (by omega) (by omega))
      exact AllReadyH.nil
    have st0_n : ∀ (W : World), CI w a b B W → Ext V W → wpAnyH Try.prog .any ops q0 (fun w' => CI w a b B w') 10 #[true, true, true, false, true, true, true, false, false, false, false, false, false, false, false, false] (CA a b B undef undef undef undef undef undef) W := by
      intro W hS hE
      have lB := hS.2.2.lt (by simp)
      have sE := hE.size
      rw [hops]; unfold CA
      refine wpAnyH_ready (rs := [3, 8, 9, 10, 11]) (by kernel_rfl) (by simp) ?_
      refine consR (i := 3) rfl (fun K hK => ?_) ?_
      · go_simp
        go_at_call 46
        refine (Den_c a p q _ (HA.out.keep hS.1.ik)).mono ?_
        rintro e W2 ⟨t, rfl, ht, hx⟩
        have sx := hx.size
        go_wp2_with fail
        refine hK.out _ _ ⟨hS.1.trans hx, At.ext hx hS.2.1 (by simp), At.ext hx hS.2.2 (by simp)⟩ (fun hHeld => ?_)
        (try simp only [Act.put, List.setIfInBounds_toArray, List.set_cons_zero, List.set_cons_succ])
        rw [← hops]
        exact wpAnyH_listed (by kernel_rfl) (st1_n _ _ hHeld (hE.trans hx) ht)
      refine consR (i := 8) rfl (fun K hK => ?_) ?_
      · go_simp
        have hx := (Ext.refl W).alloc (.cells #[.bool false, .slice none 0 0] 47)
        refine hK.out _ _ ⟨hS.1.trans hx, At.ext hx hS.2.1 (by simp), At.ext hx hS.2.2 (by simp)⟩ (fun hHeld => ?_)
        (try simp only [Act.put, List.setIfInBounds_toArray, List.set_cons_zero, List.set_cons_succ])
        rw [← hops]
        exact wpAnyH_listed (by kernel_rfl) (st0_0 _ _ hHeld (hE.trans hx) ((Blk.at #[.bool false, .slice none 0 0] 47 rfl).own 2 (by simp) noIntW) (by omega))
      refine consR (i := 9) rfl (fun K hK => ?_) ?_
      · go_simp
        have hx := (Ext.refl W).alloc (.cells #[.bool false, .slice none 0 0] 47)
        refine hK.out _ _ ⟨hS.1.trans hx, At.ext hx hS.2.1 (by simp), At.ext hx hS.2.2 (by simp)⟩ (fun hHeld => ?_)
        (try simp only [Act.put, List.setIfInBounds_toArray, List.set_cons_zero, List.set_cons_succ])
        rw [← hops]
        exact wpAnyH_listed (by kernel_rfl) (st0_1 _ _ hHeld (hE.trans hx) ((Blk.at #[.bool false, .slice none 0 0] 47 rfl).own 2 (by simp) noIntW) (by omega))
      refine consR (i := 10) rfl (fun K hK => ?_) ?_
      · go_simp
        have hx := (Ext.refl W).alloc (.cells #[.bool false, .slice none 0 0] 47)
        refine hK.out _ _ ⟨hS.1.trans hx, At.ext hx hS.2.1 (by simp), At.ext hx hS.2.2 (by simp)⟩ (fun hHeld => ?_)
        (try simp only [Act.put, List.setIfInBounds_toArray, List.set_cons_zero, List.set_cons_succ])
        rw [← hops]
        exact wpAnyH_listed (by kernel_rfl) (st0_2 _ _ hHeld (hE.trans hx) ((Blk.at #[.bool false, .slice none 0 0] 47 rfl).own 2 (by simp) noIntW) (by omega))
      refine consR (i := 11) rfl (fun K hK => ?_) ?_
      · go_simp
        have hx := (Ext.refl W).alloc (.cells #[.bool false, .slice none 0 0] 47)
        refine hK.out _ _ ⟨hS.1.trans hx, At.ext hx hS.2.1 (by simp), At.ext hx hS.2.2 (by simp)⟩ (fun hHeld => ?_)
        (try simp only [Act.put, List.setIfInBounds_toArray, List.set_cons_zero, List.set_cons_succ])
        rw [← hops]
        exact wpAnyH_listed (by kernel_rfl) (st0_3 _ _ hHeld (hE.trans hx) ((Blk.at #[.bool false, .slice none 0 0] 47 rfl).own 2 (by simp) noIntW) (by omega))
      exact AllReadyH.nil
    --END STATES
    exact wpAnyH_listed (by kernel_rfl) (st0_n _ hHeld (Ext.refl V).drew)
  case rest =>
    obtain ⟨G0, G1, G2, G3, r1, r2, rfl, rfl, rfl, rfl, hV, hr1, hr2, o0, o1, o2, o3, g0, g1, g2, g3, n01, n02, n03, n12, n13, n23, z0, z1, z2, z3⟩ := hcut
    have HST := Lib.hid (show Ext w wc ∧ (Own wc G0 2 ∧ Own wc G1 2 ∧ Own wc G2 2 ∧ Own wc G3 2) ∧ (At wc G0 #[.bool a.n.neg, .slice a.n.a a.n.n a.n.c] ∧ At wc G1 #[.bool r1.neg, .slice r1.a r1.n r1.c] ∧ At wc G2 #[.bool b.n.neg, .slice b.n.a b.n.n b.n.c] ∧ At wc G3 #[.bool r2.neg, .slice r2.a r2.n r2.c]) ∧
      (IsI wc a.n p ∧ IsI wc r1 q ∧ IsI wc b.n r ∧ IsI wc r2 s) from ⟨E0.trans hV, ⟨o0, o1, o2, o3⟩, ⟨z0, z1, z2, z3⟩, HA.out.num.keep (E0.trans hV).ik, hr1, HB.out.num.keep (E0.trans hV).ik, hr2⟩)
    have hq1 := HA.out.pos
    have hs1 := HB.out.pos
    clear hV hr1 hr2 o0 o1 o2 o3 z0 z1 z2 z3 A0 A1 E0
    go_wp2_with fail
    go_loopw [9] (fun v ws => ∃ (sg P Q R T : Int) (vp vq vr vs : IV), v = .int .i64 sg ∧ (sg = 1 ∨ sg = -1) ∧ Ext w ws ∧ (Own ws G0 2 ∧ Own ws G1 2 ∧ Own ws G2 2 ∧ Own ws G3 2) ∧
      (At ws G0 #[.bool vp.neg, .slice vp.a vp.n vp.c] ∧ At ws G1 #[.bool vq.neg, .slice vq.a vq.n vq.c] ∧ At ws G2 #[.bool vr.neg, .slice vr.a vr.n vr.c] ∧ At ws G3 #[.bool vs.neg, .slice vs.a vs.n vs.c]) ∧
      (IsI ws vp P ∧ IsI ws vq Q ∧ IsI ws vr R ∧ IsI ws vs T) ∧ 1 ≤ Q ∧ 1 ≤ T ∧ sg * cmpI (P * T) (R * Q) = cc) (fun _ ws => cellVal ws G1)
    case atStart => exact ⟨1, p, q, r, s, a.n, r1, b.n, r2, rfl, .inl rfl, HST.out.1, HST.out.2.1, HST.out.2.2.1, HST.out.2.2.2, hq1, hs1, by rw [Int.one_mul]; exact HCC.out⟩
    case round =>
      obtain ⟨sg, P, Q, R, T, vp, vq, vr, vs, rfl, hsg, hE, hO, hA, hI, hQ, hT, hc⟩ := hrel
      have HO := Lib.hid hO; have HI := Lib.hid hI; have HC := Lib.hid hc; have HE := Lib.hid hE; have HAA := Lib.hid hA
      obtain ⟨z0, z1, z2, z3⟩ := hA
      have l0 := hO.1.lt (by omega)
      have l1 := hO.2.1.lt (by omega)
      have l2 := hO.2.2.1.lt (by omega)
      have l3 := hO.2.2.2.lt (by omega)
      have c00 := z0 0 (by simp)
      have c01 := z0 1 (by simp)
      have c10 := z1 0 (by simp)
      have c11 := z1 1 (by simp)
      simp at c00 c01 c10 c11
      clear hE hO hI hc z0 z1 z2 z3 HST
      go_wp2_with fail
      refine (Div_c vp vq P Q _ HI.out.1 HI.out.2.1 (by omega)).mono ?_
      rintro e w5 ⟨x, ρ, rfl, hx, hρ, hx5⟩
      have hs1 := cmp_step1 (P := P) (Q := Q) (R := R) (T := T) hQ hT
      have hs2 := cmp_step2 (P := P) (Q := Q) (R := R) (T := T)
      have u0 := Int.emod_nonneg P (show Q ≠ 0 by omega)
      have u1 := Int.emod_lt_of_pos P (show 0 < Q by omega)
      have v0 := Int.emod_nonneg R (show T ≠ 0 by omega)
      have v1 := Int.emod_lt_of_pos R (show 0 < T by omega)
      obtain ⟨X, hX⟩ : ∃ X, P / Q = X := ⟨_, rfl⟩
      obtain ⟨U, hU⟩ : ∃ X, P % Q = X := ⟨_, rfl⟩
      obtain ⟨Y, hY⟩ : ∃ X, R / T = X := ⟨_, rfl⟩
      obtain ⟨Z, hZ⟩ : ∃ X, R % T = X := ⟨_, rfl⟩
      rw [hX, hY] at hs1 hs2
      rw [hU] at hs2 u0 u1 hρ
      rw [hX] at hx
      rw [hZ] at hs2 v0 v1
      have HS1 := Lib.hid hs1; have HS2 := Lib.hid hs2; have HYZ := Lib.hid (And.intro hY hZ)
      clear hs1 hs2 hX hU hY hZ c00 c01 c10 c11
      go_upto_region 5 with (fail)
      obtain ⟨H, hH⟩ : ∃ H, w5.heap.size = H := ⟨_, rfl⟩
      have sz5 := hx5.size
      refine wp_gen (fun W => Ext wr W ∧ At W H #[.bool x.neg, .slice x.a x.n x.c] ∧ At W (H + 1) #[.bool ρ.neg, .slice ρ.a ρ.n ρ.c] ∧ IsI W x X ∧ IsI W ρ U)
        ⟨(hx5.alloc _).alloc _, ((Blk.at _ 47 hH.symm).alloc _).at', (Blk.at _ 47 (by simp [hH])).at', hx.keep (((Ext.refl w5).alloc _).alloc _).ik, hρ.keep (((Ext.refl w5).alloc _).alloc _).ik⟩ ?_
      have hHr : wr.heap.size ≤ H := by omega
      clear hx hρ hx5 sz5
      try rw [hH]
      rintro w6 ⟨e6, y0, y1, hx, hρ⟩
      have c20 := (At.ext e6 HAA.out.2.2.1 (by simp)) 0 (by simp)
      have c21 := (At.ext e6 HAA.out.2.2.1 (by simp)) 1 (by simp)
      have c30 := (At.ext e6 HAA.out.2.2.2 (by simp)) 0 (by simp)
      have c31 := (At.ext e6 HAA.out.2.2.2 (by simp)) 1 (by simp)
      simp at c20 c21 c30 c31
      have HY := Lib.hid (And.intro y0 (And.intro y1 (And.intro hx hρ)))
      have ly := y1.lt (by simp)
      clear y0 y1 hx hρ hH
      go_wp2_with fail
      refine (Div_c vr vs R T _ (HI.out.2.2.1.keep e6.ik) (HI.out.2.2.2.keep e6.ik) (by omega)).mono ?_
      rw [HYZ.out.1, HYZ.out.2]
      rintro e w7 ⟨y, σ, rfl, hy, hσ, hx7⟩
      clear c20 c21 c30 c31
      go_upto_region 6 with (fail)
      obtain ⟨J, hJ⟩ : ∃ J, w7.heap.size = J := ⟨_, rfl⟩
      have sz7 := hx7.size
      refine wp_gen (fun W => Ext wr W ∧ At W H #[.bool x.neg, .slice x.a x.n x.c] ∧ At W (H + 1) #[.bool ρ.neg, .slice ρ.a ρ.n ρ.c] ∧ At W J #[.bool y.neg, .slice y.a y.n y.c] ∧ At W (J + 1) #[.bool σ.neg, .slice σ.a σ.n σ.c] ∧ IsI W x X ∧ IsI W ρ U ∧ IsI W y Y ∧ IsI W σ Z)
        ⟨e6.trans ((hx7.alloc _).alloc _), At.ext ((hx7.alloc _).alloc _) HY.out.1 (by simp), At.ext ((hx7.alloc _).alloc _) HY.out.2.1 (by simp), ((Blk.at _ 47 hJ.symm).alloc _).at', (Blk.at _ 47 (by simp [hJ])).at', HY.out.2.2.1.keep ((hx7.alloc _).alloc _).ik, HY.out.2.2.2.keep ((hx7.alloc _).alloc _).ik, hy.keep (((Ext.refl w7).alloc _).alloc _).ik, hσ.keep (((Ext.refl w7).alloc _).alloc _).ik⟩ ?_
      have hHJ : H + 1 < J := by omega
      clear hy hσ hx7 sz7 e6 HY
      try rw [hJ]
      clear hJ
      rintro w8 ⟨e8, y0, y1, y2, y3, hx, hρ, hy, hσ⟩
      have HI8 := Lib.hid (And.intro hx (And.intro hρ (And.intro hy hσ)))
      have HA8 := Lib.hid (And.intro y0 (And.intro y1 (And.intro y2 y3)))
      have c00 := y0 0 (by simp)
      have c01 := y0 1 (by simp)
      have c20 := y2 0 (by simp)
      have c21 := y2 1 (by simp)
      simp at c00 c01 c20 c21
      have l8 := y3.lt (by simp)
      clear hx hρ hy hσ y0 y1 y2 y3
      by_cases hxy : X = Y
      · subst hxy
        have hcc := HC.out
        rw [HS2.out rfl] at hcc
        have ex : cmpI X X = 0 := by unfold cmpI; rw [if_neg (by omega), if_neg (by omega)]
        have c10 := HA8.out.2.1 0 (by simp)
        have c11 := HA8.out.2.1 1 (by simp)
        have c30 := HA8.out.2.2.2 0 (by simp)
        have c31 := HA8.out.2.2.2 1 (by simp)
        simp at c10 c11 c30 c31
        have EX := Lib.hid ex
        clear ex
        go_wp2_with fail
        refine (Compare_c x y X X _ HI8.out.1 HI8.out.2.2.1).mono ?_
        rw [EX.out]
        rintro e w9 ⟨rfl, hx9⟩
        have d10 := hx9.cell c10
        have d11 := hx9.cell c11
        have d30 := hx9.cell c30
        have d31 := hx9.cell c31
        have HX9 := Lib.hid hx9
        clear c00 c01 c20 c21 c10 c11 c30 c31 hx9
        have hsu : (U = 0 ∧ cmpI U 0 = 0) ∨ (0 < U ∧ cmpI U 0 = 1) := by
          by_cases h : U = 0
          · left; exact ⟨h, by rw [h]; rfl⟩
          · right; refine ⟨by omega, ?_⟩; unfold cmpI; rw [if_neg (by omega), if_pos (by omega)]
        have hsz : (Z = 0 ∧ cmpI Z 0 = 0) ∨ (0 < Z ∧ cmpI Z 0 = 1) := by
          by_cases h : Z = 0
          · left; exact ⟨h, by rw [h]; rfl⟩
          · right; refine ⟨by omega, ?_⟩; unfold cmpI; rw [if_neg (by omega), if_pos (by omega)]
        go_wp2_with fail
        refine (Sign_c ρ U _ (HI8.out.2.1.keep HX9.out.ik)).mono ?_
        rintro e w10 ⟨rfl, hx10⟩
        have f30 := hx10.cell d30
        have f31 := hx10.cell d31
        have HX10 := Lib.hid (HX9.out.trans hx10)
        clear hx10 d10 d11 d30 d31
        rcases hsu with ⟨k1, k2⟩ | ⟨k1, k2⟩
        · rw [cmp_zero u0 v0 hT hQ (.inl k1), k2] at hcc
          rw [k2]
          have K2 := Lib.hid k2
          clear f30 f31 k2
          rcases hsz with ⟨j1, j2⟩ | ⟨j1, j2⟩ <;> rcases hsg with rfl | rfl
          all_goals
            rw [j2] at hcc
            have J2 := Lib.hid j2; have HCC2 := Lib.hid hcc
            clear j2 hcc
            go_upto_region 9 with (fail); refine wp_region_held_drew (S := fun w' => Ext w8 w' ∧ At w' (H + 1) #[.bool ρ.neg, .slice ρ.a ρ.n ρ.c] ∧ At w' (J + 1) #[.bool σ.neg, .slice σ.a σ.n σ.c]) (by kernel_rfl) ?_ (fun hHeld => ?_); (focus exact ⟨(HX10).out.drew, At.ext (HX10).out.drew HA8.out.2.1 (by simp), At.ext (HX10).out.drew HA8.out.2.2.2 (by simp)⟩); refine takeL (i := 0) (v := ?_) rfl (by kernel_rfl) (by kernel_rfl) (by kernel_rfl) (fun _ _ _ h => h) (Or.inl ⟨by rfl, ?_⟩) (by assumption) ?_; rotate_left; (focus (intro wq hSw; (try dsimp only at hSw); go_simp; try with_reducible rfl)); (try simp only [Act.put, List.setIfInBounds_toArray, List.set_cons_zero, List.set_cons_succ]); refine takeL (i := 1) (v := ?_) rfl (by kernel_rfl) (by kernel_rfl) (by kernel_rfl) (fun _ _ _ h => h) (Or.inl ⟨by rfl, ?_⟩) (by assumption) ?_; rotate_left; (focus (intro wq hSw; (try dsimp only at hSw); go_simp; try with_reducible rfl)); (try simp only [Act.put, List.setIfInBounds_toArray, List.set_cons_zero, List.set_cons_succ]); refine takeL (i := 3) (v := ?_) rfl (by kernel_rfl) (by kernel_rfl) (by kernel_rfl) (fun _ _ _ h => h) (Or.inl ⟨by rfl, ?_⟩) (by assumption) ?_; rotate_left; (focus (intro wq hSw; (try dsimp only at hSw); go_simp; try with_reducible rfl)); (try simp only [Act.put, List.setIfInBounds_toArray, List.set_cons_zero, List.set_cons_succ]); refine consL (i := 2) (by kernel_rfl) rfl (fun K hK => ?_); go_simp; go_at_call 56; refine (Sign_c ρ U _ (HI8.out.2.1.keep (Ext.ik (And.left (by assumption))))).mono ?_; rw [K2.out]; rintro e w12 ⟨rfl, hx12⟩; go_wp2_with fail; refine hK.out _ _ ?_ (fun hHeld => ?_); rotate_left; clear hK K; rotate_right; (focus ((try dsimp only); exact kept)); (try simp only [Act.put, List.setIfInBounds_toArray, List.set_cons_zero, List.set_cons_succ]); refine consL (i := 4) (by kernel_rfl) rfl (fun K hK => ?_); go_simp; go_at_call 56; refine (Sign_c σ Z _ (HI8.out.2.2.2.keep (Ext.ik (And.left (by assumption))))).mono ?_; rw [J2.out]; rintro e w13 ⟨rfl, hx13⟩; go_wp2_with fail; refine hK.out _ _ ?_ (fun hHeld => ?_); rotate_left; clear hK K; rotate_right; (focus ((try dsimp only); exact kept)); (try simp only [Act.put, List.setIfInBounds_toArray, List.set_cons_zero, List.set_cons_succ]); refine takeL (i := 5) (v := ?_) rfl (by kernel_rfl) (by kernel_rfl) (by kernel_rfl) (fun _ _ _ h => h) (Or.inl ⟨by rfl, ?_⟩) (by assumption) ?_; rotate_left; (focus (intro wq hSw; (try dsimp only at hSw); go_simp; try with_reducible rfl)); (try simp only [Act.put, List.setIfInBounds_toArray, List.set_cons_zero, List.set_cons_succ]); refine takeL (i := 6) (v := ?_) rfl (by kernel_rfl) (by kernel_rfl) (by kernel_rfl) (fun _ _ _ h => h) (Or.inl ⟨by rfl, ?_⟩) (by assumption) ?_; rotate_left; (focus (intro wq hSw; (try dsimp only at hSw); go_simp; try with_reducible rfl)); (try simp only [Act.put, List.setIfInBounds_toArray, List.set_cons_zero, List.set_cons_succ]); refine consL (i := 7) (by kernel_rfl) rfl (fun K hK => ?_); go_simp; refine hK.out _ _ ?_ (fun hHeld => ?_); rotate_left; clear hK K; rotate_right; (focus ((try dsimp only); exact kept)); (try simp only [Act.put, List.setIfInBounds_toArray, List.set_cons_zero, List.set_cons_succ]); refine doneL (by kernel_rfl) ?_; have HXF := Lib.hid (HE.out.trans (e8.trans (And.left hHeld))); clear hHeld; go_wp2_with fail; go_ret; exact ⟨by rw [← HCC2.out]; rfl, HXF.out⟩
        · rw [k2]
          have K2 := Lib.hid k2
          go_wp2_with fail
          refine (Sign_c σ Z _ (HI8.out.2.2.2.keep HX10.out.ik)).mono ?_
          rintro e w11 ⟨rfl, hx11⟩
          have HX11 := Lib.hid (HX10.out.trans hx11)
          clear hx11 f30 f31
          rcases hsz with ⟨j1, j2⟩ | ⟨j1, j2⟩
          · rw [cmp_zero u0 v0 hT hQ (.inr j1), k2, j2] at hcc
            rw [j2]
            have J2 := Lib.hid j2; have HCC2 := Lib.hid hcc
            clear j2 k2 hcc
            rcases hsg with rfl | rfl
            all_goals
              go_upto_region 9 with (fail); refine wp_region_held_drew (S := fun w' => Ext w8 w' ∧ At w' (H + 1) #[.bool ρ.neg, .slice ρ.a ρ.n ρ.c] ∧ At w' (J + 1) #[.bool σ.neg, .slice σ.a σ.n σ.c]) (by kernel_rfl) ?_ (fun hHeld => ?_); (focus exact ⟨(HX11).out.drew, At.ext (HX11).out.drew HA8.out.2.1 (by simp), At.ext (HX11).out.drew HA8.out.2.2.2 (by simp)⟩); refine takeL (i := 0) (v := ?_) rfl (by kernel_rfl) (by kernel_rfl) (by kernel_rfl) (fun _ _ _ h => h) (Or.inl ⟨by rfl, ?_⟩) (by assumption) ?_; rotate_left; (focus (intro wq hSw; (try dsimp only at hSw); go_simp; try with_reducible rfl)); (try simp only [Act.put, List.setIfInBounds_toArray, List.set_cons_zero, List.set_cons_succ]); refine takeL (i := 1) (v := ?_) rfl (by kernel_rfl) (by kernel_rfl) (by kernel_rfl) (fun _ _ _ h => h) (Or.inl ⟨by rfl, ?_⟩) (by assumption) ?_; rotate_left; (focus (intro wq hSw; (try dsimp only at hSw); go_simp; try with_reducible rfl)); (try simp only [Act.put, List.setIfInBounds_toArray, List.set_cons_zero, List.set_cons_succ]); refine takeL (i := 3) (v := ?_) rfl (by kernel_rfl) (by kernel_rfl) (by kernel_rfl) (fun _ _ _ h => h) (Or.inl ⟨by rfl, ?_⟩) (by assumption) ?_; rotate_left; (focus (intro wq hSw; (try dsimp only at hSw); go_simp; try with_reducible rfl)); (try simp only [Act.put, List.setIfInBounds_toArray, List.set_cons_zero, List.set_cons_succ]); refine consL (i := 2) (by kernel_rfl) rfl (fun K hK => ?_); go_simp; go_at_call 56; refine (Sign_c ρ U _ (HI8.out.2.1.keep (Ext.ik (And.left (by assumption))))).mono ?_; rw [K2.out]; rintro e w12 ⟨rfl, hx12⟩; go_wp2_with fail; refine hK.out _ _ ?_ (fun hHeld => ?_); rotate_left; clear hK K; rotate_right; (focus ((try dsimp only); exact kept)); (try simp only [Act.put, List.setIfInBounds_toArray, List.set_cons_zero, List.set_cons_succ]); refine consL (i := 4) (by kernel_rfl) rfl (fun K hK => ?_); go_simp; go_at_call 56; refine (Sign_c σ Z _ (HI8.out.2.2.2.keep (Ext.ik (And.left (by assumption))))).mono ?_; rw [J2.out]; rintro e w13 ⟨rfl, hx13⟩; go_wp2_with fail; refine hK.out _ _ ?_ (fun hHeld => ?_); rotate_left; clear hK K; rotate_right; (focus ((try dsimp only); exact kept)); (try simp only [Act.put, List.setIfInBounds_toArray, List.set_cons_zero, List.set_cons_succ]); refine takeL (i := 5) (v := ?_) rfl (by kernel_rfl) (by kernel_rfl) (by kernel_rfl) (fun _ _ _ h => h) (Or.inl ⟨by rfl, ?_⟩) (by assumption) ?_; rotate_left; (focus (intro wq hSw; (try dsimp only at hSw); go_simp; try with_reducible rfl)); (try simp only [Act.put, List.setIfInBounds_toArray, List.set_cons_zero, List.set_cons_succ]); refine takeL (i := 6) (v := ?_) rfl (by kernel_rfl) (by kernel_rfl) (by kernel_rfl) (fun _ _ _ h => h) (Or.inl ⟨by rfl, ?_⟩) (by assumption) ?_; rotate_left; (focus (intro wq hSw; (try dsimp only at hSw); go_simp; try with_reducible rfl)); (try simp only [Act.put, List.setIfInBounds_toArray, List.set_cons_zero, List.set_cons_succ]); refine consL (i := 7) (by kernel_rfl) rfl (fun K hK => ?_); go_simp; refine hK.out _ _ ?_ (fun hHeld => ?_); rotate_left; clear hK K; rotate_right; (focus ((try dsimp only); exact kept)); (try simp only [Act.put, List.setIfInBounds_toArray, List.set_cons_zero, List.set_cons_succ]); refine doneL (by kernel_rfl) ?_; have HXF := Lib.hid (HE.out.trans (e8.trans (And.left hHeld))); clear hHeld; go_wp2_with fail; go_ret; exact ⟨by rw [← HCC2.out]; rfl, HXF.out⟩
          · rw [j2]
            clear j2 k2 K2
            have hcc2 : -sg * cmpI (Q * Z) (T * U) = cc := by
              rw [← hcc, cmp_flip (U * T), Int.mul_comm Q, Int.mul_comm T]; grind
            have HCC2 := Lib.hid hcc2
            clear hcc hcc2
            have EE := e8.trans HX11.out
            have o0 := Own.ext EE HO.out.1 (by omega)
            have o1 := Own.ext EE HO.out.2.1 (by omega)
            have o2 := Own.ext EE HO.out.2.2.1 (by omega)
            have o3 := Own.ext EE HO.out.2.2.2 (by omega)
            have f0 := o0.2.1
            have f1 := o1.2.1
            have f2 := o2.2.1
            have f3 := o3.2.1
            have a0 := (At.ext EE HAA.out.1 (by simp)) 0 (by simp)
            have a1 := (At.ext EE HAA.out.1 (by simp)) 1 (by simp)
            have b0 := (At.ext EE HAA.out.2.1 (by simp)) 0 (by simp)
            have b1 := (At.ext EE HAA.out.2.1 (by simp)) 1 (by simp)
            have c0 := (At.ext EE HAA.out.2.2.1 (by simp)) 0 (by simp)
            have c1 := (At.ext EE HAA.out.2.2.1 (by simp)) 1 (by simp)
            have d0 := (At.ext EE HAA.out.2.2.2 (by simp)) 0 (by simp)
            have d1 := (At.ext EE HAA.out.2.2.2 (by simp)) 1 (by simp)
            have m0 := (At.ext HX11.out HA8.out.2.1 (by simp)) 0 (by simp)
            have m1 := (At.ext HX11.out HA8.out.2.1 (by simp)) 1 (by simp)
            have k0 := (At.ext HX11.out HA8.out.2.2.2 (by simp)) 0 (by simp)
            have k1' := (At.ext HX11.out HA8.out.2.2.2 (by simp)) 1 (by simp)
            simp at a0 a1 b0 b1 c0 c1 d0 d1 m0 m1 k0 k1'
            have HFP := Lib.hid (four_put o0 o1 o2 o3 n01 n02 n03 n12 n13 n23 vq ρ vs σ)
            have HEE := Lib.hid (HE.out.trans EE)
            have HFD := Lib.hid (show Ext w (P2 (P2 (P2 (P2 w11 G0 vq) G1 ρ) G2 vs) G3 σ).drew ∧ (Own (P2 (P2 (P2 (P2 w11 G0 vq) G1 ρ) G2 vs) G3 σ).drew G0 2 ∧ Own (P2 (P2 (P2 (P2 w11 G0 vq) G1 ρ) G2 vs) G3 σ).drew G1 2 ∧ Own (P2 (P2 (P2 (P2 w11 G0 vq) G1 ρ) G2 vs) G3 σ).drew G2 2 ∧ Own (P2 (P2 (P2 (P2 w11 G0 vq) G1 ρ) G2 vs) G3 σ).drew G3 2) ∧ (At (P2 (P2 (P2 (P2 w11 G0 vq) G1 ρ) G2 vs) G3 σ).drew G0 #[.bool vq.neg, .slice vq.a vq.n vq.c] ∧ At (P2 (P2 (P2 (P2 w11 G0 vq) G1 ρ) G2 vs) G3 σ).drew G1 #[.bool ρ.neg, .slice ρ.a ρ.n ρ.c] ∧ At (P2 (P2 (P2 (P2 w11 G0 vq) G1 ρ) G2 vs) G3 σ).drew G2 #[.bool vs.neg, .slice vs.a vs.n vs.c] ∧ At (P2 (P2 (P2 (P2 w11 G0 vq) G1 ρ) G2 vs) G3 σ).drew G3 #[.bool σ.neg, .slice σ.a σ.n σ.c]) ∧ (IsI (P2 (P2 (P2 (P2 w11 G0 vq) G1 ρ) G2 vs) G3 σ).drew vq Q ∧ IsI (P2 (P2 (P2 (P2 w11 G0 vq) G1 ρ) G2 vs) G3 σ).drew ρ U ∧ IsI (P2 (P2 (P2 (P2 w11 G0 vq) G1 ρ) G2 vs) G3 σ).drew vs T ∧ IsI (P2 (P2 (P2 (P2 w11 G0 vq) G1 ρ) G2 vs) G3 σ).drew σ Z) from
              ⟨(ext_P2 (ext_P2 (ext_P2 (ext_P2 HEE.out (by omega) vq) (by omega) ρ) (by omega) vs) (by omega) σ).drew, ⟨Own.ext (Ext.refl _).drew HFP.out.2.1.1 (by omega), Own.ext (Ext.refl _).drew HFP.out.2.1.2.1 (by omega), Own.ext (Ext.refl _).drew HFP.out.2.1.2.2.1 (by omega), Own.ext (Ext.refl _).drew HFP.out.2.1.2.2.2 (by omega)⟩,
                ⟨At.ext (Ext.refl _).drew HFP.out.2.2.1 (by simp), At.ext (Ext.refl _).drew HFP.out.2.2.2.1 (by simp), At.ext (Ext.refl _).drew HFP.out.2.2.2.2.1 (by simp), At.ext (Ext.refl _).drew HFP.out.2.2.2.2.2 (by simp)⟩,
                ((HI.out.2.1.keep EE.ik).keep HFP.out.1).keep (Ext.refl _).drew.ik, ((HI8.out.2.1.keep HX11.out.ik).keep HFP.out.1).keep (Ext.refl _).drew.ik, ((HI.out.2.2.2.keep EE.ik).keep HFP.out.1).keep (Ext.refl _).drew.ik, ((HI8.out.2.2.2.keep HX11.out.ik).keep HFP.out.1).keep (Ext.refl _).drew.ik⟩)
            have HQQ := Lib.hid (And.intro (HI.out.2.1.keep EE.ik) (And.intro (HI8.out.2.1.keep HX11.out.ik) (And.intro (HI.out.2.2.2.keep EE.ik) (HI8.out.2.2.2.keep HX11.out.ik))))
            have HO4 := Lib.hid (show Own w11.drew G0 2 ∧ Own w11.drew G1 2 ∧ Own w11.drew G2 2 ∧ Own w11.drew G3 2 from ⟨Own.ext (Ext.refl w11).drew o0 (by omega), Own.ext (Ext.refl w11).drew o1 (by omega), Own.ext (Ext.refl w11).drew o2 (by omega), Own.ext (Ext.refl w11).drew o3 (by omega)⟩)
            clear o0 o1 o2 o3 EE
            have n10 := Ne.symm n01
            have n20 := Ne.symm n02
            have n30 := Ne.symm n03
            have n21 := Ne.symm n12
            have n31 := Ne.symm n13
            have n32 := Ne.symm n23
            have s8 := e8.size
            have s11 := HX11.out.size
            have x11 := HEE.out
            have y11 := At.ext HX11.out HA8.out.2.1 (by simp)
            have z11 := At.ext HX11.out HA8.out.2.2.2 (by simp)
            rcases hsg with rfl | rfl
            all_goals
              go_upto_region 10 with (fail)
              refine wp_region_held_drew (S := fun w' => Ext w w' ∧ At w' (H + 1) #[.bool ρ.neg, .slice ρ.a ρ.n ρ.c] ∧ At w' (J + 1) #[.bool σ.neg, .slice σ.a σ.n σ.c]) (by kernel_rfl) ?_ (fun hHeld => ?_)
              · exact ⟨HEE.out.drew, At.ext HX11.out.drew HA8.out.2.1 (by simp), At.ext HX11.out.drew HA8.out.2.2.2 (by simp)⟩
              refine takeL (i := 1) (v := ?_) rfl (by kernel_rfl) (by kernel_rfl) (by kernel_rfl) (fun _ _ _ h => h) (Or.inl ⟨by rfl, ?_⟩) (by assumption) ?_; rotate_left; (focus (intro wq hSw; (try dsimp only at hSw); go_simp; try with_reducible rfl)); (try simp only [Act.put, List.setIfInBounds_toArray, List.set_cons_zero, List.set_cons_succ])
              refine takeL (i := 3) (v := ?_) rfl (by kernel_rfl) (by kernel_rfl) (by kernel_rfl) (fun _ _ _ h => h) (Or.inl ⟨by rfl, ?_⟩) (by assumption) ?_; rotate_left; (focus (intro wq hSw; (try dsimp only at hSw); go_simp; try with_reducible rfl)); (try simp only [Act.put, List.setIfInBounds_toArray, List.set_cons_zero, List.set_cons_succ])
              refine cons2L (i := 0) (j := 2) (by kernel_rfl) rfl rfl (fun K hK => ?_) (fun K hK => ?_)
              · go_simp; refine hK.out _ _ ?_ (fun hHeld => ?_); rotate_left; clear hK K; rotate_right; (focus ((try dsimp only); exact kept)); (try simp only [Act.put, List.setIfInBounds_toArray, List.set_cons_zero, List.set_cons_succ])
                refine cons2L (i := 2) (j := 4) (by kernel_rfl) rfl rfl (fun K hK => ?_) (fun K hK => ?_)
                · go_simp; refine hK.out _ _ ?_ (fun hHeld => ?_); rotate_left; clear hK K; rotate_right; (focus ((try dsimp only); exact kept)); (try simp only [Act.put, List.setIfInBounds_toArray, List.set_cons_zero, List.set_cons_succ])
                  refine consL (i := 4) (by kernel_rfl) rfl (fun K hK => ?_); go_simp; refine hK.out _ _ ?_ (fun hHeld => ?_); rotate_left; clear hK K; rotate_right; (focus ((try dsimp only); exact kept)); (try simp only [Act.put, List.setIfInBounds_toArray, List.set_cons_zero, List.set_cons_succ])
                  refine consL (i := 5) (by kernel_rfl) rfl (fun K hK => ?_); go_simp; refine hK.out _ _ ?_ (fun hHeld => ?_); rotate_left; clear hK K; rotate_right; (focus ((try dsimp only); exact kept)); (try simp only [Act.put, List.setIfInBounds_toArray, List.set_cons_zero, List.set_cons_succ])
                  refine consL (i := 6) (by kernel_rfl) rfl (fun K hK => ?_); go_simp; refine hK.out _ _ ?_ (fun hHeld => ?_); rotate_left; clear hK K; rotate_right; (focus ((try dsimp only); exact kept)); (try simp only [Act.put, List.setIfInBounds_toArray, List.set_cons_zero, List.set_cons_succ])
                  refine consL (i := 7) (by kernel_rfl) rfl (fun K hK => ?_); go_simp; refine hK.out _ _ ?_ (fun hHeld => ?_); rotate_left; clear hK K; rotate_right; (focus ((try dsimp only); exact kept)); (try simp only [Act.put, List.setIfInBounds_toArray, List.set_cons_zero, List.set_cons_succ])
                  refine doneL (by kernel_rfl) ?_; go_wp2_with fail; go_roundw; (case rel => exact ⟨_, Q, U, T, Z, vq, ρ, vs, σ, rfl, by simp, HFD.out.1, HFD.out.2.1, HFD.out.2.2.1, HFD.out.2.2.2, by omega, by omega, by simpa using HCC2.out⟩); (case measure => rw [cellVal_of HFD.out.2.2.1.2.1 HFD.out.2.2.2.2.1, cellVal_of HAA.out.2.1 HI.out.2.1]; omega)
                · go_simp; refine hK.out _ _ ?_ (fun hHeld => ?_); rotate_left; clear hK K; rotate_right; (focus ((try dsimp only); exact kept)); (try simp only [Act.put, List.setIfInBounds_toArray, List.set_cons_zero, List.set_cons_succ])
                  refine cons2L (i := 2) (j := 5) (by kernel_rfl) rfl rfl (fun K hK => ?_) (fun K hK => ?_)
                  · go_simp; refine hK.out _ _ ?_ (fun hHeld => ?_); rotate_left; clear hK K; rotate_right; (focus ((try dsimp only); exact kept)); (try simp only [Act.put, List.setIfInBounds_toArray, List.set_cons_zero, List.set_cons_succ])
                    refine consL (i := 5) (by kernel_rfl) rfl (fun K hK => ?_); go_simp; refine hK.out _ _ ?_ (fun hHeld => ?_); rotate_left; clear hK K; rotate_right; (focus ((try dsimp only); exact kept)); (try simp only [Act.put, List.setIfInBounds_toArray, List.set_cons_zero, List.set_cons_succ])
                    refine consL (i := 6) (by kernel_rfl) rfl (fun K hK => ?_); go_simp; refine hK.out _ _ ?_ (fun hHeld => ?_); rotate_left; clear hK K; rotate_right; (focus ((try dsimp only); exact kept)); (try simp only [Act.put, List.setIfInBounds_toArray, List.set_cons_zero, List.set_cons_succ])
                    refine consL (i := 7) (by kernel_rfl) rfl (fun K hK => ?_); go_simp; refine hK.out _ _ ?_ (fun hHeld => ?_); rotate_left; clear hK K; rotate_right; (focus ((try dsimp only); exact kept)); (try simp only [Act.put, List.setIfInBounds_toArray, List.set_cons_zero, List.set_cons_succ])
                    refine doneL (by kernel_rfl) ?_; go_wp2_with fail; go_roundw; (case rel => exact ⟨_, Q, U, T, Z, vq, ρ, vs, σ, rfl, by simp, HFD.out.1, HFD.out.2.1, HFD.out.2.2.1, HFD.out.2.2.2, by omega, by omega, by simpa using HCC2.out⟩); (case measure => rw [cellVal_of HFD.out.2.2.1.2.1 HFD.out.2.2.2.2.1, cellVal_of HAA.out.2.1 HI.out.2.1]; omega)
                  · go_simp; refine hK.out _ _ ?_ (fun hHeld => ?_); rotate_left; clear hK K; rotate_right; (focus ((try dsimp only); exact kept)); (try simp only [Act.put, List.setIfInBounds_toArray, List.set_cons_zero, List.set_cons_succ])
                    refine consL (i := 2) (by kernel_rfl) rfl (fun K hK => ?_); go_simp; refine hK.out _ _ ?_ (fun hHeld => ?_); rotate_left; clear hK K; rotate_right; (focus ((try dsimp only); exact kept)); (try simp only [Act.put, List.setIfInBounds_toArray, List.set_cons_zero, List.set_cons_succ])
                    refine consL (i := 6) (by kernel_rfl) rfl (fun K hK => ?_); go_simp; refine hK.out _ _ ?_ (fun hHeld => ?_); rotate_left; clear hK K; rotate_right; (focus ((try dsimp only); exact kept)); (try simp only [Act.put, List.setIfInBounds_toArray, List.set_cons_zero, List.set_cons_succ])
                    refine consL (i := 7) (by kernel_rfl) rfl (fun K hK => ?_); go_simp; refine hK.out _ _ ?_ (fun hHeld => ?_); rotate_left; clear hK K; rotate_right; (focus ((try dsimp only); exact kept)); (try simp only [Act.put, List.setIfInBounds_toArray, List.set_cons_zero, List.set_cons_succ])
                    refine doneL (by kernel_rfl) ?_; go_wp2_with fail; go_roundw; (case rel => exact ⟨_, Q, U, T, Z, vq, ρ, vs, σ, rfl, by simp, HFD.out.1, HFD.out.2.1, HFD.out.2.2.1, HFD.out.2.2.2, by omega, by omega, by simpa using HCC2.out⟩); (case measure => rw [cellVal_of HFD.out.2.2.1.2.1 HFD.out.2.2.2.2.1, cellVal_of HAA.out.2.1 HI.out.2.1]; omega)
              · go_simp; refine hK.out _ _ ?_ (fun hHeld => ?_); rotate_left; clear hK K; rotate_right; (focus ((try dsimp only); exact kept)); (try simp only [Act.put, List.setIfInBounds_toArray, List.set_cons_zero, List.set_cons_succ])
                refine consL (i := 0) (by kernel_rfl) rfl (fun K hK => ?_); go_simp; refine hK.out _ _ ?_ (fun hHeld => ?_); rotate_left; clear hK K; rotate_right; (focus ((try dsimp only); exact kept)); (try simp only [Act.put, List.setIfInBounds_toArray, List.set_cons_zero, List.set_cons_succ])
                refine consL (i := 4) (by kernel_rfl) rfl (fun K hK => ?_); go_simp; refine hK.out _ _ ?_ (fun hHeld => ?_); rotate_left; clear hK K; rotate_right; (focus ((try dsimp only); exact kept)); (try simp only [Act.put, List.setIfInBounds_toArray, List.set_cons_zero, List.set_cons_succ])
                refine consL (i := 5) (by kernel_rfl) rfl (fun K hK => ?_); go_simp; refine hK.out _ _ ?_ (fun hHeld => ?_); rotate_left; clear hK K; rotate_right; (focus ((try dsimp only); exact kept)); (try simp only [Act.put, List.setIfInBounds_toArray, List.set_cons_zero, List.set_cons_succ])
                refine consL (i := 6) (by kernel_rfl) rfl (fun K hK => ?_); go_simp; refine hK.out _ _ ?_ (fun hHeld => ?_); rotate_left; clear hK K; rotate_right; (focus ((try dsimp only); exact kept)); (try simp only [Act.put, List.setIfInBounds_toArray, List.set_cons_zero, List.set_cons_succ])
                refine consL (i := 7) (by kernel_rfl) rfl (fun K hK => ?_); go_simp; refine hK.out _ _ ?_ (fun hHeld => ?_); rotate_left; clear hK K; rotate_right; (focus ((try dsimp only); exact kept)); (try simp only [Act.put, List.setIfInBounds_toArray, List.set_cons_zero, List.set_cons_succ])
                refine doneL (by kernel_rfl) ?_; go_wp2_with fail; go_roundw; (case rel => exact ⟨_, Q, U, T, Z, vq, ρ, vs, σ, rfl, by simp, HFD.out.1, HFD.out.2.1, HFD.out.2.2.1, HFD.out.2.2.2, by omega, by omega, by simpa using HCC2.out⟩); (case measure => rw [cellVal_of HFD.out.2.2.1.2.1 HFD.out.2.2.2.2.1, cellVal_of HAA.out.2.1 HI.out.2.1]; omega)
      · have hcv : cmpI X Y = 1 ∨ cmpI X Y = -1 := by unfold cmpI; split; exact .inr rfl; split; exact .inl rfl; omega
        have hcc := HC.out
        rw [HS1.out hxy] at hcc
        rcases hsg with rfl | rfl <;> rcases hcv with hc1 | hc1
        all_goals
          rw [hc1] at hcc
          have HC1 := Lib.hid hc1; have HCC2 := Lib.hid hcc
          clear hc1 hcc
          go_wp2_with fail
          refine (Compare_c x y X Y _ HI8.out.1 HI8.out.2.2.1).mono ?_
          rw [HC1.out]
          rintro e w9 ⟨rfl, hx9⟩
          have d00 := hx9.cell c00
          have d01 := hx9.cell c01
          have d20 := hx9.cell c20
          have d21 := hx9.cell c21
          have HX9 := Lib.hid hx9
          clear c00 c01 c20 c21 hx9
          go_wp2_with fail
          refine (Compare_c x y X Y _ (HI8.out.1.keep HX9.out.ik) (HI8.out.2.2.1.keep HX9.out.ik)).mono ?_
          rw [HC1.out]
          rintro e w10 ⟨rfl, hx10⟩
          have HX10 := Lib.hid ((HE.out.trans (e8.trans HX9.out)).trans hx10)
          clear hx10 d00 d01 d20 d21
          go_wp2_with fail
          go_ret
          exact ⟨by rw [← HCC2.out]; rfl, HX10.out⟩
end Go.Proofs.Ytgmedfloflplgaa
