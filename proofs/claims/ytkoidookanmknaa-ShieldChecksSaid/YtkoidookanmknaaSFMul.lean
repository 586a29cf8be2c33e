/- frac: Mul, where nothing is too great. -/
import Derived.Test.YtkoidookanmknaaSFB
import Derived.Test.YtkoidookanmknaaSWS
namespace Go.Proofs.Ytkoidookanmknaa
set_option linter.unusedSimpArgs false
set_option linter.unusedVariables false
open Go.RowKit

theorem cop_mul {P Q R T : Nat} (hQ : 0 < Q) (hT : 0 < T) (h1 : Nat.gcd P Q = 1) (h2 : Nat.gcd R T = 1) : Nat.gcd (P / Nat.gcd P T * (R / Nat.gcd R Q)) (Q / Nat.gcd R Q * (T / Nat.gcd P T)) = 1 := by
 have c1 : Nat.Coprime P Q := h1
 have c2 : Nat.Coprime R T := h2
 have g1 : 0 < Nat.gcd P T := Nat.gcd_pos_of_pos_right _ hT
 have g2 : 0 < Nat.gcd R Q := Nat.gcd_pos_of_pos_right _ hQ
 have a1 : Nat.Coprime (P / Nat.gcd P T) (T / Nat.gcd P T) := Nat.coprime_div_gcd_div_gcd g1
 have a2 : Nat.Coprime (R / Nat.gcd R Q) (Q / Nat.gcd R Q) := Nat.coprime_div_gcd_div_gcd g2
 have a3 : Nat.Coprime (P / Nat.gcd P T) (Q / Nat.gcd R Q) := (c1.coprime_div_left (Nat.gcd_dvd_left _ _)).coprime_div_right (Nat.gcd_dvd_right _ _)
 have a4 : Nat.Coprime (R / Nat.gcd R Q) (T / Nat.gcd P T) := (c2.coprime_div_left (Nat.gcd_dvd_left _ _)).coprime_div_right (Nat.gcd_dvd_right _ _)
 exact Nat.Coprime.mul_left (Nat.Coprime.mul_right a3 a1) (Nat.Coprime.mul_right a2 a4)
theorem mul_low {p q r s : Int} (hq : 1 ≤ q) (hs : 1 ≤ s) (h1 : Nat.gcd p.natAbs q.natAbs = 1) (h2 : Nat.gcd r.natAbs s.natAbs = 1) : Nat.gcd (p / gcdI p s * (r / gcdI r q)).natAbs (q / gcdI r q * (s / gcdI p s)).natAbs = 1 := by
 have d1 := gcdI_dvd p s
 have d2 := gcdI_dvd r q
 have e1 : (gcdI p s).natAbs = Nat.gcd p.natAbs s.natAbs := by unfold gcdI; simp
 have e2 : (gcdI r q).natAbs = Nat.gcd r.natAbs q.natAbs := by unfold gcdI; simp
 rw [Int.natAbs_mul, Int.natAbs_mul, Int.natAbs_ediv_of_dvd d1.1, Int.natAbs_ediv_of_dvd d2.1, Int.natAbs_ediv_of_dvd d2.2, Int.natAbs_ediv_of_dvd d1.2, e1, e2]
 exact cop_mul (by omega) (by omega) h1 h2
set_option maxRecDepth 100000 in
set_option maxHeartbeats 8000000 in
theorem fMul_c (a b : FV) (p q r s : Int) (w : World) (ha : IsF w a p q) (hb : IsF w b r s) (h1 : Big (p / gcdI p s * (r / gcdI r q))) (h2 : Big (q / gcdI r q * (s / gcdI p s))) :
  Calls Try.prog 91 #[a.v, b.v] w (RetQ (p / gcdI p s * (r / gcdI r q)) (q / gcdI r q * (s / gcdI p s)) w) := by
 have HA := Lib.hid ha; have HB := Lib.hid hb
 have hq1 := ha.pos
 have hs1 := hb.pos
 have hcop := mul_low hq1 hs1 ha.low hb.low
 have hgp := gcdI_pos (x := p) hs1
 have hhp := gcdI_pos (x := r) hq1
 have hQ1 : 1 ≤ q / gcdI r q := (Int.le_ediv_iff_mul_le (by omega)).2 (by rw [Int.one_mul]; exact gcdI_le hq1)
 have hS1 : 1 ≤ s / gcdI p s := (Int.le_ediv_iff_mul_le (by omega)).2 (by rw [Int.one_mul]; exact gcdI_le hs1)
 have hgg : ((Nat.gcd p.natAbs s.natAbs : Nat) : Int) = gcdI p s := rfl
 have hhh : ((Nat.gcd r.natAbs q.natAbs : Nat) : Int) = gcdI r q := rfl
 obtain ⟨gg, hgv⟩ : ∃ z, gcdI p s = z := ⟨_, rfl⟩
 obtain ⟨hh, hhv⟩ : ∃ z, gcdI r q = z := ⟨_, rfl⟩
 rw [hgv, hhv] at hcop h1 h2
 rw [hgv] at hgp hS1 hgg
 rw [hhv] at hhp hQ1 hhh
 rw [hgv, hhv]
 have HB2 := Lib.hid h2
 have L1 := Lib.hid (lim_big h1); have L2 := Lib.hid (lim_big h2); have HGG := Lib.hid hgg; have HHH := Lib.hid hhh; have HCOP := Lib.hid hcop
 have hD1 : 1 ≤ q / hh * (s / gg) := by
  have := Int.mul_le_mul hQ1 hS1 (by omega) (by omega)
  simpa using this
 clear ha hb h1 h2 hgg hhh hgv hhv hcop
 go_enter Try.func91, Try.ntmps91
 go_upto_region 1 with (fail)
 obtain ⟨B, hB⟩ : ∃ B, w.heap.size = B := ⟨_, rfl⟩
 refine wp_gen (fun W => Ext w W ∧ At W B #[.bool a.n.neg, .slice a.n.a a.n.n a.n.c, .bool a.d.neg, .slice a.d.a a.d.n a.d.c] ∧ At W (B + 1) #[.bool b.n.neg, .slice b.n.a b.n.n b.n.c, .bool b.d.neg, .slice b.d.a b.d.n b.d.c] ∧ Own W (B + 1 + 1) 4) ⟨(by repeat (first | exact Ext.refl _ | assumption | refine Ext.setCell ?_ (by first | (simp; done) | (simp; omega) | omega) _ | refine Ext.alloc ?_ _ | refine Ext.drew ?_ | refine Ext.trans ?_ (by assumption))), (((Blk.at _ 58 hB.symm).alloc _).alloc _).at', ((Blk.at _ 58 (by simp [hB])).alloc _).at', (Blk.at #[.bool false, .slice none 0 0, .bool false, .slice none 0 0] 58 (by simp [hB])).own _ (by simp) (noIntF _ _ _ _ _ _ _ _)⟩ ?_
 try rw [hB]
 rintro V ⟨E0, A0, A1, O2⟩
 have HE := Lib.hid (And.intro E0 (And.intro A0 A1)); have HO2 := Lib.hid O2
 go_cut [6, 7] (fun s6 s7 wx => ∃ (G0 G1 : Nat) (g1 g2 : IV), s6 = .pointer (some ⟨G0, 0, none⟩) ∧ s7 = .pointer (some ⟨G1, 0, none⟩) ∧ Ext V wx ∧ IsI wx g1 gg ∧ IsI wx g2 hh ∧ B + 1 + 1 < G0 ∧ B + 1 + 1 < G1 ∧ At wx G0 #[.bool g1.neg, .slice g1.a g1.n g1.c] ∧ At wx G1 #[.bool g2.neg, .slice g2.a g2.n g2.c])
 case first =>
  refine wp_region_held_drew (S := fun w' => Ext w w' ∧ At w' B #[.bool a.n.neg, .slice a.n.a a.n.n a.n.c, .bool a.d.neg, .slice a.d.a a.d.n a.d.c] ∧ At w' (B + 1) #[.bool b.n.neg, .slice b.n.a b.n.n b.n.c, .bool b.d.neg, .slice b.d.a b.d.n b.d.c]) (by kernel_rfl) ?_ (fun hHeld => ?_)
  ·exact ⟨E0.drew, A0, A1⟩
  refine takeL (i := 0) (v := ?_) rfl (by kernel_rfl) (by kernel_rfl) (by kernel_rfl) (fun _ _ _ h => h) (Or.inl ⟨by rfl, ?_⟩) (by assumption) ?_; rotate_left; (focus (intro wq hSw; (try dsimp only at hSw); go_simp; try with_reducible rfl)); (try simp only [Act.put, List.setIfInBounds_toArray, List.set_cons_zero, List.set_cons_succ])
  refine takeL (i := 1) (v := ?_) rfl (by kernel_rfl) (by kernel_rfl) (by kernel_rfl) (fun _ _ _ h => h) (Or.inl ⟨by rfl, ?_⟩) (by assumption) ?_; rotate_left; (focus (intro wq hSw; (try dsimp only at hSw); go_simp; try with_reducible rfl)); (try simp only [Act.put, List.setIfInBounds_toArray, List.set_cons_zero, List.set_cons_succ])
  refine takeL (i := 2) (v := ?_) rfl (by kernel_rfl) (by kernel_rfl) (by kernel_rfl) (fun _ _ _ h => h) (Or.inl ⟨by rfl, ?_⟩) (by assumption) ?_; rotate_left; (focus (intro wq hSw; (try dsimp only at hSw); go_simp; try with_reducible rfl)); (try simp only [Act.put, List.setIfInBounds_toArray, List.set_cons_zero, List.set_cons_succ])
  refine takeL (i := 5) (v := ?_) rfl (by kernel_rfl) (by kernel_rfl) (by kernel_rfl) (fun _ _ _ h => h) (Or.inl ⟨by rfl, ?_⟩) (by assumption) ?_; rotate_left; (focus (intro wq hSw; (try dsimp only at hSw); go_simp; try with_reducible rfl)); (try simp only [Act.put, List.setIfInBounds_toArray, List.set_cons_zero, List.set_cons_succ])
  refine takeL (i := 6) (v := ?_) rfl (by kernel_rfl) (by kernel_rfl) (by kernel_rfl) (fun _ _ _ h => h) (Or.inl ⟨by rfl, ?_⟩) (by assumption) ?_; rotate_left; (focus (intro wq hSw; (try dsimp only at hSw); go_simp; try with_reducible rfl)); (try simp only [Act.put, List.setIfInBounds_toArray, List.set_cons_zero, List.set_cons_succ])
  refine takeL (i := 7) (v := ?_) rfl (by kernel_rfl) (by kernel_rfl) (by kernel_rfl) (fun _ _ _ h => h) (Or.inl ⟨by rfl, ?_⟩) (by assumption) ?_; rotate_left; (focus (intro wq hSw; (try dsimp only at hSw); go_simp; try with_reducible rfl)); (try simp only [Act.put, List.setIfInBounds_toArray, List.set_cons_zero, List.set_cons_succ])
  have lV := O2.lt (by omega)
  refine name_ops (fun ops q0 hops hq0 => ?_)
  have st4_01 : ∀ (W : World) (d1 : IV) (g1 : IV) (d2 : IV) (g2 : IV) (G0 : Nat) (G1 : Nat), Ext w W ∧ At W B #[.bool a.n.neg, .slice a.n.a a.n.n a.n.c, .bool a.d.neg, .slice a.d.a a.d.n a.d.c] ∧ At W (B + 1) #[.bool b.n.neg, .slice b.n.a b.n.n b.n.c, .bool b.d.neg, .slice b.d.a b.d.n b.d.c] → Ext V W → IsI W d1 s → IsI W g1 gg → IsI W d2 q → IsI W g2 hh → Own W G0 2 → V.heap.size ≤ G0 → Own W G1 2 → V.heap.size ≤ G1 → G0 ≠ G1 → wpAnyH Try.prog .any ops q0 (fun w' => Ext w w' ∧ At w' B #[.bool a.n.neg, .slice a.n.a a.n.n a.n.c, .bool a.d.neg, .slice a.d.a a.d.n a.d.c] ∧ At w' (B + 1) #[.bool b.n.neg, .slice b.n.a b.n.n b.n.c, .bool b.d.neg, .slice b.d.a b.d.n b.d.c]) 2 #[true, true, true, true, true, true, true, true, true, true, true, true, false, false] ⟨#[a.v, b.v, .pointer (some ⟨B, 0, none⟩), .pointer (some ⟨B + 1, 0, none⟩), .pointer (some ⟨B + 1 + 1, 0, none⟩), .int .i64 0, .pointer (some ⟨G0, 0, none⟩), .pointer (some ⟨G1, 0, none⟩), undef, undef, undef, undef, .pointer (some ⟨B, 0, none⟩), .agg #[.bool a.n.neg, .slice a.n.a a.n.n a.n.c], .agg #[.bool b.n.neg, .slice b.n.a b.n.n b.n.c, .bool b.d.neg, .slice b.d.a b.d.n b.d.c], d1.v, g1.v, .pointer (some ⟨B + 1, 0, none⟩), .agg #[.bool b.n.neg, .slice b.n.a b.n.n b.n.c], .agg #[.bool a.n.neg, .slice a.n.a a.n.n a.n.c, .bool a.d.neg, .slice a.d.a a.d.n a.d.c], d2.v, g2.v, undef, undef, undef, undef, undef, undef, undef, undef, undef, undef, undef, undef, undef, undef, undef, undef, undef, undef, undef, undef, undef, undef, undef, undef, undef, undef, undef, undef, undef, undef, undef, undef, undef], []⟩ W := by
   intro W d1 g1 d2 g2 G0 G1 hS hE hd1 hg1 hd2 hg2 o0 b0 o1 b1 n01
   have lB := hS.2.2.lt (by simp)
   have sE := hE.size
   have l0 := o0.lt (by omega)
   have l1 := o1.lt (by omega)
   rw [hops]
   have hHeld := hS; refine consL (i := 12) (by kernel_rfl) rfl (fun K hK => ?_); go_simp; refine hK.out _ _ ?_ (fun hHeld => ?_); rotate_left; clear hK K; rotate_right; (focus ((try dsimp only); exact kept)); (try simp only [Act.put, List.setIfInBounds_toArray, List.set_cons_zero, List.set_cons_succ]); refine wpAnyH_gen (fun X => ((Ext w X ∧ At X B #[.bool a.n.neg, .slice a.n.a a.n.n a.n.c, .bool a.d.neg, .slice a.d.a a.d.n a.d.c] ∧ At X (B + 1) #[.bool b.n.neg, .slice b.n.a b.n.n b.n.c, .bool b.d.neg, .slice b.d.a b.d.n b.d.c]) ∧ Ext V X ∧ IsI X g1 gg ∧ IsI X g2 hh ∧ Own X G0 2 ∧ Own X G1 2) ∧ At X G0 #[.bool g1.neg, .slice g1.a g1.n g1.c]) ⟨⟨hHeld, ext_put2 hE b0 _ _ _ _, hg1.keep (IK.put2 o0 _ _ _ _), hg2.keep (IK.put2 o0 _ _ _ _), own_put2 o0 _ _ _ _, own_put2 o1 _ _ _ _⟩, At.mk2 (put2_cells o0 _ _).1 (put2_cells o0 _ _).2⟩ ?_; clear hHeld hS hE hg1 hg2 o0 o1; rintro X ⟨⟨hS, hE, hg1, hg2, o0, o1⟩, z0⟩; have hHeld := hS; refine consL (i := 13) (by kernel_rfl) rfl (fun K hK => ?_); go_simp; refine hK.out _ _ ?_ (fun hHeld => ?_); rotate_left; clear hK K; rotate_right; (focus ((try dsimp only); exact kept)); (try simp only [Act.put, List.setIfInBounds_toArray, List.set_cons_zero, List.set_cons_succ]); refine wpAnyH_gen (fun X => ((Ext w X ∧ At X B #[.bool a.n.neg, .slice a.n.a a.n.n a.n.c, .bool a.d.neg, .slice a.d.a a.d.n a.d.c] ∧ At X (B + 1) #[.bool b.n.neg, .slice b.n.a b.n.n b.n.c, .bool b.d.neg, .slice b.d.a b.d.n b.d.c]) ∧ Ext V X ∧ IsI X g1 gg ∧ IsI X g2 hh ∧ Own X G0 2 ∧ Own X G1 2) ∧ At X G0 #[.bool g1.neg, .slice g1.a g1.n g1.c] ∧ At X G1 #[.bool g2.neg, .slice g2.a g2.n g2.c]) ⟨⟨hHeld, ext_put2 hE b1 _ _ _ _, hg1.keep (IK.put2 o1 _ _ _ _), hg2.keep (IK.put2 o1 _ _ _ _), own_put2 o0 _ _ _ _, own_put2 o1 _ _ _ _⟩, ⟨At.set (At.set z0 n01) n01, At.mk2 (put2_cells o1 _ _).1 (put2_cells o1 _ _).2⟩⟩ ?_; clear hHeld hS hE hg1 hg2 o0 o1; rintro X ⟨⟨hS, hE, hg1, hg2, o0, o1⟩, ⟨z0, z1⟩⟩; have hHeld := hS; refine doneL (by kernel_rfl) ?_; rw [hq0]; go_wp2_with fail; go_meet; exact ⟨G0, G1, g1, g2, rfl, rfl, hE, hg1, hg2, by omega, by omega, z0, z1⟩
  have st4_0 : ∀ (W : World) (d1 : IV) (g1 : IV) (d2 : IV) (g2 : IV) (G0 : Nat), Ext w W ∧ At W B #[.bool a.n.neg, .slice a.n.a a.n.n a.n.c, .bool a.d.neg, .slice a.d.a a.d.n a.d.c] ∧ At W (B + 1) #[.bool b.n.neg, .slice b.n.a b.n.n b.n.c, .bool b.d.neg, .slice b.d.a b.d.n b.d.c] → Ext V W → IsI W d1 s → IsI W g1 gg → IsI W d2 q → IsI W g2 hh → Own W G0 2 → V.heap.size ≤ G0 → wpAnyH Try.prog .any ops q0 (fun w' => Ext w w' ∧ At w' B #[.bool a.n.neg, .slice a.n.a a.n.n a.n.c, .bool a.d.neg, .slice a.d.a a.d.n a.d.c] ∧ At w' (B + 1) #[.bool b.n.neg, .slice b.n.a b.n.n b.n.c, .bool b.d.neg, .slice b.d.a b.d.n b.d.c]) 3 #[true, true, true, true, true, true, true, true, true, true, true, false, false, false] ⟨#[a.v, b.v, .pointer (some ⟨B, 0, none⟩), .pointer (some ⟨B + 1, 0, none⟩), .pointer (some ⟨B + 1 + 1, 0, none⟩), .int .i64 0, .pointer (some ⟨G0, 0, none⟩), undef, undef, undef, undef, undef, .pointer (some ⟨B, 0, none⟩), .agg #[.bool a.n.neg, .slice a.n.a a.n.n a.n.c], .agg #[.bool b.n.neg, .slice b.n.a b.n.n b.n.c, .bool b.d.neg, .slice b.d.a b.d.n b.d.c], d1.v, g1.v, .pointer (some ⟨B + 1, 0, none⟩), .agg #[.bool b.n.neg, .slice b.n.a b.n.n b.n.c], .agg #[.bool a.n.neg, .slice a.n.a a.n.n a.n.c, .bool a.d.neg, .slice a.d.a a.d.n a.d.c], d2.v, g2.v, undef, undef, undef, undef, undef, undef, undef, undef, undef, undef, undef, undef, undef, undef, undef, undef, undef, undef, undef, undef, undef, undef, undef, undef, undef, undef, undef, undef, undef, undef, undef, undef, undef], []⟩ W := by
   intro W d1 g1 d2 g2 G0 hS hE hd1 hg1 hd2 hg2 o0 b0
   have lB := hS.2.2.lt (by simp)
   have sE := hE.size
   have l0 := o0.lt (by omega)
   rw [hops]
   refine wpAnyH_ready (rs := [11]) (by kernel_rfl) (by simp) ?_
   refine consR (i := 11) rfl (fun K hK => ?_) ?_
   ·go_simp
    have hx := (Ext.refl W).alloc (.cells #[.bool false, .slice none 0 0] 56)
    refine hK.out _ _ ⟨hS.1.trans hx, At.ext hx hS.2.1 (by simp), At.ext hx hS.2.2 (by simp)⟩ (fun hHeld => ?_)
    (try simp only [Act.put, List.setIfInBounds_toArray, List.set_cons_zero, List.set_cons_succ])
    rw [← hops]
    exact wpAnyH_listed (by kernel_rfl) (st4_01 _ _ _ _ _ _ _ hHeld (hE.trans hx) (hd1.keep hx.ik) (hg1.keep hx.ik) (hd2.keep hx.ik) (hg2.keep hx.ik) (o0.ext hx (by omega)) (by omega) ((Blk.at #[.bool false, .slice none 0 0] 56 rfl).own 2 (by simp) noIntW) (by omega) (by omega))
   exact AllReadyH.nil
  have st4_1 : ∀ (W : World) (d1 : IV) (g1 : IV) (d2 : IV) (g2 : IV) (G1 : Nat), Ext w W ∧ At W B #[.bool a.n.neg, .slice a.n.a a.n.n a.n.c, .bool a.d.neg, .slice a.d.a a.d.n a.d.c] ∧ At W (B + 1) #[.bool b.n.neg, .slice b.n.a b.n.n b.n.c, .bool b.d.neg, .slice b.d.a b.d.n b.d.c] → Ext V W → IsI W d1 s → IsI W g1 gg → IsI W d2 q → IsI W g2 hh → Own W G1 2 → V.heap.size ≤ G1 → wpAnyH Try.prog .any ops q0 (fun w' => Ext w w' ∧ At w' B #[.bool a.n.neg, .slice a.n.a a.n.n a.n.c, .bool a.d.neg, .slice a.d.a a.d.n a.d.c] ∧ At w' (B + 1) #[.bool b.n.neg, .slice b.n.a b.n.n b.n.c, .bool b.d.neg, .slice b.d.a b.d.n b.d.c]) 3 #[true, true, true, true, true, true, true, true, true, true, false, true, false, false] ⟨#[a.v, b.v, .pointer (some ⟨B, 0, none⟩), .pointer (some ⟨B + 1, 0, none⟩), .pointer (some ⟨B + 1 + 1, 0, none⟩), .int .i64 0, undef, .pointer (some ⟨G1, 0, none⟩), undef, undef, undef, undef, .pointer (some ⟨B, 0, none⟩), .agg #[.bool a.n.neg, .slice a.n.a a.n.n a.n.c], .agg #[.bool b.n.neg, .slice b.n.a b.n.n b.n.c, .bool b.d.neg, .slice b.d.a b.d.n b.d.c], d1.v, g1.v, .pointer (some ⟨B + 1, 0, none⟩), .agg #[.bool b.n.neg, .slice b.n.a b.n.n b.n.c], .agg #[.bool a.n.neg, .slice a.n.a a.n.n a.n.c, .bool a.d.neg, .slice a.d.a a.d.n a.d.c], d2.v, g2.v, undef, undef, undef, undef, undef, undef, undef, undef, undef, undef, undef, undef, undef, undef, undef, undef, undef, undef, undef, undef, undef, undef, undef, undef, undef, undef, undef, undef, undef, undef, undef, undef, undef], []⟩ W := by
   intro W d1 g1 d2 g2 G1 hS hE hd1 hg1 hd2 hg2 o1 b1
   have lB := hS.2.2.lt (by simp)
   have sE := hE.size
   have l1 := o1.lt (by omega)
   rw [hops]
   refine wpAnyH_ready (rs := [10]) (by kernel_rfl) (by simp) ?_
   refine consR (i := 10) rfl (fun K hK => ?_) ?_
   ·go_simp
    have hx := (Ext.refl W).alloc (.cells #[.bool false, .slice none 0 0] 56)
    refine hK.out _ _ ⟨hS.1.trans hx, At.ext hx hS.2.1 (by simp), At.ext hx hS.2.2 (by simp)⟩ (fun hHeld => ?_)
    (try simp only [Act.put, List.setIfInBounds_toArray, List.set_cons_zero, List.set_cons_succ])
    rw [← hops]
    exact wpAnyH_listed (by kernel_rfl) (st4_01 _ _ _ _ _ _ _ hHeld (hE.trans hx) (hd1.keep hx.ik) (hg1.keep hx.ik) (hd2.keep hx.ik) (hg2.keep hx.ik) ((Blk.at #[.bool false, .slice none 0 0] 56 rfl).own 2 (by simp) noIntW) (by omega) (o1.ext hx (by omega)) (by omega) (by omega))
   exact AllReadyH.nil
  have st3_01 : ∀ (W : World) (d1 : IV) (g1 : IV) (d2 : IV) (G0 : Nat) (G1 : Nat), Ext w W ∧ At W B #[.bool a.n.neg, .slice a.n.a a.n.n a.n.c, .bool a.d.neg, .slice a.d.a a.d.n a.d.c] ∧ At W (B + 1) #[.bool b.n.neg, .slice b.n.a b.n.n b.n.c, .bool b.d.neg, .slice b.d.a b.d.n b.d.c] → Ext V W → IsI W d1 s → IsI W g1 gg → IsI W d2 q → Own W G0 2 → V.heap.size ≤ G0 → Own W G1 2 → V.heap.size ≤ G1 → G0 ≠ G1 → wpAnyH Try.prog .any ops q0 (fun w' => Ext w w' ∧ At w' B #[.bool a.n.neg, .slice a.n.a a.n.n a.n.c, .bool a.d.neg, .slice a.d.a a.d.n a.d.c] ∧ At w' (B + 1) #[.bool b.n.neg, .slice b.n.a b.n.n b.n.c, .bool b.d.neg, .slice b.d.a b.d.n b.d.c]) 3 #[true, true, true, true, true, true, true, true, true, false, true, true, false, false] ⟨#[a.v, b.v, .pointer (some ⟨B, 0, none⟩), .pointer (some ⟨B + 1, 0, none⟩), .pointer (some ⟨B + 1 + 1, 0, none⟩), .int .i64 0, .pointer (some ⟨G0, 0, none⟩), .pointer (some ⟨G1, 0, none⟩), undef, undef, undef, undef, .pointer (some ⟨B, 0, none⟩), .agg #[.bool a.n.neg, .slice a.n.a a.n.n a.n.c], .agg #[.bool b.n.neg, .slice b.n.a b.n.n b.n.c, .bool b.d.neg, .slice b.d.a b.d.n b.d.c], d1.v, g1.v, .pointer (some ⟨B + 1, 0, none⟩), .agg #[.bool b.n.neg, .slice b.n.a b.n.n b.n.c], .agg #[.bool a.n.neg, .slice a.n.a a.n.n a.n.c, .bool a.d.neg, .slice a.d.a a.d.n a.d.c], d2.v, undef, undef, undef, undef, undef, undef, undef, undef, undef, undef, undef, undef, undef, undef, undef, undef, undef, undef, undef, undef, undef, undef, undef, undef, undef, undef, undef, undef, undef, undef, undef, undef, undef, undef], []⟩ W := by
   intro W d1 g1 d2 G0 G1 hS hE hd1 hg1 hd2 o0 b0 o1 b1 n01
   have lB := hS.2.2.lt (by simp)
   have sE := hE.size
   have l0 := o0.lt (by omega)
   have l1 := o1.lt (by omega)
   rw [hops]
   refine wpAnyH_ready (rs := [9]) (by kernel_rfl) (by simp) ?_
   refine consR (i := 9) rfl (fun K hK => ?_) ?_
   ·go_simp
    go_at_call 50
    refine (Gcd_c b.n d2 r q _ (HB.out.num.keep hS.1.ik) hd2).mono ?_
    rw [HHH.out]
    rintro e W2 ⟨t, rfl, ht, hx⟩
    have sx := hx.size
    go_wp2_with fail
    refine hK.out _ _ ⟨hS.1.trans hx, At.ext hx hS.2.1 (by simp), At.ext hx hS.2.2 (by simp)⟩ (fun hHeld => ?_)
    (try simp only [Act.put, List.setIfInBounds_toArray, List.set_cons_zero, List.set_cons_succ])
    rw [← hops]
    exact wpAnyH_listed (by kernel_rfl) (st4_01 _ _ _ _ _ _ _ hHeld (hE.trans hx) (hd1.keep hx.ik) (hg1.keep hx.ik) (hd2.keep hx.ik) ht (o0.ext hx (by omega)) (by omega) (o1.ext hx (by omega)) (by omega) n01)
   exact AllReadyH.nil
  have st4_n : ∀ (W : World) (d1 : IV) (g1 : IV) (d2 : IV) (g2 : IV), Ext w W ∧ At W B #[.bool a.n.neg, .slice a.n.a a.n.n a.n.c, .bool a.d.neg, .slice a.d.a a.d.n a.d.c] ∧ At W (B + 1) #[.bool b.n.neg, .slice b.n.a b.n.n b.n.c, .bool b.d.neg, .slice b.d.a b.d.n b.d.c] → Ext V W → IsI W d1 s → IsI W g1 gg → IsI W d2 q → IsI W g2 hh → wpAnyH Try.prog .any ops q0 (fun w' => Ext w w' ∧ At w' B #[.bool a.n.neg, .slice a.n.a a.n.n a.n.c, .bool a.d.neg, .slice a.d.a a.d.n a.d.c] ∧ At w' (B + 1) #[.bool b.n.neg, .slice b.n.a b.n.n b.n.c, .bool b.d.neg, .slice b.d.a b.d.n b.d.c]) 4 #[true, true, true, true, true, true, true, true, true, true, false, false, false, false] ⟨#[a.v, b.v, .pointer (some ⟨B, 0, none⟩), .pointer (some ⟨B + 1, 0, none⟩), .pointer (some ⟨B + 1 + 1, 0, none⟩), .int .i64 0, undef, undef, undef, undef, undef, undef, .pointer (some ⟨B, 0, none⟩), .agg #[.bool a.n.neg, .slice a.n.a a.n.n a.n.c], .agg #[.bool b.n.neg, .slice b.n.a b.n.n b.n.c, .bool b.d.neg, .slice b.d.a b.d.n b.d.c], d1.v, g1.v, .pointer (some ⟨B + 1, 0, none⟩), .agg #[.bool b.n.neg, .slice b.n.a b.n.n b.n.c], .agg #[.bool a.n.neg, .slice a.n.a a.n.n a.n.c, .bool a.d.neg, .slice a.d.a a.d.n a.d.c], d2.v, g2.v, undef, undef, undef, undef, undef, undef, undef, undef, undef, undef, undef, undef, undef, undef, undef, undef, undef, undef, undef, undef, undef, undef, undef, undef, undef, undef, undef, undef, undef, undef, undef, undef, undef], []⟩ W := by
   intro W d1 g1 d2 g2 hS hE hd1 hg1 hd2 hg2
   have lB := hS.2.2.lt (by simp)
   have sE := hE.size
   rw [hops]
   refine wpAnyH_ready (rs := [10, 11]) (by kernel_rfl) (by simp) ?_
   refine consR (i := 10) rfl (fun K hK => ?_) ?_
   ·go_simp
    have hx := (Ext.refl W).alloc (.cells #[.bool false, .slice none 0 0] 56)
    refine hK.out _ _ ⟨hS.1.trans hx, At.ext hx hS.2.1 (by simp), At.ext hx hS.2.2 (by simp)⟩ (fun hHeld => ?_)
    (try simp only [Act.put, List.setIfInBounds_toArray, List.set_cons_zero, List.set_cons_succ])
    rw [← hops]
    exact wpAnyH_listed (by kernel_rfl) (st4_0 _ _ _ _ _ _ hHeld (hE.trans hx) (hd1.keep hx.ik) (hg1.keep hx.ik) (hd2.keep hx.ik) (hg2.keep hx.ik) ((Blk.at #[.bool false, .slice none 0 0] 56 rfl).own 2 (by simp) noIntW) (by omega))
   refine consR (i := 11) rfl (fun K hK => ?_) ?_
   ·go_simp
    have hx := (Ext.refl W).alloc (.cells #[.bool false, .slice none 0 0] 56)
    refine hK.out _ _ ⟨hS.1.trans hx, At.ext hx hS.2.1 (by simp), At.ext hx hS.2.2 (by simp)⟩ (fun hHeld => ?_)
    (try simp only [Act.put, List.setIfInBounds_toArray, List.set_cons_zero, List.set_cons_succ])
    rw [← hops]
    exact wpAnyH_listed (by kernel_rfl) (st4_1 _ _ _ _ _ _ hHeld (hE.trans hx) (hd1.keep hx.ik) (hg1.keep hx.ik) (hd2.keep hx.ik) (hg2.keep hx.ik) ((Blk.at #[.bool false, .slice none 0 0] 56 rfl).own 2 (by simp) noIntW) (by omega))
   exact AllReadyH.nil
  have st3_0 : ∀ (W : World) (d1 : IV) (g1 : IV) (d2 : IV) (G0 : Nat), Ext w W ∧ At W B #[.bool a.n.neg, .slice a.n.a a.n.n a.n.c, .bool a.d.neg, .slice a.d.a a.d.n a.d.c] ∧ At W (B + 1) #[.bool b.n.neg, .slice b.n.a b.n.n b.n.c, .bool b.d.neg, .slice b.d.a b.d.n b.d.c] → Ext V W → IsI W d1 s → IsI W g1 gg → IsI W d2 q → Own W G0 2 → V.heap.size ≤ G0 → wpAnyH Try.prog .any ops q0 (fun w' => Ext w w' ∧ At w' B #[.bool a.n.neg, .slice a.n.a a.n.n a.n.c, .bool a.d.neg, .slice a.d.a a.d.n a.d.c] ∧ At w' (B + 1) #[.bool b.n.neg, .slice b.n.a b.n.n b.n.c, .bool b.d.neg, .slice b.d.a b.d.n b.d.c]) 4 #[true, true, true, true, true, true, true, true, true, false, true, false, false, false] ⟨#[a.v, b.v, .pointer (some ⟨B, 0, none⟩), .pointer (some ⟨B + 1, 0, none⟩), .pointer (some ⟨B + 1 + 1, 0, none⟩), .int .i64 0, .pointer (some ⟨G0, 0, none⟩), undef, undef, undef, undef, undef, .pointer (some ⟨B, 0, none⟩), .agg #[.bool a.n.neg, .slice a.n.a a.n.n a.n.c], .agg #[.bool b.n.neg, .slice b.n.a b.n.n b.n.c, .bool b.d.neg, .slice b.d.a b.d.n b.d.c], d1.v, g1.v, .pointer (some ⟨B + 1, 0, none⟩), .agg #[.bool b.n.neg, .slice b.n.a b.n.n b.n.c], .agg #[.bool a.n.neg, .slice a.n.a a.n.n a.n.c, .bool a.d.neg, .slice a.d.a a.d.n a.d.c], d2.v, undef, undef, undef, undef, undef, undef, undef, undef, undef, undef, undef, undef, undef, undef, undef, undef, undef, undef, undef, undef, undef, undef, undef, undef, undef, undef, undef, undef, undef, undef, undef, undef, undef, undef], []⟩ W := by
   intro W d1 g1 d2 G0 hS hE hd1 hg1 hd2 o0 b0
   have lB := hS.2.2.lt (by simp)
   have sE := hE.size
   have l0 := o0.lt (by omega)
   rw [hops]
   refine wpAnyH_ready (rs := [9, 11]) (by kernel_rfl) (by simp) ?_
   refine consR (i := 9) rfl (fun K hK => ?_) ?_
   ·go_simp
    go_at_call 50
    refine (Gcd_c b.n d2 r q _ (HB.out.num.keep hS.1.ik) hd2).mono ?_
    rw [HHH.out]
    rintro e W2 ⟨t, rfl, ht, hx⟩
    have sx := hx.size
    go_wp2_with fail
    refine hK.out _ _ ⟨hS.1.trans hx, At.ext hx hS.2.1 (by simp), At.ext hx hS.2.2 (by simp)⟩ (fun hHeld => ?_)
    (try simp only [Act.put, List.setIfInBounds_toArray, List.set_cons_zero, List.set_cons_succ])
    rw [← hops]
    exact wpAnyH_listed (by kernel_rfl) (st4_0 _ _ _ _ _ _ hHeld (hE.trans hx) (hd1.keep hx.ik) (hg1.keep hx.ik) (hd2.keep hx.ik) ht (o0.ext hx (by omega)) (by omega))
   refine consR (i := 11) rfl (fun K hK => ?_) ?_
   ·go_simp
    have hx := (Ext.refl W).alloc (.cells #[.bool false, .slice none 0 0] 56)
    refine hK.out _ _ ⟨hS.1.trans hx, At.ext hx hS.2.1 (by simp), At.ext hx hS.2.2 (by simp)⟩ (fun hHeld => ?_)
    (try simp only [Act.put, List.setIfInBounds_toArray, List.set_cons_zero, List.set_cons_succ])
    rw [← hops]
    exact wpAnyH_listed (by kernel_rfl) (st3_01 _ _ _ _ _ _ hHeld (hE.trans hx) (hd1.keep hx.ik) (hg1.keep hx.ik) (hd2.keep hx.ik) (o0.ext hx (by omega)) (by omega) ((Blk.at #[.bool false, .slice none 0 0] 56 rfl).own 2 (by simp) noIntW) (by omega) (by omega))
   exact AllReadyH.nil
  have st3_1 : ∀ (W : World) (d1 : IV) (g1 : IV) (d2 : IV) (G1 : Nat), Ext w W ∧ At W B #[.bool a.n.neg, .slice a.n.a a.n.n a.n.c, .bool a.d.neg, .slice a.d.a a.d.n a.d.c] ∧ At W (B + 1) #[.bool b.n.neg, .slice b.n.a b.n.n b.n.c, .bool b.d.neg, .slice b.d.a b.d.n b.d.c] → Ext V W → IsI W d1 s → IsI W g1 gg → IsI W d2 q → Own W G1 2 → V.heap.size ≤ G1 → wpAnyH Try.prog .any ops q0 (fun w' => Ext w w' ∧ At w' B #[.bool a.n.neg, .slice a.n.a a.n.n a.n.c, .bool a.d.neg, .slice a.d.a a.d.n a.d.c] ∧ At w' (B + 1) #[.bool b.n.neg, .slice b.n.a b.n.n b.n.c, .bool b.d.neg, .slice b.d.a b.d.n b.d.c]) 4 #[true, true, true, true, true, true, true, true, true, false, false, true, false, false] ⟨#[a.v, b.v, .pointer (some ⟨B, 0, none⟩), .pointer (some ⟨B + 1, 0, none⟩), .pointer (some ⟨B + 1 + 1, 0, none⟩), .int .i64 0, undef, .pointer (some ⟨G1, 0, none⟩), undef, undef, undef, undef, .pointer (some ⟨B, 0, none⟩), .agg #[.bool a.n.neg, .slice a.n.a a.n.n a.n.c], .agg #[.bool b.n.neg, .slice b.n.a b.n.n b.n.c, .bool b.d.neg, .slice b.d.a b.d.n b.d.c], d1.v, g1.v, .pointer (some ⟨B + 1, 0, none⟩), .agg #[.bool b.n.neg, .slice b.n.a b.n.n b.n.c], .agg #[.bool a.n.neg, .slice a.n.a a.n.n a.n.c, .bool a.d.neg, .slice a.d.a a.d.n a.d.c], d2.v, undef, undef, undef, undef, undef, undef, undef, undef, undef, undef, undef, undef, undef, undef, undef, undef, undef, undef, undef, undef, undef, undef, undef, undef, undef, undef, undef, undef, undef, undef, undef, undef, undef, undef], []⟩ W := by
   intro W d1 g1 d2 G1 hS hE hd1 hg1 hd2 o1 b1
   have lB := hS.2.2.lt (by simp)
   have sE := hE.size
   have l1 := o1.lt (by omega)
   rw [hops]
   refine wpAnyH_ready (rs := [9, 10]) (by kernel_rfl) (by simp) ?_
   refine consR (i := 9) rfl (fun K hK => ?_) ?_
   ·go_simp
    go_at_call 50
    refine (Gcd_c b.n d2 r q _ (HB.out.num.keep hS.1.ik) hd2).mono ?_
    rw [HHH.out]
    rintro e W2 ⟨t, rfl, ht, hx⟩
    have sx := hx.size
    go_wp2_with fail
    refine hK.out _ _ ⟨hS.1.trans hx, At.ext hx hS.2.1 (by simp), At.ext hx hS.2.2 (by simp)⟩ (fun hHeld => ?_)
    (try simp only [Act.put, List.setIfInBounds_toArray, List.set_cons_zero, List.set_cons_succ])
    rw [← hops]
    exact wpAnyH_listed (by kernel_rfl) (st4_1 _ _ _ _ _ _ hHeld (hE.trans hx) (hd1.keep hx.ik) (hg1.keep hx.ik) (hd2.keep hx.ik) ht (o1.ext hx (by omega)) (by omega))
   refine consR (i := 10) rfl (fun K hK => ?_) ?_
   ·go_simp
    have hx := (Ext.refl W).alloc (.cells #[.bool false, .slice none 0 0] 56)
    refine hK.out _ _ ⟨hS.1.trans hx, At.ext hx hS.2.1 (by simp), At.ext hx hS.2.2 (by simp)⟩ (fun hHeld => ?_)
    (try simp only [Act.put, List.setIfInBounds_toArray, List.set_cons_zero, List.set_cons_succ])
    rw [← hops]
    exact wpAnyH_listed (by kernel_rfl) (st3_01 _ _ _ _ _ _ hHeld (hE.trans hx) (hd1.keep hx.ik) (hg1.keep hx.ik) (hd2.keep hx.ik) ((Blk.at #[.bool false, .slice none 0 0] 56 rfl).own 2 (by simp) noIntW) (by omega) (o1.ext hx (by omega)) (by omega) (by omega))
   exact AllReadyH.nil
  have st2_01 : ∀ (W : World) (d1 : IV) (g1 : IV) (G0 : Nat) (G1 : Nat), Ext w W ∧ At W B #[.bool a.n.neg, .slice a.n.a a.n.n a.n.c, .bool a.d.neg, .slice a.d.a a.d.n a.d.c] ∧ At W (B + 1) #[.bool b.n.neg, .slice b.n.a b.n.n b.n.c, .bool b.d.neg, .slice b.d.a b.d.n b.d.c] → Ext V W → IsI W d1 s → IsI W g1 gg → Own W G0 2 → V.heap.size ≤ G0 → Own W G1 2 → V.heap.size ≤ G1 → G0 ≠ G1 → wpAnyH Try.prog .any ops q0 (fun w' => Ext w w' ∧ At w' B #[.bool a.n.neg, .slice a.n.a a.n.n a.n.c, .bool a.d.neg, .slice a.d.a a.d.n a.d.c] ∧ At w' (B + 1) #[.bool b.n.neg, .slice b.n.a b.n.n b.n.c, .bool b.d.neg, .slice b.d.a b.d.n b.d.c]) 4 #[true, true, true, true, true, true, true, true, false, false, true, true, false, false] ⟨#[a.v, b.v, .pointer (some ⟨B, 0, none⟩), .pointer (some ⟨B + 1, 0, none⟩), .pointer (some ⟨B + 1 + 1, 0, none⟩), .int .i64 0, .pointer (some ⟨G0, 0, none⟩), .pointer (some ⟨G1, 0, none⟩), undef, undef, undef, undef, .pointer (some ⟨B, 0, none⟩), .agg #[.bool a.n.neg, .slice a.n.a a.n.n a.n.c], .agg #[.bool b.n.neg, .slice b.n.a b.n.n b.n.c, .bool b.d.neg, .slice b.d.a b.d.n b.d.c], d1.v, g1.v, .pointer (some ⟨B + 1, 0, none⟩), .agg #[.bool b.n.neg, .slice b.n.a b.n.n b.n.c], .agg #[.bool a.n.neg, .slice a.n.a a.n.n a.n.c, .bool a.d.neg, .slice a.d.a a.d.n a.d.c], undef, undef, undef, undef, undef, undef, undef, undef, undef, undef, undef, undef, undef, undef, undef, undef, undef, undef, undef, undef, undef, undef, undef, undef, undef, undef, undef, undef, undef, undef, undef, undef, undef, undef, undef], []⟩ W := by
   intro W d1 g1 G0 G1 hS hE hd1 hg1 o0 b0 o1 b1 n01
   have lB := hS.2.2.lt (by simp)
   have sE := hE.size
   have l0 := o0.lt (by omega)
   have l1 := o1.lt (by omega)
   rw [hops]
   refine wpAnyH_ready (rs := [8]) (by kernel_rfl) (by simp) ?_
   refine consR (i := 8) rfl (fun K hK => ?_) ?_
   ·go_simp
    go_at_call 56
    refine (Den_c a p q _ (HA.out.keep hS.1.ik)).mono ?_
    rintro e W2 ⟨t, rfl, ht, hx⟩
    have sx := hx.size
    go_wp2_with fail
    refine hK.out _ _ ⟨hS.1.trans hx, At.ext hx hS.2.1 (by simp), At.ext hx hS.2.2 (by simp)⟩ (fun hHeld => ?_)
    (try simp only [Act.put, List.setIfInBounds_toArray, List.set_cons_zero, List.set_cons_succ])
    rw [← hops]
    exact wpAnyH_listed (by kernel_rfl) (st3_01 _ _ _ _ _ _ hHeld (hE.trans hx) (hd1.keep hx.ik) (hg1.keep hx.ik) ht (o0.ext hx (by omega)) (by omega) (o1.ext hx (by omega)) (by omega) n01)
   exact AllReadyH.nil
  have st3_n : ∀ (W : World) (d1 : IV) (g1 : IV) (d2 : IV), Ext w W ∧ At W B #[.bool a.n.neg, .slice a.n.a a.n.n a.n.c, .bool a.d.neg, .slice a.d.a a.d.n a.d.c] ∧ At W (B + 1) #[.bool b.n.neg, .slice b.n.a b.n.n b.n.c, .bool b.d.neg, .slice b.d.a b.d.n b.d.c] → Ext V W → IsI W d1 s → IsI W g1 gg → IsI W d2 q → wpAnyH Try.prog .any ops q0 (fun w' => Ext w w' ∧ At w' B #[.bool a.n.neg, .slice a.n.a a.n.n a.n.c, .bool a.d.neg, .slice a.d.a a.d.n a.d.c] ∧ At w' (B + 1) #[.bool b.n.neg, .slice b.n.a b.n.n b.n.c, .bool b.d.neg, .slice b.d.a b.d.n b.d.c]) 5 #[true, true, true, true, true, true, true, true, true, false, false, false, false, false] ⟨#[a.v, b.v, .pointer (some ⟨B, 0, none⟩), .pointer (some ⟨B + 1, 0, none⟩), .pointer (some ⟨B + 1 + 1, 0, none⟩), .int .i64 0, undef, undef, undef, undef, undef, undef, .pointer (some ⟨B, 0, none⟩), .agg #[.bool a.n.neg, .slice a.n.a a.n.n a.n.c], .agg #[.bool b.n.neg, .slice b.n.a b.n.n b.n.c, .bool b.d.neg, .slice b.d.a b.d.n b.d.c], d1.v, g1.v, .pointer (some ⟨B + 1, 0, none⟩), .agg #[.bool b.n.neg, .slice b.n.a b.n.n b.n.c], .agg #[.bool a.n.neg, .slice a.n.a a.n.n a.n.c, .bool a.d.neg, .slice a.d.a a.d.n a.d.c], d2.v, undef, undef, undef, undef, undef, undef, undef, undef, undef, undef, undef, undef, undef, undef, undef, undef, undef, undef, undef, undef, undef, undef, undef, undef, undef, undef, undef, undef, undef, undef, undef, undef, undef, undef], []⟩ W := by
   intro W d1 g1 d2 hS hE hd1 hg1 hd2
   have lB := hS.2.2.lt (by simp)
   have sE := hE.size
   rw [hops]
   refine wpAnyH_ready (rs := [9, 10, 11]) (by kernel_rfl) (by simp) ?_
   refine consR (i := 9) rfl (fun K hK => ?_) ?_
   ·go_simp
    go_at_call 50
    refine (Gcd_c b.n d2 r q _ (HB.out.num.keep hS.1.ik) hd2).mono ?_
    rw [HHH.out]
    rintro e W2 ⟨t, rfl, ht, hx⟩
    have sx := hx.size
    go_wp2_with fail
    refine hK.out _ _ ⟨hS.1.trans hx, At.ext hx hS.2.1 (by simp), At.ext hx hS.2.2 (by simp)⟩ (fun hHeld => ?_)
    (try simp only [Act.put, List.setIfInBounds_toArray, List.set_cons_zero, List.set_cons_succ])
    rw [← hops]
    exact wpAnyH_listed (by kernel_rfl) (st4_n _ _ _ _ _ hHeld (hE.trans hx) (hd1.keep hx.ik) (hg1.keep hx.ik) (hd2.keep hx.ik) ht)
   refine consR (i := 10) rfl (fun K hK => ?_) ?_
   ·go_simp
    have hx := (Ext.refl W).alloc (.cells #[.bool false, .slice none 0 0] 56)
    refine hK.out _ _ ⟨hS.1.trans hx, At.ext hx hS.2.1 (by simp), At.ext hx hS.2.2 (by simp)⟩ (fun hHeld => ?_)
    (try simp only [Act.put, List.setIfInBounds_toArray, List.set_cons_zero, List.set_cons_succ])
    rw [← hops]
    exact wpAnyH_listed (by kernel_rfl) (st3_0 _ _ _ _ _ hHeld (hE.trans hx) (hd1.keep hx.ik) (hg1.keep hx.ik) (hd2.keep hx.ik) ((Blk.at #[.bool false, .slice none 0 0] 56 rfl).own 2 (by simp) noIntW) (by omega))
   refine consR (i := 11) rfl (fun K hK => ?_) ?_
   ·go_simp
    have hx := (Ext.refl W).alloc (.cells #[.bool false, .slice none 0 0] 56)
    refine hK.out _ _ ⟨hS.1.trans hx, At.ext hx hS.2.1 (by simp), At.ext hx hS.2.2 (by simp)⟩ (fun hHeld => ?_)
    (try simp only [Act.put, List.setIfInBounds_toArray, List.set_cons_zero, List.set_cons_succ])
    rw [← hops]
    exact wpAnyH_listed (by kernel_rfl) (st3_1 _ _ _ _ _ hHeld (hE.trans hx) (hd1.keep hx.ik) (hg1.keep hx.ik) (hd2.keep hx.ik) ((Blk.at #[.bool false, .slice none 0 0] 56 rfl).own 2 (by simp) noIntW) (by omega))
   exact AllReadyH.nil
  have st2_0 : ∀ (W : World) (d1 : IV) (g1 : IV) (G0 : Nat), Ext w W ∧ At W B #[.bool a.n.neg, .slice a.n.a a.n.n a.n.c, .bool a.d.neg, .slice a.d.a a.d.n a.d.c] ∧ At W (B + 1) #[.bool b.n.neg, .slice b.n.a b.n.n b.n.c, .bool b.d.neg, .slice b.d.a b.d.n b.d.c] → Ext V W → IsI W d1 s → IsI W g1 gg → Own W G0 2 → V.heap.size ≤ G0 → wpAnyH Try.prog .any ops q0 (fun w' => Ext w w' ∧ At w' B #[.bool a.n.neg, .slice a.n.a a.n.n a.n.c, .bool a.d.neg, .slice a.d.a a.d.n a.d.c] ∧ At w' (B + 1) #[.bool b.n.neg, .slice b.n.a b.n.n b.n.c, .bool b.d.neg, .slice b.d.a b.d.n b.d.c]) 5 #[true, true, true, true, true, true, true, true, false, false, true, false, false, false] ⟨#[a.v, b.v, .pointer (some ⟨B, 0, none⟩), .pointer (some ⟨B + 1, 0, none⟩), .pointer (some ⟨B + 1 + 1, 0, none⟩), .int .i64 0, .pointer (some ⟨G0, 0, none⟩), undef, undef, undef, undef, undef, .pointer (some ⟨B, 0, none⟩), .agg #[.bool a.n.neg, .slice a.n.a a.n.n a.n.c], .agg #[.bool b.n.neg, .slice b.n.a b.n.n b.n.c, .bool b.d.neg, .slice b.d.a b.d.n b.d.c], d1.v, g1.v, .pointer (some ⟨B + 1, 0, none⟩), .agg #[.bool b.n.neg, .slice b.n.a b.n.n b.n.c], .agg #[.bool a.n.neg, .slice a.n.a a.n.n a.n.c, .bool a.d.neg, .slice a.d.a a.d.n a.d.c], undef, undef, undef, undef, undef, undef, undef, undef, undef, undef, undef, undef, undef, undef, undef, undef, undef, undef, undef, undef, undef, undef, undef, undef, undef, undef, undef, undef, undef, undef, undef, undef, undef, undef, undef], []⟩ W := by
   intro W d1 g1 G0 hS hE hd1 hg1 o0 b0
   have lB := hS.2.2.lt (by simp)
   have sE := hE.size
   have l0 := o0.lt (by omega)
   rw [hops]
   refine wpAnyH_ready (rs := [8, 11]) (by kernel_rfl) (by simp) ?_
   refine consR (i := 8) rfl (fun K hK => ?_) ?_
   ·go_simp
    go_at_call 56
    refine (Den_c a p q _ (HA.out.keep hS.1.ik)).mono ?_
    rintro e W2 ⟨t, rfl, ht, hx⟩
    have sx := hx.size
    go_wp2_with fail
    refine hK.out _ _ ⟨hS.1.trans hx, At.ext hx hS.2.1 (by simp), At.ext hx hS.2.2 (by simp)⟩ (fun hHeld => ?_)
    (try simp only [Act.put, List.setIfInBounds_toArray, List.set_cons_zero, List.set_cons_succ])
    rw [← hops]
    exact wpAnyH_listed (by kernel_rfl) (st3_0 _ _ _ _ _ hHeld (hE.trans hx) (hd1.keep hx.ik) (hg1.keep hx.ik) ht (o0.ext hx (by omega)) (by omega))
   refine consR (i := 11) rfl (fun K hK => ?_) ?_
   ·go_simp
    have hx := (Ext.refl W).alloc (.cells #[.bool false, .slice none 0 0] 56)
    refine hK.out _ _ ⟨hS.1.trans hx, At.ext hx hS.2.1 (by simp), At.ext hx hS.2.2 (by simp)⟩ (fun hHeld => ?_)
    (try simp only [Act.put, List.setIfInBounds_toArray, List.set_cons_zero, List.set_cons_succ])
    rw [← hops]
    exact wpAnyH_listed (by kernel_rfl) (st2_01 _ _ _ _ _ hHeld (hE.trans hx) (hd1.keep hx.ik) (hg1.keep hx.ik) (o0.ext hx (by omega)) (by omega) ((Blk.at #[.bool false, .slice none 0 0] 56 rfl).own 2 (by simp) noIntW) (by omega) (by omega))
   exact AllReadyH.nil
  have st2_1 : ∀ (W : World) (d1 : IV) (g1 : IV) (G1 : Nat), Ext w W ∧ At W B #[.bool a.n.neg, .slice a.n.a a.n.n a.n.c, .bool a.d.neg, .slice a.d.a a.d.n a.d.c] ∧ At W (B + 1) #[.bool b.n.neg, .slice b.n.a b.n.n b.n.c, .bool b.d.neg, .slice b.d.a b.d.n b.d.c] → Ext V W → IsI W d1 s → IsI W g1 gg → Own W G1 2 → V.heap.size ≤ G1 → wpAnyH Try.prog .any ops q0 (fun w' => Ext w w' ∧ At w' B #[.bool a.n.neg, .slice a.n.a a.n.n a.n.c, .bool a.d.neg, .slice a.d.a a.d.n a.d.c] ∧ At w' (B + 1) #[.bool b.n.neg, .slice b.n.a b.n.n b.n.c, .bool b.d.neg, .slice b.d.a b.d.n b.d.c]) 5 #[true, true, true, true, true, true, true, true, false, false, false, true, false, false] ⟨#[a.v, b.v, .pointer (some ⟨B, 0, none⟩), .pointer (some ⟨B + 1, 0, none⟩), .pointer (some ⟨B + 1 + 1, 0, none⟩), .int .i64 0, undef, .pointer (some ⟨G1, 0, none⟩), undef, undef, undef, undef, .pointer (some ⟨B, 0, none⟩), .agg #[.bool a.n.neg, .slice a.n.a a.n.n a.n.c], .agg #[.bool b.n.neg, .slice b.n.a b.n.n b.n.c, .bool b.d.neg, .slice b.d.a b.d.n b.d.c], d1.v, g1.v, .pointer (some ⟨B + 1, 0, none⟩), .agg #[.bool b.n.neg, .slice b.n.a b.n.n b.n.c], .agg #[.bool a.n.neg, .slice a.n.a a.n.n a.n.c, .bool a.d.neg, .slice a.d.a a.d.n a.d.c], undef, undef, undef, undef, undef, undef, undef, undef, undef, undef, undef, undef, undef, undef, undef, undef, undef, undef, undef, undef, undef, undef, undef, undef, undef, undef, undef, undef, undef, undef, undef, undef, undef, undef, undef], []⟩ W := by
   intro W d1 g1 G1 hS hE hd1 hg1 o1 b1
   have lB := hS.2.2.lt (by simp)
   have sE := hE.size
   have l1 := o1.lt (by omega)
   rw [hops]
   refine wpAnyH_ready (rs := [8, 10]) (by kernel_rfl) (by simp) ?_
   refine consR (i := 8) rfl (fun K hK => ?_) ?_
   ·go_simp
    go_at_call 56
    refine (Den_c a p q _ (HA.out.keep hS.1.ik)).mono ?_
    rintro e W2 ⟨t, rfl, ht, hx⟩
    have sx := hx.size
    go_wp2_with fail
    refine hK.out _ _ ⟨hS.1.trans hx, At.ext hx hS.2.1 (by simp), At.ext hx hS.2.2 (by simp)⟩ (fun hHeld => ?_)
    (try simp only [Act.put, List.setIfInBounds_toArray, List.set_cons_zero, List.set_cons_succ])
    rw [← hops]
    exact wpAnyH_listed (by kernel_rfl) (st3_1 _ _ _ _ _ hHeld (hE.trans hx) (hd1.keep hx.ik) (hg1.keep hx.ik) ht (o1.ext hx (by omega)) (by omega))
   refine consR (i := 10) rfl (fun K hK => ?_) ?_
   ·go_simp
    have hx := (Ext.refl W).alloc (.cells #[.bool false, .slice none 0 0] 56)
    refine hK.out _ _ ⟨hS.1.trans hx, At.ext hx hS.2.1 (by simp), At.ext hx hS.2.2 (by simp)⟩ (fun hHeld => ?_)
    (try simp only [Act.put, List.setIfInBounds_toArray, List.set_cons_zero, List.set_cons_succ])
    rw [← hops]
    exact wpAnyH_listed (by kernel_rfl) (st2_01 _ _ _ _ _ hHeld (hE.trans hx) (hd1.keep hx.ik) (hg1.keep hx.ik) ((Blk.at #[.bool false, .slice none 0 0] 56 rfl).own 2 (by simp) noIntW) (by omega) (o1.ext hx (by omega)) (by omega) (by omega))
   exact AllReadyH.nil
  have st1_01 : ∀ (W : World) (d1 : IV) (G0 : Nat) (G1 : Nat), Ext w W ∧ At W B #[.bool a.n.neg, .slice a.n.a a.n.n a.n.c, .bool a.d.neg, .slice a.d.a a.d.n a.d.c] ∧ At W (B + 1) #[.bool b.n.neg, .slice b.n.a b.n.n b.n.c, .bool b.d.neg, .slice b.d.a b.d.n b.d.c] → Ext V W → IsI W d1 s → Own W G0 2 → V.heap.size ≤ G0 → Own W G1 2 → V.heap.size ≤ G1 → G0 ≠ G1 → wpAnyH Try.prog .any ops q0 (fun w' => Ext w w' ∧ At w' B #[.bool a.n.neg, .slice a.n.a a.n.n a.n.c, .bool a.d.neg, .slice a.d.a a.d.n a.d.c] ∧ At w' (B + 1) #[.bool b.n.neg, .slice b.n.a b.n.n b.n.c, .bool b.d.neg, .slice b.d.a b.d.n b.d.c]) 5 #[true, true, true, true, false, true, true, true, false, false, true, true, false, false] ⟨#[a.v, b.v, .pointer (some ⟨B, 0, none⟩), .pointer (some ⟨B + 1, 0, none⟩), .pointer (some ⟨B + 1 + 1, 0, none⟩), .int .i64 0, .pointer (some ⟨G0, 0, none⟩), .pointer (some ⟨G1, 0, none⟩), undef, undef, undef, undef, .pointer (some ⟨B, 0, none⟩), .agg #[.bool a.n.neg, .slice a.n.a a.n.n a.n.c], .agg #[.bool b.n.neg, .slice b.n.a b.n.n b.n.c, .bool b.d.neg, .slice b.d.a b.d.n b.d.c], d1.v, undef, .pointer (some ⟨B + 1, 0, none⟩), .agg #[.bool b.n.neg, .slice b.n.a b.n.n b.n.c], .agg #[.bool a.n.neg, .slice a.n.a a.n.n a.n.c, .bool a.d.neg, .slice a.d.a a.d.n a.d.c], undef, undef, undef, undef, undef, undef, undef, undef, undef, undef, undef, undef, undef, undef, undef, undef, undef, undef, undef, undef, undef, undef, undef, undef, undef, undef, undef, undef, undef, undef, undef, undef, undef, undef, undef], []⟩ W := by
   intro W d1 G0 G1 hS hE hd1 o0 b0 o1 b1 n01
   have lB := hS.2.2.lt (by simp)
   have sE := hE.size
   have l0 := o0.lt (by omega)
   have l1 := o1.lt (by omega)
   rw [hops]
   refine wpAnyH_ready (rs := [4]) (by kernel_rfl) (by simp) ?_
   refine consR (i := 4) rfl (fun K hK => ?_) ?_
   ·go_simp
    go_at_call 50
    refine (Gcd_c a.n d1 p s _ (HA.out.num.keep hS.1.ik) hd1).mono ?_
    rw [HGG.out]
    rintro e W2 ⟨t, rfl, ht, hx⟩
    have sx := hx.size
    go_wp2_with fail
    refine hK.out _ _ ⟨hS.1.trans hx, At.ext hx hS.2.1 (by simp), At.ext hx hS.2.2 (by simp)⟩ (fun hHeld => ?_)
    (try simp only [Act.put, List.setIfInBounds_toArray, List.set_cons_zero, List.set_cons_succ])
    rw [← hops]
    exact wpAnyH_listed (by kernel_rfl) (st2_01 _ _ _ _ _ hHeld (hE.trans hx) (hd1.keep hx.ik) ht (o0.ext hx (by omega)) (by omega) (o1.ext hx (by omega)) (by omega) n01)
   exact AllReadyH.nil
  have st2_n : ∀ (W : World) (d1 : IV) (g1 : IV), Ext w W ∧ At W B #[.bool a.n.neg, .slice a.n.a a.n.n a.n.c, .bool a.d.neg, .slice a.d.a a.d.n a.d.c] ∧ At W (B + 1) #[.bool b.n.neg, .slice b.n.a b.n.n b.n.c, .bool b.d.neg, .slice b.d.a b.d.n b.d.c] → Ext V W → IsI W d1 s → IsI W g1 gg → wpAnyH Try.prog .any ops q0 (fun w' => Ext w w' ∧ At w' B #[.bool a.n.neg, .slice a.n.a a.n.n a.n.c, .bool a.d.neg, .slice a.d.a a.d.n a.d.c] ∧ At w' (B + 1) #[.bool b.n.neg, .slice b.n.a b.n.n b.n.c, .bool b.d.neg, .slice b.d.a b.d.n b.d.c]) 6 #[true, true, true, true, true, true, true, true, false, false, false, false, false, false] ⟨#[a.v, b.v, .pointer (some ⟨B, 0, none⟩), .pointer (some ⟨B + 1, 0, none⟩), .pointer (some ⟨B + 1 + 1, 0, none⟩), .int .i64 0, undef, undef, undef, undef, undef, undef, .pointer (some ⟨B, 0, none⟩), .agg #[.bool a.n.neg, .slice a.n.a a.n.n a.n.c], .agg #[.bool b.n.neg, .slice b.n.a b.n.n b.n.c, .bool b.d.neg, .slice b.d.a b.d.n b.d.c], d1.v, g1.v, .pointer (some ⟨B + 1, 0, none⟩), .agg #[.bool b.n.neg, .slice b.n.a b.n.n b.n.c], .agg #[.bool a.n.neg, .slice a.n.a a.n.n a.n.c, .bool a.d.neg, .slice a.d.a a.d.n a.d.c], undef, undef, undef, undef, undef, undef, undef, undef, undef, undef, undef, undef, undef, undef, undef, undef, undef, undef, undef, undef, undef, undef, undef, undef, undef, undef, undef, undef, undef, undef, undef, undef, undef, undef, undef], []⟩ W := by
   intro W d1 g1 hS hE hd1 hg1
   have lB := hS.2.2.lt (by simp)
   have sE := hE.size
   rw [hops]
   refine wpAnyH_ready (rs := [8, 10, 11]) (by kernel_rfl) (by simp) ?_
   refine consR (i := 8) rfl (fun K hK => ?_) ?_
   ·go_simp
    go_at_call 56
    refine (Den_c a p q _ (HA.out.keep hS.1.ik)).mono ?_
    rintro e W2 ⟨t, rfl, ht, hx⟩
    have sx := hx.size
    go_wp2_with fail
    refine hK.out _ _ ⟨hS.1.trans hx, At.ext hx hS.2.1 (by simp), At.ext hx hS.2.2 (by simp)⟩ (fun hHeld => ?_)
    (try simp only [Act.put, List.setIfInBounds_toArray, List.set_cons_zero, List.set_cons_succ])
    rw [← hops]
    exact wpAnyH_listed (by kernel_rfl) (st3_n _ _ _ _ hHeld (hE.trans hx) (hd1.keep hx.ik) (hg1.keep hx.ik) ht)
   refine consR (i := 10) rfl (fun K hK => ?_) ?_
   ·go_simp
    have hx := (Ext.refl W).alloc (.cells #[.bool false, .slice none 0 0] 56)
    refine hK.out _ _ ⟨hS.1.trans hx, At.ext hx hS.2.1 (by simp), At.ext hx hS.2.2 (by simp)⟩ (fun hHeld => ?_)
    (try simp only [Act.put, List.setIfInBounds_toArray, List.set_cons_zero, List.set_cons_succ])
    rw [← hops]
    exact wpAnyH_listed (by kernel_rfl) (st2_0 _ _ _ _ hHeld (hE.trans hx) (hd1.keep hx.ik) (hg1.keep hx.ik) ((Blk.at #[.bool false, .slice none 0 0] 56 rfl).own 2 (by simp) noIntW) (by omega))
   refine consR (i := 11) rfl (fun K hK => ?_) ?_
   ·go_simp
    have hx := (Ext.refl W).alloc (.cells #[.bool false, .slice none 0 0] 56)
    refine hK.out _ _ ⟨hS.1.trans hx, At.ext hx hS.2.1 (by simp), At.ext hx hS.2.2 (by simp)⟩ (fun hHeld => ?_)
    (try simp only [Act.put, List.setIfInBounds_toArray, List.set_cons_zero, List.set_cons_succ])
    rw [← hops]
    exact wpAnyH_listed (by kernel_rfl) (st2_1 _ _ _ _ hHeld (hE.trans hx) (hd1.keep hx.ik) (hg1.keep hx.ik) ((Blk.at #[.bool false, .slice none 0 0] 56 rfl).own 2 (by simp) noIntW) (by omega))
   exact AllReadyH.nil
  have st1_0 : ∀ (W : World) (d1 : IV) (G0 : Nat), Ext w W ∧ At W B #[.bool a.n.neg, .slice a.n.a a.n.n a.n.c, .bool a.d.neg, .slice a.d.a a.d.n a.d.c] ∧ At W (B + 1) #[.bool b.n.neg, .slice b.n.a b.n.n b.n.c, .bool b.d.neg, .slice b.d.a b.d.n b.d.c] → Ext V W → IsI W d1 s → Own W G0 2 → V.heap.size ≤ G0 → wpAnyH Try.prog .any ops q0 (fun w' => Ext w w' ∧ At w' B #[.bool a.n.neg, .slice a.n.a a.n.n a.n.c, .bool a.d.neg, .slice a.d.a a.d.n a.d.c] ∧ At w' (B + 1) #[.bool b.n.neg, .slice b.n.a b.n.n b.n.c, .bool b.d.neg, .slice b.d.a b.d.n b.d.c]) 6 #[true, true, true, true, false, true, true, true, false, false, true, false, false, false] ⟨#[a.v, b.v, .pointer (some ⟨B, 0, none⟩), .pointer (some ⟨B + 1, 0, none⟩), .pointer (some ⟨B + 1 + 1, 0, none⟩), .int .i64 0, .pointer (some ⟨G0, 0, none⟩), undef, undef, undef, undef, undef, .pointer (some ⟨B, 0, none⟩), .agg #[.bool a.n.neg, .slice a.n.a a.n.n a.n.c], .agg #[.bool b.n.neg, .slice b.n.a b.n.n b.n.c, .bool b.d.neg, .slice b.d.a b.d.n b.d.c], d1.v, undef, .pointer (some ⟨B + 1, 0, none⟩), .agg #[.bool b.n.neg, .slice b.n.a b.n.n b.n.c], .agg #[.bool a.n.neg, .slice a.n.a a.n.n a.n.c, .bool a.d.neg, .slice a.d.a a.d.n a.d.c], undef, undef, undef, undef, undef, undef, undef, undef, undef, undef, undef, undef, undef, undef, undef, undef, undef, undef, undef, undef, undef, undef, undef, undef, undef, undef, undef, undef, undef, undef, undef, undef, undef, undef, undef], []⟩ W := by
   intro W d1 G0 hS hE hd1 o0 b0
   have lB := hS.2.2.lt (by simp)
   have sE := hE.size
   have l0 := o0.lt (by omega)
   rw [hops]
   refine wpAnyH_ready (rs := [4, 11]) (by kernel_rfl) (by simp) ?_
   refine consR (i := 4) rfl (fun K hK => ?_) ?_
   ·go_simp
    go_at_call 50
    refine (Gcd_c a.n d1 p s _ (HA.out.num.keep hS.1.ik) hd1).mono ?_
    rw [HGG.out]
    rintro e W2 ⟨t, rfl, ht, hx⟩
    have sx := hx.size
    go_wp2_with fail
    refine hK.out _ _ ⟨hS.1.trans hx, At.ext hx hS.2.1 (by simp), At.ext hx hS.2.2 (by simp)⟩ (fun hHeld => ?_)
    (try simp only [Act.put, List.setIfInBounds_toArray, List.set_cons_zero, List.set_cons_succ])
    rw [← hops]
    exact wpAnyH_listed (by kernel_rfl) (st2_0 _ _ _ _ hHeld (hE.trans hx) (hd1.keep hx.ik) ht (o0.ext hx (by omega)) (by omega))
   refine consR (i := 11) rfl (fun K hK => ?_) ?_
   ·go_simp
    have hx := (Ext.refl W).alloc (.cells #[.bool false, .slice none 0 0] 56)
    refine hK.out _ _ ⟨hS.1.trans hx, At.ext hx hS.2.1 (by simp), At.ext hx hS.2.2 (by simp)⟩ (fun hHeld => ?_)
    (try simp only [Act.put, List.setIfInBounds_toArray, List.set_cons_zero, List.set_cons_succ])
    rw [← hops]
    exact wpAnyH_listed (by kernel_rfl) (st1_01 _ _ _ _ hHeld (hE.trans hx) (hd1.keep hx.ik) (o0.ext hx (by omega)) (by omega) ((Blk.at #[.bool false, .slice none 0 0] 56 rfl).own 2 (by simp) noIntW) (by omega) (by omega))
   exact AllReadyH.nil
  have st1_1 : ∀ (W : World) (d1 : IV) (G1 : Nat), Ext w W ∧ At W B #[.bool a.n.neg, .slice a.n.a a.n.n a.n.c, .bool a.d.neg, .slice a.d.a a.d.n a.d.c] ∧ At W (B + 1) #[.bool b.n.neg, .slice b.n.a b.n.n b.n.c, .bool b.d.neg, .slice b.d.a b.d.n b.d.c] → Ext V W → IsI W d1 s → Own W G1 2 → V.heap.size ≤ G1 → wpAnyH Try.prog .any ops q0 (fun w' => Ext w w' ∧ At w' B #[.bool a.n.neg, .slice a.n.a a.n.n a.n.c, .bool a.d.neg, .slice a.d.a a.d.n a.d.c] ∧ At w' (B + 1) #[.bool b.n.neg, .slice b.n.a b.n.n b.n.c, .bool b.d.neg, .slice b.d.a b.d.n b.d.c]) 6 #[true, true, true, true, false, true, true, true, false, false, false, true, false, false] ⟨#[a.v, b.v, .pointer (some ⟨B, 0, none⟩), .pointer (some ⟨B + 1, 0, none⟩), .pointer (some ⟨B + 1 + 1, 0, none⟩), .int .i64 0, undef, .pointer (some ⟨G1, 0, none⟩), undef, undef, undef, undef, .pointer (some ⟨B, 0, none⟩), .agg #[.bool a.n.neg, .slice a.n.a a.n.n a.n.c], .agg #[.bool b.n.neg, .slice b.n.a b.n.n b.n.c, .bool b.d.neg, .slice b.d.a b.d.n b.d.c], d1.v, undef, .pointer (some ⟨B + 1, 0, none⟩), .agg #[.bool b.n.neg, .slice b.n.a b.n.n b.n.c], .agg #[.bool a.n.neg, .slice a.n.a a.n.n a.n.c, .bool a.d.neg, .slice a.d.a a.d.n a.d.c], undef, undef, undef, undef, undef, undef, undef, undef, undef, undef, undef, undef, undef, undef, undef, undef, undef, undef, undef, undef, undef, undef, undef, undef, undef, undef, undef, undef, undef, undef, undef, undef, undef, undef, undef], []⟩ W := by
   intro W d1 G1 hS hE hd1 o1 b1
   have lB := hS.2.2.lt (by simp)
   have sE := hE.size
   have l1 := o1.lt (by omega)
   rw [hops]
   refine wpAnyH_ready (rs := [4, 10]) (by kernel_rfl) (by simp) ?_
   refine consR (i := 4) rfl (fun K hK => ?_) ?_
   ·go_simp
    go_at_call 50
    refine (Gcd_c a.n d1 p s _ (HA.out.num.keep hS.1.ik) hd1).mono ?_
    rw [HGG.out]
    rintro e W2 ⟨t, rfl, ht, hx⟩
    have sx := hx.size
    go_wp2_with fail
    refine hK.out _ _ ⟨hS.1.trans hx, At.ext hx hS.2.1 (by simp), At.ext hx hS.2.2 (by simp)⟩ (fun hHeld => ?_)
    (try simp only [Act.put, List.setIfInBounds_toArray, List.set_cons_zero, List.set_cons_succ])
    rw [← hops]
    exact wpAnyH_listed (by kernel_rfl) (st2_1 _ _ _ _ hHeld (hE.trans hx) (hd1.keep hx.ik) ht (o1.ext hx (by omega)) (by omega))
   refine consR (i := 10) rfl (fun K hK => ?_) ?_
   ·go_simp
    have hx := (Ext.refl W).alloc (.cells #[.bool false, .slice none 0 0] 56)
    refine hK.out _ _ ⟨hS.1.trans hx, At.ext hx hS.2.1 (by simp), At.ext hx hS.2.2 (by simp)⟩ (fun hHeld => ?_)
    (try simp only [Act.put, List.setIfInBounds_toArray, List.set_cons_zero, List.set_cons_succ])
    rw [← hops]
    exact wpAnyH_listed (by kernel_rfl) (st1_01 _ _ _ _ hHeld (hE.trans hx) (hd1.keep hx.ik) ((Blk.at #[.bool false, .slice none 0 0] 56 rfl).own 2 (by simp) noIntW) (by omega) (o1.ext hx (by omega)) (by omega) (by omega))
   exact AllReadyH.nil
  have st0_01 : ∀ (W : World) (G0 : Nat) (G1 : Nat), Ext w W ∧ At W B #[.bool a.n.neg, .slice a.n.a a.n.n a.n.c, .bool a.d.neg, .slice a.d.a a.d.n a.d.c] ∧ At W (B + 1) #[.bool b.n.neg, .slice b.n.a b.n.n b.n.c, .bool b.d.neg, .slice b.d.a b.d.n b.d.c] → Ext V W → Own W G0 2 → V.heap.size ≤ G0 → Own W G1 2 → V.heap.size ≤ G1 → G0 ≠ G1 → wpAnyH Try.prog .any ops q0 (fun w' => Ext w w' ∧ At w' B #[.bool a.n.neg, .slice a.n.a a.n.n a.n.c, .bool a.d.neg, .slice a.d.a a.d.n a.d.c] ∧ At w' (B + 1) #[.bool b.n.neg, .slice b.n.a b.n.n b.n.c, .bool b.d.neg, .slice b.d.a b.d.n b.d.c]) 6 #[true, true, true, false, false, true, true, true, false, false, true, true, false, false] ⟨#[a.v, b.v, .pointer (some ⟨B, 0, none⟩), .pointer (some ⟨B + 1, 0, none⟩), .pointer (some ⟨B + 1 + 1, 0, none⟩), .int .i64 0, .pointer (some ⟨G0, 0, none⟩), .pointer (some ⟨G1, 0, none⟩), undef, undef, undef, undef, .pointer (some ⟨B, 0, none⟩), .agg #[.bool a.n.neg, .slice a.n.a a.n.n a.n.c], .agg #[.bool b.n.neg, .slice b.n.a b.n.n b.n.c, .bool b.d.neg, .slice b.d.a b.d.n b.d.c], undef, undef, .pointer (some ⟨B + 1, 0, none⟩), .agg #[.bool b.n.neg, .slice b.n.a b.n.n b.n.c], .agg #[.bool a.n.neg, .slice a.n.a a.n.n a.n.c, .bool a.d.neg, .slice a.d.a a.d.n a.d.c], undef, undef, undef, undef, undef, undef, undef, undef, undef, undef, undef, undef, undef, undef, undef, undef, undef, undef, undef, undef, undef, undef, undef, undef, undef, undef, undef, undef, undef, undef, undef, undef, undef, undef, undef], []⟩ W := by
   intro W G0 G1 hS hE o0 b0 o1 b1 n01
   have lB := hS.2.2.lt (by simp)
   have sE := hE.size
   have l0 := o0.lt (by omega)
   have l1 := o1.lt (by omega)
   rw [hops]
   refine wpAnyH_ready (rs := [3]) (by kernel_rfl) (by simp) ?_
   refine consR (i := 3) rfl (fun K hK => ?_) ?_
   ·go_simp
    go_at_call 56
    refine (Den_c b r s _ (HB.out.keep hS.1.ik)).mono ?_
    rintro e W2 ⟨t, rfl, ht, hx⟩
    have sx := hx.size
    go_wp2_with fail
    refine hK.out _ _ ⟨hS.1.trans hx, At.ext hx hS.2.1 (by simp), At.ext hx hS.2.2 (by simp)⟩ (fun hHeld => ?_)
    (try simp only [Act.put, List.setIfInBounds_toArray, List.set_cons_zero, List.set_cons_succ])
    rw [← hops]
    exact wpAnyH_listed (by kernel_rfl) (st1_01 _ _ _ _ hHeld (hE.trans hx) ht (o0.ext hx (by omega)) (by omega) (o1.ext hx (by omega)) (by omega) n01)
   exact AllReadyH.nil
  have st1_n : ∀ (W : World) (d1 : IV), Ext w W ∧ At W B #[.bool a.n.neg, .slice a.n.a a.n.n a.n.c, .bool a.d.neg, .slice a.d.a a.d.n a.d.c] ∧ At W (B + 1) #[.bool b.n.neg, .slice b.n.a b.n.n b.n.c, .bool b.d.neg, .slice b.d.a b.d.n b.d.c] → Ext V W → IsI W d1 s → wpAnyH Try.prog .any ops q0 (fun w' => Ext w w' ∧ At w' B #[.bool a.n.neg, .slice a.n.a a.n.n a.n.c, .bool a.d.neg, .slice a.d.a a.d.n a.d.c] ∧ At w' (B + 1) #[.bool b.n.neg, .slice b.n.a b.n.n b.n.c, .bool b.d.neg, .slice b.d.a b.d.n b.d.c]) 7 #[true, true, true, true, false, true, true, true, false, false, false, false, false, false] ⟨#[a.v, b.v, .pointer (some ⟨B, 0, none⟩), .pointer (some ⟨B + 1, 0, none⟩), .pointer (some ⟨B + 1 + 1, 0, none⟩), .int .i64 0, undef, undef, undef, undef, undef, undef, .pointer (some ⟨B, 0, none⟩), .agg #[.bool a.n.neg, .slice a.n.a a.n.n a.n.c], .agg #[.bool b.n.neg, .slice b.n.a b.n.n b.n.c, .bool b.d.neg, .slice b.d.a b.d.n b.d.c], d1.v, undef, .pointer (some ⟨B + 1, 0, none⟩), .agg #[.bool b.n.neg, .slice b.n.a b.n.n b.n.c], .agg #[.bool a.n.neg, .slice a.n.a a.n.n a.n.c, .bool a.d.neg, .slice a.d.a a.d.n a.d.c], undef, undef, undef, undef, undef, undef, undef, undef, undef, undef, undef, undef, undef, undef, undef, undef, undef, undef, undef, undef, undef, undef, undef, undef, undef, undef, undef, undef, undef, undef, undef, undef, undef, undef, undef], []⟩ W := by
   intro W d1 hS hE hd1
   have lB := hS.2.2.lt (by simp)
   have sE := hE.size
   rw [hops]
   refine wpAnyH_ready (rs := [4, 10, 11]) (by kernel_rfl) (by simp) ?_
   refine consR (i := 4) rfl (fun K hK => ?_) ?_
   ·go_simp
    go_at_call 50
    refine (Gcd_c a.n d1 p s _ (HA.out.num.keep hS.1.ik) hd1).mono ?_
    rw [HGG.out]
    rintro e W2 ⟨t, rfl, ht, hx⟩
    have sx := hx.size
    go_wp2_with fail
    refine hK.out _ _ ⟨hS.1.trans hx, At.ext hx hS.2.1 (by simp), At.ext hx hS.2.2 (by simp)⟩ (fun hHeld => ?_)
    (try simp only [Act.put, List.setIfInBounds_toArray, List.set_cons_zero, List.set_cons_succ])
    rw [← hops]
    exact wpAnyH_listed (by kernel_rfl) (st2_n _ _ _ hHeld (hE.trans hx) (hd1.keep hx.ik) ht)
   refine consR (i := 10) rfl (fun K hK => ?_) ?_
   ·go_simp
    have hx := (Ext.refl W).alloc (.cells #[.bool false, .slice none 0 0] 56)
    refine hK.out _ _ ⟨hS.1.trans hx, At.ext hx hS.2.1 (by simp), At.ext hx hS.2.2 (by simp)⟩ (fun hHeld => ?_)
    (try simp only [Act.put, List.setIfInBounds_toArray, List.set_cons_zero, List.set_cons_succ])
    rw [← hops]
    exact wpAnyH_listed (by kernel_rfl) (st1_0 _ _ _ hHeld (hE.trans hx) (hd1.keep hx.ik) ((Blk.at #[.bool false, .slice none 0 0] 56 rfl).own 2 (by simp) noIntW) (by omega))
   refine consR (i := 11) rfl (fun K hK => ?_) ?_
   ·go_simp
    have hx := (Ext.refl W).alloc (.cells #[.bool false, .slice none 0 0] 56)
    refine hK.out _ _ ⟨hS.1.trans hx, At.ext hx hS.2.1 (by simp), At.ext hx hS.2.2 (by simp)⟩ (fun hHeld => ?_)
    (try simp only [Act.put, List.setIfInBounds_toArray, List.set_cons_zero, List.set_cons_succ])
    rw [← hops]
    exact wpAnyH_listed (by kernel_rfl) (st1_1 _ _ _ hHeld (hE.trans hx) (hd1.keep hx.ik) ((Blk.at #[.bool false, .slice none 0 0] 56 rfl).own 2 (by simp) noIntW) (by omega))
   exact AllReadyH.nil
  have st0_0 : ∀ (W : World) (G0 : Nat), Ext w W ∧ At W B #[.bool a.n.neg, .slice a.n.a a.n.n a.n.c, .bool a.d.neg, .slice a.d.a a.d.n a.d.c] ∧ At W (B + 1) #[.bool b.n.neg, .slice b.n.a b.n.n b.n.c, .bool b.d.neg, .slice b.d.a b.d.n b.d.c] → Ext V W → Own W G0 2 → V.heap.size ≤ G0 → wpAnyH Try.prog .any ops q0 (fun w' => Ext w w' ∧ At w' B #[.bool a.n.neg, .slice a.n.a a.n.n a.n.c, .bool a.d.neg, .slice a.d.a a.d.n a.d.c] ∧ At w' (B + 1) #[.bool b.n.neg, .slice b.n.a b.n.n b.n.c, .bool b.d.neg, .slice b.d.a b.d.n b.d.c]) 7 #[true, true, true, false, false, true, true, true, false, false, true, false, false, false] ⟨#[a.v, b.v, .pointer (some ⟨B, 0, none⟩), .pointer (some ⟨B + 1, 0, none⟩), .pointer (some ⟨B + 1 + 1, 0, none⟩), .int .i64 0, .pointer (some ⟨G0, 0, none⟩), undef, undef, undef, undef, undef, .pointer (some ⟨B, 0, none⟩), .agg #[.bool a.n.neg, .slice a.n.a a.n.n a.n.c], .agg #[.bool b.n.neg, .slice b.n.a b.n.n b.n.c, .bool b.d.neg, .slice b.d.a b.d.n b.d.c], undef, undef, .pointer (some ⟨B + 1, 0, none⟩), .agg #[.bool b.n.neg, .slice b.n.a b.n.n b.n.c], .agg #[.bool a.n.neg, .slice a.n.a a.n.n a.n.c, .bool a.d.neg, .slice a.d.a a.d.n a.d.c], undef, undef, undef, undef, undef, undef, undef, undef, undef, undef, undef, undef, undef, undef, undef, undef, undef, undef, undef, undef, undef, undef, undef, undef, undef, undef, undef, undef, undef, undef, undef, undef, undef, undef, undef], []⟩ W := by
   intro W G0 hS hE o0 b0
   have lB := hS.2.2.lt (by simp)
   have sE := hE.size
   have l0 := o0.lt (by omega)
   rw [hops]
   refine wpAnyH_ready (rs := [3, 11]) (by kernel_rfl) (by simp) ?_
   refine consR (i := 3) rfl (fun K hK => ?_) ?_
   ·go_simp
    go_at_call 56
    refine (Den_c b r s _ (HB.out.keep hS.1.ik)).mono ?_
    rintro e W2 ⟨t, rfl, ht, hx⟩
    have sx := hx.size
    go_wp2_with fail
    refine hK.out _ _ ⟨hS.1.trans hx, At.ext hx hS.2.1 (by simp), At.ext hx hS.2.2 (by simp)⟩ (fun hHeld => ?_)
    (try simp only [Act.put, List.setIfInBounds_toArray, List.set_cons_zero, List.set_cons_succ])
    rw [← hops]
    exact wpAnyH_listed (by kernel_rfl) (st1_0 _ _ _ hHeld (hE.trans hx) ht (o0.ext hx (by omega)) (by omega))
   refine consR (i := 11) rfl (fun K hK => ?_) ?_
   ·go_simp
    have hx := (Ext.refl W).alloc (.cells #[.bool false, .slice none 0 0] 56)
    refine hK.out _ _ ⟨hS.1.trans hx, At.ext hx hS.2.1 (by simp), At.ext hx hS.2.2 (by simp)⟩ (fun hHeld => ?_)
    (try simp only [Act.put, List.setIfInBounds_toArray, List.set_cons_zero, List.set_cons_succ])
    rw [← hops]
    exact wpAnyH_listed (by kernel_rfl) (st0_01 _ _ _ hHeld (hE.trans hx) (o0.ext hx (by omega)) (by omega) ((Blk.at #[.bool false, .slice none 0 0] 56 rfl).own 2 (by simp) noIntW) (by omega) (by omega))
   exact AllReadyH.nil
  have st0_1 : ∀ (W : World) (G1 : Nat), Ext w W ∧ At W B #[.bool a.n.neg, .slice a.n.a a.n.n a.n.c, .bool a.d.neg, .slice a.d.a a.d.n a.d.c] ∧ At W (B + 1) #[.bool b.n.neg, .slice b.n.a b.n.n b.n.c, .bool b.d.neg, .slice b.d.a b.d.n b.d.c] → Ext V W → Own W G1 2 → V.heap.size ≤ G1 → wpAnyH Try.prog .any ops q0 (fun w' => Ext w w' ∧ At w' B #[.bool a.n.neg, .slice a.n.a a.n.n a.n.c, .bool a.d.neg, .slice a.d.a a.d.n a.d.c] ∧ At w' (B + 1) #[.bool b.n.neg, .slice b.n.a b.n.n b.n.c, .bool b.d.neg, .slice b.d.a b.d.n b.d.c]) 7 #[true, true, true, false, false, true, true, true, false, false, false, true, false, false] ⟨#[a.v, b.v, .pointer (some ⟨B, 0, none⟩), .pointer (some ⟨B + 1, 0, none⟩), .pointer (some ⟨B + 1 + 1, 0, none⟩), .int .i64 0, undef, .pointer (some ⟨G1, 0, none⟩), undef, undef, undef, undef, .pointer (some ⟨B, 0, none⟩), .agg #[.bool a.n.neg, .slice a.n.a a.n.n a.n.c], .agg #[.bool b.n.neg, .slice b.n.a b.n.n b.n.c, .bool b.d.neg, .slice b.d.a b.d.n b.d.c], undef, undef, .pointer (some ⟨B + 1, 0, none⟩), .agg #[.bool b.n.neg, .slice b.n.a b.n.n b.n.c], .agg #[.bool a.n.neg, .slice a.n.a a.n.n a.n.c, .bool a.d.neg, .slice a.d.a a.d.n a.d.c], undef, undef, undef, undef, undef, undef, undef, undef, undef, undef, undef, undef, undef, undef, undef, undef, undef, undef, undef, undef, undef, undef, undef, undef, undef, undef, undef, undef, undef, undef, undef, undef, undef, undef, undef], []⟩ W := by
   intro W G1 hS hE o1 b1
   have lB := hS.2.2.lt (by simp)
   have sE := hE.size
   have l1 := o1.lt (by omega)
   rw [hops]
   refine wpAnyH_ready (rs := [3, 10]) (by kernel_rfl) (by simp) ?_
   refine consR (i := 3) rfl (fun K hK => ?_) ?_
   ·go_simp
    go_at_call 56
    refine (Den_c b r s _ (HB.out.keep hS.1.ik)).mono ?_
    rintro e W2 ⟨t, rfl, ht, hx⟩
    have sx := hx.size
    go_wp2_with fail
    refine hK.out _ _ ⟨hS.1.trans hx, At.ext hx hS.2.1 (by simp), At.ext hx hS.2.2 (by simp)⟩ (fun hHeld => ?_)
    (try simp only [Act.put, List.setIfInBounds_toArray, List.set_cons_zero, List.set_cons_succ])
    rw [← hops]
    exact wpAnyH_listed (by kernel_rfl) (st1_1 _ _ _ hHeld (hE.trans hx) ht (o1.ext hx (by omega)) (by omega))
   refine consR (i := 10) rfl (fun K hK => ?_) ?_
   ·go_simp
    have hx := (Ext.refl W).alloc (.cells #[.bool false, .slice none 0 0] 56)
    refine hK.out _ _ ⟨hS.1.trans hx, At.ext hx hS.2.1 (by simp), At.ext hx hS.2.2 (by simp)⟩ (fun hHeld => ?_)
    (try simp only [Act.put, List.setIfInBounds_toArray, List.set_cons_zero, List.set_cons_succ])
    rw [← hops]
    exact wpAnyH_listed (by kernel_rfl) (st0_01 _ _ _ hHeld (hE.trans hx) ((Blk.at #[.bool false, .slice none 0 0] 56 rfl).own 2 (by simp) noIntW) (by omega) (o1.ext hx (by omega)) (by omega) (by omega))
   exact AllReadyH.nil
  have st0_n : ∀ (W : World), Ext w W ∧ At W B #[.bool a.n.neg, .slice a.n.a a.n.n a.n.c, .bool a.d.neg, .slice a.d.a a.d.n a.d.c] ∧ At W (B + 1) #[.bool b.n.neg, .slice b.n.a b.n.n b.n.c, .bool b.d.neg, .slice b.d.a b.d.n b.d.c] → Ext V W → wpAnyH Try.prog .any ops q0 (fun w' => Ext w w' ∧ At w' B #[.bool a.n.neg, .slice a.n.a a.n.n a.n.c, .bool a.d.neg, .slice a.d.a a.d.n a.d.c] ∧ At w' (B + 1) #[.bool b.n.neg, .slice b.n.a b.n.n b.n.c, .bool b.d.neg, .slice b.d.a b.d.n b.d.c]) 8 #[true, true, true, false, false, true, true, true, false, false, false, false, false, false] ⟨#[a.v, b.v, .pointer (some ⟨B, 0, none⟩), .pointer (some ⟨B + 1, 0, none⟩), .pointer (some ⟨B + 1 + 1, 0, none⟩), .int .i64 0, undef, undef, undef, undef, undef, undef, .pointer (some ⟨B, 0, none⟩), .agg #[.bool a.n.neg, .slice a.n.a a.n.n a.n.c], .agg #[.bool b.n.neg, .slice b.n.a b.n.n b.n.c, .bool b.d.neg, .slice b.d.a b.d.n b.d.c], undef, undef, .pointer (some ⟨B + 1, 0, none⟩), .agg #[.bool b.n.neg, .slice b.n.a b.n.n b.n.c], .agg #[.bool a.n.neg, .slice a.n.a a.n.n a.n.c, .bool a.d.neg, .slice a.d.a a.d.n a.d.c], undef, undef, undef, undef, undef, undef, undef, undef, undef, undef, undef, undef, undef, undef, undef, undef, undef, undef, undef, undef, undef, undef, undef, undef, undef, undef, undef, undef, undef, undef, undef, undef, undef, undef, undef], []⟩ W := by
   intro W hS hE
   have lB := hS.2.2.lt (by simp)
   have sE := hE.size
   rw [hops]
   refine wpAnyH_ready (rs := [3, 10, 11]) (by kernel_rfl) (by simp) ?_
   refine consR (i := 3) rfl (fun K hK => ?_) ?_
   ·go_simp
    go_at_call 56
    refine (Den_c b r s _ (HB.out.keep hS.1.ik)).mono ?_
    rintro e W2 ⟨t, rfl, ht, hx⟩
    have sx := hx.size
    go_wp2_with fail
    refine hK.out _ _ ⟨hS.1.trans hx, At.ext hx hS.2.1 (by simp), At.ext hx hS.2.2 (by simp)⟩ (fun hHeld => ?_)
    (try simp only [Act.put, List.setIfInBounds_toArray, List.set_cons_zero, List.set_cons_succ])
    rw [← hops]
    exact wpAnyH_listed (by kernel_rfl) (st1_n _ _ hHeld (hE.trans hx) ht)
   refine consR (i := 10) rfl (fun K hK => ?_) ?_
   ·go_simp
    have hx := (Ext.refl W).alloc (.cells #[.bool false, .slice none 0 0] 56)
    refine hK.out _ _ ⟨hS.1.trans hx, At.ext hx hS.2.1 (by simp), At.ext hx hS.2.2 (by simp)⟩ (fun hHeld => ?_)
    (try simp only [Act.put, List.setIfInBounds_toArray, List.set_cons_zero, List.set_cons_succ])
    rw [← hops]
    exact wpAnyH_listed (by kernel_rfl) (st0_0 _ _ hHeld (hE.trans hx) ((Blk.at #[.bool false, .slice none 0 0] 56 rfl).own 2 (by simp) noIntW) (by omega))
   refine consR (i := 11) rfl (fun K hK => ?_) ?_
   ·go_simp
    have hx := (Ext.refl W).alloc (.cells #[.bool false, .slice none 0 0] 56)
    refine hK.out _ _ ⟨hS.1.trans hx, At.ext hx hS.2.1 (by simp), At.ext hx hS.2.2 (by simp)⟩ (fun hHeld => ?_)
    (try simp only [Act.put, List.setIfInBounds_toArray, List.set_cons_zero, List.set_cons_succ])
    rw [← hops]
    exact wpAnyH_listed (by kernel_rfl) (st0_1 _ _ hHeld (hE.trans hx) ((Blk.at #[.bool false, .slice none 0 0] 56 rfl).own 2 (by simp) noIntW) (by omega))
   exact AllReadyH.nil
  exact wpAnyH_listed (by kernel_rfl) (st0_n _ hHeld (Ext.refl V).drew)
 case rest =>
  obtain ⟨G0, G1, g1, g2, rfl, rfl, hE, hg1, hg2, lb0, lb1, AG0, AG1⟩ := hcut
  have O2 := Own.ext hE HO2.out (by omega)
  have A0 := At.ext hE HE.out.2.1 (by simp)
  have A1 := At.ext hE HE.out.2.2 (by simp)
  have E0 := HE.out.1.trans hE
  have HG1 := Lib.hid hg1
  have HG2 := Lib.hid hg2
  clear hE hg1 hg2
  have HW := Lib.hid E0
  have lv := O2.lt (by omega)
  have lg0 := AG0.lt (by simp)
  have lg1 := AG1.lt (by simp)
  obtain ⟨wd, rfl⟩ : ∃ W, W = wc := ⟨_, rfl⟩
  go_upto_region 2 with (fail)
  go_cut [8, 9] (fun s7 s8 wx => ∃ (H : Nat) (x : IV), s7 = .pointer (some ⟨H, 0, none⟩) ∧ s8 = .int .i64 0 ∧ Ext wd wx ∧ B + 1 + 1 < H ∧ At wx H #[.bool x.neg, .slice x.a x.n x.c] ∧ IsI wx x (p / gg * (r / hh)))
  case first =>
   refine wp_region_held_drew (S := fun w' => Ext wd w' ∧ At w' B #[.bool a.n.neg, .slice a.n.a a.n.n a.n.c, .bool a.d.neg, .slice a.d.a a.d.n a.d.c] ∧ At w' (B + 1) #[.bool b.n.neg, .slice b.n.a b.n.n b.n.c, .bool b.d.neg, .slice b.d.a b.d.n b.d.c] ∧ At w' G0 #[.bool g1.neg, .slice g1.a g1.n g1.c] ∧ At w' G1 #[.bool g2.neg, .slice g2.a g2.n g2.c]) (by kernel_rfl) ?_ (fun hHeld => ?_)
   ·exact ⟨(Ext.refl wd).drew, A0, A1, AG0, AG1⟩
   refine takeL (i := 0) (v := ?_) rfl (by kernel_rfl) (by kernel_rfl) (by kernel_rfl) (fun _ _ _ h => h) (Or.inl ⟨by rfl, ?_⟩) (by assumption) ?_; rotate_left; (focus (intro wq hSw; (try dsimp only at hSw); go_simp; try with_reducible rfl)); (try simp only [Act.put, List.setIfInBounds_toArray, List.set_cons_zero, List.set_cons_succ])
   refine takeL (i := 1) (v := ?_) rfl (by kernel_rfl) (by kernel_rfl) (by kernel_rfl) (fun _ _ _ h => h) (Or.inl ⟨by rfl, ?_⟩) (by assumption) ?_; rotate_left; (focus (intro wq hSw; (try dsimp only at hSw); go_simp; try with_reducible rfl)); (try simp only [Act.put, List.setIfInBounds_toArray, List.set_cons_zero, List.set_cons_succ])
   refine takeL (i := 2) (v := ?_) rfl (by kernel_rfl) (by kernel_rfl) (by kernel_rfl) (fun _ _ _ h => h) (Or.inl ⟨by rfl, ?_⟩) (by assumption) ?_; rotate_left; (focus (intro wq hSw; (try dsimp only at hSw); go_simp; try with_reducible rfl)); (try simp only [Act.put, List.setIfInBounds_toArray, List.set_cons_zero, List.set_cons_succ])
   refine takeL (i := 4) (v := ?_) rfl (by kernel_rfl) (by kernel_rfl) (by kernel_rfl) (fun _ _ _ h => h) (Or.inl ⟨by rfl, ?_⟩) (by assumption) ?_; rotate_left; (focus (intro wq hSw; (try dsimp only at hSw); go_simp; try with_reducible rfl)); (try simp only [Act.put, List.setIfInBounds_toArray, List.set_cons_zero, List.set_cons_succ])
   refine takeL (i := 5) (v := ?_) rfl (by kernel_rfl) (by kernel_rfl) (by kernel_rfl) (fun _ _ _ h => h) (Or.inl ⟨by rfl, ?_⟩) (by assumption) ?_; rotate_left; (focus (intro wq hSw; (try dsimp only at hSw); go_simp; try with_reducible rfl)); (try simp only [Act.put, List.setIfInBounds_toArray, List.set_cons_zero, List.set_cons_succ])
   refine takeL (i := 6) (v := ?_) rfl (by kernel_rfl) (by kernel_rfl) (by kernel_rfl) (fun _ _ _ h => h) (Or.inl ⟨by rfl, ?_⟩) (by assumption) ?_; rotate_left; (focus (intro wq hSw; (try dsimp only at hSw); go_simp; try with_reducible rfl)); (try simp only [Act.put, List.setIfInBounds_toArray, List.set_cons_zero, List.set_cons_succ])
   refine cons2L (i := 3) (j := 13) (by kernel_rfl) rfl rfl (fun K hK => ?_) (fun K hK => ?_)
   ·skip
    go_simp; go_at_call 52; refine (over_c a.n g1 p gg _ (HA.out.num.keep (Ext.ik (Ext.trans HW.out (And.left (by assumption))))) (HG1.out.keep (Ext.ik (And.left (by assumption)))) (by omega)).mono ?_; rintro e w3 ⟨o3, rfl, ho3, hxo3⟩; have HXo3 := Lib.hid hxo3; have sz := Ext.size hxo3; (try simp only [World.size_alloc, World.size_drew] at sz); (first | (have OG := Own.ext hxo3 ((Blk.at #[.bool false, .slice none 0 0] 56 rfl).own 2 (by simp) noIntW) (by omega)) | (have OG := Own.ext hxo3 (((Blk.at #[.bool false, .slice none 0 0] 56 rfl).alloc _).own 2 (by simp) noIntW) (by omega)) | (have OG := Own.ext hxo3 OG (by omega)) | (have OG := Own.ext (Ext.trans ((Ext.refl _).alloc _) hxo3) OG (by omega)) | skip); (try simp only [World.size_alloc] at OG); go_wp2_with fail; refine hK.out _ _ ?_ (fun hHeld => ?_); rotate_left; clear hK K; rotate_right; (focus ((try dsimp only); exact kept)); (try simp only [Act.put, List.setIfInBounds_toArray, List.set_cons_zero, List.set_cons_succ])
    refine cons2L (i := 7) (j := 13) (by kernel_rfl) rfl rfl (fun K hK => ?_) (fun K hK => ?_)
    ·skip
     go_simp; go_at_call 52; refine (over_c b.n g2 r hh _ (HB.out.num.keep (Ext.ik (Ext.trans HW.out (And.left (by assumption))))) (HG2.out.keep (Ext.ik (And.left (by assumption)))) (by omega)).mono ?_; rintro e w7 ⟨o7, rfl, ho7, hxo7⟩; have HXo7 := Lib.hid hxo7; have sz := Ext.size hxo7; (try simp only [World.size_alloc, World.size_drew] at sz); (first | (have OG := Own.ext hxo7 ((Blk.at #[.bool false, .slice none 0 0] 56 rfl).own 2 (by simp) noIntW) (by omega)) | (have OG := Own.ext hxo7 (((Blk.at #[.bool false, .slice none 0 0] 56 rfl).alloc _).own 2 (by simp) noIntW) (by omega)) | (have OG := Own.ext hxo7 OG (by omega)) | (have OG := Own.ext (Ext.trans ((Ext.refl _).alloc _) hxo7) OG (by omega)) | skip); (try simp only [World.size_alloc] at OG); go_wp2_with fail; refine hK.out _ _ ?_ (fun hHeld => ?_); rotate_left; clear hK K; rotate_right; (focus ((try dsimp only); exact kept)); (try simp only [Act.put, List.setIfInBounds_toArray, List.set_cons_zero, List.set_cons_succ])
     refine cons2L (i := 8) (j := 13) (by kernel_rfl) rfl rfl (fun K hK => ?_) (fun K hK => ?_)
     ·skip
      go_simp; refine hK.out _ _ ?_ (fun hHeld => ?_); rotate_left; clear hK K; rotate_right; (focus ((try dsimp only); exact kept)); (try simp only [Act.put, List.setIfInBounds_toArray, List.set_cons_zero, List.set_cons_succ])
      refine cons2L (i := 9) (j := 13) (by kernel_rfl) rfl rfl (fun K hK => ?_) (fun K hK => ?_)
      ·skip
       go_simp; go_at_call 57; refine (ftimes_c o3 o7 (p / gg) (r / hh) _ _ _ (by first | exact (Blk.at _ _ rfl).at' | exact (Blk.at _ _ (by simp)).at' | exact ((Blk.at _ _ rfl).alloc _).at' | exact ((Blk.at _ _ (by simp)).alloc _).at') (by first | exact ho3.keep (Ext.ik (Ext.trans HXo7.out ((Ext.refl _).alloc _))) | exact ho3.keep (Ext.ik (Ext.trans HXo7.out (((Ext.refl _).alloc _).alloc _))) | exact ho3.keep (Ext.ik (Ext.trans ((Ext.refl _).alloc _) (Ext.trans HXo7.out ((Ext.refl _).alloc _))))) (by first | exact ho7.keep ((Ext.refl _).alloc _).ik | exact ho7.keep (((Ext.refl _).alloc _).alloc _).ik)).mono ?_; rw [L1.out]; rintro e w9 ⟨t9, rfl, ht9, hxt9⟩; have HXt9 := Lib.hid hxt9; have sz := Ext.size hxt9; (try simp only [World.size_alloc, World.size_drew] at sz); (first | (have OG := Own.ext hxt9 ((Blk.at #[.bool false, .slice none 0 0] 56 rfl).own 2 (by simp) noIntW) (by omega)) | (have OG := Own.ext hxt9 (((Blk.at #[.bool false, .slice none 0 0] 56 rfl).alloc _).own 2 (by simp) noIntW) (by omega)) | (have OG := Own.ext hxt9 OG (by omega)) | (have OG := Own.ext (Ext.trans ((Ext.refl _).alloc _) hxt9) OG (by omega)) | skip); (try simp only [World.size_alloc] at OG); go_wp2_with fail; refine hK.out _ _ ?_ (fun hHeld => ?_); rotate_left; clear hK K; rotate_right; (focus ((try dsimp only); exact kept)); (try simp only [Act.put, List.setIfInBounds_toArray, List.set_cons_zero, List.set_cons_succ])
       refine takeL (i := 10) (v := ?_) rfl (by kernel_rfl) (by kernel_rfl) (by kernel_rfl) (fun _ _ _ h => h) (Or.inl ⟨by rfl, ?_⟩) (by assumption) ?_; rotate_left; (focus (intro wq hSw; (try dsimp only at hSw); go_simp; try with_reducible rfl)); (try simp only [Act.put, List.setIfInBounds_toArray, List.set_cons_zero, List.set_cons_succ])
       refine takeL (i := 11) (v := ?_) rfl (by kernel_rfl) (by kernel_rfl) (by kernel_rfl) (fun _ _ _ h => h) (Or.inl ⟨by rfl, ?_⟩) (by assumption) ?_; rotate_left; (focus (intro wq hSw; (try dsimp only at hSw); go_simp; try with_reducible rfl)); (try simp only [Act.put, List.setIfInBounds_toArray, List.set_cons_zero, List.set_cons_succ])
       refine takeL (i := 12) (v := ?_) rfl (by kernel_rfl) (by kernel_rfl) (by kernel_rfl) (fun _ _ _ h => h) (Or.inl ⟨by rfl, ?_⟩) (by assumption) ?_; rotate_left; (focus (intro wq hSw; (try dsimp only at hSw); go_simp; try with_reducible rfl)); (try simp only [Act.put, List.setIfInBounds_toArray, List.set_cons_zero, List.set_cons_succ])
       refine consL (i := 13) (by kernel_rfl) rfl (fun K hK => ?_); go_simp; refine hK.out _ _ ?_ (fun hHeld => ?_); rotate_left; clear hK K; rotate_right; (focus ((try dsimp only); exact kept)); (try simp only [Act.put, List.setIfInBounds_toArray, List.set_cons_zero, List.set_cons_succ])
       refine consL (i := 14) (by kernel_rfl) rfl (fun K hK => ?_); go_simp; refine hK.out _ _ ?_ (fun hHeld => ?_); rotate_left; clear hK K; rotate_right; (focus ((try dsimp only); exact kept)); (try simp only [Act.put, List.setIfInBounds_toArray, List.set_cons_zero, List.set_cons_succ])
       refine consL (i := 15) (by kernel_rfl) rfl (fun K hK => ?_); go_simp; refine hK.out _ _ ?_ (fun hHeld => ?_); rotate_left; clear hK K; rotate_right; (focus ((try dsimp only); exact kept)); (try simp only [Act.put, List.setIfInBounds_toArray, List.set_cons_zero, List.set_cons_succ])
       refine doneL (by kernel_rfl) ?_
       go_wp2_with fail
       go_meet
       exact ⟨_, t9, rfl, rfl, And.left hHeld, by omega, by first | exact (Blk.at _ 56 rfl).at' | exact At.mk2 (put2_cells OG _ _).1 (put2_cells OG _ _).2, by first | exact ht9.keep ((Ext.refl _).alloc _).ik | exact ht9.keep (IK.put2 OG _ _ _ _)⟩
      ·skip
       go_simp; refine hK.out _ _ ?_ (fun hHeld => ?_); rotate_left; clear hK K; rotate_right; (focus ((try dsimp only); exact kept)); (try simp only [Act.put, List.setIfInBounds_toArray, List.set_cons_zero, List.set_cons_succ])
       refine consL (i := 9) (by kernel_rfl) rfl (fun K hK => ?_)
       go_simp; go_at_call 57; refine (ftimes_c o3 o7 (p / gg) (r / hh) _ _ _ (by first | exact (Blk.at _ _ rfl).at' | exact (Blk.at _ _ (by simp)).at' | exact ((Blk.at _ _ rfl).alloc _).at' | exact ((Blk.at _ _ (by simp)).alloc _).at') (by first | exact ho3.keep (Ext.ik (Ext.trans HXo7.out ((Ext.refl _).alloc _))) | exact ho3.keep (Ext.ik (Ext.trans HXo7.out (((Ext.refl _).alloc _).alloc _))) | exact ho3.keep (Ext.ik (Ext.trans ((Ext.refl _).alloc _) (Ext.trans HXo7.out ((Ext.refl _).alloc _))))) (by first | exact ho7.keep ((Ext.refl _).alloc _).ik | exact ho7.keep (((Ext.refl _).alloc _).alloc _).ik)).mono ?_; rw [L1.out]; rintro e w9 ⟨t9, rfl, ht9, hxt9⟩; have HXt9 := Lib.hid hxt9; have sz := Ext.size hxt9; (try simp only [World.size_alloc, World.size_drew] at sz); (first | (have OG := Own.ext hxt9 ((Blk.at #[.bool false, .slice none 0 0] 56 rfl).own 2 (by simp) noIntW) (by omega)) | (have OG := Own.ext hxt9 (((Blk.at #[.bool false, .slice none 0 0] 56 rfl).alloc _).own 2 (by simp) noIntW) (by omega)) | (have OG := Own.ext hxt9 OG (by omega)) | (have OG := Own.ext (Ext.trans ((Ext.refl _).alloc _) hxt9) OG (by omega)) | skip); (try simp only [World.size_alloc] at OG); go_wp2_with fail; refine hK.out _ _ ?_ (fun hHeld => ?_); rotate_left; clear hK K; rotate_right; (focus ((try dsimp only); exact kept)); (try simp only [Act.put, List.setIfInBounds_toArray, List.set_cons_zero, List.set_cons_succ])
       refine takeL (i := 10) (v := ?_) rfl (by kernel_rfl) (by kernel_rfl) (by kernel_rfl) (fun _ _ _ h => h) (Or.inl ⟨by rfl, ?_⟩) (by assumption) ?_; rotate_left; (focus (intro wq hSw; (try dsimp only at hSw); go_simp; try with_reducible rfl)); (try simp only [Act.put, List.setIfInBounds_toArray, List.set_cons_zero, List.set_cons_succ])
       refine takeL (i := 11) (v := ?_) rfl (by kernel_rfl) (by kernel_rfl) (by kernel_rfl) (fun _ _ _ h => h) (Or.inl ⟨by rfl, ?_⟩) (by assumption) ?_; rotate_left; (focus (intro wq hSw; (try dsimp only at hSw); go_simp; try with_reducible rfl)); (try simp only [Act.put, List.setIfInBounds_toArray, List.set_cons_zero, List.set_cons_succ])
       refine takeL (i := 12) (v := ?_) rfl (by kernel_rfl) (by kernel_rfl) (by kernel_rfl) (fun _ _ _ h => h) (Or.inl ⟨by rfl, ?_⟩) (by assumption) ?_; rotate_left; (focus (intro wq hSw; (try dsimp only at hSw); go_simp; try with_reducible rfl)); (try simp only [Act.put, List.setIfInBounds_toArray, List.set_cons_zero, List.set_cons_succ])
       refine consL (i := 14) (by kernel_rfl) rfl (fun K hK => ?_); go_simp; refine hK.out _ _ ?_ (fun hHeld => ?_); rotate_left; clear hK K; rotate_right; (focus ((try dsimp only); exact kept)); (try simp only [Act.put, List.setIfInBounds_toArray, List.set_cons_zero, List.set_cons_succ])
       refine consL (i := 15) (by kernel_rfl) rfl (fun K hK => ?_); go_simp; refine hK.out _ _ ?_ (fun hHeld => ?_); rotate_left; clear hK K; rotate_right; (focus ((try dsimp only); exact kept)); (try simp only [Act.put, List.setIfInBounds_toArray, List.set_cons_zero, List.set_cons_succ])
       refine doneL (by kernel_rfl) ?_
       go_wp2_with fail
       go_meet
       exact ⟨_, t9, rfl, rfl, And.left hHeld, by omega, by first | exact (Blk.at _ 56 rfl).at' | exact At.mk2 (put2_cells OG _ _).1 (put2_cells OG _ _).2, by first | exact ht9.keep ((Ext.refl _).alloc _).ik | exact ht9.keep (IK.put2 OG _ _ _ _)⟩
     ·skip
      go_simp; refine hK.out _ _ ?_ (fun hHeld => ?_); rotate_left; clear hK K; rotate_right; (focus ((try dsimp only); exact kept)); (try simp only [Act.put, List.setIfInBounds_toArray, List.set_cons_zero, List.set_cons_succ])
      refine consL (i := 8) (by kernel_rfl) rfl (fun K hK => ?_)
      go_simp; refine hK.out _ _ ?_ (fun hHeld => ?_); rotate_left; clear hK K; rotate_right; (focus ((try dsimp only); exact kept)); (try simp only [Act.put, List.setIfInBounds_toArray, List.set_cons_zero, List.set_cons_succ])
      refine consL (i := 9) (by kernel_rfl) rfl (fun K hK => ?_)
      go_simp; go_at_call 57; refine (ftimes_c o3 o7 (p / gg) (r / hh) _ _ _ (by first | exact (Blk.at _ _ rfl).at' | exact (Blk.at _ _ (by simp)).at' | exact ((Blk.at _ _ rfl).alloc _).at' | exact ((Blk.at _ _ (by simp)).alloc _).at') (by first | exact ho3.keep (Ext.ik (Ext.trans HXo7.out ((Ext.refl _).alloc _))) | exact ho3.keep (Ext.ik (Ext.trans HXo7.out (((Ext.refl _).alloc _).alloc _))) | exact ho3.keep (Ext.ik (Ext.trans ((Ext.refl _).alloc _) (Ext.trans HXo7.out ((Ext.refl _).alloc _))))) (by first | exact ho7.keep ((Ext.refl _).alloc _).ik | exact ho7.keep (((Ext.refl _).alloc _).alloc _).ik)).mono ?_; rw [L1.out]; rintro e w9 ⟨t9, rfl, ht9, hxt9⟩; have HXt9 := Lib.hid hxt9; have sz := Ext.size hxt9; (try simp only [World.size_alloc, World.size_drew] at sz); (first | (have OG := Own.ext hxt9 ((Blk.at #[.bool false, .slice none 0 0] 56 rfl).own 2 (by simp) noIntW) (by omega)) | (have OG := Own.ext hxt9 (((Blk.at #[.bool false, .slice none 0 0] 56 rfl).alloc _).own 2 (by simp) noIntW) (by omega)) | (have OG := Own.ext hxt9 OG (by omega)) | (have OG := Own.ext (Ext.trans ((Ext.refl _).alloc _) hxt9) OG (by omega)) | skip); (try simp only [World.size_alloc] at OG); go_wp2_with fail; refine hK.out _ _ ?_ (fun hHeld => ?_); rotate_left; clear hK K; rotate_right; (focus ((try dsimp only); exact kept)); (try simp only [Act.put, List.setIfInBounds_toArray, List.set_cons_zero, List.set_cons_succ])
      refine takeL (i := 10) (v := ?_) rfl (by kernel_rfl) (by kernel_rfl) (by kernel_rfl) (fun _ _ _ h => h) (Or.inl ⟨by rfl, ?_⟩) (by assumption) ?_; rotate_left; (focus (intro wq hSw; (try dsimp only at hSw); go_simp; try with_reducible rfl)); (try simp only [Act.put, List.setIfInBounds_toArray, List.set_cons_zero, List.set_cons_succ])
      refine takeL (i := 11) (v := ?_) rfl (by kernel_rfl) (by kernel_rfl) (by kernel_rfl) (fun _ _ _ h => h) (Or.inl ⟨by rfl, ?_⟩) (by assumption) ?_; rotate_left; (focus (intro wq hSw; (try dsimp only at hSw); go_simp; try with_reducible rfl)); (try simp only [Act.put, List.setIfInBounds_toArray, List.set_cons_zero, List.set_cons_succ])
      refine takeL (i := 12) (v := ?_) rfl (by kernel_rfl) (by kernel_rfl) (by kernel_rfl) (fun _ _ _ h => h) (Or.inl ⟨by rfl, ?_⟩) (by assumption) ?_; rotate_left; (focus (intro wq hSw; (try dsimp only at hSw); go_simp; try with_reducible rfl)); (try simp only [Act.put, List.setIfInBounds_toArray, List.set_cons_zero, List.set_cons_succ])
      refine consL (i := 14) (by kernel_rfl) rfl (fun K hK => ?_); go_simp; refine hK.out _ _ ?_ (fun hHeld => ?_); rotate_left; clear hK K; rotate_right; (focus ((try dsimp only); exact kept)); (try simp only [Act.put, List.setIfInBounds_toArray, List.set_cons_zero, List.set_cons_succ])
      refine consL (i := 15) (by kernel_rfl) rfl (fun K hK => ?_); go_simp; refine hK.out _ _ ?_ (fun hHeld => ?_); rotate_left; clear hK K; rotate_right; (focus ((try dsimp only); exact kept)); (try simp only [Act.put, List.setIfInBounds_toArray, List.set_cons_zero, List.set_cons_succ])
      refine doneL (by kernel_rfl) ?_
      go_wp2_with fail
      go_meet
      exact ⟨_, t9, rfl, rfl, And.left hHeld, by omega, by first | exact (Blk.at _ 56 rfl).at' | exact At.mk2 (put2_cells OG _ _).1 (put2_cells OG _ _).2, by first | exact ht9.keep ((Ext.refl _).alloc _).ik | exact ht9.keep (IK.put2 OG _ _ _ _)⟩
    ·skip
     go_simp; refine hK.out _ _ ?_ (fun hHeld => ?_); rotate_left; clear hK K; rotate_right; (focus ((try dsimp only); exact kept)); (try simp only [Act.put, List.setIfInBounds_toArray, List.set_cons_zero, List.set_cons_succ])
     refine consL (i := 7) (by kernel_rfl) rfl (fun K hK => ?_)
     go_simp; go_at_call 52; refine (over_c b.n g2 r hh _ (HB.out.num.keep (Ext.ik (Ext.trans HW.out (And.left (by assumption))))) (HG2.out.keep (Ext.ik (And.left (by assumption)))) (by omega)).mono ?_; rintro e w7 ⟨o7, rfl, ho7, hxo7⟩; have HXo7 := Lib.hid hxo7; have sz := Ext.size hxo7; (try simp only [World.size_alloc, World.size_drew] at sz); (first | (have OG := Own.ext hxo7 ((Blk.at #[.bool false, .slice none 0 0] 56 rfl).own 2 (by simp) noIntW) (by omega)) | (have OG := Own.ext hxo7 (((Blk.at #[.bool false, .slice none 0 0] 56 rfl).alloc _).own 2 (by simp) noIntW) (by omega)) | (have OG := Own.ext hxo7 OG (by omega)) | (have OG := Own.ext (Ext.trans ((Ext.refl _).alloc _) hxo7) OG (by omega)) | skip); (try simp only [World.size_alloc] at OG); go_wp2_with fail; refine hK.out _ _ ?_ (fun hHeld => ?_); rotate_left; clear hK K; rotate_right; (focus ((try dsimp only); exact kept)); (try simp only [Act.put, List.setIfInBounds_toArray, List.set_cons_zero, List.set_cons_succ])
     refine consL (i := 8) (by kernel_rfl) rfl (fun K hK => ?_)
     go_simp; refine hK.out _ _ ?_ (fun hHeld => ?_); rotate_left; clear hK K; rotate_right; (focus ((try dsimp only); exact kept)); (try simp only [Act.put, List.setIfInBounds_toArray, List.set_cons_zero, List.set_cons_succ])
     refine consL (i := 9) (by kernel_rfl) rfl (fun K hK => ?_)
     go_simp; go_at_call 57; refine (ftimes_c o3 o7 (p / gg) (r / hh) _ _ _ (by first | exact (Blk.at _ _ rfl).at' | exact (Blk.at _ _ (by simp)).at' | exact ((Blk.at _ _ rfl).alloc _).at' | exact ((Blk.at _ _ (by simp)).alloc _).at') (by first | exact ho3.keep (Ext.ik (Ext.trans HXo7.out ((Ext.refl _).alloc _))) | exact ho3.keep (Ext.ik (Ext.trans HXo7.out (((Ext.refl _).alloc _).alloc _))) | exact ho3.keep (Ext.ik (Ext.trans ((Ext.refl _).alloc _) (Ext.trans HXo7.out ((Ext.refl _).alloc _))))) (by first | exact ho7.keep ((Ext.refl _).alloc _).ik | exact ho7.keep (((Ext.refl _).alloc _).alloc _).ik)).mono ?_; rw [L1.out]; rintro e w9 ⟨t9, rfl, ht9, hxt9⟩; have HXt9 := Lib.hid hxt9; have sz := Ext.size hxt9; (try simp only [World.size_alloc, World.size_drew] at sz); (first | (have OG := Own.ext hxt9 ((Blk.at #[.bool false, .slice none 0 0] 56 rfl).own 2 (by simp) noIntW) (by omega)) | (have OG := Own.ext hxt9 (((Blk.at #[.bool false, .slice none 0 0] 56 rfl).alloc _).own 2 (by simp) noIntW) (by omega)) | (have OG := Own.ext hxt9 OG (by omega)) | (have OG := Own.ext (Ext.trans ((Ext.refl _).alloc _) hxt9) OG (by omega)) | skip); (try simp only [World.size_alloc] at OG); go_wp2_with fail; refine hK.out _ _ ?_ (fun hHeld => ?_); rotate_left; clear hK K; rotate_right; (focus ((try dsimp only); exact kept)); (try simp only [Act.put, List.setIfInBounds_toArray, List.set_cons_zero, List.set_cons_succ])
     refine takeL (i := 10) (v := ?_) rfl (by kernel_rfl) (by kernel_rfl) (by kernel_rfl) (fun _ _ _ h => h) (Or.inl ⟨by rfl, ?_⟩) (by assumption) ?_; rotate_left; (focus (intro wq hSw; (try dsimp only at hSw); go_simp; try with_reducible rfl)); (try simp only [Act.put, List.setIfInBounds_toArray, List.set_cons_zero, List.set_cons_succ])
     refine takeL (i := 11) (v := ?_) rfl (by kernel_rfl) (by kernel_rfl) (by kernel_rfl) (fun _ _ _ h => h) (Or.inl ⟨by rfl, ?_⟩) (by assumption) ?_; rotate_left; (focus (intro wq hSw; (try dsimp only at hSw); go_simp; try with_reducible rfl)); (try simp only [Act.put, List.setIfInBounds_toArray, List.set_cons_zero, List.set_cons_succ])
     refine takeL (i := 12) (v := ?_) rfl (by kernel_rfl) (by kernel_rfl) (by kernel_rfl) (fun _ _ _ h => h) (Or.inl ⟨by rfl, ?_⟩) (by assumption) ?_; rotate_left; (focus (intro wq hSw; (try dsimp only at hSw); go_simp; try with_reducible rfl)); (try simp only [Act.put, List.setIfInBounds_toArray, List.set_cons_zero, List.set_cons_succ])
     refine consL (i := 14) (by kernel_rfl) rfl (fun K hK => ?_); go_simp; refine hK.out _ _ ?_ (fun hHeld => ?_); rotate_left; clear hK K; rotate_right; (focus ((try dsimp only); exact kept)); (try simp only [Act.put, List.setIfInBounds_toArray, List.set_cons_zero, List.set_cons_succ])
     refine consL (i := 15) (by kernel_rfl) rfl (fun K hK => ?_); go_simp; refine hK.out _ _ ?_ (fun hHeld => ?_); rotate_left; clear hK K; rotate_right; (focus ((try dsimp only); exact kept)); (try simp only [Act.put, List.setIfInBounds_toArray, List.set_cons_zero, List.set_cons_succ])
     refine doneL (by kernel_rfl) ?_
     go_wp2_with fail
     go_meet
     exact ⟨_, t9, rfl, rfl, And.left hHeld, by omega, by first | exact (Blk.at _ 56 rfl).at' | exact At.mk2 (put2_cells OG _ _).1 (put2_cells OG _ _).2, by first | exact ht9.keep ((Ext.refl _).alloc _).ik | exact ht9.keep (IK.put2 OG _ _ _ _)⟩
   ·skip
    go_simp; refine hK.out _ _ ?_ (fun hHeld => ?_); rotate_left; clear hK K; rotate_right; (focus ((try dsimp only); exact kept)); (try simp only [Act.put, List.setIfInBounds_toArray, List.set_cons_zero, List.set_cons_succ])
    refine consL (i := 3) (by kernel_rfl) rfl (fun K hK => ?_)
    go_simp; go_at_call 52; refine (over_c a.n g1 p gg _ (HA.out.num.keep (Ext.ik (Ext.trans HW.out (And.left (by assumption))))) (HG1.out.keep (Ext.ik (And.left (by assumption)))) (by omega)).mono ?_; rintro e w3 ⟨o3, rfl, ho3, hxo3⟩; have HXo3 := Lib.hid hxo3; have sz := Ext.size hxo3; (try simp only [World.size_alloc, World.size_drew] at sz); (first | (have OG := Own.ext hxo3 ((Blk.at #[.bool false, .slice none 0 0] 56 rfl).own 2 (by simp) noIntW) (by omega)) | (have OG := Own.ext hxo3 (((Blk.at #[.bool false, .slice none 0 0] 56 rfl).alloc _).own 2 (by simp) noIntW) (by omega)) | (have OG := Own.ext hxo3 OG (by omega)) | (have OG := Own.ext (Ext.trans ((Ext.refl _).alloc _) hxo3) OG (by omega)) | skip); (try simp only [World.size_alloc] at OG); go_wp2_with fail; refine hK.out _ _ ?_ (fun hHeld => ?_); rotate_left; clear hK K; rotate_right; (focus ((try dsimp only); exact kept)); (try simp only [Act.put, List.setIfInBounds_toArray, List.set_cons_zero, List.set_cons_succ])
    refine consL (i := 7) (by kernel_rfl) rfl (fun K hK => ?_)
    go_simp; go_at_call 52; refine (over_c b.n g2 r hh _ (HB.out.num.keep (Ext.ik (Ext.trans HW.out (And.left (by assumption))))) (HG2.out.keep (Ext.ik (And.left (by assumption)))) (by omega)).mono ?_; rintro e w7 ⟨o7, rfl, ho7, hxo7⟩; have HXo7 := Lib.hid hxo7; have sz := Ext.size hxo7; (try simp only [World.size_alloc, World.size_drew] at sz); (first | (have OG := Own.ext hxo7 ((Blk.at #[.bool false, .slice none 0 0] 56 rfl).own 2 (by simp) noIntW) (by omega)) | (have OG := Own.ext hxo7 (((Blk.at #[.bool false, .slice none 0 0] 56 rfl).alloc _).own 2 (by simp) noIntW) (by omega)) | (have OG := Own.ext hxo7 OG (by omega)) | (have OG := Own.ext (Ext.trans ((Ext.refl _).alloc _) hxo7) OG (by omega)) | skip); (try simp only [World.size_alloc] at OG); go_wp2_with fail; refine hK.out _ _ ?_ (fun hHeld => ?_); rotate_left; clear hK K; rotate_right; (focus ((try dsimp only); exact kept)); (try simp only [Act.put, List.setIfInBounds_toArray, List.set_cons_zero, List.set_cons_succ])
    refine consL (i := 8) (by kernel_rfl) rfl (fun K hK => ?_)
    go_simp; refine hK.out _ _ ?_ (fun hHeld => ?_); rotate_left; clear hK K; rotate_right; (focus ((try dsimp only); exact kept)); (try simp only [Act.put, List.setIfInBounds_toArray, List.set_cons_zero, List.set_cons_succ])
    refine consL (i := 9) (by kernel_rfl) rfl (fun K hK => ?_)
    go_simp; go_at_call 57; refine (ftimes_c o3 o7 (p / gg) (r / hh) _ _ _ (by first | exact (Blk.at _ _ rfl).at' | exact (Blk.at _ _ (by simp)).at' | exact ((Blk.at _ _ rfl).alloc _).at' | exact ((Blk.at _ _ (by simp)).alloc _).at') (by first | exact ho3.keep (Ext.ik (Ext.trans HXo7.out ((Ext.refl _).alloc _))) | exact ho3.keep (Ext.ik (Ext.trans HXo7.out (((Ext.refl _).alloc _).alloc _))) | exact ho3.keep (Ext.ik (Ext.trans ((Ext.refl _).alloc _) (Ext.trans HXo7.out ((Ext.refl _).alloc _))))) (by first | exact ho7.keep ((Ext.refl _).alloc _).ik | exact ho7.keep (((Ext.refl _).alloc _).alloc _).ik)).mono ?_; rw [L1.out]; rintro e w9 ⟨t9, rfl, ht9, hxt9⟩; have HXt9 := Lib.hid hxt9; have sz := Ext.size hxt9; (try simp only [World.size_alloc, World.size_drew] at sz); (first | (have OG := Own.ext hxt9 ((Blk.at #[.bool false, .slice none 0 0] 56 rfl).own 2 (by simp) noIntW) (by omega)) | (have OG := Own.ext hxt9 (((Blk.at #[.bool false, .slice none 0 0] 56 rfl).alloc _).own 2 (by simp) noIntW) (by omega)) | (have OG := Own.ext hxt9 OG (by omega)) | (have OG := Own.ext (Ext.trans ((Ext.refl _).alloc _) hxt9) OG (by omega)) | skip); (try simp only [World.size_alloc] at OG); go_wp2_with fail; refine hK.out _ _ ?_ (fun hHeld => ?_); rotate_left; clear hK K; rotate_right; (focus ((try dsimp only); exact kept)); (try simp only [Act.put, List.setIfInBounds_toArray, List.set_cons_zero, List.set_cons_succ])
    refine takeL (i := 10) (v := ?_) rfl (by kernel_rfl) (by kernel_rfl) (by kernel_rfl) (fun _ _ _ h => h) (Or.inl ⟨by rfl, ?_⟩) (by assumption) ?_; rotate_left; (focus (intro wq hSw; (try dsimp only at hSw); go_simp; try with_reducible rfl)); (try simp only [Act.put, List.setIfInBounds_toArray, List.set_cons_zero, List.set_cons_succ])
    refine takeL (i := 11) (v := ?_) rfl (by kernel_rfl) (by kernel_rfl) (by kernel_rfl) (fun _ _ _ h => h) (Or.inl ⟨by rfl, ?_⟩) (by assumption) ?_; rotate_left; (focus (intro wq hSw; (try dsimp only at hSw); go_simp; try with_reducible rfl)); (try simp only [Act.put, List.setIfInBounds_toArray, List.set_cons_zero, List.set_cons_succ])
    refine takeL (i := 12) (v := ?_) rfl (by kernel_rfl) (by kernel_rfl) (by kernel_rfl) (fun _ _ _ h => h) (Or.inl ⟨by rfl, ?_⟩) (by assumption) ?_; rotate_left; (focus (intro wq hSw; (try dsimp only at hSw); go_simp; try with_reducible rfl)); (try simp only [Act.put, List.setIfInBounds_toArray, List.set_cons_zero, List.set_cons_succ])
    refine consL (i := 14) (by kernel_rfl) rfl (fun K hK => ?_); go_simp; refine hK.out _ _ ?_ (fun hHeld => ?_); rotate_left; clear hK K; rotate_right; (focus ((try dsimp only); exact kept)); (try simp only [Act.put, List.setIfInBounds_toArray, List.set_cons_zero, List.set_cons_succ])
    refine consL (i := 15) (by kernel_rfl) rfl (fun K hK => ?_); go_simp; refine hK.out _ _ ?_ (fun hHeld => ?_); rotate_left; clear hK K; rotate_right; (focus ((try dsimp only); exact kept)); (try simp only [Act.put, List.setIfInBounds_toArray, List.set_cons_zero, List.set_cons_succ])
    refine doneL (by kernel_rfl) ?_
    go_wp2_with fail
    go_meet
    exact ⟨_, t9, rfl, rfl, And.left hHeld, by omega, by first | exact (Blk.at _ 56 rfl).at' | exact At.mk2 (put2_cells OG _ _).1 (put2_cells OG _ _).2, by first | exact ht9.keep ((Ext.refl _).alloc _).ik | exact ht9.keep (IK.put2 OG _ _ _ _)⟩
  case rest =>
   obtain ⟨H8, x8, rfl, rfl, EE, lh8, A8, hi8⟩ := hcut
   replace A0 := At.ext EE A0 (by simp)
   replace A1 := At.ext EE A1 (by simp)
   replace AG0 := At.ext EE AG0 (by simp)
   replace AG1 := At.ext EE AG1 (by simp)
   replace O2 := Own.ext EE O2 (by omega)
   replace E0 := E0.trans EE
   replace HG1 := Lib.hid (HG1.out.keep EE.ik)
   replace HG2 := Lib.hid (HG2.out.keep EE.ik)
   have HI8 := Lib.hid hi8
   clear EE hi8 HW lv lg0 lg1
   have HW := Lib.hid E0
   have lv := O2.lt (by omega)
   have lg0 := AG0.lt (by simp)
   have lg1 := AG1.lt (by simp)
   obtain ⟨wd, rfl⟩ : ∃ W, W = wc := ⟨_, rfl⟩
   go_upto_region 3 with (fail)
   go_cut [10, 11] (fun s7 s8 wx => ∃ (H : Nat) (x : IV), s7 = .pointer (some ⟨H, 0, none⟩) ∧ s8 = .int .i64 0 ∧ Ext wd wx ∧ B + 1 + 1 < H ∧ At wx H #[.bool x.neg, .slice x.a x.n x.c] ∧ IsI wx x (q / hh * (s / gg)))
   case first =>
    refine wp_region_held_drew (S := fun w' => Ext wd w' ∧ At w' B #[.bool a.n.neg, .slice a.n.a a.n.n a.n.c, .bool a.d.neg, .slice a.d.a a.d.n a.d.c] ∧ At w' (B + 1) #[.bool b.n.neg, .slice b.n.a b.n.n b.n.c, .bool b.d.neg, .slice b.d.a b.d.n b.d.c] ∧ At w' G0 #[.bool g1.neg, .slice g1.a g1.n g1.c] ∧ At w' G1 #[.bool g2.neg, .slice g2.a g2.n g2.c]) (by kernel_rfl) ?_ (fun hHeld => ?_)
    ·exact ⟨(Ext.refl wd).drew, A0, A1, AG0, AG1⟩
    refine takeL (i := 0) (v := ?_) rfl (by kernel_rfl) (by kernel_rfl) (by kernel_rfl) (fun _ _ _ h => h) (Or.inl ⟨by rfl, ?_⟩) (by assumption) ?_; rotate_left; (focus (intro wq hSw; (try dsimp only at hSw); go_simp; try with_reducible rfl)); (try simp only [Act.put, List.setIfInBounds_toArray, List.set_cons_zero, List.set_cons_succ])
    refine takeL (i := 2) (v := ?_) rfl (by kernel_rfl) (by kernel_rfl) (by kernel_rfl) (fun _ _ _ h => h) (Or.inl ⟨by rfl, ?_⟩) (by assumption) ?_; rotate_left; (focus (intro wq hSw; (try dsimp only at hSw); go_simp; try with_reducible rfl)); (try simp only [Act.put, List.setIfInBounds_toArray, List.set_cons_zero, List.set_cons_succ])
    refine takeL (i := 4) (v := ?_) rfl (by kernel_rfl) (by kernel_rfl) (by kernel_rfl) (fun _ _ _ h => h) (Or.inl ⟨by rfl, ?_⟩) (by assumption) ?_; rotate_left; (focus (intro wq hSw; (try dsimp only at hSw); go_simp; try with_reducible rfl)); (try simp only [Act.put, List.setIfInBounds_toArray, List.set_cons_zero, List.set_cons_succ])
    refine takeL (i := 6) (v := ?_) rfl (by kernel_rfl) (by kernel_rfl) (by kernel_rfl) (fun _ _ _ h => h) (Or.inl ⟨by rfl, ?_⟩) (by assumption) ?_; rotate_left; (focus (intro wq hSw; (try dsimp only at hSw); go_simp; try with_reducible rfl)); (try simp only [Act.put, List.setIfInBounds_toArray, List.set_cons_zero, List.set_cons_succ])
    refine cons2L (i := 1) (j := 13) (by kernel_rfl) rfl rfl (fun K hK => ?_) (fun K hK => ?_)
    ·skip
     go_simp; go_at_call 56; refine (Den_c a p q _ (HA.out.keep (Ext.ik (Ext.trans HW.out (And.left (by assumption)))))).mono ?_; rintro e w1 ⟨t1, rfl, ht1, hxt1⟩; have HXt1 := Lib.hid hxt1; have sz := Ext.size hxt1; (try simp only [World.size_alloc, World.size_drew] at sz); (first | (have OG := Own.ext hxt1 ((Blk.at #[.bool false, .slice none 0 0] 56 rfl).own 2 (by simp) noIntW) (by omega)) | (have OG := Own.ext hxt1 (((Blk.at #[.bool false, .slice none 0 0] 56 rfl).alloc _).own 2 (by simp) noIntW) (by omega)) | (have OG := Own.ext hxt1 OG (by omega)) | (have OG := Own.ext (Ext.trans ((Ext.refl _).alloc _) hxt1) OG (by omega)) | skip); (try simp only [World.size_alloc] at OG); go_wp2_with fail; refine hK.out _ _ ?_ (fun hHeld => ?_); rotate_left; clear hK K; rotate_right; (focus ((try dsimp only); exact kept)); (try simp only [Act.put, List.setIfInBounds_toArray, List.set_cons_zero, List.set_cons_succ])
     refine cons2L (i := 3) (j := 13) (by kernel_rfl) rfl rfl (fun K hK => ?_) (fun K hK => ?_)
     ·skip
      go_simp; go_at_call 52; refine (over_c t1 g2 q hh _ (by first | exact ht1 | exact ht1.keep ((Ext.refl _).alloc _).ik) (HG2.out.keep (Ext.ik (And.left (by assumption)))) (by omega)).mono ?_; rintro e w3 ⟨o3, rfl, ho3, hxo3⟩; have HXo3 := Lib.hid hxo3; have sz := Ext.size hxo3; (try simp only [World.size_alloc, World.size_drew] at sz); (first | (have OG := Own.ext hxo3 ((Blk.at #[.bool false, .slice none 0 0] 56 rfl).own 2 (by simp) noIntW) (by omega)) | (have OG := Own.ext hxo3 (((Blk.at #[.bool false, .slice none 0 0] 56 rfl).alloc _).own 2 (by simp) noIntW) (by omega)) | (have OG := Own.ext hxo3 OG (by omega)) | (have OG := Own.ext (Ext.trans ((Ext.refl _).alloc _) hxo3) OG (by omega)) | skip); (try simp only [World.size_alloc] at OG); go_wp2_with fail; refine hK.out _ _ ?_ (fun hHeld => ?_); rotate_left; clear hK K; rotate_right; (focus ((try dsimp only); exact kept)); (try simp only [Act.put, List.setIfInBounds_toArray, List.set_cons_zero, List.set_cons_succ])
      refine cons2L (i := 5) (j := 13) (by kernel_rfl) rfl rfl (fun K hK => ?_) (fun K hK => ?_)
      ·skip
       go_simp; go_at_call 56; refine (Den_c b r s _ (HB.out.keep (Ext.ik (Ext.trans HW.out (And.left (by assumption)))))).mono ?_; rintro e w5 ⟨t5, rfl, ht5, hxt5⟩; have HXt5 := Lib.hid hxt5; have sz := Ext.size hxt5; (try simp only [World.size_alloc, World.size_drew] at sz); (first | (have OG := Own.ext hxt5 ((Blk.at #[.bool false, .slice none 0 0] 56 rfl).own 2 (by simp) noIntW) (by omega)) | (have OG := Own.ext hxt5 (((Blk.at #[.bool false, .slice none 0 0] 56 rfl).alloc _).own 2 (by simp) noIntW) (by omega)) | (have OG := Own.ext hxt5 OG (by omega)) | (have OG := Own.ext (Ext.trans ((Ext.refl _).alloc _) hxt5) OG (by omega)) | skip); (try simp only [World.size_alloc] at OG); go_wp2_with fail; refine hK.out _ _ ?_ (fun hHeld => ?_); rotate_left; clear hK K; rotate_right; (focus ((try dsimp only); exact kept)); (try simp only [Act.put, List.setIfInBounds_toArray, List.set_cons_zero, List.set_cons_succ])
       refine cons2L (i := 7) (j := 13) (by kernel_rfl) rfl rfl (fun K hK => ?_) (fun K hK => ?_)
       ·skip
        go_simp; go_at_call 52; refine (over_c t5 g1 s gg _ (by first | exact ht5 | exact ht5.keep ((Ext.refl _).alloc _).ik) (HG1.out.keep (Ext.ik (And.left (by assumption)))) (by omega)).mono ?_; rintro e w7 ⟨o7, rfl, ho7, hxo7⟩; have HXo7 := Lib.hid hxo7; have sz := Ext.size hxo7; (try simp only [World.size_alloc, World.size_drew] at sz); (first | (have OG := Own.ext hxo7 ((Blk.at #[.bool false, .slice none 0 0] 56 rfl).own 2 (by simp) noIntW) (by omega)) | (have OG := Own.ext hxo7 (((Blk.at #[.bool false, .slice none 0 0] 56 rfl).alloc _).own 2 (by simp) noIntW) (by omega)) | (have OG := Own.ext hxo7 OG (by omega)) | (have OG := Own.ext (Ext.trans ((Ext.refl _).alloc _) hxo7) OG (by omega)) | skip); (try simp only [World.size_alloc] at OG); go_wp2_with fail; refine hK.out _ _ ?_ (fun hHeld => ?_); rotate_left; clear hK K; rotate_right; (focus ((try dsimp only); exact kept)); (try simp only [Act.put, List.setIfInBounds_toArray, List.set_cons_zero, List.set_cons_succ])
        refine cons2L (i := 8) (j := 13) (by kernel_rfl) rfl rfl (fun K hK => ?_) (fun K hK => ?_)
        ·skip
         go_simp; refine hK.out _ _ ?_ (fun hHeld => ?_); rotate_left; clear hK K; rotate_right; (focus ((try dsimp only); exact kept)); (try simp only [Act.put, List.setIfInBounds_toArray, List.set_cons_zero, List.set_cons_succ])
         refine cons2L (i := 9) (j := 13) (by kernel_rfl) rfl rfl (fun K hK => ?_) (fun K hK => ?_)
         ·skip
          go_simp; go_at_call 57; refine (ftimes_c o3 o7 (q / hh) (s / gg) _ _ _ (by first | exact (Blk.at _ _ rfl).at' | exact (Blk.at _ _ (by simp)).at' | exact ((Blk.at _ _ rfl).alloc _).at' | exact ((Blk.at _ _ (by simp)).alloc _).at') (by first | exact ho3.keep (Ext.ik (Ext.trans HXt5.out (Ext.trans HXo7.out ((Ext.refl _).alloc _)))) | exact ho3.keep (Ext.ik (Ext.trans HXt5.out (Ext.trans HXo7.out (((Ext.refl _).alloc _).alloc _)))) | exact ho3.keep (Ext.ik (Ext.trans ((Ext.refl _).alloc _) (Ext.trans HXt5.out (Ext.trans HXo7.out ((Ext.refl _).alloc _))))) | exact ho3.keep (Ext.ik (Ext.trans HXt5.out (Ext.trans ((Ext.refl _).alloc _) (Ext.trans HXo7.out ((Ext.refl _).alloc _)))))) (by first | exact ho7.keep ((Ext.refl _).alloc _).ik | exact ho7.keep (((Ext.refl _).alloc _).alloc _).ik)).mono ?_; rw [L2.out]; rintro e w9 ⟨t9, rfl, ht9, hxt9⟩; have HXt9 := Lib.hid hxt9; have sz := Ext.size hxt9; (try simp only [World.size_alloc, World.size_drew] at sz); (first | (have OG := Own.ext hxt9 ((Blk.at #[.bool false, .slice none 0 0] 56 rfl).own 2 (by simp) noIntW) (by omega)) | (have OG := Own.ext hxt9 (((Blk.at #[.bool false, .slice none 0 0] 56 rfl).alloc _).own 2 (by simp) noIntW) (by omega)) | (have OG := Own.ext hxt9 OG (by omega)) | (have OG := Own.ext (Ext.trans ((Ext.refl _).alloc _) hxt9) OG (by omega)) | skip); (try simp only [World.size_alloc] at OG); go_wp2_with fail; refine hK.out _ _ ?_ (fun hHeld => ?_); rotate_left; clear hK K; rotate_right; (focus ((try dsimp only); exact kept)); (try simp only [Act.put, List.setIfInBounds_toArray, List.set_cons_zero, List.set_cons_succ])
          refine takeL (i := 10) (v := ?_) rfl (by kernel_rfl) (by kernel_rfl) (by kernel_rfl) (fun _ _ _ h => h) (Or.inl ⟨by rfl, ?_⟩) (by assumption) ?_; rotate_left; (focus (intro wq hSw; (try dsimp only at hSw); go_simp; try with_reducible rfl)); (try simp only [Act.put, List.setIfInBounds_toArray, List.set_cons_zero, List.set_cons_succ])
          refine takeL (i := 11) (v := ?_) rfl (by kernel_rfl) (by kernel_rfl) (by kernel_rfl) (fun _ _ _ h => h) (Or.inl ⟨by rfl, ?_⟩) (by assumption) ?_; rotate_left; (focus (intro wq hSw; (try dsimp only at hSw); go_simp; try with_reducible rfl)); (try simp only [Act.put, List.setIfInBounds_toArray, List.set_cons_zero, List.set_cons_succ])
          refine takeL (i := 12) (v := ?_) rfl (by kernel_rfl) (by kernel_rfl) (by kernel_rfl) (fun _ _ _ h => h) (Or.inl ⟨by rfl, ?_⟩) (by assumption) ?_; rotate_left; (focus (intro wq hSw; (try dsimp only at hSw); go_simp; try with_reducible rfl)); (try simp only [Act.put, List.setIfInBounds_toArray, List.set_cons_zero, List.set_cons_succ])
          refine consL (i := 13) (by kernel_rfl) rfl (fun K hK => ?_); go_simp; refine hK.out _ _ ?_ (fun hHeld => ?_); rotate_left; clear hK K; rotate_right; (focus ((try dsimp only); exact kept)); (try simp only [Act.put, List.setIfInBounds_toArray, List.set_cons_zero, List.set_cons_succ])
          refine consL (i := 14) (by kernel_rfl) rfl (fun K hK => ?_); go_simp; refine hK.out _ _ ?_ (fun hHeld => ?_); rotate_left; clear hK K; rotate_right; (focus ((try dsimp only); exact kept)); (try simp only [Act.put, List.setIfInBounds_toArray, List.set_cons_zero, List.set_cons_succ])
          refine consL (i := 15) (by kernel_rfl) rfl (fun K hK => ?_); go_simp; refine hK.out _ _ ?_ (fun hHeld => ?_); rotate_left; clear hK K; rotate_right; (focus ((try dsimp only); exact kept)); (try simp only [Act.put, List.setIfInBounds_toArray, List.set_cons_zero, List.set_cons_succ])
          refine doneL (by kernel_rfl) ?_
          go_wp2_with fail
          go_meet
          exact ⟨_, t9, rfl, rfl, And.left hHeld, by omega, by first | exact (Blk.at _ 56 rfl).at' | exact At.mk2 (put2_cells OG _ _).1 (put2_cells OG _ _).2, by first | exact ht9.keep ((Ext.refl _).alloc _).ik | exact ht9.keep (IK.put2 OG _ _ _ _)⟩
         ·skip
          go_simp; refine hK.out _ _ ?_ (fun hHeld => ?_); rotate_left; clear hK K; rotate_right; (focus ((try dsimp only); exact kept)); (try simp only [Act.put, List.setIfInBounds_toArray, List.set_cons_zero, List.set_cons_succ])
          refine consL (i := 9) (by kernel_rfl) rfl (fun K hK => ?_)
          go_simp; go_at_call 57; refine (ftimes_c o3 o7 (q / hh) (s / gg) _ _ _ (by first | exact (Blk.at _ _ rfl).at' | exact (Blk.at _ _ (by simp)).at' | exact ((Blk.at _ _ rfl).alloc _).at' | exact ((Blk.at _ _ (by simp)).alloc _).at') (by first | exact ho3.keep (Ext.ik (Ext.trans HXt5.out (Ext.trans HXo7.out ((Ext.refl _).alloc _)))) | exact ho3.keep (Ext.ik (Ext.trans HXt5.out (Ext.trans HXo7.out (((Ext.refl _).alloc _).alloc _)))) | exact ho3.keep (Ext.ik (Ext.trans ((Ext.refl _).alloc _) (Ext.trans HXt5.out (Ext.trans HXo7.out ((Ext.refl _).alloc _))))) | exact ho3.keep (Ext.ik (Ext.trans HXt5.out (Ext.trans ((Ext.refl _).alloc _) (Ext.trans HXo7.out ((Ext.refl _).alloc _)))))) (by first | exact ho7.keep ((Ext.refl _).alloc _).ik | exact ho7.keep (((Ext.refl _).alloc _).alloc _).ik)).mono ?_; rw [L2.out]; rintro e w9 ⟨t9, rfl, ht9, hxt9⟩; have HXt9 := Lib.hid hxt9; have sz := Ext.size hxt9; (try simp only [World.size_alloc, World.size_drew] at sz); (first | (have OG := Own.ext hxt9 ((Blk.at #[.bool false, .slice none 0 0] 56 rfl).own 2 (by simp) noIntW) (by omega)) | (have OG := Own.ext hxt9 (((Blk.at #[.bool false, .slice none 0 0] 56 rfl).alloc _).own 2 (by simp) noIntW) (by omega)) | (have OG := Own.ext hxt9 OG (by omega)) | (have OG := Own.ext (Ext.trans ((Ext.refl _).alloc _) hxt9) OG (by omega)) | skip); (try simp only [World.size_alloc] at OG); go_wp2_with fail; refine hK.out _ _ ?_ (fun hHeld => ?_); rotate_left; clear hK K; rotate_right; (focus ((try dsimp only); exact kept)); (try simp only [Act.put, List.setIfInBounds_toArray, List.set_cons_zero, List.set_cons_succ])
          refine takeL (i := 10) (v := ?_) rfl (by kernel_rfl) (by kernel_rfl) (by kernel_rfl) (fun _ _ _ h => h) (Or.inl ⟨by rfl, ?_⟩) (by assumption) ?_; rotate_left; (focus (intro wq hSw; (try dsimp only at hSw); go_simp; try with_reducible rfl)); (try simp only [Act.put, List.setIfInBounds_toArray, List.set_cons_zero, List.set_cons_succ])
          refine takeL (i := 11) (v := ?_) rfl (by kernel_rfl) (by kernel_rfl) (by kernel_rfl) (fun _ _ _ h => h) (Or.inl ⟨by rfl, ?_⟩) (by assumption) ?_; rotate_left; (focus (intro wq hSw; (try dsimp only at hSw); go_simp; try with_reducible rfl)); (try simp only [Act.put, List.setIfInBounds_toArray, List.set_cons_zero, List.set_cons_succ])
          refine takeL (i := 12) (v := ?_) rfl (by kernel_rfl) (by kernel_rfl) (by kernel_rfl) (fun _ _ _ h => h) (Or.inl ⟨by rfl, ?_⟩) (by assumption) ?_; rotate_left; (focus (intro wq hSw; (try dsimp only at hSw); go_simp; try with_reducible rfl)); (try simp only [Act.put, List.setIfInBounds_toArray, List.set_cons_zero, List.set_cons_succ])
          refine consL (i := 14) (by kernel_rfl) rfl (fun K hK => ?_); go_simp; refine hK.out _ _ ?_ (fun hHeld => ?_); rotate_left; clear hK K; rotate_right; (focus ((try dsimp only); exact kept)); (try simp only [Act.put, List.setIfInBounds_toArray, List.set_cons_zero, List.set_cons_succ])
          refine consL (i := 15) (by kernel_rfl) rfl (fun K hK => ?_); go_simp; refine hK.out _ _ ?_ (fun hHeld => ?_); rotate_left; clear hK K; rotate_right; (focus ((try dsimp only); exact kept)); (try simp only [Act.put, List.setIfInBounds_toArray, List.set_cons_zero, List.set_cons_succ])
          refine doneL (by kernel_rfl) ?_
          go_wp2_with fail
          go_meet
          exact ⟨_, t9, rfl, rfl, And.left hHeld, by omega, by first | exact (Blk.at _ 56 rfl).at' | exact At.mk2 (put2_cells OG _ _).1 (put2_cells OG _ _).2, by first | exact ht9.keep ((Ext.refl _).alloc _).ik | exact ht9.keep (IK.put2 OG _ _ _ _)⟩
        ·skip
         go_simp; refine hK.out _ _ ?_ (fun hHeld => ?_); rotate_left; clear hK K; rotate_right; (focus ((try dsimp only); exact kept)); (try simp only [Act.put, List.setIfInBounds_toArray, List.set_cons_zero, List.set_cons_succ])
         refine consL (i := 8) (by kernel_rfl) rfl (fun K hK => ?_)
         go_simp; refine hK.out _ _ ?_ (fun hHeld => ?_); rotate_left; clear hK K; rotate_right; (focus ((try dsimp only); exact kept)); (try simp only [Act.put, List.setIfInBounds_toArray, List.set_cons_zero, List.set_cons_succ])
         refine consL (i := 9) (by kernel_rfl) rfl (fun K hK => ?_)
         go_simp; go_at_call 57; refine (ftimes_c o3 o7 (q / hh) (s / gg) _ _ _ (by first | exact (Blk.at _ _ rfl).at' | exact (Blk.at _ _ (by simp)).at' | exact ((Blk.at _ _ rfl).alloc _).at' | exact ((Blk.at _ _ (by simp)).alloc _).at') (by first | exact ho3.keep (Ext.ik (Ext.trans HXt5.out (Ext.trans HXo7.out ((Ext.refl _).alloc _)))) | exact ho3.keep (Ext.ik (Ext.trans HXt5.out (Ext.trans HXo7.out (((Ext.refl _).alloc _).alloc _)))) | exact ho3.keep (Ext.ik (Ext.trans ((Ext.refl _).alloc _) (Ext.trans HXt5.out (Ext.trans HXo7.out ((Ext.refl _).alloc _))))) | exact ho3.keep (Ext.ik (Ext.trans HXt5.out (Ext.trans ((Ext.refl _).alloc _) (Ext.trans HXo7.out ((Ext.refl _).alloc _)))))) (by first | exact ho7.keep ((Ext.refl _).alloc _).ik | exact ho7.keep (((Ext.refl _).alloc _).alloc _).ik)).mono ?_; rw [L2.out]; rintro e w9 ⟨t9, rfl, ht9, hxt9⟩; have HXt9 := Lib.hid hxt9; have sz := Ext.size hxt9; (try simp only [World.size_alloc, World.size_drew] at sz); (first | (have OG := Own.ext hxt9 ((Blk.at #[.bool false, .slice none 0 0] 56 rfl).own 2 (by simp) noIntW) (by omega)) | (have OG := Own.ext hxt9 (((Blk.at #[.bool false, .slice none 0 0] 56 rfl).alloc _).own 2 (by simp) noIntW) (by omega)) | (have OG := Own.ext hxt9 OG (by omega)) | (have OG := Own.ext (Ext.trans ((Ext.refl _).alloc _) hxt9) OG (by omega)) | skip); (try simp only [World.size_alloc] at OG); go_wp2_with fail; refine hK.out _ _ ?_ (fun hHeld => ?_); rotate_left; clear hK K; rotate_right; (focus ((try dsimp only); exact kept)); (try simp only [Act.put, List.setIfInBounds_toArray, List.set_cons_zero, List.set_cons_succ])
         refine takeL (i := 10) (v := ?_) rfl (by kernel_rfl) (by kernel_rfl) (by kernel_rfl) (fun _ _ _ h => h) (Or.inl ⟨by rfl, ?_⟩) (by assumption) ?_; rotate_left; (focus (intro wq hSw; (try dsimp only at hSw); go_simp; try with_reducible rfl)); (try simp only [Act.put, List.setIfInBounds_toArray, List.set_cons_zero, List.set_cons_succ])
         refine takeL (i := 11) (v := ?_) rfl (by kernel_rfl) (by kernel_rfl) (by kernel_rfl) (fun _ _ _ h => h) (Or.inl ⟨by rfl, ?_⟩) (by assumption) ?_; rotate_left; (focus (intro wq hSw; (try dsimp only at hSw); go_simp; try with_reducible rfl)); (try simp only [Act.put, List.setIfInBounds_toArray, List.set_cons_zero, List.set_cons_succ])
         refine takeL (i := 12) (v := ?_) rfl (by kernel_rfl) (by kernel_rfl) (by kernel_rfl) (fun _ _ _ h => h) (Or.inl ⟨by rfl, ?_⟩) (by assumption) ?_; rotate_left; (focus (intro wq hSw; (try dsimp only at hSw); go_simp; try with_reducible rfl)); (try simp only [Act.put, List.setIfInBounds_toArray, List.set_cons_zero, List.set_cons_succ])
         refine consL (i := 14) (by kernel_rfl) rfl (fun K hK => ?_); go_simp; refine hK.out _ _ ?_ (fun hHeld => ?_); rotate_left; clear hK K; rotate_right; (focus ((try dsimp only); exact kept)); (try simp only [Act.put, List.setIfInBounds_toArray, List.set_cons_zero, List.set_cons_succ])
         refine consL (i := 15) (by kernel_rfl) rfl (fun K hK => ?_); go_simp; refine hK.out _ _ ?_ (fun hHeld => ?_); rotate_left; clear hK K; rotate_right; (focus ((try dsimp only); exact kept)); (try simp only [Act.put, List.setIfInBounds_toArray, List.set_cons_zero, List.set_cons_succ])
         refine doneL (by kernel_rfl) ?_
         go_wp2_with fail
         go_meet
         exact ⟨_, t9, rfl, rfl, And.left hHeld, by omega, by first | exact (Blk.at _ 56 rfl).at' | exact At.mk2 (put2_cells OG _ _).1 (put2_cells OG _ _).2, by first | exact ht9.keep ((Ext.refl _).alloc _).ik | exact ht9.keep (IK.put2 OG _ _ _ _)⟩
       ·skip
        go_simp; refine hK.out _ _ ?_ (fun hHeld => ?_); rotate_left; clear hK K; rotate_right; (focus ((try dsimp only); exact kept)); (try simp only [Act.put, List.setIfInBounds_toArray, List.set_cons_zero, List.set_cons_succ])
        refine consL (i := 7) (by kernel_rfl) rfl (fun K hK => ?_)
        go_simp; go_at_call 52; refine (over_c t5 g1 s gg _ (by first | exact ht5 | exact ht5.keep ((Ext.refl _).alloc _).ik) (HG1.out.keep (Ext.ik (And.left (by assumption)))) (by omega)).mono ?_; rintro e w7 ⟨o7, rfl, ho7, hxo7⟩; have HXo7 := Lib.hid hxo7; have sz := Ext.size hxo7; (try simp only [World.size_alloc, World.size_drew] at sz); (first | (have OG := Own.ext hxo7 ((Blk.at #[.bool false, .slice none 0 0] 56 rfl).own 2 (by simp) noIntW) (by omega)) | (have OG := Own.ext hxo7 (((Blk.at #[.bool false, .slice none 0 0] 56 rfl).alloc _).own 2 (by simp) noIntW) (by omega)) | (have OG := Own.ext hxo7 OG (by omega)) | (have OG := Own.ext (Ext.trans ((Ext.refl _).alloc _) hxo7) OG (by omega)) | skip); (try simp only [World.size_alloc] at OG); go_wp2_with fail; refine hK.out _ _ ?_ (fun hHeld => ?_); rotate_left; clear hK K; rotate_right; (focus ((try dsimp only); exact kept)); (try simp only [Act.put, List.setIfInBounds_toArray, List.set_cons_zero, List.set_cons_succ])
        refine consL (i := 8) (by kernel_rfl) rfl (fun K hK => ?_)
        go_simp; refine hK.out _ _ ?_ (fun hHeld => ?_); rotate_left; clear hK K; rotate_right; (focus ((try dsimp only); exact kept)); (try simp only [Act.put, List.setIfInBounds_toArray, List.set_cons_zero, List.set_cons_succ])
        refine consL (i := 9) (by kernel_rfl) rfl (fun K hK => ?_)
        go_simp; go_at_call 57; refine (ftimes_c o3 o7 (q / hh) (s / gg) _ _ _ (by first | exact (Blk.at _ _ rfl).at' | exact (Blk.at _ _ (by simp)).at' | exact ((Blk.at _ _ rfl).alloc _).at' | exact ((Blk.at _ _ (by simp)).alloc _).at') (by first | exact ho3.keep (Ext.ik (Ext.trans HXt5.out (Ext.trans HXo7.out ((Ext.refl _).alloc _)))) | exact ho3.keep (Ext.ik (Ext.trans HXt5.out (Ext.trans HXo7.out (((Ext.refl _).alloc _).alloc _)))) | exact ho3.keep (Ext.ik (Ext.trans ((Ext.refl _).alloc _) (Ext.trans HXt5.out (Ext.trans HXo7.out ((Ext.refl _).alloc _))))) | exact ho3.keep (Ext.ik (Ext.trans HXt5.out (Ext.trans ((Ext.refl _).alloc _) (Ext.trans HXo7.out ((Ext.refl _).alloc _)))))) (by first | exact ho7.keep ((Ext.refl _).alloc _).ik | exact ho7.keep (((Ext.refl _).alloc _).alloc _).ik)).mono ?_; rw [L2.out]; rintro e w9 ⟨t9, rfl, ht9, hxt9⟩; have HXt9 := Lib.hid hxt9; have sz := Ext.size hxt9; (try simp only [World.size_alloc, World.size_drew] at sz); (first | (have OG := Own.ext hxt9 ((Blk.at #[.bool false, .slice none 0 0] 56 rfl).own 2 (by simp) noIntW) (by omega)) | (have OG := Own.ext hxt9 (((Blk.at #[.bool false, .slice none 0 0] 56 rfl).alloc _).own 2 (by simp) noIntW) (by omega)) | (have OG := Own.ext hxt9 OG (by omega)) | (have OG := Own.ext (Ext.trans ((Ext.refl _).alloc _) hxt9) OG (by omega)) | skip); (try simp only [World.size_alloc] at OG); go_wp2_with fail; refine hK.out _ _ ?_ (fun hHeld => ?_); rotate_left; clear hK K; rotate_right; (focus ((try dsimp only); exact kept)); (try simp only [Act.put, List.setIfInBounds_toArray, List.set_cons_zero, List.set_cons_succ])
        refine takeL (i := 10) (v := ?_) rfl (by kernel_rfl) (by kernel_rfl) (by kernel_rfl) (fun _ _ _ h => h) (Or.inl ⟨by rfl, ?_⟩) (by assumption) ?_; rotate_left; (focus (intro wq hSw; (try dsimp only at hSw); go_simp; try with_reducible rfl)); (try simp only [Act.put, List.setIfInBounds_toArray, List.set_cons_zero, List.set_cons_succ])
        refine takeL (i := 11) (v := ?_) rfl (by kernel_rfl) (by kernel_rfl) (by kernel_rfl) (fun _ _ _ h => h) (Or.inl ⟨by rfl, ?_⟩) (by assumption) ?_; rotate_left; (focus (intro wq hSw; (try dsimp only at hSw); go_simp; try with_reducible rfl)); (try simp only [Act.put, List.setIfInBounds_toArray, List.set_cons_zero, List.set_cons_succ])
        refine takeL (i := 12) (v := ?_) rfl (by kernel_rfl) (by kernel_rfl) (by kernel_rfl) (fun _ _ _ h => h) (Or.inl ⟨by rfl, ?_⟩) (by assumption) ?_; rotate_left; (focus (intro wq hSw; (try dsimp only at hSw); go_simp; try with_reducible rfl)); (try simp only [Act.put, List.setIfInBounds_toArray, List.set_cons_zero, List.set_cons_succ])
        refine consL (i := 14) (by kernel_rfl) rfl (fun K hK => ?_); go_simp; refine hK.out _ _ ?_ (fun hHeld => ?_); rotate_left; clear hK K; rotate_right; (focus ((try dsimp only); exact kept)); (try simp only [Act.put, List.setIfInBounds_toArray, List.set_cons_zero, List.set_cons_succ])
        refine consL (i := 15) (by kernel_rfl) rfl (fun K hK => ?_); go_simp; refine hK.out _ _ ?_ (fun hHeld => ?_); rotate_left; clear hK K; rotate_right; (focus ((try dsimp only); exact kept)); (try simp only [Act.put, List.setIfInBounds_toArray, List.set_cons_zero, List.set_cons_succ])
        refine doneL (by kernel_rfl) ?_
        go_wp2_with fail
        go_meet
        exact ⟨_, t9, rfl, rfl, And.left hHeld, by omega, by first | exact (Blk.at _ 56 rfl).at' | exact At.mk2 (put2_cells OG _ _).1 (put2_cells OG _ _).2, by first | exact ht9.keep ((Ext.refl _).alloc _).ik | exact ht9.keep (IK.put2 OG _ _ _ _)⟩
      ·skip
       go_simp; refine hK.out _ _ ?_ (fun hHeld => ?_); rotate_left; clear hK K; rotate_right; (focus ((try dsimp only); exact kept)); (try simp only [Act.put, List.setIfInBounds_toArray, List.set_cons_zero, List.set_cons_succ])
       refine consL (i := 5) (by kernel_rfl) rfl (fun K hK => ?_)
       go_simp; go_at_call 56; refine (Den_c b r s _ (HB.out.keep (Ext.ik (Ext.trans HW.out (And.left (by assumption)))))).mono ?_; rintro e w5 ⟨t5, rfl, ht5, hxt5⟩; have HXt5 := Lib.hid hxt5; have sz := Ext.size hxt5; (try simp only [World.size_alloc, World.size_drew] at sz); (first | (have OG := Own.ext hxt5 ((Blk.at #[.bool false, .slice none 0 0] 56 rfl).own 2 (by simp) noIntW) (by omega)) | (have OG := Own.ext hxt5 (((Blk.at #[.bool false, .slice none 0 0] 56 rfl).alloc _).own 2 (by simp) noIntW) (by omega)) | (have OG := Own.ext hxt5 OG (by omega)) | (have OG := Own.ext (Ext.trans ((Ext.refl _).alloc _) hxt5) OG (by omega)) | skip); (try simp only [World.size_alloc] at OG); go_wp2_with fail; refine hK.out _ _ ?_ (fun hHeld => ?_); rotate_left; clear hK K; rotate_right; (focus ((try dsimp only); exact kept)); (try simp only [Act.put, List.setIfInBounds_toArray, List.set_cons_zero, List.set_cons_succ])
       refine consL (i := 7) (by kernel_rfl) rfl (fun K hK => ?_)
       go_simp; go_at_call 52; refine (over_c t5 g1 s gg _ (by first | exact ht5 | exact ht5.keep ((Ext.refl _).alloc _).ik) (HG1.out.keep (Ext.ik (And.left (by assumption)))) (by omega)).mono ?_; rintro e w7 ⟨o7, rfl, ho7, hxo7⟩; have HXo7 := Lib.hid hxo7; have sz := Ext.size hxo7; (try simp only [World.size_alloc, World.size_drew] at sz); (first | (have OG := Own.ext hxo7 ((Blk.at #[.bool false, .slice none 0 0] 56 rfl).own 2 (by simp) noIntW) (by omega)) | (have OG := Own.ext hxo7 (((Blk.at #[.bool false, .slice none 0 0] 56 rfl).alloc _).own 2 (by simp) noIntW) (by omega)) | (have OG := Own.ext hxo7 OG (by omega)) | (have OG := Own.ext (Ext.trans ((Ext.refl _).alloc _) hxo7) OG (by omega)) | skip); (try simp only [World.size_alloc] at OG); go_wp2_with fail; refine hK.out _ _ ?_ (fun hHeld => ?_); rotate_left; clear hK K; rotate_right; (focus ((try dsimp only); exact kept)); (try simp only [Act.put, List.setIfInBounds_toArray, List.set_cons_zero, List.set_cons_succ])
       refine consL (i := 8) (by kernel_rfl) rfl (fun K hK => ?_)
       go_simp; refine hK.out _ _ ?_ (fun hHeld => ?_); rotate_left; clear hK K; rotate_right; (focus ((try dsimp only); exact kept)); (try simp only [Act.put, List.setIfInBounds_toArray, List.set_cons_zero, List.set_cons_succ])
       refine consL (i := 9) (by kernel_rfl) rfl (fun K hK => ?_)
       go_simp; go_at_call 57; refine (ftimes_c o3 o7 (q / hh) (s / gg) _ _ _ (by first | exact (Blk.at _ _ rfl).at' | exact (Blk.at _ _ (by simp)).at' | exact ((Blk.at _ _ rfl).alloc _).at' | exact ((Blk.at _ _ (by simp)).alloc _).at') (by first | exact ho3.keep (Ext.ik (Ext.trans HXt5.out (Ext.trans HXo7.out ((Ext.refl _).alloc _)))) | exact ho3.keep (Ext.ik (Ext.trans HXt5.out (Ext.trans HXo7.out (((Ext.refl _).alloc _).alloc _)))) | exact ho3.keep (Ext.ik (Ext.trans ((Ext.refl _).alloc _) (Ext.trans HXt5.out (Ext.trans HXo7.out ((Ext.refl _).alloc _))))) | exact ho3.keep (Ext.ik (Ext.trans HXt5.out (Ext.trans ((Ext.refl _).alloc _) (Ext.trans HXo7.out ((Ext.refl _).alloc _)))))) (by first | exact ho7.keep ((Ext.refl _).alloc _).ik | exact ho7.keep (((Ext.refl _).alloc _).alloc _).ik)).mono ?_; rw [L2.out]; rintro e w9 ⟨t9, rfl, ht9, hxt9⟩; have HXt9 := Lib.hid hxt9; have sz := Ext.size hxt9; (try simp only [World.size_alloc, World.size_drew] at sz); (first | (have OG := Own.ext hxt9 ((Blk.at #[.bool false, .slice none 0 0] 56 rfl).own 2 (by simp) noIntW) (by omega)) | (have OG := Own.ext hxt9 (((Blk.at #[.bool false, .slice none 0 0] 56 rfl).alloc _).own 2 (by simp) noIntW) (by omega)) | (have OG := Own.ext hxt9 OG (by omega)) | (have OG := Own.ext (Ext.trans ((Ext.refl _).alloc _) hxt9) OG (by omega)) | skip); (try simp only [World.size_alloc] at OG); go_wp2_with fail; refine hK.out _ _ ?_ (fun hHeld => ?_); rotate_left; clear hK K; rotate_right; (focus ((try dsimp only); exact kept)); (try simp only [Act.put, List.setIfInBounds_toArray, List.set_cons_zero, List.set_cons_succ])
       refine takeL (i := 10) (v := ?_) rfl (by kernel_rfl) (by kernel_rfl) (by kernel_rfl) (fun _ _ _ h => h) (Or.inl ⟨by rfl, ?_⟩) (by assumption) ?_; rotate_left; (focus (intro wq hSw; (try dsimp only at hSw); go_simp; try with_reducible rfl)); (try simp only [Act.put, List.setIfInBounds_toArray, List.set_cons_zero, List.set_cons_succ])
       refine takeL (i := 11) (v := ?_) rfl (by kernel_rfl) (by kernel_rfl) (by kernel_rfl) (fun _ _ _ h => h) (Or.inl ⟨by rfl, ?_⟩) (by assumption) ?_; rotate_left; (focus (intro wq hSw; (try dsimp only at hSw); go_simp; try with_reducible rfl)); (try simp only [Act.put, List.setIfInBounds_toArray, List.set_cons_zero, List.set_cons_succ])
       refine takeL (i := 12) (v := ?_) rfl (by kernel_rfl) (by kernel_rfl) (by kernel_rfl) (fun _ _ _ h => h) (Or.inl ⟨by rfl, ?_⟩) (by assumption) ?_; rotate_left; (focus (intro wq hSw; (try dsimp only at hSw); go_simp; try with_reducible rfl)); (try simp only [Act.put, List.setIfInBounds_toArray, List.set_cons_zero, List.set_cons_succ])
       refine consL (i := 14) (by kernel_rfl) rfl (fun K hK => ?_); go_simp; refine hK.out _ _ ?_ (fun hHeld => ?_); rotate_left; clear hK K; rotate_right; (focus ((try dsimp only); exact kept)); (try simp only [Act.put, List.setIfInBounds_toArray, List.set_cons_zero, List.set_cons_succ])
       refine consL (i := 15) (by kernel_rfl) rfl (fun K hK => ?_); go_simp; refine hK.out _ _ ?_ (fun hHeld => ?_); rotate_left; clear hK K; rotate_right; (focus ((try dsimp only); exact kept)); (try simp only [Act.put, List.setIfInBounds_toArray, List.set_cons_zero, List.set_cons_succ])
       refine doneL (by kernel_rfl) ?_
       go_wp2_with fail
       go_meet
       exact ⟨_, t9, rfl, rfl, And.left hHeld, by omega, by first | exact (Blk.at _ 56 rfl).at' | exact At.mk2 (put2_cells OG _ _).1 (put2_cells OG _ _).2, by first | exact ht9.keep ((Ext.refl _).alloc _).ik | exact ht9.keep (IK.put2 OG _ _ _ _)⟩
     ·skip
      go_simp; refine hK.out _ _ ?_ (fun hHeld => ?_); rotate_left; clear hK K; rotate_right; (focus ((try dsimp only); exact kept)); (try simp only [Act.put, List.setIfInBounds_toArray, List.set_cons_zero, List.set_cons_succ])
      refine consL (i := 3) (by kernel_rfl) rfl (fun K hK => ?_)
      go_simp; go_at_call 52; refine (over_c t1 g2 q hh _ (by first | exact ht1 | exact ht1.keep ((Ext.refl _).alloc _).ik) (HG2.out.keep (Ext.ik (And.left (by assumption)))) (by omega)).mono ?_; rintro e w3 ⟨o3, rfl, ho3, hxo3⟩; have HXo3 := Lib.hid hxo3; have sz := Ext.size hxo3; (try simp only [World.size_alloc, World.size_drew] at sz); (first | (have OG := Own.ext hxo3 ((Blk.at #[.bool false, .slice none 0 0] 56 rfl).own 2 (by simp) noIntW) (by omega)) | (have OG := Own.ext hxo3 (((Blk.at #[.bool false, .slice none 0 0] 56 rfl).alloc _).own 2 (by simp) noIntW) (by omega)) | (have OG := Own.ext hxo3 OG (by omega)) | (have OG := Own.ext (Ext.trans ((Ext.refl _).alloc _) hxo3) OG (by omega)) | skip); (try simp only [World.size_alloc] at OG); go_wp2_with fail; refine hK.out _ _ ?_ (fun hHeld => ?_); rotate_left; clear hK K; rotate_right; (focus ((try dsimp only); exact kept)); (try simp only [Act.put, List.setIfInBounds_toArray, List.set_cons_zero, List.set_cons_succ])
      refine consL (i := 5) (by kernel_rfl) rfl (fun K hK => ?_)
      go_simp; go_at_call 56; refine (Den_c b r s _ (HB.out.keep (Ext.ik (Ext.trans HW.out (And.left (by assumption)))))).mono ?_; rintro e w5 ⟨t5, rfl, ht5, hxt5⟩; have HXt5 := Lib.hid hxt5; have sz := Ext.size hxt5; (try simp only [World.size_alloc, World.size_drew] at sz); (first | (have OG := Own.ext hxt5 ((Blk.at #[.bool false, .slice none 0 0] 56 rfl).own 2 (by simp) noIntW) (by omega)) | (have OG := Own.ext hxt5 (((Blk.at #[.bool false, .slice none 0 0] 56 rfl).alloc _).own 2 (by simp) noIntW) (by omega)) | (have OG := Own.ext hxt5 OG (by omega)) | (have OG := Own.ext (Ext.trans ((Ext.refl _).alloc _) hxt5) OG (by omega)) | skip); (try simp only [World.size_alloc] at OG); go_wp2_with fail; refine hK.out _ _ ?_ (fun hHeld => ?_); rotate_left; clear hK K; rotate_right; (focus ((try dsimp only); exact kept)); (try simp only [Act.put, List.setIfInBounds_toArray, List.set_cons_zero, List.set_cons_succ])
      refine consL (i := 7) (by kernel_rfl) rfl (fun K hK => ?_)
      go_simp; go_at_call 52; refine (over_c t5 g1 s gg _ (by first | exact ht5 | exact ht5.keep ((Ext.refl _).alloc _).ik) (HG1.out.keep (Ext.ik (And.left (by assumption)))) (by omega)).mono ?_; rintro e w7 ⟨o7, rfl, ho7, hxo7⟩; have HXo7 := Lib.hid hxo7; have sz := Ext.size hxo7; (try simp only [World.size_alloc, World.size_drew] at sz); (first | (have OG := Own.ext hxo7 ((Blk.at #[.bool false, .slice none 0 0] 56 rfl).own 2 (by simp) noIntW) (by omega)) | (have OG := Own.ext hxo7 (((Blk.at #[.bool false, .slice none 0 0] 56 rfl).alloc _).own 2 (by simp) noIntW) (by omega)) | (have OG := Own.ext hxo7 OG (by omega)) | (have OG := Own.ext (Ext.trans ((Ext.refl _).alloc _) hxo7) OG (by omega)) | skip); (try simp only [World.size_alloc] at OG); go_wp2_with fail; refine hK.out _ _ ?_ (fun hHeld => ?_); rotate_left; clear hK K; rotate_right; (focus ((try dsimp only); exact kept)); (try simp only [Act.put, List.setIfInBounds_toArray, List.set_cons_zero, List.set_cons_succ])
      refine consL (i := 8) (by kernel_rfl) rfl (fun K hK => ?_)
      go_simp; refine hK.out _ _ ?_ (fun hHeld => ?_); rotate_left; clear hK K; rotate_right; (focus ((try dsimp only); exact kept)); (try simp only [Act.put, List.setIfInBounds_toArray, List.set_cons_zero, List.set_cons_succ])
      refine consL (i := 9) (by kernel_rfl) rfl (fun K hK => ?_)
      go_simp; go_at_call 57; refine (ftimes_c o3 o7 (q / hh) (s / gg) _ _ _ (by first | exact (Blk.at _ _ rfl).at' | exact (Blk.at _ _ (by simp)).at' | exact ((Blk.at _ _ rfl).alloc _).at' | exact ((Blk.at _ _ (by simp)).alloc _).at') (by first | exact ho3.keep (Ext.ik (Ext.trans HXt5.out (Ext.trans HXo7.out ((Ext.refl _).alloc _)))) | exact ho3.keep (Ext.ik (Ext.trans HXt5.out (Ext.trans HXo7.out (((Ext.refl _).alloc _).alloc _)))) | exact ho3.keep (Ext.ik (Ext.trans ((Ext.refl _).alloc _) (Ext.trans HXt5.out (Ext.trans HXo7.out ((Ext.refl _).alloc _))))) | exact ho3.keep (Ext.ik (Ext.trans HXt5.out (Ext.trans ((Ext.refl _).alloc _) (Ext.trans HXo7.out ((Ext.refl _).alloc _)))))) (by first | exact ho7.keep ((Ext.refl _).alloc _).ik | exact ho7.keep (((Ext.refl _).alloc _).alloc _).ik)).mono ?_; rw [L2.out]; rintro e w9 ⟨t9, rfl, ht9, hxt9⟩; have HXt9 := Lib.hid hxt9; have sz := Ext.size hxt9; (try simp only [World.size_alloc, World.size_drew] at sz); (first | (have OG := Own.ext hxt9 ((Blk.at #[.bool false, .slice none 0 0] 56 rfl).own 2 (by simp) noIntW) (by omega)) | (have OG := Own.ext hxt9 (((Blk.at #[.bool false, .slice none 0 0] 56 rfl).alloc _).own 2 (by simp) noIntW) (by omega)) | (have OG := Own.ext hxt9 OG (by omega)) | (have OG := Own.ext (Ext.trans ((Ext.refl _).alloc _) hxt9) OG (by omega)) | skip); (try simp only [World.size_alloc] at OG); go_wp2_with fail; refine hK.out _ _ ?_ (fun hHeld => ?_); rotate_left; clear hK K; rotate_right; (focus ((try dsimp only); exact kept)); (try simp only [Act.put, List.setIfInBounds_toArray, List.set_cons_zero, List.set_cons_succ])
      refine takeL (i := 10) (v := ?_) rfl (by kernel_rfl) (by kernel_rfl) (by kernel_rfl) (fun _ _ _ h => h) (Or.inl ⟨by rfl, ?_⟩) (by assumption) ?_; rotate_left; (focus (intro wq hSw; (try dsimp only at hSw); go_simp; try with_reducible rfl)); (try simp only [Act.put, List.setIfInBounds_toArray, List.set_cons_zero, List.set_cons_succ])
      refine takeL (i := 11) (v := ?_) rfl (by kernel_rfl) (by kernel_rfl) (by kernel_rfl) (fun _ _ _ h => h) (Or.inl ⟨by rfl, ?_⟩) (by assumption) ?_; rotate_left; (focus (intro wq hSw; (try dsimp only at hSw); go_simp; try with_reducible rfl)); (try simp only [Act.put, List.setIfInBounds_toArray, List.set_cons_zero, List.set_cons_succ])
      refine takeL (i := 12) (v := ?_) rfl (by kernel_rfl) (by kernel_rfl) (by kernel_rfl) (fun _ _ _ h => h) (Or.inl ⟨by rfl, ?_⟩) (by assumption) ?_; rotate_left; (focus (intro wq hSw; (try dsimp only at hSw); go_simp; try with_reducible rfl)); (try simp only [Act.put, List.setIfInBounds_toArray, List.set_cons_zero, List.set_cons_succ])
      refine consL (i := 14) (by kernel_rfl) rfl (fun K hK => ?_); go_simp; refine hK.out _ _ ?_ (fun hHeld => ?_); rotate_left; clear hK K; rotate_right; (focus ((try dsimp only); exact kept)); (try simp only [Act.put, List.setIfInBounds_toArray, List.set_cons_zero, List.set_cons_succ])
      refine consL (i := 15) (by kernel_rfl) rfl (fun K hK => ?_); go_simp; refine hK.out _ _ ?_ (fun hHeld => ?_); rotate_left; clear hK K; rotate_right; (focus ((try dsimp only); exact kept)); (try simp only [Act.put, List.setIfInBounds_toArray, List.set_cons_zero, List.set_cons_succ])
      refine doneL (by kernel_rfl) ?_
      go_wp2_with fail
      go_meet
      exact ⟨_, t9, rfl, rfl, And.left hHeld, by omega, by first | exact (Blk.at _ 56 rfl).at' | exact At.mk2 (put2_cells OG _ _).1 (put2_cells OG _ _).2, by first | exact ht9.keep ((Ext.refl _).alloc _).ik | exact ht9.keep (IK.put2 OG _ _ _ _)⟩
    ·skip
     go_simp; refine hK.out _ _ ?_ (fun hHeld => ?_); rotate_left; clear hK K; rotate_right; (focus ((try dsimp only); exact kept)); (try simp only [Act.put, List.setIfInBounds_toArray, List.set_cons_zero, List.set_cons_succ])
     refine consL (i := 1) (by kernel_rfl) rfl (fun K hK => ?_)
     go_simp; go_at_call 56; refine (Den_c a p q _ (HA.out.keep (Ext.ik (Ext.trans HW.out (And.left (by assumption)))))).mono ?_; rintro e w1 ⟨t1, rfl, ht1, hxt1⟩; have HXt1 := Lib.hid hxt1; have sz := Ext.size hxt1; (try simp only [World.size_alloc, World.size_drew] at sz); (first | (have OG := Own.ext hxt1 ((Blk.at #[.bool false, .slice none 0 0] 56 rfl).own 2 (by simp) noIntW) (by omega)) | (have OG := Own.ext hxt1 (((Blk.at #[.bool false, .slice none 0 0] 56 rfl).alloc _).own 2 (by simp) noIntW) (by omega)) | (have OG := Own.ext hxt1 OG (by omega)) | (have OG := Own.ext (Ext.trans ((Ext.refl _).alloc _) hxt1) OG (by omega)) | skip); (try simp only [World.size_alloc] at OG); go_wp2_with fail; refine hK.out _ _ ?_ (fun hHeld => ?_); rotate_left; clear hK K; rotate_right; (focus ((try dsimp only); exact kept)); (try simp only [Act.put, List.setIfInBounds_toArray, List.set_cons_zero, List.set_cons_succ])
     refine consL (i := 3) (by kernel_rfl) rfl (fun K hK => ?_)
     go_simp; go_at_call 52; refine (over_c t1 g2 q hh _ (by first | exact ht1 | exact ht1.keep ((Ext.refl _).alloc _).ik) (HG2.out.keep (Ext.ik (And.left (by assumption)))) (by omega)).mono ?_; rintro e w3 ⟨o3, rfl, ho3, hxo3⟩; have HXo3 := Lib.hid hxo3; have sz := Ext.size hxo3; (try simp only [World.size_alloc, World.size_drew] at sz); (first | (have OG := Own.ext hxo3 ((Blk.at #[.bool false, .slice none 0 0] 56 rfl).own 2 (by simp) noIntW) (by omega)) | (have OG := Own.ext hxo3 (((Blk.at #[.bool false, .slice none 0 0] 56 rfl).alloc _).own 2 (by simp) noIntW) (by omega)) | (have OG := Own.ext hxo3 OG (by omega)) | (have OG := Own.ext (Ext.trans ((Ext.refl _).alloc _) hxo3) OG (by omega)) | skip); (try simp only [World.size_alloc] at OG); go_wp2_with fail; refine hK.out _ _ ?_ (fun hHeld => ?_); rotate_left; clear hK K; rotate_right; (focus ((try dsimp only); exact kept)); (try simp only [Act.put, List.setIfInBounds_toArray, List.set_cons_zero, List.set_cons_succ])
     refine consL (i := 5) (by kernel_rfl) rfl (fun K hK => ?_)
     go_simp; go_at_call 56; refine (Den_c b r s _ (HB.out.keep (Ext.ik (Ext.trans HW.out (And.left (by assumption)))))).mono ?_; rintro e w5 ⟨t5, rfl, ht5, hxt5⟩; have HXt5 := Lib.hid hxt5; have sz := Ext.size hxt5; (try simp only [World.size_alloc, World.size_drew] at sz); (first | (have OG := Own.ext hxt5 ((Blk.at #[.bool false, .slice none 0 0] 56 rfl).own 2 (by simp) noIntW) (by omega)) | (have OG := Own.ext hxt5 (((Blk.at #[.bool false, .slice none 0 0] 56 rfl).alloc _).own 2 (by simp) noIntW) (by omega)) | (have OG := Own.ext hxt5 OG (by omega)) | (have OG := Own.ext (Ext.trans ((Ext.refl _).alloc _) hxt5) OG (by omega)) | skip); (try simp only [World.size_alloc] at OG); go_wp2_with fail; refine hK.out _ _ ?_ (fun hHeld => ?_); rotate_left; clear hK K; rotate_right; (focus ((try dsimp only); exact kept)); (try simp only [Act.put, List.setIfInBounds_toArray, List.set_cons_zero, List.set_cons_succ])
     refine consL (i := 7) (by kernel_rfl) rfl (fun K hK => ?_)
     go_simp; go_at_call 52; refine (over_c t5 g1 s gg _ (by first | exact ht5 | exact ht5.keep ((Ext.refl _).alloc _).ik) (HG1.out.keep (Ext.ik (And.left (by assumption)))) (by omega)).mono ?_; rintro e w7 ⟨o7, rfl, ho7, hxo7⟩; have HXo7 := Lib.hid hxo7; have sz := Ext.size hxo7; (try simp only [World.size_alloc, World.size_drew] at sz); (first | (have OG := Own.ext hxo7 ((Blk.at #[.bool false, .slice none 0 0] 56 rfl).own 2 (by simp) noIntW) (by omega)) | (have OG := Own.ext hxo7 (((Blk.at #[.bool false, .slice none 0 0] 56 rfl).alloc _).own 2 (by simp) noIntW) (by omega)) | (have OG := Own.ext hxo7 OG (by omega)) | (have OG := Own.ext (Ext.trans ((Ext.refl _).alloc _) hxo7) OG (by omega)) | skip); (try simp only [World.size_alloc] at OG); go_wp2_with fail; refine hK.out _ _ ?_ (fun hHeld => ?_); rotate_left; clear hK K; rotate_right; (focus ((try dsimp only); exact kept)); (try simp only [Act.put, List.setIfInBounds_toArray, List.set_cons_zero, List.set_cons_succ])
     refine consL (i := 8) (by kernel_rfl) rfl (fun K hK => ?_)
     go_simp; refine hK.out _ _ ?_ (fun hHeld => ?_); rotate_left; clear hK K; rotate_right; (focus ((try dsimp only); exact kept)); (try simp only [Act.put, List.setIfInBounds_toArray, List.set_cons_zero, List.set_cons_succ])
     refine consL (i := 9) (by kernel_rfl) rfl (fun K hK => ?_)
     go_simp; go_at_call 57; refine (ftimes_c o3 o7 (q / hh) (s / gg) _ _ _ (by first | exact (Blk.at _ _ rfl).at' | exact (Blk.at _ _ (by simp)).at' | exact ((Blk.at _ _ rfl).alloc _).at' | exact ((Blk.at _ _ (by simp)).alloc _).at') (by first | exact ho3.keep (Ext.ik (Ext.trans HXt5.out (Ext.trans HXo7.out ((Ext.refl _).alloc _)))) | exact ho3.keep (Ext.ik (Ext.trans HXt5.out (Ext.trans HXo7.out (((Ext.refl _).alloc _).alloc _)))) | exact ho3.keep (Ext.ik (Ext.trans ((Ext.refl _).alloc _) (Ext.trans HXt5.out (Ext.trans HXo7.out ((Ext.refl _).alloc _))))) | exact ho3.keep (Ext.ik (Ext.trans HXt5.out (Ext.trans ((Ext.refl _).alloc _) (Ext.trans HXo7.out ((Ext.refl _).alloc _)))))) (by first | exact ho7.keep ((Ext.refl _).alloc _).ik | exact ho7.keep (((Ext.refl _).alloc _).alloc _).ik)).mono ?_; rw [L2.out]; rintro e w9 ⟨t9, rfl, ht9, hxt9⟩; have HXt9 := Lib.hid hxt9; have sz := Ext.size hxt9; (try simp only [World.size_alloc, World.size_drew] at sz); (first | (have OG := Own.ext hxt9 ((Blk.at #[.bool false, .slice none 0 0] 56 rfl).own 2 (by simp) noIntW) (by omega)) | (have OG := Own.ext hxt9 (((Blk.at #[.bool false, .slice none 0 0] 56 rfl).alloc _).own 2 (by simp) noIntW) (by omega)) | (have OG := Own.ext hxt9 OG (by omega)) | (have OG := Own.ext (Ext.trans ((Ext.refl _).alloc _) hxt9) OG (by omega)) | skip); (try simp only [World.size_alloc] at OG); go_wp2_with fail; refine hK.out _ _ ?_ (fun hHeld => ?_); rotate_left; clear hK K; rotate_right; (focus ((try dsimp only); exact kept)); (try simp only [Act.put, List.setIfInBounds_toArray, List.set_cons_zero, List.set_cons_succ])
     refine takeL (i := 10) (v := ?_) rfl (by kernel_rfl) (by kernel_rfl) (by kernel_rfl) (fun _ _ _ h => h) (Or.inl ⟨by rfl, ?_⟩) (by assumption) ?_; rotate_left; (focus (intro wq hSw; (try dsimp only at hSw); go_simp; try with_reducible rfl)); (try simp only [Act.put, List.setIfInBounds_toArray, List.set_cons_zero, List.set_cons_succ])
     refine takeL (i := 11) (v := ?_) rfl (by kernel_rfl) (by kernel_rfl) (by kernel_rfl) (fun _ _ _ h => h) (Or.inl ⟨by rfl, ?_⟩) (by assumption) ?_; rotate_left; (focus (intro wq hSw; (try dsimp only at hSw); go_simp; try with_reducible rfl)); (try simp only [Act.put, List.setIfInBounds_toArray, List.set_cons_zero, List.set_cons_succ])
     refine takeL (i := 12) (v := ?_) rfl (by kernel_rfl) (by kernel_rfl) (by kernel_rfl) (fun _ _ _ h => h) (Or.inl ⟨by rfl, ?_⟩) (by assumption) ?_; rotate_left; (focus (intro wq hSw; (try dsimp only at hSw); go_simp; try with_reducible rfl)); (try simp only [Act.put, List.setIfInBounds_toArray, List.set_cons_zero, List.set_cons_succ])
     refine consL (i := 14) (by kernel_rfl) rfl (fun K hK => ?_); go_simp; refine hK.out _ _ ?_ (fun hHeld => ?_); rotate_left; clear hK K; rotate_right; (focus ((try dsimp only); exact kept)); (try simp only [Act.put, List.setIfInBounds_toArray, List.set_cons_zero, List.set_cons_succ])
     refine consL (i := 15) (by kernel_rfl) rfl (fun K hK => ?_); go_simp; refine hK.out _ _ ?_ (fun hHeld => ?_); rotate_left; clear hK K; rotate_right; (focus ((try dsimp only); exact kept)); (try simp only [Act.put, List.setIfInBounds_toArray, List.set_cons_zero, List.set_cons_succ])
     refine doneL (by kernel_rfl) ?_
     go_wp2_with fail
     go_meet
     exact ⟨_, t9, rfl, rfl, And.left hHeld, by omega, by first | exact (Blk.at _ 56 rfl).at' | exact At.mk2 (put2_cells OG _ _).1 (put2_cells OG _ _).2, by first | exact ht9.keep ((Ext.refl _).alloc _).ik | exact ht9.keep (IK.put2 OG _ _ _ _)⟩
   case rest =>
    obtain ⟨H10, x10, rfl, rfl, EE, lh10, A10, hi10⟩ := hcut
    replace A0 := At.ext EE A0 (by simp)
    replace A1 := At.ext EE A1 (by simp)
    replace AG0 := At.ext EE AG0 (by simp)
    replace AG1 := At.ext EE AG1 (by simp)
    replace O2 := Own.ext EE O2 (by omega)
    replace E0 := E0.trans EE
    replace HG1 := Lib.hid (HG1.out.keep EE.ik)
    replace HG2 := Lib.hid (HG2.out.keep EE.ik)
    have HI10 := Lib.hid hi10
    replace A8 := At.ext EE A8 (by simp)
    replace HI8 := Lib.hid (HI8.out.keep EE.ik)
    clear EE hi10 HW lv lg0 lg1
    have c70 := A8 0 (by simp)
    have c71 := A8 1 (by simp)
    have c90 := A10 0 (by simp)
    have c91 := A10 1 (by simp)
    simp at c70 c71 c90 c91
    have l8 := A8.lt (by simp)
    have l10 := A10.lt (by simp)
    have HO3 := Lib.hid O2
    clear O2 A0 A1 AG0 AG1 A8 A10
    go_wp2_with fail
    refine (lowest_c x8 x10 _ _ _ HI8.out HI10.out hD1).mono ?_
    rintro e w9 ⟨f, rfl, hf1, hf2, hx9⟩
    have O4 := HO3.out.ext hx9 (by omega)
    have HF := Lib.hid (And.intro hf1 (And.intro hf2 (E0.trans hx9)))
    clear hf1 hf2 hx9 c70 c71 c90 c91
    have hp := putF_cells O4 f
    obtain ⟨p0, p1, p2, p3⟩ := hp
    go_wp2_with fail
    refine bodyPost_ret (v := .tuple #[f.v, .int .i64 0]) (by simp [results, Try.results91, go_sem, p0, p1, p2, p3]) rfl ?_
    exact ⟨f, rfl, ⟨HF.out.1.keep (IK.putF O4 f), HF.out.2.1.keep (IK.putF O4 f), hD1, HB2.out, HCOP.out⟩, ext_putF HF.out.2.2 (by omega) f⟩
end Go.Proofs.Ytkoidookanmknaa
