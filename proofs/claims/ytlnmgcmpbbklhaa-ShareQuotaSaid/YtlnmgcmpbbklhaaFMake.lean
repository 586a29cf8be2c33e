/- frac: Make, Of (a denominator of one word, above 0). -/
import Derived.Test.YtlnmgcmpbbklhaaFLow
namespace Go.Proofs.Ytlnmgcmpbbklhaa
set_option linter.unusedSimpArgs false
set_option linter.unusedVariables false
open Go.RowKit

/-- The greatest common divisor. -/
def gcdI (x y : Int) : Int := ((Nat.gcd x.natAbs y.natAbs : Nat) : Int)
theorem gcdI_pos {x y : Int} (hy : 1 ≤ y) : 1 ≤ gcdI x y := by
  unfold gcdI
  have := Nat.gcd_pos_of_pos_right x.natAbs (show 0 < y.natAbs by omega)
  omega
theorem gcdI_dvd (x y : Int) : gcdI x y ∣ x ∧ gcdI x y ∣ y := by
  unfold gcdI
  exact ⟨Int.ofNat_dvd_left.2 (Nat.gcd_dvd_left _ _), Int.ofNat_dvd_left.2 (Nat.gcd_dvd_right _ _)⟩
theorem gcdI_le {x y : Int} (hy : 1 ≤ y) : gcdI x y ≤ y := Int.le_of_dvd (by omega) (gcdI_dvd x y).2
/-- x / y in lowest terms. -/
structure Low (x y N D : Int) : Prop where
  n : N = x / gcdI x y
  d : D = y / gcdI x y
  pos : 1 ≤ D
  le : D ≤ y
  nle : N.natAbs ≤ x.natAbs
  eq : N * y = x * D
  low : Nat.gcd N.natAbs D.natAbs = 1
theorem low_of (x y : Int) (hy : 1 ≤ y) : Low x y (x / gcdI x y) (y / gcdI x y) := by
  have hp := gcdI_pos (x := x) hy
  obtain ⟨h1, h2⟩ := gcdI_dvd x y
  have e1 := Int.ediv_mul_cancel h1
  have e2 := Int.ediv_mul_cancel h2
  have a1 := Int.natAbs_ediv_of_dvd h1
  have a2 := Int.natAbs_ediv_of_dvd h2
  have hg : (gcdI x y).natAbs = Nat.gcd x.natAbs y.natAbs := by unfold gcdI; simp
  have hgp : 0 < Nat.gcd x.natAbs y.natAbs := Nat.gcd_pos_of_pos_right _ (by omega)
  refine ⟨rfl, rfl, ?_, ?_, ?_, ?_, ?_⟩
  · exact (Int.le_ediv_iff_mul_le (by omega)).2 (by rw [Int.one_mul]; exact gcdI_le hy)
  · exact Int.ediv_le_self _ (by omega)
  · rw [a1]; exact Nat.div_le_self _ _
  · generalize x / gcdI x y = N at *
    generalize y / gcdI x y = D at *
    generalize gcdI x y = G at *
    rw [← e1, ← e2]; grind
  · rw [a1, a2, hg]; exact Nat.coprime_div_gcd_div_gcd hgp
/-- A fraction and no error. -/
def RetQ (N D : Int) (w : World) (e : Ending) (w' : World) : Prop := ∃ f : FV, e = .returned (.tuple #[f.v, .int .i64 0]) ∧ IsF w' f N D ∧ Ext w w'
set_option maxRecDepth 100000 in
set_option maxHeartbeats 2000000 in
theorem Make_c (p q : IV) (x y : Int) (w : World) (hp : IsI w p x) (hq : IsI w q y) (hy : 1 ≤ y) (hy2 : y.natAbs < B32) : Calls Try.prog 29 #[p.v, q.v] w (RetQ (x / gcdI x y) (y / gcdI x y) w) := by
  have HP := Lib.hid hp; have HQ := Lib.hid hq
  have hlow := low_of x y hy
  have hgp := gcdI_pos (x := x) hy
  have hgl := gcdI_le (x := x) hy
  have hbig : Big (y / gcdI x y) := by have h1 := hq.big; have h2 := hlow.le; have h3 := hlow.pos; unfold Big at *; omega
  have hgg : ((Nat.gcd x.natAbs y.natAbs : Nat) : Int) = gcdI x y := rfl
  obtain ⟨gg, hgv⟩ : ∃ z, gcdI x y = z := ⟨_, rfl⟩
  rw [hgv] at hlow hgp hgl hbig hgg ⊢
  have HLOW := Lib.hid hlow; have HBIG := Lib.hid hbig; have HGG := Lib.hid hgg
  have es : cmpI y 0 = 1 := by unfold cmpI; rw [if_neg (by omega), if_pos (by omega)]
  have ES := Lib.hid es
  clear hp hq hlow hbig hgg hgv es
  go_enter Try.func29, Try.ntmps29
  go_wp2_with fail
  refine (Sign_c q y _ (HQ.out.keep (by repeat (first | exact IK.refl _ | refine IK.alloc ?_ _ | refine IK.drew ?_ | refine IK.setCell ?_ (by simp [hc, go_sem]) _)))).mono ?_
  rw [ES.out]
  rintro e w2 ⟨rfl, hx2⟩
  have hE2 : Ext w w2 := Ext.trans (by repeat (first | exact Ext.refl _ | assumption | refine Ext.setCell ?_ (by first | (simp; done) | (simp; omega) | omega) _ | refine Ext.alloc ?_ _ | refine Ext.drew ?_ | refine Ext.trans ?_ (by assumption))) hx2
  have A0 : At w2 w.heap.size #[.bool p.neg, .slice p.a p.n p.c] := At.ext hx2 (((Blk.at _ 48 rfl).alloc _).alloc _).at' (by simp)
  have A1 : At w2 (w.heap.size + 1) #[.bool q.neg, .slice q.a q.n q.c] := At.ext hx2 ((Blk.at _ 48 (by simp)).alloc _).at' (by simp)
  have O2 : Own w2 (w.heap.size + 1 + 1) 4 := Own.ext hx2 ((Blk.at #[.bool false, .slice none 0 0, .bool false, .slice none 0 0] 53 (by simp)).own _ (by simp) (noIntF _ _ _ _ _ _ _ _)) (by omega)
  obtain ⟨B, hB⟩ : ∃ B, w.heap.size = B := ⟨_, rfl⟩
  rw [hB] at A0 A1 O2
  have HF := Lib.hid (show Ext w w2 ∧ At w2 B #[.bool p.neg, .slice p.a p.n p.c] ∧ At w2 (B + 1) #[.bool q.neg, .slice q.a q.n q.c] ∧ Own w2 (B + 1 + 1) 4 from ⟨hE2, A0, A1, O2⟩)
  have c00 := A0 0 (by simp)
  have c01 := A0 1 (by simp)
  have c10 := A1 0 (by simp)
  have c11 := A1 1 (by simp)
  simp at c00 c01 c10 c11
  clear hE2 A0 A1 O2 hx2
  go_wp2_with fail
  refine (Sign_c q y _ (HQ.out.keep HF.out.1.ik)).mono ?_
  rw [ES.out]
  rintro e w3 ⟨rfl, hx3⟩
  have d00 := hx3.cell c00
  have d01 := hx3.cell c01
  have d10 := hx3.cell c10
  have d11 := hx3.cell c11
  have HX3 := Lib.hid hx3
  clear c00 c01 c10 c11 hx3
  go_wp2_with fail
  refine (Gcd_c p q x y _ (HP.out.keep (HF.out.1.trans HX3.out).ik) (HQ.out.keep (HF.out.1.trans HX3.out).ik) hy2).mono ?_
  rw [HGG.out]
  rintro e w4 ⟨g, rfl, hg, hx4⟩
  clear d00 d01 d10 d11
  have hx := HX3.out.trans hx4
  have l4 := (Own.ext hx HF.out.2.2.2 (by omega)).lt (by omega)
  go_upto_region 6 with (fail)
  obtain ⟨G, hG⟩ : ∃ G, w4.heap.size = G := ⟨_, rfl⟩
  refine wp_gen (fun W => (Ext w W ∧ At W B #[.bool p.neg, .slice p.a p.n p.c] ∧ At W (B + 1) #[.bool q.neg, .slice q.a q.n q.c] ∧ At W G #[.bool g.neg, .slice g.a g.n g.c] ∧ Own W (B + 1 + 1) 4) ∧ IsI W g gg) ⟨⟨(HF.out.1.trans hx).alloc _, At.alloc (At.ext hx HF.out.2.1 (by simp)) (by simp), At.alloc (At.ext hx HF.out.2.2.1 (by simp)) (by simp), (Blk.at _ 48 hG.symm).at', Own.ext (hx.alloc _) HF.out.2.2.2 (by omega)⟩, hg.keep ((Ext.refl w4).alloc _).ik⟩ ?_
  clear hx hg hx4
  rintro V ⟨⟨E0, A0, A1, A2, O2⟩, hg⟩
  have HGI := Lib.hid hg
  clear hg
  try rw [hG]
  refine wp_region_held_drew (S := fun w' => Ext w w' ∧ At w' B #[.bool p.neg, .slice p.a p.n p.c] ∧ At w' (B + 1) #[.bool q.neg, .slice q.a q.n q.c] ∧ At w' G #[.bool g.neg, .slice g.a g.n g.c] ∧ Own w' (B + 1 + 1) 4) (by kernel_rfl) ?_ (fun hHeld => ?_)
  · exact ⟨E0.drew, A0, A1, A2, O2⟩
  have EV : Ext V V.drew := (Ext.refl V).drew
  refine takeL (i := 0) (v := ?_) rfl (by kernel_rfl) (by kernel_rfl) (by kernel_rfl) (fun _ _ _ h => h) (Or.inl ⟨by rfl, ?_⟩) (by assumption) ?_; rotate_left; (focus (intro wq hSw; (try dsimp only at hSw); go_simp; try with_reducible rfl)); (try simp only [Act.put, List.setIfInBounds_toArray, List.set_cons_zero, List.set_cons_succ])
  refine takeL (i := 1) (v := ?_) rfl (by kernel_rfl) (by kernel_rfl) (by kernel_rfl) (fun _ _ _ h => h) (Or.inl ⟨by rfl, ?_⟩) (by assumption) ?_; rotate_left; (focus (intro wq hSw; (try dsimp only at hSw); go_simp; try with_reducible rfl)); (try simp only [Act.put, List.setIfInBounds_toArray, List.set_cons_zero, List.set_cons_succ])
  refine takeL (i := 3) (v := ?_) rfl (by kernel_rfl) (by kernel_rfl) (by kernel_rfl) (fun _ _ _ h => h) (Or.inl ⟨by rfl, ?_⟩) (by assumption) ?_; rotate_left; (focus (intro wq hSw; (try dsimp only at hSw); go_simp; try with_reducible rfl)); (try simp only [Act.put, List.setIfInBounds_toArray, List.set_cons_zero, List.set_cons_succ])
  refine takeL (i := 4) (v := ?_) rfl (by kernel_rfl) (by kernel_rfl) (by kernel_rfl) (fun _ _ _ h => h) (Or.inl ⟨by rfl, ?_⟩) (by assumption) ?_; rotate_left; (focus (intro wq hSw; (try dsimp only at hSw); go_simp; try with_reducible rfl)); (try simp only [Act.put, List.setIfInBounds_toArray, List.set_cons_zero, List.set_cons_succ])
  refine consL (i := 2) (by kernel_rfl) rfl (fun K hK => ?_); go_simp; go_at_call 46; refine (over_c p g x gg _ (HP.out.in4 (by assumption)) (HGI.out.keep EV.ik) (by omega) (.inr (by omega))).mono ?_; rintro e w5 ⟨r, rfl, hr, hx5⟩; go_wp2_with fail; refine hK.out _ _ ?_ (fun hHeld => ?_); rotate_left; clear hK K; rotate_right; (focus ((try dsimp only); (go_split_ands; repeat' (first | with_reducible assumption | with_reducible apply And.intro | with_reducible exact Ext.refl _ | with_reducible refine Ext.setCell ?_ (by simp; omega) _ | with_reducible refine Ext.setCell ?_ (by simp) _ | with_reducible refine At.set ?_ (by omega) | with_reducible refine own1_set ?_ | with_reducible refine own2_set ?_ | with_reducible refine own3_set ?_ (by simp) | with_reducible refine Ext.drew ?_ | with_reducible refine At.drew ?_ | with_reducible refine own1_drew ?_ | with_reducible refine Ext.alloc ?_ _ | with_reducible refine At.alloc ?_ (by simp) | with_reducible refine own1_alloc ?_ | with_reducible refine cell_alloc ?_ | with_reducible refine cell_drew ?_ | with_reducible refine own2_drew ?_ | with_reducible refine own3_drew ?_ | with_reducible refine own2_alloc (by first | omega | (simp; omega)) ?_ | with_reducible refine own3_alloc (by first | omega | (simp; omega)) ?_ | with_reducible refine cell_set ?_ (by omega) | with_reducible exact Ext.trans' (by assumption) (by assumption) | with_reducible exact At.ext (by assumption) (by assumption) (by simp) | with_reducible exact Ext.cell (by assumption) (by assumption) | exact (Own.ext (by assumption) ⟨by assumption, by assumption, by assumption⟩ (by simp)).1 | exact (Own.ext (by assumption) ⟨by assumption, by assumption, by assumption⟩ (by simp)).2.1 | exact (Own.ext (by assumption) ⟨by assumption, by assumption, by assumption⟩ (by simp)).2.2)))); (try simp only [Act.put, List.setIfInBounds_toArray, List.set_cons_zero, List.set_cons_succ])
  refine consL (i := 5) (by kernel_rfl) rfl (fun K hK => ?_); go_simp; go_at_call 46; refine (over_c q g y gg _ (HQ.out.in4 (by assumption)) (HGI.out.keep (EV.trans hx5).ik) (by omega) (.inr (by omega))).mono ?_; rintro e w6 ⟨s, rfl, hs, hx6⟩; go_wp2_with fail; refine hK.out _ _ ?_ (fun hHeld => ?_); rotate_left; clear hK K; rotate_right; (focus ((try dsimp only); (go_split_ands; repeat' (first | with_reducible assumption | with_reducible apply And.intro | with_reducible exact Ext.refl _ | with_reducible refine Ext.setCell ?_ (by simp; omega) _ | with_reducible refine Ext.setCell ?_ (by simp) _ | with_reducible refine At.set ?_ (by omega) | with_reducible refine own1_set ?_ | with_reducible refine own2_set ?_ | with_reducible refine own3_set ?_ (by simp) | with_reducible refine Ext.drew ?_ | with_reducible refine At.drew ?_ | with_reducible refine own1_drew ?_ | with_reducible refine Ext.alloc ?_ _ | with_reducible refine At.alloc ?_ (by simp) | with_reducible refine own1_alloc ?_ | with_reducible refine cell_alloc ?_ | with_reducible refine cell_drew ?_ | with_reducible refine own2_drew ?_ | with_reducible refine own3_drew ?_ | with_reducible refine own2_alloc (by first | omega | (simp; omega)) ?_ | with_reducible refine own3_alloc (by first | omega | (simp; omega)) ?_ | with_reducible refine cell_set ?_ (by omega) | with_reducible exact Ext.trans' (by assumption) (by assumption) | with_reducible exact At.ext (by assumption) (by assumption) (by simp) | with_reducible exact Ext.cell (by assumption) (by assumption) | exact (Own.ext (by assumption) ⟨by assumption, by assumption, by assumption⟩ (by simp)).1 | exact (Own.ext (by assumption) ⟨by assumption, by assumption, by assumption⟩ (by simp)).2.1 | exact (Own.ext (by assumption) ⟨by assumption, by assumption, by assumption⟩ (by simp)).2.2)))); (try simp only [Act.put, List.setIfInBounds_toArray, List.set_cons_zero, List.set_cons_succ])
  refine consL (i := 6) (by kernel_rfl) rfl (fun K hK => ?_); go_simp; go_at_call 45; refine (lowest_c r s (x / gg) (y / gg) _ (hr.keep hx6.ik) hs HLOW.out.pos).mono ?_; rintro e w7 ⟨f, rfl, hf1, hf2, hx7⟩; go_wp2_with fail; refine hK.out _ _ ?_ (fun hHeld => ?_); rotate_left; clear hK K; rotate_right; (focus ((try dsimp only); (go_split_ands; repeat' (first | with_reducible assumption | with_reducible apply And.intro | with_reducible exact Ext.refl _ | with_reducible refine Ext.setCell ?_ (by simp; omega) _ | with_reducible refine Ext.setCell ?_ (by simp) _ | with_reducible refine At.set ?_ (by omega) | with_reducible refine own1_set ?_ | with_reducible refine own2_set ?_ | with_reducible refine own3_set ?_ (by simp) | with_reducible refine Ext.drew ?_ | with_reducible refine At.drew ?_ | with_reducible refine own1_drew ?_ | with_reducible refine Ext.alloc ?_ _ | with_reducible refine At.alloc ?_ (by simp) | with_reducible refine own1_alloc ?_ | with_reducible refine cell_alloc ?_ | with_reducible refine cell_drew ?_ | with_reducible refine own2_drew ?_ | with_reducible refine own3_drew ?_ | with_reducible refine own2_alloc (by first | omega | (simp; omega)) ?_ | with_reducible refine own3_alloc (by first | omega | (simp; omega)) ?_ | with_reducible refine cell_set ?_ (by omega) | with_reducible exact Ext.trans' (by assumption) (by assumption) | with_reducible exact At.ext (by assumption) (by assumption) (by simp) | with_reducible exact Ext.cell (by assumption) (by assumption) | exact (Own.ext (by assumption) ⟨by assumption, by assumption, by assumption⟩ (by simp)).1 | exact (Own.ext (by assumption) ⟨by assumption, by assumption, by assumption⟩ (by simp)).2.1 | exact (Own.ext (by assumption) ⟨by assumption, by assumption, by assumption⟩ (by simp)).2.2)))); (try simp only [Act.put, List.setIfInBounds_toArray, List.set_cons_zero, List.set_cons_succ])
  have O4 := hHeld.2.2.2.2
  have E4 := hHeld.1
  refine takeL (i := 7) (v := ?_) rfl (by kernel_rfl) (by kernel_rfl) (by kernel_rfl) (fun _ _ _ h => h) (Or.inl ⟨by rfl, ?_⟩) (by assumption) ?_; rotate_left; (focus (intro wq hSw; (try dsimp only at hSw); go_simp; try with_reducible rfl)); (try simp only [Act.put, List.setIfInBounds_toArray, List.set_cons_zero, List.set_cons_succ])
  refine takeL (i := 8) (v := ?_) rfl (by kernel_rfl) (by kernel_rfl) (by kernel_rfl) (fun _ _ _ h => h) (Or.inl ⟨by rfl, ?_⟩) (by assumption) ?_; rotate_left; (focus (intro wq hSw; (try dsimp only at hSw); go_simp; try with_reducible rfl)); (try simp only [Act.put, List.setIfInBounds_toArray, List.set_cons_zero, List.set_cons_succ])
  refine consL (i := 9) (by kernel_rfl) rfl (fun K hK => ?_); go_simp; refine hK.out _ _ ?_ (fun hHeld => ?_); rotate_left; clear hK K; rotate_right; (focus ((try dsimp only); (go_split_ands; repeat' (first | with_reducible assumption | with_reducible apply And.intro | with_reducible exact Ext.refl _ | with_reducible refine Ext.setCell ?_ (by simp; omega) _ | with_reducible refine Ext.setCell ?_ (by simp) _ | with_reducible refine At.set ?_ (by omega) | with_reducible refine own1_set ?_ | with_reducible refine own2_set ?_ | with_reducible refine own3_set ?_ (by simp) | with_reducible refine Ext.drew ?_ | with_reducible refine At.drew ?_ | with_reducible refine own1_drew ?_ | with_reducible refine Ext.alloc ?_ _ | with_reducible refine At.alloc ?_ (by simp) | with_reducible refine own1_alloc ?_ | with_reducible refine cell_alloc ?_ | with_reducible refine cell_drew ?_ | with_reducible refine own2_drew ?_ | with_reducible refine own3_drew ?_ | with_reducible refine own2_alloc (by first | omega | (simp; omega)) ?_ | with_reducible refine own3_alloc (by first | omega | (simp; omega)) ?_ | with_reducible refine cell_set ?_ (by omega) | with_reducible exact Ext.trans' (by assumption) (by assumption) | with_reducible exact At.ext (by assumption) (by assumption) (by simp) | with_reducible exact Ext.cell (by assumption) (by assumption) | exact (Own.ext (by assumption) ⟨by assumption, by assumption, by assumption⟩ (by simp)).1 | exact (Own.ext (by assumption) ⟨by assumption, by assumption, by assumption⟩ (by simp)).2.1 | exact (Own.ext (by assumption) ⟨by assumption, by assumption, by assumption⟩ (by simp)).2.2)))); (try simp only [Act.put, List.setIfInBounds_toArray, List.set_cons_zero, List.set_cons_succ])
  refine consL (i := 10) (by kernel_rfl) rfl (fun K hK => ?_); go_simp; refine hK.out _ _ ?_ (fun hHeld => ?_); rotate_left; clear hK K; rotate_right; (focus ((try dsimp only); (go_split_ands; repeat' (first | with_reducible assumption | with_reducible apply And.intro | with_reducible exact Ext.refl _ | with_reducible refine Ext.setCell ?_ (by simp; omega) _ | with_reducible refine Ext.setCell ?_ (by simp) _ | with_reducible refine At.set ?_ (by omega) | with_reducible refine own1_set ?_ | with_reducible refine own2_set ?_ | with_reducible refine own3_set ?_ (by simp) | with_reducible refine Ext.drew ?_ | with_reducible refine At.drew ?_ | with_reducible refine own1_drew ?_ | with_reducible refine Ext.alloc ?_ _ | with_reducible refine At.alloc ?_ (by simp) | with_reducible refine own1_alloc ?_ | with_reducible refine cell_alloc ?_ | with_reducible refine cell_drew ?_ | with_reducible refine own2_drew ?_ | with_reducible refine own3_drew ?_ | with_reducible refine own2_alloc (by first | omega | (simp; omega)) ?_ | with_reducible refine own3_alloc (by first | omega | (simp; omega)) ?_ | with_reducible refine cell_set ?_ (by omega) | with_reducible exact Ext.trans' (by assumption) (by assumption) | with_reducible exact At.ext (by assumption) (by assumption) (by simp) | with_reducible exact Ext.cell (by assumption) (by assumption) | exact (Own.ext (by assumption) ⟨by assumption, by assumption, by assumption⟩ (by simp)).1 | exact (Own.ext (by assumption) ⟨by assumption, by assumption, by assumption⟩ (by simp)).2.1 | exact (Own.ext (by assumption) ⟨by assumption, by assumption, by assumption⟩ (by simp)).2.2)))); (try simp only [Act.put, List.setIfInBounds_toArray, List.set_cons_zero, List.set_cons_succ])
  refine doneL (by kernel_rfl) ?_
  have hp := putF_cells O4 f
  obtain ⟨p0, p1, p2, p3⟩ := hp
  go_wp2_with fail
  refine bodyPost_ret (v := .tuple #[f.v, .int .i64 0]) (by simp [results, Try.results29, go_sem, p0, p1, p2, p3]) rfl ?_
  exact ⟨f, rfl, ⟨hf1.keep (IK.putF O4 f), hf2.keep (IK.putF O4 f), HLOW.out.pos, HBIG.out, HLOW.out.low⟩, ext_putF E4 (by omega) f⟩
end Go.Proofs.Ytlnmgcmpbbklhaa
