/- frac: Sub, where one of its steps fails. -/
import Derived.Test.YtgmedfloflplgaaFPG
namespace Go.Proofs.Ytgmedfloflplgaa
set_option linter.unusedSimpArgs false
set_option linter.unusedVariables false
open Go.RowKit

set_option maxRecDepth 100000 in
set_option maxHeartbeats 2000000 in
theorem fSubG_c (a b : FV) (p q r s : Int) (w : World) (ha : IsF w a p q) (hb : IsF w b r s) (v1 e1 v2 e2 v3 e3 v4 e4 : Int) (h1 : lim (p * (s / gcdI q s)) = (v1, e1)) (h2 : lim (-r * (q / gcdI q s)) = (v2, e2)) (h3 : lim (v1 + v2) = (v3, e3)) (h4 : lim (q / gcdI q s * s) = (v4, e4)) (hE : ¬ (e1 = 0 ∧ e2 = 0 ∧ e3 = 0 ∧ e4 = 0)) :
    Calls Try.prog 72 #[a.v, b.v] w fun e w' => e = .returned (.tuple #[fvz.v, .int .i64 4]) ∧ Ext w w' := by
  have HA := Lib.hid ha; have HB := Lib.hid hb
  have HH := Lib.hid (And.intro h1 (And.intro h2 (And.intro h3 (And.intro h4 hE))))
  clear ha hb h1 h2 h3 h4 hE
  go_enter Try.func72, Try.ntmps72
  go_upto_region 1 with (fail)
  obtain ⟨B, hB⟩ : ∃ B, w.heap.size = B := ⟨_, rfl⟩
  refine wp_gen (fun W => Ext w W ∧ At W B #[.bool a.n.neg, .slice a.n.a a.n.n a.n.c, .bool a.d.neg, .slice a.d.a a.d.n a.d.c] ∧ At W (B + 1) #[.bool b.n.neg, .slice b.n.a b.n.n b.n.c, .bool b.d.neg, .slice b.d.a b.d.n b.d.c] ∧ Own W (B + 1 + 1) 4) ⟨(by repeat (first | exact Ext.refl _ | assumption | refine Ext.setCell ?_ (by first | (simp; done) | (simp; omega) | omega) _ | refine Ext.alloc ?_ _ | refine Ext.drew ?_ | refine Ext.trans ?_ (by assumption))), (((Blk.at _ 49 hB.symm).alloc _).alloc _).at', ((Blk.at _ 49 (by simp [hB])).alloc _).at', (Blk.at #[.bool false, .slice none 0 0, .bool false, .slice none 0 0] 49 (by simp [hB])).own _ (by simp) (noIntF _ _ _ _ _ _ _ _)⟩ ?_
  try rw [hB]
  rintro V ⟨E0, A0, A1, O2⟩
  refine wp_region_held_drew (S := fun w' => Ext w w' ∧ At w' B #[.bool a.n.neg, .slice a.n.a a.n.n a.n.c, .bool a.d.neg, .slice a.d.a a.d.n a.d.c] ∧ At w' (B + 1) #[.bool b.n.neg, .slice b.n.a b.n.n b.n.c, .bool b.d.neg, .slice b.d.a b.d.n b.d.c] ∧ Own w' (B + 1 + 1) 4) (by kernel_rfl) ?_ (fun hHeld => ?_)
  · exact ⟨E0.drew, A0, A1, O2⟩
  refine takeL (i := 0) (v := ?_) rfl (by kernel_rfl) (by kernel_rfl) (by kernel_rfl) (fun _ _ _ h => h) (Or.inl ⟨by rfl, ?_⟩) (by assumption) ?_; rotate_left; (focus (intro wq hSw; (try dsimp only at hSw); go_simp; try with_reducible rfl)); (try simp only [Act.put, List.setIfInBounds_toArray, List.set_cons_zero, List.set_cons_succ])
  refine takeL (i := 1) (v := ?_) rfl (by kernel_rfl) (by kernel_rfl) (by kernel_rfl) (fun _ _ _ h => h) (Or.inl ⟨by rfl, ?_⟩) (by assumption) ?_; rotate_left; (focus (intro wq hSw; (try dsimp only at hSw); go_simp; try with_reducible rfl)); (try simp only [Act.put, List.setIfInBounds_toArray, List.set_cons_zero, List.set_cons_succ])
  refine takeL (i := 2) (v := ?_) rfl (by kernel_rfl) (by kernel_rfl) (by kernel_rfl) (fun _ _ _ h => h) (Or.inl ⟨by rfl, ?_⟩) (by assumption) ?_; rotate_left; (focus (intro wq hSw; (try dsimp only at hSw); go_simp; try with_reducible rfl)); (try simp only [Act.put, List.setIfInBounds_toArray, List.set_cons_zero, List.set_cons_succ])
  refine takeL (i := 4) (v := ?_) rfl (by kernel_rfl) (by kernel_rfl) (by kernel_rfl) (fun _ _ _ h => h) (Or.inl ⟨by rfl, ?_⟩) (by assumption) ?_; rotate_left; (focus (intro wq hSw; (try dsimp only at hSw); go_simp; try with_reducible rfl)); (try simp only [Act.put, List.setIfInBounds_toArray, List.set_cons_zero, List.set_cons_succ])
  refine takeL (i := 5) (v := ?_) rfl (by kernel_rfl) (by kernel_rfl) (by kernel_rfl) (fun _ _ _ h => h) (Or.inl ⟨by rfl, ?_⟩) (by assumption) ?_; rotate_left; (focus (intro wq hSw; (try dsimp only at hSw); go_simp; try with_reducible rfl)); (try simp only [Act.put, List.setIfInBounds_toArray, List.set_cons_zero, List.set_cons_succ])
  refine consL (i := 3) (by kernel_rfl) rfl (fun K hK => ?_); go_simp; go_at_call 55; refine (Neg_c b.n r _ (HB.out.num.keep (Ext.ik (And.left (by assumption))))).mono ?_; rintro e w2 ⟨t, rfl, ht, hx2⟩; go_wp2_with fail; refine hK.out _ _ ?_ (fun hHeld => ?_); rotate_left; clear hK K; rotate_right; (focus ((try dsimp only); exact kept)); (try simp only [Act.put, List.setIfInBounds_toArray, List.set_cons_zero, List.set_cons_succ])
  refine takeL (i := 6) (v := ?_) rfl (by kernel_rfl) (by kernel_rfl) (by kernel_rfl) (fun _ _ _ h => h) (Or.inl ⟨by rfl, ?_⟩) (by assumption) ?_; rotate_left; (focus (intro wq hSw; (try dsimp only at hSw); go_simp; try with_reducible rfl)); (try simp only [Act.put, List.setIfInBounds_toArray, List.set_cons_zero, List.set_cons_succ])
  refine consL (i := 7) (by kernel_rfl) rfl (fun K hK => ?_); go_simp; go_at_call 39; refine (fAddG_c a ⟨t, b.d⟩ p q (-r) s _ (HA.out.keep (Ext.ik (And.left (by assumption)))) ⟨ht, HB.out.den.keep (Ext.ik (And.left (by assumption))), HB.out.pos, HB.out.big, by rw [Int.natAbs_neg]; exact HB.out.low⟩ v1 e1 v2 e2 v3 e3 v4 e4 HH.out.1 HH.out.2.1 HH.out.2.2.1 HH.out.2.2.2.1 HH.out.2.2.2.2).mono ?_; rintro e w3 ⟨rfl, hx3⟩; go_wp2_with fail; refine hK.out _ _ ?_ (fun hHeld => ?_); rotate_left; clear hK K; rotate_right; (focus ((try dsimp only); exact kept)); (try simp only [Act.put, List.setIfInBounds_toArray, List.set_cons_zero, List.set_cons_succ])
  have O4 := hHeld.2.2.2
  have E4 := hHeld.1
  refine takeL (i := 8) (v := ?_) rfl (by kernel_rfl) (by kernel_rfl) (by kernel_rfl) (fun _ _ _ h => h) (Or.inl ⟨by rfl, ?_⟩) (by assumption) ?_; rotate_left; (focus (intro wq hSw; (try dsimp only at hSw); go_simp; try with_reducible rfl)); (try simp only [Act.put, List.setIfInBounds_toArray, List.set_cons_zero, List.set_cons_succ])
  refine takeL (i := 9) (v := ?_) rfl (by kernel_rfl) (by kernel_rfl) (by kernel_rfl) (fun _ _ _ h => h) (Or.inl ⟨by rfl, ?_⟩) (by assumption) ?_; rotate_left; (focus (intro wq hSw; (try dsimp only at hSw); go_simp; try with_reducible rfl)); (try simp only [Act.put, List.setIfInBounds_toArray, List.set_cons_zero, List.set_cons_succ])
  refine consL (i := 10) (by kernel_rfl) rfl (fun K hK => ?_); go_simp; refine hK.out _ _ ?_ (fun hHeld => ?_); rotate_left; clear hK K; rotate_right; (focus ((try dsimp only); exact kept)); (try simp only [Act.put, List.setIfInBounds_toArray, List.set_cons_zero, List.set_cons_succ])
  refine consL (i := 11) (by kernel_rfl) rfl (fun K hK => ?_); go_simp; refine hK.out _ _ ?_ (fun hHeld => ?_); rotate_left; clear hK K; rotate_right; (focus ((try dsimp only); exact kept)); (try simp only [Act.put, List.setIfInBounds_toArray, List.set_cons_zero, List.set_cons_succ])
  refine doneL (by kernel_rfl) ?_
  have hp := putF_cells O4 fvz
  obtain ⟨p0, p1, p2, p3⟩ := hp
  go_wp2_with fail
  refine bodyPost_ret (v := .tuple #[fvz.v, .int .i64 4]) (by simp [results, Try.results72, go_sem, p0, p1, p2, p3]) rfl ?_
  exact ⟨rfl, ext_putF E4 (by omega) fvz⟩
end Go.Proofs.Ytgmedfloflplgaa
