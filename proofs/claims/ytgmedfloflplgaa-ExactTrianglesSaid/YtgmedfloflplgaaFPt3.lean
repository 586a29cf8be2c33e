/- point: Mid. -/
import Derived.Test.YtgmedfloflplgaaFPt2
import Derived.Test.YtgmedfloflplgaaFDv
namespace Go.Proofs.Ytgmedfloflplgaa
set_option linter.unusedSimpArgs false
set_option linter.unusedVariables false
open Go.RowKit

theorem Own.putF4 {w : World} {b b' n : Nat} (h : Own w b n) (f : FV) : Own (putF w b' f) b n :=
  ⟨own1_set (own1_set (own1_set (own1_set h.1))), own2_set (own2_set (own2_set (own2_set h.2.1))), own3_set (own3_set (own3_set (own3_set h.2.2 (by simp)) (by simp)) (by simp)) (by simp)⟩
theorem Var.putF4 {w : World} {b b' : Nat} {v : Value} (h : Var w b v) (hne : b ≠ b') (f : FV) : Var (putF w b' f) b v :=
  ⟨cell_set (cell_set (cell_set (cell_set h.1 hne) hne) hne) hne, own2_set (own2_set (own2_set (own2_set h.2)))⟩
set_option maxRecDepth 100000 in
set_option maxHeartbeats 4000000 in
theorem mhalf_c (a b : FV) (x y u v : Int) (k eb : Nat) (w : World) (ha : IsR w a x y k) (hb : IsR w b u v k) (hE : Var w eb (.int .i64 0)) (hk : 4 * k + 2 ≤ 16384) (hk1 : 1 ≤ k) :
    Calls Try.prog 82 #[a.v, b.v, .pointer (some ⟨eb, 0, none⟩)] w fun e w' => ∃ f : FV, e = .returned f.v ∧ IsR w' f ((x * v + u * y) * (1 * 1)) (y * v * (1 * 2)) (2 * (2 * k + 1)) ∧ Ext w w' := by
  have HA := Lib.hid (And.intro ha hb)
  have h2 : Hid ((2 : Int).natAbs < 2 ^ (2 * k + 1)) := Lib.hid (by have := Nat.pow_le_pow_right (show 0 < 2 by decide) (show 2 ≤ 2 * k + 1 by omega); simp; omega)
  have hl := lt_of_cell hE.1
  have HE := Lib.hid hE
  have e0 := hE.1
  have ef := hE.2
  clear ha hb hE
  obtain ⟨B, hB⟩ : ∃ B, w.heap.size = B := ⟨_, rfl⟩
  have hne3 : eb ≠ B + 1 + 1 + 1 := by omega
  have hlB : eb < B := by omega
  go_enter Try.func82, Try.ntmps82
  clear e0 ef
  go_upto_region 2 with (fail)
  refine wp_gen (fun W => Ext w W ∧ At W B #[.bool a.n.neg, .slice a.n.a a.n.n a.n.c, .bool a.d.neg, .slice a.d.a a.d.n a.d.c] ∧ At W (B + 1) #[.bool b.n.neg, .slice b.n.a b.n.n b.n.c, .bool b.d.neg, .slice b.d.a b.d.n b.d.c] ∧ Own W (B + 1 + 1) 4 ∧ Own W (B + 1 + 1 + 1) 4 ∧ Var W eb (.int .i64 0)) ?_ ?_
  · refine ⟨(by repeat (first | exact Ext.refl _ | assumption | refine Ext.setCell ?_ (by first | (simp; done) | (simp; omega) | omega) _ | refine Ext.alloc ?_ _ | refine Ext.drew ?_ | refine Ext.trans ?_ (by assumption))), ((((Blk.at _ 49 hB.symm).alloc _).alloc _).alloc _).at', (((Blk.at _ 49 (by simp [hB])).alloc _).alloc _).at', ((Blk.at #[.bool false, .slice none 0 0, .bool false, .slice none 0 0] 49 (by simp [hB])).alloc _).own _ (by simp) (noIntF _ _ _ _ _ _ _ _), (Blk.at #[.bool false, .slice none 0 0, .bool false, .slice none 0 0] 49 (by simp [hB])).own _ (by simp) (noIntF _ _ _ _ _ _ _ _), Var.ext (by repeat (first | exact Ext.refl _ | assumption | refine Ext.setCell ?_ (by first | (simp; done) | (simp; omega) | omega) _ | refine Ext.alloc ?_ _ | refine Ext.drew ?_ | refine Ext.trans ?_ (by assumption))) HE.out⟩
  try rw [hB]
  rintro V ⟨E0, A0, A1, O2, O3, V0⟩
  have HS := Lib.hid (And.intro E0 (And.intro O2 (And.intro O3 V0)))
  have a0 := A0 0 (by simp); have a1 := A0 1 (by simp); have a2 := A0 2 (by simp); have a3 := A0 3 (by simp)
  have b0 := A1 0 (by simp); have b1 := A1 1 (by simp); have b2 := A1 2 (by simp); have b3 := A1 3 (by simp)
  simp only [List.getElem?_toArray, List.getElem?_cons_zero, List.getElem?_cons_succ] at a0 a1 a2 a3 b0 b1 b2 b3
  have e0 := V0.1
  clear E0 O2 O3 V0 A0 A1
  go_wp2_with fail
  refine (addN_c a b x y u v k _ (HA.out.1.keep HS.out.1.ik) (HA.out.2.keep HS.out.1.ik) (by omega)).mono ?_
  rintro e w2 ⟨f, rfl, hf, hx2⟩
  have O3 := HS.out.2.2.1.ext hx2 (by omega)
  have O2 := HS.out.2.1.ext hx2 (by omega)
  have V2 : Var w2 eb (.int .i64 0) := Var.ext hx2 HS.out.2.2.2
  have HG := Lib.hid (And.intro hf (HS.out.1.trans hx2))
  have HO := Lib.hid (And.intro O3 (And.intro O2 V2))
  have o0 := O3.1 0 (by omega); have o1 := O3.1 1 (by omega); have o2 := O3.1 2 (by omega); have o3 := O3.1 3 (by omega); have of := O3.2.1
  have e2 := V2.1; have ef2 := V2.2
  clear hf hx2 O3 O2 V2 e0 a0 a1 a2 a3 b0 b1 b2 b3
  go_upto_region 4 with (fail)
  have hid2 := setCell_id (w := putF w2 (B + 1 + 1 + 1) f) (b := eb) (o := 0) (v := .int .i64 0) (cell_set (cell_set (cell_set (cell_set e2 hne3) hne3) hne3) hne3)
  refine wp_gen (fun W => (Ext w W ∧ Own W (B + 1 + 1 + 1) 4 ∧ Own W (B + 1 + 1) 4 ∧ Var W eb (.int .i64 0)) ∧ At W (B + 1 + 1 + 1) #[.bool f.n.neg, .slice f.n.a f.n.n f.n.c, .bool f.d.neg, .slice f.d.a f.d.n f.d.c] ∧ IsR W f (x * v + u * y) (y * v) (2 * k + 1)) ?_ ?_
  · rw [hid2]
    exact ⟨⟨ext_putF HG.out.2 (by omega) f, Own.putF4 HO.out.1 f, Own.putF4 HO.out.2.1 f, Var.putF4 HO.out.2.2 hne3 f⟩, At.putF' HO.out.1 f, HG.out.1.keep (IK.putF HO.out.1 f)⟩
  clear hid2 o0 o1 o2 o3 of e2 ef2 HG HO
  rintro V4 ⟨⟨E4, O3, O2, V4v⟩, A3, hf⟩
  have HF := Lib.hid hf
  have e0 := V4v.1
  have f0 := A3 0 (by simp); have f1 := A3 1 (by simp); have f2 := A3 2 (by simp); have f3 := A3 3 (by simp); simp only [List.getElem?_toArray, List.getElem?_cons_zero, List.getElem?_cons_succ] at f0 f1 f2 f3
  clear hf
  go_upto_region 5 with (fail)
  clear e0
  refine wp_region_held_drew (S := fun W => Ext w W ∧ Own W (B + 1 + 1 + 1) 4 ∧ Own W (B + 1 + 1) 4 ∧ Var W eb (.int .i64 0)) (by kernel_rfl) ⟨E4.drew, O3, O2, V4v⟩ (fun hHeld => ?_)
  clear E4 O3 O2 V4v
  refine cons2L (i := 0) (j := 1) (by kernel_rfl) rfl rfl (fun K hK => ?_) (fun K hK => ?_)
  · have hhid := Lib.hid hHeld; clear hHeld; go_simp; refine hK.out _ _ ?_ (fun hHeld => ?_); rotate_left; clear hK K; rotate_right; (focus exact hhid.out); (try simp only [Act.put, List.setIfInBounds_toArray, List.set_cons_zero, List.set_cons_succ]); clear hhid
    clear f0 f1 f2 f3
    refine consL (i := 1) (by kernel_rfl) rfl (fun K hK => ?_); go_simp; go_at_call 64; refine (whole_c 2 (2 * k + 1) _ (by omega) (by omega) (by omega) h2.out).mono ?_; rintro e w5 ⟨t, rfl, ht, hx5⟩; go_wp2_with fail; refine hK.out _ _ ?_ (fun hHeld => ?_); rotate_left; clear hK K; rotate_right; (focus ((try dsimp only); exact kept2)); (try simp only [Act.put, List.setIfInBounds_toArray, List.set_cons_zero, List.set_cons_succ])
    refine consL (i := 2) (by kernel_rfl) rfl (fun K hK => ?_); go_simp; go_at_call 83; have h1 := divN_c f t (x * v + u * y) (y * v) 2 1 1 (2 * k + 1) w5 (HF.out.keep (Ext.ik ((Ext.refl V4).drew.trans hx5))) ht (.inl rfl) (by omega) (by omega); refine h1.mono ?_; clear h1; rintro e w6 ⟨h, rfl, hh, hx6⟩; go_wp2_with fail; refine hK.out _ _ ?_ (fun hHeld => ?_); rotate_left; clear hK K; rotate_right; (focus ((try dsimp only); exact kept2)); (try simp only [Act.put, List.setIfInBounds_toArray, List.set_cons_zero, List.set_cons_succ])
    have O6 := hHeld.2.1; have R6 := hHeld.2.2.1; have V6 := hHeld.2.2.2; have E6 := hHeld.1; refine takeL (i := 3) (v := ?_) rfl (by kernel_rfl) (by kernel_rfl) (by kernel_rfl) (fun _ _ _ h => h) (Or.inl ⟨by rfl, ?_⟩) (by assumption) ?_; rotate_left; (focus (intro wq hSw; (try dsimp only at hSw); go_simp; try with_reducible rfl)); (try simp only [Act.put, List.setIfInBounds_toArray, List.set_cons_zero, List.set_cons_succ]); refine takeL (i := 4) (v := ?_) rfl (by kernel_rfl) (by kernel_rfl) (by kernel_rfl) (fun _ _ _ h => h) (Or.inl ⟨by rfl, ?_⟩) (by assumption) ?_; rotate_left; (focus (intro wq hSw; (try dsimp only at hSw); go_simp; try with_reducible rfl)); (try simp only [Act.put, List.setIfInBounds_toArray, List.set_cons_zero, List.set_cons_succ]); refine takeL (i := 5) (v := ?_) rfl (by kernel_rfl) (by kernel_rfl) (by kernel_rfl) (fun _ _ _ h => h) (Or.inl ⟨by rfl, ?_⟩) (by assumption) ?_; rotate_left; (focus (intro wq hSw; (try dsimp only at hSw); go_simp; try with_reducible rfl)); (try simp only [Act.put, List.setIfInBounds_toArray, List.set_cons_zero, List.set_cons_succ]); have o0 := O6.1 0 (by omega); have o1 := O6.1 1 (by omega); have o2 := O6.1 2 (by omega); have o3 := O6.1 3 (by omega); have of := O6.2.1; have e0 := V6.1; have ef := V6.2; have hid6 := setCell_id (w := putF w6 (B + 1 + 1 + 1) h) (b := eb) (o := 0) (v := .int .i64 0) (cell_set (cell_set (cell_set (cell_set e0 hne3) hne3) hne3) hne3); refine consL (i := 6) (by kernel_rfl) rfl (fun K hK => ?_); go_simp; refine hK.out _ _ ?_ (fun hHeld => ?_); rotate_left; clear hK K; rotate_right; (focus ((try dsimp only); exact kept2)); (try simp only [Act.put, List.setIfInBounds_toArray, List.set_cons_zero, List.set_cons_succ]); have hH7 := hHeld; refine consL (i := 7) (by kernel_rfl) rfl (fun K hK => ?_); go_simp; refine hK.out _ _ ?_ (fun _ => ?_); rotate_left; clear hK K; rotate_right; (focus exact hH7); (try simp only [Act.put, List.setIfInBounds_toArray, List.set_cons_zero, List.set_cons_succ]); refine doneL (by kernel_rfl) ?_; go_upto_region 6 with (fail); refine wp_gen (fun W => Ext w W ∧ At W (B + 1 + 1 + 1) #[.bool h.n.neg, .slice h.n.a h.n.n h.n.c, .bool h.d.neg, .slice h.d.a h.d.n h.d.c] ∧ Own W (B + 1 + 1) 4 ∧ IsR W h ((x * v + u * y) * (1 * 1)) (y * v * (1 * 2)) (2 * (2 * k + 1))) ?_ ?_
    · exact ⟨ext_putF E6 (by omega) h, At.putF' O6 h, Own.putF4 R6 h, hh.keep (IK.putF O6 h)⟩
    · clear o0 o1 o2 o3 of e0 ef hid6 O6 R6 V6 E6 hHeld hH7
      rintro W8 ⟨E8, A8, O8, hh8⟩; have H8 := Lib.hid (And.intro E8 (And.intro O8 hh8)); have f0 := A8 0 (by simp); have f1 := A8 1 (by simp); have f2 := A8 2 (by simp); have f3 := A8 3 (by simp); simp only [List.getElem?_toArray, List.getElem?_cons_zero, List.getElem?_cons_succ] at f0 f1 f2 f3; have q0 := O8.1 0 (by omega); have q1 := O8.1 1 (by omega); have q2 := O8.1 2 (by omega); have q3 := O8.1 3 (by omega); have qf := O8.2.1; obtain ⟨z0, z1, z2, z3⟩ := putF_cells O8 h; clear E8 A8 O8 hh8; go_wp2_with fail; refine bodyPost_ret (v := h.v) (by simp [results, Try.results82, go_sem, z0, z1, z2, z3]) rfl ?_; exact ⟨h, rfl, H8.out.2.2.keep (IK.putF H8.out.2.1 h), ext_putF H8.out.1 (by omega) h⟩
  · clear f0 f1 f2 f3
    go_simp; go_at_call 64; refine (whole_c 2 (2 * k + 1) _ (by omega) (by omega) (by omega) h2.out).mono ?_; rintro e w5 ⟨t, rfl, ht, hx5⟩; go_wp2_with fail; refine hK.out _ _ ?_ (fun hHeld => ?_); rotate_left; clear hK K; rotate_right; (focus ((try dsimp only); exact kept2)); (try simp only [Act.put, List.setIfInBounds_toArray, List.set_cons_zero, List.set_cons_succ])
    have A5 := A3.drew.ext hx5 (by simp)
    have f0 := A5 0 (by simp); have f1 := A5 1 (by simp); have f2 := A5 2 (by simp); have f3 := A5 3 (by simp); simp only [List.getElem?_toArray, List.getElem?_cons_zero, List.getElem?_cons_succ] at f0 f1 f2 f3
    refine consL (i := 0) (by kernel_rfl) rfl (fun K hK => ?_)
    have hhid := Lib.hid hHeld; clear hHeld; go_simp; refine hK.out _ _ ?_ (fun hHeld => ?_); rotate_left; clear hK K; rotate_right; (focus exact hhid.out); (try simp only [Act.put, List.setIfInBounds_toArray, List.set_cons_zero, List.set_cons_succ]); clear hhid
    clear f0 f1 f2 f3 A5
    refine consL (i := 2) (by kernel_rfl) rfl (fun K hK => ?_); go_simp; go_at_call 83; have h1 := divN_c f t (x * v + u * y) (y * v) 2 1 1 (2 * k + 1) w5 (HF.out.keep (Ext.ik ((Ext.refl V4).drew.trans hx5))) ht (.inl rfl) (by omega) (by omega); refine h1.mono ?_; clear h1; rintro e w6 ⟨h, rfl, hh, hx6⟩; go_wp2_with fail; refine hK.out _ _ ?_ (fun hHeld => ?_); rotate_left; clear hK K; rotate_right; (focus ((try dsimp only); exact kept2)); (try simp only [Act.put, List.setIfInBounds_toArray, List.set_cons_zero, List.set_cons_succ])
    have O6 := hHeld.2.1; have R6 := hHeld.2.2.1; have V6 := hHeld.2.2.2; have E6 := hHeld.1; refine takeL (i := 3) (v := ?_) rfl (by kernel_rfl) (by kernel_rfl) (by kernel_rfl) (fun _ _ _ h => h) (Or.inl ⟨by rfl, ?_⟩) (by assumption) ?_; rotate_left; (focus (intro wq hSw; (try dsimp only at hSw); go_simp; try with_reducible rfl)); (try simp only [Act.put, List.setIfInBounds_toArray, List.set_cons_zero, List.set_cons_succ]); refine takeL (i := 4) (v := ?_) rfl (by kernel_rfl) (by kernel_rfl) (by kernel_rfl) (fun _ _ _ h => h) (Or.inl ⟨by rfl, ?_⟩) (by assumption) ?_; rotate_left; (focus (intro wq hSw; (try dsimp only at hSw); go_simp; try with_reducible rfl)); (try simp only [Act.put, List.setIfInBounds_toArray, List.set_cons_zero, List.set_cons_succ]); refine takeL (i := 5) (v := ?_) rfl (by kernel_rfl) (by kernel_rfl) (by kernel_rfl) (fun _ _ _ h => h) (Or.inl ⟨by rfl, ?_⟩) (by assumption) ?_; rotate_left; (focus (intro wq hSw; (try dsimp only at hSw); go_simp; try with_reducible rfl)); (try simp only [Act.put, List.setIfInBounds_toArray, List.set_cons_zero, List.set_cons_succ]); have o0 := O6.1 0 (by omega); have o1 := O6.1 1 (by omega); have o2 := O6.1 2 (by omega); have o3 := O6.1 3 (by omega); have of := O6.2.1; have e0 := V6.1; have ef := V6.2; have hid6 := setCell_id (w := putF w6 (B + 1 + 1 + 1) h) (b := eb) (o := 0) (v := .int .i64 0) (cell_set (cell_set (cell_set (cell_set e0 hne3) hne3) hne3) hne3); refine consL (i := 6) (by kernel_rfl) rfl (fun K hK => ?_); go_simp; refine hK.out _ _ ?_ (fun hHeld => ?_); rotate_left; clear hK K; rotate_right; (focus ((try dsimp only); exact kept2)); (try simp only [Act.put, List.setIfInBounds_toArray, List.set_cons_zero, List.set_cons_succ]); have hH7 := hHeld; refine consL (i := 7) (by kernel_rfl) rfl (fun K hK => ?_); go_simp; refine hK.out _ _ ?_ (fun _ => ?_); rotate_left; clear hK K; rotate_right; (focus exact hH7); (try simp only [Act.put, List.setIfInBounds_toArray, List.set_cons_zero, List.set_cons_succ]); refine doneL (by kernel_rfl) ?_; go_upto_region 6 with (fail); refine wp_gen (fun W => Ext w W ∧ At W (B + 1 + 1 + 1) #[.bool h.n.neg, .slice h.n.a h.n.n h.n.c, .bool h.d.neg, .slice h.d.a h.d.n h.d.c] ∧ Own W (B + 1 + 1) 4 ∧ IsR W h ((x * v + u * y) * (1 * 1)) (y * v * (1 * 2)) (2 * (2 * k + 1))) ?_ ?_
    · exact ⟨ext_putF E6 (by omega) h, At.putF' O6 h, Own.putF4 R6 h, hh.keep (IK.putF O6 h)⟩
    · clear o0 o1 o2 o3 of e0 ef hid6 O6 R6 V6 E6 hHeld hH7
      rintro W8 ⟨E8, A8, O8, hh8⟩; have H8 := Lib.hid (And.intro E8 (And.intro O8 hh8)); have f0 := A8 0 (by simp); have f1 := A8 1 (by simp); have f2 := A8 2 (by simp); have f3 := A8 3 (by simp); simp only [List.getElem?_toArray, List.getElem?_cons_zero, List.getElem?_cons_succ] at f0 f1 f2 f3; have q0 := O8.1 0 (by omega); have q1 := O8.1 1 (by omega); have q2 := O8.1 2 (by omega); have q3 := O8.1 3 (by omega); have qf := O8.2.1; obtain ⟨z0, z1, z2, z3⟩ := putF_cells O8 h; clear E8 A8 O8 hh8; go_wp2_with fail; refine bodyPost_ret (v := h.v) (by simp [results, Try.results82, go_sem, z0, z1, z2, z3]) rfl ?_; exact ⟨h, rfl, H8.out.2.2.keep (IK.putF H8.out.2.1 h), ext_putF H8.out.1 (by omega) h⟩
end Go.Proofs.Ytgmedfloflplgaa
