/- meresmanlaw07: same. -/
import Derived.Test.YtagiaiocgjagnaaWT
import Derived.Test.YtagiaiocgjagnaaMX11
namespace Go.Proofs.Ytagiaiocgjagnaa
set_option linter.unusedSimpArgs false
set_option linter.unusedVariables false
open Go.RowKit

/-- What a cut's box holds. -/
def CutB (w : World) (b : Nat) (c : CV) : Prop := w.cell? ⟨b, 0, none⟩ = some (.int .i64 c.k) ∧ (w.cell? ⟨b, 1, none⟩ = some (.bool c.A.x.n.neg) ∧ w.cell? ⟨b, 2, none⟩ = some (.slice c.A.x.n.a c.A.x.n.n c.A.x.n.c) ∧ w.cell? ⟨b, 3, none⟩ = some (.bool c.A.x.d.neg) ∧ w.cell? ⟨b, 4, none⟩ = some (.slice c.A.x.d.a c.A.x.d.n c.A.x.d.c) ∧ w.cell? ⟨b, 5, none⟩ = some (.bool c.A.y.n.neg) ∧ w.cell? ⟨b, 6, none⟩ = some (.slice c.A.y.n.a c.A.y.n.n c.A.y.n.c) ∧ w.cell? ⟨b, 7, none⟩ = some (.bool c.A.y.d.neg) ∧ w.cell? ⟨b, 8, none⟩ = some (.slice c.A.y.d.a c.A.y.d.n c.A.y.d.c)) ∧ w.cell? ⟨b, 9, none⟩ = some (.bool c.T.x.n.neg) ∧ w.cell? ⟨b, 10, none⟩ = some (.slice c.T.x.n.a c.T.x.n.n c.T.x.n.c) ∧ w.cell? ⟨b, 11, none⟩ = some (.bool c.T.x.d.neg) ∧ w.cell? ⟨b, 12, none⟩ = some (.slice c.T.x.d.a c.T.x.d.n c.T.x.d.c) ∧ w.cell? ⟨b, 13, none⟩ = some (.bool c.T.y.n.neg) ∧ w.cell? ⟨b, 14, none⟩ = some (.slice c.T.y.n.a c.T.y.n.n c.T.y.n.c) ∧ w.cell? ⟨b, 15, none⟩ = some (.bool c.T.y.d.neg) ∧ w.cell? ⟨b, 16, none⟩ = some (.slice c.T.y.d.a c.T.y.d.n c.T.y.d.c)
theorem Blk.cutB {w : World} {b : Nat} {c : CV} {t : TypeId} (h : Blk w b c.cs t) : CutB w b c :=
  ⟨h.cell 0, ⟨h.cell 1, h.cell 2, h.cell 3, h.cell 4, h.cell 5, h.cell 6, h.cell 7, h.cell 8⟩, h.cell 9, h.cell 10, h.cell 11, h.cell 12, h.cell 13, h.cell 14, h.cell 15, h.cell 16⟩
/-- A cut of the reference. -/
structure RC where
  k : Int
  A : RP
  T : RP
abbrev RC.cs (c : RC) : Array Value := #[.int .i64 c.k, .int .i64 c.A.x, .int .i64 c.A.y, .int .i64 c.A.d, .int .i64 c.T.x, .int .i64 c.T.y, .int .i64 c.T.d]
abbrev RC.v (c : RC) : Value := .agg c.cs
/-- The reference's cut stands for a kind and two points. -/
structure RCok (c : RC) (m : Int × QP × QP) : Prop where
  k : c.k = m.1
  A : ownQ c.A = m.2.1
  T : ownQ c.T = m.2.2
  bA : RB64 c.A
  bT : RB64 c.T
set_option maxRecDepth 100000 in
set_option maxHeartbeats 8000000 in
theorem same_c (c : CV) (r : RC) (m : Int × QP × QP) (w : World) (hc : IsC w c m) (hr : RCok r m) :
    Calls Try.prog 29 #[c.v, r.v] w fun e w' => e = .returned (.bool true) ∧ Ext w w' := by
  have hk : c.k = r.k := hc.k.trans hr.k.symm
  have HC := Lib.hid hc; have HR := Lib.hid hr
  have HK := Lib.hid hk
  clear hc hr hk
  obtain ⟨B, hB⟩ : ∃ B, w.heap.size = B := ⟨_, rfl⟩
  obtain ⟨k, A, T⟩ := r
  obtain ⟨k', A', T'⟩ := c
  obtain rfl : k' = k := HK.out
  clear HK
  go_enter Try.func29, Try.ntmps29
  go_upto_region 1 with (fail)
  refine wp_gen (fun W => Ext w W ∧ Blk W B (CV.cs ⟨k', A', T'⟩) 47 ∧ Blk W (B + 1) (RC.cs ⟨k', A, T⟩) 74) ⟨(by repeat (first | exact Ext.refl _ | assumption | refine Ext.setCell ?_ (by first | (simp; done) | (simp; omega) | omega) _ | refine Ext.alloc ?_ _ | refine Ext.drew ?_ | refine Ext.trans ?_ (by assumption))), (Blk.at (CV.cs ⟨k', A', T'⟩) 47 hB.symm).alloc _, Blk.at (RC.cs ⟨k', A, T⟩) 74 (by simp [hB])⟩ ?_
  try rw [hB]
  rintro V ⟨E0, A0, A1⟩
  have HE := Lib.hid E0
  have HA := Lib.hid (fun W (e : Ext V W) => (show CutB W B ⟨k', A', T'⟩ from (A0.ext e).cutB))
  have HB := Lib.hid (fun W (e : Ext V W) => (show W.cell? ⟨B + 1, 0, none⟩ = some (.int .i64 k') ∧ (W.cell? ⟨B + 1, 1, none⟩ = some (.int .i64 A.x) ∧ W.cell? ⟨B + 1, 2, none⟩ = some (.int .i64 A.y) ∧ W.cell? ⟨B + 1, 3, none⟩ = some (.int .i64 A.d)) ∧ W.cell? ⟨B + 1, 4, none⟩ = some (.int .i64 T.x) ∧ W.cell? ⟨B + 1, 5, none⟩ = some (.int .i64 T.y) ∧ W.cell? ⟨B + 1, 6, none⟩ = some (.int .i64 T.d) from ⟨(A1.ext e).cell 0, ⟨(A1.ext e).cell 1, (A1.ext e).cell 2, (A1.ext e).cell 3⟩, (A1.ext e).cell 4, (A1.ext e).cell 5, (A1.ext e).cell 6⟩))
  unfold CutB at HA
  have HA0 := Lib.hid (fun W (e : Ext V W) => (HA.out W e).1)
  have HA1 := Lib.hid (fun W (e : Ext V W) => (HA.out W e).2.1)
  have HA2 := Lib.hid (fun W (e : Ext V W) => (HA.out W e).2.2)
  have HB0 := Lib.hid (fun W (e : Ext V W) => (HB.out W e).1)
  have HB1 := Lib.hid (fun W (e : Ext V W) => (HB.out W e).2.1)
  have HB2 := Lib.hid (fun W (e : Ext V W) => (HB.out W e).2.2)
  clear E0 A0 A1 HA HB
  have HCA := Lib.hid HC.out.A
  have HCT := Lib.hid HC.out.T
  have z1 := Lib.hid (show cmpP m.2.1 m.2.1 = 0 from cmpP_self _)
  have z2 := Lib.hid (show cmpP m.2.2 m.2.2 = 0 from cmpP_self _)
  refine wp_region_held_drew (S := fun W => Ext V W) (by kernel_rfl) ((Ext.refl V).drew) (fun hHeld => ?_)
  refine tkW (i := 0) (h := ?_)
  refine takeL (i := 1) (v := ?_) rfl (by kernel_rfl) (by kernel_rfl) (by kernel_rfl) (fun _ _ _ h => h) (Or.inl ⟨by rfl, ?_⟩) (by assumption) ?_; rotate_left; (focus (intro wq hSw; have hcc := HA0.out wq hSw; clear hSw; go_split_ands; go_simp; try with_reducible rfl)); (try simp only [Act.put, List.setIfInBounds_toArray, List.set_cons_zero, List.set_cons_succ])
  refine tkW (i := 2) (h := ?_)
  refine takeL (i := 3) (v := ?_) rfl (by kernel_rfl) (by kernel_rfl) (by kernel_rfl) (fun _ _ _ h => h) (Or.inl ⟨by rfl, ?_⟩) (by assumption) ?_; rotate_left; (focus (intro wq hSw; have hcc := HB0.out wq hSw; clear hSw; go_split_ands; go_simp; try with_reducible rfl)); (try simp only [Act.put, List.setIfInBounds_toArray, List.set_cons_zero, List.set_cons_succ])
  refine tkW (i := 4) (h := ?_)
  refine tkW (i := 5) (h := ?_)
  refine tkW (i := 6) (h := ?_)
  refine takeL (i := 7) (v := ?_) rfl (by kernel_rfl) (by kernel_rfl) (by kernel_rfl) (fun _ _ _ h => h) (Or.inl ⟨by rfl, ?_⟩) (by assumption) ?_; rotate_left; (focus (intro wq hSw; have hcc := HA1.out wq hSw; clear hSw; go_split_ands; go_simp; try with_reducible rfl)); (try simp only [Act.put, List.setIfInBounds_toArray, List.set_cons_zero, List.set_cons_succ])
  refine tkW (i := 8) (h := ?_)
  refine takeL (i := 9) (v := ?_) rfl (by kernel_rfl) (by kernel_rfl) (by kernel_rfl) (fun _ _ _ h => h) (Or.inl ⟨by rfl, ?_⟩) (by assumption) ?_; rotate_left; (focus (intro wq hSw; have hcc := HB1.out wq hSw; clear hSw; go_split_ands; go_simp; try with_reducible rfl)); (try simp only [Act.put, List.setIfInBounds_toArray, List.set_cons_zero, List.set_cons_succ])
  refine consL (i := 10) (by kernel_rfl) rfl (fun K hK => ?_); go_simp; go_at_call 36; refine (lown_c A _ HR.out.bA).mono ?_; rw [show ownQ A = m.2.1 from HR.out.A]; rintro e w2 ⟨f, rfl, hf, hx2⟩; go_wp2_with fail; refine hK.out _ _ ?_ ?_; rotate_left; clear hK K; intro hHeld; rotate_right; (focus (refine Ext.trans ?_ (by assumption); assumption)); (try simp only [Act.put, List.setIfInBounds_toArray, List.set_cons_zero, List.set_cons_succ])
  refine consL (i := 11) (by kernel_rfl) rfl (fun K hK => ?_); go_simp; go_at_call 24; refine (pCompare_c A' f m.2.1 m.2.1 _ (HCA.out.keep (HE.out.trans (by assumption)).ik) hf).mono ?_; rw [z1.out]; rintro e w3 ⟨rfl, hx3⟩; go_wp2_with fail; refine hK.out _ _ ?_ ?_; rotate_left; clear hK K; intro hHeld; rotate_right; (focus (refine Ext.trans ?_ (by assumption); assumption)); (try simp only [Act.put, List.setIfInBounds_toArray, List.set_cons_zero, List.set_cons_succ])
  clear hf hx2 hx3
  refine tkW (i := 12) (h := ?_)
  refine tkW (i := 13) (h := ?_)
  refine tkW (i := 14) (h := ?_)
  refine tkW (i := 15) (h := ?_)
  refine takeL (i := 16) (v := ?_) rfl (by kernel_rfl) (by kernel_rfl) (by kernel_rfl) (fun _ _ _ h => h) (Or.inl ⟨by rfl, ?_⟩) (by assumption) ?_; rotate_left; (focus (intro wq hSw; have hcc := HA2.out wq hSw; clear hSw; go_split_ands; go_simp; try with_reducible rfl)); (try simp only [Act.put, List.setIfInBounds_toArray, List.set_cons_zero, List.set_cons_succ])
  refine tkW (i := 17) (h := ?_)
  refine takeL (i := 18) (v := ?_) rfl (by kernel_rfl) (by kernel_rfl) (by kernel_rfl) (fun _ _ _ h => h) (Or.inl ⟨by rfl, ?_⟩) (by assumption) ?_; rotate_left; (focus (intro wq hSw; have hcc := HB2.out wq hSw; clear hSw; go_split_ands; go_simp; try with_reducible rfl)); (try simp only [Act.put, List.setIfInBounds_toArray, List.set_cons_zero, List.set_cons_succ])
  refine consL (i := 19) (by kernel_rfl) rfl (fun K hK => ?_); go_simp; go_at_call 36; refine (lown_c T _ HR.out.bT).mono ?_; rw [show ownQ T = m.2.2 from HR.out.T]; rintro e w4 ⟨g, rfl, hg, hx4⟩; go_wp2_with fail; refine hK.out _ _ ?_ ?_; rotate_left; clear hK K; intro hHeld; rotate_right; (focus (refine Ext.trans ?_ (by assumption); assumption)); (try simp only [Act.put, List.setIfInBounds_toArray, List.set_cons_zero, List.set_cons_succ])
  refine consL (i := 20) (by kernel_rfl) rfl (fun K hK => ?_); go_simp; go_at_call 24; refine (pCompare_c T' g m.2.2 m.2.2 _ (HCT.out.keep (HE.out.trans (by assumption)).ik) hg).mono ?_; rw [z2.out]; rintro e w5 ⟨rfl, hx5⟩; go_wp2_with fail; refine hK.out _ _ ?_ ?_; rotate_left; clear hK K; intro hHeld; rotate_right; (focus (refine Ext.trans ?_ (by assumption); assumption)); (try simp only [Act.put, List.setIfInBounds_toArray, List.set_cons_zero, List.set_cons_succ])
  have HX5 := Lib.hid (show Ext V w5 by assumption)
  clear hg hx4 hx5
  refine tkW (i := 21) (h := ?_)
  refine tkW (i := 22) (h := ?_)
  refine tkW (i := 23) (h := ?_)
  refine doneL (by kernel_rfl) ?_
  go_wp2_with fail
  go_ret
  exact ⟨rfl, HE.out.trans HX5.out⟩
end Go.Proofs.Ytagiaiocgjagnaa
