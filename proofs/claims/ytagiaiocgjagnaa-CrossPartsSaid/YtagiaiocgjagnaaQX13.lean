/- X12 X13: several texts of this proof in one. -/
import Derived.Test.YtagiaiocgjagnaaQWT
import Derived.Test.YtagiaiocgjagnaaQX11
namespace Go.Proofs.Ytagiaiocgjagnaa
set_option linter.unusedSimpArgs false
set_option linter.unusedVariables false
open Go.RowKit

/-- What a cut's box holds. -/
def CutB (w : World) (b : Nat) (c : CV) : Prop := w.cell? ⟨b, 0, none⟩ = some (.int .i64 c.k) ∧ (w.cell? ⟨b, 1, none⟩ = some (.bool c.A.x.n.neg) ∧ w.cell? ⟨b, 2, none⟩ = some (.slice c.A.x.n.a c.A.x.n.n c.A.x.n.c) ∧ w.cell? ⟨b, 3, none⟩ = some (.bool c.A.x.d.neg) ∧ w.cell? ⟨b, 4, none⟩ = some (.slice c.A.x.d.a c.A.x.d.n c.A.x.d.c) ∧ w.cell? ⟨b, 5, none⟩ = some (.bool c.A.y.n.neg) ∧ w.cell? ⟨b, 6, none⟩ = some (.slice c.A.y.n.a c.A.y.n.n c.A.y.n.c) ∧ w.cell? ⟨b, 7, none⟩ = some (.bool c.A.y.d.neg) ∧ w.cell? ⟨b, 8, none⟩ = some (.slice c.A.y.d.a c.A.y.d.n c.A.y.d.c)) ∧ w.cell? ⟨b, 9, none⟩ = some (.bool c.T.x.n.neg) ∧ w.cell? ⟨b, 10, none⟩ = some (.slice c.T.x.n.a c.T.x.n.n c.T.x.n.c) ∧ w.cell? ⟨b, 11, none⟩ = some (.bool c.T.x.d.neg) ∧ w.cell? ⟨b, 12, none⟩ = some (.slice c.T.x.d.a c.T.x.d.n c.T.x.d.c) ∧ w.cell? ⟨b, 13, none⟩ = some (.bool c.T.y.n.neg) ∧ w.cell? ⟨b, 14, none⟩ = some (.slice c.T.y.n.a c.T.y.n.n c.T.y.n.c) ∧ w.cell? ⟨b, 15, none⟩ = some (.bool c.T.y.d.neg) ∧ w.cell? ⟨b, 16, none⟩ = some (.slice c.T.y.d.a c.T.y.d.n c.T.y.d.c)
theorem Blk.cutB {w : World} {b : Nat} {c : CV} {t : TypeId} (h : Blk w b c.cs t) : CutB w b c :=
 ⟨h.cell 0, ⟨h.cell 1, h.cell 2, h.cell 3, h.cell 4, h.cell 5, h.cell 6, h.cell 7, h.cell 8⟩, h.cell 9, h.cell 10, h.cell 11, h.cell 12, h.cell 13, h.cell 14, h.cell 15, h.cell 16⟩
/-- A cut of the reference. -/
structure RC where
 k : Int
 A : RP
 T : RP
abbrev RC.cs (c : RC) : Array Value := #[.int .i64 c.k, .int .i64 c.A.x, .int .i64 c.A.y, .int .i64 c.A.d, .int .i64 c.T.x, .int .i64 c.T.y, .int .i64 c.T.d]
abbrev RC.v (c : RC) : Value := .agg c.cs
/-- The reference's cut stands for a kind and two points. -/
structure RCok (c : RC) (m : Int × QP × QP) : Prop where
 k : c.k = m.1
 A : ownQ c.A = m.2.1
 T : ownQ c.T = m.2.2
 bA : RB64 c.A
 bT : RB64 c.T
set_option maxRecDepth 100000 in
set_option maxHeartbeats 8000000 in
theorem same_c (c : CV) (r : RC) (m : Int × QP × QP) (w : World) (hc : IsC w c m) (hr : RCok r m) :
  Calls Try.prog 29 #[c.v, r.v] w fun e w' => e = .returned (.bool true) ∧ Ext w w' := by
 have hk : c.k = r.k := hc.k.trans hr.k.symm
 have HC := Lib.hid hc; have HR := Lib.hid hr
 have HK := Lib.hid hk
 clear hc hr hk
 obtain ⟨B, hB⟩ : ∃ B, w.heap.size = B := ⟨_, rfl⟩
 obtain ⟨k, A, T⟩ := r
 obtain ⟨k', A', T'⟩ := c
 obtain rfl : k' = k := HK.out
 clear HK
 go_enter Try.func29, Try.ntmps29
 go_upto_region 1 with (fail)
 refine wp_gen (fun W => Ext w W ∧ Blk W B (CV.cs ⟨k', A', T'⟩) 47 ∧ Blk W (B + 1) (RC.cs ⟨k', A, T⟩) 74) ⟨(by repeat (first | exact Ext.refl _ | assumption | refine Ext.setCell ?_ (by first | (simp; done) | (simp; omega) | omega) _ | refine Ext.alloc ?_ _ | refine Ext.drew ?_ | refine Ext.trans ?_ (by assumption))), (Blk.at (CV.cs ⟨k', A', T'⟩) 47 hB.symm).alloc _, Blk.at (RC.cs ⟨k', A, T⟩) 74 (by simp [hB])⟩ ?_
 try rw [hB]
 rintro V ⟨E0, A0, A1⟩
 have HE := Lib.hid E0
 have HA := Lib.hid (fun W (e : Ext V W) => (show CutB W B ⟨k', A', T'⟩ from (A0.ext e).cutB))
 have HB := Lib.hid (fun W (e : Ext V W) => (show W.cell? ⟨B + 1, 0, none⟩ = some (.int .i64 k') ∧ (W.cell? ⟨B + 1, 1, none⟩ = some (.int .i64 A.x) ∧ W.cell? ⟨B + 1, 2, none⟩ = some (.int .i64 A.y) ∧ W.cell? ⟨B + 1, 3, none⟩ = some (.int .i64 A.d)) ∧ W.cell? ⟨B + 1, 4, none⟩ = some (.int .i64 T.x) ∧ W.cell? ⟨B + 1, 5, none⟩ = some (.int .i64 T.y) ∧ W.cell? ⟨B + 1, 6, none⟩ = some (.int .i64 T.d) from ⟨(A1.ext e).cell 0, ⟨(A1.ext e).cell 1, (A1.ext e).cell 2, (A1.ext e).cell 3⟩, (A1.ext e).cell 4, (A1.ext e).cell 5, (A1.ext e).cell 6⟩))
 unfold CutB at HA
 have HA0 := Lib.hid (fun W (e : Ext V W) => (HA.out W e).1)
 have HA1 := Lib.hid (fun W (e : Ext V W) => (HA.out W e).2.1)
 have HA2 := Lib.hid (fun W (e : Ext V W) => (HA.out W e).2.2)
 have HB0 := Lib.hid (fun W (e : Ext V W) => (HB.out W e).1)
 have HB1 := Lib.hid (fun W (e : Ext V W) => (HB.out W e).2.1)
 have HB2 := Lib.hid (fun W (e : Ext V W) => (HB.out W e).2.2)
 clear E0 A0 A1 HA HB
 have HCA := Lib.hid HC.out.A
 have HCT := Lib.hid HC.out.T
 have z1 := Lib.hid (show cmpP m.2.1 m.2.1 = 0 from cmpP_self _)
 have z2 := Lib.hid (show cmpP m.2.2 m.2.2 = 0 from cmpP_self _)
 refine wp_region_held_drew (S := fun W => Ext V W) (by kernel_rfl) ((Ext.refl V).drew) (fun hHeld => ?_)
 refine tkW (i := 0) (h := ?_)
 refine takeL (i := 1) (v := ?_) rfl (by kernel_rfl) (by kernel_rfl) (by kernel_rfl) (fun _ _ _ h => h) (Or.inl ⟨by rfl, ?_⟩) (by assumption) ?_; rotate_left; (focus (intro wq hSw; have hcc := HA0.out wq hSw; clear hSw; go_split_ands; go_simp; try with_reducible rfl)); (try simp only [Act.put, List.setIfInBounds_toArray, List.set_cons_zero, List.set_cons_succ])
 refine tkW (i := 2) (h := ?_)
 refine takeL (i := 3) (v := ?_) rfl (by kernel_rfl) (by kernel_rfl) (by kernel_rfl) (fun _ _ _ h => h) (Or.inl ⟨by rfl, ?_⟩) (by assumption) ?_; rotate_left; (focus (intro wq hSw; have hcc := HB0.out wq hSw; clear hSw; go_split_ands; go_simp; try with_reducible rfl)); (try simp only [Act.put, List.setIfInBounds_toArray, List.set_cons_zero, List.set_cons_succ])
 refine tkW (i := 4) (h := ?_)
 refine tkW (i := 5) (h := ?_)
 refine tkW (i := 6) (h := ?_)
 refine takeL (i := 7) (v := ?_) rfl (by kernel_rfl) (by kernel_rfl) (by kernel_rfl) (fun _ _ _ h => h) (Or.inl ⟨by rfl, ?_⟩) (by assumption) ?_; rotate_left; (focus (intro wq hSw; have hcc := HA1.out wq hSw; clear hSw; go_split_ands; go_simp; try with_reducible rfl)); (try simp only [Act.put, List.setIfInBounds_toArray, List.set_cons_zero, List.set_cons_succ])
 refine tkW (i := 8) (h := ?_)
 refine takeL (i := 9) (v := ?_) rfl (by kernel_rfl) (by kernel_rfl) (by kernel_rfl) (fun _ _ _ h => h) (Or.inl ⟨by rfl, ?_⟩) (by assumption) ?_; rotate_left; (focus (intro wq hSw; have hcc := HB1.out wq hSw; clear hSw; go_split_ands; go_simp; try with_reducible rfl)); (try simp only [Act.put, List.setIfInBounds_toArray, List.set_cons_zero, List.set_cons_succ])
 refine consL (i := 10) (by kernel_rfl) rfl (fun K hK => ?_); go_simp; go_at_call 36; refine (lown_c A _ HR.out.bA).mono ?_; rw [show ownQ A = m.2.1 from HR.out.A]; rintro e w2 ⟨f, rfl, hf, hx2⟩; go_wp2_with fail; refine hK.out _ _ ?_ ?_; rotate_left; clear hK K; intro hHeld; rotate_right; (focus (refine Ext.trans ?_ (by assumption); assumption)); (try simp only [Act.put, List.setIfInBounds_toArray, List.set_cons_zero, List.set_cons_succ])
 refine consL (i := 11) (by kernel_rfl) rfl (fun K hK => ?_); go_simp; go_at_call 24; refine (pCompare_c A' f m.2.1 m.2.1 _ (HCA.out.keep (HE.out.trans (by assumption)).ik) hf).mono ?_; rw [z1.out]; rintro e w3 ⟨rfl, hx3⟩; go_wp2_with fail; refine hK.out _ _ ?_ ?_; rotate_left; clear hK K; intro hHeld; rotate_right; (focus (refine Ext.trans ?_ (by assumption); assumption)); (try simp only [Act.put, List.setIfInBounds_toArray, List.set_cons_zero, List.set_cons_succ])
 clear hf hx2 hx3
 refine tkW (i := 12) (h := ?_)
 refine tkW (i := 13) (h := ?_)
 refine tkW (i := 14) (h := ?_)
 refine tkW (i := 15) (h := ?_)
 refine takeL (i := 16) (v := ?_) rfl (by kernel_rfl) (by kernel_rfl) (by kernel_rfl) (fun _ _ _ h => h) (Or.inl ⟨by rfl, ?_⟩) (by assumption) ?_; rotate_left; (focus (intro wq hSw; have hcc := HA2.out wq hSw; clear hSw; go_split_ands; go_simp; try with_reducible rfl)); (try simp only [Act.put, List.setIfInBounds_toArray, List.set_cons_zero, List.set_cons_succ])
 refine tkW (i := 17) (h := ?_)
 refine takeL (i := 18) (v := ?_) rfl (by kernel_rfl) (by kernel_rfl) (by kernel_rfl) (fun _ _ _ h => h) (Or.inl ⟨by rfl, ?_⟩) (by assumption) ?_; rotate_left; (focus (intro wq hSw; have hcc := HB2.out wq hSw; clear hSw; go_split_ands; go_simp; try with_reducible rfl)); (try simp only [Act.put, List.setIfInBounds_toArray, List.set_cons_zero, List.set_cons_succ])
 refine consL (i := 19) (by kernel_rfl) rfl (fun K hK => ?_); go_simp; go_at_call 36; refine (lown_c T _ HR.out.bT).mono ?_; rw [show ownQ T = m.2.2 from HR.out.T]; rintro e w4 ⟨g, rfl, hg, hx4⟩; go_wp2_with fail; refine hK.out _ _ ?_ ?_; rotate_left; clear hK K; intro hHeld; rotate_right; (focus (refine Ext.trans ?_ (by assumption); assumption)); (try simp only [Act.put, List.setIfInBounds_toArray, List.set_cons_zero, List.set_cons_succ])
 refine consL (i := 20) (by kernel_rfl) rfl (fun K hK => ?_); go_simp; go_at_call 24; refine (pCompare_c T' g m.2.2 m.2.2 _ (HCT.out.keep (HE.out.trans (by assumption)).ik) hg).mono ?_; rw [z2.out]; rintro e w5 ⟨rfl, hx5⟩; go_wp2_with fail; refine hK.out _ _ ?_ ?_; rotate_left; clear hK K; intro hHeld; rotate_right; (focus (refine Ext.trans ?_ (by assumption); assumption)); (try simp only [Act.put, List.setIfInBounds_toArray, List.set_cons_zero, List.set_cons_succ])
 have HX5 := Lib.hid (show Ext V w5 by assumption)
 clear hg hx4 hx5
 refine tkW (i := 21) (h := ?_)
 refine tkW (i := 22) (h := ?_)
 refine tkW (i := 23) (h := ?_)
 refine doneL (by kernel_rfl) ?_
 go_wp2_with fail
 go_ret
 exact ⟨rfl, HE.out.trans HX5.out⟩
end Go.Proofs.Ytagiaiocgjagnaa
namespace Go.Proofs.Ytagiaiocgjagnaa
set_option linter.unusedSimpArgs false
set_option linter.unusedVariables false
open Go.RowKit

abbrev sL1 : Sg := ⟨⟨0, 0⟩, ⟨2, 2⟩⟩
abbrev tL1 : Sg := ⟨⟨0, 1⟩, ⟨1, 0⟩⟩
abbrev sL2 : Sg := ⟨⟨0, 0⟩, ⟨4, 0⟩⟩
abbrev tL2 : Sg := ⟨⟨6, 0⟩, ⟨2, 0⟩⟩
abbrev sL3 : Sg := ⟨⟨0, 0⟩, ⟨2, 0⟩⟩
abbrev tL3 : Sg := ⟨⟨2, 0⟩, ⟨4, 0⟩⟩
theorem okL {a b c d : Int} (h : ((-1073741824 ≤ a ∧ a ≤ 1073741824) ∧ -1073741824 ≤ b ∧ b ≤ 1073741824) ∧ (-1073741824 ≤ c ∧ c ≤ 1073741824) ∧ (-1073741824 ≤ d ∧ d ≤ 1073741824) ∧ (a ≠ c ∨ b ≠ d)) : OKs ⟨⟨a, b⟩, ⟨c, d⟩⟩ := by
 obtain ⟨⟨⟨h1, h2⟩, h3, h4⟩, ⟨h5, h6⟩, ⟨h7, h8⟩, h9⟩ := h
 refine ⟨⟨h1, h2, h3, h4⟩, ⟨h5, h6, h7, h8⟩, fun e => ?_⟩
 injection e with e1 e2
 rcases h9 with h9 | h9
 ·exact h9 e1
 ·exact h9 e2
theorem mL1 : meetR sL1 tL1 = ((1, crossQ sL1 tL1, zeroQ), 0) := by
 rw [meetR_ok (okL (by decide)) (okL (by decide))]
 have e : meetF sL1 tL1 = (1, crossQ sL1 tL1, zeroQ) := by
  unfold meetF
  rw [if_neg (by decide), if_neg (by decide), if_neg (by decide)]
 rw [e]
theorem mL2 : meetR sL2 tL2 = ((2, Pt.q ⟨2, 0⟩, Pt.q ⟨4, 0⟩), 0) := by
 rw [meetR_ok (okL (by decide)) (okL (by decide))]
 have n1 : normF sL2 = sL2 := if_neg (by decide)
 have n2 : normF tL2 = ⟨⟨2, 0⟩, ⟨6, 0⟩⟩ := if_pos (by decide)
 have f : fromF sL2 ⟨⟨2, 0⟩, ⟨6, 0⟩⟩ = ⟨2, 0⟩ := if_pos (by decide)
 have g : toF sL2 ⟨⟨2, 0⟩, ⟨6, 0⟩⟩ = ⟨4, 0⟩ := if_neg (by decide)
 have e : meetF sL2 tL2 = (2, Pt.q ⟨2, 0⟩, Pt.q ⟨4, 0⟩) := by
  unfold meetF
  rw [if_neg (by decide), if_pos (by decide), n1, n2]
  unfold lineF
  rw [f, g, if_neg (by decide), if_neg (by decide)]
 rw [e]
theorem mL3 : meetR sL3 tL3 = ((1, Pt.q ⟨2, 0⟩, zeroQ), 0) := by
 rw [meetR_ok (okL (by decide)) (okL (by decide))]
 have n1 : normF sL3 = sL3 := if_neg (by decide)
 have n2 : normF tL3 = tL3 := if_neg (by decide)
 have f : fromF sL3 tL3 = ⟨2, 0⟩ := if_pos (by decide)
 have g : toF sL3 tL3 = ⟨2, 0⟩ := if_neg (by decide)
 have e : meetF sL3 tL3 = (1, Pt.q ⟨2, 0⟩, zeroQ) := by
  unfold meetF
  rw [if_neg (by decide), if_pos (by decide), n1, n2]
  unfold lineF
  rw [f, g, if_pos (by decide)]
 rw [e]
theorem rb64 {x y d : Int} (h : ((-9223372036854775808 ≤ x ∧ x ≤ 9223372036854775807) ∧ -9223372036854775808 ≤ y ∧ y ≤ 9223372036854775807) ∧ d ≤ 9223372036854775807) : RB64 ⟨x, y, d⟩ := ⟨h.1.1, h.1.2, h.2⟩
theorem rL1 : RCok ⟨1, ⟨1, 1, 2⟩, ⟨0, 0, 0⟩⟩ (1, crossQ sL1 tL1, zeroQ) := by
 refine ⟨rfl, ?_, ownQ_zero, rb64 (by decide), rb64 (by decide)⟩
 exact QP.ext' (by decide +kernel) (by decide +kernel)
theorem rL2 : RCok ⟨2, ⟨2, 0, 1⟩, ⟨4, 0, 1⟩⟩ (2, Pt.q ⟨2, 0⟩, Pt.q ⟨4, 0⟩) := by
 refine ⟨rfl, ?_, ?_, rb64 (by decide), rb64 (by decide)⟩
 ·exact QP.ext' (by decide +kernel) (by decide +kernel)
 ·exact QP.ext' (by decide +kernel) (by decide +kernel)
theorem rL3 : RCok ⟨1, ⟨2, 0, 1⟩, ⟨0, 0, 0⟩⟩ (1, Pt.q ⟨2, 0⟩, zeroQ) := by
 refine ⟨rfl, ?_, ownQ_zero, rb64 (by decide), rb64 (by decide)⟩
 exact QP.ext' (by decide +kernel) (by decide +kernel)
/-- A cut lies in a box of its own. -/
structure BoxC (V W : World) (G : Nat) (c : CV) (m : Int × QP × QP) : Prop where
 ext : Ext V W
 box : Blk W G c.cs 47
 is : IsC W c m
theorem boxC_new {V w : World} {c : CV} {m : Int × QP × QP} (hE : Ext V w) (hc : IsC w c m) : BoxC V ((w.alloc (.cells zCV.cs 47)).setRow w.heap.size c.cs) w.heap.size c m := by
 have h := row_cut (hE.alloc (.cells zCV.cs 47)) (Blk.at zCV.cs 47 rfl) hE.size c
 exact ⟨h.2.2, h.1, (hc.keep ((Ext.refl w).alloc _).iu).keep h.2.1⟩
theorem BoxC.trans {V W X : World} {G : Nat} {c : CV} {m : Int × QP × QP} (h : BoxC V W G c m) (e : Ext W X) : BoxC V X G c m := ⟨h.ext.trans e, h.box.ext e, h.is.keep e.iu⟩
/-- A struct is loaded from a box behind a guard that holds. -/
theorem wpList_load_row_g {P : Program} {ops : Array Oper} {rest : List Oper} {o : Oper} {a : Act} {w : World} {Q : Exit → Act → World → Prop} (hw : Region.wanted o (yielded ops a.tmps) = true) (ty : TypeId) (x : Operand) (ho : o.op = .load ty x)
  (g : Nat) (hx : a.eval x = .pointer (some ⟨g, 0, none⟩)) (t : TypeId) (cs : Array Value) (fr : Nat × Nat) (d : TypeDesc) (hg : w.heap[g]? = some (.cells cs t fr))
  (hu : P.underlying ty = some d) (hd : (match d with | .struct _ | .array _ _ => true | _ => false) = true) (hi : (P.info? ty).map (·.size) = some cs.size)
  (h : wpList P ops Q rest (a.put o.dst (.agg cs)) w) : wpList P ops Q (o :: rest) a w := by
 show (if Region.wanted o (yielded ops a.tmps) then _ else _)
 rw [if_pos hw]
 exact Or.inl (wp_load_row ty x ho g hx t cs fr d hg hu hd hi h)
set_option maxRecDepth 100000 in
set_option maxHeartbeats 8000000 in
theorem llives_c (w : World) : Calls Try.prog 21 #[] w fun e w' => e = .returned (.bool true) ∧ Ext w w' := by
 go_enter Try.func21, Try.ntmps21
 go_wp2_with fail; refine (lseg_c 0 0 2 2 _).mono ?_; rintro e w1 ⟨rfl, hx1⟩
 go_wp2_with fail; refine (lseg_c 0 1 1 0 _).mono ?_; rintro e w2 ⟨rfl, hx2⟩
 go_wp2_with fail
 refine (cMeet_c sL1 tL1 _).mono ?_
 rw [mL1]
 rintro e w3 ⟨c1, rfl, hc1, hx3⟩
 have B1 := boxC_new ((hx1.trans hx2).trans hx3) hc1
 obtain ⟨G1, hG1⟩ : ∃ G, w3.heap.size = G := ⟨_, rfl⟩
 rw [hG1] at B1
 have HB := Lib.hid (show Blk (w3.alloc (.cells zCV.cs 47)) G1 zCV.cs 47 from Blk.at zCV.cs 47 hG1.symm)
 go_upto_region 2 with (refine wpList_store_row rfl 47 _ _ rfl G1 _ rfl rfl 47 _ HB.out (by kernel_rfl) rfl (all_one _ rfl) ?_)
 clear HB
 try rw [hG1]
 refine wp_gen (fun W => BoxC w W G1 c1 (1, crossQ sL1 tL1, zeroQ)) B1 ?_
 clear B1 hG1 hx1 hx2 hx3 hc1
 rintro W1 b1
 have H1 := Lib.hid b1
 clear b1
 go_wp2_with fail; refine (lseg_c 0 0 4 0 _).mono ?_; rintro e w4 ⟨rfl, hx4⟩
 go_wp2_with fail; refine (lseg_c 6 0 2 0 _).mono ?_; rintro e w5 ⟨rfl, hx5⟩
 go_wp2_with fail
 refine (cMeet_c sL2 tL2 _).mono ?_
 rw [mL2]
 rintro e w6 ⟨c2, rfl, hc2, hx6⟩
 have B1 := boxC_new ((hx4.trans hx5).trans hx6) hc2
 obtain ⟨G2, hG2⟩ : ∃ G, w6.heap.size = G := ⟨_, rfl⟩
 rw [hG2] at B1
 have HB := Lib.hid (show Blk (w6.alloc (.cells zCV.cs 47)) G2 zCV.cs 47 from Blk.at zCV.cs 47 hG2.symm)
 go_upto_region 3 with (refine wpList_store_row rfl 47 _ _ rfl G2 _ rfl rfl 47 _ HB.out (by kernel_rfl) rfl (all_one _ rfl) ?_)
 clear HB
 try rw [hG2]
 refine wp_gen (fun W => BoxC W1 W G2 c2 (2, Pt.q ⟨2, 0⟩, Pt.q ⟨4, 0⟩)) B1 ?_
 clear B1 hG2 hx4 hx5 hx6 hc2
 rintro W2 b2
 have H2 := Lib.hid b2
 clear b2
 go_wp2_with fail; refine (lseg_c 0 0 2 0 _).mono ?_; rintro e w7 ⟨rfl, hx7⟩
 go_wp2_with fail; refine (lseg_c 2 0 4 0 _).mono ?_; rintro e w8 ⟨rfl, hx8⟩
 go_wp2_with fail
 refine (cMeet_c sL3 tL3 _).mono ?_
 rw [mL3]
 rintro e w9 ⟨c3, rfl, hc3, hx9⟩
 have B1 := boxC_new ((hx7.trans hx8).trans hx9) hc3
 obtain ⟨G3, hG3⟩ : ∃ G, w9.heap.size = G := ⟨_, rfl⟩
 rw [hG3] at B1
 have HB := Lib.hid (show Blk (w9.alloc (.cells zCV.cs 47)) G3 zCV.cs 47 from Blk.at zCV.cs 47 hG3.symm)
 go_upto_region 4 with (refine wpList_store_row rfl 47 _ _ rfl G3 _ rfl rfl 47 _ HB.out (by kernel_rfl) rfl (all_one _ rfl) ?_)
 clear HB
 try rw [hG3]
 refine wp_gen (fun W => BoxC W2 W G3 c3 (1, Pt.q ⟨2, 0⟩, zeroQ)) B1 ?_
 clear B1 hG3 hx7 hx8 hx9 hc3
 rintro W3 b3
 have H3 := Lib.hid b3
 clear b3
 go_upto_region 7 with fail
 obtain ⟨G4, hG4⟩ : ∃ G, W3.heap.size = G := ⟨_, rfl⟩
 try rw [hG4]
 refine wp_gen (fun W => Ext W3 W ∧ Blk W G4 #[.int .i64 2, .int .i64 0, .int .i64 1] 72) ⟨(Ext.refl W3).alloc _, Blk.at _ 72 hG4.symm⟩ ?_
 rintro W4 ⟨E4, B4⟩
 have H4 := Lib.hid (And.intro E4 B4)
 clear E4 B4 hG4
 have HC1 := Lib.hid (H1.out.trans (H2.out.ext.trans (H3.out.ext.trans H4.out.1)))
 go_wp2_with (refine wpList_load_row rfl 47 _ rfl G1 rfl 47 _ (0, 0) _ HC1.out.box Try.underlying47 rfl (by kernel_rfl) ?_)
 refine (same_c c1 ⟨1, ⟨1, 1, 2⟩, ⟨0, 0, 0⟩⟩ _ _ HC1.out.is rL1).mono ?_
 rintro e w10 ⟨rfl, hx10⟩
 have HX10 := Lib.hid hx10
 clear hx10
 have HC2 := Lib.hid ((H2.out.trans (H3.out.ext.trans H4.out.1)).trans HX10.out)
 have B4 := H4.out.2.ext HX10.out
 have z0 := B4.cell 0; have z1 := B4.cell 1; have z2 := B4.cell 2
 simp only [List.getElem?_toArray, List.getElem?_cons_zero, List.getElem?_cons_succ] at z0 z1 z2
 clear B4
 go_wp2_with (refine wpList_load_row_g rfl 47 _ rfl G2 rfl 47 _ (0, 0) _ HC2.out.box Try.underlying47 rfl (by kernel_rfl) ?_)
 refine (same_c c2 ⟨2, ⟨2, 0, 1⟩, ⟨4, 0, 1⟩⟩ _ _ HC2.out.is rL2).mono ?_
 rintro e w11 ⟨rfl, hx11⟩
 have HX11 := Lib.hid (HX10.out.trans hx11)
 clear hx11 z0 z1 z2
 have HC3 := Lib.hid ((H3.out.trans H4.out.1).trans HX11.out)
 have B4 := H4.out.2.ext HX11.out
 have z0 := B4.cell 0; have z1 := B4.cell 1; have z2 := B4.cell 2
 simp only [List.getElem?_toArray, List.getElem?_cons_zero, List.getElem?_cons_succ] at z0 z1 z2
 clear B4
 go_wp2_with (refine wpList_load_row_g rfl 47 _ rfl G3 rfl 47 _ (0, 0) _ HC3.out.box Try.underlying47 rfl (by kernel_rfl) ?_)
 refine (same_c c3 ⟨1, ⟨2, 0, 1⟩, ⟨0, 0, 0⟩⟩ _ _ HC3.out.is rL3).mono ?_
 rintro e w12 ⟨rfl, hx12⟩
 have HX12 := Lib.hid (HX11.out.trans hx12)
 clear hx12 z0 z1 z2
 go_wp2_with fail
 go_ret
 exact ⟨rfl, HC1.out.ext.trans HX12.out⟩
end Go.Proofs.Ytagiaiocgjagnaa
