/- exact: area, whatever its numbers are. -/
import Derived.Test.YtgmedfloflplgaaWT
import Derived.Test.YtgmedfloflplgaaAFG
import Derived.Test.YtgmedfloflplgaaAFArea
namespace Go.Proofs.Ytgmedfloflplgaa
set_option linter.unusedSimpArgs false
set_option linter.unusedVariables false
open Go.RowKit

/-- What a step of area leaves: its value, or its error. -/
def StepO (xb o eb : Nat) (v : Option Q2) (w : World) (e : Ending) (w' : World) : Prop :=
 (∀ u, v = some u → StepR xb o u.1 u.2 (32 * WMost) w e w') ∧ (v = none → ∃ (f : FV) (w1 : World), e = .returned (.int .i64 4) ∧ w' = (putO w1 xb o f).setCell ⟨eb, 0, none⟩ (.int .i64 4) ∧ Ext w w1)
theorem big_lt {x : Int} (h : Big x) : x.natAbs < 2 ^ (32 * WMost) := by
 unfold Big at h; rw [WTop_pow] at h; exact h
/-- A cell that may be written. -/
abbrev OwnE (w : World) (b : Nat) : Prop := (∀ o, o < 1 → w.cell? ⟨b, o, none⟩ = some (cellAt w ⟨b, o, none⟩)) ∧ ∀ o, w.frozen? ⟨b, o, none⟩ = false
theorem Var.own {w : World} {b : Nat} {v : Value} (h : Var w b v) : OwnE w b := ⟨fun o ho => by
 obtain rfl : o = 0 := by omega
 unfold cellAt; rw [h.1]; rfl, h.2⟩
theorem OwnE.ext {w w' : World} {b : Nat} (k : Ext w w') (h : OwnE w b) : OwnE w' b := ⟨fun o ho => by
 have h1 := k.cell (h.1 o ho)
 unfold cellAt; rw [h1]; rfl, fun o => frozen_ext k (lt_of_cell (h.1 0 (by omega))) (h.2 o)⟩
theorem StepO.mk' {xb o eb : Nat} {v : Option Q2} {w w1 w' : World} {f : FV} (hf : IsF w1 f (valO v).1 (valO v).2) (hx : Ext w w1) (h0 : w' = (putO w1 xb o f).setCell ⟨eb, 0, none⟩ (.int .i64 (errO v))) (h1 : v ≠ none → (putO w1 xb o f).cell? ⟨eb, 0, none⟩ = some (.int .i64 0)) : StepO xb o eb v w (.returned (.int .i64 (errO v))) w' := by
 subst h0
 cases v with
 | none => exact ⟨(fun u h => by cases h), fun _ => ⟨f, w1, rfl, rfl, hx⟩⟩
 | some u =>
  refine ⟨fun u' h => ?_, (fun h => by cases h)⟩
  injection h with h
  subst h
  exact ⟨f, u.1, u.2, w1, rfl, setCell_id (h1 (by simp)), hx, hf, EqQ.refl hf.pos, big_lt hf.num.big, big_lt hf.big⟩
set_option maxRecDepth 100000 in
set_option maxHeartbeats 2000000 in
theorem area1O_c (a b c d : FV) (pb xb eb : Nat) (p q : Q2) (w : World) (hP : At w pb #[.bool a.n.neg, .slice a.n.a a.n.n a.n.c, .bool a.d.neg, .slice a.d.a a.d.n a.d.c, .bool b.n.neg, .slice b.n.a b.n.n b.n.c, .bool b.d.neg, .slice b.d.a b.d.n b.d.c, .bool c.n.neg, .slice c.n.a c.n.n c.n.c, .bool c.d.neg, .slice c.d.a c.d.n c.d.c, .bool d.n.neg, .slice d.n.a d.n.n d.n.c, .bool d.d.neg, .slice d.d.a d.d.n d.d.c]) (hX : Own w xb 4) (hE : Var w eb (.int .i64 0)) (hne : eb ≠ xb) (ha : IsF w a p.1 p.2) (hb : IsF w b q.1 q.2) :
  Calls Try.prog 89 #[.pointer (some ⟨pb, 0, none⟩), .pointer (some ⟨xb, 0, none⟩), .pointer (some ⟨eb, 0, none⟩)] w (StepO xb 0 eb (subE p q) w) := by
 have HF := Lib.hid (And.intro ha hb)
 have HX := Lib.hid hX; have HE := Lib.hid hE
 clear ha hb hX hE
 have hl := hP.lt (by simp)
 have p0 := hP 0 (by simp)
 have p1 := hP 1 (by simp)
 have p2 := hP 2 (by simp)
 have p3 := hP 3 (by simp)
 have p4 := hP 4 (by simp)
 have p5 := hP 5 (by simp)
 have p6 := hP 6 (by simp)
 have p7 := hP 7 (by simp)
 simp at p0 p1 p2 p3 p4 p5 p6 p7
 clear hP
 obtain ⟨od, hod⟩ : ∃ z, subE p q = z := ⟨_, rfl⟩
 have HOD := Lib.hid hod
 obtain ⟨er, her⟩ : ∃ z, errO od = z := ⟨_, rfl⟩
 have HER := Lib.hid her
 rw [hod]
 clear her hod
 go_enter Try.func89, Try.ntmps89
 go_wp2_with (go_at_call 72; refine (fSubO_c a b p q _ HF.out.1 HF.out.2).mono ?_; rw [HOD.out]; rintro e w2 ⟨f, rfl, hf, hx⟩; rw [HER.out]; have HR := Lib.hid (And.intro hf hx); have hO := HX.out.ext hx (by omega); have hE := HE.out.ext hx; have o0 := hO.1 0 (by omega); have o1 := hO.1 1 (by omega); have o2 := hO.1 2 (by omega); have o3 := hO.1 3 (by omega); have of := hO.2.1; have e0 := hE.1; have ef := hE.2; clear hf hx)
 go_ret
 have hres := StepO.mk' (o := 0) (eb := eb) HR.out.1 HR.out.2 (w' := (putO w2 xb 0 f).setCell ⟨eb, 0, none⟩ (.int .i64 er)) (by rw [HER.out]) (fun _ => cell_set (cell_set (cell_set (cell_set e0 hne) hne) hne) hne)
 rw [HER.out] at hres
 exact hres
set_option maxRecDepth 100000 in
set_option maxHeartbeats 2000000 in
theorem area2O_c (a b c d : FV) (pb xb eb : Nat) (p q : Q2) (w : World) (hP : At w pb #[.bool a.n.neg, .slice a.n.a a.n.n a.n.c, .bool a.d.neg, .slice a.d.a a.d.n a.d.c, .bool b.n.neg, .slice b.n.a b.n.n b.n.c, .bool b.d.neg, .slice b.d.a b.d.n b.d.c, .bool c.n.neg, .slice c.n.a c.n.n c.n.c, .bool c.d.neg, .slice c.d.a c.d.n c.d.c, .bool d.n.neg, .slice d.n.a d.n.n d.n.c, .bool d.d.neg, .slice d.d.a d.d.n d.d.c]) (hX : Own w xb 4) (hE : Var w eb (.int .i64 0)) (hne : eb ≠ xb) (ha : IsF w c p.1 p.2) (hb : IsF w d q.1 q.2) :
  Calls Try.prog 90 #[.pointer (some ⟨pb, 0, none⟩), .pointer (some ⟨xb, 0, none⟩), .pointer (some ⟨eb, 0, none⟩)] w (StepO xb 0 eb (subE p q) w) := by
 have HF := Lib.hid (And.intro ha hb)
 have HX := Lib.hid hX; have HE := Lib.hid hE
 clear ha hb hX hE
 have hl := hP.lt (by simp)
 have p8 := hP 8 (by simp)
 have p9 := hP 9 (by simp)
 have p10 := hP 10 (by simp)
 have p11 := hP 11 (by simp)
 have p12 := hP 12 (by simp)
 have p13 := hP 13 (by simp)
 have p14 := hP 14 (by simp)
 have p15 := hP 15 (by simp)
 simp at p8 p9 p10 p11 p12 p13 p14 p15
 clear hP
 obtain ⟨od, hod⟩ : ∃ z, subE p q = z := ⟨_, rfl⟩
 have HOD := Lib.hid hod
 obtain ⟨er, her⟩ : ∃ z, errO od = z := ⟨_, rfl⟩
 have HER := Lib.hid her
 rw [hod]
 clear her hod
 go_enter Try.func90, Try.ntmps90
 go_wp2_with (go_at_call 72; refine (fSubO_c c d p q _ HF.out.1 HF.out.2).mono ?_; rw [HOD.out]; rintro e w2 ⟨f, rfl, hf, hx⟩; rw [HER.out]; have HR := Lib.hid (And.intro hf hx); have hO := HX.out.ext hx (by omega); have hE := HE.out.ext hx; have o0 := hO.1 0 (by omega); have o1 := hO.1 1 (by omega); have o2 := hO.1 2 (by omega); have o3 := hO.1 3 (by omega); have of := hO.2.1; have e0 := hE.1; have ef := hE.2; clear hf hx)
 go_ret
 have hres := StepO.mk' (o := 0) (eb := eb) HR.out.1 HR.out.2 (w' := (putO w2 xb 0 f).setCell ⟨eb, 0, none⟩ (.int .i64 er)) (by rw [HER.out]) (fun _ => cell_set (cell_set (cell_set (cell_set e0 hne) hne) hne) hne)
 rw [HER.out] at hres
 exact hres
set_option maxRecDepth 100000 in
set_option maxHeartbeats 2000000 in
theorem area3O_c (x y : FV) (xb yb rb ib eb i : Nat) (p q : Q2) (w : World) (hX : At w xb #[.bool x.n.neg, .slice x.n.a x.n.n x.n.c, .bool x.d.neg, .slice x.d.a x.d.n x.d.c]) (hY : At w yb #[.bool y.n.neg, .slice y.n.a y.n.n y.n.c, .bool y.d.neg, .slice y.d.a y.d.n y.d.c]) (hR : Own w rb 8) (hI : At w ib #[.int .i64 (i : Int)]) (hE : Var w eb (.int .i64 0)) (hi : i = 0 ∨ i = 1) (hne : eb ≠ rb) (hne2 : xb ≠ rb) (hne3 : yb ≠ rb) (hne4 : ib ≠ rb) (hne5 : xb ≠ eb) (hne6 : yb ≠ eb) (hne7 : ib ≠ eb) (ha : IsF w x p.1 p.2) (hb : IsF w y q.1 q.2) :
  Calls Try.prog 91 #[.pointer (some ⟨xb, 0, none⟩), .pointer (some ⟨yb, 0, none⟩), .pointer (some ⟨rb, 0, none⟩), .pointer (some ⟨ib, 0, none⟩), .pointer (some ⟨eb, 0, none⟩)] w (StepO rb (4 * i) eb (mulE p q) w) := by
 have HF := Lib.hid (And.intro ha hb)
 clear ha hb
 obtain ⟨od, hod⟩ : ∃ z, mulE p q = z := ⟨_, rfl⟩
 have HOD := Lib.hid hod
 obtain ⟨er, her⟩ : ∃ z, errO od = z := ⟨_, rfl⟩
 have HER := Lib.hid her
 rw [hod]
 clear her hod
 obtain ⟨I, hIe⟩ : ∃ I : Int, (i : Int) = I := ⟨_, rfl⟩
 rw [hIe] at hI
 go_enter Try.func91, Try.ntmps91
 go_upto_region 1 with (fail)
 refine wp_gen (fun W => Ext w W ∧ At W xb #[.bool x.n.neg, .slice x.n.a x.n.n x.n.c, .bool x.d.neg, .slice x.d.a x.d.n x.d.c] ∧ At W yb #[.bool y.n.neg, .slice y.n.a y.n.n y.n.c, .bool y.d.neg, .slice y.d.a y.d.n y.d.c] ∧ At W ib #[.int .i64 I] ∧ Own W rb 8 ∧ OwnE W eb) ⟨Ext.refl _, hX, hY, hI, hR, hE.own⟩ ?_
 have HVE := Lib.hid hE
 clear hX hY hI hR hE
 rintro V ⟨E0, A0, A1, A2, O2, V3⟩
 rcases hi with rfl | rfl
 ·obtain rfl : I = 0 := hIe.symm
  clear hIe
  refine wp_region_held_drew (S := fun w' => At w' xb #[.bool x.n.neg, .slice x.n.a x.n.n x.n.c, .bool x.d.neg, .slice x.d.a x.d.n x.d.c] ∧ At w' yb #[.bool y.n.neg, .slice y.n.a y.n.n y.n.c, .bool y.d.neg, .slice y.d.a y.d.n y.d.c] ∧ At w' ib #[.int .i64 0] ∧ Own w' rb 8 ∧ OwnE w' eb) (by kernel_rfl) ?_ (fun hHeld => ?_)
  ·exact ⟨A0, A1, A2, O2, V3⟩
  refine tkW (i := 0) (h := ?_)
  refine tkW (i := 1) (h := ?_)
  refine tkW (i := 2) (h := ?_)
  refine consL (i := 3) (by kernel_rfl) rfl (fun K hK => ?_); go_simp; go_at_call 73; refine (fMulO_c x y p q _ (HF.out.1.keep E0.drew.ik) (HF.out.2.keep E0.drew.ik)).mono ?_; rw [HOD.out]; rintro e w3 ⟨f, rfl, hf, hx3⟩; rw [HER.out]; have HFF := Lib.hid hf; clear hf; go_wp2_with fail; refine hK.out _ _ ⟨At.ext hx3 A0 (by simp), At.ext hx3 A1 (by simp), At.ext hx3 A2 (by simp), Own.ext hx3 O2 (by omega), OwnE.ext hx3 V3⟩ (fun hHeld => ?_); clear hK K; clear A0 A1 A2 O2 V3; (try simp only [Act.put, List.setIfInBounds_toArray, List.set_cons_zero, List.set_cons_succ])
  have E4 := E0.drew.trans hx3
  have V4 := Lib.hid (HVE.out.ext E4)
  refine tkW (i := 4) (h := ?_)
  refine tkW (i := 5) (h := ?_)
  refine tkW (i := 6) (h := ?_)
  refine tkW (i := 7) (h := ?_)
  refine consL (i := 8) (by kernel_rfl) rfl (fun K hK => ?_); go_simp; refine hK.out _ _ ?_ (fun hHeld => ?_); rotate_left; clear hK K; rotate_right; (focus ((try dsimp only); exact kept2)); (try simp only [Act.put, List.setIfInBounds_toArray, List.set_cons_zero, List.set_cons_succ])
  refine consL (i := 9) (by kernel_rfl) rfl (fun K hK => ?_); go_simp; refine hK.out _ _ ?_ (fun hHeld => ?_); rotate_left; clear hK K; rotate_right; (focus ((try dsimp only); exact kept2)); (try simp only [Act.put, List.setIfInBounds_toArray, List.set_cons_zero, List.set_cons_succ])
  refine doneL (by kernel_rfl) ?_
  have e9 := (show ((putO w3 rb 0 f).setCell ⟨eb, 0, none⟩ (.int .i64 er)).cell? ⟨eb, 0, none⟩ = some (.int .i64 er) from cell_same (cell_set (cell_set (cell_set (cell_set V4.out.1 hne) hne) hne) hne))
  clear hHeld
  go_wp2_with fail
  go_ret
  have hres := StepO.mk' (o := 0) (eb := eb) HFF.out E4 (w' := (putO w3 rb 0 f).setCell ⟨eb, 0, none⟩ (.int .i64 er)) (by rw [HER.out]) (fun _ => cell_set (cell_set (cell_set (cell_set V4.out.1 hne) hne) hne) hne)
  rw [HER.out] at hres
  exact hres
 ·obtain rfl : I = 1 := hIe.symm
  clear hIe
  refine wp_region_held_drew (S := fun w' => At w' xb #[.bool x.n.neg, .slice x.n.a x.n.n x.n.c, .bool x.d.neg, .slice x.d.a x.d.n x.d.c] ∧ At w' yb #[.bool y.n.neg, .slice y.n.a y.n.n y.n.c, .bool y.d.neg, .slice y.d.a y.d.n y.d.c] ∧ At w' ib #[.int .i64 1] ∧ Own w' rb 8 ∧ OwnE w' eb) (by kernel_rfl) ?_ (fun hHeld => ?_)
  ·exact ⟨A0, A1, A2, O2, V3⟩
  refine tkW (i := 0) (h := ?_)
  refine tkW (i := 1) (h := ?_)
  refine tkW (i := 2) (h := ?_)
  refine consL (i := 3) (by kernel_rfl) rfl (fun K hK => ?_); go_simp; go_at_call 73; refine (fMulO_c x y p q _ (HF.out.1.keep E0.drew.ik) (HF.out.2.keep E0.drew.ik)).mono ?_; rw [HOD.out]; rintro e w3 ⟨f, rfl, hf, hx3⟩; rw [HER.out]; have HFF := Lib.hid hf; clear hf; go_wp2_with fail; refine hK.out _ _ ⟨At.ext hx3 A0 (by simp), At.ext hx3 A1 (by simp), At.ext hx3 A2 (by simp), Own.ext hx3 O2 (by omega), OwnE.ext hx3 V3⟩ (fun hHeld => ?_); clear hK K; clear A0 A1 A2 O2 V3; (try simp only [Act.put, List.setIfInBounds_toArray, List.set_cons_zero, List.set_cons_succ])
  have E4 := E0.drew.trans hx3
  have V4 := Lib.hid (HVE.out.ext E4)
  refine tkW (i := 4) (h := ?_)
  refine tkW (i := 5) (h := ?_)
  refine tkW (i := 6) (h := ?_)
  refine tkW (i := 7) (h := ?_)
  refine consL (i := 8) (by kernel_rfl) rfl (fun K hK => ?_); go_simp; refine hK.out _ _ ?_ (fun hHeld => ?_); rotate_left; clear hK K; rotate_right; (focus ((try dsimp only); exact kept2)); (try simp only [Act.put, List.setIfInBounds_toArray, List.set_cons_zero, List.set_cons_succ])
  refine consL (i := 9) (by kernel_rfl) rfl (fun K hK => ?_); go_simp; refine hK.out _ _ ?_ (fun hHeld => ?_); rotate_left; clear hK K; rotate_right; (focus ((try dsimp only); exact kept2)); (try simp only [Act.put, List.setIfInBounds_toArray, List.set_cons_zero, List.set_cons_succ])
  refine doneL (by kernel_rfl) ?_
  have e9 := (show ((putO w3 rb 4 f).setCell ⟨eb, 0, none⟩ (.int .i64 er)).cell? ⟨eb, 0, none⟩ = some (.int .i64 er) from cell_same (cell_set (cell_set (cell_set (cell_set V4.out.1 hne) hne) hne) hne))
  clear hHeld
  go_wp2_with fail
  go_ret
  have hres := StepO.mk' (o := 4) (eb := eb) HFF.out E4 (w' := (putO w3 rb 4 f).setCell ⟨eb, 0, none⟩ (.int .i64 er)) (by rw [HER.out]) (fun _ => cell_set (cell_set (cell_set (cell_set V4.out.1 hne) hne) hne) hne)
  rw [HER.out] at hres
  exact hres
end Go.Proofs.Ytgmedfloflplgaa
