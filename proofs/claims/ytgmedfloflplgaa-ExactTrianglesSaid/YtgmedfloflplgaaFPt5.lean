/- exact: Triangle. -/
import Derived.Test.YtgmedfloflplgaaFPt4
import Derived.Test.YtgmedfloflplgaaP06t
namespace Go.Proofs.Ytgmedfloflplgaa
set_option linter.unusedSimpArgs false
set_option linter.unusedVariables false
open Go.RowKit

/-- What a point's box holds. -/
def PtB (w : World) (b : Nat) (p : PV) : Prop := w.cell? ⟨b, 0, none⟩ = some (.bool p.x.n.neg) ∧ w.cell? ⟨b, 1, none⟩ = some (.slice p.x.n.a p.x.n.n p.x.n.c) ∧ w.cell? ⟨b, 2, none⟩ = some (.bool p.x.d.neg) ∧ w.cell? ⟨b, 3, none⟩ = some (.slice p.x.d.a p.x.d.n p.x.d.c) ∧ w.cell? ⟨b, 4, none⟩ = some (.bool p.y.n.neg) ∧ w.cell? ⟨b, 5, none⟩ = some (.slice p.y.n.a p.y.n.n p.y.n.c) ∧ w.cell? ⟨b, 6, none⟩ = some (.bool p.y.d.neg) ∧ w.cell? ⟨b, 7, none⟩ = some (.slice p.y.d.a p.y.d.n p.y.d.c)
theorem At.ptB {w : World} {b : Nat} {p : PV} (h : At w b p.cs) : PtB w b p := ⟨h 0 (by simp), h 1 (by simp), h 2 (by simp), h 3 (by simp), h 4 (by simp), h 5 (by simp), h 6 (by simp), h 7 (by simp)⟩
theorem PtB.ext {w w' : World} {b : Nat} {p : PV} (h : PtB w b p) (e : Ext w w') : PtB w' b p := by
  obtain ⟨h0, h1, h2, h3, h4, h5, h6, h7⟩ := h
  exact ⟨e.cell h0, e.cell h1, e.cell h2, e.cell h3, e.cell h4, e.cell h5, e.cell h6, e.cell h7⟩
/-- Two points in one box. -/
def PtB2 (w : World) (b : Nat) (p q : PV) : Prop := (w.cell? ⟨b, 0, none⟩ = some (.bool p.x.n.neg) ∧ w.cell? ⟨b, 1, none⟩ = some (.slice p.x.n.a p.x.n.n p.x.n.c) ∧ w.cell? ⟨b, 2, none⟩ = some (.bool p.x.d.neg) ∧ w.cell? ⟨b, 3, none⟩ = some (.slice p.x.d.a p.x.d.n p.x.d.c) ∧ w.cell? ⟨b, 4, none⟩ = some (.bool p.y.n.neg) ∧ w.cell? ⟨b, 5, none⟩ = some (.slice p.y.n.a p.y.n.n p.y.n.c) ∧ w.cell? ⟨b, 6, none⟩ = some (.bool p.y.d.neg) ∧ w.cell? ⟨b, 7, none⟩ = some (.slice p.y.d.a p.y.d.n p.y.d.c)) ∧ w.cell? ⟨b, 8, none⟩ = some (.bool q.x.n.neg) ∧ w.cell? ⟨b, 9, none⟩ = some (.slice q.x.n.a q.x.n.n q.x.n.c) ∧ w.cell? ⟨b, 10, none⟩ = some (.bool q.x.d.neg) ∧ w.cell? ⟨b, 11, none⟩ = some (.slice q.x.d.a q.x.d.n q.x.d.c) ∧ w.cell? ⟨b, 12, none⟩ = some (.bool q.y.n.neg) ∧ w.cell? ⟨b, 13, none⟩ = some (.slice q.y.n.a q.y.n.n q.y.n.c) ∧ w.cell? ⟨b, 14, none⟩ = some (.bool q.y.d.neg) ∧ w.cell? ⟨b, 15, none⟩ = some (.slice q.y.d.a q.y.d.n q.y.d.c)
theorem PtB2.ext {w w' : World} {b : Nat} {p q : PV} (h : PtB2 w b p q) (e : Ext w w') : PtB2 w' b p q := by
  obtain ⟨⟨h0, h1, h2, h3, h4, h5, h6, h7⟩, g0, g1, g2, g3, g4, g5, g6, g7⟩ := h
  exact ⟨⟨e.cell h0, e.cell h1, e.cell h2, e.cell h3, e.cell h4, e.cell h5, e.cell h6, e.cell h7⟩, e.cell g0, e.cell g1, e.cell g2, e.cell g3, e.cell g4, e.cell g5, e.cell g6, e.cell g7⟩
theorem Blk.ptB2 {w : World} {b : Nat} {p q : PV} {t : TypeId} (h : Blk w b #[.bool p.x.n.neg, .slice p.x.n.a p.x.n.n p.x.n.c, .bool p.x.d.neg, .slice p.x.d.a p.x.d.n p.x.d.c, .bool p.y.n.neg, .slice p.y.n.a p.y.n.n p.y.n.c, .bool p.y.d.neg, .slice p.y.d.a p.y.d.n p.y.d.c, .bool q.x.n.neg, .slice q.x.n.a q.x.n.n q.x.n.c, .bool q.x.d.neg, .slice q.x.d.a q.x.d.n q.x.d.c, .bool q.y.n.neg, .slice q.y.n.a q.y.n.n q.y.n.c, .bool q.y.d.neg, .slice q.y.d.a q.y.d.n q.y.d.c] t) : PtB2 w b p q :=
  ⟨⟨h.cell 0, h.cell 1, h.cell 2, h.cell 3, h.cell 4, h.cell 5, h.cell 6, h.cell 7⟩, h.cell 8, h.cell 9, h.cell 10, h.cell 11, h.cell 12, h.cell 13, h.cell 14, h.cell 15⟩
set_option maxRecDepth 100000 in
set_option maxHeartbeats 8000000 in
theorem Triangle_c (a b c p : PV) (ax ay ad bx by' bd cx cy cd px py pd : Int) (k : Nat) (w : World) (ha : IsPt w a ax ad ay ad k) (hb : IsPt w b bx bd by' bd k) (hc : IsPt w c cx cd cy cd k) (hp : IsPt w p px pd py pd k) (hk : 8 * k + 5 ≤ 16384) :
    Calls Try.prog 49 #[a.v, b.v, c.v, p.v] w fun e w' => e = .returned (.tuple #[.int .i64 (triC (btwF ax ay ad bx by' bd px py pd) (btwF bx by' bd cx cy cd px py pd) (btwF cx cy cd ax ay ad px py pd) (cmpI (areaF ax ay ad bx by' bd cx cy cd) 0) (cmpI (areaF ax ay ad bx by' bd px py pd) 0) (cmpI (areaF bx by' bd cx cy cd px py pd) 0) (cmpI (areaF cx cy cd ax ay ad px py pd) 0)), .int .i64 0]) ∧ Ext w w' := by
  have HH := Lib.hid (And.intro ha (And.intro hb (And.intro hc hp)))
  clear ha hb hc hp
  obtain ⟨t1, h1⟩ : ∃ s, btwF ax ay ad bx by' bd px py pd = s := ⟨_, rfl⟩
  obtain ⟨t2, h2⟩ : ∃ s, btwF bx by' bd cx cy cd px py pd = s := ⟨_, rfl⟩
  obtain ⟨t3, h3⟩ : ∃ s, btwF cx cy cd ax ay ad px py pd = s := ⟨_, rfl⟩
  have b0 := cmpI_bd (areaF ax ay ad bx by' bd cx cy cd) 0
  have b1 := cmpI_bd (areaF ax ay ad bx by' bd px py pd) 0
  have b2 := cmpI_bd (areaF bx by' bd cx cy cd px py pd) 0
  have b3 := cmpI_bd (areaF cx cy cd ax ay ad px py pd) 0
  obtain ⟨fl, g0⟩ : ∃ s, cmpI (areaF ax ay ad bx by' bd cx cy cd) 0 = s := ⟨_, rfl⟩
  obtain ⟨n1, g1⟩ : ∃ s, cmpI (areaF ax ay ad bx by' bd px py pd) 0 = s := ⟨_, rfl⟩
  obtain ⟨n2, g2⟩ : ∃ s, cmpI (areaF bx by' bd cx cy cd px py pd) 0 = s := ⟨_, rfl⟩
  obtain ⟨n3, g3⟩ : ∃ s, cmpI (areaF cx cy cd ax ay ad px py pd) 0 = s := ⟨_, rfl⟩
  rw [h1, h2, h3, g0, g1, g2, g3]
  rw [g0] at b0; rw [g1] at b1; rw [g2] at b2; rw [g3] at b3
  have HT := Lib.hid (And.intro h1 (And.intro h2 h3))
  have HS := Lib.hid (And.intro g0 (And.intro g1 (And.intro g2 g3)))
  clear h1 h2 h3 g0 g1 g2 g3
  obtain ⟨B, hB⟩ : ∃ B, w.heap.size = B := ⟨_, rfl⟩
  go_enter Try.func49, Try.ntmps49
  go_upto_region 1 with (fail)
  refine wp_gen (fun W => Ext w W ∧ PtB W B a ∧ PtB W (B + 1) b ∧ PtB W (B + 1 + 1) c ∧ PtB W (B + 1 + 1 + 1) p) ⟨(by repeat (first | exact Ext.refl _ | assumption | refine Ext.setCell ?_ (by first | (simp; done) | (simp; omega) | omega) _ | refine Ext.alloc ?_ _ | refine Ext.drew ?_ | refine Ext.trans ?_ (by assumption))), ((((Blk.at a.cs 51 hB.symm).alloc _).alloc _).alloc _).at'.ptB, (((Blk.at b.cs 51 (by simp [hB])).alloc _).alloc _).at'.ptB, ((Blk.at c.cs 51 (by simp [hB])).alloc _).at'.ptB, (Blk.at p.cs 51 (by simp [hB])).at'.ptB⟩ ?_
  try rw [hB]
  rintro V ⟨E0, A0, A1, A2, A3⟩
  have HP := Lib.hid (And.intro A0 (And.intro A1 (And.intro A2 A3)))
  have FA := Lib.hid (fun W (e : Ext V W) => A0.ext e)
  have FB := Lib.hid (fun W (e : Ext V W) => A1.ext e)
  have FC := Lib.hid (fun W (e : Ext V W) => A2.ext e)
  have FP := Lib.hid (fun W (e : Ext V W) => A3.ext e)
  have HE := Lib.hid E0
  clear E0 A0 A1 A2 A3
  obtain ⟨p0, p1, p2, p3, p4, p5, p6, p7⟩ := HP.out.1
  obtain ⟨q0, q1, q2, q3, q4, q5, q6, q7⟩ := HP.out.2.1
  obtain ⟨s0, s1, s2, s3, s4, s5, s6, s7⟩ := HP.out.2.2.1
  go_wp2_with fail
  refine (Side_c a b c ax ay ad bx by' bd cx cy cd k _ (HH.out.1.keep HE.out.ik) (HH.out.2.1.keep HE.out.ik) (HH.out.2.2.1.keep HE.out.ik) hk).mono ?_
  rw [HS.out.1]
  rintro e w2 ⟨rfl, hx2⟩
  clear p0 p1 p2 p3 p4 p5 p6 p7 q0 q1 q2 q3 q4 q5 q6 q7 s0 s1 s2 s3 s4 s5 s6 s7
  obtain ⟨p0, p1, p2, p3, p4, p5, p6, p7⟩ := FA.out _ hx2
  obtain ⟨q0, q1, q2, q3, q4, q5, q6, q7⟩ := FB.out _ hx2
  obtain ⟨s0, s1, s2, s3, s4, s5, s6, s7⟩ := FC.out _ hx2
  have HX2 := Lib.hid hx2
  clear hx2
  obtain ⟨cs, hcs⟩ : ∃ cs : Array Value, #[.bool a.x.n.neg, .slice a.x.n.a a.x.n.n a.x.n.c, .bool a.x.d.neg, .slice a.x.d.a a.x.d.n a.x.d.c, .bool a.y.n.neg, .slice a.y.n.a a.y.n.n a.y.n.c, .bool a.y.d.neg, .slice a.y.d.a a.y.d.n a.y.d.c, .bool b.x.n.neg, .slice b.x.n.a b.x.n.n b.x.n.c, .bool b.x.d.neg, .slice b.x.d.a b.x.d.n b.x.d.c, .bool b.y.n.neg, .slice b.y.n.a b.y.n.n b.y.n.c, .bool b.y.d.neg, .slice b.y.d.a b.y.d.n b.y.d.c, .bool b.x.n.neg, .slice b.x.n.a b.x.n.n b.x.n.c, .bool b.x.d.neg, .slice b.x.d.a b.x.d.n b.x.d.c, .bool b.y.n.neg, .slice b.y.n.a b.y.n.n b.y.n.c, .bool b.y.d.neg, .slice b.y.d.a b.y.d.n b.y.d.c, .bool c.x.n.neg, .slice c.x.n.a c.x.n.n c.x.n.c, .bool c.x.d.neg, .slice c.x.d.a c.x.d.n c.x.d.c, .bool c.y.n.neg, .slice c.y.n.a c.y.n.n c.y.n.c, .bool c.y.d.neg, .slice c.y.d.a c.y.d.n c.y.d.c, .bool c.x.n.neg, .slice c.x.n.a c.x.n.n c.x.n.c, .bool c.x.d.neg, .slice c.x.d.a c.x.d.n c.x.d.c, .bool c.y.n.neg, .slice c.y.n.a c.y.n.n c.y.n.c, .bool c.y.d.neg, .slice c.y.d.a c.y.d.n c.y.d.c, .bool a.x.n.neg, .slice a.x.n.a a.x.n.n a.x.n.c, .bool a.x.d.neg, .slice a.x.d.a a.x.d.n a.x.d.c, .bool a.y.n.neg, .slice a.y.n.a a.y.n.n a.y.n.c, .bool a.y.d.neg, .slice a.y.d.a a.y.d.n a.y.d.c] = cs := ⟨_, rfl⟩
  obtain ⟨w0, hw0⟩ : ∃ w0, w0 = w2 := ⟨_, rfl⟩
  go_upto_region 6 with (fail)
  skip
  subst hw0
  clear p0 p1 p2 p3 p4 p5 p6 p7 q0 q1 q2 q3 q4 q5 q6 q7 s0 s1 s2 s3 s4 s5 s6 s7
  obtain ⟨q0, hq0⟩ : ∃ q0, cs.extract 0 16 = q0 := ⟨_, rfl⟩
  obtain ⟨q1, hq1⟩ : ∃ q1, cs.extract 16 32 = q1 := ⟨_, rfl⟩
  obtain ⟨q2, hq2⟩ : ∃ q2, cs.extract 32 48 = q2 := ⟨_, rfl⟩
  have l0 : #[.bool a.x.n.neg, .slice a.x.n.a a.x.n.n a.x.n.c, .bool a.x.d.neg, .slice a.x.d.a a.x.d.n a.x.d.c, .bool a.y.n.neg, .slice a.y.n.a a.y.n.n a.y.n.c, .bool a.y.d.neg, .slice a.y.d.a a.y.d.n a.y.d.c, .bool b.x.n.neg, .slice b.x.n.a b.x.n.n b.x.n.c, .bool b.x.d.neg, .slice b.x.d.a b.x.d.n b.x.d.c, .bool b.y.n.neg, .slice b.y.n.a b.y.n.n b.y.n.c, .bool b.y.d.neg, .slice b.y.d.a b.y.d.n b.y.d.c] = q0 := by rw [← hq0, ← hcs]; rfl
  have l1 : #[.bool b.x.n.neg, .slice b.x.n.a b.x.n.n b.x.n.c, .bool b.x.d.neg, .slice b.x.d.a b.x.d.n b.x.d.c, .bool b.y.n.neg, .slice b.y.n.a b.y.n.n b.y.n.c, .bool b.y.d.neg, .slice b.y.d.a b.y.d.n b.y.d.c, .bool c.x.n.neg, .slice c.x.n.a c.x.n.n c.x.n.c, .bool c.x.d.neg, .slice c.x.d.a c.x.d.n c.x.d.c, .bool c.y.n.neg, .slice c.y.n.a c.y.n.n c.y.n.c, .bool c.y.d.neg, .slice c.y.d.a c.y.d.n c.y.d.c] = q1 := by rw [← hq1, ← hcs]; rfl
  have l2 : #[.bool c.x.n.neg, .slice c.x.n.a c.x.n.n c.x.n.c, .bool c.x.d.neg, .slice c.x.d.a c.x.d.n c.x.d.c, .bool c.y.n.neg, .slice c.y.n.a c.y.n.n c.y.n.c, .bool c.y.d.neg, .slice c.y.d.a c.y.d.n c.y.d.c, .bool a.x.n.neg, .slice a.x.n.a a.x.n.n a.x.n.c, .bool a.x.d.neg, .slice a.x.d.a a.x.d.n a.x.d.c, .bool a.y.n.neg, .slice a.y.n.a a.y.n.n a.y.n.c, .bool a.y.d.neg, .slice a.y.d.a a.y.d.n a.y.d.c] = q2 := by rw [← hq2, ← hcs]; rfl
  have s0 : q0.size = 16 := by rw [← l0]; rfl
  have s1 : q1.size = 16 := by rw [← l1]; rfl
  have s2 : q2.size = 16 := by rw [← l2]; rfl
  have a0 : q0.all (·.oneCell') = true := by rw [← l0]; exact all_one _ rfl
  have a1 : q1.all (·.oneCell') = true := by rw [← l1]; exact all_one _ rfl
  have a2 : q2.all (·.oneCell') = true := by rw [← l2]; exact all_one _ rfl
  have ix0 : ∀ W, (Instr.index 119 (.agg cs) (.int .i64 0)).run Try.prog W = .ok (.agg q0) W := fun W => by
    have := run_index_agg (P := Try.prog) (t := 119) (e := 118) (m := 16) (cs := cs) (i := 0) Try.underlying119 Try.underlying118 rfl (by kernel_rfl) (by omega) (by omega) W
    rw [this, ← hq0]; rfl
  have ix1 : ∀ W, (Instr.index 119 (.agg cs) (.int .i64 1)).run Try.prog W = .ok (.agg q1) W := fun W => by
    have := run_index_agg (P := Try.prog) (t := 119) (e := 118) (m := 16) (cs := cs) (i := 1) Try.underlying119 Try.underlying118 rfl (by kernel_rfl) (by omega) (by omega) W
    rw [this, ← hq1]; rfl
  have ix2 : ∀ W, (Instr.index 119 (.agg cs) (.int .i64 2)).run Try.prog W = .ok (.agg q2) W := fun W => by
    have := run_index_agg (P := Try.prog) (t := 119) (e := 118) (m := 16) (cs := cs) (i := 2) Try.underlying119 Try.underlying118 rfl (by kernel_rfl) (by omega) (by omega) W
    rw [this, ← hq2]; rfl
  have LQ := Lib.hid (And.intro l0 (And.intro l1 l2)); have SQ := Lib.hid (And.intro s0 (And.intro s1 s2)); have AQ := Lib.hid (And.intro a0 (And.intro a1 a2))
  clear l0 l1 l2 s0 s1 s2 a0 a1 a2 hq0 hq1 hq2 hcs
  have hw1 : IntKind.i64.wrap (n1 * fl) = n1 * fl := IntWalk.i64_in _ (by rcases (show n1 = -1 ∨ n1 = 0 ∨ n1 = 1 by omega) with rfl | rfl | rfl <;> omega)
  have hw2 : IntKind.i64.wrap (n2 * fl) = n2 * fl := IntWalk.i64_in _ (by rcases (show n2 = -1 ∨ n2 = 0 ∨ n2 = 1 by omega) with rfl | rfl | rfl <;> omega)
  have hw3 : IntKind.i64.wrap (n3 * fl) = n3 * fl := IntWalk.i64_in _ (by rcases (show n3 = -1 ∨ n3 = 0 ∨ n3 = 1 by omega) with rfl | rfl | rfl <;> omega)
  obtain ⟨m1, hm1⟩ : ∃ m, min 1 (n1 * fl) = m := ⟨_, rfl⟩
  obtain ⟨m2, hm2⟩ : ∃ m, min m1 (n2 * fl) = m := ⟨_, rfl⟩
  obtain ⟨m3, hm3⟩ : ∃ m, min m2 (n3 * fl) = m := ⟨_, rfl⟩
  obtain ⟨o2, ho2⟩ : ∃ o, (t1 || t2) = o := ⟨_, rfl⟩
  obtain ⟨o3, ho3⟩ : ∃ o, (o2 || t3) = o := ⟨_, rfl⟩
  have HM := Lib.hid (And.intro hm1 (And.intro hm2 hm3))
  have HO := Lib.hid (And.intro ho2 ho3)
  clear hm1 hm2 hm3 ho2 ho3
  go_loopw [12, 13, 40] (fun mv ov iv ws => Ext w0 ws ∧ ((iv = .int .i64 0 ∧ mv = .int .i64 1 ∧ ov = .bool false) ∨ (iv = .int .i64 1 ∧ mv = .int .i64 m1 ∧ ov = .bool t1) ∨ (iv = .int .i64 2 ∧ mv = .int .i64 m2 ∧ ov = .bool o2) ∨ (iv = .int .i64 3 ∧ mv = .int .i64 m3 ∧ ov = .bool o3))) (fun _ _ iv _ => 3 - (intOf iv).toNat)
  case atStart => exact ⟨Ext.refl w0, .inl ⟨rfl, rfl, rfl⟩⟩
  case round =>
    obtain ⟨hx, hrel⟩ := hrel
    obtain ⟨S, hS⟩ : ∃ S, wr.heap.size = S := ⟨_, rfl⟩
    have HXR := Lib.hid (HX2.out.trans hx)
    have HX0 := Lib.hid hx
    clear hx
    rcases hrel with ⟨rfl, rfl, rfl⟩ | ⟨rfl, rfl, rfl⟩ | ⟨rfl, rfl, rfl⟩ | ⟨rfl, rfl, rfl⟩
    · go_upto_region 8 with (refine wpList_store_row rfl 118 _ _ rfl S q0 rfl rfl 118 _ (Blk.at _ _ (by simp [hS])) (by rw [SQ.out.1]; kernel_rfl) (by rw [SQ.out.1]; rfl) AQ.out.1 ?_)
      refine wp_gen (fun W => Ext wr W ∧ PtB2 W S a b) ⟨Ext.setRow ((Ext.refl wr).alloc _) (by omega), Blk.ptB2 (t := 118) (by rw [LQ.out.1]; exact Blk.setRow (Blk.at _ _ (by simp [hS])))⟩ ?_
      rintro W5 ⟨E5, P5⟩
      have HE5 := Lib.hid (HXR.out.trans E5)
      have HP5 := Lib.hid P5
      have HE0 := Lib.hid (HX0.out.trans E5)
      clear E5 P5
      obtain ⟨⟨p0, p1, p2, p3, p4, p5, p6, p7⟩, r0, r1, r2, r3, r4, r5, r6, r7⟩ := HP5.out
      obtain ⟨s0, s1, s2, s3, s4, s5, s6, s7⟩ := FP.out _ HE5.out
      go_wp2_with fail
      refine (Side_c a b p ax ay ad bx by' bd px py pd k _ (HH.out.1.keep (HE.out.trans HE5.out).ik) (HH.out.2.1.keep (HE.out.trans HE5.out).ik) (HH.out.2.2.2.keep (HE.out.trans HE5.out).ik) hk).mono ?_
      rw [HS.out.2.1]
      rintro e w6 ⟨rfl, hx6⟩
      clear p0 p1 p2 p3 p4 p5 p6 p7 r0 r1 r2 r3 r4 r5 r6 r7 s0 s1 s2 s3 s4 s5 s6 s7
      obtain ⟨⟨p0, p1, p2, p3, p4, p5, p6, p7⟩, r0, r1, r2, r3, r4, r5, r6, r7⟩ := HP5.out.ext hx6
      obtain ⟨s0, s1, s2, s3, s4, s5, s6, s7⟩ := FP.out _ (HE5.out.trans hx6)
      have HE6 := Lib.hid (HE5.out.trans hx6)
      have HE7 := Lib.hid (HE0.out.trans hx6)
      clear hx6
      go_wp2_with fail
      refine (Between_c a b p ax ay ad bx by' bd px py pd k _ (HH.out.1.keep (HE.out.trans HE6.out).ik) (HH.out.2.1.keep (HE.out.trans HE6.out).ik) (HH.out.2.2.2.keep (HE.out.trans HE6.out).ik) hk).mono ?_
      rw [HT.out.1]
      rintro e w8 ⟨rfl, hx8⟩
      clear p0 p1 p2 p3 p4 p5 p6 p7 r0 r1 r2 r3 r4 r5 r6 r7 s0 s1 s2 s3 s4 s5 s6 s7
      have HE8 := Lib.hid (HE7.out.trans hx8)
      clear hx8
      go_wp2_with fail
      all_goals
        go_roundw
        case rel => exact ⟨HE8.out, .inr (.inl ⟨rfl, by rw [HM.out.1], rfl⟩)⟩
        case measure => simp [intOf]
    · go_upto_region 8 with (refine wpList_store_row rfl 118 _ _ rfl S q1 rfl rfl 118 _ (Blk.at _ _ (by simp [hS])) (by rw [SQ.out.2.1]; kernel_rfl) (by rw [SQ.out.2.1]; rfl) AQ.out.2.1 ?_)
      refine wp_gen (fun W => Ext wr W ∧ PtB2 W S b c) ⟨Ext.setRow ((Ext.refl wr).alloc _) (by omega), Blk.ptB2 (t := 118) (by rw [LQ.out.2.1]; exact Blk.setRow (Blk.at _ _ (by simp [hS])))⟩ ?_
      rintro W5 ⟨E5, P5⟩
      have HE5 := Lib.hid (HXR.out.trans E5)
      have HP5 := Lib.hid P5
      have HE0 := Lib.hid (HX0.out.trans E5)
      clear E5 P5
      obtain ⟨⟨p0, p1, p2, p3, p4, p5, p6, p7⟩, r0, r1, r2, r3, r4, r5, r6, r7⟩ := HP5.out
      obtain ⟨s0, s1, s2, s3, s4, s5, s6, s7⟩ := FP.out _ HE5.out
      go_wp2_with fail
      refine (Side_c b c p bx by' bd cx cy cd px py pd k _ (HH.out.2.1.keep (HE.out.trans HE5.out).ik) (HH.out.2.2.1.keep (HE.out.trans HE5.out).ik) (HH.out.2.2.2.keep (HE.out.trans HE5.out).ik) hk).mono ?_
      rw [HS.out.2.2.1]
      rintro e w6 ⟨rfl, hx6⟩
      clear p0 p1 p2 p3 p4 p5 p6 p7 r0 r1 r2 r3 r4 r5 r6 r7 s0 s1 s2 s3 s4 s5 s6 s7
      obtain ⟨⟨p0, p1, p2, p3, p4, p5, p6, p7⟩, r0, r1, r2, r3, r4, r5, r6, r7⟩ := HP5.out.ext hx6
      obtain ⟨s0, s1, s2, s3, s4, s5, s6, s7⟩ := FP.out _ (HE5.out.trans hx6)
      have HE6 := Lib.hid (HE5.out.trans hx6)
      have HE7 := Lib.hid (HE0.out.trans hx6)
      clear hx6
      go_wp2_with fail
      refine (Between_c b c p bx by' bd cx cy cd px py pd k _ (HH.out.2.1.keep (HE.out.trans HE6.out).ik) (HH.out.2.2.1.keep (HE.out.trans HE6.out).ik) (HH.out.2.2.2.keep (HE.out.trans HE6.out).ik) hk).mono ?_
      rw [HT.out.2.1]
      rintro e w8 ⟨rfl, hx8⟩
      clear p0 p1 p2 p3 p4 p5 p6 p7 r0 r1 r2 r3 r4 r5 r6 r7 s0 s1 s2 s3 s4 s5 s6 s7
      have HE8 := Lib.hid (HE7.out.trans hx8)
      clear hx8
      go_wp2_with fail
      all_goals
        go_roundw
        case rel => exact ⟨HE8.out, .inr (.inr (.inl ⟨rfl, by rw [HM.out.2.1], by rw [← HO.out.1]; first | rfl | simp_all⟩))⟩
        case measure => simp [intOf]
    · go_upto_region 8 with (refine wpList_store_row rfl 118 _ _ rfl S q2 rfl rfl 118 _ (Blk.at _ _ (by simp [hS])) (by rw [SQ.out.2.2]; kernel_rfl) (by rw [SQ.out.2.2]; rfl) AQ.out.2.2 ?_)
      refine wp_gen (fun W => Ext wr W ∧ PtB2 W S c a) ⟨Ext.setRow ((Ext.refl wr).alloc _) (by omega), Blk.ptB2 (t := 118) (by rw [LQ.out.2.2]; exact Blk.setRow (Blk.at _ _ (by simp [hS])))⟩ ?_
      rintro W5 ⟨E5, P5⟩
      have HE5 := Lib.hid (HXR.out.trans E5)
      have HP5 := Lib.hid P5
      have HE0 := Lib.hid (HX0.out.trans E5)
      clear E5 P5
      obtain ⟨⟨p0, p1, p2, p3, p4, p5, p6, p7⟩, r0, r1, r2, r3, r4, r5, r6, r7⟩ := HP5.out
      obtain ⟨s0, s1, s2, s3, s4, s5, s6, s7⟩ := FP.out _ HE5.out
      go_wp2_with fail
      refine (Side_c c a p cx cy cd ax ay ad px py pd k _ (HH.out.2.2.1.keep (HE.out.trans HE5.out).ik) (HH.out.1.keep (HE.out.trans HE5.out).ik) (HH.out.2.2.2.keep (HE.out.trans HE5.out).ik) hk).mono ?_
      rw [HS.out.2.2.2]
      rintro e w6 ⟨rfl, hx6⟩
      clear p0 p1 p2 p3 p4 p5 p6 p7 r0 r1 r2 r3 r4 r5 r6 r7 s0 s1 s2 s3 s4 s5 s6 s7
      obtain ⟨⟨p0, p1, p2, p3, p4, p5, p6, p7⟩, r0, r1, r2, r3, r4, r5, r6, r7⟩ := HP5.out.ext hx6
      obtain ⟨s0, s1, s2, s3, s4, s5, s6, s7⟩ := FP.out _ (HE5.out.trans hx6)
      have HE6 := Lib.hid (HE5.out.trans hx6)
      have HE7 := Lib.hid (HE0.out.trans hx6)
      clear hx6
      go_wp2_with fail
      refine (Between_c c a p cx cy cd ax ay ad px py pd k _ (HH.out.2.2.1.keep (HE.out.trans HE6.out).ik) (HH.out.1.keep (HE.out.trans HE6.out).ik) (HH.out.2.2.2.keep (HE.out.trans HE6.out).ik) hk).mono ?_
      rw [HT.out.2.2]
      rintro e w8 ⟨rfl, hx8⟩
      clear p0 p1 p2 p3 p4 p5 p6 p7 r0 r1 r2 r3 r4 r5 r6 r7 s0 s1 s2 s3 s4 s5 s6 s7
      have HE8 := Lib.hid (HE7.out.trans hx8)
      clear hx8
      go_wp2_with fail
      all_goals
        go_roundw
        case rel => exact ⟨HE8.out, .inr (.inr (.inr ⟨rfl, by rw [HM.out.2.2], by rw [← HO.out.2]; first | rfl | simp_all⟩))⟩
        case measure => simp [intOf]
    · have hv : triC t1 t2 t3 fl n1 n2 n3 = if o3 = true then 0 else if fl = 0 then -1 else m3 := by
        unfold triC
        rw [HO.out.1, HO.out.2, HM.out.1, HM.out.2.1, HM.out.2.2]
      have HV := Lib.hid hv
      clear hv
      cases o3
      · by_cases h0 : fl = 0
        · have HF := Lib.hid (show triC t1 t2 t3 fl n1 n2 n3 = -1 by rw [HV.out, if_neg (by simp), if_pos h0])
          have hz : (fl == 0) = true := by rw [h0]; rfl
          clear h0 HV
          go_wp2_with fail
          go_ret2
          exact ⟨by rw [HF.out]; rfl, HE.out.trans HXR.out⟩
        · have HF := Lib.hid (show triC t1 t2 t3 fl n1 n2 n3 = m3 by rw [HV.out, if_neg (by simp), if_neg h0])
          have hz : (fl == 0) = false := by rw [beq_eq_false_iff_ne]; exact h0
          clear h0 HV
          go_wp2_with fail
          go_ret2
          exact ⟨by rw [HF.out]; rfl, HE.out.trans HXR.out⟩
      · have HF := Lib.hid (show triC t1 t2 t3 fl n1 n2 n3 = 0 by rw [HV.out]; exact if_pos rfl)
        clear HV
        go_wp2_with fail
        go_ret2
        exact ⟨by rw [HF.out]; rfl, HE.out.trans HXR.out⟩
end Go.Proofs.Ytgmedfloflplgaa
