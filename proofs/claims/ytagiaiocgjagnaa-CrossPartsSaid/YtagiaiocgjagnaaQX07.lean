/- cross: side, line. -/
import Derived.Test.YtagiaiocgjagnaaQWT
import Derived.Test.YtagiaiocgjagnaaQX04
import Derived.Laws.Tables
import Derived.Laws.Rows
namespace Go.Proofs.Ytagiaiocgjagnaa
set_option linter.unusedSimpArgs false
set_option linter.unusedVariables false
open Go.RowKit

set_option maxHeartbeats 1000000 in
theorem cside_c (s : Sg) (p : Pt) (w : World) (ha : Good s.a) (hb : Good s.b) (hp : Good p) : Calls Try.prog 53 #[s.v, p.v] w fun e w' => e = .returned (.int .i64 (sideF s.a s.b p)) ∧ Ext w w' := by
 have h0 : firstE validE [s.a, s.b, p] = 0 := by
  have v1 : validE s.a = 0 := if_pos ha
  have v2 : validE s.b = 0 := if_pos hb
  have v3 : validE p = 0 := if_pos hp
  simp only [firstE]
  rw [if_pos v1, if_pos v2, if_pos v3]
 have HF := Lib.hid (show SideOfF s.a s.b p = (sideF s.a s.b p, 0) by rw [SideOfF, if_pos h0])
 clear h0
 obtain ⟨v, hv⟩ : ∃ v, sideF s.a s.b p = v := ⟨_, rfl⟩
 rw [hv] at HF ⊢
 clear hv
 go_enter Try.func53, Try.ntmps53
 go_wp2_with fail
 refine (SideOf_c s.a s.b p _).mono ?_
 rw [HF.out]
 rintro e w2 ⟨rfl, hx⟩
 have HX := Lib.hid (show Ext w w2 from Ext.trans (by repeat (first | exact Ext.refl _ | assumption | refine Ext.setCell ?_ (by first | (simp; done) | (simp; omega) | omega) _ | refine Ext.alloc ?_ _ | refine Ext.drew ?_ | refine Ext.trans ?_ (by assumption))) hx)
 clear hx
 go_wp2_with fail
 go_ret
 exact ⟨rfl, HX.out⟩
/-- What two segments have in common, as a value. -/
structure CV where
 k : Int
 A : PV
 T : PV
abbrev zFV : FV := ⟨⟨false, none, 0, 0⟩, ⟨false, none, 0, 0⟩⟩
abbrev zPV : PV := ⟨zFV, zFV⟩
abbrev CV.cs (c : CV) : Array Value := #[.int .i64 c.k, .bool c.A.x.n.neg, .slice c.A.x.n.a c.A.x.n.n c.A.x.n.c, .bool c.A.x.d.neg, .slice c.A.x.d.a c.A.x.d.n c.A.x.d.c, .bool c.A.y.n.neg, .slice c.A.y.n.a c.A.y.n.n c.A.y.n.c, .bool c.A.y.d.neg, .slice c.A.y.d.a c.A.y.d.n c.A.y.d.c, .bool c.T.x.n.neg, .slice c.T.x.n.a c.T.x.n.n c.T.x.n.c, .bool c.T.x.d.neg, .slice c.T.x.d.a c.T.x.d.n c.T.x.d.c, .bool c.T.y.n.neg, .slice c.T.y.n.a c.T.y.n.n c.T.y.n.c, .bool c.T.y.d.neg, .slice c.T.y.d.a c.T.y.d.n c.T.y.d.c]
abbrev CV.v (c : CV) : Value := .agg c.cs
abbrev zCV : CV := ⟨0, zPV, zPV⟩
/-- A cut is stored. -/
abbrev putC (w : World) (b : Nat) (c : CV) : World := ((((((((((((((((w.setCell ⟨b, 0, none⟩ (.int .i64 c.k)).setCell ⟨b, 1, none⟩ (.bool c.A.x.n.neg)).setCell ⟨b, 2, none⟩ (.slice c.A.x.n.a c.A.x.n.n c.A.x.n.c)).setCell ⟨b, 3, none⟩ (.bool c.A.x.d.neg)).setCell ⟨b, 4, none⟩ (.slice c.A.x.d.a c.A.x.d.n c.A.x.d.c)).setCell ⟨b, 5, none⟩ (.bool c.A.y.n.neg)).setCell ⟨b, 6, none⟩ (.slice c.A.y.n.a c.A.y.n.n c.A.y.n.c)).setCell ⟨b, 7, none⟩ (.bool c.A.y.d.neg)).setCell ⟨b, 8, none⟩ (.slice c.A.y.d.a c.A.y.d.n c.A.y.d.c)).setCell ⟨b, 9, none⟩ (.bool c.T.x.n.neg)).setCell ⟨b, 10, none⟩ (.slice c.T.x.n.a c.T.x.n.n c.T.x.n.c)).setCell ⟨b, 11, none⟩ (.bool c.T.x.d.neg)).setCell ⟨b, 12, none⟩ (.slice c.T.x.d.a c.T.x.d.n c.T.x.d.c)).setCell ⟨b, 13, none⟩ (.bool c.T.y.n.neg)).setCell ⟨b, 14, none⟩ (.slice c.T.y.n.a c.T.y.n.n c.T.y.n.c)).setCell ⟨b, 15, none⟩ (.bool c.T.y.d.neg)).setCell ⟨b, 16, none⟩ (.slice c.T.y.d.a c.T.y.d.n c.T.y.d.c)
theorem cut_nu {w : World} {b : Nat} {t : TypeId} {d : CV} (h : Blk w b d.cs t) : NU w b := NU.block h (fun u hu m => by
 intro e
 subst e
 simp at hu)
/-- A cut is stored as a whole. -/
theorem row_cut {w0 w : World} {b : Nat} {t : TypeId} {d : CV} (hE : Ext w0 w) (h : Blk w b d.cs t) (hb : w0.heap.size ≤ b) (c : CV) : Blk (w.setRow b c.cs) b c.cs t ∧ IU w (w.setRow b c.cs) ∧ Ext w0 (w.setRow b c.cs) := ⟨Blk.setRow h, IU.setRow (cut_nu h), Ext.setRow hE hb⟩
theorem zero_isQ (w : World) : IsQ w zFV 0 := ⟨0, 1, ⟨isI_zero w, isI_zero w, Int.le_refl 1, big_pow (j := 1) (by decide) (by omega), by decide⟩, by grind⟩
theorem zero_isPQ (w : World) : IsPQ w zPV zeroQ := ⟨zero_isQ w, zero_isQ w⟩
/-- A cut stands for a kind and two points. -/
structure IsC (w : World) (c : CV) (m : Int × QP × QP) : Prop where
 k : c.k = m.1
 A : IsPQ w c.A m.2.1
 T : IsPQ w c.T m.2.2
theorem IsC.keep {w w' : World} {c : CV} {m : Int × QP × QP} (h : IsC w c m) (k : IU w w') : IsC w' c m := ⟨h.k, h.A.keepU k, h.T.keepU k⟩
abbrev Pt.cs (p : Pt) : Array Value := #[.int .i64 p.x, .int .i64 p.y]
theorem put2_far {w : World} {b : Nat} {a : Addr} {u v y : Value} (h : b ≠ a.block) (k : w.cell? a = some y) : ((w.setCell ⟨b, 0, none⟩ u).setCell ⟨b, 1, none⟩ v).cell? a = some y := by
 rw [World.cell?_setCell_far _ _ _ _ h, World.cell?_setCell_far _ _ _ _ h]; exact k
/-- The variables of line: two points in boxes of their own. -/
structure LineV (V W : World) (B G H : Nat) (f t : Pt) : Prop where
 ext : Ext V W
 res : Blk W (B + 1 + 1) zCV.cs 47
 bf : Blk W G f.cs 23
 bt : Blk W H t.cs 23
 ne : G ≠ H
 hG : B + 1 + 1 < G
 hH : B + 1 + 1 < H
 VB : V.heap.size = B
theorem Blk.put2 {w : World} {b : Nat} {p : Pt} {t : TypeId} (h : Blk w b p.cs t) (q : Pt) : Blk ((w.setCell ⟨b, 0, none⟩ (.int .i64 q.x)).setCell ⟨b, 1, none⟩ (.int .i64 q.y)) b q.cs t := (h.set 0 _).set 1 _
theorem Blk.put2o {w : World} {b g : Nat} {cs : Array Value} {t : TypeId} (h : Blk w b cs t) (hne : b ≠ g) (u v : Value) : Blk ((w.setCell ⟨g, 0, none⟩ u).setCell ⟨g, 1, none⟩ v) b cs t := (h.setOther (p := ⟨g, 0, none⟩) hne _).setOther (p := ⟨g, 1, none⟩) hne _
theorem LineV.setf {V W : World} {B G H : Nat} {f t : Pt} (h : LineV V W B G H f t) (q : Pt) : LineV V ((W.setCell ⟨G, 0, none⟩ (.int .i64 q.x)).setCell ⟨G, 1, none⟩ (.int .i64 q.y)) B G H q t := by
 have h1 := h.VB; have h2 := h.hG; have h3 := h.hH
 have hk : V.heap.size ≤ G := by omega
 exact ⟨(h.ext.setCell hk _).setCell hk _, h.res.put2o (by omega) _ _, h.bf.put2 q, h.bt.put2o (Ne.symm h.ne) _ _, h.ne, h.hG, h.hH, h.VB⟩
theorem LineV.sett {V W : World} {B G H : Nat} {f t : Pt} (h : LineV V W B G H f t) (q : Pt) : LineV V ((W.setCell ⟨H, 0, none⟩ (.int .i64 q.x)).setCell ⟨H, 1, none⟩ (.int .i64 q.y)) B G H f q := by
 have h1 := h.VB; have h2 := h.hG; have h3 := h.hH
 have hk : V.heap.size ≤ H := by omega
 exact ⟨(h.ext.setCell hk _).setCell hk _, h.res.put2o (by omega) _ _, h.bf.put2o h.ne _ _, h.bt.put2 q, h.ne, h.hG, h.hH, h.VB⟩
theorem LineV.trans {V W X : World} {B G H : Nat} {f t : Pt} (h : LineV V W B G H f t) (k : Ext W X) : LineV V X B G H f t := ⟨h.ext.trans k, h.res.ext k, h.bf.ext k, h.bt.ext k, h.ne, h.hG, h.hH, h.VB⟩
set_option maxRecDepth 100000 in
set_option maxHeartbeats 16000000 in
theorem line_c (s t : Sg) (w : World) (hs : Good s.a ∧ Good s.b) (ht : Good t.a ∧ Good t.b) :
  Calls Try.prog 72 #[s.v, t.v] w fun e w' => ∃ c : CV, e = .returned c.v ∧ IsC w' c (lineF s t) ∧ Ext w w' := by
 have HG := Lib.hid (And.intro hs ht)
 have hfg : Good (fromF s t) ∧ Good (toF s t) := by
  unfold fromF toF
  constructor <;> split
  ·exact ht.1
  ·exact hs.1
  ·exact ht.2
  ·exact hs.2
 have HFG := Lib.hid hfg
 clear hs ht hfg
 obtain ⟨B, hB⟩ : ∃ B, w.heap.size = B := ⟨_, rfl⟩
 go_enter Try.func72, Try.ntmps72
 go_upto_region 1 with (fail)
 refine wp_gen (fun W => Ext w W ∧ SgB W B s ∧ SgB W (B + 1) t ∧ Blk W (B + 1 + 1) zCV.cs 47) ⟨(by repeat (first | exact Ext.refl _ | assumption | refine Ext.setCell ?_ (by first | (simp; done) | (simp; omega) | omega) _ | refine Ext.alloc ?_ _ | refine Ext.drew ?_ | refine Ext.trans ?_ (by assumption))), ((Blk.at _ 25 hB.symm).alloc _ |>.alloc _).sgB, ((Blk.at _ 25 (by simp [hB])).alloc _).sgB, Blk.at zCV.cs 47 (by simp [hB])⟩ ?_
 try rw [hB]
 rintro V ⟨E0, A0, A1, R2⟩
 have HA := Lib.hid (fun W (e : Ext V W) => (show (W.cell? ⟨B, 0, none⟩ = some (.int .i64 s.a.x) ∧ W.cell? ⟨B, 1, none⟩ = some (.int .i64 s.a.y) ∧ W.cell? ⟨B, 2, none⟩ = some (.int .i64 s.b.x) ∧ W.cell? ⟨B, 3, none⟩ = some (.int .i64 s.b.y)) ∧ W.cell? ⟨B + 1, 0, none⟩ = some (.int .i64 t.a.x) ∧ W.cell? ⟨B + 1, 1, none⟩ = some (.int .i64 t.a.y) ∧ W.cell? ⟨B + 1, 2, none⟩ = some (.int .i64 t.b.x) ∧ W.cell? ⟨B + 1, 3, none⟩ = some (.int .i64 t.b.y) from ⟨A0.ext e, A1.ext e⟩))
 have HE := Lib.hid E0
 have HR := Lib.hid R2
 have lr := R2.lt
 have lr0 : B < V.heap.size := by omega
 have lr1 : B + 1 < V.heap.size := by omega
 obtain ⟨⟨x0, x1, x2, x3⟩, y0, y1, y2, y3⟩ := HA.out V (Ext.refl V)
 clear E0 A0 A1 R2
 go_cut [5, 6] (fun s5 s6 wx => ∃ G H, s5 = .pointer (some ⟨G, 0, none⟩) ∧ s6 = .pointer (some ⟨H, 0, none⟩) ∧ Ext V wx ∧ LineV w wx B G H s.a s.b)
 case first =>
  go_region
  all_goals
   go_wp2_with fail
   go_meet
   have hX : Ext V (((V.alloc (.cells #[.int .i64 0, .int .i64 0] 23)).alloc (.cells #[.int .i64 0, .int .i64 0] 23)).drew) := (((Ext.refl V).alloc _).alloc _).drew
   first
   | exact ⟨_, _, rfl, rfl, (((Ext.refl V).alloc _).alloc _).drew, HE.out.trans (((Ext.refl V).alloc _).alloc _).drew, HR.out.ext (((Ext.refl V).alloc _).alloc _).drew, ((Blk.at s.a.cs 23 rfl).alloc _).drew, (Blk.at s.b.cs 23 (by simp)).drew, by omega, by omega, by omega, hB⟩
   | exact ⟨_, _, rfl, rfl, (((Ext.refl V).alloc _).alloc _).drew, HE.out.trans (((Ext.refl V).alloc _).alloc _).drew, HR.out.ext (((Ext.refl V).alloc _).alloc _).drew, (Blk.at s.a.cs 23 (by simp)).drew, ((Blk.at s.b.cs 23 rfl).alloc _).drew, by omega, by omega, by omega, hB⟩
 case rest =>
  obtain ⟨G, H, rfl, rfl, hE1, hL⟩ := hcut
  have HL := Lib.hid hL
  have HE1 := Lib.hid hE1
  clear x0 x1 x2 x3 y0 y1 y2 y3
  obtain ⟨⟨x0, x1, x2, x3⟩, y0, y1, y2, y3⟩ := HA.out _ hE1; have g0 := (hL).bf.cell 0; have g1 := (hL).bf.cell 1; have h0 := (hL).bt.cell 0; have h1 := (hL).bt.cell 1; have gf := (hL).bf.free; have hf := (hL).bt.free; (simp only [List.getElem?_toArray, List.getElem?_cons_zero, List.getElem?_cons_succ] at g0 g1 h0 h1)
  have lg := hL.bf.lt
  clear hE1 hL
  go_upto_if 14 with (go_at_call 68; refine (before_c s.a t.a _).mono ?_; rintro e w2 ⟨rfl, hx2⟩)
  have HL2 := Lib.hid (HL.out.trans hx2)
  have HE2 := Lib.hid (HE1.out.trans hx2)
  clear hx2 x0 x1 x2 x3 y0 y1 y2 y3 g0 g1 h0 h1 gf hf
  obtain ⟨⟨x0, x1, x2, x3⟩, y0, y1, y2, y3⟩ := HA.out _ HE2.out; have g0 := (HL2.out).bf.cell 0; have g1 := (HL2.out).bf.cell 1; have h0 := (HL2.out).bt.cell 0; have h1 := (HL2.out).bt.cell 1; have gf := (HL2.out).bf.free; have hf := (HL2.out).bt.free; (simp only [List.getElem?_toArray, List.getElem?_cons_zero, List.getElem?_cons_succ] at g0 g1 h0 h1)
  go_cut [5] (fun s5 wx => s5 = .pointer (some ⟨G, 0, none⟩) ∧ (∀ W, Ext wx W → (W.cell? ⟨B, 0, none⟩ = some (.int .i64 s.a.x) ∧ W.cell? ⟨B, 1, none⟩ = some (.int .i64 s.a.y) ∧ W.cell? ⟨B, 2, none⟩ = some (.int .i64 s.b.x) ∧ W.cell? ⟨B, 3, none⟩ = some (.int .i64 s.b.y)) ∧ W.cell? ⟨B + 1, 0, none⟩ = some (.int .i64 t.a.x) ∧ W.cell? ⟨B + 1, 1, none⟩ = some (.int .i64 t.a.y) ∧ W.cell? ⟨B + 1, 2, none⟩ = some (.int .i64 t.b.x) ∧ W.cell? ⟨B + 1, 3, none⟩ = some (.int .i64 t.b.y)) ∧ LineV w wx B G H (fromF s t) s.b)
  case first =>
   cases hb : beforeF s.a t.a with
   | true =>
    have HF := Lib.hid (show fromF s t = t.a from if_pos hb)
    clear hb
    go_wp2_with fail
    go_meet
    have hk := HL2.out.setf t.a
    rw [HF.out]
    have hg := HL2.out.hG
    have n0 : G ≠ B := by omega
    have n1 : G ≠ B + 1 := by omega
    obtain ⟨⟨a1, a2, a3, a4⟩, a5, a6, a7, a8⟩ := HA.out _ HE2.out
    exact ⟨rfl, fun W e => ⟨⟨e.cell (put2_far n0 a1), e.cell (put2_far n0 a2), e.cell (put2_far n0 a3), e.cell (put2_far n0 a4)⟩, e.cell (put2_far n1 a5), e.cell (put2_far n1 a6), e.cell (put2_far n1 a7), e.cell (put2_far n1 a8)⟩, hk⟩
   | false =>
    have HF := Lib.hid (show fromF s t = s.a from if_neg (by simp [hb]))
    clear hb
    go_wp2_with fail
    go_meet
    rw [HF.out]
    exact ⟨rfl, fun W e => HA.out W (HE2.out.trans e), HL2.out⟩
  case rest =>
   obtain ⟨rfl, hA3, hL3⟩ := hcut
   have HA3 := Lib.hid hA3
   have HL3 := Lib.hid hL3
   clear hA3 hL3 HL2 HE2 HL HE1 HA x0 x1 x2 x3 y0 y1 y2 y3 g0 g1 h0 h1 gf hf
   obtain ⟨f, hf0⟩ : ∃ f, fromF s t = f := ⟨_, rfl⟩
   rw [hf0] at HL3
   obtain ⟨⟨x0, x1, x2, x3⟩, y0, y1, y2, y3⟩ := HA3.out _ (Ext.refl _); have g0 := (HL3.out).bf.cell 0; have g1 := (HL3.out).bf.cell 1; have h0 := (HL3.out).bt.cell 0; have h1 := (HL3.out).bt.cell 1; have gf := (HL3.out).bf.free; have hf := (HL3.out).bt.free; (simp only [List.getElem?_toArray, List.getElem?_cons_zero, List.getElem?_cons_succ] at g0 g1 h0 h1)
   have lg3 := HL3.out.bf.lt
   go_upto_if 20 with (go_at_call 68; refine (before_c t.b s.b _).mono ?_; rintro e w4 ⟨rfl, hx4⟩)
   have HL4 := Lib.hid (HL3.out.trans hx4)
   have HX4 := Lib.hid hx4
   clear hx4 x0 x1 x2 x3 y0 y1 y2 y3 g0 g1 h0 h1 gf hf
   obtain ⟨⟨x0, x1, x2, x3⟩, y0, y1, y2, y3⟩ := HA3.out _ (HX4.out); have g0 := (HL4.out).bf.cell 0; have g1 := (HL4.out).bf.cell 1; have h0 := (HL4.out).bt.cell 0; have h1 := (HL4.out).bt.cell 1; have gf := (HL4.out).bf.free; have hf := (HL4.out).bt.free; (simp only [List.getElem?_toArray, List.getElem?_cons_zero, List.getElem?_cons_succ] at g0 g1 h0 h1)
   go_cut [6] (fun s6 wx => s6 = .pointer (some ⟨H, 0, none⟩) ∧ LineV w wx B G H f (toF s t))
   case first =>
    cases hb : beforeF t.b s.b with
    | true =>
     have HF := Lib.hid (show toF s t = t.b from if_pos hb)
     clear hb
     go_wp2_with fail
     go_meet
     rw [HF.out]
     exact ⟨rfl, HL4.out.sett t.b⟩
    | false =>
     have HF := Lib.hid (show toF s t = s.b from if_neg (by simp [hb]))
     clear hb
     go_wp2_with fail
     go_meet
     rw [HF.out]
     exact ⟨rfl, HL4.out⟩
   case rest =>
    obtain ⟨rfl, hL5⟩ := hcut
    have HL5 := Lib.hid hL5
    clear hL5 HL4 HX4 HL3 HA3 x0 x1 x2 x3 y0 y1 y2 y3 g0 g1 h0 h1 gf hf
    obtain ⟨q, hq0⟩ : ∃ q, toF s t = q := ⟨_, rfl⟩
    rw [hq0] at HL5
    have HV := Lib.hid (show lineF s t = if f.x = q.x ∧ f.y = q.y then (1, f.q, zeroQ) else if beforeF q f = true then (0, zeroQ, zeroQ) else (2, f.q, q.q) by unfold lineF; rw [hf0, hq0])
    have HGG := Lib.hid (show Good f ∧ Good q by rw [← hf0, ← hq0]; exact HFG.out)
    have HI := Lib.hid (show ((-9223372036854775808 ≤ f.x ∧ f.x ≤ 9223372036854775807) ∧ -9223372036854775808 ≤ f.y ∧ f.y ≤ 9223372036854775807) ∧ (-9223372036854775808 ≤ q.x ∧ q.x ≤ 9223372036854775807) ∧ -9223372036854775808 ≤ q.y ∧ q.y ≤ 9223372036854775807 by
     obtain ⟨⟨a1, a2, a3, a4⟩, b1, b2, b3, b4⟩ := HGG.out
     omega)
    clear hf0 hq0
    have lres := HL5.out.res.lt
    have lG := HL5.out.hG
    have lH := HL5.out.hH
    have g0 := (HL5.out).bf.cell 0; have g1 := (HL5.out).bf.cell 1; have h0 := (HL5.out).bt.cell 0; have h1 := (HL5.out).bt.cell 1; have gf := (HL5.out).bf.free; have hf := (HL5.out).bt.free; (simp only [List.getElem?_toArray, List.getElem?_cons_zero, List.getElem?_cons_succ] at g0 g1 h0 h1)
    by_cases c1 : f.x = q.x ∧ f.y = q.y
    ·have HW := Lib.hid (show lineF s t = (1, f.q, zeroQ) by rw [HV.out, if_pos c1])
     have fq : f = q := Pt.ext' c1.1 c1.2
     subst fq
     clear c1 HV
     go_wp2_with fail
     refine (pOf_q f _ HI.out.1.1.1 HI.out.1.1.2 HI.out.1.2.1 HI.out.1.2.2).mono ?_
     rintro e w6 ⟨p, rfl, hp, hx6⟩
     have HX6 := Lib.hid (And.intro hp (HL5.out.ext.trans hx6))
     have HR6 := Lib.hid (HL5.out.res.ext hx6)
     clear hp hx6 g0 g1 h0 h1 gf hf
     obtain ⟨RB, RI, RX⟩ := row_cut HX6.out.2 HR6.out (by omega) ⟨1, p, zPV⟩
     have HRI := Lib.hid (And.intro RI (And.intro RX RB))
     clear RB RI RX
     go_wp2_with (refine wpList_store_row rfl 47 _ _ rfl (B + 1 + 1) _ rfl rfl 47 _ HR6.out (by kernel_rfl) rfl (all_one _ rfl) ?_)
     refine bodyPost_ret (v := CV.v ⟨1, p, zPV⟩) (results_cell_row Try.results72 _ _ (B + 1 + 1) 47 _ (0, 0) _ rfl HRI.out.2.2 Try.underlying47 rfl (by kernel_rfl)) rfl ?_
     exact ⟨⟨1, p, zPV⟩, rfl, by rw [HW.out]; exact IsC.keep ⟨rfl, HX6.out.1, zero_isPQ _⟩ HRI.out.1, HRI.out.2.1⟩
    ·have HW := Lib.hid (show lineF s t = if beforeF q f = true then (0, zeroQ, zeroQ) else (2, f.q, q.q) by rw [HV.out, if_neg c1])
     have hk : (f.x == q.x) = false ∨ ((f.x == q.x) = true ∧ (f.y == q.y) = false) := by
      by_cases h : f.x = q.x
      ·exact .inr ⟨by rw [beq_iff_eq]; exact h, by rw [beq_eq_false_iff_ne]; exact fun h2 => c1 ⟨h, h2⟩⟩
      ·exact .inl (by rw [beq_eq_false_iff_ne]; exact h)
     clear c1 HV
     rcases hk with k1 | ⟨k1, k2⟩
     all_goals
      go_upto_if 30 with (go_at_call 68; refine (before_c q f _).mono ?_; rintro e w6 ⟨rfl, hx6⟩)
      have HL6 := Lib.hid (HL5.out.trans hx6)
      have HR6 := Lib.hid HL6.out.res
      clear hx6 g0 g1 h0 h1 gf hf HL5
      cases hb : beforeF q f with
      | true =>
       have HY := Lib.hid (show lineF s t = (0, zeroQ, zeroQ) by rw [HW.out, if_pos hb])
       clear hb HW
       obtain ⟨RB, RI, RX⟩ := row_cut HL6.out.ext HR6.out (by omega) zCV
       have HRI := Lib.hid (And.intro RI (And.intro RX RB))
       clear RB RI RX
       go_wp2_with (refine wpList_store_row rfl 47 _ _ rfl (B + 1 + 1) _ rfl rfl 47 _ HR6.out (by kernel_rfl) rfl (all_one _ rfl) ?_)
       refine bodyPost_ret (v := CV.v zCV) (results_cell_row Try.results72 _ _ (B + 1 + 1) 47 _ (0, 0) _ rfl HRI.out.2.2 Try.underlying47 rfl (by kernel_rfl)) rfl ?_
       exact ⟨zCV, rfl, by rw [HY.out]; exact IsC.keep ⟨rfl, zero_isPQ _, zero_isPQ _⟩ HRI.out.1, HRI.out.2.1⟩
      | false =>
       have HY := Lib.hid (show lineF s t = (2, f.q, q.q) by rw [HW.out, if_neg (by simp [hb])])
       clear hb HW
       go_upto_region 10 with (fail)
       refine wp_region_held_drew (S := fun W => Ext w W ∧ Blk W G f.cs 23 ∧ Blk W H q.cs 23) (by kernel_rfl) ⟨HL6.out.ext.drew, HL6.out.bf.drew, HL6.out.bt.drew⟩ (fun hHeld => ?_)
       refine takeL (i := 0) (v := ?_) rfl (by kernel_rfl) (by kernel_rfl) (by kernel_rfl) (fun _ _ _ h => h) (Or.inl ⟨by rfl, ?_⟩) (by assumption) ?_; rotate_left; (focus (intro wq hSw; have y0 := hSw.2.1.cell 0; have y1 := hSw.2.1.cell 1; have y2 := hSw.2.2.cell 0; have y3 := hSw.2.2.cell 1; (simp only [List.getElem?_toArray, List.getElem?_cons_zero, List.getElem?_cons_succ] at y0 y1 y2 y3); clear hSw; go_simp; try with_reducible rfl)); (try simp only [Act.put, List.setIfInBounds_toArray, List.set_cons_zero, List.set_cons_succ])
       refine takeL (i := 2) (v := ?_) rfl (by kernel_rfl) (by kernel_rfl) (by kernel_rfl) (fun _ _ _ h => h) (Or.inl ⟨by rfl, ?_⟩) (by assumption) ?_; rotate_left; (focus (intro wq hSw; have y0 := hSw.2.1.cell 0; have y1 := hSw.2.1.cell 1; have y2 := hSw.2.2.cell 0; have y3 := hSw.2.2.cell 1; (simp only [List.getElem?_toArray, List.getElem?_cons_zero, List.getElem?_cons_succ] at y0 y1 y2 y3); clear hSw; go_simp; try with_reducible rfl)); (try simp only [Act.put, List.setIfInBounds_toArray, List.set_cons_zero, List.set_cons_succ])
       refine consL (i := 1) (by kernel_rfl) rfl (fun K hK => ?_); go_simp; go_at_call 15; refine (pOf_q f _ HI.out.1.1.1 HI.out.1.1.2 HI.out.1.2.1 HI.out.1.2.2).mono ?_; rintro e w7 ⟨p, rfl, hp, hx7⟩; go_wp2_with fail; refine hK.out _ _ ?_ ?_; rotate_left; clear hK K; intro hHeld; rotate_right; (focus (exact ⟨hHeld.1.trans hx7, hHeld.2.1.ext hx7, hHeld.2.2.ext hx7⟩)); (try simp only [Act.put, List.setIfInBounds_toArray, List.set_cons_zero, List.set_cons_succ])
       refine consL (i := 3) (by kernel_rfl) rfl (fun K hK => ?_); go_simp; go_at_call 15; refine (pOf_q q _ HI.out.2.1.1 HI.out.2.1.2 HI.out.2.2.1 HI.out.2.2.2).mono ?_; rintro e w8 ⟨r, rfl, hr, hx8⟩; go_wp2_with fail; refine hK.out _ _ ?_ ?_; rotate_left; clear hK K; intro hHeld; rotate_right; (focus (exact ⟨hHeld.1.trans hx8, hHeld.2.1.ext hx8, hHeld.2.2.ext hx8⟩)); (try simp only [Act.put, List.setIfInBounds_toArray, List.set_cons_zero, List.set_cons_succ])
       refine tkW (i := 4) (h := ?_)
       have HR8 := Lib.hid (HR6.out.ext (((Ext.refl w6).drew.trans hx7).trans hx8))
       have HX8 := Lib.hid (And.intro (hp.keep hx8.ik) hr)
       obtain ⟨RB, RI, RX⟩ := row_cut (HL6.out.ext.trans (((Ext.refl w6).drew.trans hx7).trans hx8)) HR8.out (by omega) ⟨2, p, r⟩
       have HRI := Lib.hid (And.intro RI (And.intro RX RB))
       clear RB RI RX
       clear hx7 hx8 hp hr
       refine consL (i := 5) (by kernel_rfl) rfl (fun K hK => ?_); rw [if_pos (show Region.wanted _ _ = true by rfl)]; refine wp_store_row _ _ _ rfl (B + 1 + 1) (CV.cs ⟨2, p, r⟩) rfl rfl 47 _ HR8.out (by kernel_rfl) rfl (all_one _ rfl) ?_; refine hK.out _ _ ?_ ?_; rotate_left; clear hK K; intro hHeld; rotate_right; (focus (exact ⟨HRI.out.2.1, hHeld.2.1.setRowOther (by omega), hHeld.2.2.setRowOther (by omega)⟩)); (try simp only [Act.put, List.setIfInBounds_toArray, List.set_cons_zero, List.set_cons_succ])
       refine doneL (by kernel_rfl) ?_
       have HE9 := Lib.hid hHeld.1
       go_wp2_with fail
       refine bodyPost_ret (v := CV.v ⟨2, p, r⟩) (results_cell_row Try.results72 _ _ (B + 1 + 1) 47 _ (0, 0) _ rfl HRI.out.2.2 Try.underlying47 rfl (by kernel_rfl)) rfl ?_
       exact ⟨⟨2, p, r⟩, rfl, by rw [HY.out]; exact IsC.keep ⟨rfl, HX8.out.1, HX8.out.2⟩ HRI.out.1, HE9.out⟩
end Go.Proofs.Ytagiaiocgjagnaa
