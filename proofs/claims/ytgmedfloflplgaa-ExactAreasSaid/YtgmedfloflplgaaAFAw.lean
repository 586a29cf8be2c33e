/- exact: area, whatever its numbers are: the walk. -/
import Derived.Test.YtgmedfloflplgaaAFAg
import Derived.StillTailTactics
namespace Go.Proofs.Ytgmedfloflplgaa
set_option linter.unusedSimpArgs false
set_option linter.unusedVariables false
open Go.RowKit

abbrev PQ := Q2 × Q2
/-- p stands for a point of two fractions. -/
def IsPG (w : World) (p : PV) (v : PQ) : Prop := IsF w p.x v.1.1 v.1.2 ∧ IsF w p.y v.2.1 v.2.2
theorem IsPG.keep {w w' : World} {p : PV} {v : PQ} (h : IsPG w p v) (e : IK w w') : IsPG w' p v := ⟨h.1.keep e, h.2.keep e⟩
def mulO (a b : Option Q2) : Option Q2 := a.bind fun x => b.bind fun y => mulE x y
/-- What area returns. -/
def areaE (a b c : PQ) : Option Q2 := (mulO (subE b.1 a.1) (subE c.2 a.2)).bind fun x => (mulO (subE b.2 a.2) (subE c.1 a.1)).bind fun y => subE x y
theorem lowE_low (x y : Int) (hy : 1 ≤ y) : Nat.gcd (lowE x y).1.natAbs (lowE x y).2.natAbs = 1 := (low_of x y hy).low
theorem subE_low {a b v : Q2} (ha : 1 ≤ a.2) (hb : 1 ≤ b.2) (h : subE a b = some v) : Nat.gcd v.1.natAbs v.2.natAbs = 1 := by
 unfold subE addE at h
 simp only at h
 split at h
 ·injection h with h
  subst h
  exact lowE_low _ _ (pos_mul ((Int.le_ediv_iff_mul_le (by have := gcdI_pos (x := a.2) hb; omega)).2 (by rw [Int.one_mul]; exact Int.le_of_dvd (by omega) (gcdI_dvd a.2 b.2).1)) hb)
 ·cases h
theorem mulE_low {a b v : Q2} (ha : 1 ≤ a.2) (hb : 1 ≤ b.2) (h1 : Nat.gcd a.1.natAbs a.2.natAbs = 1) (h2 : Nat.gcd b.1.natAbs b.2.natAbs = 1) (h : mulE a b = some v) : Nat.gcd v.1.natAbs v.2.natAbs = 1 := by
 unfold mulE at h
 split at h
 ·injection h with h
  subst h
  exact mul_low ha hb h1 h2
 ·cases h
theorem HasF.get {w : World} {b o : Nat} {x y : Int} {k : Nat} (h : HasF w b o x y k) (hl : Nat.gcd x.natAbs y.natAbs = 1) : ∃ f : FV, Four w b o f ∧ IsF w f x y := by
 obtain ⟨f, N, D, h1, h2, h3, _⟩ := h
 obtain ⟨rfl, rfl⟩ := h3.uniq h2.low hl
 exact ⟨f, h1, h2⟩
/-- A step that fails. -/
theorem InS.fail {w0 ws w' V : World} {pb xb yb ib eb rb ob zb o : Nat} {cs : Array Value} {v x1 y1 x2 y2 : Int} {j n : Nat} (D : Diff w0.heap.size pb xb yb ib eb rb ob) (h : InS w0 ws pb xb yb ib eb rb ob cs v x1 y1 x2 y2 j n) (hV : Ext V ws) (hz1 : V.heap.size ≤ zb) (hz2 : zb ≠ ob) (hz3 : V.heap.size ≤ eb) (hz4 : w0.heap.size ≤ zb) {e : Ending} (hs : StepO zb o eb none ws e w') : e = .returned (.int .i64 4) ∧ Ext w0 w' ∧ Own w' ob 4 ∧ Ext V w' := by
 obtain ⟨f, w1, rfl, rfl, hx⟩ := hs.2 rfl
 obtain ⟨⟨d1, d2⟩, d3, d4, d5, d6, d7⟩ := D
 have hO := (h.o.ext hx (by omega)).putO (b' := zb) (o' := o) (f := f)
 refine ⟨rfl, (ext_putO (h.ext.trans hx) (by omega) f).setCell (show w0.heap.size ≤ eb by omega) _, ⟨own1_set hO.1, own2_set hO.2.1, own3_ne hO.2.2 (by omega)⟩, (ext_putO (hV.trans hx) hz1 f).setCell hz3 _⟩
theorem StepO.good {xb o eb : Nat} {v : Option Q2} {u : Q2} {w w' : World} {e : Ending} (h : StepO xb o eb v w e w') (hv : v = some u) : StepR xb o u.1 u.2 (32 * WMost) w e w' := h.1 u hv
theorem ext_stepR {V ws w' : World} {xb o : Nat} {x y : Int} {k : Nat} {e : Ending} (h : StepR xb o x y k ws e w') (hV : Ext V ws) (hb : V.heap.size ≤ xb) : Ext V w' := by
 obtain ⟨f, N, D, w1, _, rfl, hx, _⟩ := h
 exact ext_putO (hV.trans hx) hb f

set_option maxRecDepth 100000 in
set_option maxHeartbeats 4000000 in
theorem areaO_c (a b c : PV) (va vb vc : PQ) (w : World) (ha : IsPG w a va) (hb : IsPG w b vb) (hc : IsPG w c vc) :
  Calls Try.prog 63 #[a.v, b.v, c.v] w (RetO (areaE va vb vc) w) := by
 have HP := Lib.hid (And.intro ha (And.intro hb hc))
 clear ha hb hc
 obtain ⟨B, hB⟩ : ∃ B, w.heap.size = B := ⟨_, rfl⟩
 obtain ⟨d1, hd1⟩ : ∃ d, subE vb.1 va.1 = d := ⟨_, rfl⟩
 obtain ⟨d2, hd2⟩ : ∃ d, subE vc.2 va.2 = d := ⟨_, rfl⟩
 obtain ⟨d3, hd3⟩ : ∃ d, subE vb.2 va.2 = d := ⟨_, rfl⟩
 obtain ⟨d4, hd4⟩ : ∃ d, subE vc.1 va.1 = d := ⟨_, rfl⟩
 obtain ⟨A, hA⟩ : ∃ A, areaE va vb vc = A := ⟨_, rfl⟩
 have HD := Lib.hid (And.intro hd1 (And.intro hd2 (And.intro hd3 hd4)))
 have HA := Lib.hid (show (mulO d1 d2).bind (fun x => (mulO d3 d4).bind fun y => subE x y) = A from by rw [← hA, ← hd1, ← hd2, ← hd3, ← hd4]; rfl)
 have HLO := Lib.hid (show (∀ u, d1 = some u → Nat.gcd u.1.natAbs u.2.natAbs = 1 ∧ 1 ≤ u.2) ∧ (∀ u, d2 = some u → Nat.gcd u.1.natAbs u.2.natAbs = 1 ∧ 1 ≤ u.2) ∧ (∀ u, d3 = some u → Nat.gcd u.1.natAbs u.2.natAbs = 1 ∧ 1 ≤ u.2) ∧ (∀ u, d4 = some u → Nat.gcd u.1.natAbs u.2.natAbs = 1 ∧ 1 ≤ u.2) from
  ⟨fun u h => ⟨subE_low HP.out.2.1.1.pos HP.out.1.1.pos (hd1.trans h), (subE_eq HP.out.2.1.1.pos HP.out.1.1.pos (hd1.trans h)).1⟩, fun u h => ⟨subE_low HP.out.2.2.2.pos HP.out.1.2.pos (hd2.trans h), (subE_eq HP.out.2.2.2.pos HP.out.1.2.pos (hd2.trans h)).1⟩, fun u h => ⟨subE_low HP.out.2.1.2.pos HP.out.1.2.pos (hd3.trans h), (subE_eq HP.out.2.1.2.pos HP.out.1.2.pos (hd3.trans h)).1⟩, fun u h => ⟨subE_low HP.out.2.2.1.pos HP.out.1.1.pos (hd4.trans h), (subE_eq HP.out.2.2.1.pos HP.out.1.1.pos (hd4.trans h)).1⟩⟩)
 rw [hA]
 clear hd1 hd2 hd3 hd4 hA
 go_enter Try.func63, Try.ntmps63
 go_upto_region 3 with (refine wpList_store_row rfl 123 _ _ rfl (B + 1 + 1 + 1 + 1 + 1) _ rfl rfl 123 _ (Blk.at _ _ (by simp [hB])) (by kernel_rfl) rfl (all_one _ rfl) ?_)
 refine wp_gen (fun W => Ext w W ∧ Blk W (B + 1 + 1 + 1 + 1 + 1) #[.bool b.x.n.neg, .slice b.x.n.a b.x.n.n b.x.n.c, .bool b.x.d.neg, .slice b.x.d.a b.x.d.n b.x.d.c, .bool a.x.n.neg, .slice a.x.n.a a.x.n.n a.x.n.c, .bool a.x.d.neg, .slice a.x.d.a a.x.d.n a.x.d.c, .bool c.y.n.neg, .slice c.y.n.a c.y.n.n c.y.n.c, .bool c.y.d.neg, .slice c.y.d.a c.y.d.n c.y.d.c, .bool a.y.n.neg, .slice a.y.n.a a.y.n.n a.y.n.c, .bool a.y.d.neg, .slice a.y.d.a a.y.d.n a.y.d.c, .bool b.y.n.neg, .slice b.y.n.a b.y.n.n b.y.n.c, .bool b.y.d.neg, .slice b.y.d.a b.y.d.n b.y.d.c, .bool a.y.n.neg, .slice a.y.n.a a.y.n.n a.y.n.c, .bool a.y.d.neg, .slice a.y.d.a a.y.d.n a.y.d.c, .bool c.x.n.neg, .slice c.x.n.a c.x.n.n c.x.n.c, .bool c.x.d.neg, .slice c.x.d.a c.x.d.n c.x.d.c, .bool a.x.n.neg, .slice a.x.n.a a.x.n.n a.x.n.c, .bool a.x.d.neg, .slice a.x.d.a a.x.d.n a.x.d.c] 123 ∧ Own W (B + 1 + 1 + 1) 4 ∧ W.heap.size = B + 1 + 1 + 1 + 1 + 1 + 1 ∧ At W (B + 1 + 1 + 1 + 1) #[.bool false, .slice none 0 0, .bool false, .slice none 0 0]) ?_ ?_
 ·refine ⟨Ext.setRow ?_ (by omega), Blk.setRow (Blk.at _ _ (by simp [hB])), Own.setRow (Own.ext (((Ext.refl _).alloc _).alloc _) (Blk.own (Blk.at _ 49 (by simp [hB])) 4 (by simp) (noIntF _ _ _ _ _ _ _ _)) (by omega)) (by omega), by simp [hB], (Blk.setRowOther ((Blk.at _ 49 (by simp [hB])).alloc _) (by omega)).at'⟩
  exact ((((((Ext.refl _).alloc _).alloc _).alloc _).alloc _).alloc _).alloc _
 rintro V0 ⟨E0, B5, O3, hV, A4⟩
 have HV := Lib.hid (And.intro A4 hV)
 clear A4
 obtain ⟨cs, hcs⟩ : ∃ cs : Array Value, #[.bool b.x.n.neg, .slice b.x.n.a b.x.n.n b.x.n.c, .bool b.x.d.neg, .slice b.x.d.a b.x.d.n b.x.d.c, .bool a.x.n.neg, .slice a.x.n.a a.x.n.n a.x.n.c, .bool a.x.d.neg, .slice a.x.d.a a.x.d.n a.x.d.c, .bool c.y.n.neg, .slice c.y.n.a c.y.n.n c.y.n.c, .bool c.y.d.neg, .slice c.y.d.a c.y.d.n c.y.d.c, .bool a.y.n.neg, .slice a.y.n.a a.y.n.n a.y.n.c, .bool a.y.d.neg, .slice a.y.d.a a.y.d.n a.y.d.c, .bool b.y.n.neg, .slice b.y.n.a b.y.n.n b.y.n.c, .bool b.y.d.neg, .slice b.y.d.a b.y.d.n b.y.d.c, .bool a.y.n.neg, .slice a.y.n.a a.y.n.n a.y.n.c, .bool a.y.d.neg, .slice a.y.d.a a.y.d.n a.y.d.c, .bool c.x.n.neg, .slice c.x.n.a c.x.n.n c.x.n.c, .bool c.x.d.neg, .slice c.x.d.a c.x.d.n c.x.d.c, .bool a.x.n.neg, .slice a.x.n.a a.x.n.n a.x.n.c, .bool a.x.d.neg, .slice a.x.d.a a.x.d.n a.x.d.c] = cs := ⟨_, rfl⟩
 rw [hcs] at B5
 obtain ⟨q0, hq0⟩ : ∃ q0, cs.extract 0 16 = q0 := ⟨_, rfl⟩
 obtain ⟨q1, hq1⟩ : ∃ q1, cs.extract 16 32 = q1 := ⟨_, rfl⟩
 have l0 : #[.bool b.x.n.neg, .slice b.x.n.a b.x.n.n b.x.n.c, .bool b.x.d.neg, .slice b.x.d.a b.x.d.n b.x.d.c, .bool a.x.n.neg, .slice a.x.n.a a.x.n.n a.x.n.c, .bool a.x.d.neg, .slice a.x.d.a a.x.d.n a.x.d.c, .bool c.y.n.neg, .slice c.y.n.a c.y.n.n c.y.n.c, .bool c.y.d.neg, .slice c.y.d.a c.y.d.n c.y.d.c, .bool a.y.n.neg, .slice a.y.n.a a.y.n.n a.y.n.c, .bool a.y.d.neg, .slice a.y.d.a a.y.d.n a.y.d.c] = q0 := by rw [← hq0, ← hcs]; rfl
 have l1 : #[.bool b.y.n.neg, .slice b.y.n.a b.y.n.n b.y.n.c, .bool b.y.d.neg, .slice b.y.d.a b.y.d.n b.y.d.c, .bool a.y.n.neg, .slice a.y.n.a a.y.n.n a.y.n.c, .bool a.y.d.neg, .slice a.y.d.a a.y.d.n a.y.d.c, .bool c.x.n.neg, .slice c.x.n.a c.x.n.n c.x.n.c, .bool c.x.d.neg, .slice c.x.d.a c.x.d.n c.x.d.c, .bool a.x.n.neg, .slice a.x.n.a a.x.n.n a.x.n.c, .bool a.x.d.neg, .slice a.x.d.a a.x.d.n a.x.d.c] = q1 := by rw [← hq1, ← hcs]; rfl
 have s0 : q0.size = 16 := by rw [← l0]; rfl
 have s1 : q1.size = 16 := by rw [← l1]; rfl
 have a0 : q0.all (·.oneCell') = true := by rw [← l0]; exact all_one _ rfl
 have a1 : q1.all (·.oneCell') = true := by rw [← l1]; exact all_one _ rfl
 have ix0 : ∀ W, (Instr.index 123 (.agg cs) (.int .i64 0)).run Try.prog W = .ok (.agg q0) W := fun W => by
  have := run_index_agg (P := Try.prog) (t := 123) (e := 107) (m := 16) (cs := cs) (i := 0) Try.underlying123 Try.underlying107 rfl (by kernel_rfl) (by omega) (by omega) W
  rw [this, ← hq0]; rfl
 have ix1 : ∀ W, (Instr.index 123 (.agg cs) (.int .i64 1)).run Try.prog W = .ok (.agg q1) W := fun W => by
  have := run_index_agg (P := Try.prog) (t := 123) (e := 107) (m := 16) (cs := cs) (i := 1) Try.underlying123 Try.underlying107 rfl (by kernel_rfl) (by omega) (by omega) W
  rw [this, ← hq1]; rfl
 have LQ := Lib.hid (And.intro l0 l1); have SQ := Lib.hid (And.intro s0 s1); have AQ := Lib.hid (And.intro a0 a1)
 clear l0 l1 s0 s1 a0 a1 hq0 hq1
 have HCS := Lib.hid hcs
 have hB5 := Lib.hid B5
 have hsz : cs.size = 32 := by rw [← hcs]; rfl
 clear hcs B5
 go_upto_region 5 with (refine wpList_load_row rfl 123 _ rfl _ rfl 123 cs _ _ (Blk.alloc hB5.out _) Try.underlying123 rfl (by rw [hsz]; kernel_rfl) ?_)
 have S0 := Lib.hid (show Ext w (V0.alloc (.cells #[.bool false, .slice none 0 0, .bool false, .slice none 0 0, .bool false, .slice none 0 0, .bool false, .slice none 0 0] 124)) ∧ Own (V0.alloc (.cells #[.bool false, .slice none 0 0, .bool false, .slice none 0 0, .bool false, .slice none 0 0, .bool false, .slice none 0 0] 124)) (B + 1 + 1 + 1) 4 ∧ Own (V0.alloc (.cells #[.bool false, .slice none 0 0, .bool false, .slice none 0 0, .bool false, .slice none 0 0, .bool false, .slice none 0 0] 124)) (B + 1 + 1 + 1 + 1 + 1 + 1) 8 ∧ Ext V0 (V0.alloc (.cells #[.bool false, .slice none 0 0, .bool false, .slice none 0 0, .bool false, .slice none 0 0, .bool false, .slice none 0 0] 124)) from
  ⟨E0.alloc _, Own.ext ((Ext.refl _).alloc _) O3 (by omega), Blk.own (Blk.at _ 124 hV.symm) 8 (by simp) noInt8, (Ext.refl _).alloc _⟩)
 go_loopw [42] (fun iv ws => ∃ i : Nat, i ≤ 2 ∧ iv = .int .i64 (i : Int) ∧ Ext w ws ∧ Own ws (B + 1 + 1 + 1) 4 ∧ Own ws (B + 1 + 1 + 1 + 1 + 1 + 1) 8 ∧ Ext V0 ws ∧ (1 ≤ i → ∃ m, mulO d1 d2 = some m ∧ Nat.gcd m.1.natAbs m.2.natAbs = 1 ∧ 1 ≤ m.2 ∧ HasF ws (B + 1 + 1 + 1 + 1 + 1 + 1) 0 m.1 m.2 (32 * WMost)) ∧ (2 ≤ i → ∃ m, mulO d3 d4 = some m ∧ Nat.gcd m.1.natAbs m.2.natAbs = 1 ∧ 1 ≤ m.2 ∧ HasF ws (B + 1 + 1 + 1 + 1 + 1 + 1) 4 m.1 m.2 (32 * WMost))) (fun iv _ => 2 - (intOf iv).toNat)
 case atStart => exact ⟨0, by omega, rfl, S0.out.1, S0.out.2.1, S0.out.2.2.1, S0.out.2.2.2, fun h => absurd h (by omega), fun h => absurd h (by omega)⟩
 case round =>
  obtain ⟨i, hi, rfl, hx, ho, hr, hv, hf1, hf2⟩ := hrel
  clear hB5 O3 E0 hV S0
  rcases (show i = 0 ∨ i = 1 ∨ i = 2 by omega) with rfl | rfl | rfl
  ·have hSB : B + 1 + 1 + 1 + 1 + 1 + 1 < wr.heap.size := hr.lt (by omega)
   have HS := Lib.hid (And.intro hx (And.intro ho (And.intro hr hv)))
   have HF1 := Lib.hid hf1
   clear hx ho hr hf1 hf2 hv
   obtain ⟨S, hS⟩ : ∃ S, wr.heap.size = S := ⟨_, rfl⟩
   go_upto_region 7 with (refine wpList_store_row rfl 107 _ _ rfl (S + 1) q0 rfl rfl 107 _ (Blk.at _ _ (by simp [hS])) (by rw [SQ.out.1]; kernel_rfl) (by rw [SQ.out.1]; rfl) AQ.out.1 ?_)
   go_upto_region 9 with (fail)
   go_upto_region 10 with (refine wpList_store_row rfl 126 _ _ rfl (S + 1 + 1 + 1 + 1 + 1) _ rfl rfl 126 _ (Blk.at _ _ (by simp [hS])) (by kernel_rfl) rfl (all_one _ rfl) ?_)
   obtain ⟨fs, hfs⟩ : ∃ fs : Array Value, #[.func (.func 89) #[] #[.pointer (some ⟨S + 1, 0, none⟩), .pointer (some ⟨S + 1 + 1, 0, none⟩), .pointer (some ⟨S + 1 + 1 + 1 + 1, 0, none⟩)], .func (.func 90) #[] #[.pointer (some ⟨S + 1, 0, none⟩), .pointer (some ⟨S + 1 + 1 + 1, 0, none⟩), .pointer (some ⟨S + 1 + 1 + 1 + 1, 0, none⟩)], .func (.func 91) #[] #[.pointer (some ⟨S + 1 + 1, 0, none⟩), .pointer (some ⟨S + 1 + 1 + 1, 0, none⟩), .pointer (some ⟨B + 1 + 1 + 1 + 1 + 1 + 1, 0, none⟩), .pointer (some ⟨S, 0, none⟩), .pointer (some ⟨S + 1 + 1 + 1 + 1, 0, none⟩)]] = fs := ⟨_, rfl⟩
   have fx0 : ∀ W, (Instr.index 126 (.agg fs) (.int .i64 0)).run Try.prog W = .ok (.func (.func 89) #[] #[.pointer (some ⟨S + 1, 0, none⟩), .pointer (some ⟨S + 1 + 1, 0, none⟩), .pointer (some ⟨S + 1 + 1 + 1 + 1, 0, none⟩)]) W := fun W => run_index_one Try.underlying126 Try.underlying125 rfl (by kernel_rfl) (by omega) (by omega) (by rw [← hfs]; rfl) W
   have fx1 : ∀ W, (Instr.index 126 (.agg fs) (.int .i64 1)).run Try.prog W = .ok (.func (.func 90) #[] #[.pointer (some ⟨S + 1, 0, none⟩), .pointer (some ⟨S + 1 + 1 + 1, 0, none⟩), .pointer (some ⟨S + 1 + 1 + 1 + 1, 0, none⟩)]) W := fun W => run_index_one Try.underlying126 Try.underlying125 rfl (by kernel_rfl) (by omega) (by omega) (by rw [← hfs]; rfl) W
   have fx2 : ∀ W, (Instr.index 126 (.agg fs) (.int .i64 2)).run Try.prog W = .ok (.func (.func 91) #[] #[.pointer (some ⟨S + 1 + 1, 0, none⟩), .pointer (some ⟨S + 1 + 1 + 1, 0, none⟩), .pointer (some ⟨B + 1 + 1 + 1 + 1 + 1 + 1, 0, none⟩), .pointer (some ⟨S, 0, none⟩), .pointer (some ⟨S + 1 + 1 + 1 + 1, 0, none⟩)]) W := fun W => run_index_one Try.underlying126 Try.underlying125 rfl (by kernel_rfl) (by omega) (by omega) (by rw [← hfs]; rfl) W
   have hfz : fs.size = 3 := by rw [← hfs]; rfl
   have HFZ := Lib.hid hfz
   rw [hfs]
   clear hfs hfz
   refine wp_gen (fun W => InS w W (S + 1) (S + 1 + 1) (S + 1 + 1 + 1) (S) (S + 1 + 1 + 1 + 1) (B + 1 + 1 + 1 + 1 + 1 + 1) (B + 1 + 1 + 1) q0 0 (valO d1).1 (valO d1).2 (valO d2).1 (valO d2).2 (32 * WMost) 0 ∧ Blk W (S + 1 + 1 + 1 + 1 + 1) fs 126 ∧ Ext wr W) (inS_start hB hS HS.out.1 HS.out.2.1 HS.out.2.2.1 (by rw [SQ.out.1]; omega)) ?_
   rintro V ⟨hI, hFB, hE⟩
   have HI := Lib.hid (And.intro hI (HS.out.2.2.2.trans hE)); have HFB := Lib.hid hFB
   have hDf : Diff w.heap.size (S + 1) (S + 1 + 1) (S + 1 + 1 + 1) (S) (S + 1 + 1 + 1 + 1) (B + 1 + 1 + 1 + 1 + 1 + 1) (B + 1 + 1 + 1) := ⟨by omega, by omega⟩
   have HDF := Lib.hid hDf
   have hVS : V0.heap.size ≤ S := by have := HV.out.2; omega
   clear hI hFB hE hDf
   go_upto_region 11 with (refine wpList_load_row rfl 126 _ rfl (S + 1 + 1 + 1 + 1 + 1) rfl 126 _ _ _ HFB.out Try.underlying126 rfl (by rw [HFZ.out]; kernel_rfl) ?_)
   go_loopw [51] (fun kv ws => ∃ n : Nat, n ≤ 3 ∧ kv = .int .i64 (n : Int) ∧ Ext V0 ws ∧ (1 ≤ n → d1 ≠ none) ∧ (2 ≤ n → d2 ≠ none) ∧ (n ≤ 2 → InS w ws (S + 1) (S + 1 + 1) (S + 1 + 1 + 1) (S) (S + 1 + 1 + 1 + 1) (B + 1 + 1 + 1 + 1 + 1 + 1) (B + 1 + 1 + 1) q0 0 (valO d1).1 (valO d1).2 (valO d2).1 (valO d2).2 (32 * WMost) n) ∧ (n = 3 → Ext w ws ∧ Own ws (B + 1 + 1 + 1) 4 ∧ Own ws (B + 1 + 1 + 1 + 1 + 1 + 1) 8 ∧ ∃ m, mulO d1 d2 = some m ∧ Nat.gcd m.1.natAbs m.2.natAbs = 1 ∧ 1 ≤ m.2 ∧ HasF ws (B + 1 + 1 + 1 + 1 + 1 + 1) 0 m.1 m.2 (32 * WMost))) (fun kv _ => 3 - (intOf kv).toNat)
   case atStart => exact ⟨0, by omega, rfl, HI.out.2, fun h => absurd h (by omega), fun h => absurd h (by omega), fun _ => HI.out.1, fun h => absurd h (by omega)⟩
   case round =>
    obtain ⟨n, hn, rfl, hv0, hn1, hn2, h2, h3⟩ := hrel
    rcases (show n = 0 ∨ n = 1 ∨ n = 2 ∨ n = 3 by omega) with rfl | rfl | rfl | rfl
    ·have hin := h2 (by omega)
     have hpr := hin.pairs
     rw [← LQ.out.1] at hpr
     have HIN := Lib.hid hin; have HPR := Lib.hid hpr; have HVV := Lib.hid hv0
     clear hin hpr h2 h3 hv0 hn1 hn2
     obtain ⟨dz, hdz⟩ : ∃ z, d1 = z := ⟨_, rfl⟩
     cases dz with
     | none =>
      rw [hdz] at HD
      go_wp2_with (go_at_call 89; refine (area1O_c b.x a.x c.y a.y (S + 1) (S + 1 + 1) (S + 1 + 1 + 1 + 1) vb.1 va.1 _ HPR.out HIN.out.x HIN.out.e (by omega) (HP.out.2.1.1.keep HIN.out.ext.ik) (HP.out.1.1.keep HIN.out.ext.ik)).mono ?_; rw [HD.out.1]; rintro e w2 hst; obtain ⟨rfl, fa1, fa2, fa3⟩ := InS.fail HDF.out HIN.out HVV.out (by omega) (by omega) (by omega) (by omega) hst; have HZ := Lib.hid (And.intro fa1 (And.intro fa2 (And.intro (HV.out.1.ext fa3 (by simp)) fa3))); clear fa1 fa2 fa3 hst; have z0 : w2.cell? ⟨B + 1 + 1 + 1 + 1, 0, none⟩ = some (.bool false) := HZ.out.2.2.1 0 (by simp); have z1 : w2.cell? ⟨B + 1 + 1 + 1 + 1, 1, none⟩ = some (.slice none 0 0) := HZ.out.2.2.1 1 (by simp); have z2 : w2.cell? ⟨B + 1 + 1 + 1 + 1, 2, none⟩ = some (.bool false) := HZ.out.2.2.1 2 (by simp); have z3 : w2.cell? ⟨B + 1 + 1 + 1 + 1, 3, none⟩ = some (.slice none 0 0) := HZ.out.2.2.1 3 (by simp); have o0 := HZ.out.2.1.1 0 (by omega); have o1 := HZ.out.2.1.1 1 (by omega); have o2 := HZ.out.2.1.1 2 (by omega); have o3 := HZ.out.2.1.1 3 (by omega); have of := HZ.out.2.1.2.1; have ol := HZ.out.2.1.lt (by omega))
      (obtain ⟨p0, p1, p2, p3⟩ := putF_cells HZ.out.2.1 fvz; dsimp only [putF, fvz] at p0 p1 p2 p3; (try rw [Exit.noGoto_ret]); refine bodyPost_ret (v := .tuple #[fvz.v, .int .i64 4]) (by simp [results, Try.results63, go_sem, fvz, p0, p1, p2, p3]) rfl ?_; exact ⟨fvz, by rw [show A = none from by rw [← HA.out]; rw [hdz]; rfl]; rfl, by rw [show A = none from by rw [← HA.out]; rw [hdz]; rfl]; exact fvz_isF _, ext_putF HZ.out.1 (by omega) fvz⟩)
     | some u =>
      have hu : valO d1 = u := by rw [hdz]; rfl
      have HU := Lib.hid (And.intro hdz hu)
      clear hdz hu
      go_wp2_with (go_at_call 89; refine (area1O_c b.x a.x c.y a.y (S + 1) (S + 1 + 1) (S + 1 + 1 + 1 + 1) vb.1 va.1 _ HPR.out HIN.out.x HIN.out.e (by omega) (HP.out.2.1.1.keep HIN.out.ext.ik) (HP.out.1.1.keep HIN.out.ext.ik)).mono ?_; rw [HD.out.1]; rintro e w2 hst; replace hst := hst.good HU.out.1; have hex := ext_stepR hst HVV.out (by omega); rw [← HU.out.2] at hst; obtain ⟨rfl, hi2, hkk⟩ := InS.step1 HDF.out HIN.out (by rw [SQ.out.1]; omega) hst; have HI2 := Lib.hid (And.intro hi2 hex); clear hi2 hkk hst hex)
      go_roundw
      case rel => exact ⟨1, by omega, rfl, HI2.out.2, fun _ => by rw [HU.out.1]; simp, fun h => absurd h (by omega), fun _ => HI2.out.1, fun h => absurd h (by omega)⟩
      case measure => simp [intOf]
    ·have hin := h2 (by omega)
     have hpr := hin.pairs
     rw [← LQ.out.1] at hpr
     have HIN := Lib.hid hin; have HPR := Lib.hid hpr; have HVV := Lib.hid hv0; have HN1 := Lib.hid (hn1 (by omega))
     clear hin hpr h2 h3 hv0 hn1 hn2
     obtain ⟨dz, hdz⟩ : ∃ z, d2 = z := ⟨_, rfl⟩
     cases dz with
     | none =>
      rw [hdz] at HD
      go_wp2_with (go_at_call 90; refine (area2O_c b.x a.x c.y a.y (S + 1) (S + 1 + 1 + 1) (S + 1 + 1 + 1 + 1) vc.2 va.2 _ HPR.out HIN.out.y HIN.out.e (by omega) (HP.out.2.2.2.keep HIN.out.ext.ik) (HP.out.1.2.keep HIN.out.ext.ik)).mono ?_; rw [HD.out.2.1]; rintro e w2 hst; obtain ⟨rfl, fa1, fa2, fa3⟩ := InS.fail HDF.out HIN.out HVV.out (by omega) (by omega) (by omega) (by omega) hst; have HZ := Lib.hid (And.intro fa1 (And.intro fa2 (And.intro (HV.out.1.ext fa3 (by simp)) fa3))); clear fa1 fa2 fa3 hst; have z0 : w2.cell? ⟨B + 1 + 1 + 1 + 1, 0, none⟩ = some (.bool false) := HZ.out.2.2.1 0 (by simp); have z1 : w2.cell? ⟨B + 1 + 1 + 1 + 1, 1, none⟩ = some (.slice none 0 0) := HZ.out.2.2.1 1 (by simp); have z2 : w2.cell? ⟨B + 1 + 1 + 1 + 1, 2, none⟩ = some (.bool false) := HZ.out.2.2.1 2 (by simp); have z3 : w2.cell? ⟨B + 1 + 1 + 1 + 1, 3, none⟩ = some (.slice none 0 0) := HZ.out.2.2.1 3 (by simp); have o0 := HZ.out.2.1.1 0 (by omega); have o1 := HZ.out.2.1.1 1 (by omega); have o2 := HZ.out.2.1.1 2 (by omega); have o3 := HZ.out.2.1.1 3 (by omega); have of := HZ.out.2.1.2.1; have ol := HZ.out.2.1.lt (by omega))
      (obtain ⟨p0, p1, p2, p3⟩ := putF_cells HZ.out.2.1 fvz; dsimp only [putF, fvz] at p0 p1 p2 p3; (try rw [Exit.noGoto_ret]); refine bodyPost_ret (v := .tuple #[fvz.v, .int .i64 4]) (by simp [results, Try.results63, go_sem, fvz, p0, p1, p2, p3]) rfl ?_; exact ⟨fvz, by rw [show A = none from by rw [← HA.out]; rw [hdz]; cases d1 <;> rfl]; rfl, by rw [show A = none from by rw [← HA.out]; rw [hdz]; cases d1 <;> rfl]; exact fvz_isF _, ext_putF HZ.out.1 (by omega) fvz⟩)
     | some u =>
      have hu : valO d2 = u := by rw [hdz]; rfl
      have HU := Lib.hid (And.intro hdz hu)
      clear hdz hu
      go_wp2_with (go_at_call 90; refine (area2O_c b.x a.x c.y a.y (S + 1) (S + 1 + 1 + 1) (S + 1 + 1 + 1 + 1) vc.2 va.2 _ HPR.out HIN.out.y HIN.out.e (by omega) (HP.out.2.2.2.keep HIN.out.ext.ik) (HP.out.1.2.keep HIN.out.ext.ik)).mono ?_; rw [HD.out.2.1]; rintro e w2 hst; replace hst := hst.good HU.out.1; have hex := ext_stepR hst HVV.out (by omega); rw [← HU.out.2] at hst; obtain ⟨rfl, hi2, hkk⟩ := InS.step2 HDF.out HIN.out (by rw [SQ.out.1]; omega) hst; have HI2 := Lib.hid (And.intro hi2 hex); clear hi2 hkk hst hex)
      go_roundw
      case rel => exact ⟨2, by omega, rfl, HI2.out.2, fun _ => HN1.out, fun h => by rw [HU.out.1]; simp, fun _ => HI2.out.1, fun h => absurd h (by omega)⟩
      case measure => simp [intOf]
    ·have hin := h2 (by omega)
     obtain ⟨u1, hu1⟩ : ∃ u, d1 = some u := by cases h : d1 with | none => exact absurd h (hn1 (by omega)) | some u => exact ⟨u, rfl⟩
     obtain ⟨u2, hu2⟩ : ∃ u, d2 = some u := by cases h : d2 with | none => exact absurd h (hn2 (by omega)) | some u => exact ⟨u, rfl⟩
     have hdx := hin.dx (by omega)
     have hdy := hin.dy (by omega)
     rw [show valO d1 = u1 from by rw [hu1]; rfl] at hdx
     rw [show valO d2 = u2 from by rw [hu2]; rfl] at hdy
     obtain ⟨g1, c1, c2⟩ := hdx.get (HLO.out.1 u1 hu1).1
     obtain ⟨g2, e1, e2⟩ := hdy.get (HLO.out.2.1 u2 hu2).1
     obtain ⟨m, hm⟩ : ∃ m, mulE u1 u2 = m := ⟨_, rfl⟩
     have hmO : mulO d1 d2 = m := by rw [hu1, hu2]; exact hm
     have HIN := Lib.hid hin; have HVV := Lib.hid hv0; have HC := Lib.hid (And.intro c1.at4 (And.intro c2 (And.intro e1.at4 e2))); have HM := Lib.hid hm
     have HU := Lib.hid (And.intro (HLO.out.1 u1 hu1) (And.intro (HLO.out.2.1 u2 hu2) (And.intro (And.intro (hn1 (by omega)) (hn2 (by omega))) hmO)))
     clear hin h2 h3 c1 c2 e1 e2 hv0 hn1 hn2 hu1 hu2 hm hmO hdx hdy
     cases m with
     | none =>
      go_wp2_with (go_at_call 91; refine (area3O_c g1 g2 (S + 1 + 1) (S + 1 + 1 + 1) (B + 1 + 1 + 1 + 1 + 1 + 1) (S) (S + 1 + 1 + 1 + 1) 0 u1 u2 _ HC.out.1 HC.out.2.2.1 HIN.out.r HIN.out.i HIN.out.e (by omega) (by omega) (by omega) (by omega) (by omega) (by omega) (by omega) (by omega) HC.out.2.1 HC.out.2.2.2).mono ?_; rw [HM.out]; rintro e w2 hst; obtain ⟨rfl, fa1, fa2, fa3⟩ := InS.fail HDF.out HIN.out HVV.out (by have := HV.out.2; omega) (by omega) (by omega) (by omega) hst; have HZ := Lib.hid (And.intro fa1 (And.intro fa2 (And.intro (HV.out.1.ext fa3 (by simp)) fa3))); clear fa1 fa2 fa3 hst; have z0 : w2.cell? ⟨B + 1 + 1 + 1 + 1, 0, none⟩ = some (.bool false) := HZ.out.2.2.1 0 (by simp); have z1 : w2.cell? ⟨B + 1 + 1 + 1 + 1, 1, none⟩ = some (.slice none 0 0) := HZ.out.2.2.1 1 (by simp); have z2 : w2.cell? ⟨B + 1 + 1 + 1 + 1, 2, none⟩ = some (.bool false) := HZ.out.2.2.1 2 (by simp); have z3 : w2.cell? ⟨B + 1 + 1 + 1 + 1, 3, none⟩ = some (.slice none 0 0) := HZ.out.2.2.1 3 (by simp); have o0 := HZ.out.2.1.1 0 (by omega); have o1 := HZ.out.2.1.1 1 (by omega); have o2 := HZ.out.2.1.1 2 (by omega); have o3 := HZ.out.2.1.1 3 (by omega); have of := HZ.out.2.1.2.1; have ol := HZ.out.2.1.lt (by omega))
      (obtain ⟨p0, p1, p2, p3⟩ := putF_cells HZ.out.2.1 fvz; dsimp only [putF, fvz] at p0 p1 p2 p3; (try rw [Exit.noGoto_ret]); refine bodyPost_ret (v := .tuple #[fvz.v, .int .i64 4]) (by simp [results, Try.results63, go_sem, fvz, p0, p1, p2, p3]) rfl ?_; exact ⟨fvz, by rw [show A = none from by rw [← HA.out]; rw [HU.out.2.2.2]; rfl]; rfl, by rw [show A = none from by rw [← HA.out]; rw [HU.out.2.2.2]; rfl]; exact fvz_isF _, ext_putF HZ.out.1 (by omega) fvz⟩)
     | some u =>
      go_wp2_with (go_at_call 91; refine (area3O_c g1 g2 (S + 1 + 1) (S + 1 + 1 + 1) (B + 1 + 1 + 1 + 1 + 1 + 1) (S) (S + 1 + 1 + 1 + 1) 0 u1 u2 _ HC.out.1 HC.out.2.2.1 HIN.out.r HIN.out.i HIN.out.e (by omega) (by omega) (by omega) (by omega) (by omega) (by omega) (by omega) (by omega) HC.out.2.1 HC.out.2.2.2).mono ?_; rw [HM.out]; rintro e w2 hst; replace hst := hst.good rfl; have hex := ext_stepR hst HVV.out (by have := HV.out.2; omega); obtain ⟨rfl, he2, hr2, ho2, hh2, hkk⟩ := InS.step3 (o := 0) HDF.out HIN.out (by omega) hst; have HI2 := Lib.hid (And.intro he2 (And.intro ho2 (And.intro hr2 (And.intro hh2 hex)))); clear he2 hr2 ho2 hh2 hkk hst hex)
      go_roundw
      case rel => exact ⟨3, by omega, rfl, HI2.out.2.2.2.2, fun _ => HU.out.2.2.1.1, fun _ => HU.out.2.2.1.2, fun h => absurd h (by omega), fun _ => ⟨HI2.out.1, HI2.out.2.1, HI2.out.2.2.1, u, HU.out.2.2.2, mulE_low HU.out.1.2 HU.out.2.1.2 HU.out.1.1 HU.out.2.1.1 HM.out, (mulE_eq HU.out.1.2 HU.out.2.1.2 HM.out).1, HI2.out.2.2.2.1⟩⟩
      case measure => simp [intOf]
    ·have hfin := h3 rfl
     have HFI := Lib.hid (And.intro hfin (And.intro hv0 trivial))
     clear h2 h3 hfin hv0 hn1 hn2
     go_wp2_with fail
     go_roundw
     case rel => exact ⟨1, by omega, rfl, HFI.out.1.1, HFI.out.1.2.1, HFI.out.1.2.2.1, HFI.out.2.1, fun _ => HFI.out.1.2.2.2, fun h => absurd h (by omega)⟩
     case measure => simp [intOf]
  ·have hSB : B + 1 + 1 + 1 + 1 + 1 + 1 < wr.heap.size := hr.lt (by omega)
   have HS := Lib.hid (And.intro hx (And.intro ho (And.intro hr hv)))
   have HF1 := Lib.hid hf1
   clear hx ho hr hf1 hf2 hv
   obtain ⟨S, hS⟩ : ∃ S, wr.heap.size = S := ⟨_, rfl⟩
   go_upto_region 7 with (refine wpList_store_row rfl 107 _ _ rfl (S + 1) q1 rfl rfl 107 _ (Blk.at _ _ (by simp [hS])) (by rw [SQ.out.2]; kernel_rfl) (by rw [SQ.out.2]; rfl) AQ.out.2 ?_)
   go_upto_region 9 with (fail)
   go_upto_region 10 with (refine wpList_store_row rfl 126 _ _ rfl (S + 1 + 1 + 1 + 1 + 1) _ rfl rfl 126 _ (Blk.at _ _ (by simp [hS])) (by kernel_rfl) rfl (all_one _ rfl) ?_)
   obtain ⟨fs, hfs⟩ : ∃ fs : Array Value, #[.func (.func 89) #[] #[.pointer (some ⟨S + 1, 0, none⟩), .pointer (some ⟨S + 1 + 1, 0, none⟩), .pointer (some ⟨S + 1 + 1 + 1 + 1, 0, none⟩)], .func (.func 90) #[] #[.pointer (some ⟨S + 1, 0, none⟩), .pointer (some ⟨S + 1 + 1 + 1, 0, none⟩), .pointer (some ⟨S + 1 + 1 + 1 + 1, 0, none⟩)], .func (.func 91) #[] #[.pointer (some ⟨S + 1 + 1, 0, none⟩), .pointer (some ⟨S + 1 + 1 + 1, 0, none⟩), .pointer (some ⟨B + 1 + 1 + 1 + 1 + 1 + 1, 0, none⟩), .pointer (some ⟨S, 0, none⟩), .pointer (some ⟨S + 1 + 1 + 1 + 1, 0, none⟩)]] = fs := ⟨_, rfl⟩
   have fx0 : ∀ W, (Instr.index 126 (.agg fs) (.int .i64 0)).run Try.prog W = .ok (.func (.func 89) #[] #[.pointer (some ⟨S + 1, 0, none⟩), .pointer (some ⟨S + 1 + 1, 0, none⟩), .pointer (some ⟨S + 1 + 1 + 1 + 1, 0, none⟩)]) W := fun W => run_index_one Try.underlying126 Try.underlying125 rfl (by kernel_rfl) (by omega) (by omega) (by rw [← hfs]; rfl) W
   have fx1 : ∀ W, (Instr.index 126 (.agg fs) (.int .i64 1)).run Try.prog W = .ok (.func (.func 90) #[] #[.pointer (some ⟨S + 1, 0, none⟩), .pointer (some ⟨S + 1 + 1 + 1, 0, none⟩), .pointer (some ⟨S + 1 + 1 + 1 + 1, 0, none⟩)]) W := fun W => run_index_one Try.underlying126 Try.underlying125 rfl (by kernel_rfl) (by omega) (by omega) (by rw [← hfs]; rfl) W
   have fx2 : ∀ W, (Instr.index 126 (.agg fs) (.int .i64 2)).run Try.prog W = .ok (.func (.func 91) #[] #[.pointer (some ⟨S + 1 + 1, 0, none⟩), .pointer (some ⟨S + 1 + 1 + 1, 0, none⟩), .pointer (some ⟨B + 1 + 1 + 1 + 1 + 1 + 1, 0, none⟩), .pointer (some ⟨S, 0, none⟩), .pointer (some ⟨S + 1 + 1 + 1 + 1, 0, none⟩)]) W := fun W => run_index_one Try.underlying126 Try.underlying125 rfl (by kernel_rfl) (by omega) (by omega) (by rw [← hfs]; rfl) W
   have hfz : fs.size = 3 := by rw [← hfs]; rfl
   have HFZ := Lib.hid hfz
   rw [hfs]
   clear hfs hfz
   refine wp_gen (fun W => InS w W (S + 1) (S + 1 + 1) (S + 1 + 1 + 1) (S) (S + 1 + 1 + 1 + 1) (B + 1 + 1 + 1 + 1 + 1 + 1) (B + 1 + 1 + 1) q1 1 (valO d3).1 (valO d3).2 (valO d4).1 (valO d4).2 (32 * WMost) 0 ∧ Blk W (S + 1 + 1 + 1 + 1 + 1) fs 126 ∧ Ext wr W) (inS_start hB hS HS.out.1 HS.out.2.1 HS.out.2.2.1 (by rw [SQ.out.2]; omega)) ?_
   rintro V ⟨hI, hFB, hE⟩
   have HI := Lib.hid (And.intro hI (HS.out.2.2.2.trans hE)); have HFB := Lib.hid hFB
   have hDf : Diff w.heap.size (S + 1) (S + 1 + 1) (S + 1 + 1 + 1) (S) (S + 1 + 1 + 1 + 1) (B + 1 + 1 + 1 + 1 + 1 + 1) (B + 1 + 1 + 1) := ⟨by omega, by omega⟩
   have HDF := Lib.hid hDf
   have hVS : V0.heap.size ≤ S := by have := HV.out.2; omega
   have HK := Lib.hid (show ∃ m, mulO d1 d2 = some m ∧ Nat.gcd m.1.natAbs m.2.natAbs = 1 ∧ 1 ≤ m.2 ∧ HasF V (B + 1 + 1 + 1 + 1 + 1 + 1) 0 m.1 m.2 (32 * WMost) from by obtain ⟨m, k1, k2, k3, k4⟩ := HF1.out (by omega); exact ⟨m, k1, k2, k3, k4.ext hE⟩)
   clear hI hFB hE hDf
   go_upto_region 11 with (refine wpList_load_row rfl 126 _ rfl (S + 1 + 1 + 1 + 1 + 1) rfl 126 _ _ _ HFB.out Try.underlying126 rfl (by rw [HFZ.out]; kernel_rfl) ?_)
   go_loopw [51] (fun kv ws => ∃ n : Nat, n ≤ 3 ∧ kv = .int .i64 (n : Int) ∧ Ext V0 ws ∧ (∃ m, mulO d1 d2 = some m ∧ Nat.gcd m.1.natAbs m.2.natAbs = 1 ∧ 1 ≤ m.2 ∧ HasF ws (B + 1 + 1 + 1 + 1 + 1 + 1) 0 m.1 m.2 (32 * WMost)) ∧ (1 ≤ n → d3 ≠ none) ∧ (2 ≤ n → d4 ≠ none) ∧ (n ≤ 2 → InS w ws (S + 1) (S + 1 + 1) (S + 1 + 1 + 1) (S) (S + 1 + 1 + 1 + 1) (B + 1 + 1 + 1 + 1 + 1 + 1) (B + 1 + 1 + 1) q1 1 (valO d3).1 (valO d3).2 (valO d4).1 (valO d4).2 (32 * WMost) n) ∧ (n = 3 → Ext w ws ∧ Own ws (B + 1 + 1 + 1) 4 ∧ Own ws (B + 1 + 1 + 1 + 1 + 1 + 1) 8 ∧ ∃ m, mulO d3 d4 = some m ∧ Nat.gcd m.1.natAbs m.2.natAbs = 1 ∧ 1 ≤ m.2 ∧ HasF ws (B + 1 + 1 + 1 + 1 + 1 + 1) 4 m.1 m.2 (32 * WMost))) (fun kv _ => 3 - (intOf kv).toNat)
   case atStart => exact ⟨0, by omega, rfl, HI.out.2, HK.out, fun h => absurd h (by omega), fun h => absurd h (by omega), fun _ => HI.out.1, fun h => absurd h (by omega)⟩
   case round =>
    obtain ⟨n, hn, rfl, hv0, hkp, hn1, hn2, h2, h3⟩ := hrel
    rcases (show n = 0 ∨ n = 1 ∨ n = 2 ∨ n = 3 by omega) with rfl | rfl | rfl | rfl
    ·have hin := h2 (by omega)
     have hpr := hin.pairs
     rw [← LQ.out.2] at hpr
     have HIN := Lib.hid hin; have HPR := Lib.hid hpr; have HVV := Lib.hid hv0; have HKP := Lib.hid hkp; clear hkp
     clear hin hpr h2 h3 hv0 hn1 hn2
     obtain ⟨dz, hdz⟩ : ∃ z, d3 = z := ⟨_, rfl⟩
     cases dz with
     | none =>
      rw [hdz] at HD
      go_wp2_with (go_at_call 89; refine (area1O_c b.y a.y c.x a.x (S + 1) (S + 1 + 1) (S + 1 + 1 + 1 + 1) vb.2 va.2 _ HPR.out HIN.out.x HIN.out.e (by omega) (HP.out.2.1.2.keep HIN.out.ext.ik) (HP.out.1.2.keep HIN.out.ext.ik)).mono ?_; rw [HD.out.2.2.1]; rintro e w2 hst; obtain ⟨rfl, fa1, fa2, fa3⟩ := InS.fail HDF.out HIN.out HVV.out (by omega) (by omega) (by omega) (by omega) hst; have HZ := Lib.hid (And.intro fa1 (And.intro fa2 (And.intro (HV.out.1.ext fa3 (by simp)) fa3))); clear fa1 fa2 fa3 hst; have z0 : w2.cell? ⟨B + 1 + 1 + 1 + 1, 0, none⟩ = some (.bool false) := HZ.out.2.2.1 0 (by simp); have z1 : w2.cell? ⟨B + 1 + 1 + 1 + 1, 1, none⟩ = some (.slice none 0 0) := HZ.out.2.2.1 1 (by simp); have z2 : w2.cell? ⟨B + 1 + 1 + 1 + 1, 2, none⟩ = some (.bool false) := HZ.out.2.2.1 2 (by simp); have z3 : w2.cell? ⟨B + 1 + 1 + 1 + 1, 3, none⟩ = some (.slice none 0 0) := HZ.out.2.2.1 3 (by simp); have o0 := HZ.out.2.1.1 0 (by omega); have o1 := HZ.out.2.1.1 1 (by omega); have o2 := HZ.out.2.1.1 2 (by omega); have o3 := HZ.out.2.1.1 3 (by omega); have of := HZ.out.2.1.2.1; have ol := HZ.out.2.1.lt (by omega))
      (obtain ⟨p0, p1, p2, p3⟩ := putF_cells HZ.out.2.1 fvz; dsimp only [putF, fvz] at p0 p1 p2 p3; (try rw [Exit.noGoto_ret]); refine bodyPost_ret (v := .tuple #[fvz.v, .int .i64 4]) (by simp [results, Try.results63, go_sem, fvz, p0, p1, p2, p3]) rfl ?_; exact ⟨fvz, by rw [show A = none from by rw [← HA.out]; rw [hdz]; cases (mulO d1 d2) <;> rfl]; rfl, by rw [show A = none from by rw [← HA.out]; rw [hdz]; cases (mulO d1 d2) <;> rfl]; exact fvz_isF _, ext_putF HZ.out.1 (by omega) fvz⟩)
     | some u =>
      have hu : valO d3 = u := by rw [hdz]; rfl
      have HU := Lib.hid (And.intro hdz hu)
      clear hdz hu
      go_wp2_with (go_at_call 89; refine (area1O_c b.y a.y c.x a.x (S + 1) (S + 1 + 1) (S + 1 + 1 + 1 + 1) vb.2 va.2 _ HPR.out HIN.out.x HIN.out.e (by omega) (HP.out.2.1.2.keep HIN.out.ext.ik) (HP.out.1.2.keep HIN.out.ext.ik)).mono ?_; rw [HD.out.2.2.1]; rintro e w2 hst; replace hst := hst.good HU.out.1; have hex := ext_stepR hst HVV.out (by omega); rw [← HU.out.2] at hst; obtain ⟨rfl, hi2, hkk⟩ := InS.step1 HDF.out HIN.out (by rw [SQ.out.2]; omega) hst; have HK2 := Lib.hid (show ∃ m, mulO d1 d2 = some m ∧ Nat.gcd m.1.natAbs m.2.natAbs = 1 ∧ 1 ≤ m.2 ∧ HasF w2 (B + 1 + 1 + 1 + 1 + 1 + 1) 0 m.1 m.2 (32 * WMost) from by obtain ⟨m, k1, k2, k3, k4⟩ := HKP.out; exact ⟨m, k1, k2, k3, hkk _ _ _ _ k4⟩); have HI2 := Lib.hid (And.intro hi2 hex); clear hi2 hkk hst hex)
      go_roundw
      case rel => exact ⟨1, by omega, rfl, HI2.out.2, HK2.out, fun _ => by rw [HU.out.1]; simp, fun h => absurd h (by omega), fun _ => HI2.out.1, fun h => absurd h (by omega)⟩
      case measure => simp [intOf]
    ·have hin := h2 (by omega)
     have hpr := hin.pairs
     rw [← LQ.out.2] at hpr
     have HIN := Lib.hid hin; have HPR := Lib.hid hpr; have HVV := Lib.hid hv0; have HKP := Lib.hid hkp; clear hkp; have HN1 := Lib.hid (hn1 (by omega))
     clear hin hpr h2 h3 hv0 hn1 hn2
     obtain ⟨dz, hdz⟩ : ∃ z, d4 = z := ⟨_, rfl⟩
     cases dz with
     | none =>
      rw [hdz] at HD
      go_wp2_with (go_at_call 90; refine (area2O_c b.y a.y c.x a.x (S + 1) (S + 1 + 1 + 1) (S + 1 + 1 + 1 + 1) vc.1 va.1 _ HPR.out HIN.out.y HIN.out.e (by omega) (HP.out.2.2.1.keep HIN.out.ext.ik) (HP.out.1.1.keep HIN.out.ext.ik)).mono ?_; rw [HD.out.2.2.2]; rintro e w2 hst; obtain ⟨rfl, fa1, fa2, fa3⟩ := InS.fail HDF.out HIN.out HVV.out (by omega) (by omega) (by omega) (by omega) hst; have HZ := Lib.hid (And.intro fa1 (And.intro fa2 (And.intro (HV.out.1.ext fa3 (by simp)) fa3))); clear fa1 fa2 fa3 hst; have z0 : w2.cell? ⟨B + 1 + 1 + 1 + 1, 0, none⟩ = some (.bool false) := HZ.out.2.2.1 0 (by simp); have z1 : w2.cell? ⟨B + 1 + 1 + 1 + 1, 1, none⟩ = some (.slice none 0 0) := HZ.out.2.2.1 1 (by simp); have z2 : w2.cell? ⟨B + 1 + 1 + 1 + 1, 2, none⟩ = some (.bool false) := HZ.out.2.2.1 2 (by simp); have z3 : w2.cell? ⟨B + 1 + 1 + 1 + 1, 3, none⟩ = some (.slice none 0 0) := HZ.out.2.2.1 3 (by simp); have o0 := HZ.out.2.1.1 0 (by omega); have o1 := HZ.out.2.1.1 1 (by omega); have o2 := HZ.out.2.1.1 2 (by omega); have o3 := HZ.out.2.1.1 3 (by omega); have of := HZ.out.2.1.2.1; have ol := HZ.out.2.1.lt (by omega))
      (obtain ⟨p0, p1, p2, p3⟩ := putF_cells HZ.out.2.1 fvz; dsimp only [putF, fvz] at p0 p1 p2 p3; (try rw [Exit.noGoto_ret]); refine bodyPost_ret (v := .tuple #[fvz.v, .int .i64 4]) (by simp [results, Try.results63, go_sem, fvz, p0, p1, p2, p3]) rfl ?_; exact ⟨fvz, by rw [show A = none from by rw [← HA.out]; rw [hdz]; cases (mulO d1 d2) <;> cases d3 <;> rfl]; rfl, by rw [show A = none from by rw [← HA.out]; rw [hdz]; cases (mulO d1 d2) <;> cases d3 <;> rfl]; exact fvz_isF _, ext_putF HZ.out.1 (by omega) fvz⟩)
     | some u =>
      have hu : valO d4 = u := by rw [hdz]; rfl
      have HU := Lib.hid (And.intro hdz hu)
      clear hdz hu
      go_wp2_with (go_at_call 90; refine (area2O_c b.y a.y c.x a.x (S + 1) (S + 1 + 1 + 1) (S + 1 + 1 + 1 + 1) vc.1 va.1 _ HPR.out HIN.out.y HIN.out.e (by omega) (HP.out.2.2.1.keep HIN.out.ext.ik) (HP.out.1.1.keep HIN.out.ext.ik)).mono ?_; rw [HD.out.2.2.2]; rintro e w2 hst; replace hst := hst.good HU.out.1; have hex := ext_stepR hst HVV.out (by omega); rw [← HU.out.2] at hst; obtain ⟨rfl, hi2, hkk⟩ := InS.step2 HDF.out HIN.out (by rw [SQ.out.2]; omega) hst; have HK2 := Lib.hid (show ∃ m, mulO d1 d2 = some m ∧ Nat.gcd m.1.natAbs m.2.natAbs = 1 ∧ 1 ≤ m.2 ∧ HasF w2 (B + 1 + 1 + 1 + 1 + 1 + 1) 0 m.1 m.2 (32 * WMost) from by obtain ⟨m, k1, k2, k3, k4⟩ := HKP.out; exact ⟨m, k1, k2, k3, hkk _ _ _ _ k4⟩); have HI2 := Lib.hid (And.intro hi2 hex); clear hi2 hkk hst hex)
      go_roundw
      case rel => exact ⟨2, by omega, rfl, HI2.out.2, HK2.out, fun _ => HN1.out, fun h => by rw [HU.out.1]; simp, fun _ => HI2.out.1, fun h => absurd h (by omega)⟩
      case measure => simp [intOf]
    ·have hin := h2 (by omega)
     obtain ⟨u1, hu1⟩ : ∃ u, d3 = some u := by cases h : d3 with | none => exact absurd h (hn1 (by omega)) | some u => exact ⟨u, rfl⟩
     obtain ⟨u2, hu2⟩ : ∃ u, d4 = some u := by cases h : d4 with | none => exact absurd h (hn2 (by omega)) | some u => exact ⟨u, rfl⟩
     have hdx := hin.dx (by omega)
     have hdy := hin.dy (by omega)
     rw [show valO d3 = u1 from by rw [hu1]; rfl] at hdx
     rw [show valO d4 = u2 from by rw [hu2]; rfl] at hdy
     obtain ⟨g1, c1, c2⟩ := hdx.get (HLO.out.2.2.1 u1 hu1).1
     obtain ⟨g2, e1, e2⟩ := hdy.get (HLO.out.2.2.2 u2 hu2).1
     obtain ⟨m, hm⟩ : ∃ m, mulE u1 u2 = m := ⟨_, rfl⟩
     have hmO : mulO d3 d4 = m := by rw [hu1, hu2]; exact hm
     have HIN := Lib.hid hin; have HVV := Lib.hid hv0; have HKP := Lib.hid hkp; clear hkp; have HC := Lib.hid (And.intro c1.at4 (And.intro c2 (And.intro e1.at4 e2))); have HM := Lib.hid hm
     have HU := Lib.hid (And.intro (HLO.out.2.2.1 u1 hu1) (And.intro (HLO.out.2.2.2 u2 hu2) (And.intro (And.intro (hn1 (by omega)) (hn2 (by omega))) hmO)))
     clear hin h2 h3 c1 c2 e1 e2 hv0 hn1 hn2 hu1 hu2 hm hmO hdx hdy
     cases m with
     | none =>
      go_wp2_with (go_at_call 91; refine (area3O_c g1 g2 (S + 1 + 1) (S + 1 + 1 + 1) (B + 1 + 1 + 1 + 1 + 1 + 1) (S) (S + 1 + 1 + 1 + 1) 1 u1 u2 _ HC.out.1 HC.out.2.2.1 HIN.out.r HIN.out.i HIN.out.e (by omega) (by omega) (by omega) (by omega) (by omega) (by omega) (by omega) (by omega) HC.out.2.1 HC.out.2.2.2).mono ?_; rw [HM.out]; rintro e w2 hst; obtain ⟨rfl, fa1, fa2, fa3⟩ := InS.fail HDF.out HIN.out HVV.out (by have := HV.out.2; omega) (by omega) (by omega) (by omega) hst; have HZ := Lib.hid (And.intro fa1 (And.intro fa2 (And.intro (HV.out.1.ext fa3 (by simp)) fa3))); clear fa1 fa2 fa3 hst; have z0 : w2.cell? ⟨B + 1 + 1 + 1 + 1, 0, none⟩ = some (.bool false) := HZ.out.2.2.1 0 (by simp); have z1 : w2.cell? ⟨B + 1 + 1 + 1 + 1, 1, none⟩ = some (.slice none 0 0) := HZ.out.2.2.1 1 (by simp); have z2 : w2.cell? ⟨B + 1 + 1 + 1 + 1, 2, none⟩ = some (.bool false) := HZ.out.2.2.1 2 (by simp); have z3 : w2.cell? ⟨B + 1 + 1 + 1 + 1, 3, none⟩ = some (.slice none 0 0) := HZ.out.2.2.1 3 (by simp); have o0 := HZ.out.2.1.1 0 (by omega); have o1 := HZ.out.2.1.1 1 (by omega); have o2 := HZ.out.2.1.1 2 (by omega); have o3 := HZ.out.2.1.1 3 (by omega); have of := HZ.out.2.1.2.1; have ol := HZ.out.2.1.lt (by omega))
      (obtain ⟨p0, p1, p2, p3⟩ := putF_cells HZ.out.2.1 fvz; dsimp only [putF, fvz] at p0 p1 p2 p3; (try rw [Exit.noGoto_ret]); refine bodyPost_ret (v := .tuple #[fvz.v, .int .i64 4]) (by simp [results, Try.results63, go_sem, fvz, p0, p1, p2, p3]) rfl ?_; exact ⟨fvz, by rw [show A = none from by rw [← HA.out]; rw [HU.out.2.2.2]; cases (mulO d1 d2) <;> rfl]; rfl, by rw [show A = none from by rw [← HA.out]; rw [HU.out.2.2.2]; cases (mulO d1 d2) <;> rfl]; exact fvz_isF _, ext_putF HZ.out.1 (by omega) fvz⟩)
     | some u =>
      go_wp2_with (go_at_call 91; refine (area3O_c g1 g2 (S + 1 + 1) (S + 1 + 1 + 1) (B + 1 + 1 + 1 + 1 + 1 + 1) (S) (S + 1 + 1 + 1 + 1) 1 u1 u2 _ HC.out.1 HC.out.2.2.1 HIN.out.r HIN.out.i HIN.out.e (by omega) (by omega) (by omega) (by omega) (by omega) (by omega) (by omega) (by omega) HC.out.2.1 HC.out.2.2.2).mono ?_; rw [HM.out]; rintro e w2 hst; replace hst := hst.good rfl; have hex := ext_stepR hst HVV.out (by have := HV.out.2; omega); obtain ⟨rfl, he2, hr2, ho2, hh2, hkk⟩ := InS.step3 (o := 4) HDF.out HIN.out (by omega) hst; have HK2 := Lib.hid (show ∃ m, mulO d1 d2 = some m ∧ Nat.gcd m.1.natAbs m.2.natAbs = 1 ∧ 1 ≤ m.2 ∧ HasF w2 (B + 1 + 1 + 1 + 1 + 1 + 1) 0 m.1 m.2 (32 * WMost) from by obtain ⟨m, k1, k2, k3, k4⟩ := HKP.out; exact ⟨m, k1, k2, k3, hkk _ _ _ 0 (by omega) k4⟩); have HI2 := Lib.hid (And.intro he2 (And.intro ho2 (And.intro hr2 (And.intro hh2 hex)))); clear he2 hr2 ho2 hh2 hkk hst hex)
      go_roundw
      case rel => exact ⟨3, by omega, rfl, HI2.out.2.2.2.2, HK2.out, fun _ => HU.out.2.2.1.1, fun _ => HU.out.2.2.1.2, fun h => absurd h (by omega), fun _ => ⟨HI2.out.1, HI2.out.2.1, HI2.out.2.2.1, u, HU.out.2.2.2, mulE_low HU.out.1.2 HU.out.2.1.2 HU.out.1.1 HU.out.2.1.1 HM.out, (mulE_eq HU.out.1.2 HU.out.2.1.2 HM.out).1, HI2.out.2.2.2.1⟩⟩
      case measure => simp [intOf]
    ·have hfin := h3 rfl
     have HFI := Lib.hid (And.intro hfin (And.intro hv0 hkp))
     clear h2 h3 hfin hv0 hn1 hn2
     go_wp2_with fail
     go_roundw
     case rel => exact ⟨2, by omega, rfl, HFI.out.1.1, HFI.out.1.2.1, HFI.out.1.2.2.1, HFI.out.2.1, fun _ => HFI.out.2.2, fun _ => HFI.out.1.2.2.2⟩
     case measure => simp [intOf]
  ·obtain ⟨m1, k1, k2, k3, k4⟩ := hf1 (by omega)
   obtain ⟨m2, l1, l2, l3, l4⟩ := hf2 (by omega)
   obtain ⟨g1, c1, c2⟩ := k4.get k2
   obtain ⟨g2, e1, e2⟩ := l4.get l2
   obtain ⟨p0, p1, p2, p3⟩ := c1
   obtain ⟨p4, p5, p6, p7⟩ := e1
   simp only [Nat.zero_add, Nat.reduceAdd] at p0 p1 p2 p3 p4 p5 p6 p7
   have hl := hr.lt (by omega)
   have hAA : subE m1 m2 = A := by rw [← HA.out, k1, l1]; rfl
   have HC := Lib.hid (And.intro c2 (And.intro e2 hAA))
   have HS := Lib.hid (And.intro hx (And.intro ho hv))
   clear hf1 hf2 hr hx ho hv c2 e2 k1 k2 k3 k4 l1 l2 l3 l4 hAA
   cases A with
   | none =>
    go_wp2_with (go_at_call 72; refine (fSubO_c g1 g2 m1 m2 _ HC.out.1 HC.out.2.1).mono ?_; rw [HC.out.2.2]; rintro e w2 ⟨f, rfl, hf, hx2⟩; dsimp only [errO]; have HZ := Lib.hid (And.intro (HS.out.1.trans hx2) (And.intro (HS.out.2.1.ext hx2 (by omega)) (And.intro (HV.out.1.ext (HS.out.2.2.trans hx2) (by simp)) trivial))); clear hf; (have z0 : w2.cell? ⟨B + 1 + 1 + 1 + 1, 0, none⟩ = some (.bool false) := HZ.out.2.2.1 0 (by simp); have z1 : w2.cell? ⟨B + 1 + 1 + 1 + 1, 1, none⟩ = some (.slice none 0 0) := HZ.out.2.2.1 1 (by simp); have z2 : w2.cell? ⟨B + 1 + 1 + 1 + 1, 2, none⟩ = some (.bool false) := HZ.out.2.2.1 2 (by simp); have z3 : w2.cell? ⟨B + 1 + 1 + 1 + 1, 3, none⟩ = some (.slice none 0 0) := HZ.out.2.2.1 3 (by simp); have o0 := HZ.out.2.1.1 0 (by omega); have o1 := HZ.out.2.1.1 1 (by omega); have o2 := HZ.out.2.1.1 2 (by omega); have o3 := HZ.out.2.1.1 3 (by omega); have of := HZ.out.2.1.2.1; have ol := HZ.out.2.1.lt (by omega); have ol2 := lt_of_cell z0))
    obtain ⟨y0, y1, y2, y3⟩ := putF_cells HZ.out.2.1 fvz
    dsimp only [putF, fvz] at y0 y1 y2 y3
    have r0 := cell_alloc (o := .cells #[.bool f.n.neg, .slice f.n.a f.n.n f.n.c, .bool f.d.neg, .slice f.d.a f.d.n f.d.c] 49) y0
    have r1 := cell_alloc (o := .cells #[.bool f.n.neg, .slice f.n.a f.n.n f.n.c, .bool f.d.neg, .slice f.d.a f.d.n f.d.c] 49) y1
    have r2 := cell_alloc (o := .cells #[.bool f.n.neg, .slice f.n.a f.n.n f.n.c, .bool f.d.neg, .slice f.d.a f.d.n f.d.c] 49) y2
    have r3 := cell_alloc (o := .cells #[.bool f.n.neg, .slice f.n.a f.n.n f.n.c, .bool f.d.neg, .slice f.d.a f.d.n f.d.c] 49) y3
    refine bodyPost_ret (v := .tuple #[fvz.v, .int .i64 4]) (by simp [results, Try.results63, go_sem, fvz, r0, r1, r2, r3]) rfl ?_
    exact ⟨fvz, rfl, fvz_isF _, (ext_putF HZ.out.1 (by omega) fvz).alloc _⟩
   | some u =>
    go_wp2_with (go_at_call 72; refine (fSubO_c g1 g2 m1 m2 _ HC.out.1 HC.out.2.1).mono ?_; rw [HC.out.2.2]; rintro e w2 ⟨f, rfl, hf, hx2⟩; dsimp only [errO]; have O2 := HS.out.2.1.ext hx2 (by omega); have o0 := O2.1 0 (by omega); have o1 := O2.1 1 (by omega); have o2 := O2.1 2 (by omega); have o3 := O2.1 3 (by omega); have of := O2.2.1; have hl2 := O2.lt (by omega); have HO := Lib.hid (And.intro O2 (And.intro hf hx2)); clear O2 hf hx2)
    obtain ⟨z0, z1, z2, z3⟩ := putF_cells HO.out.1 f
    have r0 := cell_alloc (o := .cells #[.bool f.n.neg, .slice f.n.a f.n.n f.n.c, .bool f.d.neg, .slice f.d.a f.d.n f.d.c] 49) z0
    have r1 := cell_alloc (o := .cells #[.bool f.n.neg, .slice f.n.a f.n.n f.n.c, .bool f.d.neg, .slice f.d.a f.d.n f.d.c] 49) z1
    have r2 := cell_alloc (o := .cells #[.bool f.n.neg, .slice f.n.a f.n.n f.n.c, .bool f.d.neg, .slice f.d.a f.d.n f.d.c] 49) z2
    have r3 := cell_alloc (o := .cells #[.bool f.n.neg, .slice f.n.a f.n.n f.n.c, .bool f.d.neg, .slice f.d.a f.d.n f.d.c] 49) z3
    refine bodyPost_ret (v := .tuple #[f.v, .int .i64 0]) (by simp [results, Try.results63, go_sem, r0, r1, r2, r3]) rfl ?_
    exact ⟨f, rfl, (HO.out.2.1.keep (IK.putF HO.out.1 f)).keep ((Ext.refl _).alloc _).ik, (ext_putF (HS.out.1.trans HO.out.2.2) (by omega) f).alloc _⟩
end Go.Proofs.Ytgmedfloflplgaa
