/- exact: the three steps of area, and what they leave. -/
import Derived.Test.YtgmedfloflplgaaAFN
import Derived.Test.YtgmedfloflplgaaWS
/- exact: the three steps of area, where nothing is too great. -/
namespace Go.Proofs.Ytgmedfloflplgaa
set_option linter.unusedSimpArgs false
set_option linter.unusedVariables false
open Go.RowKit

/-- To store what a cell holds turns nothing. -/
theorem setCell_id {w : World} {b o : Nat} {v : Value} (h : w.cell? ⟨b, o, none⟩ = some v) : w.setCell ⟨b, o, none⟩ v = w := by
 have hh : (w.setCell ⟨b, o, none⟩ v).heap = w.heap := by
  unfold World.setCell
  apply Array.ext_getElem?
  intro i
  simp only [Array.getElem?_modify]
  by_cases hi : b = i
  ·subst hi
   unfold World.cell? at h
   cases hb : w.heap[b]? with
   | none => simp [hb] at h
   | some ob =>
    cases ob <;> simp [hb] at h ⊢
    apply Array.ext_getElem?
    intro k
    rw [Array.getElem?_setIfInBounds]
    by_cases hk : o = k
    ·subst hk
     obtain ⟨h1, h2⟩ := Array.getElem?_eq_some_iff.1 h
     simp [h1, h2]
    ·simp [hk]
  ·simp [hi]
 have e : w.setCell ⟨b, o, none⟩ v = { w with heap := (w.setCell ⟨b, o, none⟩ v).heap } := rfl
 rw [e, hh]
theorem frozen_ext {w w' : World} (h : Ext w w') {b o : Nat} (hb : b < w.heap.size) (hf : w.frozen? ⟨b, o, none⟩ = false) : w'.frozen? ⟨b, o, none⟩ = false := by rw [h.see.2.1 b o hb]; exact hf
abbrev putO (w : World) (b o : Nat) (f : FV) : World := (((w.setCell ⟨b, o, none⟩ (.bool f.n.neg)).setCell ⟨b, o + 1, none⟩ (.slice f.n.a f.n.n f.n.c)).setCell ⟨b, o + 2, none⟩ (.bool f.d.neg)).setCell ⟨b, o + 3, none⟩ (.slice f.d.a f.d.n f.d.c)
/-- What a step leaves: a fraction in its block. -/
def StepR (xb o : Nat) (x y : Int) (k : Nat) (w : World) (e : Ending) (w' : World) : Prop := ∃ (f : FV) (N D : Int) (w1 : World), e = .returned (.int .i64 0) ∧ w' = putO w1 xb o f ∧ Ext w w1 ∧ IsF w1 f N D ∧ EqQ N D x y ∧ N.natAbs < 2 ^ k ∧ D.natAbs < 2 ^ k
/-- A cell that holds v and may be written. -/
abbrev Var (w : World) (b : Nat) (v : Value) : Prop := w.cell? ⟨b, 0, none⟩ = some v ∧ ∀ o, w.frozen? ⟨b, o, none⟩ = false
theorem Var.ext {w w' : World} (h : Ext w w') {b : Nat} {v : Value} (hv : Var w b v) : Var w' b v := ⟨h.cell hv.1, fun o => frozen_ext h (lt_of_cell hv.1) (hv.2 o)⟩
theorem own3_ne {w : World} {b b' o' : Nat} {u : Value} (h : ∀ o k m, w.cell? ⟨b, o, none⟩ ≠ some (.int k m)) (hne : b ≠ b') (o : Nat) (k : IntKind) (m : Int) : (w.setCell ⟨b', o', none⟩ u).cell? ⟨b, o, none⟩ ≠ some (.int k m) := by
 rw [World.cell?_setCell_other _ _ _ _ (by intro e; injection e with e1; exact hne e1.symm)]; exact h o k m
theorem kept2 {P : Prop} (h : P := by (go_split_ands; repeat' (first | with_reducible assumption | with_reducible apply And.intro | with_reducible exact Ext.refl _ | with_reducible refine Ext.setCell ?_ (by simp; omega) _ | with_reducible refine Ext.setCell ?_ (by simp) _ | with_reducible refine At.set ?_ (by omega) | with_reducible refine own1_set ?_ | with_reducible refine own2_set ?_ | with_reducible refine own3_ne ?_ (by omega) | with_reducible refine own3_set ?_ (by simp) | with_reducible refine Ext.drew ?_ | with_reducible refine At.drew ?_ | with_reducible refine own1_drew ?_ | with_reducible refine Ext.alloc ?_ _ | with_reducible refine At.alloc ?_ (by simp) | with_reducible refine own1_alloc ?_ | with_reducible refine cell_alloc ?_ | with_reducible refine cell_drew ?_ | with_reducible refine own2_drew ?_ | with_reducible refine own3_drew ?_ | with_reducible refine own2_alloc (by first | omega | (simp; omega)) ?_ | with_reducible refine own3_alloc (by first | omega | (simp; omega)) ?_ | with_reducible refine cell_set ?_ (by omega) | with_reducible exact Ext.trans' (by assumption) (by assumption) | with_reducible exact At.ext (by assumption) (by assumption) (by simp) | with_reducible exact Ext.cell (by assumption) (by assumption) | with_reducible exact World.cell?_setCell_same _ _ _ (by assumption) | with_reducible exact (Var.ext (by assumption) ⟨by assumption, by assumption⟩).2 | exact (Own.ext (by assumption) ⟨by assumption, by assumption, by assumption⟩ (by simp)).1 | exact (Own.ext (by assumption) ⟨by assumption, by assumption, by assumption⟩ (by simp)).2.1 | exact (Own.ext (by assumption) ⟨by assumption, by assumption, by assumption⟩ (by simp)).2.2))) : P := h
end Go.Proofs.Ytgmedfloflplgaa
/- exact: fractions that lie in blocks of the call's own, and what the steps of area leave. -/
namespace Go.Proofs.Ytgmedfloflplgaa
set_option linter.unusedSimpArgs false
set_option linter.unusedVariables false
open Go.RowKit

/-- Four cells of a block hold a fraction. -/
def Four (w : World) (b o : Nat) (f : FV) : Prop := w.cell? ⟨b, o, none⟩ = some (.bool f.n.neg) ∧ w.cell? ⟨b, o + 1, none⟩ = some (.slice f.n.a f.n.n f.n.c) ∧ w.cell? ⟨b, o + 2, none⟩ = some (.bool f.d.neg) ∧ w.cell? ⟨b, o + 3, none⟩ = some (.slice f.d.a f.d.n f.d.c)
theorem Four.ext {w w' : World} {b o : Nat} {f : FV} (k : Ext w w') (h : Four w b o f) : Four w' b o f := ⟨k.cell h.1, k.cell h.2.1, k.cell h.2.2.1, k.cell h.2.2.2⟩
theorem Four.at4 {w : World} {b : Nat} {f : FV} (h : Four w b 0 f) : At w b #[.bool f.n.neg, .slice f.n.a f.n.n f.n.c, .bool f.d.neg, .slice f.d.a f.d.n f.d.c] := fun o ho => by
 match o, ho with
 | 0, _ => exact h.1
 | 1, _ => exact h.2.1
 | 2, _ => exact h.2.2.1
 | 3, _ => exact h.2.2.2
 | o + 4, ho => simp at ho; omega
theorem cell_ne {w : World} {b o b' o' : Nat} {u v : Value} (h : w.cell? ⟨b, o, none⟩ = some v) (hne : b ≠ b' ∨ o ≠ o') : (w.setCell ⟨b', o', none⟩ u).cell? ⟨b, o, none⟩ = some v := by
 rw [World.cell?_setCell_other _ _ _ _ (by intro e; injection e with e1 e2; rcases hne with h | h; exact h e1.symm; exact h e2.symm)]; exact h
theorem cell_putO {w : World} {b o b' o' : Nat} {f : FV} {v : Value} (h : w.cell? ⟨b, o, none⟩ = some v) (hne : b ≠ b' ∨ o < o' ∨ o' + 3 < o) : (putO w b' o' f).cell? ⟨b, o, none⟩ = some v :=
 cell_ne (cell_ne (cell_ne (cell_ne h (by omega)) (by omega)) (by omega)) (by omega)
theorem Four.putO {w : World} {b o b' o' : Nat} {f g : FV} (h : Four w b o f) (hne : b ≠ b' ∨ o + 3 < o' ∨ o' + 3 < o) : Four (putO w b' o' g) b o f :=
 ⟨cell_putO h.1 (by omega), cell_putO h.2.1 (by omega), cell_putO h.2.2.1 (by omega), cell_putO h.2.2.2 (by omega)⟩
theorem Own.putO {w : World} {b b' o' n : Nat} {f : FV} (h : Own w b n) : Own (putO w b' o' f) b n :=
 ⟨own1_set (own1_set (own1_set (own1_set h.1))), own2_set (own2_set (own2_set (own2_set h.2.1))), own3_set (own3_set (own3_set (own3_set h.2.2 (by simp)) (by simp)) (by simp)) (by simp)⟩
theorem cell_same {w : World} {b o : Nat} {u v : Value} (h : w.cell? ⟨b, o, none⟩ = some v) : (w.setCell ⟨b, o, none⟩ u).cell? ⟨b, o, none⟩ = some u := World.cell?_setCell_same _ _ _ h
theorem Four.new {w : World} {b o n : Nat} {f : FV} (h : Own w b n) (ho : o + 4 ≤ n) : Four (Go.Proofs.Ytgmedfloflplgaa.putO w b o f) b o f := by
 have a0 := h.1 o (by omega)
 have a1 := h.1 (o + 1) (by omega)
 have a2 := h.1 (o + 2) (by omega)
 have a3 := h.1 (o + 3) (by omega)
 refine ⟨?_, ?_, ?_, ?_⟩
 ·exact cell_ne (cell_ne (cell_ne (cell_same a0) (by omega)) (by omega)) (by omega)
 ·exact cell_ne (cell_ne (cell_same (cell_ne a1 (by omega))) (by omega)) (by omega)
 ·exact cell_ne (cell_same (cell_ne (cell_ne a2 (by omega)) (by omega))) (by omega)
 ·exact cell_same (cell_ne (cell_ne (cell_ne a3 (by omega)) (by omega)) (by omega))
theorem IK.putO {w : World} {b o n : Nat} (h : Own w b n) (f : FV) : IK w (putO w b o f) :=
 ((((IK.refl w).setCell (h.2.2 o) _).setCell (own3_set h.2.2 (by simp) (o + 1)) _).setCell (own3_set (own3_set h.2.2 (by simp)) (by simp) (o + 2)) _).setCell (own3_set (own3_set (own3_set h.2.2 (by simp)) (by simp)) (by simp) (o + 3)) _
theorem ext_putO {a w : World} {b o : Nat} (h : Ext a w) (hb : a.heap.size ≤ b) (f : FV) : Ext a (putO w b o f) := (((h.setCell hb _).setCell hb _).setCell hb _).setCell hb _
theorem At.putO {w : World} {b b' o' : Nat} {cs : Array Value} {f : FV} (h : At w b cs) (hne : b ≠ b') : At (putO w b' o' f) b cs := (((h.set hne).set hne).set hne).set hne
theorem Var.putO {w : World} {b b' o' : Nat} {v : Value} {f : FV} (h : Var w b v) (hne : b ≠ b') : Var (putO w b' o' f) b v :=
 ⟨cell_putO h.1 (.inl hne), own2_set (own2_set (own2_set (own2_set h.2)))⟩
/-- At o of block b lies a fraction that is x / y. -/
def HasF (w : World) (b o : Nat) (x y : Int) (k : Nat) : Prop := ∃ (f : FV) (N D : Int), Four w b o f ∧ IsF w f N D ∧ EqQ N D x y ∧ N.natAbs < 2 ^ k ∧ D.natAbs < 2 ^ k
theorem HasF.ext {w w' : World} {b o : Nat} {x y : Int} {k : Nat} (e : Ext w w') (h : HasF w b o x y k) : HasF w' b o x y k := by
 obtain ⟨f, N, D, h1, h2, h3⟩ := h
 exact ⟨f, N, D, h1.ext e, h2.keep e.ik, h3⟩
theorem HasF.putO {w : World} {b o b' o' n : Nat} {x y : Int} {k : Nat} {g : FV} (h : HasF w b o x y k) (hO : Own w b' n) (hne : b ≠ b' ∨ o + 3 < o' ∨ o' + 3 < o) : HasF (putO w b' o' g) b o x y k := by
 obtain ⟨f, N, D, h1, h2, h3⟩ := h
 exact ⟨f, N, D, h1.putO hne, h2.keep (IK.putO hO g), h3⟩
theorem HasF.new {w : World} {b o n : Nat} {x y N D : Int} {k : Nat} {f : FV} (hO : Own w b n) (ho : o + 4 ≤ n) (hf : IsF w f N D) (hq : EqQ N D x y) (h1 : N.natAbs < 2 ^ k) (h2 : D.natAbs < 2 ^ k) : HasF (Go.Proofs.Ytgmedfloflplgaa.putO w b o f) b o x y k :=
 ⟨f, N, D, Four.new hO ho, hf.keep (IK.putO hO f), hq, h1, h2⟩

/-- The state of the inner loop of area: pairs in pb, differences in xb, yb, the index in ib, the error in eb, products in rb. -/
structure InS (w0 ws : World) (pb xb yb ib eb rb ob : Nat) (cs : Array Value) (v : Int) (x1 y1 x2 y2 : Int) (j n : Nat) : Prop where
 ext : Ext w0 ws
 pairs : At ws pb cs
 x : Own ws xb 4
 y : Own ws yb 4
 i : At ws ib #[.int .i64 v]
 e : Var ws eb (.int .i64 0)
 r : Own ws rb 8
 o : Own ws ob 4
 dx : 1 ≤ n → HasF ws xb 0 x1 y1 j
 dy : 2 ≤ n → HasF ws yb 0 x2 y2 j
/-- The blocks are different and new. -/
structure Diff (s pb xb yb ib eb rb ob : Nat) : Prop where
 a : s ≤ ob ∧ ob < rb
 b : rb < ib ∧ ib < pb ∧ pb < xb ∧ xb < yb ∧ yb < eb
theorem InS.step1 {w0 ws w' : World} {pb xb yb ib eb rb ob : Nat} {cs : Array Value} {v x1 y1 x2 y2 : Int} {j : Nat} (D : Diff w0.heap.size pb xb yb ib eb rb ob) (h : InS w0 ws pb xb yb ib eb rb ob cs v x1 y1 x2 y2 j 0) (hcs : 0 < cs.size) {e : Ending} (hs : StepR xb 0 x1 y1 j ws e w') : e = .returned (.int .i64 0) ∧ InS w0 w' pb xb yb ib eb rb ob cs v x1 y1 x2 y2 j 1 ∧ (∀ x y k o, HasF ws rb o x y k → HasF w' rb o x y k) := by
 obtain ⟨f, N, DD, w1, rfl, rfl, hx, hf, hq, h1, h2⟩ := hs
 obtain ⟨⟨d1, d2⟩, d3, d4, d5, d6, d7⟩ := D
 have hX := h.x.ext hx (by omega)
 refine ⟨rfl, ⟨ext_putO (h.ext.trans hx) (by omega) f, (h.pairs.ext hx hcs).putO (by omega), hX.putO, (h.y.ext hx (by omega)).putO, (h.i.ext hx (by simp)).putO (by omega), (h.e.ext hx).putO (by omega), (h.r.ext hx (by omega)).putO, (h.o.ext hx (by omega)).putO, fun _ => HasF.new hX (by omega) hf hq h1 h2, fun h => absurd h (by omega)⟩, ?_⟩
 intro x y k o hh
 exact (hh.ext hx).putO hX (by omega)
theorem InS.step2 {w0 ws w' : World} {pb xb yb ib eb rb ob : Nat} {cs : Array Value} {v x1 y1 x2 y2 : Int} {j : Nat} (D : Diff w0.heap.size pb xb yb ib eb rb ob) (h : InS w0 ws pb xb yb ib eb rb ob cs v x1 y1 x2 y2 j 1) (hcs : 0 < cs.size) {e : Ending} (hs : StepR yb 0 x2 y2 j ws e w') : e = .returned (.int .i64 0) ∧ InS w0 w' pb xb yb ib eb rb ob cs v x1 y1 x2 y2 j 2 ∧ (∀ x y k o, HasF ws rb o x y k → HasF w' rb o x y k) := by
 obtain ⟨f, N, DD, w1, rfl, rfl, hx, hf, hq, h1, h2⟩ := hs
 obtain ⟨⟨d1, d2⟩, d3, d4, d5, d6, d7⟩ := D
 have hX := h.y.ext hx (by omega)
 refine ⟨rfl, ⟨ext_putO (h.ext.trans hx) (by omega) f, (h.pairs.ext hx hcs).putO (by omega), (h.x.ext hx (by omega)).putO, hX.putO, (h.i.ext hx (by simp)).putO (by omega), (h.e.ext hx).putO (by omega), (h.r.ext hx (by omega)).putO, (h.o.ext hx (by omega)).putO, fun _ => ((h.dx (by omega)).ext hx).putO hX (by omega), fun _ => HasF.new hX (by omega) hf hq h1 h2⟩, ?_⟩
 intro x y k o hh
 exact (hh.ext hx).putO hX (by omega)
theorem InS.step3 {w0 ws w' : World} {pb xb yb ib eb rb ob o : Nat} {cs : Array Value} {v x1 y1 x2 y2 x y : Int} {j k : Nat} (D : Diff w0.heap.size pb xb yb ib eb rb ob) (h : InS w0 ws pb xb yb ib eb rb ob cs v x1 y1 x2 y2 j 2) (ho : o + 4 ≤ 8) {e : Ending} (hs : StepR rb o x y k ws e w') : e = .returned (.int .i64 0) ∧ Ext w0 w' ∧ Own w' rb 8 ∧ Own w' ob 4 ∧ HasF w' rb o x y k ∧ (∀ x y k o', o' + 3 < o → HasF ws rb o' x y k → HasF w' rb o' x y k) := by
 obtain ⟨f, N, DD, w1, rfl, rfl, hx, hf, hq, h1, h2⟩ := hs
 obtain ⟨⟨d1, d2⟩, d3, d4, d5, d6, d7⟩ := D
 have hX := h.r.ext hx (by omega)
 refine ⟨rfl, ext_putO (h.ext.trans hx) (by omega) f, hX.putO, (h.o.ext hx (by omega)).putO, HasF.new hX ho hf hq h1 h2, ?_⟩
 intro x y k o' hlt hh
 exact (hh.ext hx).putO hX (by omega)
theorem Blk.var {w : World} {b : Nat} {v : Value} {t : TypeId} (h : Blk w b #[v] t) : Var w b v := ⟨h.cell 0, fun o => h.free o⟩
/-- The state ahead of the inner loop of area. -/
theorem inS_start {w wr : World} {s B : Nat} {q fs z : Array Value} {v X1 Y1 X2 Y2 : Int} {j : Nat} (hB : w.heap.size = B) (hs : wr.heap.size = s) (hx : Ext w wr) (ho : Own wr (B + 1 + 1 + 1) 4) (hr : Own wr (B + 1 + 1 + 1 + 1 + 1 + 1) 8) (hq : 0 < q.size) :
  let W := ((((((((wr.alloc (.cells #[.int .i64 v] 3)).alloc (.cells z 107)).setRow (s + 1) q).alloc (.cells #[.bool false, .slice none 0 0, .bool false, .slice none 0 0] 49)).alloc (.cells #[.bool false, .slice none 0 0, .bool false, .slice none 0 0] 49)).alloc (.cells #[.int .i64 0] 32)).alloc (.cells #[.nilFunc, .nilFunc, .nilFunc] 126)).setRow (s + 1 + 1 + 1 + 1 + 1) fs)
  InS w W (s + 1) (s + 1 + 1) (s + 1 + 1 + 1) s (s + 1 + 1 + 1 + 1) (B + 1 + 1 + 1 + 1 + 1 + 1) (B + 1 + 1 + 1) q v X1 Y1 X2 Y2 j 0 ∧ Blk W (s + 1 + 1 + 1 + 1 + 1) fs 126 ∧ Ext wr W := by
 intro W
 have hlt := hr.lt (by omega)
 have hsz := hx.size
 have hE : Ext wr W := Ext.setRow (((((Ext.setRow (((Ext.refl wr).alloc _).alloc _) (by omega)).alloc _).alloc _).alloc _).alloc _) (by omega)
 refine ⟨⟨hx.trans hE, ?_, ?_, ?_, ?_, ?_, hr.ext hE (by omega), ho.ext hE (by omega), fun h => absurd h (by omega), fun h => absurd h (by omega)⟩, ?_, hE⟩
 ·exact (Blk.setRowOther (((((Blk.setRow (Blk.at _ _ (by simp [hs]))).alloc _).alloc _).alloc _).alloc _) (by omega)).at'
 ·exact (Own.setRow (Own.ext ((((Ext.refl _).alloc _).alloc _).alloc _) (Blk.own (Blk.at _ 49 (by simp [hs])) 4 (by simp) (noIntF _ _ _ _ _ _ _ _)) (by omega)) (by omega))
 ·exact (Own.setRow (Own.ext (((Ext.refl _).alloc _).alloc _) (Blk.own (Blk.at _ 49 (by simp [hs])) 4 (by simp) (noIntF _ _ _ _ _ _ _ _)) (by omega)) (by omega))
 ·exact (Blk.setRowOther (((((Blk.setRowOther ((Blk.at _ 3 hs.symm).alloc _) (by omega)).alloc _).alloc _).alloc _).alloc _) (by omega)).at'
 ·exact (Blk.setRowOther ((Blk.at _ 32 (by simp [hs])).alloc _) (by omega)).var
 ·exact Blk.setRow (Blk.at _ _ (by simp [hs]))
end Go.Proofs.Ytgmedfloflplgaa
