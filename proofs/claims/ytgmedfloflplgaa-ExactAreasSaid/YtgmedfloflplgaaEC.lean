/- exact: Circle. -/
import Derived.Test.YtgmedfloflplgaaEV
import Derived.Deep.AppendLies
/- exact: Circle, its parts. -/
namespace Go.Proofs.Ytgmedfloflplgaa
set_option linter.unusedSimpArgs false
set_option linter.unusedVariables false
open Go.RowKit

theorem At.mk4 {w : World} {b : Nat} {x y z t : Value} (h0 : w.cell? ⟨b, 0, none⟩ = some x) (h1 : w.cell? ⟨b, 1, none⟩ = some y) (h2 : w.cell? ⟨b, 2, none⟩ = some z) (h3 : w.cell? ⟨b, 3, none⟩ = some t) : At w b #[x, y, z, t] := fun o ho => by
  match o, ho with
  | 0, _ => exact h0
  | 1, _ => exact h1
  | 2, _ => exact h2
  | 3, _ => exact h3
  | o + 4, ho => simp at ho; omega
theorem Vec.two {w : World} {b : Nat} {p q : IV} {x y : Int} (h : At w b #[.bool p.neg, .slice p.a p.n p.c, .bool q.neg, .slice q.a q.n q.c]) (hp : IsI w p x) (hq : IsI w q y) : Vec w b [p, q] [x, y] := by
  refine ⟨rfl, h.lt (by simp), fun k hk => ?_⟩
  match k, hk with
  | 0, _ => exact ⟨h 0 (by simp), h 1 (by simp), hp⟩
  | 1, _ => exact ⟨h 2 (by simp), h 3 (by simp), hq⟩
  | k + 2, hk => simp at hk; omega
theorem Vec.three {w : World} {b : Nat} {p q r : IV} {x y z : Int} (h : At w b #[.bool p.neg, .slice p.a p.n p.c, .bool q.neg, .slice q.a q.n q.c, .bool r.neg, .slice r.a r.n r.c]) (hp : IsI w p x) (hq : IsI w q y) (hr : IsI w r z) : Vec w b [p, q, r] [x, y, z] := by
  refine ⟨rfl, h.lt (by simp), fun k hk => ?_⟩
  match k, hk with
  | 0, _ => exact ⟨h 0 (by simp), h 1 (by simp), hp⟩
  | 1, _ => exact ⟨h 2 (by simp), h 3 (by simp), hq⟩
  | 2, _ => exact ⟨h 4 (by simp), h 5 (by simp), hr⟩
  | k + 3, hk => simp at hk; omega
theorem Vecs.two {w : World} {B b c : Nat} {ps qs : List IV} {xs ys : List Int} {n m : Nat} (hn : ps.length = n) (hm : qs.length = m) (hn4 : n ≤ 100) (hm4 : m ≤ 100)
    (h : At w B #[.slice (some ⟨b, 0, none⟩) n n, .slice (some ⟨c, 0, none⟩) m m]) (h1 : Vec w b ps xs) (h2 : Vec w c qs ys) : Vecs w B [⟨b, n, ps, xs⟩, ⟨c, m, qs, ys⟩] := fun i hi => by
  subst hn; subst hm
  match i, hi with
  | 0, _ => exact ⟨h 0 (by simp), (by simp; omega), h1⟩
  | 1, _ => exact ⟨h 1 (by simp), (by simp; omega), h2⟩
  | i + 2, hi => simp at hi; omega

theorem IsI.neg1 {w0 : World} {a : Option Addr} {n c : Nat} {x : Int} (h0 : 0 < n) (h : IsI w0 ⟨false, a, n, c⟩ x) : IsI w0 ⟨true, a, n, c⟩ (-x) := by
  obtain ⟨l, h1, h2, h3, h4, rfl⟩ := h
  exact ⟨l, h1, h2, h3, fun _ => h0, by simp [sgn]⟩
theorem IsI.neg2 {w0 : World} {a : Option Addr} {n c : Nat} {x : Int} (h : IsI w0 ⟨true, a, n, c⟩ x) : IsI w0 ⟨false, a, n, c⟩ (-x) := by
  obtain ⟨l, h1, h2, h3, h4, rfl⟩ := h
  exact ⟨l, h1, h2, h3, by simp, by simp [sgn]⟩
theorem IsI.neg3 {w0 : World} {a : Option Addr} {c : Nat} {x : Int} (h : IsI w0 ⟨false, a, 0, c⟩ x) : IsI w0 ⟨false, a, 0, c⟩ (-x) := by
  obtain ⟨l, h1, h2, h3, h4, rfl⟩ := h
  have hl : l = [] := List.eq_nil_of_length_eq_zero h1.len
  subst hl
  exact ⟨[], h1, h2, h3, h4, by simp [sgn, mval]⟩
/-- 'Neg', once more: the slice is handed on as it is. -/
theorem Neg_c' (p : IV) (x : Int) (w : World) (h : IsI w p x) : Calls Try.prog 55 #[p.v] w fun e w' => ∃ r : IV, e = .returned r.v ∧ Hid (∀ w0, IsI w0 p x → IsI w0 r (-x)) ∧ Ext w w' := by
  obtain ⟨g, a, n, c⟩ := p
  obtain ⟨l, h1, h2, h3, h4, rfl⟩ := h
  by_cases h0 : 0 < n
  · cases g
    · have HH := Lib.hid h1; clear h1
      go_enter Try.func55, Try.ntmps55
      go_wp2
      refine bodyPost_ret (v := .agg #[.bool true, .slice a n c]) (by simp [results, Try.results55, go_sem]) rfl ?_
      exact ⟨⟨true, a, n, c⟩, rfl, fun w0 hw => hw.neg1 h0, (by repeat (first | exact Ext.refl _ | assumption | refine Ext.setCell ?_ (by first | (simp; done) | (simp; omega) | omega) _ | refine Ext.alloc ?_ _ | refine Ext.drew ?_ | refine Ext.trans ?_ (by assumption)))⟩
    · have HH := Lib.hid h1; clear h1
      go_enter Try.func55, Try.ntmps55
      go_wp2
      refine bodyPost_ret (v := .agg #[.bool false, .slice a n c]) (by simp [results, Try.results55, go_sem]) rfl ?_
      exact ⟨⟨false, a, n, c⟩, rfl, fun w0 hw => hw.neg2, (by repeat (first | exact Ext.refl _ | assumption | refine Ext.setCell ?_ (by first | (simp; done) | (simp; omega) | omega) _ | refine Ext.alloc ?_ _ | refine Ext.drew ?_ | refine Ext.trans ?_ (by assumption)))⟩
  · have hn : n = 0 := by omega
    subst hn
    have hl : l = [] := List.eq_nil_of_length_eq_zero h1.len
    subst hl
    cases g
    · have HH := Lib.hid h1; clear h1
      go_enter Try.func55, Try.ntmps55
      go_wp2
      refine bodyPost_ret (v := .agg #[.bool false, .slice a 0 c]) (by simp [results, Try.results55, go_sem]) rfl ?_
      exact ⟨⟨false, a, 0, c⟩, rfl, fun w0 hw => hw.neg3, (by repeat (first | exact Ext.refl _ | assumption | refine Ext.setCell ?_ (by first | (simp; done) | (simp; omega) | omega) _ | refine Ext.alloc ?_ _ | refine Ext.drew ?_ | refine Ext.trans ?_ (by assumption)))⟩
    · exact absurd (h4 rfl) (by simp)

/-- An array of wide integers of the call's own. -/
def Arr (w : World) (b : Nat) (ps : List IV) (xs : List Int) : Prop :=
  xs.length = ps.length ∧ Own w b (2 * ps.length) ∧ ∀ k, k < ps.length → w.cell? ⟨b, k * 2, none⟩ = some (.bool (ps.getD k ⟨false, none, 0, 0⟩).neg) ∧
    w.cell? ⟨b, k * 2 + 1, none⟩ = some (.slice (ps.getD k ⟨false, none, 0, 0⟩).a (ps.getD k ⟨false, none, 0, 0⟩).n (ps.getD k ⟨false, none, 0, 0⟩).c) ∧ IsI w (ps.getD k ⟨false, none, 0, 0⟩) (xs.getD k 0)
theorem Arr.ext {w w' : World} {b : Nat} {ps : List IV} {xs : List Int} (k : Ext w w') (h : Arr w b ps xs) (h0 : 0 < ps.length) : Arr w' b ps xs :=
  ⟨h.1, h.2.1.ext k (by omega), fun i hi => ⟨k.cell (h.2.2 i hi).1, k.cell (h.2.2 i hi).2.1, (h.2.2 i hi).2.2.keep k.ik⟩⟩
theorem IK.putAt {w : World} {b n o : Nat} (h : Own w b n) (g : Bool) (a : Option Addr) (m c : Nat) : IK w ((w.setCell ⟨b, o, none⟩ (.bool g)).setCell ⟨b, o + 1, none⟩ (.slice a m c)) :=
  ((IK.refl w).setCell (h.2.2 o) _).setCell (own3_set h.2.2 (by simp) (o + 1)) _
theorem Own.putAt {w : World} {b b' n o : Nat} (h : Own w b n) (g : Bool) (a : Option Addr) (m c : Nat) : Own ((w.setCell ⟨b', o, none⟩ (.bool g)).setCell ⟨b', o + 1, none⟩ (.slice a m c)) b n :=
  ⟨own1_set (own1_set h.1), own2_set (own2_set h.2.1), own3_set (own3_set h.2.2 (by simp)) (by simp)⟩
/-- A store into another block. -/
theorem Arr.putOther {w : World} {b b' n o : Nat} {ps : List IV} {xs : List Int} (h : Arr w b ps xs) (h' : Own w b' n) (hne : b ≠ b') (g : Bool) (a : Option Addr) (m c : Nat) :
    Arr ((w.setCell ⟨b', o, none⟩ (.bool g)).setCell ⟨b', o + 1, none⟩ (.slice a m c)) b ps xs := by
  refine ⟨h.1, h.2.1.putAt _ _ _ _, fun k hk => ⟨?_, ?_, (h.2.2 k hk).2.2.keep (IK.putAt h' _ _ _ _)⟩⟩
  · rw [World.cell?_setCell_other _ _ _ _ (by intro e; injection e with e1; exact hne e1.symm), World.cell?_setCell_other _ _ _ _ (by intro e; injection e with e1; exact hne e1.symm)]; exact (h.2.2 k hk).1
  · rw [World.cell?_setCell_other _ _ _ _ (by intro e; injection e with e1; exact hne e1.symm), World.cell?_setCell_other _ _ _ _ (by intro e; injection e with e1; exact hne e1.symm)]; exact (h.2.2 k hk).2.1
theorem getD_set_same' {α : Type} (l : List α) (j : Nat) (x d : α) (h : j < l.length) : (l.set j x).getD j d = x := by
  simp [List.getD_eq_getElem?_getD, h]
theorem getD_set_other' {α : Type} (l : List α) (j i : Nat) (x d : α) (h : j ≠ i) : (l.set j x).getD i d = l.getD i d := by
  simp [List.getD_eq_getElem?_getD, List.getElem?_set, h]
/-- A store into the array itself. -/
theorem Arr.put {w : World} {b i : Nat} {ps : List IV} {xs : List Int} {q : IV} {x : Int} (h : Arr w b ps xs) (hi : i < ps.length) (hq : IsI w q x) :
    Arr ((w.setCell ⟨b, i * 2, none⟩ (.bool q.neg)).setCell ⟨b, i * 2 + 1, none⟩ (.slice q.a q.n q.c)) b (ps.set i q) (xs.set i x) := by
  have hik := IK.putAt (o := i * 2) h.2.1 q.neg q.a q.n q.c
  refine ⟨by simp [h.1], by rw [List.length_set]; exact h.2.1.putAt _ _ _ _, fun k hk => ?_⟩
  rw [List.length_set] at hk
  by_cases hki : i = k
  · subst hki
    rw [getD_set_same' _ _ _ _ hi, getD_set_same' _ _ _ _ (by rw [h.1]; exact hi)]
    refine ⟨?_, ?_, hq.keep hik⟩
    · rw [World.cell?_setCell_other _ _ _ _ (by simp)]; exact World.cell?_setCell_same' _ _ _ (by rw [h.2.1.1 _ (by omega)]; rfl)
    · refine World.cell?_setCell_same' _ _ _ ?_
      rw [World.cell?_setCell_other _ _ _ _ (by simp), h.2.1.1 _ (by omega)]; rfl
  · rw [getD_set_other' _ _ _ _ _ hki, getD_set_other' _ _ _ _ _ hki]
    obtain ⟨k1, k2, k3⟩ := h.2.2 k hk
    refine ⟨?_, ?_, k3.keep hik⟩
    · rw [World.cell?_setCell_other _ _ _ _ (by simp <;> omega), World.cell?_setCell_other _ _ _ _ (by simp <;> omega)]; exact k1
    · rw [World.cell?_setCell_other _ _ _ _ (by simp <;> omega), World.cell?_setCell_other _ _ _ _ (by simp <;> omega)]; exact k2
theorem Arr.cells {w : World} {b : Nat} {ps : List IV} {xs : List Int} (h : Arr w b ps xs) (i : Nat) (hi : i < ps.length) :
    ∃ q : IV, w.cell? ⟨b, i * 2, none⟩ = some (.bool q.neg) ∧ w.cell? ⟨b, i * 2 + 1, none⟩ = some (.slice q.a q.n q.c) ∧ IsI w q (xs.getD i 0) := ⟨_, h.2.2 i hi⟩

/-- The point i of three. -/
def pt3 (a b c : Pt) (i : Nat) : Pt := if i = 0 then a else if i = 1 then b else c
/-- What the three arrays hold behind i rounds. -/
def Three (w : World) (bx by' bz : Nat) (a b c d : Pt) (i : Nat) : Prop :=
  ∃ (ps qs rs : List IV) (xs ys zs : List Int), ps.length = 3 ∧ qs.length = 3 ∧ rs.length = 3 ∧ Arr w bx ps xs ∧ Arr w by' qs ys ∧ Arr w bz rs zs ∧
    ∀ j, j < i → xs.getD j 0 = (pt3 a b c j).x - d.x ∧ ys.getD j 0 = (pt3 a b c j).y - d.y ∧
      zs.getD j 0 = ((pt3 a b c j).x - d.x) * ((pt3 a b c j).x - d.x) + ((pt3 a b c j).y - d.y) * ((pt3 a b c j).y - d.y)
theorem Three.ext {w w' : World} {bx by' bz : Nat} {a b c d : Pt} {i : Nat} (k : Ext w w') (h : Three w bx by' bz a b c d i) : Three w' bx by' bz a b c d i := by
  obtain ⟨ps, qs, rs, xs, ys, zs, h1, h2, h3, h4, h5, h6, h7⟩ := h
  exact ⟨ps, qs, rs, xs, ys, zs, h1, h2, h3, h4.ext k (by omega), h5.ext k (by omega), h6.ext k (by omega), h7⟩
/-- What they hold in the midst of a round: x and y are there, z is not yet. -/
def Half (w : World) (bx by' bz : Nat) (a b c d : Pt) (i : Nat) : Prop :=
  ∃ (ps qs rs : List IV) (xs ys zs : List Int), ps.length = 3 ∧ qs.length = 3 ∧ rs.length = 3 ∧ Arr w bx ps xs ∧ Arr w by' qs ys ∧ Arr w bz rs zs ∧
    (∀ j, j < i → xs.getD j 0 = (pt3 a b c j).x - d.x ∧ ys.getD j 0 = (pt3 a b c j).y - d.y ∧
      zs.getD j 0 = ((pt3 a b c j).x - d.x) * ((pt3 a b c j).x - d.x) + ((pt3 a b c j).y - d.y) * ((pt3 a b c j).y - d.y)) ∧
    xs.getD i 0 = (pt3 a b c i).x - d.x ∧ ys.getD i 0 = (pt3 a b c i).y - d.y
theorem Three.putXY {w : World} {bx by' bz : Nat} {a b c d : Pt} {i : Nat} (h : Three w bx by' bz a b c d i) (hi : i < 3) {q r : IV} (hq : IsI w q ((pt3 a b c i).x - d.x)) (hr : IsI w r ((pt3 a b c i).y - d.y)) (h1 : bx ≠ by') (h2 : bz ≠ bx) (h3 : bz ≠ by') :
    Half ((((w.setCell ⟨bx, i * 2, none⟩ (.bool q.neg)).setCell ⟨bx, i * 2 + 1, none⟩ (.slice q.a q.n q.c)).setCell ⟨by', i * 2, none⟩ (.bool r.neg)).setCell ⟨by', i * 2 + 1, none⟩ (.slice r.a r.n r.c)) bx by' bz a b c d i := by
  obtain ⟨ps, qs, rs, xs, ys, zs, l1, l2, l3, a1, a2, a3, hh⟩ := h
  have hox := a1.2.1
  have b1 := a1.put (i := i) (by omega) hq
  have b2 := a2.putOther (o := i * 2) hox (Ne.symm h1) q.neg q.a q.n q.c
  have b3 := a3.putOther (o := i * 2) hox h2 q.neg q.a q.n q.c
  have hr2 := hr.keep (IK.putAt (o := i * 2) hox q.neg q.a q.n q.c)
  have hoy := b2.2.1
  have c1 := b1.putOther (o := i * 2) hoy h1 r.neg r.a r.n r.c
  have c2 := b2.put (i := i) (by omega) hr2
  have c3 := b3.putOther (o := i * 2) hoy h3 r.neg r.a r.n r.c
  refine ⟨_, _, _, _, _, _, by rw [List.length_set]; exact l1, by rw [List.length_set]; exact l2, l3, c1, c2, c3, fun j hj => ?_, ?_, ?_⟩
  · rw [getD_set_other' _ _ _ _ _ (by omega), getD_set_other' _ _ _ _ _ (by omega)]; exact hh j hj
  · rw [getD_set_same' _ _ _ _ (by rw [a1.1]; omega)]
  · rw [getD_set_same' _ _ _ _ (by rw [a2.1]; omega)]
theorem Half.ext {w w' : World} {bx by' bz : Nat} {a b c d : Pt} {i : Nat} (k : Ext w w') (h : Half w bx by' bz a b c d i) : Half w' bx by' bz a b c d i := by
  obtain ⟨ps, qs, rs, xs, ys, zs, h1, h2, h3, h4, h5, h6, h7⟩ := h
  exact ⟨ps, qs, rs, xs, ys, zs, h1, h2, h3, h4.ext k (by omega), h5.ext k (by omega), h6.ext k (by omega), h7⟩
theorem Half.own {w : World} {bx by' bz : Nat} {a b c d : Pt} {i : Nat} (h : Half w bx by' bz a b c d i) : Own w bx 6 ∧ Own w by' 6 ∧ Own w bz 6 := by
  obtain ⟨ps, qs, rs, xs, ys, zs, h1, h2, h3, h4, h5, h6, h7⟩ := h
  have k1 := h4.2.1; have k2 := h5.2.1; have k3 := h6.2.1
  rw [h1] at k1; rw [h2] at k2; rw [h3] at k3
  exact ⟨k1, k2, k3⟩
theorem Half.at {w : World} {bx by' bz : Nat} {a b c d : Pt} {i : Nat} (h : Half w bx by' bz a b c d i) (hi : i < 3) :
    ∃ q r : IV, w.cell? ⟨bx, i * 2, none⟩ = some (.bool q.neg) ∧ w.cell? ⟨bx, i * 2 + 1, none⟩ = some (.slice q.a q.n q.c) ∧ w.cell? ⟨by', i * 2, none⟩ = some (.bool r.neg) ∧ w.cell? ⟨by', i * 2 + 1, none⟩ = some (.slice r.a r.n r.c) ∧
      IsI w q ((pt3 a b c i).x - d.x) ∧ IsI w r ((pt3 a b c i).y - d.y) := by
  obtain ⟨ps, qs, rs, xs, ys, zs, l1, l2, l3, a1, a2, a3, hh, hx, hy⟩ := h
  obtain ⟨q, q1, q2, q3⟩ := a1.cells i (by omega)
  obtain ⟨r, r1, r2, r3⟩ := a2.cells i (by omega)
  rw [hx] at q3; rw [hy] at r3
  exact ⟨q, r, q1, q2, r1, r2, q3, r3⟩
theorem Half.putZ {w : World} {bx by' bz : Nat} {a b c d : Pt} {i : Nat} (h : Half w bx by' bz a b c d i) (hi : i < 3) {q : IV}
    (hq : IsI w q (((pt3 a b c i).x - d.x) * ((pt3 a b c i).x - d.x) + ((pt3 a b c i).y - d.y) * ((pt3 a b c i).y - d.y))) (h1 : bx ≠ bz) (h2 : by' ≠ bz) :
    Three ((w.setCell ⟨bz, i * 2, none⟩ (.bool q.neg)).setCell ⟨bz, i * 2 + 1, none⟩ (.slice q.a q.n q.c)) bx by' bz a b c d (i + 1) := by
  obtain ⟨ps, qs, rs, xs, ys, zs, l1, l2, l3, a1, a2, a3, hh, hx, hy⟩ := h
  have hoz := a3.2.1
  refine ⟨_, _, _, _, _, _, l1, l2, by rw [List.length_set]; exact l3, a1.putOther (o := i * 2) hoz h1 q.neg q.a q.n q.c, a2.putOther (o := i * 2) hoz h2 q.neg q.a q.n q.c, a3.put (i := i) (by omega) hq, fun j hj => ?_⟩
  by_cases hji : j = i
  · subst hji
    rw [getD_set_same' _ _ _ _ (by rw [a3.1]; omega)]
    exact ⟨hx, hy, rfl⟩
  · rw [getD_set_other' _ _ _ _ _ (by omega)]; exact hh j (by omega)
theorem Three.own {w : World} {bx by' bz : Nat} {a b c d : Pt} {i : Nat} (h : Three w bx by' bz a b c d i) : Own w bx 6 ∧ Own w by' 6 ∧ Own w bz 6 := by
  obtain ⟨ps, qs, rs, xs, ys, zs, h1, h2, h3, h4, h5, h6, h7⟩ := h
  have k1 := h4.2.1; have k2 := h5.2.1; have k3 := h6.2.1
  rw [h1] at k1; rw [h2] at k2; rw [h3] at k3
  exact ⟨k1, k2, k3⟩
end Go.Proofs.Ytgmedfloflplgaa
/- exact: Circle, the terms that are appended. -/
namespace Go.Proofs.Ytgmedfloflplgaa
set_option linter.unusedSimpArgs false
set_option linter.unusedVariables false
open Go.RowKit

def row0 : Row1 := ⟨0, 0, [], []⟩
/-- A list that is summed up: it lies in ws, its numbers in W2. -/
def RowIn (W2 ws : World) (r : Row1) : Prop :=
  r.b < ws.heap.size ∧ r.ps.length ≤ 1000 ∧ r.xs.length = r.ps.length ∧ ∀ k, k < r.ps.length → ws.cell? ⟨r.b, k * 2, none⟩ = some (.bool (r.ps.getD k ⟨false, none, 0, 0⟩).neg) ∧
    ws.cell? ⟨r.b, k * 2 + 1, none⟩ = some (.slice (r.ps.getD k ⟨false, none, 0, 0⟩).a (r.ps.getD k ⟨false, none, 0, 0⟩).n (r.ps.getD k ⟨false, none, 0, 0⟩).c) ∧ IsI W2 (r.ps.getD k ⟨false, none, 0, 0⟩) (r.xs.getD k 0)
def rowVal (r : Row1) : Value := .slice (some ⟨r.b, 0, none⟩) r.ps.length r.c
/-- The terms so far. -/
def Terms (W2 ws : World) (v : Value) (L : List Row1) : Prop :=
  ws.ownsRow W2.heap.size 89 1 v L.length (L.map rowVal) ∧ ∀ i, i < L.length → RowIn W2 ws (L.getD i row0) ∧ v.ownBlock ≠ some (L.getD i row0).b
theorem RowIn.ext {W2 w w' : World} {r : Row1} (k : Ext w w') (h : RowIn W2 w r) : RowIn W2 w' r :=
  ⟨Nat.lt_of_lt_of_le h.1 k.size, h.2.1, h.2.2.1, fun i hi => ⟨k.cell (h.2.2.2 i hi).1, k.cell (h.2.2.2 i hi).2.1, (h.2.2.2 i hi).2.2⟩⟩
theorem RowIn.grown {W2 w w' : World} {r : Row1} {row : Option Nat} (k : w.grownBy w' row) (hne : row ≠ some r.b) (h : RowIn W2 w r) : RowIn W2 w' r := by
  have hc : ∀ o, w'.cell? ⟨r.b, o, none⟩ = w.cell? ⟨r.b, o, none⟩ := fun o => World.cell?_of_block (w := w) (k.block r.b h.1 (fun e => hne e.symm))
  exact ⟨Nat.lt_of_lt_of_le h.1 k.size, h.2.1, h.2.2.1, fun i hi => ⟨by rw [hc]; exact (h.2.2.2 i hi).1, by rw [hc]; exact (h.2.2.2 i hi).2.1, (h.2.2.2 i hi).2.2⟩⟩
theorem owns_lt {w : World} {base : Nat} {e : TypeId} {s : Nat} {v : Value} {n : Nat} {xs : List Value} (h : w.ownsRow base e s v n xs) {g : Nat} (hg : v.ownBlock = some g) : base ≤ g ∧ g < w.heap.size := by
  obtain ⟨_, ⟨hv, _⟩ | ⟨g', cap, cur, hv, hb, hh, _⟩⟩ := h
  · subst hv; simp [Value.ownBlock] at hg
  · subst hv; simp [Value.ownBlock] at hg; subst hg; exact ⟨hb, lt_of_block hh⟩
theorem owns_ext {w w' : World} {base : Nat} {e : TypeId} {s : Nat} {v : Value} {n : Nat} {xs : List Value} (k : Ext w w') (h : w.ownsRow base e s v n xs) : w'.ownsRow base e s v n xs := by
  obtain ⟨h0, ⟨hv, hn⟩ | ⟨g', cap, cur, hv, hb, hh, r⟩⟩ := h
  · exact ⟨h0, .inl ⟨hv, hn⟩⟩
  · exact ⟨h0, .inr ⟨g', cap, cur, hv, hb, by rw [k.below.block g' (lt_of_block hh)]; exact hh, r⟩⟩
theorem Terms.ext {W2 w w' : World} {v : Value} {L : List Row1} (k : Ext w w') (h : Terms W2 w v L) : Terms W2 w' v L :=
  ⟨owns_ext k h.1, fun i hi => ⟨(h.2 i hi).1.ext k, (h.2 i hi).2⟩⟩
theorem Terms.start (W2 : World) : Terms W2 W2 (.slice none 0 0) [] := ⟨⟨rfl, .inl ⟨rfl, rfl⟩⟩, fun i hi => by simp at hi⟩
theorem getD_two (L : List Row1) (A B d : Row1) (i : Nat) (hi : i < L.length + 2) : (i < L.length ∧ (L ++ [A, B]).getD i d = L.getD i d) ∨ (i = L.length ∧ (L ++ [A, B]).getD i d = A) ∨ (i = L.length + 1 ∧ (L ++ [A, B]).getD i d = B) := by
  by_cases h : i < L.length
  · left; exact ⟨h, by simp [List.getD_eq_getElem?_getD, List.getElem?_append, h]⟩
  · have : i = L.length ∨ i = L.length + 1 := by omega
    rcases this with rfl | rfl
    · right; left; exact ⟨rfl, by simp [List.getD_eq_getElem?_getD]⟩
    · right; right; exact ⟨rfl, by simp [List.getD_eq_getElem?_getD, List.getElem?_append]⟩
/-- Two more terms. -/
theorem Terms.append {W2 w w' w1 : World} {v : Value} {L : List Row1} {A B : Row1} {g cap : Nat} (h : Terms W2 w v L) (k : Ext w w') (hA : RowIn W2 w' A) (hB : RowIn W2 w' B) (lA : w.heap.size ≤ A.b) (lB : w.heap.size ≤ B.b)
    (hown : w1.ownsRow W2.heap.size 89 1 (.slice (some ⟨g, 0, none⟩) (L.length + 2) cap) (L.length + 2) (L.map rowVal ++ [rowVal A, rowVal B])) (hg : w'.grownBy w1 v.ownBlock) (hat : v.ownBlock = some g ∨ g = w'.heap.size) :
    Terms W2 w1 (.slice (some ⟨g, 0, none⟩) (L.length + 2) cap) (L ++ [A, B]) := by
  have hne : ∀ b, w.heap.size ≤ b → v.ownBlock ≠ some b := fun b hb e => by have := (owns_lt h.1 e).2; omega
  refine ⟨by simpa using hown, fun i hi => ?_⟩
  have hfin : ∀ r, RowIn W2 w' r → v.ownBlock ≠ some r.b → RowIn W2 w1 r ∧ (Value.slice (some ⟨g, 0, none⟩) (L.length + 2) cap).ownBlock ≠ some r.b := fun r hr hn => by
    refine ⟨hr.grown hg hn, fun e => ?_⟩
    simp [Value.ownBlock] at e
    rcases hat with hat | hat
    · rw [hat] at hn; exact hn (by rw [e])
    · have := hr.1; omega
  rcases getD_two L A B row0 i (by simpa using hi) with ⟨h1, h2⟩ | ⟨h1, h2⟩ | ⟨h1, h2⟩
  · rw [h2]; exact hfin _ ((h.2 i h1).1.ext k) (h.2 i h1).2
  · rw [h2]; exact hfin _ hA (hne _ lA)
  · rw [h2]; exact hfin _ hB (hne _ lB)
theorem Terms.vecs {W2 w : World} {g n cap : Nat} {L : List Row1} (k : Ext W2 w) (h : Terms W2 w (.slice (some ⟨g, 0, none⟩) n cap) L) : Vecs w g L := fun i hi => by
  obtain ⟨⟨h0, ⟨hv, _⟩ | ⟨g', cap', cur, hv, hb, hh, hle, hc, hsz, htk⟩⟩, h2⟩ := h
  · simp at hv
  · simp at hv
    obtain ⟨rfl, rfl, rfl⟩ := hv
    obtain ⟨⟨r1, r2, r3, r4⟩, _⟩ := h2 i hi
    refine ⟨?_, r2, r3, Nat.lt_of_lt_of_le r1 (Nat.le_refl _), fun j hj => ⟨(r4 j hj).1, (r4 j hj).2.1, (r4 j hj).2.2.keep k.ik⟩⟩
    have hget : cur[i]? = some (rowVal (L.getD i row0)) := by
      have h3 : (cur.toList.take (L.length * 1))[i]? = (L.map rowVal)[i]? := by rw [htk]
      simp [hi, List.getElem?_take] at h3
      rw [h3]; simp [List.getD_eq_getElem?_getD, hi]
    simp [World.cell?, hh, hget]; rfl
theorem Three.at {w : World} {bx by' bz : Nat} {a b c d : Pt} (h : Three w bx by' bz a b c d 3) (n : Nat) (hn : n < 3) :
    ∃ q r s : IV, (w.cell? ⟨bx, n * 2, none⟩ = some (.bool q.neg) ∧ w.cell? ⟨bx, n * 2 + 1, none⟩ = some (.slice q.a q.n q.c)) ∧ (w.cell? ⟨by', n * 2, none⟩ = some (.bool r.neg) ∧ w.cell? ⟨by', n * 2 + 1, none⟩ = some (.slice r.a r.n r.c)) ∧
      (w.cell? ⟨bz, n * 2, none⟩ = some (.bool s.neg) ∧ w.cell? ⟨bz, n * 2 + 1, none⟩ = some (.slice s.a s.n s.c)) ∧
      IsI w q ((pt3 a b c n).x - d.x) ∧ IsI w r ((pt3 a b c n).y - d.y) ∧ IsI w s (((pt3 a b c n).x - d.x) * ((pt3 a b c n).x - d.x) + ((pt3 a b c n).y - d.y) * ((pt3 a b c n).y - d.y)) := by
  obtain ⟨ps, qs, rs, xs, ys, zs, l1, l2, l3, a1, a2, a3, hh⟩ := h
  obtain ⟨q, q1, q2, q3⟩ := a1.cells n (by omega)
  obtain ⟨r, r1, r2, r3⟩ := a2.cells n (by omega)
  obtain ⟨s, s1, s2, s3⟩ := a3.cells n (by omega)
  obtain ⟨hx, hy, hz⟩ := hh n hn
  rw [hx] at q3; rw [hy] at r3; rw [hz] at s3
  exact ⟨q, r, s, ⟨q1, q2⟩, ⟨r1, r2⟩, ⟨s1, s2⟩, q3, r3, s3⟩
theorem RowIn.three {W2 w : World} {b c : Nat} {p q r : IV} {x y z : Int} (h : At w b #[.bool p.neg, .slice p.a p.n p.c, .bool q.neg, .slice q.a q.n q.c, .bool r.neg, .slice r.a r.n r.c]) (hp : IsI W2 p x) (hq : IsI W2 q y) (hr : IsI W2 r z) : RowIn W2 w ⟨b, c, [p, q, r], [x, y, z]⟩ := by
  refine ⟨h.lt (by simp), by simp, rfl, fun k hk => ?_⟩
  match k, hk with
  | 0, _ => exact ⟨h 0 (by simp), h 1 (by simp), hp⟩
  | 1, _ => exact ⟨h 2 (by simp), h 3 (by simp), hq⟩
  | 2, _ => exact ⟨h 4 (by simp), h 5 (by simp), hr⟩
  | k + 3, hk => simp at hk; omega
theorem At.mk6 {w : World} {b : Nat} {x y z t u v : Value} (h0 : w.cell? ⟨b, 0, none⟩ = some x) (h1 : w.cell? ⟨b, 1, none⟩ = some y) (h2 : w.cell? ⟨b, 2, none⟩ = some z) (h3 : w.cell? ⟨b, 3, none⟩ = some t) (h4 : w.cell? ⟨b, 4, none⟩ = some u) (h5 : w.cell? ⟨b, 5, none⟩ = some v) : At w b #[x, y, z, t, u, v] := fun o ho => by
  match o, ho with
  | 0, _ => exact h0
  | 1, _ => exact h1
  | 2, _ => exact h2
  | 3, _ => exact h3
  | 4, _ => exact h4
  | 5, _ => exact h5
  | o + 6, ho => simp at ho; omega
/-- Two more terms of three factors. -/
theorem Terms.append3 {W2 w w' w1 : World} {v : Value} {L : List Row1} {ba bb : Nat} {p q r s t u : IV} {x y z x' y' z' : Int} {g cap : Nat} (h : Terms W2 w v L)
    (hown : w1.ownsRow W2.heap.size 89 1 (.slice (some ⟨g, 0, none⟩) (L.length + 2) cap) (L.length + 2) (L.map rowVal ++ [.slice (some ⟨ba, 0, none⟩) 3 3, .slice (some ⟨bb, 0, none⟩) 3 3]))
    (hg : w'.grownBy w1 v.ownBlock) (hat : v.ownBlock = some g ∨ g = w'.heap.size) (k : Ext w w')
    (hp : IsI W2 p x) (hq : IsI W2 q y) (hr : IsI W2 r z) (hs : IsI W2 s x') (ht : IsI W2 t y') (hu : IsI W2 u z')
    (hA : At w' ba #[.bool p.neg, .slice p.a p.n p.c, .bool q.neg, .slice q.a q.n q.c, .bool r.neg, .slice r.a r.n r.c]) (hB : At w' bb #[.bool s.neg, .slice s.a s.n s.c, .bool t.neg, .slice t.a t.n t.c, .bool u.neg, .slice u.a u.n u.c])
    (lA : w.heap.size ≤ ba) (lB : w.heap.size ≤ bb) :
    Terms W2 w1 (.slice (some ⟨g, 0, none⟩) (L.length + 2) cap) (L ++ [⟨ba, 3, [p, q, r], [x, y, z]⟩, ⟨bb, 3, [s, t, u], [x', y', z']⟩]) :=
  Terms.append (A := ⟨ba, 3, [p, q, r], [x, y, z]⟩) (B := ⟨bb, 3, [s, t, u], [x', y', z']⟩) h k (RowIn.three hA hp hq hr) (RowIn.three hB hs ht hu) lA lB hown hg hat
/-- All terms are small. -/
def RowsSm (L : List Row1) : Prop := ∀ i, i < L.length → ∃ x y z : Int, (L.getD i row0).xs = [x, y, z] ∧ x.natAbs ≤ 2147483648 ∧ y.natAbs ≤ 2147483648 ∧ z.natAbs ≤ 9223372036854775808
theorem RowsSm.append {L : List Row1} (h : RowsSm L) {A B : Row1} (hA : ∃ x y z : Int, A.xs = [x, y, z] ∧ x.natAbs ≤ 2147483648 ∧ y.natAbs ≤ 2147483648 ∧ z.natAbs ≤ 9223372036854775808)
    (hB : ∃ x y z : Int, B.xs = [x, y, z] ∧ x.natAbs ≤ 2147483648 ∧ y.natAbs ≤ 2147483648 ∧ z.natAbs ≤ 9223372036854775808) : RowsSm (L ++ [A, B]) := fun i hi => by
  rcases getD_two L A B row0 i (by simpa using hi) with ⟨h1, h2⟩ | ⟨_, h2⟩ | ⟨_, h2⟩
  · rw [h2]; exact h i h1
  · rw [h2]; exact hA
  · rw [h2]; exact hB
theorem prod3 {x y z : Int} (hx : x.natAbs ≤ 2147483648) (hy : y.natAbs ≤ 2147483648) (hz : z.natAbs ≤ 9223372036854775808) (k : Nat) : (prodL (([x, y, z] : List Int).take k)).natAbs ≤ 42535295865117307932921825928971026432 := by
  have h1 := natAbs_mul_le hx hy
  have h2 := natAbs_mul_le hx (natAbs_mul_le hy hz)
  match k with
  | 0 => exact Nat.le_trans (show (1 : Int).natAbs ≤ 1 by decide) (by omega)
  | 1 => rw [show prodL (([x, y, z] : List Int).take 1) = x from by simp [prodL]]; omega
  | 2 => rw [show prodL (([x, y, z] : List Int).take 2) = x * y from by simp [prodL]]; omega
  | k + 3 => rw [show prodL (([x, y, z] : List Int).take (k + 3)) = x * (y * z) from by simp [prodL]]; omega
theorem RowsSm.prods {L : List Row1} (h : RowsSm L) (i : Nat) (hi : i < L.length) (k : Nat) : Sm (prodL ((L.getD i ⟨0, 0, [], []⟩).xs.take k)) := by
  obtain ⟨x, y, z, he, hx, hy, hz⟩ := h i hi
  have := prod3 hx hy hz k
  unfold row0 at he
  rw [he]; unfold Sm; omega
theorem RowsSm.sums {L : List Row1} (h : RowsSm L) (hl : L.length ≤ 6) (i : Nat) : Sm (sumL ((Go.Proofs.Ytgmedfloflplgaa.prods L).take i)) := by
  have hb : ∀ n, n ≤ 6 → (sumL ((Go.Proofs.Ytgmedfloflplgaa.prods L).take n)).natAbs ≤ n * 42535295865117307932921825928971026432 := by
    intro n
    induction n with
    | zero => intro _; simp [sumL]
    | succ n ih =>
      intro hn
      have ih := ih (by omega)
      by_cases hlt : n < L.length
      · rw [sumL_next _ _ (by simpa [Go.Proofs.Ytgmedfloflplgaa.prods] using hlt)]
        obtain ⟨x, y, z, he, hx, hy, hz⟩ := h n hlt
        have h3 := prod3 hx hy hz 3
        have he2 : (Go.Proofs.Ytgmedfloflplgaa.prods L).getD n 0 = prodL ([x, y, z] : List Int) := by
          have : (Go.Proofs.Ytgmedfloflplgaa.prods L).getD n 0 = prodL (L.getD n row0).xs := by simp [Go.Proofs.Ytgmedfloflplgaa.prods, List.getD_eq_getElem?_getD, hlt]
          rw [this, he]
        rw [he2]
        simp only [List.take_succ_cons, List.take_zero] at h3
        rw [Nat.succ_mul]
        exact Nat.le_trans (Int.natAbs_add_le _ _) (Nat.add_le_add ih h3)
      · rw [List.take_of_length_le (by simp [Go.Proofs.Ytgmedfloflplgaa.prods]; omega)]
        rw [List.take_of_length_le (by simp [Go.Proofs.Ytgmedfloflplgaa.prods]; omega)] at ih
        exact Nat.le_trans ih (Nat.mul_le_mul_right _ (Nat.le_succ n))
  unfold Sm
  by_cases hi : i ≤ 6
  · have := hb i hi; omega
  · have h6 := hb 6 (by omega)
    rw [List.take_of_length_le (by simp [Go.Proofs.Ytgmedfloflplgaa.prods]; omega)] at h6 ⊢
    omega
theorem ext_grown {a w w' : World} {row : Option Nat} (h : Ext a w) (k : w.grownBy w' row) (hr : ∀ g, row = some g → a.heap.size ≤ g) : Ext a w' := Below.grown h k h.size hr
end Go.Proofs.Ytgmedfloflplgaa
/- exact: Circle, what it computes: plain laws. -/
namespace Go.Proofs.Ytgmedfloflplgaa
set_option linter.unusedSimpArgs false
set_option linter.unusedVariables false

/-- The determinant that tells where the fourth point lies. -/
def detT (a b c d : Pt) (i j k : Nat) : List Int :=
  let X := fun n => (pt3 a b c n).x - d.x
  let Y := fun n => (pt3 a b c n).y - d.y
  let Z := fun n => X n * X n + Y n * Y n
  [X i * (Y j * (Z k * 1)), -X i * (Y k * (Z j * 1))]
def detsUp (a b c d : Pt) : Nat → List Int
  | 0 => []
  | i + 1 => detsUp a b c d i ++ detT a b c d i ((i + 1) % 3) ((i + 2) % 3)
def detF (a b c d : Pt) : Int := sumL (detsUp a b c d 3)
def CircleF (a b c d : Pt) : Int × Int :=
  if firstE validE [a, b, c, d] = 0 then (if sideF a b c = 0 then (0, 1) else (sideF a b c * cmpI (detF a b c d) 0, 0)) else (0, firstE validE [a, b, c, d])

def S6 (ax ay bx b_y cx cy : Int) : Int := (bx - ax) * (cy - ay) - (b_y - ay) * (cx - ax)
def D8 (ax ay bx b_y cx cy dx dy : Int) : Int :=
  let x0 := ax - dx; let y0 := ay - dy; let x1 := bx - dx; let y1 := b_y - dy; let x2 := cx - dx; let y2 := cy - dy
  let z0 := x0 * x0 + y0 * y0; let z1 := x1 * x1 + y1 * y1; let z2 := x2 * x2 + y2 * y2
  x0 * (y1 * (z2 * 1)) + (-x0 * (y2 * (z1 * 1)) + (x1 * (y2 * (z0 * 1)) + (-x1 * (y0 * (z2 * 1)) + (x2 * (y0 * (z1 * 1)) + (-x2 * (y1 * (z0 * 1)) + 0)))))
theorem D8_cyc (ax ay bx b_y cx cy dx dy : Int) : D8 bx b_y cx cy ax ay dx dy = D8 ax ay bx b_y cx cy dx dy := by unfold D8; grind
theorem D8_swap (ax ay bx b_y cx cy dx dy : Int) : D8 bx b_y ax ay cx cy dx dy = -D8 ax ay bx b_y cx cy dx dy := by unfold D8; grind
theorem S6_cyc (ax ay bx b_y cx cy : Int) : S6 bx b_y cx cy ax ay = S6 ax ay bx b_y cx cy := by unfold S6; grind
theorem S6_swap (ax ay bx b_y cx cy : Int) : S6 bx b_y ax ay cx cy = -S6 ax ay bx b_y cx cy := by unfold S6; grind
theorem far_law (ax ay p q r s u v : Int) :
    (u * (2 * (p * s - q * r)) - (s * (p * p + q * q) - q * (r * r + s * s))) * (u * (2 * (p * s - q * r)) - (s * (p * p + q * q) - q * (r * r + s * s))) +
      (v * (2 * (p * s - q * r)) - (p * (r * r + s * s) - r * (p * p + q * q))) * (v * (2 * (p * s - q * r)) - (p * (r * r + s * s) - r * (p * p + q * q))) -
      ((s * (p * p + q * q) - q * (r * r + s * s)) * (s * (p * p + q * q) - q * (r * r + s * s)) + (p * (r * r + s * s) - r * (p * p + q * q)) * (p * (r * r + s * s) - r * (p * p + q * q))) =
      -4 * S6 ax ay (p + ax) (q + ay) (r + ax) (s + ay) * D8 ax ay (p + ax) (q + ay) (r + ax) (s + ay) (u + ax) (v + ay) := by
  unfold S6 D8; grind
def S3 (a b c : Pt) : Int := S6 a.x a.y b.x b.y c.x c.y
def D4 (a b c d : Pt) : Int := D8 a.x a.y b.x b.y c.x c.y d.x d.y
theorem detF_eq (a b c d : Pt) : detF a b c d = D4 a b c d := by
  simp [detF, detsUp, detT, sumL, D4, D8, pt3]
theorem cmpI_sub (x y : Int) : cmpI x y = cmpI (x - y) 0 := by
  unfold cmpI; split <;> split <;> (try split) <;> omega
theorem sideF_eq (a b c : Pt) : sideF a b c = cmpI (S3 a b c) 0 := by
  unfold sideF; rw [cmpI_sub]; rfl
theorem cmpI_zero (x : Int) : cmpI x 0 = 0 ↔ x = 0 := by
  unfold cmpI; split
  · omega
  · split <;> omega
theorem cmpI_neg (x : Int) : cmpI (-x) 0 = -cmpI x 0 := by
  unfold cmpI; split <;> split <;> (try split) <;> omega
/-- Where the fourth point lies. -/
def circK (a b c d : Pt) : Int × Int := if S3 a b c = 0 then (0, 1) else (cmpI (S3 a b c) 0 * cmpI (D4 a b c d) 0, 0)
theorem CircleF_ok {a b c d : Pt} (h : firstE validE [a, b, c, d] = 0) : CircleF a b c d = circK a b c d := by
  unfold CircleF circK
  rw [if_pos h, detF_eq, sideF_eq]
  by_cases h0 : S3 a b c = 0
  · rw [if_pos ((cmpI_zero _).2 h0), if_pos h0]
  · rw [if_neg (fun k => h0 ((cmpI_zero _).1 k)), if_neg h0]
theorem circK_cyc (a b c d : Pt) : circK b c a d = circK a b c d := by
  unfold circK S3 D4; rw [S6_cyc, D8_cyc]
theorem circK_swap (a b c d : Pt) : circK b a c d = circK a b c d := by
  unfold circK S3 D4
  rw [S6_swap, D8_swap, cmpI_neg, cmpI_neg]
  by_cases h0 : S6 a.x a.y b.x b.y c.x c.y = 0
  · rw [if_pos (by omega), if_pos h0]
  · rw [if_neg (by omega), if_neg h0, Int.neg_mul_neg]
theorem sgn_key {S D f r : Int} (h : f - r = -4 * S * D) : cmpI S 0 * cmpI D 0 = cmpI r f := by
  rcases Int.lt_trichotomy S 0 with hS | hS | hS
  · rcases Int.lt_trichotomy D 0 with hD | hD | hD
    · have := Int.mul_pos_of_neg_of_neg hS hD
      have h2 : f - r = -4 * (S * D) := by rw [h]; rw [Int.mul_assoc]
      generalize S * D = k at *
      unfold cmpI; rw [if_pos hS, if_pos hD, if_neg (by omega), if_pos (by omega)]; decide
    · subst hD; simp at h; unfold cmpI; rw [if_neg (show ¬ r < f by omega), if_neg (show ¬ f < r by omega)]; simp
    · have := Int.mul_neg_of_neg_of_pos hS hD
      have h2 : f - r = -4 * (S * D) := by rw [h]; rw [Int.mul_assoc]
      generalize S * D = k at *
      unfold cmpI; rw [if_pos hS, if_neg (by omega), if_pos hD, if_pos (by omega)]; decide
  · subst hS; simp at h; unfold cmpI; rw [if_neg (show ¬ r < f by omega), if_neg (show ¬ f < r by omega)]; simp
  · rcases Int.lt_trichotomy D 0 with hD | hD | hD
    · have := Int.mul_neg_of_pos_of_neg hS hD
      have h2 : f - r = -4 * (S * D) := by rw [h]; rw [Int.mul_assoc]
      generalize S * D = k at *
      unfold cmpI; rw [if_neg (by omega), if_pos hS, if_pos hD, if_pos (by omega)]; decide
    · subst hD; simp at h; unfold cmpI; rw [if_neg (show ¬ r < f by omega), if_neg (show ¬ f < r by omega)]; simp
    · have := Int.mul_pos hS hD
      have h2 : f - r = -4 * (S * D) := by rw [h]; rw [Int.mul_assoc]
      generalize S * D = k at *
      unfold cmpI; rw [if_neg (by omega), if_pos hS, if_neg (by omega), if_pos hD, if_neg (by omega), if_pos (by omega)]; decide
theorem good_pt3 {a b c : Pt} (ha : Good a) (hb : Good b) (hc : Good c) (i : Nat) : Good (pt3 a b c i) := by
  unfold pt3; split
  · exact ha
  · split
    · exact hb
    · exact hc
theorem diff_bd {p d : Pt} (hp : Good p) (hd : Good d) : (p.x - d.x).natAbs ≤ 2147483648 ∧ (p.y - d.y).natAbs ≤ 2147483648 ∧ ((p.x - d.x) * (p.x - d.x) + (p.y - d.y) * (p.y - d.y)).natAbs ≤ 9223372036854775808 := by
  obtain ⟨p1, p2, p3, p4⟩ := hp
  obtain ⟨d1, d2, d3, d4⟩ := hd
  have hx : (p.x - d.x).natAbs ≤ 2147483648 := by omega
  have hy : (p.y - d.y).natAbs ≤ 2147483648 := by omega
  have h1 := natAbs_mul_le hx hx
  have h2 := natAbs_mul_le hy hy
  exact ⟨hx, hy, Nat.le_trans (Int.natAbs_add_le _ _) (by omega)⟩
theorem neg_bd {x : Int} {n : Nat} (h : x.natAbs ≤ n) : (-x).natAbs ≤ n := by omega
end Go.Proofs.Ytgmedfloflplgaa
/- exact: Circle. -/
namespace Go.Proofs.Ytgmedfloflplgaa
set_option linter.unusedSimpArgs false
set_option linter.unusedVariables false
open Go.RowKit

theorem news_at2 {w : World} {b : Nat} {x y : Value} (h0 : w.cell? ⟨b, 0, none⟩ = some x) (h1 : w.cell? ⟨b, 1, none⟩ = some y) : ∀ (j : Nat) (u : Value), ([x, y] : List Value)[j]? = some u → w.cell? ((⟨b, 0, none⟩ : Addr).add j) = some u := fun j u hu => by
  have hadd : (⟨b, 0, none⟩ : Addr).add j = ⟨b, j, none⟩ := by unfold Addr.add; split <;> simp_all
  rw [hadd]
  match j with
  | 0 => rw [h0]; simpa using hu
  | 1 => rw [h1]; simpa using hu
  | j + 2 => simp at hu
theorem vecInfo : (Try.prog.info? 89).map (fun i => (i.zero, i.size, i.bytes)) = some (some (.slice none 0 0), 1, 24) := by kernel_rfl

theorem arr_start (w : World) (cs : Array Value) (t : TypeId) (b : Nat) (hcs : cs = #[.bool false, .slice none 0 0, .bool false, .slice none 0 0, .bool false, .slice none 0 0]) (h : Blk w b cs t) :
    Arr w b [⟨false, none, 0, 0⟩, ⟨false, none, 0, 0⟩, ⟨false, none, 0, 0⟩] [0, 0, 0] := by
  subst hcs
  refine ⟨rfl, h.own _ (by simp) (fun o x y => ?_), fun k hk => ?_⟩
  · match o with
    | 0 => simp
    | 1 => simp
    | 2 => simp
    | 3 => simp
    | 4 => simp
    | 5 => simp
    | o + 6 => simp
  · match k, hk with
    | 0, _ => exact ⟨h.cell 0, h.cell 1, isI_zero _⟩
    | 1, _ => exact ⟨h.cell 2, h.cell 3, isI_zero _⟩
    | 2, _ => exact ⟨h.cell 4, h.cell 5, isI_zero _⟩
    | k + 3, hk => simp at hk; omega
theorem Three.start (w : World) {a b c d : Pt} : Three (((w.alloc (.cells #[.bool false, .slice none 0 0, .bool false, .slice none 0 0, .bool false, .slice none 0 0] 86)).alloc (.cells #[.bool false, .slice none 0 0, .bool false, .slice none 0 0, .bool false, .slice none 0 0] 86)).alloc (.cells #[.bool false, .slice none 0 0, .bool false, .slice none 0 0, .bool false, .slice none 0 0] 86)) w.heap.size (w.heap.size + 1) (w.heap.size + 2) a b c d 0 :=
  ⟨_, _, _, _, _, _, rfl, rfl, rfl, arr_start _ _ 86 _ rfl (((Blk.at _ _ rfl).alloc _).alloc _), arr_start _ _ 86 _ rfl ((Blk.at _ _ (by simp)).alloc _), arr_start _ _ 86 _ rfl (Blk.at _ _ (by simp)), fun j hj => absurd hj (by omega)⟩
theorem index3 (a b c : Pt) (i : Nat) (hi : i < 3) : ∀ w, (Instr.index 87 (.agg #[.int .i64 a.x, .int .i64 a.y, .int .i64 b.x, .int .i64 b.y, .int .i64 c.x, .int .i64 c.y]) (.int .i64 (i : Int))).run Try.prog w = .ok (.agg #[.int .i64 (pt3 a b c i).x, .int .i64 (pt3 a b c i).y]) w := by
  match i, hi with
  | 0, _ => intro w; kernel_rfl
  | 1, _ => intro w; kernel_rfl
  | 2, _ => intro w; kernel_rfl
  | i + 3, hi => omega

theorem sq_small {x y : Int} (hx : x.natAbs ≤ 2147483648) (hy : y.natAbs ≤ 2147483648) {b1 b2 c1 c2 : Nat} {p1 p2 : List IV} :
    (∀ i, i < 2 → ∀ k, Sm (prodL ((([⟨b1, c1, p1, [x, x]⟩, ⟨b2, c2, p2, [y, y]⟩] : List Row1).getD i ⟨0, 0, [], []⟩).xs.take k))) ∧ (∀ i, Sm (sumL ((prods [⟨b1, c1, p1, [x, x]⟩, ⟨b2, c2, p2, [y, y]⟩]).take i))) := by
  have h1 := natAbs_mul_le hx hx
  have h2 := natAbs_mul_le hy hy
  refine ⟨fun i hi k => ?_, fun i => ?_⟩
  · match i, hi with
    | 0, _ => 
      match k with
      | 0 => simp [prodL, Sm]
      | 1 => simp [prodL, Sm]; omega
      | k + 2 => simp [prodL, Sm]; omega
    | 1, _ =>
      match k with
      | 0 => simp [prodL, Sm]
      | 1 => simp [prodL, Sm]; omega
      | k + 2 => simp [prodL, Sm]; omega
    | i + 2, hi => omega
  · match i with
    | 0 => simp [prods, sumL, Sm]
    | 1 => simp [prods, sumL, prodL, Sm]; omega
    | i + 2 => simp [prods, sumL, prodL, Sm]; omega

set_option maxRecDepth 100000 in
set_option maxHeartbeats 8000000 in
theorem Circle_c (a b c d : Pt) (w : World) : Calls Try.prog 15 #[a.v, b.v, c.v, d.v] w fun e w' => e = .returned (.tuple #[.int .i64 (CircleF a b c d).1, .int .i64 (CircleF a b c d).2]) ∧ Ext w w' := by
  obtain ⟨i0, hi0, hz0, hz1, hz2⟩ := info_parts vecInfo
  go_enter Try.func15, Try.ntmps15
  go_wp2_with fail
  refine (evalid_c _ 4 4 [a, b, c, d] _ rfl (by omega) (by omega) (Pts.four (Blk.at _ 25 (by simp)).at')).mono ?_
  rintro e w2 ⟨rfl, hx⟩
  have hA : At w2 w.heap.size #[.int .i64 a.x, .int .i64 a.y] := (((((Blk.at _ 25 rfl).alloc _).alloc _).alloc _).alloc _).ext hx |>.at'
  have hB : At w2 (w.heap.size + 1) #[.int .i64 b.x, .int .i64 b.y] := ((((Blk.at _ 25 (by simp)).alloc _).alloc _).alloc _).ext hx |>.at'
  have hC : At w2 (w.heap.size + 2) #[.int .i64 c.x, .int .i64 c.y] := (((Blk.at _ 25 (by simp)).alloc _).alloc _).ext hx |>.at'
  have hD : At w2 (w.heap.size + 3) #[.int .i64 d.x, .int .i64 d.y] := ((Blk.at _ 25 (by simp)).alloc _).ext hx |>.at'
  have hE : Ext w w2 := (by repeat (first | exact Ext.refl _ | assumption | refine Ext.setCell ?_ (by first | (simp; done) | (simp; omega) | omega) _ | refine Ext.alloc ?_ _ | refine Ext.drew ?_ | refine Ext.trans ?_ (by assumption)))
  have HE := Lib.hid hE; clear hx hE
  by_cases h0 : firstE validE [a, b, c, d] = 0
  · have hn : Good a ∧ Good b ∧ Good c ∧ Good d := ⟨good_of_validE (firstE_zero h0 a (by simp)), good_of_validE (firstE_zero h0 b (by simp)), good_of_validE (firstE_zero h0 c (by simp)), good_of_validE (firstE_zero h0 d (by simp))⟩
    have hF := CircleF.eq_1 a b c d
    rw [if_pos h0] at hF
    have HN := Lib.hid hn; clear hn
    rw [h0]
    clear h0
    go_wp2_with fail
    refine (side_good a b c _ HN.out.1 HN.out.2.1 HN.out.2.2.1).mono ?_
    rintro e w3 ⟨rfl, hx3⟩
    have hA3 := hA.ext hx3 (by simp)
    have hB3 := hB.ext hx3 (by simp)
    have hC3 := hC.ext hx3 (by simp)
    have hD3 := hD.ext hx3 (by simp)
    have HE3 := Lib.hid (HE.out.trans hx3); clear hx3 hA hB hC hD
    have hsb : -1 ≤ sideF a b c ∧ sideF a b c ≤ 1 := cmpI_bd _ _
    by_cases hs0 : sideF a b c = 0
    · rw [if_pos hs0] at hF
      have HF := Lib.hid hF; clear hF
      rw [hs0]
      clear hs0 hsb
      go_wp2_with fail
      go_ret2
      exact ⟨by rw [HF.out]; rfl, HE3.out⟩
    · rw [if_neg hs0] at hF
      have hs0' : (sideF a b c == 0) = false := by rw [beq_eq_false_iff_ne]; exact hs0
      obtain ⟨hsb1, hsb2⟩ := hsb
      have HF := Lib.hid hF; clear hF hs0
      have HS := Lib.hid (rfl : sideF a b c = sideF a b c)
      generalize sideF a b c = turn at *
      clear HS
      have hl0 := hA3.lt (by simp)
      have hl1 := hB3.lt (by simp)
      have hl2 := hC3.lt (by simp)
      have hl3 := hD3.lt (by simp)
      have hbxw : w.heap.size + 3 < w3.heap.size := hl3
      go_upto_region 8 with (fail)
      refine wp_gen (fun W => (Ext w W ∧ At W w.heap.size #[.int .i64 a.x, .int .i64 a.y] ∧ At W (w.heap.size + 1) #[.int .i64 b.x, .int .i64 b.y] ∧ At W (w.heap.size + 2) #[.int .i64 c.x, .int .i64 c.y] ∧ At W (w.heap.size + 3) #[.int .i64 d.x, .int .i64 d.y]) ∧ Three W w3.heap.size (w3.heap.size + 1) (w3.heap.size + 2) a b c d 0)
        ⟨⟨Ext.trans HE3.out (by repeat (first | exact Ext.refl _ | assumption | refine Ext.setCell ?_ (by first | (simp; done) | (simp; omega) | omega) _ | refine Ext.alloc ?_ _ | refine Ext.drew ?_ | refine Ext.trans ?_ (by assumption))), ((hA3.alloc (by simp)).alloc (by simp)).alloc (by simp), ((hB3.alloc (by simp)).alloc (by simp)).alloc (by simp), ((hC3.alloc (by simp)).alloc (by simp)).alloc (by simp), ((hD3.alloc (by simp)).alloc (by simp)).alloc (by simp)⟩, Three.start w3⟩ ?_
      clear hA3 hB3 hC3 hD3
      generalize w3.heap.size = bx at *
      rintro W ⟨⟨hE, hA4, hB4, hC4, hDW⟩, hT⟩
      have HE := Lib.hid hE; have HT := Lib.hid hT; clear hE hT
      go_wp2_with fail
      have HD := Lib.hid hDW; clear hA4 hB4 hC4 hDW
      go_loopw [40] (fun v ws => ∃ i : Nat, i ≤ 3 ∧ v = .int .i64 (i : Int) ∧ Ext w ws ∧ At ws (w.heap.size + 3) #[.int .i64 d.x, .int .i64 d.y] ∧ Three ws bx (bx + 1) (bx + 2) a b c d i) (fun v _ => 3 - (intOf v).toNat)
      case atStart => exact ⟨0, by omega, rfl, HE.out, HD.out, HT.out⟩
      case round =>
        obtain ⟨i, hi, rfl, hE, hDW, hT⟩ := hrel
        have HE4 := Lib.hid hE; have HD4 := Lib.hid hDW; have HT4 := Lib.hid hT; clear hE hDW hT
        by_cases hlt : i < 3
        · --{{
          have hidx := index3 a b c i hlt
          have t0 : (0 : Int) ≤ (i : Int) := by omega
          have t1 : (i : Int) < 3 := by omega
          have hg : Good (pt3 a b c i) := by
            obtain ⟨n1, n2, n3, _⟩ := HN.out
            unfold pt3; split
            · exact n1
            · split
              · exact n2
              · exact n3
          generalize hp : pt3 a b c i = p at hidx hg
          have HPT := Lib.hid hp; clear hp
          obtain ⟨g1, g2, g3, g4⟩ := hg
          obtain ⟨_, _, _, d1, d2, d3, d4⟩ := HN.out
          have e1 : IntKind.i64.wrap (p.x - d.x) = p.x - d.x := IntWalk.i64_in _ (by omega)
          have e2 : IntKind.i64.wrap (p.y - d.y) = p.y - d.y := IntWalk.i64_in _ (by omega)
          have hT5 : Three wr bx (bx + 1) (bx + 2) a b c d i := HT4.out
          have ho5 := hT5.own
          have hbz := ho5.2.2.lt (by omega)
          go_upto_region 11 with (fail)
          refine wp_gen (fun W => Ext w W ∧ At W wr.heap.size #[.int .i64 p.x, .int .i64 p.y] ∧ At W (w.heap.size + 3) #[.int .i64 d.x, .int .i64 d.y] ∧ Own W bx 6 ∧ Own W (bx + 1) 6 ∧ Three W bx (bx + 1) (bx + 2) a b c d i)
            ⟨HE4.out.alloc _, (Blk.at _ 25 rfl).at', HD4.out.alloc (by simp), Own.ext (by repeat (first | exact Ext.refl _ | assumption | refine Ext.setCell ?_ (by first | (simp; done) | (simp; omega) | omega) _ | refine Ext.alloc ?_ _ | refine Ext.drew ?_ | refine Ext.trans ?_ (by assumption))) ho5.1 (by omega), Own.ext (by repeat (first | exact Ext.refl _ | assumption | refine Ext.setCell ?_ (by first | (simp; done) | (simp; omega) | omega) _ | refine Ext.alloc ?_ _ | refine Ext.drew ?_ | refine Ext.trans ?_ (by assumption))) ho5.2.1 (by omega), Three.ext (by repeat (first | exact Ext.refl _ | assumption | refine Ext.setCell ?_ (by first | (simp; done) | (simp; omega) | omega) _ | refine Ext.alloc ?_ _ | refine Ext.drew ?_ | refine Ext.trans ?_ (by assumption))) hT5⟩ ?_
          have hbb : w.heap.size + 3 < bx := hbxw
          have hbw : w.heap.size ≤ bx := by omega
          clear hT5 ho5
          generalize wr.heap.size = b16 at *
          rintro W5 ⟨E5, P5, D5, O5, Q5, T5⟩
          have HT5 := Lib.hid T5; clear T5
          have u0 : i * 2 < 6 := by omega
          have u1 : i * 2 + 1 < 6 := by omega
          go_region_held3 (fun w' => Ext w w' ∧ At w' b16 #[.int .i64 p.x, .int .i64 p.y] ∧ At w' (w.heap.size + 3) #[.int .i64 d.x, .int .i64 d.y] ∧ Own w' bx 6 ∧ Own w' (bx + 1) 6)
            (first | exact ⟨E5.drew, P5, D5, O5, Q5⟩ | exact kept)
            ((go_at_call 32; refine (From_c _ _ (by omega) (by omega)).mono ?_; rintro e w6 ⟨r, rfl, hr, hx⟩))
          go_wp2_with fail
          refine wp_gen (fun W => Ext w W ∧ At W (w.heap.size + 3) #[.int .i64 d.x, .int .i64 d.y] ∧ Half W bx (bx + 1) (bx + 2) a b c d i) ⟨And.left (by assumption), by exact kept, ?_⟩ ?_
          · refine Three.putXY (Three.ext (Ext.trans (Ext.trans ((Ext.refl W5).drew) (by assumption)) hx) HT5.out) hlt ?_ ?_ (by omega) (by omega) (by omega)
            · rw [HPT.out]; exact IsI.keep (by assumption) hx.ik
            · rw [HPT.out]; exact hr
          · clear hx hr E5 P5 D5 O5 Q5
            rintro W7 ⟨E7, D7, H7⟩
            have ho7 := H7.own.2.2
            have hbz7 := ho7.lt (by omega)
            obtain ⟨q, r, k1, k2, k3, k4, hq, hr⟩ := H7.at hlt
            rw [HPT.out] at hq hr
            have hX : (p.x - d.x).natAbs ≤ 2147483648 := by omega
            have hY : (p.y - d.y).natAbs ≤ 2147483648 := by omega
            have HX := Lib.hid hX; have HY := Lib.hid hY
            have HQ := Lib.hid hq; have HR := Lib.hid hr; have HH := Lib.hid H7; clear hq hr H7 hX hY
            go_region_held3 (fun w' => Ext w w' ∧ At w' (w.heap.size + 3) #[.int .i64 d.x, .int .i64 d.y] ∧ w'.cell? ⟨bx, i * 2, none⟩ = some (.bool q.neg) ∧ w'.cell? ⟨bx, i * 2 + 1, none⟩ = some (.slice q.a q.n q.c) ∧ w'.cell? ⟨bx + 1, i * 2, none⟩ = some (.bool r.neg) ∧ w'.cell? ⟨bx + 1, i * 2 + 1, none⟩ = some (.slice r.a r.n r.c) ∧ Own w' (bx + 2) 6)
              (first | exact ⟨E7.drew, D7, k1, k2, k3, k4, ho7⟩ | exact kept)
              (first
                | (go_at_call 54; refine (sum_c' _ 2 2 [⟨W7.heap.size, 2, [q, q], [p.x - d.x, p.x - d.x]⟩, ⟨W7.heap.size + 1, 2, [r, r], [p.y - d.y, p.y - d.y]⟩] _ rfl (by omega) ?_ (sq_small HX.out HY.out).1 (sq_small HX.out HY.out).2).mono ?_; (refine Vecs.two rfl rfl (by omega) (by omega) (At.mk2 ?_ ?_) (Vec.two (At.mk4 ?_ ?_ ?_ ?_) (IsI.keep HQ.out ?_) (IsI.keep HQ.out ?_)) (Vec.two (At.mk4 ?_ ?_ ?_ ?_) (IsI.keep HR.out ?_) (IsI.keep HR.out ?_)); (all_goals first | (go_simp; done) | (repeat' (first | with_reducible exact IK.refl _ | with_reducible refine IK.setCell ?_ (by intro k n; go_simp) _ | with_reducible refine IK.alloc ?_ _ | with_reducible refine IK.drew ?_ | with_reducible refine IK.trans ?_ (Ext.ik (by assumption)))))); rintro e w8 ⟨z, rfl, hz, hx8⟩)
                | (go_at_call 54; refine (sum_c' _ 2 2 [⟨W7.heap.size + 1, 2, [q, q], [p.x - d.x, p.x - d.x]⟩, ⟨W7.heap.size, 2, [r, r], [p.y - d.y, p.y - d.y]⟩] _ rfl (by omega) ?_ (sq_small HX.out HY.out).1 (sq_small HX.out HY.out).2).mono ?_; (refine Vecs.two rfl rfl (by omega) (by omega) (At.mk2 ?_ ?_) (Vec.two (At.mk4 ?_ ?_ ?_ ?_) (IsI.keep HQ.out ?_) (IsI.keep HQ.out ?_)) (Vec.two (At.mk4 ?_ ?_ ?_ ?_) (IsI.keep HR.out ?_) (IsI.keep HR.out ?_)); (all_goals first | (go_simp; done) | (repeat' (first | with_reducible exact IK.refl _ | with_reducible refine IK.setCell ?_ (by intro k n; go_simp) _ | with_reducible refine IK.alloc ?_ _ | with_reducible refine IK.drew ?_ | with_reducible refine IK.trans ?_ (Ext.ik (by assumption)))))); rintro e w8 ⟨z, rfl, hz, hx8⟩))
            all_goals
              have hH8 : Half w8 bx (bx + 1) (bx + 2) a b c d i := Half.ext (Ext.trans ((((Ext.refl W7).alloc _).alloc _).alloc _).drew hx8) HH.out
              go_wp2_with fail
              go_roundw
              case rel =>
                refine ⟨i + 1, by omega, by go_num, And.left (by assumption), by exact kept, Half.putZ hH8 hlt ?_ (by omega) (by omega)⟩
                rw [HPT.out]
                simpa [prods, sumL, prodL] using hz
              case measure => simp [intOf]; omega
          --}}
        · obtain rfl : i = 3 := by omega
          have hT3 := HT4.out
          have hE3 := HE4.out
          go_upto_region 16 with (fail)
          rw [show ((3 : Nat) : Int) = 3 from rfl]
          refine wp_gen (fun W => Ext w W ∧ Three W bx (bx + 1) (bx + 2) a b c d 3) ⟨hE3, hT3⟩ ?_
          clear hE3 hT3 HE4 HT4 HD4
          rintro W2 ⟨E2, T2⟩
          have HE2 := Lib.hid E2; have HT2 := Lib.hid T2; clear E2 T2
          go_loopw [17, 79] (fun tv iv ws => ∃ (i : Nat) (L : List Row1), i ≤ 3 ∧ iv = .int .i64 (i : Int) ∧ L.length = 2 * i ∧ Terms W2 ws tv L ∧ prods L = detsUp a b c d i ∧ RowsSm L ∧ Ext W2 ws) (fun _ v _ => 3 - (intOf v).toNat)
          case atStart => exact ⟨0, [], by omega, rfl, rfl, Terms.start W2, rfl, fun i hi => absurd hi (by simp), Ext.refl W2⟩
          case round =>
            obtain ⟨i, L, hi, rfl, hLn, hT, hLp, hLs, hE⟩ := hrel
            by_cases hlt : i < 3
            · obtain ⟨j, hj⟩ : ∃ j, j = (i + 1) % 3 := ⟨_, rfl⟩
              obtain ⟨k, hk⟩ : ∃ k, k = (i + 2) % 3 := ⟨_, rfl⟩
              have hj3 : j < 3 := by omega
              have hk3 : k < 3 := by omega
              have ej : ((i : Int) + 1) % 3 = (j : Int) := by omega
              have ek : ((i : Int) + 2) % 3 = (k : Int) := by omega
              have HJK := Lib.hid (show j = (i + 1) % 3 ∧ k = (i + 2) % 3 from ⟨hj, hk⟩); clear hj hk
              obtain ⟨q, _, _, ⟨c1, c2⟩, _, _, hq, _, _⟩ := HT2.out.at i hlt
              obtain ⟨_, rj, sj, _, ⟨c3, c4⟩, ⟨c5, c6⟩, _, hrj, hsj⟩ := HT2.out.at j hj3
              obtain ⟨_, rk, sk, _, ⟨c7, c8⟩, ⟨c9, c10⟩, _, hrk, hsk⟩ := HT2.out.at k hk3
              have HSS : Hid (∀ W, Ext W2 W → Ext W2 W ∧ W.cell? ⟨bx, i * 2, none⟩ = some (.bool q.neg) ∧ W.cell? ⟨bx, i * 2 + 1, none⟩ = some (.slice q.a q.n q.c) ∧ W.cell? ⟨bx + 1, j * 2, none⟩ = some (.bool rj.neg) ∧ W.cell? ⟨bx + 1, j * 2 + 1, none⟩ = some (.slice rj.a rj.n rj.c) ∧ W.cell? ⟨bx + 2, j * 2, none⟩ = some (.bool sj.neg) ∧ W.cell? ⟨bx + 2, j * 2 + 1, none⟩ = some (.slice sj.a sj.n sj.c) ∧ W.cell? ⟨bx + 1, k * 2, none⟩ = some (.bool rk.neg) ∧ W.cell? ⟨bx + 1, k * 2 + 1, none⟩ = some (.slice rk.a rk.n rk.c) ∧ W.cell? ⟨bx + 2, k * 2, none⟩ = some (.bool sk.neg) ∧ W.cell? ⟨bx + 2, k * 2 + 1, none⟩ = some (.slice sk.a sk.n sk.c)) := Lib.hid fun W e => ⟨e, e.cell c1, e.cell c2, e.cell c3, e.cell c4, e.cell c5, e.cell c6, e.cell c7, e.cell c8, e.cell c9, e.cell c10⟩
              have HI := Lib.hid (show IsI W2 q _ ∧ IsI W2 rj _ ∧ IsI W2 sj _ ∧ IsI W2 rk _ ∧ IsI W2 sk _ from ⟨hq, hrj, hsj, hrk, hsk⟩)
              have lx := lt_of_cell c1; have ly := lt_of_cell c3; have lz := lt_of_cell c5
              have HL := Lib.hid (show L.length = 2 * i ∧ prods L = detsUp a b c d i ∧ RowsSm L from ⟨hLn, hLp, hLs⟩)
              have hL2 : L.length ≤ 4 := by omega
              have HT := Lib.hid hT
              have lw := hE.size
              clear hq hrj hsj hrk hsk c1 c2 c3 c4 c5 c6 c7 c8 c9 c10 hLn hLp hLs hT
              have t0 : (0 : Int) ≤ (i : Int) := by omega
              have t1 : (i : Int) < 3 := by omega
              have t2 : (0 : Int) ≤ (j : Int) := by omega
              have t3 : (j : Int) < 3 := by omega
              have t4 : (0 : Int) ≤ (k : Int) := by omega
              have t5 : (k : Int) < 3 := by omega
              go_upto_region 19 with (fail)
              rw [ej, ek]
              clear ej ek
              go_region_held3 (fun w' => Ext W2 w' ∧ w'.cell? ⟨bx, i * 2, none⟩ = some (.bool q.neg) ∧ w'.cell? ⟨bx, i * 2 + 1, none⟩ = some (.slice q.a q.n q.c) ∧ w'.cell? ⟨bx + 1, j * 2, none⟩ = some (.bool rj.neg) ∧ w'.cell? ⟨bx + 1, j * 2 + 1, none⟩ = some (.slice rj.a rj.n rj.c) ∧ w'.cell? ⟨bx + 2, j * 2, none⟩ = some (.bool sj.neg) ∧ w'.cell? ⟨bx + 2, j * 2 + 1, none⟩ = some (.slice sj.a sj.n sj.c) ∧ w'.cell? ⟨bx + 1, k * 2, none⟩ = some (.bool rk.neg) ∧ w'.cell? ⟨bx + 1, k * 2 + 1, none⟩ = some (.slice rk.a rk.n rk.c) ∧ w'.cell? ⟨bx + 2, k * 2, none⟩ = some (.bool sk.neg) ∧ w'.cell? ⟨bx + 2, k * 2 + 1, none⟩ = some (.slice sk.a sk.n sk.c))
                (first | exact HSS.out _ (by repeat' (first | with_reducible assumption | with_reducible exact Ext.refl _ | with_reducible refine Ext.drew ?_ | with_reducible refine Ext.alloc ?_ _ | with_reducible exact Ext.trans (by repeat' (first | with_reducible assumption | with_reducible refine Ext.drew ?_ | with_reducible refine Ext.alloc ?_ _)) hx8 | (refine ext_grown ?_ hgrow (fun g hg => (owns_lt HT.out.1 hg).1)))) | exact HSS.out _ hE.drew)
                (first
                  | (go_at_call 55; refine (Neg_c' q _ _ (HI.out.1.keep (Ext.ik (by repeat' (first | with_reducible assumption | with_reducible exact Ext.refl _ | with_reducible refine Ext.drew ?_ | with_reducible refine Ext.alloc ?_ _ | with_reducible exact Ext.trans (by repeat' (first | with_reducible assumption | with_reducible refine Ext.drew ?_ | with_reducible refine Ext.alloc ?_ _)) hx8 | (refine ext_grown ?_ hgrow (fun g hg => (owns_lt HT.out.1 hg).1))))))).mono ?_; rintro e w8 ⟨r, rfl, hr, hx8⟩; obtain ⟨hc8, _, hs8⟩ := hx8.see; (try simp only [World.size_alloc, World.size_drew] at hs8))
                  | (refine step_append_lies _ (by rfl) _ _ _ (by rfl) W2.heap.size 89 i0 _ 1 24 Try.underlying90 hi0 hz0 hz1 hz2 rfl (by omega) _ L.length (L.map rowVal) (by rfl) (owns_ext (by repeat' (first | with_reducible assumption | with_reducible exact Ext.refl _ | with_reducible refine Ext.drew ?_ | with_reducible refine Ext.alloc ?_ _ | with_reducible exact Ext.trans (by repeat' (first | with_reducible assumption | with_reducible exact Ext.refl _ | with_reducible refine Ext.drew ?_ | with_reducible refine Ext.alloc ?_ _)) hx8)) HT.out.1) ⟨w8.heap.size + 1, 0, none⟩ 2 2 [.slice (some ⟨wr.heap.size, 0, none⟩) 3 3, .slice (some ⟨w8.heap.size, 0, none⟩) 3 3] (by rfl) (by rfl) ?_ (by simp [Value.oneCell']) (by omega) (by rw [maxLen]; omega) (by omega) (by simp; omega) _ rfl ?_; (focus (refine news_at2 ?_ ?_ <;> (go_simp; done))); intro g cap w1 hown1 hgrow hat hlt1)
                  | (refine step_append_lies _ (by rfl) _ _ _ (by rfl) W2.heap.size 89 i0 _ 1 24 Try.underlying90 hi0 hz0 hz1 hz2 rfl (by omega) _ L.length (L.map rowVal) (by rfl) (owns_ext (by repeat' (first | with_reducible assumption | with_reducible exact Ext.refl _ | with_reducible refine Ext.drew ?_ | with_reducible refine Ext.alloc ?_ _ | with_reducible exact Ext.trans (by repeat' (first | with_reducible assumption | with_reducible exact Ext.refl _ | with_reducible refine Ext.drew ?_ | with_reducible refine Ext.alloc ?_ _)) hx8)) HT.out.1) ⟨w8.heap.size + 2, 0, none⟩ 2 2 [.slice (some ⟨w8.heap.size, 0, none⟩) 3 3, .slice (some ⟨w8.heap.size + 1, 0, none⟩) 3 3] (by rfl) (by rfl) ?_ (by simp [Value.oneCell']) (by omega) (by rw [maxLen]; omega) (by omega) (by simp; omega) _ rfl ?_; (focus (refine news_at2 ?_ ?_ <;> (go_simp; done))); intro g cap w1 hown1 hgrow hat hlt1)
                  | (refine step_append_lies _ (by rfl) _ _ _ (by rfl) W2.heap.size 89 i0 _ 1 24 Try.underlying90 hi0 hz0 hz1 hz2 rfl (by omega) _ L.length (L.map rowVal) (by rfl) (owns_ext (by repeat' (first | with_reducible assumption | with_reducible exact Ext.refl _ | with_reducible refine Ext.drew ?_ | with_reducible refine Ext.alloc ?_ _ | with_reducible exact Ext.trans (by repeat' (first | with_reducible assumption | with_reducible exact Ext.refl _ | with_reducible refine Ext.drew ?_ | with_reducible refine Ext.alloc ?_ _)) hx8)) HT.out.1) ⟨w8.heap.size + 2, 0, none⟩ 2 2 [.slice (some ⟨w8.heap.size + 1, 0, none⟩) 3 3, .slice (some ⟨w8.heap.size, 0, none⟩) 3 3] (by rfl) (by rfl) ?_ (by simp [Value.oneCell']) (by omega) (by rw [maxLen]; omega) (by omega) (by simp; omega) _ rfl ?_; (focus (refine news_at2 ?_ ?_ <;> (go_simp; done))); intro g cap w1 hown1 hgrow hat hlt1))
              all_goals
                go_wp2_with fail
                go_roundw
                case rel =>
                  have DB := fun n => diff_bd (good_pt3 HN.out.1 HN.out.2.1 HN.out.2.2.1 n) HN.out.2.2.2
                  refine ⟨i + 1, _, by omega, by go_num, ?_, Terms.append3 HT.out hown1 hgrow hat (by repeat' (first | with_reducible assumption | with_reducible exact Ext.refl _ | with_reducible refine Ext.drew ?_ | with_reducible refine Ext.alloc ?_ _ | with_reducible exact Ext.trans (by repeat' (first | with_reducible assumption | with_reducible exact Ext.refl _ | with_reducible refine Ext.drew ?_ | with_reducible refine Ext.alloc ?_ _)) hx8)) HI.out.1 HI.out.2.1 HI.out.2.2.2.2 (hr.out _ HI.out.1) HI.out.2.2.2.1 HI.out.2.2.1 ?_ ?_ ?_ ?_, ?_, RowsSm.append HL.out.2.2 ⟨_, _, _, rfl, (DB i).1, (DB j).2.1, (DB k).2.2⟩ ⟨_, _, _, rfl, neg_bd (DB i).1, (DB k).2.1, (DB j).2.2⟩, And.left (by assumption)⟩
                  · have := HL.out.1; simp; omega
                  · first
                      | (refine At.mk6 ?_ ?_ ?_ ?_ ?_ ?_ <;> (go_simp; done))
                      | exact ((At.ext hx8 (At.drew (Blk.at _ 47 (by simp)).at') (by simp)).alloc (by simp)).alloc (by simp)
                  · refine At.mk6 ?_ ?_ ?_ ?_ ?_ ?_ <;> (go_simp; done)
                  · first | omega | (simp; omega)
                  · first | omega | (simp; omega)
                  · rw [detsUp, ← HL.out.2.1, ← HJK.out.1, ← HJK.out.2]; simp [prods, detT, prodL]
                case measure => simp [intOf]; omega
            · obtain rfl : i = 3 := by omega
              obtain ⟨g, cap, rfl, _, hg⟩ := hT.1.form (by omega)
              have HTE := Lib.hid (Terms.vecs hE hT)
              have HE := Lib.hid hE; have HL := Lib.hid (show L.length = 6 ∧ sumL (prods L) = detF a b c d ∧ RowsSm L from ⟨hLn, by rw [hLp]; rfl, hLs⟩)
              rw [hLn]
              clear hT hE hLp hLs hLn
              go_wp2_with fail
              refine (sum_c' g 6 cap L _ HL.out.1 (by omega) HTE.out (fun i hi => HL.out.2.2.prods i (by rw [HL.out.1]; exact hi)) (fun i => HL.out.2.2.sums (by rw [HL.out.1]; exact Nat.le_refl 6) i)).mono ?_
              rintro e w5 ⟨r, rfl, hr, hx5⟩
              rw [HL.out.2.1] at hr
              have HR := Lib.hid hr; have HE5 := Lib.hid (HE2.out.trans (HE.out.trans hx5)); clear hr hx5
              go_wp2_with fail
              refine (Sign_c r _ _ HR.out).mono ?_
              rintro e w6 ⟨rfl, hx6⟩
              have HE6 := Lib.hid (HE5.out.trans hx6); clear hx6
              have hb := cmpI_bd (detF a b c d) 0
              have hFF : CircleF a b c d = (turn * cmpI (detF a b c d) 0, 0) := HF.out
              have HFF := Lib.hid hFF
              clear hFF
              generalize cmpI (detF a b c d) 0 = sg at *
              have hm : IntKind.i64.wrap (turn * sg) = turn * sg := by
                refine IntWalk.i64_in _ ?_
                have : turn = -1 ∨ turn = 0 ∨ turn = 1 := by omega
                rcases this with h | h | h <;> rw [h] <;> omega
              go_wp2_with fail
              go_ret2
              exact ⟨by rw [HFF.out]; rfl, HE6.out⟩
  · have h1 : (firstE validE [a, b, c, d] != 0) = true := by rw [bne_iff_ne]; exact h0
    have hF : CircleF a b c d = (0, firstE validE [a, b, c, d]) := by rw [CircleF, if_neg h0]
    have HF := Lib.hid hF; clear hF h0
    generalize firstE validE [a, b, c, d] = ev at *
    go_wp2_with fail
    go_ret2
    exact ⟨by rw [HF.out]; rfl, HE.out⟩
end Go.Proofs.Ytgmedfloflplgaa
