/- exact: Circle, its parts. -/
import Derived.Test.YtgmedfloflplgaaESum
namespace Go.Proofs.Ytgmedfloflplgaa
open Go.RowKit

theorem At.mk4 {w : World} {b : Nat} {x y z t : Value} (h0 : w.cell? ⟨b, 0, none⟩ = some x) (h1 : w.cell? ⟨b, 1, none⟩ = some y) (h2 : w.cell? ⟨b, 2, none⟩ = some z) (h3 : w.cell? ⟨b, 3, none⟩ = some t) : At w b #[x, y, z, t] := fun o ho => by
  match o, ho with
  | 0, _ => exact h0
  | 1, _ => exact h1
  | 2, _ => exact h2
  | 3, _ => exact h3
  | o + 4, ho => simp at ho; omega
theorem Vec.two {w : World} {b : Nat} {p q : IV} {x y : Int} (h : At w b #[.bool p.neg, .slice p.a p.n p.c, .bool q.neg, .slice q.a q.n q.c]) (hp : IsI w p x) (hq : IsI w q y) : Vec w b [p, q] [x, y] := by
  refine ⟨rfl, h.lt (by simp), fun k hk => ?_⟩
  match k, hk with
  | 0, _ => exact ⟨h 0 (by simp), h 1 (by simp), hp⟩
  | 1, _ => exact ⟨h 2 (by simp), h 3 (by simp), hq⟩
  | k + 2, hk => simp at hk; omega
theorem Vec.three {w : World} {b : Nat} {p q r : IV} {x y z : Int} (h : At w b #[.bool p.neg, .slice p.a p.n p.c, .bool q.neg, .slice q.a q.n q.c, .bool r.neg, .slice r.a r.n r.c]) (hp : IsI w p x) (hq : IsI w q y) (hr : IsI w r z) : Vec w b [p, q, r] [x, y, z] := by
  refine ⟨rfl, h.lt (by simp), fun k hk => ?_⟩
  match k, hk with
  | 0, _ => exact ⟨h 0 (by simp), h 1 (by simp), hp⟩
  | 1, _ => exact ⟨h 2 (by simp), h 3 (by simp), hq⟩
  | 2, _ => exact ⟨h 4 (by simp), h 5 (by simp), hr⟩
  | k + 3, hk => simp at hk; omega
theorem Vecs.two {w : World} {B b c : Nat} {ps qs : List IV} {xs ys : List Int} {n m : Nat} (hn : ps.length = n) (hm : qs.length = m) (hn4 : n ≤ 100) (hm4 : m ≤ 100)
    (h : At w B #[.slice (some ⟨b, 0, none⟩) n n, .slice (some ⟨c, 0, none⟩) m m]) (h1 : Vec w b ps xs) (h2 : Vec w c qs ys) : Vecs w B [⟨b, n, ps, xs⟩, ⟨c, m, qs, ys⟩] := fun i hi => by
  subst hn; subst hm
  match i, hi with
  | 0, _ => exact ⟨h 0 (by simp), (by simp; omega), h1⟩
  | 1, _ => exact ⟨h 1 (by simp), (by simp; omega), h2⟩
  | i + 2, hi => simp at hi; omega

theorem IsI.neg1 {w0 : World} {a : Option Addr} {n c : Nat} {x : Int} (h0 : 0 < n) (h : IsI w0 ⟨false, a, n, c⟩ x) : IsI w0 ⟨true, a, n, c⟩ (-x) := by
  obtain ⟨l, h1, h2, h3, h4, rfl⟩ := h
  exact ⟨l, h1, h2, h3, fun _ => h0, by simp [sgn]⟩
theorem IsI.neg2 {w0 : World} {a : Option Addr} {n c : Nat} {x : Int} (h : IsI w0 ⟨true, a, n, c⟩ x) : IsI w0 ⟨false, a, n, c⟩ (-x) := by
  obtain ⟨l, h1, h2, h3, h4, rfl⟩ := h
  exact ⟨l, h1, h2, h3, by simp, by simp [sgn]⟩
theorem IsI.neg3 {w0 : World} {a : Option Addr} {c : Nat} {x : Int} (h : IsI w0 ⟨false, a, 0, c⟩ x) : IsI w0 ⟨false, a, 0, c⟩ (-x) := by
  obtain ⟨l, h1, h2, h3, h4, rfl⟩ := h
  have hl : l = [] := List.eq_nil_of_length_eq_zero h1.len
  subst hl
  exact ⟨[], h1, h2, h3, h4, by simp [sgn, mval]⟩
/-- 'Neg', once more: the slice is handed on as it is. -/
theorem Neg_c' (p : IV) (x : Int) (w : World) (h : IsI w p x) : Calls Try.prog 55 #[p.v] w fun e w' => ∃ r : IV, e = .returned r.v ∧ Hid (∀ w0, IsI w0 p x → IsI w0 r (-x)) ∧ Ext w w' := by
  obtain ⟨g, a, n, c⟩ := p
  obtain ⟨l, h1, h2, h3, h4, rfl⟩ := h
  by_cases h0 : 0 < n
  · cases g
    · have HH := Lib.hid h1; clear h1
      go_enter Try.func55, Try.ntmps55
      go_wp2
      refine bodyPost_ret (v := .agg #[.bool true, .slice a n c]) (by simp [results, Try.results55, go_sem]) rfl ?_
      exact ⟨⟨true, a, n, c⟩, rfl, fun w0 hw => hw.neg1 h0, (by repeat (first | exact Ext.refl _ | assumption | refine Ext.setCell ?_ (by first | (simp; done) | (simp; omega) | omega) _ | refine Ext.alloc ?_ _ | refine Ext.drew ?_ | refine Ext.trans ?_ (by assumption)))⟩
    · have HH := Lib.hid h1; clear h1
      go_enter Try.func55, Try.ntmps55
      go_wp2
      refine bodyPost_ret (v := .agg #[.bool false, .slice a n c]) (by simp [results, Try.results55, go_sem]) rfl ?_
      exact ⟨⟨false, a, n, c⟩, rfl, fun w0 hw => hw.neg2, (by repeat (first | exact Ext.refl _ | assumption | refine Ext.setCell ?_ (by first | (simp; done) | (simp; omega) | omega) _ | refine Ext.alloc ?_ _ | refine Ext.drew ?_ | refine Ext.trans ?_ (by assumption)))⟩
  · have hn : n = 0 := by omega
    subst hn
    have hl : l = [] := List.eq_nil_of_length_eq_zero h1.len
    subst hl
    cases g
    · have HH := Lib.hid h1; clear h1
      go_enter Try.func55, Try.ntmps55
      go_wp2
      refine bodyPost_ret (v := .agg #[.bool false, .slice a 0 c]) (by simp [results, Try.results55, go_sem]) rfl ?_
      exact ⟨⟨false, a, 0, c⟩, rfl, fun w0 hw => hw.neg3, (by repeat (first | exact Ext.refl _ | assumption | refine Ext.setCell ?_ (by first | (simp; done) | (simp; omega) | omega) _ | refine Ext.alloc ?_ _ | refine Ext.drew ?_ | refine Ext.trans ?_ (by assumption)))⟩
    · exact absurd (h4 rfl) (by simp)

/-- An array of wide integers of the call's own. -/
def Arr (w : World) (b : Nat) (ps : List IV) (xs : List Int) : Prop :=
  xs.length = ps.length ∧ Own w b (2 * ps.length) ∧ ∀ k, k < ps.length → w.cell? ⟨b, k * 2, none⟩ = some (.bool (ps.getD k ⟨false, none, 0, 0⟩).neg) ∧
    w.cell? ⟨b, k * 2 + 1, none⟩ = some (.slice (ps.getD k ⟨false, none, 0, 0⟩).a (ps.getD k ⟨false, none, 0, 0⟩).n (ps.getD k ⟨false, none, 0, 0⟩).c) ∧ IsI w (ps.getD k ⟨false, none, 0, 0⟩) (xs.getD k 0)
theorem Arr.ext {w w' : World} {b : Nat} {ps : List IV} {xs : List Int} (k : Ext w w') (h : Arr w b ps xs) (h0 : 0 < ps.length) : Arr w' b ps xs :=
  ⟨h.1, h.2.1.ext k (by omega), fun i hi => ⟨k.cell (h.2.2 i hi).1, k.cell (h.2.2 i hi).2.1, (h.2.2 i hi).2.2.keep k.ik⟩⟩
theorem IK.putAt {w : World} {b n o : Nat} (h : Own w b n) (g : Bool) (a : Option Addr) (m c : Nat) : IK w ((w.setCell ⟨b, o, none⟩ (.bool g)).setCell ⟨b, o + 1, none⟩ (.slice a m c)) :=
  ((IK.refl w).setCell (h.2.2 o) _).setCell (own3_set h.2.2 (by simp) (o + 1)) _
theorem Own.putAt {w : World} {b b' n o : Nat} (h : Own w b n) (g : Bool) (a : Option Addr) (m c : Nat) : Own ((w.setCell ⟨b', o, none⟩ (.bool g)).setCell ⟨b', o + 1, none⟩ (.slice a m c)) b n :=
  ⟨own1_set (own1_set h.1), own2_set (own2_set h.2.1), own3_set (own3_set h.2.2 (by simp)) (by simp)⟩
/-- A store into another block. -/
theorem Arr.putOther {w : World} {b b' n o : Nat} {ps : List IV} {xs : List Int} (h : Arr w b ps xs) (h' : Own w b' n) (hne : b ≠ b') (g : Bool) (a : Option Addr) (m c : Nat) :
    Arr ((w.setCell ⟨b', o, none⟩ (.bool g)).setCell ⟨b', o + 1, none⟩ (.slice a m c)) b ps xs := by
  refine ⟨h.1, h.2.1.putAt _ _ _ _, fun k hk => ⟨?_, ?_, (h.2.2 k hk).2.2.keep (IK.putAt h' _ _ _ _)⟩⟩
  · rw [World.cell?_setCell_other _ _ _ _ (by intro e; injection e with e1; exact hne e1.symm), World.cell?_setCell_other _ _ _ _ (by intro e; injection e with e1; exact hne e1.symm)]; exact (h.2.2 k hk).1
  · rw [World.cell?_setCell_other _ _ _ _ (by intro e; injection e with e1; exact hne e1.symm), World.cell?_setCell_other _ _ _ _ (by intro e; injection e with e1; exact hne e1.symm)]; exact (h.2.2 k hk).2.1
theorem getD_set_same' {α : Type} (l : List α) (j : Nat) (x d : α) (h : j < l.length) : (l.set j x).getD j d = x := by
  simp [List.getD_eq_getElem?_getD, h]
theorem getD_set_other' {α : Type} (l : List α) (j i : Nat) (x d : α) (h : j ≠ i) : (l.set j x).getD i d = l.getD i d := by
  simp [List.getD_eq_getElem?_getD, List.getElem?_set, h]
/-- A store into the array itself. -/
theorem Arr.put {w : World} {b i : Nat} {ps : List IV} {xs : List Int} {q : IV} {x : Int} (h : Arr w b ps xs) (hi : i < ps.length) (hq : IsI w q x) :
    Arr ((w.setCell ⟨b, i * 2, none⟩ (.bool q.neg)).setCell ⟨b, i * 2 + 1, none⟩ (.slice q.a q.n q.c)) b (ps.set i q) (xs.set i x) := by
  have hik := IK.putAt (o := i * 2) h.2.1 q.neg q.a q.n q.c
  refine ⟨by simp [h.1], by rw [List.length_set]; exact h.2.1.putAt _ _ _ _, fun k hk => ?_⟩
  rw [List.length_set] at hk
  by_cases hki : i = k
  · subst hki
    rw [getD_set_same' _ _ _ _ hi, getD_set_same' _ _ _ _ (by rw [h.1]; exact hi)]
    refine ⟨?_, ?_, hq.keep hik⟩
    · rw [World.cell?_setCell_other _ _ _ _ (by simp)]; exact World.cell?_setCell_same' _ _ _ (by rw [h.2.1.1 _ (by omega)]; rfl)
    · refine World.cell?_setCell_same' _ _ _ ?_
      rw [World.cell?_setCell_other _ _ _ _ (by simp), h.2.1.1 _ (by omega)]; rfl
  · rw [getD_set_other' _ _ _ _ _ hki, getD_set_other' _ _ _ _ _ hki]
    obtain ⟨k1, k2, k3⟩ := h.2.2 k hk
    refine ⟨?_, ?_, k3.keep hik⟩
    · rw [World.cell?_setCell_other _ _ _ _ (by simp <;> omega), World.cell?_setCell_other _ _ _ _ (by simp <;> omega)]; exact k1
    · rw [World.cell?_setCell_other _ _ _ _ (by simp <;> omega), World.cell?_setCell_other _ _ _ _ (by simp <;> omega)]; exact k2
theorem Arr.cells {w : World} {b : Nat} {ps : List IV} {xs : List Int} (h : Arr w b ps xs) (i : Nat) (hi : i < ps.length) :
    ∃ q : IV, w.cell? ⟨b, i * 2, none⟩ = some (.bool q.neg) ∧ w.cell? ⟨b, i * 2 + 1, none⟩ = some (.slice q.a q.n q.c) ∧ IsI w q (xs.getD i 0) := ⟨_, h.2.2 i hi⟩

/-- The point i of three. -/
def pt3 (a b c : Pt) (i : Nat) : Pt := if i = 0 then a else if i = 1 then b else c
/-- What the three arrays hold behind i rounds. -/
def Three (w : World) (bx by' bz : Nat) (a b c d : Pt) (i : Nat) : Prop :=
  ∃ (ps qs rs : List IV) (xs ys zs : List Int), ps.length = 3 ∧ qs.length = 3 ∧ rs.length = 3 ∧ Arr w bx ps xs ∧ Arr w by' qs ys ∧ Arr w bz rs zs ∧
    ∀ j, j < i → xs.getD j 0 = (pt3 a b c j).x - d.x ∧ ys.getD j 0 = (pt3 a b c j).y - d.y ∧
      zs.getD j 0 = ((pt3 a b c j).x - d.x) * ((pt3 a b c j).x - d.x) + ((pt3 a b c j).y - d.y) * ((pt3 a b c j).y - d.y)
theorem Three.ext {w w' : World} {bx by' bz : Nat} {a b c d : Pt} {i : Nat} (k : Ext w w') (h : Three w bx by' bz a b c d i) : Three w' bx by' bz a b c d i := by
  obtain ⟨ps, qs, rs, xs, ys, zs, h1, h2, h3, h4, h5, h6, h7⟩ := h
  exact ⟨ps, qs, rs, xs, ys, zs, h1, h2, h3, h4.ext k (by omega), h5.ext k (by omega), h6.ext k (by omega), h7⟩
/-- What they hold in the midst of a round: x and y are there, z is not yet. -/
def Half (w : World) (bx by' bz : Nat) (a b c d : Pt) (i : Nat) : Prop :=
  ∃ (ps qs rs : List IV) (xs ys zs : List Int), ps.length = 3 ∧ qs.length = 3 ∧ rs.length = 3 ∧ Arr w bx ps xs ∧ Arr w by' qs ys ∧ Arr w bz rs zs ∧
    (∀ j, j < i → xs.getD j 0 = (pt3 a b c j).x - d.x ∧ ys.getD j 0 = (pt3 a b c j).y - d.y ∧
      zs.getD j 0 = ((pt3 a b c j).x - d.x) * ((pt3 a b c j).x - d.x) + ((pt3 a b c j).y - d.y) * ((pt3 a b c j).y - d.y)) ∧
    xs.getD i 0 = (pt3 a b c i).x - d.x ∧ ys.getD i 0 = (pt3 a b c i).y - d.y
theorem Three.putXY {w : World} {bx by' bz : Nat} {a b c d : Pt} {i : Nat} (h : Three w bx by' bz a b c d i) (hi : i < 3) {q r : IV} (hq : IsI w q ((pt3 a b c i).x - d.x)) (hr : IsI w r ((pt3 a b c i).y - d.y)) (h1 : bx ≠ by') (h2 : bz ≠ bx) (h3 : bz ≠ by') :
    Half ((((w.setCell ⟨bx, i * 2, none⟩ (.bool q.neg)).setCell ⟨bx, i * 2 + 1, none⟩ (.slice q.a q.n q.c)).setCell ⟨by', i * 2, none⟩ (.bool r.neg)).setCell ⟨by', i * 2 + 1, none⟩ (.slice r.a r.n r.c)) bx by' bz a b c d i := by
  obtain ⟨ps, qs, rs, xs, ys, zs, l1, l2, l3, a1, a2, a3, hh⟩ := h
  have hox := a1.2.1
  have b1 := a1.put (i := i) (by omega) hq
  have b2 := a2.putOther (o := i * 2) hox (Ne.symm h1) q.neg q.a q.n q.c
  have b3 := a3.putOther (o := i * 2) hox h2 q.neg q.a q.n q.c
  have hr2 := hr.keep (IK.putAt (o := i * 2) hox q.neg q.a q.n q.c)
  have hoy := b2.2.1
  have c1 := b1.putOther (o := i * 2) hoy h1 r.neg r.a r.n r.c
  have c2 := b2.put (i := i) (by omega) hr2
  have c3 := b3.putOther (o := i * 2) hoy h3 r.neg r.a r.n r.c
  refine ⟨_, _, _, _, _, _, by rw [List.length_set]; exact l1, by rw [List.length_set]; exact l2, l3, c1, c2, c3, fun j hj => ?_, ?_, ?_⟩
  · rw [getD_set_other' _ _ _ _ _ (by omega), getD_set_other' _ _ _ _ _ (by omega)]; exact hh j hj
  · rw [getD_set_same' _ _ _ _ (by rw [a1.1]; omega)]
  · rw [getD_set_same' _ _ _ _ (by rw [a2.1]; omega)]
theorem Half.ext {w w' : World} {bx by' bz : Nat} {a b c d : Pt} {i : Nat} (k : Ext w w') (h : Half w bx by' bz a b c d i) : Half w' bx by' bz a b c d i := by
  obtain ⟨ps, qs, rs, xs, ys, zs, h1, h2, h3, h4, h5, h6, h7⟩ := h
  exact ⟨ps, qs, rs, xs, ys, zs, h1, h2, h3, h4.ext k (by omega), h5.ext k (by omega), h6.ext k (by omega), h7⟩
theorem Half.own {w : World} {bx by' bz : Nat} {a b c d : Pt} {i : Nat} (h : Half w bx by' bz a b c d i) : Own w bx 6 ∧ Own w by' 6 ∧ Own w bz 6 := by
  obtain ⟨ps, qs, rs, xs, ys, zs, h1, h2, h3, h4, h5, h6, h7⟩ := h
  have k1 := h4.2.1; have k2 := h5.2.1; have k3 := h6.2.1
  rw [h1] at k1; rw [h2] at k2; rw [h3] at k3
  exact ⟨k1, k2, k3⟩
theorem Half.at {w : World} {bx by' bz : Nat} {a b c d : Pt} {i : Nat} (h : Half w bx by' bz a b c d i) (hi : i < 3) :
    ∃ q r : IV, w.cell? ⟨bx, i * 2, none⟩ = some (.bool q.neg) ∧ w.cell? ⟨bx, i * 2 + 1, none⟩ = some (.slice q.a q.n q.c) ∧ w.cell? ⟨by', i * 2, none⟩ = some (.bool r.neg) ∧ w.cell? ⟨by', i * 2 + 1, none⟩ = some (.slice r.a r.n r.c) ∧
      IsI w q ((pt3 a b c i).x - d.x) ∧ IsI w r ((pt3 a b c i).y - d.y) := by
  obtain ⟨ps, qs, rs, xs, ys, zs, l1, l2, l3, a1, a2, a3, hh, hx, hy⟩ := h
  obtain ⟨q, q1, q2, q3⟩ := a1.cells i (by omega)
  obtain ⟨r, r1, r2, r3⟩ := a2.cells i (by omega)
  rw [hx] at q3; rw [hy] at r3
  exact ⟨q, r, q1, q2, r1, r2, q3, r3⟩
theorem Half.putZ {w : World} {bx by' bz : Nat} {a b c d : Pt} {i : Nat} (h : Half w bx by' bz a b c d i) (hi : i < 3) {q : IV}
    (hq : IsI w q (((pt3 a b c i).x - d.x) * ((pt3 a b c i).x - d.x) + ((pt3 a b c i).y - d.y) * ((pt3 a b c i).y - d.y))) (h1 : bx ≠ bz) (h2 : by' ≠ bz) :
    Three ((w.setCell ⟨bz, i * 2, none⟩ (.bool q.neg)).setCell ⟨bz, i * 2 + 1, none⟩ (.slice q.a q.n q.c)) bx by' bz a b c d (i + 1) := by
  obtain ⟨ps, qs, rs, xs, ys, zs, l1, l2, l3, a1, a2, a3, hh, hx, hy⟩ := h
  have hoz := a3.2.1
  refine ⟨_, _, _, _, _, _, l1, l2, by rw [List.length_set]; exact l3, a1.putOther (o := i * 2) hoz h1 q.neg q.a q.n q.c, a2.putOther (o := i * 2) hoz h2 q.neg q.a q.n q.c, a3.put (i := i) (by omega) hq, fun j hj => ?_⟩
  by_cases hji : j = i
  · subst hji
    rw [getD_set_same' _ _ _ _ (by rw [a3.1]; omega)]
    exact ⟨hx, hy, rfl⟩
  · rw [getD_set_other' _ _ _ _ _ (by omega)]; exact hh j (by omega)
theorem Three.own {w : World} {bx by' bz : Nat} {a b c d : Pt} {i : Nat} (h : Three w bx by' bz a b c d i) : Own w bx 6 ∧ Own w by' 6 ∧ Own w bz 6 := by
  obtain ⟨ps, qs, rs, xs, ys, zs, h1, h2, h3, h4, h5, h6, h7⟩ := h
  have k1 := h4.2.1; have k2 := h5.2.1; have k3 := h6.2.1
  rw [h1] at k1; rw [h2] at k2; rw [h3] at k3
  exact ⟨k1, k2, k3⟩
end Go.Proofs.Ytgmedfloflplgaa
