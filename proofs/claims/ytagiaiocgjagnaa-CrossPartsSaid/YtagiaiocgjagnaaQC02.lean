/- C01 C02: several texts of this proof in one. -/
import Derived.Test.YtagiaiocgjagnaaRows
namespace Go.Proofs.Ytagiaiocgjagnaa
set_option linter.unusedSimpArgs false
set_option linter.unusedVariables false

structure QP where
 x : Rat
 y : Rat
structure QS where
 a : QP
 b : QP
theorem QP.ext' {p q : QP} (h1 : p.x = q.x) (h2 : p.y = q.y) : p = q := by cases p; cases q; simp_all
def crs (a b p : QP) : Rat := (b.x - a.x) * (p.y - a.y) - (b.y - a.y) * (p.x - a.x)
def BtwQ (a x b : Rat) : Prop := (a ≤ x ∧ x ≤ b) ∨ (b ≤ x ∧ x ≤ a)
/-- A point lies on a segment. -/
def OnQ (s : QS) (p : QP) : Prop := crs s.a s.b p = 0 ∧ BtwQ s.a.x p.x s.b.x ∧ BtwQ s.a.y p.y s.b.y
/-- The point at a part of the way. -/
def wayQ (a b : QP) (l : Rat) : QP := ⟨a.x + l * (b.x - a.x), a.y + l * (b.y - a.y)⟩
theorem le_of_mul_pos {l d : Rat} (hd : 0 < d) (h : 0 ≤ l * d) : 0 ≤ l := by
 rcases Rat.le_total (a := 0) (b := l) with h1 | h1
 ·exact h1
 ·by_cases h0 : l = 0
  ·rw [h0]; exact Rat.le_refl
  ·have h2 : 0 < -l := by grind
   have := Rat.mul_pos h2 hd
   grind
theorem btw_way {a b l : Rat} (h0 : 0 ≤ l) (h1 : l ≤ 1) : BtwQ a (a + l * (b - a)) b := by
 unfold BtwQ
 rcases Rat.le_total (a := a) (b := b) with h | h
 ·left
  have e1 := Rat.mul_nonneg h0 (show 0 ≤ b - a by grind)
  have e2 := Rat.mul_nonneg (show 0 ≤ 1 - l by grind) (show 0 ≤ b - a by grind)
  constructor <;> grind
 ·right
  have e1 := Rat.mul_nonneg h0 (show 0 ≤ a - b by grind)
  have e2 := Rat.mul_nonneg (show 0 ≤ 1 - l by grind) (show 0 ≤ a - b by grind)
  constructor <;> grind
theorem way_btw {a b x : Rat} (hne : a ≠ b) (h : BtwQ a x b) : ∃ l, 0 ≤ l ∧ l ≤ 1 ∧ x = a + l * (b - a) := by
 have hd : b - a ≠ 0 := by grind
 refine ⟨(x - a) / (b - a), ?_⟩
 have e := Rat.div_mul_cancel (a := x - a) hd
 generalize (x - a) / (b - a) = l at *
 rcases Rat.le_total (a := a) (b := b) with h1 | h1
 ·have hp : 0 < b - a := by grind
  have h2 : a ≤ x ∧ x ≤ b := by
   rcases h with h | h
   ·exact h
   ·exact ⟨by grind, by grind⟩
  exact ⟨le_of_mul_pos hp (by grind), by have := le_of_mul_pos (l := 1 - l) hp (by grind); grind, by grind⟩
 ·have hp : 0 < a - b := by grind
  have h2 : b ≤ x ∧ x ≤ a := by
   rcases h with h | h
   ·exact ⟨by grind, by grind⟩
   ·exact h
  exact ⟨le_of_mul_pos hp (by grind), by have := le_of_mul_pos (l := 1 - l) hp (by grind); grind, by grind⟩
/-- A point on the line. -/
theorem line_way {a b p : QP} (hne : a ≠ b) (h : crs a b p = 0) : ∃ l, p = wayQ a b l := by
 unfold crs at h
 by_cases hx : a.x = b.x
 ·have hy : b.y - a.y ≠ 0 := fun e => hne (QP.ext' hx (by grind))
  refine ⟨(p.y - a.y) / (b.y - a.y), QP.ext' ?_ ?_⟩
  ·show p.x = a.x + _
   have : (b.y - a.y) * (p.x - a.x) = 0 := by grind
   rcases Rat.mul_eq_zero.1 this with h1 | h1
   ·exact absurd h1 hy
   ·rw [hx] at h1 ⊢; grind
  ·show p.y = a.y + _
   rw [Rat.div_mul_cancel hy]; grind
 ·have hd : b.x - a.x ≠ 0 := by grind
  refine ⟨(p.x - a.x) / (b.x - a.x), QP.ext' ?_ ?_⟩
  ·show p.x = a.x + _
   rw [Rat.div_mul_cancel hd]; grind
  ·show p.y = a.y + _
   have e := Rat.div_mul_cancel (a := p.x - a.x) hd
   generalize (p.x - a.x) / (b.x - a.x) = l at *
   have : (b.x - a.x) * (p.y - a.y - l * (b.y - a.y)) = 0 := by grind
   rcases Rat.mul_eq_zero.1 this with h1 | h1
   ·exact absurd h1 hd
   ·grind
theorem way_line (a b : QP) (l : Rat) : crs a b (wayQ a b l) = 0 := by unfold crs wayQ; grind
theorem way_inj {a b : QP} (hne : a ≠ b) {l m : Rat} (h : wayQ a b l = wayQ a b m) : l = m := by
 unfold wayQ at h
 injection h with h1 h2
 have e1 : (l - m) * (b.x - a.x) = 0 := by grind
 have e2 : (l - m) * (b.y - a.y) = 0 := by grind
 rcases Rat.mul_eq_zero.1 e1 with h3 | h3
 ·grind
 ·rcases Rat.mul_eq_zero.1 e2 with h4 | h4
  ·grind
  ·exact absurd (QP.ext' (by grind) (by grind)) hne
theorem on_way {a b p : QP} (hne : a ≠ b) : OnQ ⟨a, b⟩ p ↔ ∃ l, 0 ≤ l ∧ l ≤ 1 ∧ p = wayQ a b l := by
 constructor
 ·rintro ⟨h1, h2, h3⟩
  simp only at h1 h2 h3
  obtain ⟨l, rfl⟩ := line_way hne h1
  by_cases hx : a.x = b.x
  ·have hy : a.y ≠ b.y := fun e => hne (QP.ext' hx e)
   obtain ⟨m, m0, m1, e⟩ := way_btw hy h3
   refine ⟨m, m0, m1, QP.ext' ?_ ?_⟩
   ·unfold wayQ; grind
   ·exact e
  ·obtain ⟨m, m0, m1, e⟩ := way_btw hx h2
   have e2 : l = m := by
    unfold wayQ at e
    have : (l - m) * (b.x - a.x) = 0 := by grind
    rcases Rat.mul_eq_zero.1 this with h4 | h4
    ·grind
    ·exact absurd (show a.x = b.x by grind) hx
   rw [e2]
   exact ⟨m, m0, m1, rfl⟩
 ·rintro ⟨l, h0, h1, rfl⟩
  exact ⟨way_line a b l, btw_way h0 h1, btw_way h0 h1⟩
/-- Ordered by X, then by Y. -/
def LtQ (p q : QP) : Prop := p.x < q.x ∨ (p.x = q.x ∧ p.y < q.y)
def LeQ (p q : QP) : Prop := p.x < q.x ∨ (p.x = q.x ∧ p.y ≤ q.y)
theorem LeQ.refl (p : QP) : LeQ p p := .inr ⟨rfl, Rat.le_refl⟩
theorem LtQ.le {p q : QP} (h : LtQ p q) : LeQ p q := by unfold LtQ at h; unfold LeQ; grind
theorem LeQ.trans {p q r : QP} (h : LeQ p q) (k : LeQ q r) : LeQ p r := by unfold LeQ at *; grind
theorem LeQ.antisymm {p q : QP} (h : LeQ p q) (k : LeQ q p) : p = q := by
 unfold LeQ at *
 exact QP.ext' (by grind) (by grind)
theorem LeQ.total (p q : QP) : LeQ p q ∨ LtQ q p := by unfold LeQ LtQ; grind
theorem LtQ.irrefl {p q : QP} (h : LtQ p q) (k : LeQ q p) : False := by unfold LtQ at h; unfold LeQ at k; grind
theorem LtQ.ne {p q : QP} (h : LtQ p q) : p ≠ q := fun e => by subst e; exact h.irrefl (LeQ.refl p)
theorem LeQ.lt {p q : QP} (h : LeQ p q) (k : p ≠ q) : LtQ p q := by
 rcases LeQ.total q p with h1 | h1
 ·exact absurd (LeQ.antisymm h h1) k
 ·exact h1
theorem way_le {a b : QP} (h : LtQ a b) (l m : Rat) : LeQ (wayQ a b l) (wayQ a b m) ↔ l ≤ m := by
 unfold LtQ at h
 unfold LeQ wayQ
 simp only
 rcases h with h | ⟨h, k⟩
 ·have hd : 0 < b.x - a.x := by grind
  constructor
  ·intro hh
   have : 0 ≤ (m - l) * (b.x - a.x) := by grind
   have := le_of_mul_pos hd this
   grind
  ·intro hl
   by_cases e : l = m
   ·right; rw [e]; exact ⟨rfl, Rat.le_refl⟩
   ·left
    have := Rat.mul_pos (show 0 < m - l by grind) hd
    grind
 ·have hd : 0 < b.y - a.y := by grind
  constructor
  ·intro hh
   have : 0 ≤ (m - l) * (b.y - a.y) := by grind
   have := le_of_mul_pos hd this
   grind
  ·intro hl
   right
   refine ⟨by grind, ?_⟩
   have := Rat.mul_nonneg (show 0 ≤ m - l by grind) (show 0 ≤ b.y - a.y by grind)
   grind
theorem way_zero (a b : QP) : wayQ a b 0 = a := QP.ext' (by unfold wayQ; grind) (by unfold wayQ; grind)
theorem way_one (a b : QP) : wayQ a b 1 = b := QP.ext' (by unfold wayQ; grind) (by unfold wayQ; grind)
/-- Between the ends is between them in order. -/
theorem on_lex {a b p : QP} (h : LtQ a b) : OnQ ⟨a, b⟩ p ↔ crs a b p = 0 ∧ LeQ a p ∧ LeQ p b := by
 rw [on_way h.ne]
 constructor
 ·rintro ⟨l, h0, h1, rfl⟩
  refine ⟨way_line a b l, ?_, ?_⟩
  ·have := (way_le h 0 l).2 h0; rwa [way_zero] at this
  ·have := (way_le h l 1).2 h1; rwa [way_one] at this
 ·rintro ⟨h1, h2, h3⟩
  obtain ⟨l, rfl⟩ := line_way h.ne h1
  refine ⟨l, ?_, ?_, rfl⟩
  ·rw [← way_le h 0 l, way_zero]; exact h2
  ·rw [← way_le h l 1, way_one]; exact h3
theorem on_swap {a b p : QP} : OnQ ⟨a, b⟩ p ↔ OnQ ⟨b, a⟩ p := by
 unfold OnQ crs BtwQ
 constructor
 ·rintro ⟨h1, h2, h3⟩; exact ⟨by grind, by grind, by grind⟩
 ·rintro ⟨h1, h2, h3⟩; exact ⟨by grind, by grind, by grind⟩
def zeroQ : QP := ⟨0, 0⟩
/-- What two segments have in common. -/
def MeetS (s t : QS) (k : Int) (A T : QP) : Prop :=
 (k = 0 ∧ A = zeroQ ∧ T = zeroQ ∧ ∀ p, ¬ (OnQ s p ∧ OnQ t p)) ∨ (k = 1 ∧ T = zeroQ ∧ ∀ p, (OnQ s p ∧ OnQ t p) ↔ p = A) ∨
  (k = 2 ∧ LtQ A T ∧ (OnQ s A ∧ OnQ t A) ∧ (OnQ s T ∧ OnQ t T) ∧ ∀ p, OnQ s p ∧ OnQ t p → LeQ A p ∧ LeQ p T)
theorem crs_way (c d p : QP) (l m : Rat) : crs (wayQ c d l) (wayQ c d m) p = (m - l) * crs c d p := by unfold crs wayQ; grind
theorem line_eq {a b c d : QP} (hab : a ≠ b) (hcd : c ≠ d) (h1 : crs c d a = 0) (h2 : crs c d b = 0) (p : QP) : crs a b p = 0 ↔ crs c d p = 0 := by
 obtain ⟨l, rfl⟩ := line_way hcd h1
 obtain ⟨m, rfl⟩ := line_way hcd h2
 rw [crs_way]
 constructor
 ·intro h
  rcases Rat.mul_eq_zero.1 h with h3 | h3
  ·exact absurd (show wayQ c d l = wayQ c d m by rw [show l = m by grind]) hab
  ·exact h3
 ·intro h; rw [h]; grind
/-- Two segments on one line, their ends in order. -/
theorem meet_line {a b c d f t : QP} (hab : LtQ a b) (hcd : LtQ c d) (h1 : crs c d a = 0) (h2 : crs c d b = 0)
  (hf : (LtQ a c ∧ f = c) ∨ (LeQ c a ∧ f = a)) (ht : (LtQ d b ∧ t = d) ∨ (LeQ b d ∧ t = b)) :
  (f = t → MeetS ⟨a, b⟩ ⟨c, d⟩ 1 f zeroQ) ∧ (LtQ t f → MeetS ⟨a, b⟩ ⟨c, d⟩ 0 zeroQ zeroQ) ∧ (LtQ f t → MeetS ⟨a, b⟩ ⟨c, d⟩ 2 f t) := by
 have hl := line_eq hab.ne hcd.ne h1 h2
 have f1 : LeQ a f ∧ LeQ c f := by
  rcases hf with ⟨h, rfl⟩ | ⟨h, rfl⟩
  ·exact ⟨h.le, LeQ.refl _⟩
  ·exact ⟨LeQ.refl _, h⟩
 have t1 : LeQ t b ∧ LeQ t d := by
  rcases ht with ⟨h, rfl⟩ | ⟨h, rfl⟩
  ·exact ⟨h.le, LeQ.refl _⟩
  ·exact ⟨LeQ.refl _, h⟩
 have f0 : crs a b f = 0 := by
  rcases hf with ⟨h, rfl⟩ | ⟨h, rfl⟩
  ·rw [hl]; unfold crs; grind
  ·unfold crs; grind
 have t0 : crs a b t = 0 := by
  rcases ht with ⟨h, rfl⟩ | ⟨h, rfl⟩
  ·rw [hl]; unfold crs; grind
  ·unfold crs; grind
 have hc : ∀ p, (OnQ ⟨a, b⟩ p ∧ OnQ ⟨c, d⟩ p) ↔ (crs a b p = 0 ∧ LeQ f p ∧ LeQ p t) := fun p => by
  rw [on_lex hab, on_lex hcd, ← hl p]
  constructor
  ·rintro ⟨⟨h, h3, h4⟩, _, h5, h6⟩
   refine ⟨h, ?_, ?_⟩
   ·rcases hf with ⟨_, rfl⟩ | ⟨_, rfl⟩
    ·exact h5
    ·exact h3
   ·rcases ht with ⟨_, rfl⟩ | ⟨_, rfl⟩
    ·exact h6
    ·exact h4
  ·rintro ⟨h, h3, h4⟩
   exact ⟨⟨h, f1.1.trans h3, h4.trans t1.1⟩, h, f1.2.trans h3, h4.trans t1.2⟩
 refine ⟨fun e => ?_, fun e => ?_, fun e => ?_⟩
 ·refine .inr (.inl ⟨rfl, rfl, fun p => ?_⟩)
  rw [hc]
  constructor
  ·rintro ⟨_, h3, h4⟩
   rw [← e] at h4
   exact LeQ.antisymm h4 h3
  ·rintro rfl
   exact ⟨f0, LeQ.refl _, by rw [← e]; exact LeQ.refl _⟩
 ·refine .inl ⟨rfl, rfl, rfl, fun p hp => ?_⟩
  obtain ⟨_, h3, h4⟩ := (hc p).1 hp
  exact e.irrefl (h3.trans h4)
 ·refine .inr (.inr ⟨rfl, e, (hc f).2 ⟨f0, LeQ.refl _, e.le⟩, (hc t).2 ⟨t0, e.le, LeQ.refl _⟩, fun p hp => ?_⟩)
  obtain ⟨_, h3, h4⟩ := (hc p).1 hp
  exact ⟨h3, h4⟩
theorem crs_at (c d a b : QP) (l : Rat) : crs c d (wayQ a b l) = (1 - l) * crs c d a + l * crs c d b := by unfold crs wayQ; grind
theorem crs_dif (a b c d : QP) : crs c d a - crs c d b = crs a b d - crs a b c := by unfold crs; grind
/-- All ends of a segment on one side of the other one's line: nothing in common. -/
theorem apart_side {a b c d : QP} (hab : a ≠ b) (h : 0 < crs c d a * crs c d b) (p : QP) : ¬ (OnQ ⟨a, b⟩ p ∧ OnQ ⟨c, d⟩ p) := by
 rintro ⟨h1, h2⟩
 obtain ⟨l, l0, l1, rfl⟩ := (on_way hab).1 h1
 have e := h2.1
 simp only at e
 rw [crs_at] at e
 generalize crs c d a = u at *
 generalize crs c d b = v at *
 have e1 : (1 - l) * (u * u) + l * (u * v) = 0 := by grind
 have hu : 0 < u * u := by
  rcases Rat.le_total (a := 0) (b := u) with h3 | h3
  ·have : u ≠ 0 := fun e => by rw [e] at h; grind
   exact Rat.mul_pos (by grind) (by grind)
  ·have : u ≠ 0 := fun e => by rw [e] at h; grind
   have := Rat.mul_pos (show 0 < -u by grind) (show 0 < -u by grind)
   grind
 have q1 := Rat.mul_nonneg (show 0 ≤ 1 - l by grind) (show 0 ≤ u * u by grind)
 have q2 := Rat.mul_nonneg l0 (show 0 ≤ u * v by grind)
 have z1 : (1 - l) * (u * u) = 0 := by grind
 have z2 : l * (u * v) = 0 := by grind
 rcases Rat.mul_eq_zero.1 z1 with h3 | h3
 ·rcases Rat.mul_eq_zero.1 z2 with h4 | h4
  ·grind
  ·grind
 ·grind
theorem ratio_in {u v : Rat} (h : u * v ≤ 0) (hne : u ≠ v) : 0 ≤ u / (u - v) ∧ u / (u - v) ≤ 1 ∧ (1 - u / (u - v)) * u + u / (u - v) * v = 0 := by
 have hd : u - v ≠ 0 := by grind
 have e := Rat.div_mul_cancel (a := u) hd
 generalize u / (u - v) = l at *
 have hpos : 0 < (u - v) * (u - v) := by
  rcases Rat.le_total (a := 0) (b := u - v) with h3 | h3
  ·exact Rat.mul_pos (by grind) (by grind)
  ·have := Rat.mul_pos (show 0 < -(u - v) by grind) (show 0 < -(u - v) by grind)
   grind
 have sq : ∀ x : Rat, 0 ≤ x * x := fun x => by
  rcases Rat.le_total (a := 0) (b := x) with h3 | h3
  ·exact Rat.mul_nonneg h3 h3
  ·have := Rat.mul_nonneg (show 0 ≤ -x by grind) (show 0 ≤ -x by grind)
   grind
 have su := sq u
 have sv := sq v
 refine ⟨le_of_mul_pos hpos ?_, ?_, by grind⟩
 ·have : l * ((u - v) * (u - v)) = u * u - u * v := by grind
  rw [this]; grind
 ·have h2 : 0 ≤ (1 - l) * ((u - v) * (u - v)) := by
   have : (1 - l) * ((u - v) * (u - v)) = v * v - u * v := by grind
   rw [this]; grind
  have := le_of_mul_pos hpos h2
  grind
/-- Two lines that are not parallel have one point in common. -/
theorem two_lines {a b c d p q : QP} (h : crs c d a ≠ crs c d b) (p1 : crs a b p = 0) (p2 : crs c d p = 0) (q1 : crs a b q = 0) (q2 : crs c d q = 0) : p = q := by
 have hd : (b.x - a.x) * (d.y - c.y) - (b.y - a.y) * (d.x - c.x) ≠ 0 := fun e => h (by unfold crs; grind)
 unfold crs at p1 p2 q1 q2
 have e1 : ((b.x - a.x) * (d.y - c.y) - (b.y - a.y) * (d.x - c.x)) * (p.x - q.x) = 0 := by grind
 have e2 : ((b.x - a.x) * (d.y - c.y) - (b.y - a.y) * (d.x - c.x)) * (p.y - q.y) = 0 := by grind
 refine QP.ext' ?_ ?_
 ·rcases Rat.mul_eq_zero.1 e1 with h3 | h3
  ·exact absurd h3 hd
  ·grind
 ·rcases Rat.mul_eq_zero.1 e2 with h3 | h3
  ·exact absurd h3 hd
  ·grind
/-- Two segments that cross. -/
theorem meet_cross {a b c d : QP} (hab : a ≠ b) (hcd : c ≠ d) (h0 : ¬ (crs c d a = 0 ∧ crs c d b = 0)) (h1 : crs c d a * crs c d b ≤ 0) (h2 : crs a b c * crs a b d ≤ 0) :
  MeetS ⟨a, b⟩ ⟨c, d⟩ 1 (wayQ a b (crs c d a / (crs c d a - crs c d b))) zeroQ := by
 have hne : crs c d a ≠ crs c d b := fun e => by
  rw [e] at h1
  apply h0
  have : crs c d b = 0 := by
   generalize crs c d b = u at *
   rcases Rat.le_total (a := 0) (b := u) with h3 | h3
   ·have := Rat.mul_nonneg h3 h3
    have : u * u = 0 := by grind
    rcases Rat.mul_eq_zero.1 this with h4 | h4 <;> exact h4
   ·have := Rat.mul_nonneg (show 0 ≤ -u by grind) (show 0 ≤ -u by grind)
    have : u * u = 0 := by grind
    rcases Rat.mul_eq_zero.1 this with h4 | h4 <;> exact h4
  exact ⟨e.trans this, this⟩
 have hdif := crs_dif a b c d
 have hne2 : crs a b c ≠ crs a b d := by grind
 obtain ⟨l0, l1, l2⟩ := ratio_in h1 hne
 obtain ⟨m0, m1, m2⟩ := ratio_in h2 hne2
 have xs : OnQ ⟨a, b⟩ (wayQ a b (crs c d a / (crs c d a - crs c d b))) := (on_way hab).2 ⟨_, l0, l1, rfl⟩
 have yt : OnQ ⟨c, d⟩ (wayQ c d (crs a b c / (crs a b c - crs a b d))) := (on_way hcd).2 ⟨_, m0, m1, rfl⟩
 have x2 : crs c d (wayQ a b (crs c d a / (crs c d a - crs c d b))) = 0 := by rw [crs_at]; exact l2
 have y1 : crs a b (wayQ c d (crs a b c / (crs a b c - crs a b d))) = 0 := by rw [crs_at]; exact m2
 have e := two_lines hne xs.1 x2 y1 yt.1
 refine .inr (.inl ⟨rfl, rfl, fun p => ?_⟩)
 constructor
 ·rintro ⟨p1, p2⟩
  exact two_lines hne p1.1 p2.1 xs.1 x2
 ·rintro rfl
  exact ⟨xs, by rw [e]; exact yt⟩
end Go.Proofs.Ytagiaiocgjagnaa
namespace Go.Proofs.Ytagiaiocgjagnaa
set_option linter.unusedSimpArgs false
set_option linter.unusedVariables false

/-- The sign of the order. -/
def cmpQ (x y : Rat) : Int := if x < y then -1 else if y < x then 1 else 0
theorem cmpQ_zero {x y : Rat} : cmpQ x y = 0 ↔ x = y := by
 unfold cmpQ
 split
 ·rename_i h; constructor
  ·intro h2; cases h2
  ·intro h2; subst h2; exact absurd h (Rat.lt_irrefl)
 ·split
  ·rename_i h; constructor
   ·intro h2; cases h2
   ·intro h2; subst h2; exact absurd h (Rat.lt_irrefl)
  ·simp; grind
theorem cmpQ_lt {x y : Rat} : cmpQ x y < 0 ↔ x < y := by
 unfold cmpQ
 split
 ·rename_i h; simp [h]
 ·split
  ·rename_i h1 h2; simp; grind
  ·rename_i h1 h2; simp; grind
theorem cmpQ_le {x y : Rat} : cmpQ x y ≤ 0 ↔ x ≤ y := by
 unfold cmpQ
 split
 ·rename_i h; simp; grind
 ·split
  ·rename_i h1 h2; simp; grind
  ·rename_i h1 h2; simp; grind
theorem cmpQ_bd (x y : Rat) : -1 ≤ cmpQ x y ∧ cmpQ x y ≤ 1 := by unfold cmpQ; split <;> (try split) <;> omega
/-- The order of points. -/
def cmpP (p q : QP) : Int := if cmpQ p.x q.x = 0 then cmpQ p.y q.y else cmpQ p.x q.x
theorem cmpP_zero {p q : QP} : cmpP p q = 0 ↔ p = q := by
 unfold cmpP
 split
 ·rename_i h
  rw [cmpQ_zero] at h ⊢
  exact ⟨fun h2 => QP.ext' h h2, fun h2 => by rw [h2]⟩
 ·rename_i h
  constructor
  ·intro h2; exact absurd h2 h
  ·intro h2; exact absurd (cmpQ_zero.2 (by rw [h2])) h
theorem cmpP_lt {p q : QP} : cmpP p q < 0 ↔ LtQ p q := by
 unfold cmpP LtQ
 split
 ·rename_i h
  rw [cmpQ_zero] at h
  rw [cmpQ_lt, h]
  grind
 ·rename_i h
  rw [cmpQ_zero] at h
  rw [cmpQ_lt]
  grind
theorem cmpP_self (p : QP) : cmpP p p = 0 := cmpP_zero.2 rfl
theorem icast_lt {a b : Int} : ((a : Rat) < (b : Rat)) ↔ a < b := Rat.intCast_lt_intCast
theorem icast_le {a b : Int} : ((a : Rat) ≤ (b : Rat)) ↔ a ≤ b := Rat.intCast_le_intCast
theorem icast_eq {a b : Int} : ((a : Rat) = (b : Rat)) ↔ a = b := Rat.intCast_inj
theorem icast_zero {a : Int} : ((a : Rat) = 0) ↔ a = 0 := Rat.intCast_eq_zero_iff
theorem mul_lt_iff {f x y : Rat} (hf : 0 < f) : x * f < y * f ↔ x < y := by
 constructor
 ·intro h
  rcases Rat.le_total (a := y) (b := x) with h1 | h1
  ·have := Rat.mul_nonneg (show 0 ≤ x - y by grind) (show 0 ≤ f by grind)
   grind
  ·by_cases e : x = y
   ·subst e; exact absurd h Rat.lt_irrefl
   ·grind
 ·intro h
  have := Rat.mul_pos (show 0 < y - x by grind) hf
  grind
/-- A box holds its segments' points. -/
theorem on_box {s : QS} {p : QP} (h : OnQ s p) : (s.a.x ≤ p.x ∨ s.b.x ≤ p.x) ∧ (p.x ≤ s.a.x ∨ p.x ≤ s.b.x) ∧ (s.a.y ≤ p.y ∨ s.b.y ≤ p.y) ∧ (p.y ≤ s.a.y ∨ p.y ≤ s.b.y) := by
 obtain ⟨_, h1, h2⟩ := h
 unfold BtwQ at h1 h2
 refine ⟨?_, ?_, ?_, ?_⟩
 ·rcases h1 with h1 | h1
  ·exact .inl h1.1
  ·exact .inr h1.1
 ·rcases h1 with h1 | h1
  ·exact .inr h1.2
  ·exact .inl h1.2
 ·rcases h2 with h2 | h2
  ·exact .inl h2.1
  ·exact .inr h2.1
 ·rcases h2 with h2 | h2
  ·exact .inr h2.2
  ·exact .inl h2.2
theorem MeetS.apart {s t : QS} (h : ∀ p, ¬ (OnQ s p ∧ OnQ t p)) : MeetS s t 0 zeroQ zeroQ := .inl ⟨rfl, rfl, rfl, h⟩
theorem MeetS.congr {s t s' t' : QS} {k : Int} {A T : QP} (h : MeetS s t k A T) (e : ∀ p, (OnQ s p ∧ OnQ t p) ↔ (OnQ s' p ∧ OnQ t' p)) : MeetS s' t' k A T := by
 rcases h with ⟨h1, h2, h3, h4⟩ | ⟨h1, h2, h3⟩ | ⟨h1, h2, h3, h4, h5⟩
 ·exact .inl ⟨h1, h2, h3, fun p hp => h4 p ((e p).2 hp)⟩
 ·exact .inr (.inl ⟨h1, h2, fun p => (e p).symm.trans (h3 p)⟩)
 ·exact .inr (.inr ⟨h1, h2, (e _).1 h3, (e _).1 h4, fun p hp => h5 p ((e p).2 hp)⟩)
theorem MeetS.kind {s t : QS} {k : Int} {A T : QP} (h : MeetS s t k A T) : 0 ≤ k ∧ k ≤ 2 := by
 rcases h with ⟨rfl, _⟩ | ⟨rfl, _⟩ | ⟨rfl, _⟩ <;> omega
end Go.Proofs.Ytagiaiocgjagnaa
