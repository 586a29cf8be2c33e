/- frac: Add, Sub, Mul, whatever their numbers are, as functions of the values. -/
import Derived.Test.YtgmedfloflplgaaFPGs
import Derived.Test.YtgmedfloflplgaaFMg
import Derived.Test.YtgmedfloflplgaaAFN
namespace Go.Proofs.Ytgmedfloflplgaa
set_option linter.unusedSimpArgs false
set_option linter.unusedVariables false
open Go.RowKit

abbrev Q2 := Int × Int
theorem lim_zero {x : Int} (h : (lim x).2 = 0) : Big x ∧ (lim x).1 = x := by
  unfold lim at *
  by_cases hb : x.natAbs < WTop
  · rw [if_pos hb]; exact ⟨hb, rfl⟩
  · rw [if_neg hb] at h; cases h
theorem lim_pair (x : Int) : lim x = ((lim x).1, (lim x).2) := rfl
/-- A fraction in lowest terms. -/
def lowE (x y : Int) : Q2 := (x / gcdI x y, y / gcdI x y)
/-- What Add, Sub, Mul return of fractions, unless a number is too great. -/
def addE (a b : Q2) : Option Q2 :=
  if (lim (a.1 * (b.2 / gcdI a.2 b.2))).2 = 0 ∧ (lim (b.1 * (a.2 / gcdI a.2 b.2))).2 = 0 ∧ (lim (a.1 * (b.2 / gcdI a.2 b.2) + b.1 * (a.2 / gcdI a.2 b.2))).2 = 0 ∧ (lim (a.2 / gcdI a.2 b.2 * b.2)).2 = 0
  then some (lowE (a.1 * (b.2 / gcdI a.2 b.2) + b.1 * (a.2 / gcdI a.2 b.2)) (a.2 / gcdI a.2 b.2 * b.2)) else none
def subE (a b : Q2) : Option Q2 := addE a (-b.1, b.2)
def mulE (a b : Q2) : Option Q2 :=
  if (lim (a.1 / gcdI a.1 b.2 * (b.1 / gcdI b.1 a.2))).2 = 0 ∧ (lim (a.2 / gcdI b.1 a.2 * (b.2 / gcdI a.1 b.2))).2 = 0
  then some (a.1 / gcdI a.1 b.2 * (b.1 / gcdI b.1 a.2), a.2 / gcdI b.1 a.2 * (b.2 / gcdI a.1 b.2)) else none
def errO (o : Option Q2) : Int := match o with | some _ => 0 | none => 4
def valO (o : Option Q2) : Q2 := o.getD (0, 1)
/-- The value and its error. -/
def RetO (o : Option Q2) (w : World) (e : Ending) (w' : World) : Prop := ∃ f : FV, e = .returned (.tuple #[f.v, .int .i64 (errO o)]) ∧ IsF w' f (valO o).1 (valO o).2 ∧ Ext w w'
theorem fvz_isF (w : World) : IsF w fvz 0 1 := ⟨isI_zero w, (show IsI w _ (0 : Int) from isI_zero w), by omega, by unfold Big; exact Nat.lt_of_lt_of_le (by decide) (show 2 ≤ WTop by rw [WTop_pow]; exact Nat.le_trans (by decide) (Nat.pow_le_pow_right (n := 2) (i := 1) (by decide) (by rw [WMost_eq]; omega))), by decide⟩
theorem fAddO_c (a b : FV) (p q : Q2) (w : World) (ha : IsF w a p.1 p.2) (hb : IsF w b q.1 q.2) :
    Calls Try.prog 39 #[a.v, b.v] w (RetO (addE p q) w) := by
  unfold addE
  split
  · rename_i h
    obtain ⟨h1, h2, h3, h4⟩ := h
    exact fAdd_c a b p.1 p.2 q.1 q.2 w ha hb (lim_zero h1).1 (lim_zero h2).1 (lim_zero h3).1 (lim_zero h4).1
  · rename_i h
    refine (fAddG_c a b p.1 p.2 q.1 q.2 w ha hb _ _ _ _ _ _ _ _ (lim_pair _) (lim_pair _) (lim_pair _) (lim_pair _) ?_).mono ?_
    · rintro ⟨h1, h2, h3, h4⟩
      rw [(lim_zero h1).2, (lim_zero h2).2] at h3
      exact h ⟨h1, h2, h3, h4⟩
    · rintro e w' ⟨rfl, hx⟩
      exact ⟨fvz, rfl, fvz_isF w', hx⟩
theorem fSubO_c (a b : FV) (p q : Q2) (w : World) (ha : IsF w a p.1 p.2) (hb : IsF w b q.1 q.2) :
    Calls Try.prog 72 #[a.v, b.v] w (RetO (subE p q) w) := by
  unfold subE addE
  split
  · rename_i h
    obtain ⟨h1, h2, h3, h4⟩ := h
    exact fSub_c a b p.1 p.2 q.1 q.2 w ha hb (lim_zero h1).1 (lim_zero h2).1 (lim_zero h3).1 (lim_zero h4).1
  · rename_i h
    refine (fSubG_c a b p.1 p.2 q.1 q.2 w ha hb _ _ _ _ _ _ _ _ (lim_pair _) (lim_pair _) (lim_pair _) (lim_pair _) ?_).mono ?_
    · rintro ⟨h1, h2, h3, h4⟩
      rw [(lim_zero h1).2, (lim_zero h2).2] at h3
      exact h ⟨h1, h2, h3, h4⟩
    · rintro e w' ⟨rfl, hx⟩
      exact ⟨fvz, rfl, fvz_isF w', hx⟩
theorem fMulO_c (a b : FV) (p q : Q2) (w : World) (ha : IsF w a p.1 p.2) (hb : IsF w b q.1 q.2) :
    Calls Try.prog 73 #[a.v, b.v] w (RetO (mulE p q) w) := by
  unfold mulE
  split
  · rename_i h
    exact fMul_c a b p.1 p.2 q.1 q.2 w ha hb (lim_zero h.1).1 (lim_zero h.2).1
  · rename_i h
    refine (fMulG_c a b p.1 p.2 q.1 q.2 w ha hb _ _ _ _ (lim_pair _) (lim_pair _) h).mono ?_
    rintro e w' ⟨rfl, hx⟩
    exact ⟨fvz, rfl, fvz_isF w', hx⟩

/-- The same number. -/
theorem lowE_eq (x y : Int) (hy : 1 ≤ y) : EqQ (lowE x y).1 (lowE x y).2 x y := ⟨(low_of x y hy).pos, hy, (low_of x y hy).eq⟩
theorem addE_eq {a b v : Q2} (ha : 1 ≤ a.2) (hb : 1 ≤ b.2) (h : addE a b = some v) : EqQ v.1 v.2 (a.1 * b.2 + b.1 * a.2) (a.2 * b.2) := by
  unfold addE at h
  split at h
  · injection h with h
    subst h
    have hd := gcdI_dvd a.2 b.2
    have hgp := gcdI_pos (x := a.2) hb
    have hQ : 1 ≤ a.2 / gcdI a.2 b.2 := (Int.le_ediv_iff_mul_le (by omega)).2 (by rw [Int.one_mul]; exact Int.le_of_dvd (by omega) hd.1)
    have hD := pos_mul hQ hb
    have h1 := lowE_eq (a.1 * (b.2 / gcdI a.2 b.2) + b.1 * (a.2 / gcdI a.2 b.2)) _ hD
    exact h1.trans' (add_eq hgp hd.1 hd.2) (pos_mul ha hb)
  · cases h
theorem subE_eq {a b v : Q2} (ha : 1 ≤ a.2) (hb : 1 ≤ b.2) (h : subE a b = some v) : EqQ v.1 v.2 (a.1 * b.2 - b.1 * a.2) (a.2 * b.2) := by
  have := addE_eq ha (b := (-b.1, b.2)) hb h
  simp only at this
  rw [show a.1 * b.2 - b.1 * a.2 = a.1 * b.2 + -b.1 * a.2 from by grind]
  exact this
theorem mulE_eq {a b v : Q2} (ha : 1 ≤ a.2) (hb : 1 ≤ b.2) (h : mulE a b = some v) : EqQ v.1 v.2 (a.1 * b.1) (a.2 * b.2) := by
  unfold mulE at h
  split at h
  · injection h with h
    subst h
    have d1 := gcdI_dvd a.1 b.2
    have d2 := gcdI_dvd b.1 a.2
    have hg1 := gcdI_pos (x := a.1) hb
    have hg2 := gcdI_pos (x := b.1) ha
    have hQ : 1 ≤ a.2 / gcdI b.1 a.2 := (Int.le_ediv_iff_mul_le (by omega)).2 (by rw [Int.one_mul]; exact Int.le_of_dvd (by omega) d2.2)
    have hS : 1 ≤ b.2 / gcdI a.1 b.2 := (Int.le_ediv_iff_mul_le (by omega)).2 (by rw [Int.one_mul]; exact Int.le_of_dvd (by omega) d1.2)
    exact ⟨pos_mul hQ hS, pos_mul ha hb, mul_eq d1.1 d1.2 d2.1 d2.2⟩
  · cases h
end Go.Proofs.Ytgmedfloflplgaa
