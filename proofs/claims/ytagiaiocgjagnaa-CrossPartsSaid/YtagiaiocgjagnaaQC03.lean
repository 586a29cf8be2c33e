/- Plain laws of chapter 07: what meet computes, with points of the grid. -/
import Derived.Test.YtagiaiocgjagnaaQC02
import Derived.Test.YtagiaiocgjagnaaQX01
import Derived.Test.YtagiaiocgjagnaaQV02
namespace Go.Proofs.Ytagiaiocgjagnaa
set_option linter.unusedSimpArgs false
set_option linter.unusedVariables false

abbrev Pt.q (p : Pt) : QP := ⟨(p.x : Rat), (p.y : Rat)⟩
/-- A segment. -/
structure Sg where
 a : Pt
 b : Pt
abbrev Sg.v (s : Sg) : Value := .agg #[.int .i64 s.a.x, .int .i64 s.a.y, .int .i64 s.b.x, .int .i64 s.b.y]
abbrev Sg.q (s : Sg) : QS := ⟨s.a.q, s.b.q⟩
theorem Pt.ext' {a b : Pt} (h1 : a.x = b.x) (h2 : a.y = b.y) : a = b := by cases a; cases b; simp_all
theorem Pt.q_inj {a b : Pt} : a.q = b.q ↔ a = b := by
 constructor
 ·intro h
  injection h with h1 h2
  exact Pt.ext' (icast_eq.1 h1) (icast_eq.1 h2)
 ·intro h; rw [h]
structure OKs (s : Sg) : Prop where
 ga : Good s.a
 gb : Good s.b
 ne : s.a ≠ s.b
theorem OKs.neq {s : Sg} (h : OKs s) : s.a.q ≠ s.b.q := fun e => h.ne (Pt.q_inj.1 e)
def crsI (a b p : Pt) : Int := (b.x - a.x) * (p.y - a.y) - (b.y - a.y) * (p.x - a.x)
theorem crs_int (a b p : Pt) : crs a.q b.q p.q = (crsI a b p : Rat) := by
 unfold crs crsI
 simp only [Rat.intCast_sub, Rat.intCast_mul]
theorem sideF_crs (a b p : Pt) : sideF a b p = cmpI (crsI a b p) 0 := by
 unfold sideF crsI cmpI
 generalize (b.x - a.x) * (p.y - a.y) = u
 generalize (b.y - a.y) * (p.x - a.x) = v
 by_cases h : u < v
 ·rw [if_pos h, if_pos (show u - v < 0 by omega)]
 ·rw [if_neg h, if_neg (show ¬ u - v < 0 by omega)]
  by_cases h2 : v < u
  ·rw [if_pos h2, if_pos (show 0 < u - v by omega)]
  ·rw [if_neg h2, if_neg (show ¬ 0 < u - v by omega)]
theorem cmpI0_zero {x : Int} : cmpI x 0 = 0 ↔ x = 0 := by
 unfold cmpI
 by_cases h : x < 0
 ·rw [if_pos h]; constructor <;> intro h2 <;> omega
 ·rw [if_neg h]
  by_cases h1 : 0 < x
  ·rw [if_pos h1]; constructor <;> intro h2 <;> omega
  ·rw [if_neg h1]; constructor <;> intro h2 <;> omega
theorem cmpI0_mul (x y : Int) : 0 < cmpI x 0 * cmpI y 0 ↔ 0 < x * y := by
 have e : ∀ z : Int, (z < 0 ∧ cmpI z 0 = -1) ∨ (z = 0 ∧ cmpI z 0 = 0) ∨ (0 < z ∧ cmpI z 0 = 1) := fun z => by
  unfold cmpI
  by_cases h : z < 0
  ·left; exact ⟨h, if_pos h⟩
  ·rw [if_neg h]
   by_cases h1 : 0 < z
   ·right; right; exact ⟨h1, if_pos h1⟩
   ·right; left; exact ⟨by omega, if_neg h1⟩
 rcases e x with ⟨h1, h2⟩ | ⟨h1, h2⟩ | ⟨h1, h2⟩ <;> rcases e y with ⟨h3, h4⟩ | ⟨h3, h4⟩ | ⟨h3, h4⟩ <;> rw [h2, h4]
 ·have := Int.mul_pos_of_neg_of_neg h1 h3; omega
 ·subst h3; simp
 ·have := Int.mul_neg_of_neg_of_pos h1 h3; omega
 ·subst h1; simp
 ·subst h1; simp
 ·subst h1; simp
 ·have := Int.mul_neg_of_pos_of_neg h1 h3; omega
 ·subst h3; simp
 ·have := Int.mul_pos h1 h3; omega
theorem side_zero {a b p : Pt} : sideF a b p = 0 ↔ crs a.q b.q p.q = 0 := by rw [sideF_crs, cmpI0_zero, crs_int, icast_zero]
theorem side_mul {a b p c d q : Pt} : 0 < sideF a b p * sideF c d q ↔ 0 < crs a.q b.q p.q * crs c.q d.q q.q := by
 rw [sideF_crs, sideF_crs, cmpI0_mul, crs_int, crs_int, ← Rat.intCast_mul]
 exact (icast_lt (a := 0)).symm
def beforeF (a b : Pt) : Bool := decide (a.x < b.x ∨ a.x = b.x ∧ a.y < b.y)
theorem beforeF_lt {a b : Pt} : beforeF a b = true ↔ LtQ a.q b.q := by
 unfold beforeF LtQ
 rw [decide_eq_true_iff, icast_lt, icast_eq, icast_lt]
theorem beforeF_le {a b : Pt} : beforeF a b = false ↔ LeQ b.q a.q := by
 rw [Bool.eq_false_iff, ne_eq, beforeF_lt]
 constructor
 ·intro h
  rcases LeQ.total b.q a.q with h1 | h1
  ·exact h1
  ·exact absurd h1 h
 ·intro h h2; exact h2.irrefl h
def normF (s : Sg) : Sg := if beforeF s.b s.a = true then ⟨s.b, s.a⟩ else s
theorem normF_lt {s : Sg} (h : s.a ≠ s.b) : LtQ (normF s).a.q (normF s).b.q := by
 unfold normF; split
 ·rename_i h1; exact beforeF_lt.1 h1
 ·rename_i h1
  exact (beforeF_le.1 (by simpa using h1)).lt fun e => h (Pt.q_inj.1 e)
theorem normF_on (s : Sg) (p : QP) : OnQ (normF s).q p ↔ OnQ s.q p := by
 unfold normF; split
 ·exact on_swap
 ·exact Iff.rfl
def fromF (s t : Sg) : Pt := if beforeF s.a t.a = true then t.a else s.a
def toF (s t : Sg) : Pt := if beforeF t.b s.b = true then t.b else s.b
/-- What line returns of normal segments: the kind and two points. -/
def lineF (s t : Sg) : Int × QP × QP := if (fromF s t).x = (toF s t).x ∧ (fromF s t).y = (toF s t).y then (1, (fromF s t).q, zeroQ) else if beforeF (toF s t) (fromF s t) = true then (0, zeroQ, zeroQ) else (2, (fromF s t).q, (toF s t).q)
theorem lineF_meet {s t : Sg} (hs : LtQ s.a.q s.b.q) (ht : LtQ t.a.q t.b.q) (h1 : crs t.a.q t.b.q s.a.q = 0) (h2 : crs t.a.q t.b.q s.b.q = 0) : MeetS s.q t.q (lineF s t).1 (lineF s t).2.1 (lineF s t).2.2 := by
 have hf : (LtQ s.a.q t.a.q ∧ (fromF s t).q = t.a.q) ∨ (LeQ t.a.q s.a.q ∧ (fromF s t).q = s.a.q) := by
  unfold fromF; split
  ·rename_i h; exact .inl ⟨beforeF_lt.1 h, rfl⟩
  ·rename_i h; exact .inr ⟨beforeF_le.1 (by simpa using h), rfl⟩
 have hg : (LtQ t.b.q s.b.q ∧ (toF s t).q = t.b.q) ∨ (LeQ s.b.q t.b.q ∧ (toF s t).q = s.b.q) := by
  unfold toF; split
  ·rename_i h; exact .inl ⟨beforeF_lt.1 h, rfl⟩
  ·rename_i h; exact .inr ⟨beforeF_le.1 (by simpa using h), rfl⟩
 obtain ⟨m1, m2, m3⟩ := meet_line hs ht h1 h2 hf hg
 unfold lineF
 split
 ·rename_i h; exact m1 (by rw [Pt.ext' h.1 h.2])
 ·rename_i h; split
  ·rename_i h3; exact m2 (beforeF_lt.1 h3)
  ·rename_i h3; exact m3 ((beforeF_le.1 (by simpa using h3)).lt fun e => h (by rw [Pt.q_inj.1 e]; exact ⟨rfl, rfl⟩))
/-- The boxes of two segments have a point in common. -/
def boxesF (s t : Sg) : Bool := decide (max (min s.a.x s.b.x) (min t.a.x t.b.x) ≤ min (max s.a.x s.b.x) (max t.a.x t.b.x) ∧ max (min s.a.y s.b.y) (min t.a.y t.b.y) ≤ min (max s.a.y s.b.y) (max t.a.y t.b.y))
theorem min_le_of {a b : Int} {x : Rat} (h : (a : Rat) ≤ x ∨ (b : Rat) ≤ x) : ((min a b : Int) : Rat) ≤ x := by
 rcases h with h | h
 ·exact Rat.le_trans (icast_le.2 (Int.min_le_left a b)) h
 ·exact Rat.le_trans (icast_le.2 (Int.min_le_right a b)) h
theorem le_max_of {a b : Int} {x : Rat} (h : x ≤ (a : Rat) ∨ x ≤ (b : Rat)) : x ≤ ((max a b : Int) : Rat) := by
 rcases h with h | h
 ·exact Rat.le_trans h (icast_le.2 (Int.le_max_left a b))
 ·exact Rat.le_trans h (icast_le.2 (Int.le_max_right a b))
theorem boxesF_false {s t : Sg} (h : boxesF s t = false) (p : QP) : ¬ (OnQ s.q p ∧ OnQ t.q p) := by
 rintro ⟨h1, h2⟩
 obtain ⟨a1, a2, a3, a4⟩ := on_box h1
 obtain ⟨b1, b2, b3, b4⟩ := on_box h2
 have c1 := icast_le.1 (Rat.le_trans (min_le_of a1) (le_max_of a2))
 have c2 := icast_le.1 (Rat.le_trans (min_le_of a1) (le_max_of b2))
 have c3 := icast_le.1 (Rat.le_trans (min_le_of b1) (le_max_of a2))
 have c4 := icast_le.1 (Rat.le_trans (min_le_of b1) (le_max_of b2))
 have d1 := icast_le.1 (Rat.le_trans (min_le_of a3) (le_max_of a4))
 have d2 := icast_le.1 (Rat.le_trans (min_le_of a3) (le_max_of b4))
 have d3 := icast_le.1 (Rat.le_trans (min_le_of b3) (le_max_of a4))
 have d4 := icast_le.1 (Rat.le_trans (min_le_of b3) (le_max_of b4))
 unfold boxesF at h
 rw [decide_eq_false_iff_not] at h
 omega
/-- Where two segments cross. -/
def crossQ (s t : Sg) : QP := wayQ s.a.q s.b.q (crs t.a.q t.b.q s.a.q / (crs t.a.q t.b.q s.a.q - crs t.a.q t.b.q s.b.q))
/-- What meet returns. -/
def meetF (s t : Sg) : Int × QP × QP :=
 if boxesF s t = false then (0, zeroQ, zeroQ)
 else if sideF t.a t.b s.a = 0 ∧ sideF t.a t.b s.b = 0 then lineF (normF s) (normF t)
 else if 0 < sideF t.a t.b s.a * sideF t.a t.b s.b ∨ 0 < sideF s.a s.b t.a * sideF s.a s.b t.b then (0, zeroQ, zeroQ)
 else (1, crossQ s t, zeroQ)
theorem norm_line {s t : Sg} (h1 : crs t.a.q t.b.q s.a.q = 0) (h2 : crs t.a.q t.b.q s.b.q = 0) : crs (normF t).a.q (normF t).b.q (normF s).a.q = 0 ∧ crs (normF t).a.q (normF t).b.q (normF s).b.q = 0 := by
 unfold normF
 unfold crs at h1 h2
 split <;> split <;> (try simp only) <;> unfold crs <;> constructor <;> grind
theorem meetF_meet {s t : Sg} (hs : OKs s) (ht : OKs t) : MeetS s.q t.q (meetF s t).1 (meetF s t).2.1 (meetF s t).2.2 := by
 unfold meetF
 split
 ·rename_i h; exact MeetS.apart (boxesF_false h)
 ·split
  ·rename_i h
   obtain ⟨e1, e2⟩ := norm_line (side_zero.1 h.1) (side_zero.1 h.2)
   exact (lineF_meet (normF_lt hs.ne) (normF_lt ht.ne) e1 e2).congr fun p => by rw [normF_on, normF_on]
  ·rename_i h0
   split
   ·rename_i h
    rcases h with h | h
    ·exact MeetS.apart (apart_side hs.neq (side_mul.1 h))
    ·exact MeetS.apart fun p hp => apart_side ht.neq (side_mul.1 h) p ⟨hp.2, hp.1⟩
   ·rename_i h
    rw [not_or, side_mul, side_mul] at h
    refine meet_cross hs.neq ht.neq (fun e => h0 ⟨side_zero.2 e.1, side_zero.2 e.2⟩) ?_ ?_
    ·exact Rat.not_lt.1 h.1
    ·exact Rat.not_lt.1 h.2
theorem dcast_ne {d : Int} (h : 1 ≤ d) : (d : Rat) ≠ 0 := fun e => by
 have := Rat.intCast_eq_zero_iff.1 e
 omega
theorem dcast_pos {d : Int} (h : 1 ≤ d) : (0 : Rat) < (d : Rat) := (icast_lt (a := 0)).2 (by omega)
theorem cmpI_cmpQ {a b : Int} {d e : Int} (hd : 1 ≤ d) (he : 1 ≤ e) {p q : Rat} (hp : p * (d : Rat) = (a : Rat)) (hq : q * (e : Rat) = (b : Rat)) : cmpI (a * e) (b * d) = cmpQ p q := by
 have hde := Rat.mul_pos (dcast_pos hd) (dcast_pos he)
 have l : ∀ p q : Rat, p * ((d : Rat) * (e : Rat)) < q * ((d : Rat) * (e : Rat)) ↔ p < q := fun p q => by
  have := mul_lt_iff hde (x := p) (y := q)
  exact this
 have e1 : ((a * e : Int) : Rat) = p * ((d : Rat) * (e : Rat)) := by rw [Rat.intCast_mul, ← hp]; grind
 have e2 : ((b * d : Int) : Rat) = q * ((d : Rat) * (e : Rat)) := by rw [Rat.intCast_mul, ← hq]; grind
 have h1 : a * e < b * d ↔ p < q := by rw [← icast_lt, e1, e2]; exact l p q
 have h2 : b * d < a * e ↔ q < p := by rw [← icast_lt, e1, e2]; exact l q p
 unfold cmpI cmpQ
 by_cases c1 : a * e < b * d
 ·rw [if_pos c1, if_pos (h1.1 c1)]
 ·rw [if_neg c1, if_neg (fun h => c1 (h1.2 h))]
  by_cases c2 : b * d < a * e
  ·rw [if_pos c2, if_pos (h2.1 c2)]
  ·rw [if_neg c2, if_neg (fun h => c2 (h2.2 h))]
end Go.Proofs.Ytagiaiocgjagnaa
