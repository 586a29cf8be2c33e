/- V01 V03: several texts of this proof in one. -/
import Derived.Test.YtkoidookanmknaaRows
namespace Go.Proofs.Ytkoidookanmknaa
set_option linter.unusedSimpArgs false
set_option linter.unusedVariables false

/-- A vector: a number for each cell. -/
abbrev Vec := Nat → Rat
def vzero : Vec := fun _ => 0
/-- v and a multiple of u. -/
def vadd (v u : Vec) (a : Rat) : Vec := fun c => v c + u c * a
/-- v less a multiple of u, as the program does it. -/
def vless (v u : Vec) (a : Rat) : Vec := fun c => v c - u c * a
/-- The span of some vectors. -/
inductive Sp (S : Vec → Prop) : Vec → Prop
 | zero : Sp S vzero
 | step {v u : Vec} (a : Rat) : Sp S v → S u → Sp S (vadd v u a)
theorem Sp.mem {S : Vec → Prop} {u : Vec} (h : S u) : Sp S u := by
 have := Sp.step 1 (Sp.zero (S := S)) h
 rwa [show vadd vzero u 1 = u from funext fun c => by unfold vadd vzero; grind] at this
theorem Sp.add {S : Vec → Prop} {u v : Vec} (hv : Sp S v) (hu : Sp S u) (b : Rat) : Sp S (vadd v u b) := by
 induction hu with
 | zero => rwa [show vadd v vzero b = v from funext fun c => by unfold vadd vzero; grind]
 | @step x y a hx hy ih =>
  have := Sp.step (a * b) ih hy
  rwa [show vadd (vadd v x b) y (a * b) = vadd v (vadd x y a) b from funext fun c => by unfold vadd; grind] at this
theorem Sp.less {S : Vec → Prop} {u v : Vec} (hv : Sp S v) (hu : Sp S u) (b : Rat) : Sp S (vless v u b) := by
 have := Sp.add hv hu (-b)
 rwa [show vadd v u (-b) = vless v u b from funext fun c => by unfold vadd vless; grind] at this
theorem Sp.smul {S : Vec → Prop} {u : Vec} (hu : Sp S u) (b : Rat) : Sp S (fun c => u c * b) := by
 have := Sp.add Sp.zero hu b
 rwa [show vadd vzero u b = (fun c => u c * b) from funext fun c => by unfold vadd vzero; grind] at this
theorem Sp.sub {S T : Vec → Prop} {v : Vec} (h : ∀ u, S u → Sp T u) (hv : Sp S v) : Sp T v := by
 induction hv with
 | zero => exact Sp.zero
 | step a _ hu ih => exact Sp.add ih (h _ hu) a
theorem Sp.mono {S T : Vec → Prop} {v : Vec} (h : ∀ u, S u → T u) (hv : Sp S v) : Sp T v := Sp.sub (fun u hu => Sp.mem (h u hu)) hv
/-- A linear function that vanishes on the vectors vanishes on the span. -/
theorem Sp.lin {S : Vec → Prop} {v : Vec} (f : Vec → Rat) (f0 : f vzero = 0) (f1 : ∀ v u a, f (vadd v u a) = f v + f u * a) (h : ∀ u, S u → f u = 0) (hv : Sp S v) : f v = 0 := by
 induction hv with
 | zero => exact f0
 | step a _ hu ih => rw [f1, ih, h _ hu]; grind
/-- Rows with their leads. -/
abbrev Lds := List (Vec × Nat)
def InR (R : Lds) (u : Vec) : Prop := ∃ p, p ∈ R ∧ p.1 = u
/-- What is left of a vector. -/
def redV : Lds → Vec → Vec
 | [], v => v
 | (r, l) :: R, v => redV R (vless v r (v l))
def Red (R : Lds) : Prop := (∀ p, p ∈ R → p.1 p.2 = 1) ∧ R.Pairwise (fun p q => p.1 q.2 = 0 ∧ q.1 p.2 = 0)
theorem Red.cons {p : Vec × Nat} {R : Lds} (h : Red (p :: R)) : p.1 p.2 = 1 ∧ (∀ q, q ∈ R → p.1 q.2 = 0 ∧ q.1 p.2 = 0) ∧ Red R := by
 obtain ⟨h1, h2⟩ := h
 rw [List.pairwise_cons] at h2
 exact ⟨h1 p List.mem_cons_self, h2.1, fun q hq => h1 q (List.mem_cons_of_mem _ hq), h2.2⟩
theorem redV_keep (R : Lds) (x : Nat) : ∀ v : Vec, (∀ p, p ∈ R → p.1 x = 0) → redV R v x = v x := by
 induction R with
 | nil => intro v _; rfl
 | cons p R ih =>
  obtain ⟨r, l⟩ := p
  intro v h
  have h0 : r x = 0 := h (r, l) List.mem_cons_self
  unfold redV
  rw [ih _ (fun p hp => h p (List.mem_cons_of_mem _ hp))]
  unfold vless
  rw [h0]; grind
theorem redV_lead (R : Lds) : Red R → ∀ (v : Vec) (p : Vec × Nat), p ∈ R → redV R v p.2 = 0 := by
 induction R with
 | nil => intro _ v p hp; cases hp
 | cons q R ih =>
  intro h v p hp
  obtain ⟨r, l⟩ := q
  obtain ⟨h1, h2, h3⟩ := h.cons
  unfold redV
  rcases List.mem_cons.1 hp with rfl | hp
  ·rw [redV_keep R _ _ (fun p hp => (h2 p hp).2)]
   unfold vless
   simp only at h1 ⊢
   rw [h1]; grind
  ·exact ih h3 _ p hp
theorem redV_span (R : Lds) : ∀ v : Vec, Sp (InR R) (vless v (redV R v) 1) := by
 induction R with
 | nil =>
  intro v
  rw [show vless v (redV [] v) 1 = vzero from funext fun c => by unfold vless redV vzero; grind]
  exact Sp.zero
 | cons p R ih =>
  obtain ⟨r, l⟩ := p
  intro v
  unfold redV
  have h1 := Sp.mono (T := InR ((r, l) :: R)) (fun u hu => by obtain ⟨p, hp, e⟩ := hu; exact ⟨p, List.mem_cons_of_mem _ hp, e⟩) (ih (vless v r (v l)))
  have h2 := Sp.step (v l) h1 (show InR ((r, l) :: R) r from ⟨(r, l), List.mem_cons_self, rfl⟩)
  rwa [show vadd (vless (vless v r (v l)) (redV R (vless v r (v l))) 1) r (v l) = vless v (redV R (vless v r (v l))) 1 from funext fun c => by unfold vadd vless; grind] at h2
theorem redV_add (R : Lds) : ∀ (v u : Vec) (a : Rat), redV R (vadd v u a) = vadd (redV R v) (redV R u) a := by
 induction R with
 | nil => intro v u a; rfl
 | cons p R ih =>
  obtain ⟨r, l⟩ := p
  intro v u a
  unfold redV
  rw [← ih]
  congr 1
  exact funext fun c => by unfold vless vadd; grind
theorem redV_zero (R : Lds) : redV R vzero = vzero := by
 have h := redV_add R vzero vzero 1
 have e : vadd vzero vzero 1 = vzero := funext fun c => by unfold vadd vzero; grind
 rw [e] at h
 refine funext fun c => ?_
 have := congrFun h c
 unfold vadd at this
 unfold vzero at *
 grind
theorem redV_row (R : Lds) : Red R → ∀ p, p ∈ R → redV R p.1 = vzero := by
 induction R with
 | nil => intro _ p hp; cases hp
 | cons q R ih =>
  intro h p hp
  obtain ⟨r, l⟩ := q
  obtain ⟨h1, h2, h3⟩ := h.cons
  unfold redV
  simp only at h1 h2
  rcases List.mem_cons.1 hp with rfl | hp
  ·rw [show vless r r (r l) = vzero from funext fun c => by unfold vless vzero; rw [h1]; grind]
   exact redV_zero R
  ·rw [show vless p.1 r (p.1 l) = p.1 from funext fun c => by unfold vless; rw [(h2 p hp).2]; grind]
   exact ih h3 p hp
/-- A vector lies in the span if and only if nothing is left of it. -/
theorem redV_iff {R : Lds} (h : Red R) (v : Vec) : Sp (InR R) v ↔ redV R v = vzero := by
 constructor
 ·intro hv
  induction hv with
  | zero => exact redV_zero R
  | @step x u a _ hu ih =>
   obtain ⟨p, hp, rfl⟩ := hu
   rw [redV_add, ih, redV_row R h p hp]
   exact funext fun c => by unfold vadd vzero; grind
 ·intro h0
  have h1 := redV_span R v
  rwa [h0, show vless v vzero 1 = v from funext fun c => by unfold vless vzero; grind] at h1
/-- Nothing beyond n. -/
def Supp (n : Nat) (v : Vec) : Prop := ∀ c, n ≤ c → v c = 0
theorem Supp.less {n : Nat} {v u : Vec} (hv : Supp n v) (hu : Supp n u) (a : Rat) : Supp n (vless v u a) := fun c hc => by unfold vless; rw [hv c hc, hu c hc]; grind
theorem redV_supp {n : Nat} (R : Lds) : ∀ v : Vec, (∀ p, p ∈ R → Supp n p.1) → Supp n v → Supp n (redV R v) := fun v h hv c hc => by
 rw [redV_keep R c v (fun p hp => h p hp c hc)]; exact hv c hc
/-- The first place below n where a vector is not 0. -/
def leadOf (v : Vec) : Nat → Nat → Option Nat
 | _, 0 => none
 | i, n + 1 => if v i = 0 then leadOf v (i + 1) n else some i
theorem leadOf_none (v : Vec) : ∀ n i, leadOf v i n = none ↔ ∀ c, i ≤ c → c < i + n → v c = 0 := by
 intro n
 induction n with
 | zero => intro i; simp only [leadOf, true_iff]; intro c h1 h2; omega
 | succ n ih =>
  intro i
  unfold leadOf
  by_cases h : v i = 0
  ·rw [if_pos h, ih]
   constructor
   ·intro hh c h1 h2
    by_cases hc : c = i
    ·rw [hc]; exact h
    ·exact hh c (by omega) (by omega)
   ·intro hh c h1 h2; exact hh c (by omega) (by omega)
  ·rw [if_neg h]
   constructor
   ·intro hh; cases hh
   ·intro hh; exact absurd (hh i (Nat.le_refl _) (by omega)) h
theorem leadOf_some (v : Vec) : ∀ n i l, leadOf v i n = some l → i ≤ l ∧ l < i + n ∧ v l ≠ 0 ∧ ∀ c, i ≤ c → c < l → v c = 0 := by
 intro n
 induction n with
 | zero => intro i l h; cases h
 | succ n ih =>
  intro i l h
  unfold leadOf at h
  by_cases h0 : v i = 0
  ·rw [if_pos h0] at h
   obtain ⟨a, b, c, d⟩ := ih (i + 1) l h
   refine ⟨by omega, by omega, c, fun x h1 h2 => ?_⟩
   by_cases hx : x = i
   ·rw [hx]; exact h0
   ·exact d x (by omega) h2
  ·rw [if_neg h0] at h
   cases h
   exact ⟨Nat.le_refl _, by omega, h0, fun x h1 h2 => by omega⟩
theorem rat_div_self {x : Rat} (h : x ≠ 0) : x / x = 1 := by rw [Rat.div_def, Rat.mul_inv_cancel _ h]
/-- The new row, divided by its lead. -/
def newRow (v : Vec) (l : Nat) : Vec := fun c => v c / v l
/-- The rows with one more, and the others reduced by it. -/
def addR (R : Lds) (row : Vec) (l : Nat) : Lds := R.map (fun p => (vless p.1 row (p.1 l), p.2)) ++ [(row, l)]
/-- One more row. -/
def addV (n : Nat) (R : Lds) (v : Vec) : Lds := match leadOf (redV R v) 0 n with
 | none => R
 | some l => addR R (newRow (redV R v) l) l
theorem addR_red {R : Lds} (h : Red R) {row : Vec} {l : Nat} (hl : row l = 1) (hz : ∀ p, p ∈ R → row p.2 = 0) : Red (addR R row l) := by
 obtain ⟨h1, h2⟩ := h
 unfold addR
 constructor
 ·intro p hp
  rcases List.mem_append.1 hp with hp | hp
  ·obtain ⟨q, hq, rfl⟩ := List.mem_map.1 hp
   simp only [vless]
   rw [h1 q hq, hz q hq]; grind
  ·rw [List.mem_singleton.1 hp]; exact hl
 ·rw [List.pairwise_append]
  refine ⟨?_, List.pairwise_singleton _ _, ?_⟩
  ·rw [List.pairwise_map]
   refine List.Pairwise.imp_of_mem ?_ h2
   intro p q hp hq hpq
   simp only [vless]
   rw [hpq.1, hpq.2, hz p hp, hz q hq]
   exact ⟨by grind, by grind⟩
  ·intro p hp q hq
   obtain ⟨p', hp', rfl⟩ := List.mem_map.1 hp
   rw [List.mem_singleton.1 hq]
   simp only [vless]
   rw [hl]
   exact ⟨by grind, hz p' hp'⟩
theorem addV_red {n : Nat} {R : Lds} (h : Red R) (v : Vec) : Red (addV n R v) := by
 unfold addV
 cases hl : leadOf (redV R v) 0 n with
 | none => exact h
 | some l =>
  obtain ⟨_, _, h3, _⟩ := leadOf_some _ _ _ _ hl
  refine addR_red h ?_ (fun p hp => ?_)
  ·unfold newRow; exact rat_div_self h3
  ·unfold newRow; rw [redV_lead R h v p hp]; grind
theorem div_mul_one {x y : Rat} (h : y ≠ 0) : x / y * y = x := by rw [Rat.div_def, Rat.mul_assoc, Rat.inv_mul_cancel _ h, Rat.mul_one]
/-- The rows with one more span what the rows and the vector do. -/
theorem addV_span {n : Nat} {R : Lds} (hs : ∀ p, p ∈ R → Supp n p.1) (v : Vec) (hv : Supp n v) (x : Vec) : Sp (InR (addV n R v)) x ↔ Sp (fun u => InR R u ∨ u = v) x := by
 unfold addV
 have hd := redV_span R v
 cases hl : leadOf (redV R v) 0 n with
 | none =>
  have hz : redV R v = vzero := funext fun c => by
   by_cases hc : c < n
   ·exact (leadOf_none _ _ _).1 hl c (by omega) (by omega)
   ·exact redV_supp R v hs hv c (by omega)
  constructor
  ·exact Sp.mono fun u hu => .inl hu
  ·refine Sp.sub fun u hu => ?_
   rcases hu with hu | rfl
   ·exact Sp.mem hu
   ·rwa [hz, show vless u vzero 1 = u from funext fun c => by unfold vless vzero; grind] at hd
 | some l =>
  obtain ⟨_, _, h3, _⟩ := leadOf_some _ _ _ _ hl
  simp only
  obtain ⟨y, hy⟩ : ∃ y, redV R v = y := ⟨_, rfl⟩
  rw [hy] at hd h3 ⊢
  have e1 : ∀ c, newRow y l c * y l = y c := fun c => by unfold newRow; exact div_mul_one h3
  constructor
  ·refine Sp.sub fun u hu => ?_
   have hrow : Sp (fun u => InR R u ∨ u = v) (newRow y l) := by
    have a1 : Sp (fun u => InR R u ∨ u = v) v := Sp.mem (.inr rfl)
    have a2 := Sp.smul (Sp.less a1 (Sp.mono (T := fun u => InR R u ∨ u = v) (fun u hu => .inl hu) hd) 1) (y l)⁻¹
    rwa [show (fun c => vless v (vless v y 1) 1 c * (y l)⁻¹) = newRow y l from funext fun c => by unfold vless newRow; rw [Rat.div_def]; grind] at a2
   obtain ⟨p, hp, rfl⟩ := hu
   rcases List.mem_append.1 hp with hp | hp
   ·obtain ⟨q, hq, rfl⟩ := List.mem_map.1 hp
    exact Sp.less (Sp.mem (.inl ⟨q, hq, rfl⟩)) hrow _
   ·rw [List.mem_singleton.1 hp]; exact hrow
  ·refine Sp.sub fun u hu => ?_
   have hrow : Sp (InR (addR R (newRow y l) l)) (newRow y l) := Sp.mem ⟨(newRow y l, l), List.mem_append_right _ (List.mem_singleton.2 rfl), rfl⟩
   have hold : ∀ q, q ∈ R → Sp (InR (addR R (newRow y l) l)) q.1 := fun q hq => by
    have a1 : Sp (InR (addR R (newRow y l) l)) (vless q.1 (newRow y l) (q.1 l)) := Sp.mem ⟨(vless q.1 (newRow y l) (q.1 l), q.2), List.mem_append_left _ (List.mem_map.2 ⟨q, hq, rfl⟩), rfl⟩
    have a2 := Sp.add a1 hrow (q.1 l)
    rwa [show vadd (vless q.1 (newRow y l) (q.1 l)) (newRow y l) (q.1 l) = q.1 from funext fun c => by unfold vadd vless; grind] at a2
   rcases hu with ⟨q, hq, rfl⟩ | rfl
   ·exact hold q hq
   ·have a1 := Sp.sub (T := InR (addR R (newRow y l) l)) (fun w hw => by obtain ⟨q, hq, rfl⟩ := hw; exact hold q hq) hd
    have a2 := Sp.add a1 hrow (y l)
    rwa [show vadd (vless u y 1) (newRow y l) (y l) = u from funext fun c => by have := e1 c; unfold vadd vless; grind] at a2
end Go.Proofs.Ytkoidookanmknaa
namespace Go.Proofs.Ytkoidookanmknaa
set_option linter.unusedSimpArgs false
set_option linter.unusedVariables false

def vecI (l : List Int) : Vec := fun c => ((l.getD c 0 : Int) : Rat)
def InL (L : List (List Int)) (u : Vec) : Prop := ∃ l, l ∈ L ∧ vecI l = u
/-- c is the first place of a vector of the span. -/
def IsLd (S : Vec → Prop) (c : Nat) : Prop := ∃ v, Sp S v ∧ v c ≠ 0 ∧ ∀ x, x < c → v x = 0
/-- How many of the first numbers have a property. -/
inductive Cnt (P : Nat → Prop) : Nat → Nat → Prop
 | zero : Cnt P 0 0
 | yes {n k : Nat} : Cnt P n k → P n → Cnt P (n + 1) (k + 1)
 | no {n k : Nat} : Cnt P n k → ¬ P n → Cnt P (n + 1) k
theorem Cnt.le {P Q : Nat → Prop} (h : ∀ c, P c → Q c) {n k j : Nat} (hp : Cnt P n k) (hq : Cnt Q n j) : k ≤ j ∧ (k = j → ∀ c, c < n → Q c → P c) := by
 induction hp generalizing j with
 | zero => cases hq; exact ⟨Nat.le_refl _, fun _ c hc => by omega⟩
 | @yes n k hp hP ih =>
  cases hq with
  | yes hq hQ =>
   obtain ⟨a, b⟩ := ih hq
   refine ⟨by omega, fun e c hc hc2 => ?_⟩
   by_cases hcn : c = n
   ·rw [hcn]; exact hP
   ·exact b (by omega) c (by omega) hc2
  | no hq hQ => exact absurd (h _ hP) hQ
 | @no n k hp hP ih =>
  cases hq with
  | @yes _ j hq hQ =>
   obtain ⟨a, b⟩ := ih hq
   exact ⟨by omega, fun e => by omega⟩
  | no hq hQ =>
   obtain ⟨a, b⟩ := ih hq
   refine ⟨a, fun e c hc hc2 => ?_⟩
   by_cases hcn : c = n
   ·rw [hcn] at hc2; exact absurd hc2 hQ
   ·exact b e c (by omega) hc2
theorem Cnt.eq {P Q : Nat → Prop} (h : ∀ c, P c ↔ Q c) {n k j : Nat} (hp : Cnt P n k) (hq : Cnt Q n j) : k = j := by
 have h1 := (Cnt.le (fun c => (h c).1) hp hq).1
 have h2 := (Cnt.le (fun c => (h c).2) hq hp).1
 omega
theorem IsLd.mono {S T : Vec → Prop} (h : ∀ x, Sp S x → Sp T x) {c : Nat} (hc : IsLd S c) : IsLd T c := by
 obtain ⟨v, a, b⟩ := hc
 exact ⟨v, h v a, b⟩
theorem redV_fix (R : Lds) : ∀ v : Vec, (∀ p, p ∈ R → v p.2 = 0) → redV R v = v := by
 induction R with
 | nil => intro v _; rfl
 | cons p R ih =>
  obtain ⟨r, l⟩ := p
  intro v h
  have h0 : v l = 0 := h (r, l) List.mem_cons_self
  unfold redV
  rw [h0, show vless v r 0 = v from funext fun c => by unfold vless; grind]
  exact ih v (fun p hp => h p (List.mem_cons_of_mem _ hp))
/-- Rows with growing leads, each 0 before its lead. -/
def Ech (R : Lds) : Prop := R.Pairwise (fun p q => p.2 < q.2) ∧ ∀ p, p ∈ R → p.1 p.2 = 1 ∧ ∀ y, y < p.2 → p.1 y = 0
theorem redV_ech (R : Lds) : Ech R → ∀ p, p ∈ R → redV R p.1 = vzero := by
 induction R with
 | nil => intro _ p hp; cases hp
 | cons q R ih =>
  intro h p hp
  obtain ⟨r, l⟩ := q
  obtain ⟨h1, h2⟩ := h
  rw [List.pairwise_cons] at h1
  unfold redV
  rcases List.mem_cons.1 hp with rfl | hp'
  ·have := (h2 (r, l) List.mem_cons_self).1
   simp only at this ⊢
   rw [show vless r r (r l) = vzero from funext fun c => by unfold vless vzero; rw [this]; grind]
   exact redV_zero R
  ·have h3 := (h2 p hp).2 l (h1.1 p hp')
   rw [h3, show vless p.1 r 0 = p.1 from funext fun c => by unfold vless; grind]
   exact ih ⟨h1.2, fun q hq => h2 q (List.mem_cons_of_mem _ hq)⟩ p hp'
/-- Rows of integers with growing leads, from row k on. -/
structure EchI (c : Nat) (L : List (List Int)) (ls : List Nat) : Prop where
 inc : ls.Pairwise (· < ·)
 lt : ∀ x, x ∈ ls → x < c
 row : ∀ (k : Nat) (l : List Int) (x : Nat), L[k]? = some l → ls[k]? = some x → l.getD x 0 ≠ 0 ∧ ∀ y, y < x → l.getD y 0 = 0
structure EInv (S : Vec → Prop) (n c rk : Nat) (L : List (List Int)) : Prop where
 span : ∀ x, Sp (InL L) x ↔ Sp S x
 len : ∀ l, l ∈ L → l.length = n
 ech : ∃ ls, ls.length = rk ∧ EchI c L ls
 rkL : rk ≤ L.length
 rest : ∀ (i : Nat) (l : List Int), L[i]? = some l → rk ≤ i → ∀ y, y < c → l.getD y 0 = 0
 cnt : Cnt (IsLd S) c rk
/-- The first rows, each divided by its lead. -/
def normR : List (List Int) → List Nat → Lds
 | l :: L, x :: ls => (newRow (vecI l) x, x) :: normR L ls
 | _, _ => []
theorem normR_mem : ∀ (L : List (List Int)) (ls : List Nat) (p : Vec × Nat), p ∈ normR L ls → ∃ (k : Nat) (l : List Int), L[k]? = some l ∧ ls[k]? = some p.2 ∧ p.1 = newRow (vecI l) p.2
 | [], _, p, h => by simp [normR] at h
 | _ :: _, [], p, h => by simp [normR] at h
 | l :: L, x :: ls, p, h => by
  unfold normR at h
  rcases List.mem_cons.1 h with rfl | h
  ·exact ⟨0, l, rfl, rfl, rfl⟩
  ·obtain ⟨k, l', h1, h2, h3⟩ := normR_mem L ls p h
   exact ⟨k + 1, l', h1, h2, h3⟩
theorem normR_get : ∀ (L : List (List Int)) (ls : List Nat) (k : Nat) (l : List Int) (x : Nat), L[k]? = some l → ls[k]? = some x → (newRow (vecI l) x, x) ∈ normR L ls
 | [], _, k, l, x, h, _ => by simp at h
 | _ :: _, [], k, l, x, _, h => by simp at h
 | l' :: L, x' :: ls, k, l, x, h1, h2 => by
  cases k with
  | zero => simp at h1 h2; subst h1; subst h2; exact List.mem_cons_self
  | succ k => exact List.mem_cons_of_mem _ (normR_get L ls k l x h1 h2)
theorem normR_pw : ∀ (L : List (List Int)) (ls : List Nat), ls.Pairwise (· < ·) → (normR L ls).Pairwise (fun p q => p.2 < q.2)
 | [], _, _ => by simp [normR]
 | _ :: _, [], _ => by simp [normR]
 | l :: L, x :: ls, h => by
  rw [List.pairwise_cons] at h
  unfold normR
  rw [List.pairwise_cons]
  refine ⟨fun q hq => ?_, normR_pw L ls h.2⟩
  obtain ⟨k, l', _, h2, _⟩ := normR_mem L ls q hq
  exact h.1 _ (List.mem_of_getElem? h2)
theorem vecI_ne {l : List Int} {x : Nat} (h : l.getD x 0 ≠ 0) : vecI l x ≠ 0 := fun e => h (Rat.intCast_eq_zero_iff.1 e)
theorem vecI_zero {l : List Int} {x : Nat} (h : l.getD x 0 = 0) : vecI l x = 0 := by unfold vecI; rw [h]; rfl
theorem EchI.ech {c : Nat} {L : List (List Int)} {ls : List Nat} (h : EchI c L ls) : Ech (normR L ls) := by
 refine ⟨normR_pw L ls h.inc, fun p hp => ?_⟩
 obtain ⟨k, l, h1, h2, h3⟩ := normR_mem L ls p hp
 obtain ⟨a, b⟩ := h.row k l _ h1 h2
 rw [h3]
 refine ⟨rat_div_self (vecI_ne a), fun y hy => ?_⟩
 unfold newRow
 rw [vecI_zero (b y hy)]
 grind
/-- Without a pivot there is no lead. -/
theorem EInv.skip {S : Vec → Prop} {n c rk : Nat} {L : List (List Int)} (h : EInv S n c rk L) (h0 : ∀ (i : Nat) (l : List Int), L[i]? = some l → rk ≤ i → l.getD c 0 = 0) : EInv S n (c + 1) rk L := by
 obtain ⟨ls, hls, he⟩ := h.ech
 have hE := he.ech
 refine ⟨h.span, h.len, ⟨ls, hls, he.inc, fun x hx => by have := he.lt x hx; omega, he.row⟩, h.rkL, fun i l hi hr y hy => ?_, .no h.cnt ?_⟩
 ·by_cases hyc : y = c
  ·rw [hyc]; exact h0 i l hi hr
  ·exact h.rest i l hi hr y (by omega)
 ·rintro ⟨v, hv, hvc, hvz⟩
  have hlt : ∀ p, p ∈ normR L ls → p.2 < c := fun p hp => by
   obtain ⟨k, l, _, h2, _⟩ := normR_mem L ls p hp
   exact he.lt _ (List.mem_of_getElem? h2)
  have e1 : redV (normR L ls) v c = 0 := by
   refine Sp.lin (fun v => redV (normR L ls) v c) ?_ ?_ ?_ ((h.span v).2 hv)
   ·show redV (normR L ls) vzero c = 0
    rw [redV_zero]; rfl
   ·intro v u a
    show redV (normR L ls) (vadd v u a) c = _
    rw [redV_add]; rfl
   ·rintro u ⟨l, hl, rfl⟩
    obtain ⟨i, hi⟩ := List.mem_iff_getElem?.1 hl
    by_cases hir : i < rk
    ·obtain ⟨x, hx⟩ : ∃ x, ls[i]? = some x := ⟨_, List.getElem?_eq_getElem (by omega)⟩
     have hm := normR_get L ls i l x hi hx
     have := redV_ech _ hE _ hm
     obtain ⟨a, b⟩ := he.row i l x hi hx
     have e2 : vecI l = vadd vzero (newRow (vecI l) x) (vecI l x) := funext fun y => by
      unfold vadd vzero newRow
      rw [Rat.div_mul_cancel (vecI_ne a)]; grind
     show redV (normR L ls) (vecI l) c = 0
     rw [e2, redV_add, this, redV_zero]
     unfold vadd vzero; grind
    ·show redV (normR L ls) (vecI l) c = 0
     rw [redV_fix _ _ (fun p hp => vecI_zero (h.rest i l hi (by omega) _ (hlt p hp)))]
     exact vecI_zero (h0 i l hi (by omega))
  rw [redV_fix _ _ (fun p hp => hvz _ (hlt p hp))] at e1
  exact hvc e1
/-- In the midst of an elimination with the row 'first'. -/
structure EMid (S : Vec → Prop) (n c rk i : Nat) (first : List Int) (L : List (List Int)) : Prop where
 span : ∀ x, Sp (InL L) x ↔ Sp S x
 len : ∀ l, l ∈ L → l.length = n
 ech : ∃ ls, ls.length = rk ∧ EchI c L ls
 rki : rk < i
 iL : i ≤ L.length
 atr : L[rk]? = some first
 fc : first.getD c 0 ≠ 0
 fz : ∀ y, y < c → first.getD y 0 = 0
 mid : ∀ (j : Nat) (l : List Int), L[j]? = some l → rk < j → j < i → ∀ y, y ≤ c → l.getD y 0 = 0
 rest : ∀ (j : Nat) (l : List Int), L[j]? = some l → i ≤ j → ∀ y, y < c → l.getD y 0 = 0
 cnt : Cnt (IsLd S) c rk
/-- A row replaced by what the elimination makes of it. -/
theorem EMid.step {S : Vec → Prop} {n c rk i : Nat} {f l u : List Int} {g : Int} {L : List (List Int)} (h : EMid S n c rk i f L) (hi : L[i]? = some l) (hu : u.length = n) (hg : g ≠ 0) (hn : c < n)
  (he : ∀ j, j < n → u.getD j 0 * g = l.getD j 0 * f.getD c 0 - f.getD j 0 * l.getD c 0) : EMid S n c rk (i + 1) f (L.set i u) := by
 have hiL : i < L.length := by
  rcases Nat.lt_or_ge i L.length with h1 | h1
  ·exact h1
  ·rw [List.getElem?_eq_none h1] at hi; cases hi
 have hrki := h.rki
 have hfl := h.len f (List.mem_of_getElem? h.atr)
 have hll := h.len l (List.mem_of_getElem? hi)
 have hall : ∀ j, u.getD j 0 * g = l.getD j 0 * f.getD c 0 - f.getD j 0 * l.getD c 0 := fun j => by
  rcases Nat.lt_or_ge j n with h1 | h1
  ·exact he j h1
  ·have z : ∀ q : List Int, q.length = n → q.getD j 0 = 0 := fun q hq => by rw [List.getD_eq_getElem?_getD, List.getElem?_eq_none (by omega)]; rfl
   rw [z u hu, z f hfl, z l hll]; simp
 have hgq : (g : Rat) ≠ 0 := fun e => hg (Rat.intCast_eq_zero_iff.1 e)
 have hfq : (f.getD c 0 : Rat) ≠ 0 := fun e => h.fc (Rat.intCast_eq_zero_iff.1 e)
 have hq : ∀ j, vecI u j * (g : Rat) = vecI l j * (f.getD c 0 : Rat) - vecI f j * (l.getD c 0 : Rat) := fun j => by
  unfold vecI
  rw [← Rat.intCast_mul, hall j, Rat.intCast_sub, Rat.intCast_mul, Rat.intCast_mul]
 have hne : i ≠ rk := by omega
 have hfirst : (L.set i u)[rk]? = some f := by rw [List.getElem?_set_ne hne]; exact h.atr
 obtain ⟨ls, hls, hec⟩ := h.ech
 refine ⟨fun x => ?_, fun q hq => ?_, ⟨ls, hls, hec.inc, hec.lt, fun j q x h1 h2 => ?_⟩, by omega, by simp; omega, hfirst, h.fc, h.fz, fun j q h1 h2 h3 y hy => ?_, fun j q h1 h2 y hy => ?_, h.cnt⟩
 ·rw [← h.span x]
  have gi := Rat.mul_inv_cancel _ hgq
  have fi := Rat.mul_inv_cancel _ hfq
  constructor
  ·refine Sp.sub fun v hv => ?_
   obtain ⟨q, hqm, rfl⟩ := hv
   rcases List.mem_or_eq_of_mem_set hqm with hm | rfl
   ·exact Sp.mem ⟨q, hm, rfl⟩
   ·have a1 : Sp (InL L) (vecI l) := Sp.mem ⟨l, List.mem_of_getElem? hi, rfl⟩
    have a2 : Sp (InL L) (vecI f) := Sp.mem ⟨f, List.mem_of_getElem? h.atr, rfl⟩
    have a3 := Sp.less (Sp.smul a1 ((f.getD c 0 : Rat) * (g : Rat)⁻¹)) a2 ((l.getD c 0 : Rat) * (g : Rat)⁻¹)
    rwa [show vless (fun y => vecI l y * ((f.getD c 0 : Rat) * (g : Rat)⁻¹)) (vecI f) ((l.getD c 0 : Rat) * (g : Rat)⁻¹) = vecI q from funext fun y => by
     unfold vless
     have := hq y
     grind] at a3
  ·refine Sp.sub fun v hv => ?_
   obtain ⟨q, hqm, rfl⟩ := hv
   have hu' : Sp (InL (L.set i u)) (vecI u) := Sp.mem ⟨u, List.mem_of_getElem? (List.getElem?_set_self hiL), rfl⟩
   have hf' : Sp (InL (L.set i u)) (vecI f) := Sp.mem ⟨f, List.mem_of_getElem? hfirst, rfl⟩
   obtain ⟨j, hj⟩ := List.mem_iff_getElem?.1 hqm
   by_cases hji : i = j
   ·subst hji
    rw [hi] at hj
    cases hj
    have a3 := Sp.add (Sp.smul hu' ((g : Rat) * (f.getD c 0 : Rat)⁻¹)) hf' ((l.getD c 0 : Rat) * (f.getD c 0 : Rat)⁻¹)
    rwa [show vadd (fun y => vecI u y * ((g : Rat) * (f.getD c 0 : Rat)⁻¹)) (vecI f) ((l.getD c 0 : Rat) * (f.getD c 0 : Rat)⁻¹) = vecI l from funext fun y => by
     unfold vadd
     have := hq y
     grind] at a3
   ·exact Sp.mem ⟨q, List.mem_of_getElem? (by rw [List.getElem?_set_ne hji]; exact hj), rfl⟩
 ·rcases List.mem_or_eq_of_mem_set hq with hm | rfl
  ·exact h.len q hm
  ·exact hu
 ·have hj : j < ls.length := by
   rcases Nat.lt_or_ge j ls.length with h9 | h9
   ·exact h9
   ·rw [List.getElem?_eq_none h9] at h2; cases h2
  rw [List.getElem?_set_ne (by omega)] at h1
  exact hec.row j q x h1 h2
 ·by_cases hji : i = j
  ·subst hji
   rw [List.getElem?_set_self hiL] at h1
   cases h1
   have e := hall y
   by_cases hyc : y = c
   ·subst hyc
    have e2 : u.getD y 0 * g = 0 := by rw [e, Int.mul_comm]; omega
    rcases Int.mul_eq_zero.1 e2 with h9 | h9
    ·exact h9
    ·exact absurd h9 hg
   ·rw [h.fz y (by omega), h.rest i l hi (Nat.le_refl _) y (by omega)] at e
    have e2 : u.getD y 0 * g = 0 := by rw [e]; simp
    rcases Int.mul_eq_zero.1 e2 with h9 | h9
    ·exact h9
    ·exact absurd h9 hg
  ·rw [List.getElem?_set_ne hji] at h1
   exact h.mid j q h1 h2 (by omega) y hy
 ·rw [List.getElem?_set_ne (by omega)] at h1
  exact h.rest j q h1 (by omega) y hy
theorem EMid.done {S : Vec → Prop} {n c rk : Nat} {f : List Int} {L : List (List Int)} (h : EMid S n c rk L.length f L) : EInv S n (c + 1) (rk + 1) L := by
 obtain ⟨ls, hls, he⟩ := h.ech
 have hrk := h.rki
 have hfirst := h.atr
 refine ⟨h.span, h.len, ⟨ls ++ [c], by simp [hls], ?_, ?_, ?_⟩, by omega, fun i l hi hr y hy => ?_, .yes h.cnt ⟨vecI f, (h.span _).1 (Sp.mem ⟨f, List.mem_of_getElem? h.atr, rfl⟩), vecI_ne h.fc, fun x hx => vecI_zero (h.fz x hx)⟩⟩
 ·rw [List.pairwise_append]
  exact ⟨he.inc, List.pairwise_singleton _ _, fun a ha b hb => by rw [List.mem_singleton.1 hb]; exact he.lt a ha⟩
 ·intro x hx
  rcases List.mem_append.1 hx with hx | hx
  ·have := he.lt x hx; omega
  ·rw [List.mem_singleton.1 hx]; omega
 ·intro k l x h1 h2
  by_cases hk : k < ls.length
  ·rw [List.getElem?_append_left hk] at h2
   exact he.row k l x h1 h2
  ·rw [List.getElem?_append_right (by omega)] at h2
   have hk2 : k = rk := by
    rcases Nat.lt_or_ge (k - ls.length) 1 with h9 | h9
    ·omega
    ·rw [List.getElem?_eq_none (by simpa using h9)] at h2; cases h2
   subst hk2
   rw [show k - ls.length = 0 by omega] at h2
   simp at h2
   subst h2
   rw [hfirst] at h1
   cases h1
   exact ⟨h.fc, h.fz⟩
 ·have hil : i < L.length := by
   rcases Nat.lt_or_ge i L.length with h9 | h9
   ·exact h9
   ·rw [List.getElem?_eq_none h9] at hi; cases hi
  exact h.mid i l hi (by omega) hil y (by omega)
theorem EInv.start {n : Nat} {L : List (List Int)} (h : ∀ l, l ∈ L → l.length = n) : EInv (InL L) n 0 0 L :=
 ⟨fun _ => Iff.rfl, h, ⟨[], rfl, by simp, by simp, by simp⟩, Nat.zero_le _, fun _ _ _ _ y hy => by omega, .zero⟩
/-- The number of leads is the rank; a vector that does not raise it lies in the span. -/
def RankN (S : Vec → Prop) (n k : Nat) : Prop := Cnt (IsLd S) n k
/-- Each row of reduced rows is 0 before its lead. -/
def RedZ (R : Lds) : Prop := ∀ p, p ∈ R → ∀ y, y < p.2 → p.1 y = 0
theorem addV_redZ {n : Nat} {R : Lds} (h : RedZ R) (hr : Red R) (v : Vec) : RedZ (addV n R v) := by
 unfold addV
 cases hl : leadOf (redV R v) 0 n with
 | none => exact h
 | some l =>
  obtain ⟨_, _, h3, h4⟩ := leadOf_some _ _ _ _ hl
  have hrow : ∀ y, y < l → newRow (redV R v) l y = 0 := fun y hy => by unfold newRow; rw [h4 y (by omega) hy]; grind
  intro p hp y hy
  rcases List.mem_append.1 hp with hp | hp
  ·obtain ⟨q, hq, rfl⟩ := List.mem_map.1 hp
   simp only [vless] at hy ⊢
   have e1 := h q hq y hy
   rcases Nat.lt_or_ge y l with h1 | h1
   ·rw [hrow y h1, e1]; grind
   ·rw [e1, h q hq l (by omega)]; grind
  ·rw [List.mem_singleton.1 hp] at hy ⊢
   exact hrow y hy
end Go.Proofs.Ytkoidookanmknaa
