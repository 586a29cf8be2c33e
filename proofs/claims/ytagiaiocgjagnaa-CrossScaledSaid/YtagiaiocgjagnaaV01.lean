/- Plain laws of chapter 30: vectors of rational numbers, spans, rows in reduced form. -/
import Derived.Test.YtagiaiocgjagnaaRows
namespace Go.Proofs.Ytagiaiocgjagnaa
set_option linter.unusedSimpArgs false
set_option linter.unusedVariables false

/-- A vector: a number for each cell. -/
abbrev Vec := Nat → Rat
def vzero : Vec := fun _ => 0
/-- v and a multiple of u. -/
def vadd (v u : Vec) (a : Rat) : Vec := fun c => v c + u c * a
/-- v less a multiple of u, as the program does it. -/
def vless (v u : Vec) (a : Rat) : Vec := fun c => v c - u c * a
/-- The span of some vectors. -/
inductive Sp (S : Vec → Prop) : Vec → Prop
  | zero : Sp S vzero
  | step {v u : Vec} (a : Rat) : Sp S v → S u → Sp S (vadd v u a)
theorem Sp.mem {S : Vec → Prop} {u : Vec} (h : S u) : Sp S u := by
  have := Sp.step 1 (Sp.zero (S := S)) h
  rwa [show vadd vzero u 1 = u from funext fun c => by unfold vadd vzero; grind] at this
theorem Sp.add {S : Vec → Prop} {u v : Vec} (hv : Sp S v) (hu : Sp S u) (b : Rat) : Sp S (vadd v u b) := by
  induction hu with
  | zero => rwa [show vadd v vzero b = v from funext fun c => by unfold vadd vzero; grind]
  | @step x y a hx hy ih =>
    have := Sp.step (a * b) ih hy
    rwa [show vadd (vadd v x b) y (a * b) = vadd v (vadd x y a) b from funext fun c => by unfold vadd; grind] at this
theorem Sp.less {S : Vec → Prop} {u v : Vec} (hv : Sp S v) (hu : Sp S u) (b : Rat) : Sp S (vless v u b) := by
  have := Sp.add hv hu (-b)
  rwa [show vadd v u (-b) = vless v u b from funext fun c => by unfold vadd vless; grind] at this
theorem Sp.smul {S : Vec → Prop} {u : Vec} (hu : Sp S u) (b : Rat) : Sp S (fun c => u c * b) := by
  have := Sp.add Sp.zero hu b
  rwa [show vadd vzero u b = (fun c => u c * b) from funext fun c => by unfold vadd vzero; grind] at this
theorem Sp.sub {S T : Vec → Prop} {v : Vec} (h : ∀ u, S u → Sp T u) (hv : Sp S v) : Sp T v := by
  induction hv with
  | zero => exact Sp.zero
  | step a _ hu ih => exact Sp.add ih (h _ hu) a
theorem Sp.mono {S T : Vec → Prop} {v : Vec} (h : ∀ u, S u → T u) (hv : Sp S v) : Sp T v := Sp.sub (fun u hu => Sp.mem (h u hu)) hv
/-- A linear function that vanishes on the vectors vanishes on the span. -/
theorem Sp.lin {S : Vec → Prop} {v : Vec} (f : Vec → Rat) (f0 : f vzero = 0) (f1 : ∀ v u a, f (vadd v u a) = f v + f u * a) (h : ∀ u, S u → f u = 0) (hv : Sp S v) : f v = 0 := by
  induction hv with
  | zero => exact f0
  | step a _ hu ih => rw [f1, ih, h _ hu]; grind
/-- Rows with their leads. -/
abbrev Lds := List (Vec × Nat)
def InR (R : Lds) (u : Vec) : Prop := ∃ p, p ∈ R ∧ p.1 = u
/-- What is left of a vector. -/
def redV : Lds → Vec → Vec
  | [], v => v
  | (r, l) :: R, v => redV R (vless v r (v l))
def Red (R : Lds) : Prop := (∀ p, p ∈ R → p.1 p.2 = 1) ∧ R.Pairwise (fun p q => p.1 q.2 = 0 ∧ q.1 p.2 = 0)
theorem Red.cons {p : Vec × Nat} {R : Lds} (h : Red (p :: R)) : p.1 p.2 = 1 ∧ (∀ q, q ∈ R → p.1 q.2 = 0 ∧ q.1 p.2 = 0) ∧ Red R := by
  obtain ⟨h1, h2⟩ := h
  rw [List.pairwise_cons] at h2
  exact ⟨h1 p List.mem_cons_self, h2.1, fun q hq => h1 q (List.mem_cons_of_mem _ hq), h2.2⟩
theorem redV_keep (R : Lds) (x : Nat) : ∀ v : Vec, (∀ p, p ∈ R → p.1 x = 0) → redV R v x = v x := by
  induction R with
  | nil => intro v _; rfl
  | cons p R ih =>
    obtain ⟨r, l⟩ := p
    intro v h
    have h0 : r x = 0 := h (r, l) List.mem_cons_self
    unfold redV
    rw [ih _ (fun p hp => h p (List.mem_cons_of_mem _ hp))]
    unfold vless
    rw [h0]; grind
theorem redV_lead (R : Lds) : Red R → ∀ (v : Vec) (p : Vec × Nat), p ∈ R → redV R v p.2 = 0 := by
  induction R with
  | nil => intro _ v p hp; cases hp
  | cons q R ih =>
    intro h v p hp
    obtain ⟨r, l⟩ := q
    obtain ⟨h1, h2, h3⟩ := h.cons
    unfold redV
    rcases List.mem_cons.1 hp with rfl | hp
    · rw [redV_keep R _ _ (fun p hp => (h2 p hp).2)]
      unfold vless
      simp only at h1 ⊢
      rw [h1]; grind
    · exact ih h3 _ p hp
theorem redV_span (R : Lds) : ∀ v : Vec, Sp (InR R) (vless v (redV R v) 1) := by
  induction R with
  | nil =>
    intro v
    rw [show vless v (redV [] v) 1 = vzero from funext fun c => by unfold vless redV vzero; grind]
    exact Sp.zero
  | cons p R ih =>
    obtain ⟨r, l⟩ := p
    intro v
    unfold redV
    have h1 := Sp.mono (T := InR ((r, l) :: R)) (fun u hu => by obtain ⟨p, hp, e⟩ := hu; exact ⟨p, List.mem_cons_of_mem _ hp, e⟩) (ih (vless v r (v l)))
    have h2 := Sp.step (v l) h1 (show InR ((r, l) :: R) r from ⟨(r, l), List.mem_cons_self, rfl⟩)
    rwa [show vadd (vless (vless v r (v l)) (redV R (vless v r (v l))) 1) r (v l) = vless v (redV R (vless v r (v l))) 1 from funext fun c => by unfold vadd vless; grind] at h2
theorem redV_add (R : Lds) : ∀ (v u : Vec) (a : Rat), redV R (vadd v u a) = vadd (redV R v) (redV R u) a := by
  induction R with
  | nil => intro v u a; rfl
  | cons p R ih =>
    obtain ⟨r, l⟩ := p
    intro v u a
    unfold redV
    rw [← ih]
    congr 1
    exact funext fun c => by unfold vless vadd; grind
theorem redV_zero (R : Lds) : redV R vzero = vzero := by
  have h := redV_add R vzero vzero 1
  have e : vadd vzero vzero 1 = vzero := funext fun c => by unfold vadd vzero; grind
  rw [e] at h
  refine funext fun c => ?_
  have := congrFun h c
  unfold vadd at this
  unfold vzero at *
  grind
theorem redV_row (R : Lds) : Red R → ∀ p, p ∈ R → redV R p.1 = vzero := by
  induction R with
  | nil => intro _ p hp; cases hp
  | cons q R ih =>
    intro h p hp
    obtain ⟨r, l⟩ := q
    obtain ⟨h1, h2, h3⟩ := h.cons
    unfold redV
    simp only at h1 h2
    rcases List.mem_cons.1 hp with rfl | hp
    · rw [show vless r r (r l) = vzero from funext fun c => by unfold vless vzero; rw [h1]; grind]
      exact redV_zero R
    · rw [show vless p.1 r (p.1 l) = p.1 from funext fun c => by unfold vless; rw [(h2 p hp).2]; grind]
      exact ih h3 p hp
/-- A vector lies in the span if and only if nothing is left of it. -/
theorem redV_iff {R : Lds} (h : Red R) (v : Vec) : Sp (InR R) v ↔ redV R v = vzero := by
  constructor
  · intro hv
    induction hv with
    | zero => exact redV_zero R
    | @step x u a _ hu ih =>
      obtain ⟨p, hp, rfl⟩ := hu
      rw [redV_add, ih, redV_row R h p hp]
      exact funext fun c => by unfold vadd vzero; grind
  · intro h0
    have h1 := redV_span R v
    rwa [h0, show vless v vzero 1 = v from funext fun c => by unfold vless vzero; grind] at h1
/-- Nothing beyond n. -/
def Supp (n : Nat) (v : Vec) : Prop := ∀ c, n ≤ c → v c = 0
theorem Supp.less {n : Nat} {v u : Vec} (hv : Supp n v) (hu : Supp n u) (a : Rat) : Supp n (vless v u a) := fun c hc => by unfold vless; rw [hv c hc, hu c hc]; grind
theorem redV_supp {n : Nat} (R : Lds) : ∀ v : Vec, (∀ p, p ∈ R → Supp n p.1) → Supp n v → Supp n (redV R v) := fun v h hv c hc => by
  rw [redV_keep R c v (fun p hp => h p hp c hc)]; exact hv c hc
/-- The first place below n where a vector is not 0. -/
def leadOf (v : Vec) : Nat → Nat → Option Nat
  | _, 0 => none
  | i, n + 1 => if v i = 0 then leadOf v (i + 1) n else some i
theorem leadOf_none (v : Vec) : ∀ n i, leadOf v i n = none ↔ ∀ c, i ≤ c → c < i + n → v c = 0 := by
  intro n
  induction n with
  | zero => intro i; simp only [leadOf, true_iff]; intro c h1 h2; omega
  | succ n ih =>
    intro i
    unfold leadOf
    by_cases h : v i = 0
    · rw [if_pos h, ih]
      constructor
      · intro hh c h1 h2
        by_cases hc : c = i
        · rw [hc]; exact h
        · exact hh c (by omega) (by omega)
      · intro hh c h1 h2; exact hh c (by omega) (by omega)
    · rw [if_neg h]
      constructor
      · intro hh; cases hh
      · intro hh; exact absurd (hh i (Nat.le_refl _) (by omega)) h
theorem leadOf_some (v : Vec) : ∀ n i l, leadOf v i n = some l → i ≤ l ∧ l < i + n ∧ v l ≠ 0 ∧ ∀ c, i ≤ c → c < l → v c = 0 := by
  intro n
  induction n with
  | zero => intro i l h; cases h
  | succ n ih =>
    intro i l h
    unfold leadOf at h
    by_cases h0 : v i = 0
    · rw [if_pos h0] at h
      obtain ⟨a, b, c, d⟩ := ih (i + 1) l h
      refine ⟨by omega, by omega, c, fun x h1 h2 => ?_⟩
      by_cases hx : x = i
      · rw [hx]; exact h0
      · exact d x (by omega) h2
    · rw [if_neg h0] at h
      cases h
      exact ⟨Nat.le_refl _, by omega, h0, fun x h1 h2 => by omega⟩
theorem rat_div_self {x : Rat} (h : x ≠ 0) : x / x = 1 := by rw [Rat.div_def, Rat.mul_inv_cancel _ h]
/-- The new row, divided by its lead. -/
def newRow (v : Vec) (l : Nat) : Vec := fun c => v c / v l
/-- The rows with one more, and the others reduced by it. -/
def addR (R : Lds) (row : Vec) (l : Nat) : Lds := R.map (fun p => (vless p.1 row (p.1 l), p.2)) ++ [(row, l)]
/-- One more row. -/
def addV (n : Nat) (R : Lds) (v : Vec) : Lds := match leadOf (redV R v) 0 n with
  | none => R
  | some l => addR R (newRow (redV R v) l) l
theorem addR_red {R : Lds} (h : Red R) {row : Vec} {l : Nat} (hl : row l = 1) (hz : ∀ p, p ∈ R → row p.2 = 0) : Red (addR R row l) := by
  obtain ⟨h1, h2⟩ := h
  unfold addR
  constructor
  · intro p hp
    rcases List.mem_append.1 hp with hp | hp
    · obtain ⟨q, hq, rfl⟩ := List.mem_map.1 hp
      simp only [vless]
      rw [h1 q hq, hz q hq]; grind
    · rw [List.mem_singleton.1 hp]; exact hl
  · rw [List.pairwise_append]
    refine ⟨?_, List.pairwise_singleton _ _, ?_⟩
    · rw [List.pairwise_map]
      refine List.Pairwise.imp_of_mem ?_ h2
      intro p q hp hq hpq
      simp only [vless]
      rw [hpq.1, hpq.2, hz p hp, hz q hq]
      exact ⟨by grind, by grind⟩
    · intro p hp q hq
      obtain ⟨p', hp', rfl⟩ := List.mem_map.1 hp
      rw [List.mem_singleton.1 hq]
      simp only [vless]
      rw [hl]
      exact ⟨by grind, hz p' hp'⟩
theorem addV_red {n : Nat} {R : Lds} (h : Red R) (v : Vec) : Red (addV n R v) := by
  unfold addV
  cases hl : leadOf (redV R v) 0 n with
  | none => exact h
  | some l =>
    obtain ⟨_, _, h3, _⟩ := leadOf_some _ _ _ _ hl
    refine addR_red h ?_ (fun p hp => ?_)
    · unfold newRow; exact rat_div_self h3
    · unfold newRow; rw [redV_lead R h v p hp]; grind
theorem div_mul_one {x y : Rat} (h : y ≠ 0) : x / y * y = x := by rw [Rat.div_def, Rat.mul_assoc, Rat.inv_mul_cancel _ h, Rat.mul_one]
/-- The rows with one more span what the rows and the vector do. -/
theorem addV_span {n : Nat} {R : Lds} (hs : ∀ p, p ∈ R → Supp n p.1) (v : Vec) (hv : Supp n v) (x : Vec) : Sp (InR (addV n R v)) x ↔ Sp (fun u => InR R u ∨ u = v) x := by
  unfold addV
  have hd := redV_span R v
  cases hl : leadOf (redV R v) 0 n with
  | none =>
    have hz : redV R v = vzero := funext fun c => by
      by_cases hc : c < n
      · exact (leadOf_none _ _ _).1 hl c (by omega) (by omega)
      · exact redV_supp R v hs hv c (by omega)
    constructor
    · exact Sp.mono fun u hu => .inl hu
    · refine Sp.sub fun u hu => ?_
      rcases hu with hu | rfl
      · exact Sp.mem hu
      · rwa [hz, show vless u vzero 1 = u from funext fun c => by unfold vless vzero; grind] at hd
  | some l =>
    obtain ⟨_, _, h3, _⟩ := leadOf_some _ _ _ _ hl
    simp only
    obtain ⟨y, hy⟩ : ∃ y, redV R v = y := ⟨_, rfl⟩
    rw [hy] at hd h3 ⊢
    have e1 : ∀ c, newRow y l c * y l = y c := fun c => by unfold newRow; exact div_mul_one h3
    constructor
    · refine Sp.sub fun u hu => ?_
      have hrow : Sp (fun u => InR R u ∨ u = v) (newRow y l) := by
        have a1 : Sp (fun u => InR R u ∨ u = v) v := Sp.mem (.inr rfl)
        have a2 := Sp.smul (Sp.less a1 (Sp.mono (T := fun u => InR R u ∨ u = v) (fun u hu => .inl hu) hd) 1) (y l)⁻¹
        rwa [show (fun c => vless v (vless v y 1) 1 c * (y l)⁻¹) = newRow y l from funext fun c => by unfold vless newRow; rw [Rat.div_def]; grind] at a2
      obtain ⟨p, hp, rfl⟩ := hu
      rcases List.mem_append.1 hp with hp | hp
      · obtain ⟨q, hq, rfl⟩ := List.mem_map.1 hp
        exact Sp.less (Sp.mem (.inl ⟨q, hq, rfl⟩)) hrow _
      · rw [List.mem_singleton.1 hp]; exact hrow
    · refine Sp.sub fun u hu => ?_
      have hrow : Sp (InR (addR R (newRow y l) l)) (newRow y l) := Sp.mem ⟨(newRow y l, l), List.mem_append_right _ (List.mem_singleton.2 rfl), rfl⟩
      have hold : ∀ q, q ∈ R → Sp (InR (addR R (newRow y l) l)) q.1 := fun q hq => by
        have a1 : Sp (InR (addR R (newRow y l) l)) (vless q.1 (newRow y l) (q.1 l)) := Sp.mem ⟨(vless q.1 (newRow y l) (q.1 l), q.2), List.mem_append_left _ (List.mem_map.2 ⟨q, hq, rfl⟩), rfl⟩
        have a2 := Sp.add a1 hrow (q.1 l)
        rwa [show vadd (vless q.1 (newRow y l) (q.1 l)) (newRow y l) (q.1 l) = q.1 from funext fun c => by unfold vadd vless; grind] at a2
      rcases hu with ⟨q, hq, rfl⟩ | rfl
      · exact hold q hq
      · have a1 := Sp.sub (T := InR (addR R (newRow y l) l)) (fun w hw => by obtain ⟨q, hq, rfl⟩ := hw; exact hold q hq) hd
        have a2 := Sp.add a1 hrow (y l)
        rwa [show vadd (vless u y 1) (newRow y l) (y l) = u from funext fun c => by have := e1 c; unfold vadd vless; grind] at a2
end Go.Proofs.Ytagiaiocgjagnaa
