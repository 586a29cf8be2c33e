/- Plain laws of chapter 07: the order of rational points, sides of points of the grid, the cases of Meet. -/
import Derived.Test.YtagiaiocgjagnaaC01
namespace Go.Proofs.Ytagiaiocgjagnaa
set_option linter.unusedSimpArgs false
set_option linter.unusedVariables false

/-- The sign of the order. -/
def cmpQ (x y : Rat) : Int := if x < y then -1 else if y < x then 1 else 0
theorem cmpQ_zero {x y : Rat} : cmpQ x y = 0 ↔ x = y := by
  unfold cmpQ
  split
  · rename_i h; constructor
    · intro h2; cases h2
    · intro h2; subst h2; exact absurd h (Rat.lt_irrefl)
  · split
    · rename_i h; constructor
      · intro h2; cases h2
      · intro h2; subst h2; exact absurd h (Rat.lt_irrefl)
    · simp; grind
theorem cmpQ_lt {x y : Rat} : cmpQ x y < 0 ↔ x < y := by
  unfold cmpQ
  split
  · rename_i h; simp [h]
  · split
    · rename_i h1 h2; simp; grind
    · rename_i h1 h2; simp; grind
theorem cmpQ_le {x y : Rat} : cmpQ x y ≤ 0 ↔ x ≤ y := by
  unfold cmpQ
  split
  · rename_i h; simp; grind
  · split
    · rename_i h1 h2; simp; grind
    · rename_i h1 h2; simp; grind
theorem cmpQ_bd (x y : Rat) : -1 ≤ cmpQ x y ∧ cmpQ x y ≤ 1 := by unfold cmpQ; split <;> (try split) <;> omega
/-- The order of points. -/
def cmpP (p q : QP) : Int := if cmpQ p.x q.x = 0 then cmpQ p.y q.y else cmpQ p.x q.x
theorem cmpP_zero {p q : QP} : cmpP p q = 0 ↔ p = q := by
  unfold cmpP
  split
  · rename_i h
    rw [cmpQ_zero] at h ⊢
    exact ⟨fun h2 => QP.ext' h h2, fun h2 => by rw [h2]⟩
  · rename_i h
    constructor
    · intro h2; exact absurd h2 h
    · intro h2; exact absurd (cmpQ_zero.2 (by rw [h2])) h
theorem cmpP_lt {p q : QP} : cmpP p q < 0 ↔ LtQ p q := by
  unfold cmpP LtQ
  split
  · rename_i h
    rw [cmpQ_zero] at h
    rw [cmpQ_lt, h]
    grind
  · rename_i h
    rw [cmpQ_zero] at h
    rw [cmpQ_lt]
    grind
theorem cmpP_le {p q : QP} : cmpP p q ≤ 0 ↔ LeQ p q := by
  unfold cmpP LeQ
  split
  · rename_i h
    rw [cmpQ_zero] at h
    rw [cmpQ_le, h]
    grind
  · rename_i h
    rw [cmpQ_zero] at h
    rw [cmpQ_le]
    grind
theorem cmpP_bd (p q : QP) : -1 ≤ cmpP p q ∧ cmpP p q ≤ 1 := by unfold cmpP; split <;> exact cmpQ_bd _ _
theorem cmpP_self (p : QP) : cmpP p p = 0 := cmpP_zero.2 rfl
theorem icast_lt {a b : Int} : ((a : Rat) < (b : Rat)) ↔ a < b := Rat.intCast_lt_intCast
theorem icast_le {a b : Int} : ((a : Rat) ≤ (b : Rat)) ↔ a ≤ b := Rat.intCast_le_intCast
theorem icast_eq {a b : Int} : ((a : Rat) = (b : Rat)) ↔ a = b := Rat.intCast_inj
theorem icast_zero {a : Int} : ((a : Rat) = 0) ↔ a = 0 := Rat.intCast_eq_zero_iff
theorem mul_lt_iff {f x y : Rat} (hf : 0 < f) : x * f < y * f ↔ x < y := by
  constructor
  · intro h
    rcases Rat.le_total (a := y) (b := x) with h1 | h1
    · have := Rat.mul_nonneg (show 0 ≤ x - y by grind) (show 0 ≤ f by grind)
      grind
    · by_cases e : x = y
      · subst e; exact absurd h Rat.lt_irrefl
      · grind
  · intro h
    have := Rat.mul_pos (show 0 < y - x by grind) hf
    grind
/-- A box holds its segments' points. -/
theorem on_box {s : QS} {p : QP} (h : OnQ s p) : (s.a.x ≤ p.x ∨ s.b.x ≤ p.x) ∧ (p.x ≤ s.a.x ∨ p.x ≤ s.b.x) ∧ (s.a.y ≤ p.y ∨ s.b.y ≤ p.y) ∧ (p.y ≤ s.a.y ∨ p.y ≤ s.b.y) := by
  obtain ⟨_, h1, h2⟩ := h
  unfold BtwQ at h1 h2
  refine ⟨?_, ?_, ?_, ?_⟩
  · rcases h1 with h1 | h1
    · exact .inl h1.1
    · exact .inr h1.1
  · rcases h1 with h1 | h1
    · exact .inr h1.2
    · exact .inl h1.2
  · rcases h2 with h2 | h2
    · exact .inl h2.1
    · exact .inr h2.1
  · rcases h2 with h2 | h2
    · exact .inr h2.2
    · exact .inl h2.2
theorem MeetS.apart {s t : QS} (h : ∀ p, ¬ (OnQ s p ∧ OnQ t p)) : MeetS s t 0 zeroQ zeroQ := .inl ⟨rfl, rfl, rfl, h⟩
theorem MeetS.congr {s t s' t' : QS} {k : Int} {A T : QP} (h : MeetS s t k A T) (e : ∀ p, (OnQ s p ∧ OnQ t p) ↔ (OnQ s' p ∧ OnQ t' p)) : MeetS s' t' k A T := by
  rcases h with ⟨h1, h2, h3, h4⟩ | ⟨h1, h2, h3⟩ | ⟨h1, h2, h3, h4, h5⟩
  · exact .inl ⟨h1, h2, h3, fun p hp => h4 p ((e p).2 hp)⟩
  · exact .inr (.inl ⟨h1, h2, fun p => (e p).symm.trans (h3 p)⟩)
  · exact .inr (.inr ⟨h1, h2, (e _).1 h3, (e _).1 h4, fun p hp => h5 p ((e p).2 hp)⟩)
theorem MeetS.swap {s t : QS} {k : Int} {A T : QP} (h : MeetS s t k A T) : MeetS t s k A T := h.congr fun p => And.comm
theorem MeetS.turn1 {a b : QP} {t : QS} {k : Int} {A T : QP} (h : MeetS ⟨a, b⟩ t k A T) : MeetS ⟨b, a⟩ t k A T := h.congr fun p => by rw [on_swap]
theorem MeetS.turn2 {a b : QP} {s : QS} {k : Int} {A T : QP} (h : MeetS s ⟨a, b⟩ k A T) : MeetS s ⟨b, a⟩ k A T := h.congr fun p => by rw [on_swap (a := a)]
theorem MeetS.same {s t : QS} {k k' : Int} {A T A' T' : QP} (h : MeetS s t k A T) (h' : MeetS s t k' A' T') : k = k' ∧ A = A' ∧ T = T' := h.uniq h' fun _ => Iff.rfl
theorem MeetS.kind {s t : QS} {k : Int} {A T : QP} (h : MeetS s t k A T) : 0 ≤ k ∧ k ≤ 2 := by
  rcases h with ⟨rfl, _⟩ | ⟨rfl, _⟩ | ⟨rfl, _⟩ <;> omega
end Go.Proofs.Ytagiaiocgjagnaa
