/- Plain laws of chapter 07: what segments have in common, scaled and moved. -/
import Derived.Test.YtagiaiocgjagnaaC02
namespace Go.Proofs.Ytagiaiocgjagnaa
set_option linter.unusedSimpArgs false
set_option linter.unusedVariables false

/-- A point, f times as far from the origin, and then moved. -/
def scQ (f u v : Rat) (p : QP) : QP := ⟨p.x * f + u, p.y * f + v⟩
theorem scQ_inj {f u v : Rat} (hf : 0 < f) {p q : QP} (h : scQ f u v p = scQ f u v q) : p = q := by
  unfold scQ at h
  injection h with h1 h2
  have hne : f ≠ 0 := by grind
  have e1 : (p.x - q.x) * f = 0 := by grind
  have e2 : (p.y - q.y) * f = 0 := by grind
  refine QP.ext' ?_ ?_
  · rcases Rat.mul_eq_zero.1 e1 with h3 | h3
    · grind
    · exact absurd h3 hne
  · rcases Rat.mul_eq_zero.1 e2 with h3 | h3
    · grind
    · exact absurd h3 hne
theorem scQ_sur {f : Rat} (u v : Rat) (hf : 0 < f) (q : QP) : ∃ p, scQ f u v p = q := by
  have hne : f ≠ 0 := by grind
  refine ⟨⟨(q.x - u) / f, (q.y - v) / f⟩, ?_⟩
  unfold scQ
  refine QP.ext' ?_ ?_
  · simp only; rw [Rat.div_mul_cancel hne]; grind
  · simp only; rw [Rat.div_mul_cancel hne]; grind
theorem mul_le_iff {f x y : Rat} (hf : 0 < f) : x * f ≤ y * f ↔ x ≤ y := by
  constructor
  · intro h
    have : 0 ≤ (y - x) * f := by grind
    have := le_of_mul_pos hf this
    grind
  · intro h
    have := Rat.mul_nonneg (show 0 ≤ y - x by grind) (show 0 ≤ f by grind)
    grind
theorem sc_le {f u x y : Rat} (hf : 0 < f) : x * f + u ≤ y * f + u ↔ x ≤ y := by
  rw [← mul_le_iff (x := x) (y := y) hf]
  exact Rat.add_le_add_right
theorem sc_lt {f u x y : Rat} (hf : 0 < f) : x * f + u < y * f + u ↔ x < y := by
  rw [← Rat.not_le, ← Rat.not_le, sc_le hf]
theorem sc_eq {f u x y : Rat} (hf : 0 < f) : x * f + u = y * f + u ↔ x = y := by
  constructor
  · intro h
    have h1 := (sc_le (u := u) (x := x) (y := y) hf).1 (by rw [h]; exact Rat.le_refl)
    have h2 := (sc_le (u := u) (x := y) (y := x) hf).1 (by rw [h]; exact Rat.le_refl)
    exact Rat.le_antisymm h1 h2
  · intro h; rw [h]
theorem sc_ltQ {f u v : Rat} (hf : 0 < f) {p q : QP} : LtQ (scQ f u v p) (scQ f u v q) ↔ LtQ p q := by
  unfold LtQ scQ
  simp only
  rw [sc_lt hf, sc_eq hf, sc_lt hf]
theorem sc_leQ {f u v : Rat} (hf : 0 < f) {p q : QP} : LeQ (scQ f u v p) (scQ f u v q) ↔ LeQ p q := by
  unfold LeQ scQ
  simp only
  rw [sc_lt hf, sc_eq hf, sc_le hf]
theorem sc_on {f u v : Rat} (hf : 0 < f) (a b p : QP) : OnQ ⟨scQ f u v a, scQ f u v b⟩ (scQ f u v p) ↔ OnQ ⟨a, b⟩ p := by
  have hc : crs (scQ f u v a) (scQ f u v b) (scQ f u v p) = crs a b p * (f * f) := by unfold crs scQ; grind
  have hff : f * f ≠ 0 := by
    have := Rat.mul_pos hf hf
    grind
  have hz : crs (scQ f u v a) (scQ f u v b) (scQ f u v p) = 0 ↔ crs a b p = 0 := by
    rw [hc]
    constructor
    · intro h
      rcases Rat.mul_eq_zero.1 h with h3 | h3
      · exact h3
      · exact absurd h3 hff
    · intro h; rw [h, Rat.zero_mul]
  unfold OnQ BtwQ
  simp only
  rw [hz]
  unfold scQ
  simp only
  rw [sc_le hf, sc_le hf, sc_le hf, sc_le hf, sc_le hf, sc_le hf, sc_le hf, sc_le hf]
/-- What two segments have in common is multiplied and moved likewise. -/
theorem sc_meet {f u v : Rat} (hf : 0 < f) {a b c d A T A' T' : QP} {k k' : Int} (h : MeetS ⟨a, b⟩ ⟨c, d⟩ k A T) (h' : MeetS ⟨scQ f u v a, scQ f u v b⟩ ⟨scQ f u v c, scQ f u v d⟩ k' A' T') :
    k = k' ∧ (k ≠ 0 → scQ f u v A = A') ∧ (k = 2 → scQ f u v T = T') := by
  have on : ∀ p, (OnQ ⟨scQ f u v a, scQ f u v b⟩ (scQ f u v p) ∧ OnQ ⟨scQ f u v c, scQ f u v d⟩ (scQ f u v p)) ↔ (OnQ ⟨a, b⟩ p ∧ OnQ ⟨c, d⟩ p) := fun p => by rw [sc_on hf, sc_on hf]
  rcases h with ⟨rfl, rfl, rfl, h4⟩ | ⟨rfl, rfl, h3⟩ | ⟨rfl, h2, h3, h4, h5⟩
  · have := h'.same (MeetS.apart fun q hq => by
      obtain ⟨p, rfl⟩ := scQ_sur u v hf q
      exact h4 p ((on p).1 hq))
    exact ⟨this.1.symm, fun h => absurd rfl h, fun h => by cases h⟩
  · have := h'.same (.inr (.inl ⟨rfl, rfl, fun q => by
      obtain ⟨p, rfl⟩ := scQ_sur u v hf q
      rw [on, h3]
      exact ⟨fun e => by rw [e], fun e => scQ_inj hf e⟩⟩))
    exact ⟨this.1.symm, fun _ => this.2.1.symm, fun h => by cases h⟩
  · have := h'.same (.inr (.inr ⟨rfl, (sc_ltQ hf).2 h2, (on _).2 h3, (on _).2 h4, fun q hq => by
      obtain ⟨p, rfl⟩ := scQ_sur u v hf q
      have := h5 p ((on p).1 hq)
      exact ⟨(sc_leQ hf).2 this.1, (sc_leQ hf).2 this.2⟩⟩))
    exact ⟨this.1.symm, fun _ => this.2.1.symm, fun _ => this.2.2.symm⟩
end Go.Proofs.Ytagiaiocgjagnaa
