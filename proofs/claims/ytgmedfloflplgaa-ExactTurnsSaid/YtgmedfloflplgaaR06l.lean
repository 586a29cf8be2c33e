/- Small directions: the ranks of their angles; the laws of Turn and Sector. -/
import Derived.Test.YtgmedfloflplgaaR06b
namespace Go.Proofs.Ytgmedfloflplgaa

/-- The place of a small direction on the way around. -/
def rank (p : Pt) : Int :=
  if 0 < p.x ∧ 0 ≤ p.y then p.y * 12 / p.x
  else if p.x ≤ 0 ∧ 0 < p.y then 100 + -p.x * 12 / p.y
  else if p.x < 0 ∧ p.y ≤ 0 then 200 + p.y * 12 / p.x
  else 300 + p.x * 12 / -p.y
def ptAt (i : Nat) : Pt := ⟨(i % 9 : Nat) - 4, (i / 9 : Nat) - 4⟩
def chk (a b : Pt) : Bool := (a.x == 0 && a.y == 0) || (b.x == 0 && b.y == 0) || (turnF a b == cmpI (rank a) (rank b) && orderF a b == cmpI (rank a) (rank b))
theorem all_chk : ((List.range 81).all fun i => (List.range 81).all fun j => chk (ptAt i) (ptAt j)) = true := by decide +kernel
theorem small_at {p : Pt} (h : Small p) : ∃ i, i < 81 ∧ p = ptAt i := by
  obtain ⟨x, y⟩ := p
  obtain ⟨h1, h2, h3, h4⟩ := h
  simp only at h1 h2 h3 h4
  refine ⟨(x + 4).toNat + 9 * (y + 4).toNat, by omega, ?_⟩
  unfold ptAt
  congr 1 <;> omega
theorem turn_rank {a b : Pt} (ha : Small a) (hb : Small b) (da : dirE a = 0) (db : dirE b = 0) : turnF a b = cmpI (rank a) (rank b) ∧ orderF a b = cmpI (rank a) (rank b) := by
  obtain ⟨i, hi, rfl⟩ := small_at ha
  obtain ⟨j, hj, rfl⟩ := small_at hb
  have h := all_chk
  rw [List.all_eq_true] at h
  have h := h i (List.mem_range.2 hi)
  rw [List.all_eq_true] at h
  have h := h j (List.mem_range.2 hj)
  have nz : ∀ p : Pt, dirE p = 0 → (p.x == 0 && p.y == 0) = false := fun p hp => by
    rw [Bool.eq_false_iff]
    intro hc
    simp at hc
    unfold dirE at hp
    rw [if_neg (by omega), if_pos hc] at hp
    omega
  unfold chk at h
  rw [nz _ da, nz _ db] at h
  simpa using h
theorem cmpI_anti (x y : Int) : cmpI y x = -cmpI x y := by unfold cmpI; repeat' (first | omega | split)
theorem dirE_first2 {a b : Pt} (ha : dirE a = 0) : firstE dirE [a, b] = dirE b := by
  simp [firstE, ha]; exact fun h => h.symm
theorem cmpI_cases (x y : Int) : (x < y ∧ cmpI x y = -1 ∧ cmpI y x = 1) ∨ (x = y ∧ cmpI x y = 0 ∧ cmpI y x = 0) ∨ (y < x ∧ cmpI x y = 1 ∧ cmpI y x = -1) := by
  unfold cmpI
  rcases Int.lt_trichotomy x y with h | h | h
  · left; refine ⟨h, ?_, ?_⟩ <;> repeat' (first | omega | split)
  · right; left; refine ⟨h, ?_, ?_⟩ <;> repeat' (first | omega | split)
  · right; right; refine ⟨h, ?_, ?_⟩ <;> repeat' (first | omega | split)
theorem sector_law {a b d : Pt} (ha : Small a) (hb : Small b) (hd : Small d) (da : dirE a = 0) (db : dirE b = 0) (dd : dirE d = 0) : rsectorF a b d = sectorF a b d := by
  unfold rsectorF sectorF
  rw [(turn_rank ha hd da dd).1, (turn_rank hd hb dd db).1, (turn_rank ha hb da db).1, (turn_rank hd ha dd da).2, (turn_rank hb ha db da).2, (turn_rank hd hb dd db).2]
  generalize rank a = x; generalize rank b = y; generalize rank d = z
  rcases cmpI_cases x y with ⟨h1, e1, f1⟩ | ⟨h1, e1, f1⟩ | ⟨h1, e1, f1⟩ <;> rcases cmpI_cases x z with ⟨h2, e2, f2⟩ | ⟨h2, e2, f2⟩ | ⟨h2, e2, f2⟩ <;> rcases cmpI_cases y z with ⟨h3, e3, f3⟩ | ⟨h3, e3, f3⟩ | ⟨h3, e3, f3⟩ <;>
    first
      | (exfalso; omega)
      | (simp only [e1, f1, e2, f2, e3, f3]; decide)
/-- Of three directions each pair has the third one between them on one side alone. -/
theorem sector_law2 {a b d : Pt} (ha : Small a) (hb : Small b) (hd : Small d) (da : dirE a = 0) (db : dirE b = 0) (dd : dirE d = 0) (n1 : turnF a b ≠ 0) (n2 : turnF b d ≠ 0) (n3 : turnF a d ≠ 0) :
    sectorF b a d = !sectorF a b d ∧ sectorF b d a = sectorF a b d := by
  unfold sectorF
  rw [(turn_rank ha hb da db).1] at n1 ⊢
  rw [(turn_rank hb hd db dd).1] at n2 ⊢
  rw [(turn_rank ha hd da dd).1] at n3 ⊢
  rw [(turn_rank hb ha db da).1, (turn_rank hd ha dd da).1, (turn_rank hd hb dd db).1]
  generalize rank a = x at *; generalize rank b = y at *; generalize rank d = z at *
  rcases cmpI_cases x y with ⟨h1, e1, f1⟩ | ⟨h1, e1, f1⟩ | ⟨h1, e1, f1⟩ <;> rcases cmpI_cases x z with ⟨h2, e2, f2⟩ | ⟨h2, e2, f2⟩ | ⟨h2, e2, f2⟩ <;> rcases cmpI_cases y z with ⟨h3, e3, f3⟩ | ⟨h3, e3, f3⟩ | ⟨h3, e3, f3⟩ <;>
    first
      | (exfalso; omega)
      | (simp only [e1, f1, e2, f2, e3, f3]; decide)
/-- Turn is an order. -/
theorem turn_law {a b d : Pt} (ha : Small a) (hb : Small b) (hd : Small d) (da : dirE a = 0) (db : dirE b = 0) (dd : dirE d = 0) :
    turnF b a = -turnF a b ∧ (0 < turnF a b ∨ (turnF a b ≤ 0 ∧ 0 < turnF b d) ∨ (turnF a b ≤ 0 ∧ turnF b d ≤ 0 ∧ turnF a d ≤ 0)) ∧ orderF a b = turnF a b := by
  rw [(turn_rank ha hb da db).1, (turn_rank hb ha db da).1, (turn_rank hb hd db dd).1, (turn_rank ha hd da dd).1, (turn_rank ha hb da db).2]
  generalize rank a = x; generalize rank b = y; generalize rank d = z
  refine ⟨cmpI_anti _ _, ?_, rfl⟩
  rcases cmpI_cases x y with ⟨h1, e1, f1⟩ | ⟨h1, e1, f1⟩ | ⟨h1, e1, f1⟩ <;> rcases cmpI_cases x z with ⟨h2, e2, f2⟩ | ⟨h2, e2, f2⟩ | ⟨h2, e2, f2⟩ <;> rcases cmpI_cases y z with ⟨h3, e3, f3⟩ | ⟨h3, e3, f3⟩ | ⟨h3, e3, f3⟩ <;> rw [e1, e2, e3] <;> omega
/-- All that the law asks of three directions. -/
theorem dirs_law {a b d : Pt} (ha : Small a) (hb : Small b) (hd : Small d) (da : dirE a = 0) (db : dirE b = 0) (dd : dirE d = 0) :
    (turnF a b = 1 ∧ turnF b d = 0) ∨ (turnF a b = 1 ∧ (turnF b d == 0) = false ∧ turnF a d = 0) ∨
    (turnF a b = 1 ∧ (turnF b d == 0) = false ∧ (turnF a d == 0) = false ∧ sectorF b a d = !sectorF a b d ∧ sectorF b d a = sectorF a b d) ∨
    (turnF a b = 0 ∧ turnF b d = 1) ∨ (turnF a b = 0 ∧ turnF b d ≤ 0 ∧ turnF a d ≤ 0) ∨ (turnF a b = -1 ∧ turnF b d = 1 ∧ turnF a d = 0) ∨
    (turnF a b = -1 ∧ turnF b d = 1 ∧ (turnF a d == 0) = false ∧ sectorF b a d = !sectorF a b d ∧ sectorF b d a = sectorF a b d) ∨ (turnF a b = -1 ∧ turnF b d = 0 ∧ turnF a d ≤ 0) ∨
    (turnF a b = -1 ∧ turnF b d = -1 ∧ turnF a d = 0) ∨ (turnF a b = -1 ∧ turnF b d = -1 ∧ turnF a d = -1 ∧ sectorF b a d = !sectorF a b d ∧ sectorF b d a = sectorF a b d) := by
  have h2 := sector_law2 ha hb hd da db dd
  have h3 := (turn_law ha hb hd da db dd).2.1
  have b1 : turnF a b = -1 ∨ turnF a b = 0 ∨ turnF a b = 1 := by rw [(turn_rank ha hb da db).1]; have := cmpI_bd (rank a) (rank b); omega
  have b2 : turnF b d = -1 ∨ turnF b d = 0 ∨ turnF b d = 1 := by rw [(turn_rank hb hd db dd).1]; have := cmpI_bd (rank b) (rank d); omega
  have b3 : turnF a d = -1 ∨ turnF a d = 0 ∨ turnF a d = 1 := by rw [(turn_rank ha hd da dd).1]; have := cmpI_bd (rank a) (rank d); omega
  generalize turnF a b = x at *; generalize turnF b d = z at *; generalize turnF a d = v at *
  rcases b1 with rfl | rfl | rfl <;> rcases b2 with rfl | rfl | rfl <;> rcases b3 with rfl | rfl | rfl <;> simp at h2 h3 ⊢ <;> exact h2
theorem bents_at (by' : Int) (h : Int64 by') (i : Nat) : Int64 ((bents by').getD i 0) := by
  unfold bents
  match i with
  | 0 => exact h
  | 1 => exact ⟨by simp, by simp⟩
  | 2 => exact ⟨by simp, by simp⟩
  | 3 => exact ⟨by simp, by simp⟩
  | 4 => exact ⟨by simp, by simp⟩
  | 5 => exact ⟨by simp, by simp⟩
  | 6 => exact ⟨by simp, by simp⟩
  | 7 => exact ⟨by simp, by simp⟩
  | 8 => exact ⟨by simp, by simp⟩
  | 9 => exact ⟨by simp, by simp⟩
  | i + 10 => exact ⟨by simp, by simp⟩
theorem bent_int {p : Pt} (hp : Small p) (how by' : Int) (h : Int64 by') : IntPt (bentF p how by') := by
  obtain ⟨p1, p2, p3, p4⟩ := hp
  obtain ⟨h1, h2⟩ := bents_at by' h (aroundF by' 10).toNat
  unfold bentF
  split
  · exact ⟨h1, h2, by simp only; omega, by simp only; omega⟩
  · exact ⟨by simp only; omega, by simp only; omega, h1, h2⟩
theorem Small.int {p : Pt} (hp : Small p) : IntPt p := by
  obtain ⟨p1, p2, p3, p4⟩ := hp
  exact ⟨by omega, by omega, by omega, by omega⟩
/-- The errors of Turn and Sector at a direction that is bent. -/
theorem errs_law {d1 d2 p : Pt} (h1 : dirE d1 = 0) (h2 : dirE d2 = 0) : (TurnF d1 p).2 = dirE p ∧ (TurnF p ⟨0, 0⟩).2 = (if dirE p = 0 then 1 else dirE p) ∧ (SectorF d1 d2 p).2 = dirE p := by
  have hz : dirE ⟨0, 0⟩ = 1 := by decide
  have hsnd : ∀ (c : Prop) [Decidable c] (x : Int) (e : Int), (c → e = 0) → (if c then (x, 0) else ((0 : Int), e)).2 = e := fun c _ x e hc => by
    split
    · exact (hc (by assumption)).symm
    · rfl
  have hsnd2 : ∀ (c : Prop) [Decidable c] (x : Bool) (e : Int), (c → e = 0) → (if c then (x, 0) else (false, e)).2 = e := fun c _ x e hc => by
    split
    · exact (hc (by assumption)).symm
    · rfl
  refine ⟨?_, ?_, ?_⟩
  · unfold TurnF; rw [hsnd _ _ _ id]; simp [firstE, h1]; exact fun h => h.symm
  · unfold TurnF; rw [hsnd _ _ _ id]; simp [firstE, hz]
  · unfold SectorF; rw [hsnd2 _ _ _ id]; simp [firstE, h1, h2]; exact fun h => h.symm
end Go.Proofs.Ytgmedfloflplgaa
