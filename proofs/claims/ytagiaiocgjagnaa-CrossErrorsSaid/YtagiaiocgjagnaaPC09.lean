/- C07 C08 C09: several texts of this proof in one. -/
import Derived.Test.YtagiaiocgjagnaaMX09
import Derived.Test.YtagiaiocgjagnaaMC03
import Derived.Test.YtagiaiocgjagnaaPX24
namespace Go.Proofs.Ytagiaiocgjagnaa
set_option linter.unusedSimpArgs false
set_option linter.unusedVariables false

theorem LtQ.trans {p q r : QP} (h : LtQ p q) (k : LtQ q r) : LtQ p r := (h.le.trans k.le).lt fun e => k.irrefl (by rw [← e]; exact h.le)
/-- A point is put into an ordered list, if it is not there. -/
def insQ : List QP → QP → List QP
  | [], x => [x]
  | q :: l, x => if cmpP q x < 0 then q :: insQ l x else if cmpP q x = 0 then q :: l else x :: q :: l
theorem insQ_at : ∀ (l : List QP) (x : QP) (k : Nat), k ≤ l.length → (∀ j q, j < k → l[j]? = some q → cmpP q x < 0) → (∀ q, l[k]? = some q → ¬ cmpP q x < 0) →
    insQ l x = match l[k]? with
      | some q => if cmpP q x = 0 then l else l.take k ++ x :: l.drop k
      | none => l.take k ++ x :: l.drop k
  | [], x, k, hk, _, _ => by
    have : k = 0 := by simpa using hk
    subst this; rfl
  | q :: l, x, 0, _, _, h2 => by
    have := h2 q rfl
    simp only [insQ, if_neg this, List.getElem?_cons_zero, List.take_zero, List.drop_zero, List.nil_append]
  | q :: l, x, k + 1, hk, h1, h2 => by
    have hq := h1 0 q (by omega) rfl
    have ih := insQ_at l x k (by simpa using hk) (fun j r hj hr => h1 (j + 1) r (by omega) (by simpa using hr)) (fun r hr => h2 r (by simpa using hr))
    rw [insQ, if_pos hq, ih]
    simp only [List.getElem?_cons_succ, List.take_succ_cons, List.drop_succ_cons, List.cons_append]
    cases h : l[k]? with
    | none => rfl
    | some r => simp only; split <;> rfl
theorem insQ_mem : ∀ {l : List QP} {x r : QP}, r ∈ insQ l x ↔ r ∈ l ∨ r = x
  | [], x, r => by simp [insQ]
  | q :: l, x, r => by
    rw [insQ]
    split
    · rw [List.mem_cons, insQ_mem, List.mem_cons]
      constructor
      · rintro (h | h | h)
        · exact .inl (.inl h)
        · exact .inl (.inr h)
        · exact .inr h
      · rintro ((h | h) | h)
        · exact .inl h
        · exact .inr (.inl h)
        · exact .inr (.inr h)
    · split
      · rename_i h
        rw [cmpP_zero] at h
        subst h
        constructor
        · intro h; exact .inl h
        · rintro (h | h)
          · exact h
          · subst h; exact List.mem_cons_self
      · rw [List.mem_cons]
        constructor
        · rintro (h | h)
          · exact .inr h
          · exact .inl h
        · rintro (h | h)
          · exact .inr h
          · exact .inl h
/-- In order. -/
abbrev SrtQ (l : List QP) : Prop := l.Pairwise LtQ
theorem insQ_srt : ∀ {l : List QP} {x : QP}, SrtQ l → SrtQ (insQ l x)
  | [], x, _ => by simp [insQ, SrtQ]
  | q :: l, x, h => by
    have hs := List.pairwise_cons.1 h
    rw [insQ]
    split
    · rename_i hc
      rw [cmpP_lt] at hc
      refine List.pairwise_cons.2 ⟨fun r hr => ?_, insQ_srt hs.2⟩
      rcases insQ_mem.1 hr with h1 | h1
      · exact hs.1 r h1
      · rw [h1]; exact hc
    · rename_i hc
      split
      · exact h
      · rename_i hne
        rw [cmpP_lt] at hc
        rw [cmpP_zero] at hne
        have hlt : LtQ x q := by
          rcases LeQ.total x q with h1 | h1
          · exact h1.lt fun e => hne e.symm
          · exact absurd h1 hc
        refine List.pairwise_cons.2 ⟨fun r hr => ?_, h⟩
        rcases List.mem_cons.1 hr with h1 | h1
        · rw [h1]; exact hlt
        · exact hlt.trans (hs.1 r h1)
theorem insQ_len (l : List QP) (x : QP) : (insQ l x).length ≤ l.length + 1 := by
  induction l with
  | nil => simp [insQ]
  | cons q l ih =>
    rw [insQ]
    split
    · simp; omega
    · split <;> simp
/-- What a cut adds. -/
def addM (l : List QP) (m : Int × QP × QP) : List QP :=
  if m.1 = 2 then insQ (if m.1 = 0 then l else insQ l m.2.1) m.2.2 else if m.1 = 0 then l else insQ l m.2.1
def addP (s : Sg) (l : List QP) (p : Pt) : List QP := if onB s p.q = true then insQ l p.q else l
def headQ (s : Sg) : List QP := insQ (insQ [] s.a.q) s.b.q
/-- The dividing points of a segment. -/
def partsQ (s : Sg) (os : List Sg) (ps : List Pt) : List QP := ps.foldl (addP s) (os.foldl (fun l t => addM l (meetF s t)) (headQ s))
theorem addM_mem {l : List QP} {m : Int × QP × QP} {r : QP} : r ∈ addM l m ↔ r ∈ l ∨ (m.1 ≠ 0 ∧ r = m.2.1) ∨ (m.1 = 2 ∧ r = m.2.2) := by
  unfold addM
  by_cases h2 : m.1 = 2
  · have h0 : m.1 ≠ 0 := by omega
    rw [if_pos h2, if_neg h0, insQ_mem, insQ_mem]
    constructor
    · rintro ((h | h) | h)
      · exact .inl h
      · exact .inr (.inl ⟨h0, h⟩)
      · exact .inr (.inr ⟨h2, h⟩)
    · rintro (h | ⟨_, h⟩ | ⟨_, h⟩)
      · exact .inl (.inl h)
      · exact .inl (.inr h)
      · exact .inr h
  · rw [if_neg h2]
    by_cases h0 : m.1 = 0
    · rw [if_pos h0]
      constructor
      · intro h; exact .inl h
      · rintro (h | ⟨h, _⟩ | ⟨h, _⟩)
        · exact h
        · exact absurd h0 h
        · exact absurd h h2
    · rw [if_neg h0, insQ_mem]
      constructor
      · rintro (h | h)
        · exact .inl h
        · exact .inr (.inl ⟨h0, h⟩)
      · rintro (h | ⟨_, h⟩ | ⟨h, _⟩)
        · exact .inl h
        · exact .inr h
        · exact absurd h h2
theorem addM_len (l : List QP) (m : Int × QP × QP) : (addM l m).length ≤ l.length + 2 := by
  unfold addM
  split
  · split
    · have := insQ_len l m.2.2; omega
    · have := insQ_len (insQ l m.2.1) m.2.2; have := insQ_len l m.2.1; omega
  · split
    · omega
    · have := insQ_len l m.2.1; omega
theorem addP_len (s : Sg) (l : List QP) (p : Pt) : (addP s l p).length ≤ l.length + 1 := by
  unfold addP; split
  · exact insQ_len _ _
  · omega
theorem headQ_len (s : Sg) : (headQ s).length ≤ 2 := by
  unfold headQ
  have := insQ_len (insQ [] s.a.q) s.b.q
  have := insQ_len [] s.a.q
  simp at this
  omega
def midQ (s : Sg) (os : List Sg) : List QP := os.foldl (fun l t => addM l (meetF s t)) (headQ s)
theorem midQ_snoc (s : Sg) (os : List Sg) (t : Sg) : midQ s (os ++ [t]) = addM (midQ s os) (meetF s t) := by unfold midQ; rw [List.foldl_append]; rfl
theorem partsQ_snoc (s : Sg) (os : List Sg) (ps : List Pt) (p : Pt) : partsQ s os (ps ++ [p]) = addP s (partsQ s os ps) p := by unfold partsQ; rw [List.foldl_append]; rfl
theorem fold_len {α : Type} {f : List QP → α → List QP} {m : Nat} (hf : ∀ l a, (f l a).length ≤ l.length + m) : ∀ (c : List α) (l : List QP), (c.foldl f l).length ≤ l.length + m * c.length
  | [], l => by simp
  | a :: c, l => by
    have h1 := fold_len hf c (f l a)
    have h2 := hf l a
    rw [List.foldl_cons, List.length_cons, Nat.mul_add]
    omega
/-- What t cuts out of s. -/
def CutP (s t : Sg) (r : QP) : Prop := ((meetF s t).1 ≠ 0 ∧ r = (meetF s t).2.1) ∨ ((meetF s t).1 = 2 ∧ r = (meetF s t).2.2)
theorem midQ_len (s : Sg) (os : List Sg) : (midQ s os).length ≤ 2 + 2 * os.length := by
  have h1 := fold_len (f := fun l t => addM l (meetF s t)) (m := 2) (fun l t => addM_len l _) os (headQ s)
  have h2 := headQ_len s
  show (os.foldl (fun l t => addM l (meetF s t)) (headQ s)).length ≤ _
  omega
theorem partsQ_len (s : Sg) (os : List Sg) (ps : List Pt) : (partsQ s os ps).length ≤ 2 + 2 * os.length + ps.length := by
  have h1 := fold_len (f := addP s) (m := 1) (fun l p => addP_len s l p) ps (midQ s os)
  have h2 := midQ_len s os
  show (ps.foldl (addP s) (midQ s os)).length ≤ _
  omega
end Go.Proofs.Ytagiaiocgjagnaa
namespace Go.Proofs.Ytagiaiocgjagnaa
set_option linter.unusedSimpArgs false
set_option linter.unusedVariables false

/-- What the reference adds for a segment. -/
def addRS (s : Sg) (l : List RP) (t : Sg) : List RP :=
  if (rcOf (allF s t)).k = 2 then insF (if 0 < (rcOf (allF s t)).k then insF l (rcOf (allF s t)).A else l) (rcOf (allF s t)).T else if 0 < (rcOf (allF s t)).k then insF l (rcOf (allF s t)).A else l
def addRP (s : Sg) (l : List RP) (p : Pt) : List RP := if onF s (ofR p) = true then insF l (ofR p) else l
def headR (s : Sg) : List RP := insF (insF [] (ofR s.a)) (ofR s.b)
def midRS (s : Sg) (os : List Sg) : List RP := os.foldl (addRS s) (headR s)
/-- The dividing points of the reference. -/
def partsR (s : Sg) (os : List Sg) (ps : List Pt) : List RP := ps.foldl (addRP s) (midRS s os)
/-- A list of the reference beside one of rational points. -/
structure RepP (l : List RP) (L : List QP) : Prop where
  n : ∀ r ∈ l, NormR r
  b : ∀ r ∈ l, PIn r 4000000
  q : l.map RP.q = L
end Go.Proofs.Ytagiaiocgjagnaa
namespace Go.Proofs.Ytagiaiocgjagnaa
set_option linter.unusedSimpArgs false
set_option linter.unusedVariables false

def mdQ (p q : QP) : QP := ⟨(p.x + q.x) / 2, (p.y + q.y) / 2⟩
end Go.Proofs.Ytagiaiocgjagnaa
