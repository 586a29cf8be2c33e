/- C07 C08 C09: several texts of this proof in one. -/
import Derived.Test.YtagiaiocgjagnaaQX09
import Derived.Test.YtagiaiocgjagnaaQC03
import Derived.Test.YtagiaiocgjagnaaQX24
namespace Go.Proofs.Ytagiaiocgjagnaa
set_option linter.unusedSimpArgs false
set_option linter.unusedVariables false

theorem LtQ.trans {p q r : QP} (h : LtQ p q) (k : LtQ q r) : LtQ p r := (h.le.trans k.le).lt fun e => k.irrefl (by rw [← e]; exact h.le)
/-- A point is put into an ordered list, if it is not there. -/
def insQ : List QP → QP → List QP
 | [], x => [x]
 | q :: l, x => if cmpP q x < 0 then q :: insQ l x else if cmpP q x = 0 then q :: l else x :: q :: l
theorem insQ_at : ∀ (l : List QP) (x : QP) (k : Nat), k ≤ l.length → (∀ j q, j < k → l[j]? = some q → cmpP q x < 0) → (∀ q, l[k]? = some q → ¬ cmpP q x < 0) →
  insQ l x = match l[k]? with
   | some q => if cmpP q x = 0 then l else l.take k ++ x :: l.drop k
   | none => l.take k ++ x :: l.drop k
 | [], x, k, hk, _, _ => by
  have : k = 0 := by simpa using hk
  subst this; rfl
 | q :: l, x, 0, _, _, h2 => by
  have := h2 q rfl
  simp only [insQ, if_neg this, List.getElem?_cons_zero, List.take_zero, List.drop_zero, List.nil_append]
 | q :: l, x, k + 1, hk, h1, h2 => by
  have hq := h1 0 q (by omega) rfl
  have ih := insQ_at l x k (by simpa using hk) (fun j r hj hr => h1 (j + 1) r (by omega) (by simpa using hr)) (fun r hr => h2 r (by simpa using hr))
  rw [insQ, if_pos hq, ih]
  simp only [List.getElem?_cons_succ, List.take_succ_cons, List.drop_succ_cons, List.cons_append]
  cases h : l[k]? with
  | none => rfl
  | some r => simp only; split <;> rfl
theorem insQ_mem : ∀ {l : List QP} {x r : QP}, r ∈ insQ l x ↔ r ∈ l ∨ r = x
 | [], x, r => by simp [insQ]
 | q :: l, x, r => by
  rw [insQ]
  split
  ·rw [List.mem_cons, insQ_mem, List.mem_cons]
   constructor
   ·rintro (h | h | h)
    ·exact .inl (.inl h)
    ·exact .inl (.inr h)
    ·exact .inr h
   ·rintro ((h | h) | h)
    ·exact .inl h
    ·exact .inr (.inl h)
    ·exact .inr (.inr h)
  ·split
   ·rename_i h
    rw [cmpP_zero] at h
    subst h
    constructor
    ·intro h; exact .inl h
    ·rintro (h | h)
     ·exact h
     ·subst h; exact List.mem_cons_self
   ·rw [List.mem_cons]
    constructor
    ·rintro (h | h)
     ·exact .inr h
     ·exact .inl h
    ·rintro (h | h)
     ·exact .inr h
     ·exact .inl h
/-- In order. -/
abbrev SrtQ (l : List QP) : Prop := l.Pairwise LtQ
theorem insQ_srt : ∀ {l : List QP} {x : QP}, SrtQ l → SrtQ (insQ l x)
 | [], x, _ => by simp [insQ, SrtQ]
 | q :: l, x, h => by
  have hs := List.pairwise_cons.1 h
  rw [insQ]
  split
  ·rename_i hc
   rw [cmpP_lt] at hc
   refine List.pairwise_cons.2 ⟨fun r hr => ?_, insQ_srt hs.2⟩
   rcases insQ_mem.1 hr with h1 | h1
   ·exact hs.1 r h1
   ·rw [h1]; exact hc
  ·rename_i hc
   split
   ·exact h
   ·rename_i hne
    rw [cmpP_lt] at hc
    rw [cmpP_zero] at hne
    have hlt : LtQ x q := by
     rcases LeQ.total x q with h1 | h1
     ·exact h1.lt fun e => hne e.symm
     ·exact absurd h1 hc
    refine List.pairwise_cons.2 ⟨fun r hr => ?_, h⟩
    rcases List.mem_cons.1 hr with h1 | h1
    ·rw [h1]; exact hlt
    ·exact hlt.trans (hs.1 r h1)
theorem insQ_len (l : List QP) (x : QP) : (insQ l x).length ≤ l.length + 1 := by
 induction l with
 | nil => simp [insQ]
 | cons q l ih =>
  rw [insQ]
  split
  ·simp; omega
  ·split <;> simp
/-- What a cut adds. -/
def addM (l : List QP) (m : Int × QP × QP) : List QP :=
 if m.1 = 2 then insQ (if m.1 = 0 then l else insQ l m.2.1) m.2.2 else if m.1 = 0 then l else insQ l m.2.1
def addP (s : Sg) (l : List QP) (p : Pt) : List QP := if onB s p.q = true then insQ l p.q else l
def headQ (s : Sg) : List QP := insQ (insQ [] s.a.q) s.b.q
/-- The dividing points of a segment. -/
def partsQ (s : Sg) (os : List Sg) (ps : List Pt) : List QP := ps.foldl (addP s) (os.foldl (fun l t => addM l (meetF s t)) (headQ s))
theorem addM_mem {l : List QP} {m : Int × QP × QP} {r : QP} : r ∈ addM l m ↔ r ∈ l ∨ (m.1 ≠ 0 ∧ r = m.2.1) ∨ (m.1 = 2 ∧ r = m.2.2) := by
 unfold addM
 by_cases h2 : m.1 = 2
 ·have h0 : m.1 ≠ 0 := by omega
  rw [if_pos h2, if_neg h0, insQ_mem, insQ_mem]
  constructor
  ·rintro ((h | h) | h)
   ·exact .inl h
   ·exact .inr (.inl ⟨h0, h⟩)
   ·exact .inr (.inr ⟨h2, h⟩)
  ·rintro (h | ⟨_, h⟩ | ⟨_, h⟩)
   ·exact .inl (.inl h)
   ·exact .inl (.inr h)
   ·exact .inr h
 ·rw [if_neg h2]
  by_cases h0 : m.1 = 0
  ·rw [if_pos h0]
   constructor
   ·intro h; exact .inl h
   ·rintro (h | ⟨h, _⟩ | ⟨h, _⟩)
    ·exact h
    ·exact absurd h0 h
    ·exact absurd h h2
  ·rw [if_neg h0, insQ_mem]
   constructor
   ·rintro (h | h)
    ·exact .inl h
    ·exact .inr (.inl ⟨h0, h⟩)
   ·rintro (h | ⟨_, h⟩ | ⟨h, _⟩)
    ·exact .inl h
    ·exact .inr h
    ·exact absurd h h2
theorem addM_srt {l : List QP} {m : Int × QP × QP} (h : SrtQ l) : SrtQ (addM l m) := by
 unfold addM
 split
 ·split
  ·exact insQ_srt h
  ·exact insQ_srt (insQ_srt h)
 ·split
  ·exact h
  ·exact insQ_srt h
theorem addM_len (l : List QP) (m : Int × QP × QP) : (addM l m).length ≤ l.length + 2 := by
 unfold addM
 split
 ·split
  ·have := insQ_len l m.2.2; omega
  ·have := insQ_len (insQ l m.2.1) m.2.2; have := insQ_len l m.2.1; omega
 ·split
  ·omega
  ·have := insQ_len l m.2.1; omega
theorem addP_mem {s : Sg} {l : List QP} {p : Pt} {r : QP} : r ∈ addP s l p ↔ r ∈ l ∨ (onB s p.q = true ∧ r = p.q) := by
 unfold addP
 split
 ·rename_i h; rw [insQ_mem]; simp [h]
 ·rename_i h; simp [h]
theorem addP_srt {s : Sg} {l : List QP} {p : Pt} (h : SrtQ l) : SrtQ (addP s l p) := by
 unfold addP; split
 ·exact insQ_srt h
 ·exact h
theorem addP_len (s : Sg) (l : List QP) (p : Pt) : (addP s l p).length ≤ l.length + 1 := by
 unfold addP; split
 ·exact insQ_len _ _
 ·omega
theorem headQ_mem {s : Sg} {r : QP} : r ∈ headQ s ↔ r = s.a.q ∨ r = s.b.q := by
 unfold headQ; rw [insQ_mem, insQ_mem]; simp
theorem headQ_srt (s : Sg) : SrtQ (headQ s) := insQ_srt (insQ_srt List.Pairwise.nil)
theorem headQ_len (s : Sg) : (headQ s).length ≤ 2 := by
 unfold headQ
 have := insQ_len (insQ [] s.a.q) s.b.q
 have := insQ_len [] s.a.q
 simp at this
 omega
def midQ (s : Sg) (os : List Sg) : List QP := os.foldl (fun l t => addM l (meetF s t)) (headQ s)
theorem midQ_snoc (s : Sg) (os : List Sg) (t : Sg) : midQ s (os ++ [t]) = addM (midQ s os) (meetF s t) := by unfold midQ; rw [List.foldl_append]; rfl
theorem partsQ_snoc (s : Sg) (os : List Sg) (ps : List Pt) (p : Pt) : partsQ s os (ps ++ [p]) = addP s (partsQ s os ps) p := by unfold partsQ; rw [List.foldl_append]; rfl
theorem fold_mem {α : Type} {f : List QP → α → List QP} {A : α → QP → Prop} (hf : ∀ l a r, r ∈ f l a ↔ r ∈ l ∨ A a r) : ∀ (c : List α) (l : List QP) (r : QP), r ∈ c.foldl f l ↔ r ∈ l ∨ ∃ a ∈ c, A a r
 | [], l, r => by simp
 | a :: c, l, r => by
  rw [List.foldl_cons, fold_mem hf c, hf]
  constructor
  ·rintro ((h | h) | ⟨b, hb, h⟩)
   ·exact .inl h
   ·exact .inr ⟨a, List.mem_cons_self, h⟩
   ·exact .inr ⟨b, List.mem_cons_of_mem _ hb, h⟩
  ·rintro (h | ⟨b, hb, h⟩)
   ·exact .inl (.inl h)
   ·rcases List.mem_cons.1 hb with h1 | h1
    ·subst h1; exact .inl (.inr h)
    ·exact .inr ⟨b, h1, h⟩
theorem fold_srt {α : Type} {f : List QP → α → List QP} (hf : ∀ l a, SrtQ l → SrtQ (f l a)) : ∀ (c : List α) (l : List QP), SrtQ l → SrtQ (c.foldl f l)
 | [], l, h => h
 | a :: c, l, h => fold_srt hf c _ (hf l a h)
theorem fold_len {α : Type} {f : List QP → α → List QP} {m : Nat} (hf : ∀ l a, (f l a).length ≤ l.length + m) : ∀ (c : List α) (l : List QP), (c.foldl f l).length ≤ l.length + m * c.length
 | [], l => by simp
 | a :: c, l => by
  have h1 := fold_len hf c (f l a)
  have h2 := hf l a
  rw [List.foldl_cons, List.length_cons, Nat.mul_add]
  omega
/-- What t cuts out of s. -/
def CutP (s t : Sg) (r : QP) : Prop := ((meetF s t).1 ≠ 0 ∧ r = (meetF s t).2.1) ∨ ((meetF s t).1 = 2 ∧ r = (meetF s t).2.2)
theorem midQ_mem {s : Sg} {os : List Sg} {r : QP} : r ∈ midQ s os ↔ (r = s.a.q ∨ r = s.b.q) ∨ ∃ t ∈ os, CutP s t r := by
 unfold midQ
 rw [fold_mem (f := fun l t => addM l (meetF s t)) (A := fun t r => CutP s t r) (fun l t r => addM_mem) os (headQ s) r, headQ_mem]
theorem partsQ_mem {s : Sg} {os : List Sg} {ps : List Pt} {r : QP} : r ∈ partsQ s os ps ↔ ((r = s.a.q ∨ r = s.b.q) ∨ ∃ t ∈ os, CutP s t r) ∨ ∃ p ∈ ps, onB s p.q = true ∧ r = p.q := by
 show r ∈ ps.foldl (addP s) (midQ s os) ↔ _
 rw [fold_mem (f := addP s) (A := fun p r => onB s p.q = true ∧ r = p.q) (fun l p r => addP_mem) ps (midQ s os) r, midQ_mem]
theorem midQ_srt (s : Sg) (os : List Sg) : SrtQ (midQ s os) := by
 unfold midQ
 exact fold_srt (f := fun l t => addM l (meetF s t)) (fun l t h => addM_srt h) os (headQ s) (headQ_srt s)
theorem partsQ_srt (s : Sg) (os : List Sg) (ps : List Pt) : SrtQ (partsQ s os ps) := by
 unfold partsQ
 exact fold_srt (f := addP s) (fun l p h => addP_srt h) ps _ (midQ_srt s os)
theorem midQ_len (s : Sg) (os : List Sg) : (midQ s os).length ≤ 2 + 2 * os.length := by
 have h1 := fold_len (f := fun l t => addM l (meetF s t)) (m := 2) (fun l t => addM_len l _) os (headQ s)
 have h2 := headQ_len s
 show (os.foldl (fun l t => addM l (meetF s t)) (headQ s)).length ≤ _
 omega
theorem partsQ_len (s : Sg) (os : List Sg) (ps : List Pt) : (partsQ s os ps).length ≤ 2 + 2 * os.length + ps.length := by
 have h1 := fold_len (f := addP s) (m := 1) (fun l p => addP_len s l p) ps (midQ s os)
 have h2 := midQ_len s os
 show (ps.foldl (addP s) (midQ s os)).length ≤ _
 omega
/-- More segments and points: no fewer points. -/
theorem partsQ_more {s : Sg} {os os' : List Sg} {ps ps' : List Pt} (h1 : ∀ t ∈ os, t ∈ os') (h2 : ∀ p ∈ ps, p ∈ ps') {r : QP} (h : r ∈ partsQ s os ps) : r ∈ partsQ s os' ps' := by
 rcases partsQ_mem.1 h with (h | ⟨t, ht, h⟩) | ⟨p, hp, h⟩
 ·exact partsQ_mem.2 (.inl (.inl h))
 ·exact partsQ_mem.2 (.inl (.inr ⟨t, h1 t ht, h⟩))
 ·exact partsQ_mem.2 (.inr ⟨p, h2 p hp, h⟩)
end Go.Proofs.Ytagiaiocgjagnaa
namespace Go.Proofs.Ytagiaiocgjagnaa
set_option linter.unusedSimpArgs false
set_option linter.unusedVariables false

theorem insF_q : ∀ (l : List RP) (p : RP), (∀ r ∈ l, NormR r) → NormR p → (insF l p).map RP.q = insQ (l.map RP.q) p.q
 | [], p, _, _ => rfl
 | q :: l, p, h, hp => by
  have hq := h q List.mem_cons_self
  have ih := insF_q l p (fun r hr => h r (List.mem_cons_of_mem _ hr)) hp
  rw [List.map_cons, insF, insQ, ← cmp5_q hq.1 hp.1]
  split
  ·rw [List.map_cons, ih]
  ·have e : (q.x = p.x ∧ q.y = p.y ∧ q.d = p.d) ↔ cmp5 q p = 0 := by
    rw [cmp5_q hq.1 hp.1, cmpP_zero]
    constructor
    ·intro h; rw [RP.ext' h]
    ·intro h
     have := normR_uniq hq hp h
     subst this
     exact ⟨rfl, rfl, rfl⟩
   by_cases h0 : cmp5 q p = 0
   ·rw [if_pos (e.2 h0), if_pos h0]; rfl
   ·rw [if_neg (fun h => h0 (e.1 h)), if_neg h0]; rfl
/-- What the reference adds for a segment. -/
def addRS (s : Sg) (l : List RP) (t : Sg) : List RP :=
 if (rcOf (allF s t)).k = 2 then insF (if 0 < (rcOf (allF s t)).k then insF l (rcOf (allF s t)).A else l) (rcOf (allF s t)).T else if 0 < (rcOf (allF s t)).k then insF l (rcOf (allF s t)).A else l
def addRP (s : Sg) (l : List RP) (p : Pt) : List RP := if onF s (ofR p) = true then insF l (ofR p) else l
def headR (s : Sg) : List RP := insF (insF [] (ofR s.a)) (ofR s.b)
def midRS (s : Sg) (os : List Sg) : List RP := os.foldl (addRS s) (headR s)
/-- The dividing points of the reference. -/
def partsR (s : Sg) (os : List Sg) (ps : List Pt) : List RP := ps.foldl (addRP s) (midRS s os)
theorem midR_snoc (s : Sg) (os : List Sg) (t : Sg) : midRS s (os ++ [t]) = addRS s (midRS s os) t := by unfold midRS; rw [List.foldl_append]; rfl
theorem partsR_snoc (s : Sg) (os : List Sg) (ps : List Pt) (p : Pt) : partsR s os (ps ++ [p]) = addRP s (partsR s os ps) p := by unfold partsR; rw [List.foldl_append]; rfl
/-- A list of the reference beside one of rational points. -/
structure RepP (l : List RP) (L : List QP) : Prop where
 n : ∀ r ∈ l, NormR r
 b : ∀ r ∈ l, PIn r 4000000
 q : l.map RP.q = L
theorem RepP.nil : RepP [] [] := ⟨fun r h => (by cases h), fun r h => (by cases h), rfl⟩
theorem RepP.ins {l : List RP} {L : List QP} {p : RP} {x : QP} (h : RepP l L) (hp : NormR p) (hb : PIn p 4000000) (hx : p.q = x) : RepP (insF l p) (insQ L x) := by
 refine ⟨fun r hr => ?_, fun r hr => ?_, ?_⟩
 ·rcases (insF_mem l p r).1 hr with h1 | h1
  ·exact h.n r h1
  ·rw [h1]; exact hp
 ·rcases (insF_mem l p r).1 hr with h1 | h1
  ·exact h.b r h1
  ·rw [h1]; exact hb
 ·rw [insF_q l p h.n hp, h.q, hx]
theorem rep_head {s : Sg} (hs : SegIn s (-33) 67) : RepP (headR s) (headQ s) :=
 (RepP.nil.ins (normR_of _) (ofR_in hs.ax hs.ay) (ofR_q _)).ins (normR_of _) (ofR_in hs.bx hs.by') (ofR_q _)
theorem rep_add {s t : Sg} (hs : SegIn s (-33) 67) (ht : SegIn t (-33) 67) {l : List RP} {L : List QP} (h : RepP l L) : RepP (addRS s l t) (addM L (meetF s t)) := by
 have h1 := hs.ok (by omega) (by omega)
 have h2 := ht.ok (by omega) (by omega)
 have hin : ∀ q ∈ allF s t, PIn q 4000000 := foldF_in _ _ (fun q hq => by cases hq) (cand_in hs ht)
 have hn : ∀ q ∈ allF s t, NormR q := (allF_spec s t).1.n
 obtain ⟨m0, m1, m2⟩ := allF_meet h1 h2
 have hm := meetF_meet h1 h2
 unfold addRS addM
 generalize meetF s t = M at *
 obtain ⟨k, A, T⟩ := M
 simp only at m0 m1 m2 hm
 generalize allF s t = L at *
 rcases hm with ⟨rfl, rfl, rfl, _⟩ | ⟨rfl, rfl, _⟩ | ⟨rfl, _⟩
 ·rw [m0 rfl]
  have e : rcOf [] = ⟨0, zRP, zRP⟩ := rfl
  rw [e]
  simpa using h
 ·obtain ⟨r, rfl, hr⟩ := m1 rfl
  have e : rcOf [r] = ⟨1, r, zRP⟩ := rfl
  rw [e]
  simpa using h.ins (hn r List.mem_cons_self) (hin r List.mem_cons_self) hr
 ·obtain ⟨a, l, b, rfl, ha, hb⟩ := m2 rfl
  have e : rcOf (a :: (l ++ [b])) = ⟨2, a, b⟩ := by
   unfold rcOf
   rw [if_neg (by simp), if_neg (by simp)]
   simp [List.getElem?_append]
  rw [e]
  simpa using (h.ins (hn a List.mem_cons_self) (hin a List.mem_cons_self) ha).ins (hn b (by simp)) (hin b (by simp)) hb
theorem onF_onB {s : Sg} (hs : s.a ≠ s.b) (p : Pt) : onF s (ofR p) = onB s p.q := by
 have h := onF_on (s := s) (p := ofR p) hs (Int.le_refl 1)
 rw [ofR_q, ← onB_on] at h
 cases h1 : onF s (ofR p) <;> cases h2 : onB s p.q <;> simp_all
theorem rep_addP {s : Sg} (hs : SegIn s (-33) 67) {p : Pt} (hp : PIn (ofR p) 4000000) {l : List RP} {L : List QP} (h : RepP l L) : RepP (addRP s l p) (addP s L p) := by
 have h1 := hs.ok (by omega) (by omega)
 unfold addRP addP
 rw [onF_onB h1.ne]
 split
 ·exact h.ins (normR_of _) hp (ofR_q _)
 ·exact h
theorem rep_mid {s : Sg} (hs : SegIn s (-33) 67) : ∀ (os : List Sg), (∀ t ∈ os, SegIn t (-33) 67) → ∀ (l : List RP) (L : List QP), RepP l L → RepP (os.foldl (addRS s) l) (os.foldl (fun l t => addM l (meetF s t)) L)
 | [], _, _, _, h => h
 | t :: os, ho, l, L, h => rep_mid hs os (fun t ht => ho t (List.mem_cons_of_mem _ ht)) _ _ (rep_add hs (ho t List.mem_cons_self) h)
theorem rep_pts {s : Sg} (hs : SegIn s (-33) 67) : ∀ (ps : List Pt), (∀ p ∈ ps, PIn (ofR p) 4000000) → ∀ (l : List RP) (L : List QP), RepP l L → RepP (ps.foldl (addRP s) l) (ps.foldl (addP s) L)
 | [], _, _, _, h => h
 | p :: ps, hp, l, L, h => rep_pts hs ps (fun p h => hp p (List.mem_cons_of_mem _ h)) _ _ (rep_addP hs (hp p List.mem_cons_self) h)
/-- Both make the same points. -/
theorem rep_parts {s : Sg} {os : List Sg} {ps : List Pt} (hs : SegIn s (-33) 67) (ho : ∀ t ∈ os, SegIn t (-33) 67) (hp : ∀ p ∈ ps, PIn (ofR p) 4000000) : RepP (partsR s os ps) (partsQ s os ps) :=
 rep_pts hs ps hp _ _ (rep_mid hs os ho _ _ (rep_head hs))
theorem RepP.len {l : List RP} {L : List QP} (h : RepP l L) : l.length = L.length := by rw [← h.q, List.length_map]
theorem RepP.get {l : List RP} {L : List QP} (h : RepP l L) {i : Nat} {r : RP} (hi : l[i]? = some r) : L[i]? = some r.q := by rw [← h.q, List.getElem?_map, hi]; rfl
end Go.Proofs.Ytagiaiocgjagnaa
namespace Go.Proofs.Ytagiaiocgjagnaa
set_option linter.unusedSimpArgs false
set_option linter.unusedVariables false

def mdQ (p q : QP) : QP := ⟨(p.x + q.x) / 2, (p.y + q.y) / 2⟩
theorem parts_two (s : Sg) (os : List Sg) (ps : List Pt) (hs : OKs s) : 2 ≤ (partsQ s os ps).length := by
 have h1 : s.a.q ∈ partsQ s os ps := partsQ_mem.2 (.inl (.inl (.inl rfl)))
 have h2 : s.b.q ∈ partsQ s os ps := partsQ_mem.2 (.inl (.inl (.inr rfl)))
 generalize partsQ s os ps = l at *
 match l, h1, h2 with
 | [x], h1, h2 =>
  rw [List.mem_singleton] at h1 h2
  exact absurd (h1.trans h2.symm) hs.neq
 | x :: y :: l, _, _ => simp
end Go.Proofs.Ytagiaiocgjagnaa
