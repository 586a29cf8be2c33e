/- Plain laws of chapter 07: the ordered lists of the reference, and what Meet makes of them. -/
import Derived.Test.YtagiaiocgjagnaaQC04
namespace Go.Proofs.Ytagiaiocgjagnaa
set_option linter.unusedSimpArgs false
set_option linter.unusedVariables false

/-- A point is put into an ordered list, if it is not there. -/
def insF : List RP → RP → List RP
 | [], p => [p]
 | q :: l, p => if cmp5 q p < 0 then q :: insF l p else if q.x = p.x ∧ q.y = p.y ∧ q.d = p.d then q :: l else p :: q :: l
theorem RP.ext' {a b : RP} (h : a.x = b.x ∧ a.y = b.y ∧ a.d = b.d) : a = b := by
 obtain ⟨h1, h2, h3⟩ := h
 cases a; cases b; simp_all
/-- What the walk of Put finds. -/
theorem insF_at : ∀ (l : List RP) (p : RP) (k : Nat), k ≤ l.length → (∀ j q, j < k → l[j]? = some q → cmp5 q p < 0) → (∀ q, l[k]? = some q → ¬ cmp5 q p < 0) →
  insF l p = match l[k]? with
   | some q => if q.x = p.x ∧ q.y = p.y ∧ q.d = p.d then l else l.take k ++ p :: l.drop k
   | none => l.take k ++ p :: l.drop k
 | [], p, k, hk, _, _ => by
  have : k = 0 := by simpa using hk
  subst this; rfl
 | q :: l, p, 0, _, _, h2 => by
  have := h2 q rfl
  simp only [insF, if_neg this, List.getElem?_cons_zero, List.take_zero, List.drop_zero, List.nil_append]
 | q :: l, p, k + 1, hk, h1, h2 => by
  have hq := h1 0 q (by omega) rfl
  have ih := insF_at l p k (by simpa using hk) (fun j r hj hr => h1 (j + 1) r (by omega) (by simpa using hr)) (fun r hr => h2 r (by simpa using hr))
  rw [insF, if_pos hq, ih]
  simp only [List.getElem?_cons_succ, List.take_succ_cons, List.drop_succ_cons, List.cons_append]
  cases h : l[k]? with
  | none => rfl
  | some r => simp only; split <;> rfl
/-- Points in lowest terms, in order. -/
structure Srt (l : List RP) : Prop where
 n : ∀ p ∈ l, NormR p
 s : l.Pairwise fun a b => LtQ a.q b.q
theorem Srt.nil : Srt [] := ⟨fun p h => (by cases h), List.Pairwise.nil⟩
theorem insF_mem : ∀ (l : List RP) (p r : RP), r ∈ insF l p ↔ r ∈ l ∨ r = p
 | [], p, r => by simp [insF]
 | q :: l, p, r => by
  rw [insF]
  split
  ·rw [List.mem_cons, insF_mem l p r, List.mem_cons]
   constructor
   ·rintro (h | h | h)
    ·exact .inl (.inl h)
    ·exact .inl (.inr h)
    ·exact .inr h
   ·rintro ((h | h) | h)
    ·exact .inl h
    ·exact .inr (.inl h)
    ·exact .inr (.inr h)
  ·split
   ·rename_i h
    have := RP.ext' h
    subst this
    constructor
    ·intro h; exact .inl h
    ·rintro (h | h)
     ·exact h
     ·subst h; exact List.mem_cons_self
   ·rw [List.mem_cons]
    constructor
    ·rintro (h | h)
     ·exact .inr h
     ·exact .inl h
    ·rintro (h | h)
     ·exact .inr h
     ·exact .inl h
theorem insF_srt : ∀ (l : List RP) (p : RP), Srt l → NormR p → Srt (insF l p)
 | [], p, _, hp => ⟨fun r hr => by simp [insF] at hr; rw [hr]; exact hp, by simp [insF]⟩
 | q :: l, p, h, hp => by
  have hq := h.n q List.mem_cons_self
  have hs := List.pairwise_cons.1 h.s
  have hl : Srt l := ⟨fun r hr => h.n r (List.mem_cons_of_mem _ hr), hs.2⟩
  refine ⟨fun r hr => ?_, ?_⟩
  ·rcases (insF_mem _ _ _).1 hr with h1 | h1
   ·exact h.n r h1
   ·rw [h1]; exact hp
  ·rw [insF]
   split
   ·rename_i hc
    rw [List.pairwise_cons]
    refine ⟨fun r hr => ?_, (insF_srt l p hl hp).s⟩
    rcases (insF_mem _ _ _).1 hr with h1 | h1
    ·exact hs.1 r h1
    ·rw [h1]
     rw [cmp5_q hq.1 hp.1, cmpP_lt] at hc
     exact hc
   ·rename_i hc
    split
    ·exact h.s
    ·rename_i hne
     rw [cmp5_q hq.1 hp.1, cmpP_lt] at hc
     have hlt : LtQ p.q q.q := by
      rcases LeQ.total p.q q.q with h1 | h1
      ·exact h1.lt fun e => hne (by rw [normR_uniq hp hq e]; exact ⟨rfl, rfl, rfl⟩)
      ·exact absurd h1 hc
     rw [List.pairwise_cons]
     refine ⟨fun r hr => ?_, h.s⟩
     rcases List.mem_cons.1 hr with h1 | h1
     ·rw [h1]; exact hlt
     ·exact (hlt.le.trans (hs.1 r h1).le).lt fun e => (hs.1 r h1).irrefl (by rw [← e]; exact hlt.le)
theorem insF_len (l : List RP) (p : RP) : (insF l p).length ≤ l.length + 1 := by
 induction l with
 | nil => simp [insF]
 | cons q l ih =>
  rw [insF]
  split
  ·simp; omega
  ·split <;> simp
/-- A point is put into the list, if it lies on both segments. -/
def comF (s t : Sg) (l : List RP) (p : RP) : List RP := if onF s p = true ∧ onF t p = true then insF l p else l
def ofR (p : Pt) : RP := ⟨p.x, p.y, 1⟩
def crD (s t : Sg) : Int := (s.b.x - s.a.x) * (t.b.y - t.a.y) - (s.b.y - s.a.y) * (t.b.x - t.a.x)
def crN (s t : Sg) : Int := (t.a.x - s.a.x) * (t.b.y - t.a.y) - (t.a.y - s.a.y) * (t.b.x - t.a.x)
def crP (s t : Sg) : RP := makeF (s.a.x * crD s t + (s.b.x - s.a.x) * crN s t) (s.a.y * crD s t + (s.b.y - s.a.y) * crN s t) (crD s t)
def four (s t : Sg) : List RP := [ofR s.a, ofR s.b, ofR t.a, ofR t.b]
def candF (s t : Sg) : List RP := four s t ++ (if crD s t = 0 then [] else [crP s t])
def allF (s t : Sg) : List RP := (candF s t).foldl (comF s t) []
theorem crP_norm {s t : Sg} (h : crD s t ≠ 0) : NormR (crP s t) := makeF_norm h
theorem cand_norm {s t : Sg} {p : RP} (h : p ∈ candF s t) : NormR p := by
 unfold candF four at h
 rw [List.mem_append] at h
 rcases h with h | h
 ·simp only [List.mem_cons, List.not_mem_nil, or_false] at h
  rcases h with rfl | rfl | rfl | rfl <;> exact normR_of _
 ·split at h
  ·cases h
  ·rename_i hd
   simp only [List.mem_cons, List.not_mem_nil, or_false] at h
   rw [h]; exact crP_norm hd
theorem fold_spec {s t : Sg} : ∀ (c : List RP) (l : List RP), Srt l → (∀ p ∈ c, NormR p) → Srt (c.foldl (comF s t) l) ∧ ∀ r, r ∈ c.foldl (comF s t) l ↔ r ∈ l ∨ (r ∈ c ∧ onF s r = true ∧ onF t r = true)
 | [], l, h, _ => ⟨h, fun r => by simp⟩
 | p :: c, l, h, hn => by
  have h1 : Srt (comF s t l p) := by
   unfold comF; split
   ·exact insF_srt l p h (hn p List.mem_cons_self)
   ·exact h
  obtain ⟨i1, i2⟩ := fold_spec c (comF s t l p) h1 fun q hq => hn q (List.mem_cons_of_mem _ hq)
  refine ⟨i1, fun r => ?_⟩
  rw [List.foldl_cons, i2, List.mem_cons]
  unfold comF
  split
  ·rename_i hc
   rw [insF_mem]
   constructor
   ·rintro ((h | h) | ⟨h, k⟩)
    ·exact .inl h
    ·subst h; exact .inr ⟨.inl rfl, hc⟩
    ·exact .inr ⟨.inr h, k⟩
   ·rintro (h | ⟨h | h, k⟩)
    ·exact .inl (.inl h)
    ·exact .inl (.inr h)
    ·exact .inr ⟨h, k⟩
  ·rename_i hc
   constructor
   ·rintro (h | ⟨h, k⟩)
    ·exact .inl h
    ·exact .inr ⟨.inr h, k⟩
   ·rintro (h | ⟨h | h, k⟩)
    ·exact .inl h
    ·subst h; exact absurd k hc
    ·exact .inr ⟨h, k⟩
theorem allF_spec (s t : Sg) : Srt (allF s t) ∧ ∀ r, r ∈ allF s t ↔ r ∈ candF s t ∧ onF s r = true ∧ onF t r = true := by
 obtain ⟨h1, h2⟩ := fold_spec (s := s) (t := t) (candF s t) [] Srt.nil fun p hp => cand_norm hp
 exact ⟨h1, fun r => by rw [allF, h2]; simp⟩
theorem crD_eq (s t : Sg) : crD s t = crsI t.a t.b s.a - crsI t.a t.b s.b := by unfold crD crsI; grind
theorem crN_eq (s t : Sg) : crN s t = crsI t.a t.b s.a := by unfold crN crsI; grind
theorem crP_q {s t : Sg} (h : crD s t ≠ 0) : (crP s t).q = crossQ s t := by
 have hd : (crD s t : Rat) ≠ 0 := fun e => h (Rat.intCast_eq_zero_iff.1 e)
 have e : crossQ s t = wayQ s.a.q s.b.q ((crN s t : Rat) / (crD s t : Rat)) := by
  unfold crossQ
  rw [crs_int, crs_int, ← Rat.intCast_sub, ← crD_eq, ← crN_eq]
 have hl := Rat.div_mul_cancel (a := (crN s t : Rat)) hd
 rw [e]
 generalize (crN s t : Rat) / (crD s t : Rat) = l at *
 refine makeF_q h ?_ ?_
 ·simp only [Rat.intCast_add, Rat.intCast_mul, Rat.intCast_sub]; rw [← hl]; grind
 ·simp only [Rat.intCast_add, Rat.intCast_mul, Rat.intCast_sub]; rw [← hl]; grind
theorem ofR_q (p : Pt) : (ofR p).q = p.q := of_q p
/-- What meet names is among the candidates. -/
theorem meet_cand {s t : Sg} : ((meetF s t).1 ≠ 0 → ∃ r ∈ candF s t, r.q = (meetF s t).2.1) ∧ ((meetF s t).1 = 2 → ∃ r ∈ candF s t, r.q = (meetF s t).2.2) := by
 have ha : ∀ p : Pt, (p = s.a ∨ p = s.b ∨ p = t.a ∨ p = t.b) → ∃ r ∈ candF s t, r.q = p.q := fun p hp => by
  refine ⟨ofR p, ?_, ofR_q p⟩
  unfold candF four
  rw [List.mem_append]; left
  rcases hp with rfl | rfl | rfl | rfl <;> simp
 have hn : ∀ v : Sg, ((normF v).a = v.a ∨ (normF v).a = v.b) ∧ ((normF v).b = v.a ∨ (normF v).b = v.b) := fun v => by
  unfold normF; split
  ·exact ⟨.inr rfl, .inl rfl⟩
  ·exact ⟨.inl rfl, .inr rfl⟩
 have n1 := hn s
 have n2 := hn t
 have hf : ∃ r ∈ candF s t, r.q = (fromF (normF s) (normF t)).q := by
  refine ha _ ?_
  unfold fromF; split
  ·rcases n2.1 with h | h <;> rw [h] <;> simp
  ·rcases n1.1 with h | h <;> rw [h] <;> simp
 have hg : ∃ r ∈ candF s t, r.q = (toF (normF s) (normF t)).q := by
  refine ha _ ?_
  unfold toF; split
  ·rcases n2.2 with h | h <;> rw [h] <;> simp
  ·rcases n1.2 with h | h <;> rw [h] <;> simp
 unfold meetF
 split
 ·exact ⟨fun h => absurd rfl h, fun h => (by cases h)⟩
 ·split
  ·unfold lineF
   split
   ·exact ⟨fun _ => hf, fun h => (by cases h)⟩
   ·split
    ·exact ⟨fun h => absurd rfl h, fun h => (by cases h)⟩
    ·exact ⟨fun _ => hf, fun _ => hg⟩
  ·rename_i h0
   split
   ·exact ⟨fun h => absurd rfl h, fun h => (by cases h)⟩
   ·rename_i h1
    have hd : crD s t ≠ 0 := fun e => by
     rw [crD_eq] at e
     have e1 := sideF_crs t.a t.b s.a
     have e2 := sideF_crs t.a t.b s.b
     rw [show crsI t.a t.b s.b = crsI t.a t.b s.a by omega, ← e1] at e2
     have bz := cmpI_bd (crsI t.a t.b s.a) 0
     rw [← e1] at bz
     rw [e2] at h0 h1
     rcases (show sideF t.a t.b s.a = -1 ∨ sideF t.a t.b s.a = 0 ∨ sideF t.a t.b s.a = 1 by omega) with h | h | h <;> rw [h] at h0 h1 <;> simp at h0 h1
    refine ⟨fun _ => ⟨crP s t, ?_, crP_q hd⟩, fun h => (by cases h)⟩
    unfold candF
    rw [List.mem_append, if_neg hd]; right; simp
/-- The reference's list, by the kind. -/
theorem allF_meet {s t : Sg} (hs : OKs s) (ht : OKs t) :
  ((meetF s t).1 = 0 → allF s t = []) ∧ ((meetF s t).1 = 1 → ∃ r, allF s t = [r] ∧ r.q = (meetF s t).2.1) ∧
  ((meetF s t).1 = 2 → ∃ a l b, allF s t = a :: (l ++ [b]) ∧ a.q = (meetF s t).2.1 ∧ b.q = (meetF s t).2.2) := by
 obtain ⟨hS, hM⟩ := allF_spec s t
 obtain ⟨c1, c2⟩ := meet_cand (s := s) (t := t)
 have hm := meetF_meet hs ht
 have on : ∀ r, r ∈ allF s t → OnQ s.q r.q ∧ OnQ t.q r.q := fun r hr => by
  obtain ⟨h1, h2, h3⟩ := (hM r).1 hr
  have hn := cand_norm h1
  exact ⟨(onF_on hs.ne hn.1).1 h2, (onF_on ht.ne hn.1).1 h3⟩
 have mk : ∀ r, r ∈ candF s t → OnQ s.q r.q ∧ OnQ t.q r.q → r ∈ allF s t := fun r hr h => by
  have hn := cand_norm hr
  exact (hM r).2 ⟨hr, (onF_on hs.ne hn.1).2 h.1, (onF_on ht.ne hn.1).2 h.2⟩
 generalize meetF s t = M at *
 obtain ⟨k, A, T⟩ := M
 simp only at c1 c2 hm ⊢
 generalize allF s t = L at *
 rcases hm with ⟨rfl, rfl, rfl, h⟩ | ⟨rfl, rfl, h⟩ | ⟨rfl, h1, h2, h3, h⟩
 ·refine ⟨fun _ => ?_, fun h => (by cases h), fun h => (by cases h)⟩
  cases L with
  | nil => rfl
  | cons r L => exact absurd (on r List.mem_cons_self) (h r.q)
 ·refine ⟨fun h => (by cases h), fun _ => ?_, fun h => (by cases h)⟩
  obtain ⟨r, hr, e⟩ := c1 (by decide)
  have hrL := mk r hr ((h r.q).2 e)
  have all : ∀ q ∈ L, q.q = A := fun q hq => (h q.q).1 (on q hq)
  match L, hrL, hS, all with
  | [q], hrL, _, all =>
   exact ⟨q, rfl, all q List.mem_cons_self⟩
  | q :: q' :: L, _, hS, all =>
   exfalso
   have := (List.pairwise_cons.1 hS.s).1 q' List.mem_cons_self
   exact this.ne ((all q List.mem_cons_self).trans (all q' (by simp)).symm)
 ·refine ⟨fun h => (by cases h), fun h => (by cases h), fun _ => ?_⟩
  obtain ⟨r, hr, e⟩ := c1 (by decide)
  obtain ⟨r', hr', e'⟩ := c2 rfl
  have hrL := mk r hr (by rw [e]; exact h2)
  have hrL' := mk r' hr' (by rw [e']; exact h3)
  cases L with
  | nil => cases hrL
  | cons a L =>
   have hp := List.pairwise_cons.1 hS.s
   have ea : a.q = A := by
    have g1 := (h a.q (on a List.mem_cons_self)).1
    rcases List.mem_cons.1 hrL with e1 | e1
    ·rw [← e1]; exact e
    ·have := (hp.1 r e1).le
     rw [e] at this
     exact LeQ.antisymm this g1
   rcases List.eq_nil_or_concat L with e0 | ⟨l, b, e0⟩
   ·subst e0
    simp only [List.mem_cons, List.not_mem_nil, or_false] at hrL'
    rw [hrL'] at e'
    exact absurd (ea.symm.trans e') h1.ne
   ·rw [List.concat_eq_append] at e0
    subst e0
    refine ⟨a, l, b, rfl, ea, ?_⟩
    have hb : b ∈ a :: (l ++ [b]) := by simp
    have g1 := (h b.q (on b hb)).2
    rcases List.mem_cons.1 hrL' with e1 | e1
    ·rw [e1, ea] at e'
     exact absurd e' h1.ne
    ·rcases List.mem_append.1 e1 with e2 | e2
     ·have := (List.pairwise_append.1 hp.2).2.2 r' e2 b (by simp)
      rw [e'] at this
      exact LeQ.antisymm g1 this.le
     ·simp only [List.mem_cons, List.not_mem_nil, or_false] at e2
      rw [← e2]; exact e'
end Go.Proofs.Ytagiaiocgjagnaa
