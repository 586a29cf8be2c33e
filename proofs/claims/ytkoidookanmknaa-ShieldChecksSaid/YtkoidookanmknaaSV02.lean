/- Plain laws of chapter 30: how great the numbers of the elimination get. -/
import Derived.Test.YtkoidookanmknaaSV03
namespace Go.Proofs.Ytkoidookanmknaa
set_option linter.unusedSimpArgs false
set_option linter.unusedVariables false

/-- q is x / y, both at most B. -/
def SmB (B : Nat) (q : Rat) : Prop := ∃ (x : Int) (y : Nat), 1 ≤ y ∧ y ≤ B ∧ x.natAbs ≤ B ∧ q * (y : Rat) = (x : Rat)
theorem SmB.mono {B C : Nat} {q : Rat} (h : SmB B q) (hb : B ≤ C) : SmB C q := by
 obtain ⟨x, y, h1, h2, h3, h4⟩ := h
 exact ⟨x, y, h1, by omega, by omega, h4⟩
theorem SmB.zero {B : Nat} (h : 1 ≤ B) : SmB B 0 := ⟨0, 1, by omega, h, by simp, by simp⟩
theorem SmB.one {B : Nat} (h : 1 ≤ B) : SmB B 1 := ⟨1, 1, by omega, h, by simpa using h, by simp⟩
/-- The bound behind r rows. -/
def MB : Nat → Nat
 | 0 => 1
 | r + 1 => 2 * (r + 1) * (MB r * MB r)
theorem MB_pos : ∀ r, 1 ≤ MB r
 | 0 => Nat.le_refl _
 | r + 1 => by
  have h := MB_pos r
  have h2 : 1 ≤ MB r * MB r := Nat.mul_pos h h
  unfold MB
  exact Nat.mul_pos (by omega) h2
theorem MB_step (r : Nat) : MB r ≤ MB (r + 1) := by
 have h := MB_pos r
 have h2 : MB r * 1 ≤ MB r * MB r := Nat.mul_le_mul_left _ h
 have h3 : 1 * (MB r * MB r) ≤ 2 * (r + 1) * (MB r * MB r) := Nat.mul_le_mul_right _ (by omega)
 show MB r ≤ 2 * (r + 1) * (MB r * MB r)
 omega
theorem MB_mono {r s : Nat} (h : r ≤ s) : MB r ≤ MB s := by
 induction s with
 | zero =>
  have : r = 0 := by omega
  rw [this]; exact Nat.le_refl _
 | succ s ih =>
  by_cases hs : r = s + 1
  ·rw [hs]; exact Nat.le_refl _
  ·exact Nat.le_trans (ih (by omega)) (MB_step s)
/-- All numbers of the elimination stay below this. -/
@[irreducible] def BB : Nat := 13 * MB 12
def BBk : Nat := 7110
theorem BB_lt : BB < 2 ^ BBk := by unfold BB; decide +kernel
theorem red_BB {r : Nat} (h : r ≤ 12) : (r + 1) * MB r ≤ BB := by
 unfold BB; exact Nat.mul_le_mul (by omega) (MB_mono h)
theorem add_BB {r : Nat} (h : r + 1 ≤ 12) : MB (r + 1) ≤ BB := by
 have := MB_mono h
 unfold BB; omega
theorem one_BB : 1 ≤ BB := by have := MB_pos 12; unfold BB; omega
/-- All rows have one denominator. -/
structure Rep (R : Lds) (d M : Nat) : Prop where
 d1 : 1 ≤ d
 dM : d ≤ M
 num : ∀ p, p ∈ R → ∀ c, ∃ A : Int, p.1 c * (d : Rat) = (A : Rat) ∧ A.natAbs ≤ M
def ZO (q : Rat) : Prop := q = 0 ∨ q = 1
theorem cast_ne {y : Nat} (h : 1 ≤ y) : (y : Rat) ≠ 0 := by
 intro h0
 have := Rat.natCast_eq_zero_iff.1 h0
 omega
theorem redV_rep (d M : Nat) (R : Lds) : Red R → Rep R d M → ∀ (v : Vec) (E : Nat), (∀ p, p ∈ R → ZO (v p.2)) → (∀ c, ∃ V : Int, v c * (d : Rat) = (V : Rat) ∧ V.natAbs ≤ E) →
  ∀ c, ∃ V : Int, redV R v c * (d : Rat) = (V : Rat) ∧ V.natAbs ≤ E + R.length * M := by
 induction R with
 | nil => intro _ _ v E _ h c; obtain ⟨V, h1, h2⟩ := h c; exact ⟨V, h1, by simp; omega⟩
 | cons p R ih =>
  intro hR hP v E hz hv c
  obtain ⟨r, l⟩ := p
  obtain ⟨h1, h2, h3⟩ := hR.cons
  have hz0 : ZO (v l) := hz (r, l) List.mem_cons_self
  have := ih h3 ⟨hP.d1, hP.dM, fun p hp => hP.num p (List.mem_cons_of_mem _ hp)⟩ (vless v r (v l)) (E + M)
   (fun p hp => by
    unfold vless
    have e : r p.2 = 0 := (h2 p hp).1
    rw [e, show v p.2 - 0 * v l = v p.2 by grind]
    exact hz p (List.mem_cons_of_mem _ hp))
   (fun c => by
    obtain ⟨V, a1, a2⟩ := hv c
    obtain ⟨A, b1, b2⟩ := hP.num (r, l) List.mem_cons_self c
    simp only at b1
    rcases hz0 with e | e
    ·refine ⟨V, ?_, by omega⟩
     unfold vless; rw [e]; grind
    ·refine ⟨V - A, ?_, by omega⟩
     unfold vless; rw [e, Rat.intCast_sub, ← a1, ← b1]; grind)
  obtain ⟨V, a1, a2⟩ := this c
  refine ⟨V, a1, ?_⟩
  rw [List.length_cons, Nat.succ_mul]
  omega
theorem Red.take {R : Lds} (h : Red R) (i : Nat) : Red (R.take i) := ⟨fun p hp => h.1 p (List.mem_of_mem_take hp), h.2.sublist (List.take_sublist i R)⟩
theorem Rep.take {R : Lds} {d M : Nat} (h : Rep R d M) (i : Nat) : Rep (R.take i) d M := ⟨h.d1, h.dM, fun p hp => h.num p (List.mem_of_mem_take hp)⟩
theorem Red.lead {R : Lds} (h : Red R) (i : Nat) (p : Vec × Nat) (hp : R[i]? = some p) : ∀ q, q ∈ R.take i → q.1 p.2 = 0 := by
 induction R generalizing i with
 | nil => simp at hp
 | cons x R ih =>
  obtain ⟨h1, h2, h3⟩ := h.cons
  cases i with
  | zero => intro q hq; simp at hq
  | succ i =>
   intro q hq
   simp only [List.getElem?_cons_succ] at hp
   rw [List.take_succ_cons] at hq
   rcases List.mem_cons.1 hq with rfl | hq
   ·exact (h2 p (List.mem_of_getElem? hp)).1
   ·exact ih h3 i hp q hq
/-- A row with one denominator. -/
structure Sol (R : Lds) (r : Nat) : Prop where
 red : Red R
 rep : ∃ d, Rep R d (MB r)
 len : R.length ≤ r
theorem Sol.nil : Sol [] 0 := ⟨⟨by simp, List.Pairwise.nil⟩, ⟨1, Nat.le_refl _, Nat.le_refl _, by simp⟩, by simp⟩
theorem smb_of {q : Rat} {d B : Nat} {V : Int} (h1 : 1 ≤ d) (h2 : d ≤ B) (h : q * (d : Rat) = (V : Rat)) (hV : V.natAbs ≤ B) : SmB B q := ⟨V, d, h1, h2, hV, h⟩
theorem Rep.zo {R : Lds} {d M : Nat} (h : Rep R d M) {v : Vec} (hv : ∀ c, ZO (v c)) (c : Nat) : ∃ V : Int, v c * (d : Rat) = (V : Rat) ∧ V.natAbs ≤ M := by
 have := h.dM
 rcases hv c with e | e
 ·exact ⟨0, by rw [e]; simp, by simp⟩
 ·refine ⟨(d : Int), by rw [e, Rat.one_mul]; rfl, by omega⟩
/-- What a reduction meets. -/
theorem Sol.steps {R : Lds} {r : Nat} (h : Sol R r) (hr : r ≤ 12) {v : Vec} (hv : ∀ c, ZO (v c)) (i : Nat) : (∀ c, SmB BB (redV (R.take i) v c)) ∧ ∀ p, R[i]? = some p → ZO (redV (R.take i) v p.2) ∧ ∀ c, SmB BB (p.1 c) := by
 obtain ⟨d, hp⟩ := h.rep
 have hb := red_BB hr
 have hm : MB r ≤ (r + 1) * MB r := by rw [Nat.succ_mul]; omega
 have hd := hp.d1
 have hdM := hp.dM
 constructor
 ·intro c
  obtain ⟨V, a, b⟩ := redV_rep d (MB r) (R.take i) (h.red.take i) (hp.take i) v (MB r) (fun p _ => hv p.2) (fun c => hp.zo hv c) c
  refine smb_of hd (by omega) a ?_
  have h1 : (R.take i).length * MB r ≤ r * MB r := Nat.mul_le_mul_right _ (by have := h.len; rw [List.length_take]; omega)
  rw [Nat.succ_mul] at hb
  omega
 ·intro p hpi
  constructor
  ·rw [redV_keep _ _ _ (h.red.lead i p hpi)]; exact hv p.2
  ·intro c
   obtain ⟨A, a, b⟩ := hp.num p (List.mem_of_getElem? hpi) c
   exact smb_of hd (by omega) a (by omega)
theorem natAbs_mul_le {x y : Int} {a b : Nat} (h1 : x.natAbs ≤ a) (h2 : y.natAbs ≤ b) : (x * y).natAbs ≤ a * b := by
 rw [Int.natAbs_mul]; exact Nat.mul_le_mul h1 h2
theorem natAbs_sgn (x : Int) : (x.sign).natAbs ≤ 1 := by
 rcases Int.lt_trichotomy x 0 with h | h | h
 ·rw [Int.sign_eq_neg_one_of_neg h]; decide
 ·rw [h]; decide
 ·rw [Int.sign_eq_one_of_pos h]; decide
theorem sgn_abs (x : Int) : ((x.natAbs : Nat) : Rat) = (x.sign : Rat) * (x : Rat) := by
 rw [← Rat.intCast_mul, Int.sign_mul_self, ← Rat.intCast_natCast]
/-- What one more row brings. -/
structure AddOK (R : Lds) (y : Vec) (l : Nat) : Prop where
 old : ∀ c, SmB BB (y c)
 row : ∀ c, SmB BB (newRow y l c)
 each : ∀ p, p ∈ R → SmB BB (p.1 l) ∧ ∀ c, SmB BB (p.1 c) ∧ SmB BB (newRow y l c * p.1 l) ∧ SmB BB (vless p.1 (newRow y l) (p.1 l) c)
theorem Sol.add {R : Lds} {r : Nat} (h : Sol R r) (hr : r + 1 ≤ 12) {v : Vec} (hv : ∀ c, ZO (v c)) {l : Nat} (hl : redV R v l ≠ 0) :
  AddOK R (redV R v) l ∧ Sol (addR R (newRow (redV R v) l) l) (r + 1) := by
 obtain ⟨d, hp⟩ := h.rep
 have hb := add_BB hr
 have hd := hp.d1
 have hdM := hp.dM
 have hy := redV_rep d (MB r) R h.red hp v (MB r) (fun p _ => hv p.2) (fun c => hp.zo hv c)
 have hlead := redV_lead R h.red v
 have hMp := MB_pos r
 obtain ⟨y, hyy⟩ : ∃ y, redV R v = y := ⟨_, rfl⟩
 obtain ⟨M, hM⟩ : ∃ M, MB r = M := ⟨_, rfl⟩
 have hMS : MB (r + 1) = 2 * (r + 1) * (M * M) := by rw [← hM]; rfl
 rw [hyy] at hy hl hlead ⊢
 rw [hM] at hy hp hdM hMp
 have hlen : R.length * M ≤ r * M := Nat.mul_le_mul_right _ h.len
 obtain ⟨W, w1, w2⟩ := hy l
 have hW : W ≠ 0 := by
  intro h0
  rw [h0] at w1
  have : y l = 0 := by
   rcases Rat.mul_eq_zero.1 w1 with h9 | h9
   ·exact h9
   ·exact absurd h9 (cast_ne hd)
  exact hl this
 have hW1 : 1 ≤ W.natAbs := by omega
 have hWb : W.natAbs ≤ (r + 1) * M := by rw [Nat.succ_mul]; omega
 have hVb : ∀ V : Int, V.natAbs ≤ M + R.length * M → V.natAbs ≤ (r + 1) * M := fun V hV => by rw [Nat.succ_mul]; omega
 obtain ⟨K, hK⟩ : ∃ K, (r + 1) * M = K := ⟨_, rfl⟩
 rw [hK] at hWb hVb
 have hK1 : M ≤ K := by rw [← hK, Nat.succ_mul]; omega
 have hKM : MB (r + 1) = 2 * (K * M) := by rw [hMS, ← hK]; grind
 have hKMM : K * 1 ≤ K * M := Nat.mul_le_mul_left _ hMp
 have hB : 2 * (K * M) ≤ BB := by omega
 -- the new row
 have erow : ∀ c (V : Int), y c * (d : Rat) = (V : Rat) → newRow y l c * (W.natAbs : Nat) = ((W.sign * V : Int) : Rat) := fun c V hV => by
  unfold newRow
  rw [sgn_abs, Rat.intCast_mul, ← w1, ← hV, Rat.div_def]
  have := Rat.mul_inv_cancel (y l) hl
  grind
 have hsV : ∀ V : Int, V.natAbs ≤ K → (W.sign * V).natAbs ≤ K := fun V hV => by
  have := natAbs_mul_le (natAbs_sgn W) hV
  omega
 have hdW : 1 ≤ d * W.natAbs := Nat.mul_pos hd hW1
 have hdWb : d * W.natAbs ≤ K * M := by rw [Nat.mul_comm]; exact Nat.mul_le_mul hWb hdM
 have ered : ∀ p, p ∈ R → ∀ c, ∃ N : Int, vless p.1 (newRow y l) (p.1 l) c * ((d * W.natAbs : Nat) : Rat) = (N : Rat) ∧ N.natAbs ≤ 2 * (K * M) := fun p hpR c => by
  obtain ⟨A, a1, a2⟩ := hp.num p hpR c
  obtain ⟨C, c1, c2⟩ := hp.num p hpR l
  obtain ⟨V, v1, v2⟩ := hy c
  have e := erow c V v1
  refine ⟨A * W.natAbs - W.sign * V * C, ?_, ?_⟩
  ·unfold vless
   rw [Rat.natCast_mul, Rat.intCast_sub, Rat.intCast_mul, Rat.intCast_mul _ C, ← e, ← a1, ← c1, Rat.intCast_natCast]
   grind
  ·have k1 : (A * (W.natAbs : Int)).natAbs ≤ M * K := natAbs_mul_le a2 (by omega)
   have k2 : (W.sign * V * C).natAbs ≤ K * M := natAbs_mul_le (hsV V (hVb V v2)) c2
   rw [Nat.mul_comm] at k1
   omega
 have enew : ∀ c, ∃ N : Int, newRow y l c * ((d * W.natAbs : Nat) : Rat) = (N : Rat) ∧ N.natAbs ≤ 2 * (K * M) := fun c => by
  obtain ⟨V, v1, v2⟩ := hy c
  have e := erow c V v1
  refine ⟨W.sign * V * d, ?_, ?_⟩
  ·rw [Rat.natCast_mul, Rat.intCast_mul, ← e, Rat.intCast_natCast]; grind
  ·have k2 : (W.sign * V * (d : Int)).natAbs ≤ K * M := natAbs_mul_le (hsV V (hVb V v2)) (by omega)
   omega
 refine ⟨⟨fun c => ?_, fun c => ?_, fun p hpR => ⟨?_, fun c => ⟨?_, ?_, ?_⟩⟩⟩, ⟨addR_red h.red ?_ ?_, ⟨d * W.natAbs, hdW, by rw [hKM]; omega, ?_⟩, ?_⟩⟩
 ·obtain ⟨V, v1, v2⟩ := hy c
  exact smb_of hd (by omega) v1 (by have := hVb V v2; omega)
 ·obtain ⟨V, v1, v2⟩ := hy c
  exact smb_of (B := BB) hW1 (by omega) (erow c V v1) (by have := hsV V (hVb V v2); omega)
 ·obtain ⟨A, a1, a2⟩ := hp.num p hpR l
  exact smb_of hd (by omega) a1 (by omega)
 ·obtain ⟨A, a1, a2⟩ := hp.num p hpR c
  exact smb_of hd (by omega) a1 (by omega)
 ·obtain ⟨V, v1, v2⟩ := hy c
  obtain ⟨C, c1, c2⟩ := hp.num p hpR l
  refine smb_of (B := BB) (V := W.sign * V * C) hdW (by omega) ?_ ?_
  ·rw [Rat.natCast_mul, Rat.intCast_mul, ← erow c V v1, ← c1]; grind
  ·have := natAbs_mul_le (hsV V (hVb V v2)) c2
   omega
 ·obtain ⟨N, n1, n2⟩ := ered p hpR c
  exact smb_of (B := BB) hdW (by omega) n1 (by omega)
 ·unfold newRow; exact rat_div_self hl
 ·intro p hpR
  unfold newRow; rw [hlead p hpR]; grind
 ·intro p hpR c
  rw [hKM]
  rcases List.mem_append.1 hpR with hq | hq
  ·obtain ⟨q, hq', rfl⟩ := List.mem_map.1 hq
   exact ered q hq' c
  ·rw [List.mem_singleton.1 hq]
   exact enew c
 ·unfold addR
  have := h.len
  simp; omega
end Go.Proofs.Ytkoidookanmknaa
