/- Plain laws of chapter 30: the rank of rows of integers. -/
import Derived.Test.YtkoidookanmknaaV01
namespace Go.Proofs.Ytkoidookanmknaa
set_option linter.unusedSimpArgs false
set_option linter.unusedVariables false

def vecI (l : List Int) : Vec := fun c => ((l.getD c 0 : Int) : Rat)
def InL (L : List (List Int)) (u : Vec) : Prop := ∃ l, l ∈ L ∧ vecI l = u
/-- c is the first place of a vector of the span. -/
def IsLd (S : Vec → Prop) (c : Nat) : Prop := ∃ v, Sp S v ∧ v c ≠ 0 ∧ ∀ x, x < c → v x = 0
/-- How many of the first numbers have a property. -/
inductive Cnt (P : Nat → Prop) : Nat → Nat → Prop
  | zero : Cnt P 0 0
  | yes {n k : Nat} : Cnt P n k → P n → Cnt P (n + 1) (k + 1)
  | no {n k : Nat} : Cnt P n k → ¬ P n → Cnt P (n + 1) k
theorem Cnt.le {P Q : Nat → Prop} (h : ∀ c, P c → Q c) {n k j : Nat} (hp : Cnt P n k) (hq : Cnt Q n j) : k ≤ j ∧ (k = j → ∀ c, c < n → Q c → P c) := by
  induction hp generalizing j with
  | zero => cases hq; exact ⟨Nat.le_refl _, fun _ c hc => by omega⟩
  | @yes n k hp hP ih =>
    cases hq with
    | yes hq hQ =>
      obtain ⟨a, b⟩ := ih hq
      refine ⟨by omega, fun e c hc hc2 => ?_⟩
      by_cases hcn : c = n
      · rw [hcn]; exact hP
      · exact b (by omega) c (by omega) hc2
    | no hq hQ => exact absurd (h _ hP) hQ
  | @no n k hp hP ih =>
    cases hq with
    | @yes _ j hq hQ =>
      obtain ⟨a, b⟩ := ih hq
      exact ⟨by omega, fun e => by omega⟩
    | no hq hQ =>
      obtain ⟨a, b⟩ := ih hq
      refine ⟨a, fun e c hc hc2 => ?_⟩
      by_cases hcn : c = n
      · rw [hcn] at hc2; exact absurd hc2 hQ
      · exact b e c (by omega) hc2
theorem Cnt.eq {P Q : Nat → Prop} (h : ∀ c, P c ↔ Q c) {n k j : Nat} (hp : Cnt P n k) (hq : Cnt Q n j) : k = j := by
  have h1 := (Cnt.le (fun c => (h c).1) hp hq).1
  have h2 := (Cnt.le (fun c => (h c).2) hq hp).1
  omega
theorem IsLd.mono {S T : Vec → Prop} (h : ∀ x, Sp S x → Sp T x) {c : Nat} (hc : IsLd S c) : IsLd T c := by
  obtain ⟨v, a, b⟩ := hc
  exact ⟨v, h v a, b⟩
theorem redV_fix (R : Lds) : ∀ v : Vec, (∀ p, p ∈ R → v p.2 = 0) → redV R v = v := by
  induction R with
  | nil => intro v _; rfl
  | cons p R ih =>
    obtain ⟨r, l⟩ := p
    intro v h
    have h0 : v l = 0 := h (r, l) List.mem_cons_self
    unfold redV
    rw [h0, show vless v r 0 = v from funext fun c => by unfold vless; grind]
    exact ih v (fun p hp => h p (List.mem_cons_of_mem _ hp))
/-- Rows with growing leads, each 0 before its lead. -/
def Ech (R : Lds) : Prop := R.Pairwise (fun p q => p.2 < q.2) ∧ ∀ p, p ∈ R → p.1 p.2 = 1 ∧ ∀ y, y < p.2 → p.1 y = 0
theorem redV_ech (R : Lds) : Ech R → ∀ p, p ∈ R → redV R p.1 = vzero := by
  induction R with
  | nil => intro _ p hp; cases hp
  | cons q R ih =>
    intro h p hp
    obtain ⟨r, l⟩ := q
    obtain ⟨h1, h2⟩ := h
    rw [List.pairwise_cons] at h1
    unfold redV
    rcases List.mem_cons.1 hp with rfl | hp'
    · have := (h2 (r, l) List.mem_cons_self).1
      simp only at this ⊢
      rw [show vless r r (r l) = vzero from funext fun c => by unfold vless vzero; rw [this]; grind]
      exact redV_zero R
    · have h3 := (h2 p hp).2 l (h1.1 p hp')
      rw [h3, show vless p.1 r 0 = p.1 from funext fun c => by unfold vless; grind]
      exact ih ⟨h1.2, fun q hq => h2 q (List.mem_cons_of_mem _ hq)⟩ p hp'
/-- Rows of integers with growing leads, from row k on. -/
structure EchI (c : Nat) (L : List (List Int)) (ls : List Nat) : Prop where
  inc : ls.Pairwise (· < ·)
  lt : ∀ x, x ∈ ls → x < c
  row : ∀ (k : Nat) (l : List Int) (x : Nat), L[k]? = some l → ls[k]? = some x → l.getD x 0 ≠ 0 ∧ ∀ y, y < x → l.getD y 0 = 0
structure EInv (S : Vec → Prop) (n c rk : Nat) (L : List (List Int)) : Prop where
  span : ∀ x, Sp (InL L) x ↔ Sp S x
  len : ∀ l, l ∈ L → l.length = n
  ech : ∃ ls, ls.length = rk ∧ EchI c L ls
  rkL : rk ≤ L.length
  rest : ∀ (i : Nat) (l : List Int), L[i]? = some l → rk ≤ i → ∀ y, y < c → l.getD y 0 = 0
  cnt : Cnt (IsLd S) c rk
/-- The first rows, each divided by its lead. -/
def normR : List (List Int) → List Nat → Lds
  | l :: L, x :: ls => (newRow (vecI l) x, x) :: normR L ls
  | _, _ => []
theorem normR_mem : ∀ (L : List (List Int)) (ls : List Nat) (p : Vec × Nat), p ∈ normR L ls → ∃ (k : Nat) (l : List Int), L[k]? = some l ∧ ls[k]? = some p.2 ∧ p.1 = newRow (vecI l) p.2
  | [], _, p, h => by simp [normR] at h
  | _ :: _, [], p, h => by simp [normR] at h
  | l :: L, x :: ls, p, h => by
    unfold normR at h
    rcases List.mem_cons.1 h with rfl | h
    · exact ⟨0, l, rfl, rfl, rfl⟩
    · obtain ⟨k, l', h1, h2, h3⟩ := normR_mem L ls p h
      exact ⟨k + 1, l', h1, h2, h3⟩
theorem normR_get : ∀ (L : List (List Int)) (ls : List Nat) (k : Nat) (l : List Int) (x : Nat), L[k]? = some l → ls[k]? = some x → (newRow (vecI l) x, x) ∈ normR L ls
  | [], _, k, l, x, h, _ => by simp at h
  | _ :: _, [], k, l, x, _, h => by simp at h
  | l' :: L, x' :: ls, k, l, x, h1, h2 => by
    cases k with
    | zero => simp at h1 h2; subst h1; subst h2; exact List.mem_cons_self
    | succ k => exact List.mem_cons_of_mem _ (normR_get L ls k l x h1 h2)
theorem normR_pw : ∀ (L : List (List Int)) (ls : List Nat), ls.Pairwise (· < ·) → (normR L ls).Pairwise (fun p q => p.2 < q.2)
  | [], _, _ => by simp [normR]
  | _ :: _, [], _ => by simp [normR]
  | l :: L, x :: ls, h => by
    rw [List.pairwise_cons] at h
    unfold normR
    rw [List.pairwise_cons]
    refine ⟨fun q hq => ?_, normR_pw L ls h.2⟩
    obtain ⟨k, l', _, h2, _⟩ := normR_mem L ls q hq
    exact h.1 _ (List.mem_of_getElem? h2)
theorem vecI_ne {l : List Int} {x : Nat} (h : l.getD x 0 ≠ 0) : vecI l x ≠ 0 := fun e => h (Rat.intCast_eq_zero_iff.1 e)
theorem vecI_zero {l : List Int} {x : Nat} (h : l.getD x 0 = 0) : vecI l x = 0 := by unfold vecI; rw [h]; rfl
theorem EchI.ech {c : Nat} {L : List (List Int)} {ls : List Nat} (h : EchI c L ls) : Ech (normR L ls) := by
  refine ⟨normR_pw L ls h.inc, fun p hp => ?_⟩
  obtain ⟨k, l, h1, h2, h3⟩ := normR_mem L ls p hp
  obtain ⟨a, b⟩ := h.row k l _ h1 h2
  rw [h3]
  refine ⟨rat_div_self (vecI_ne a), fun y hy => ?_⟩
  unfold newRow
  rw [vecI_zero (b y hy)]
  grind
/-- Without a pivot there is no lead. -/
theorem EInv.skip {S : Vec → Prop} {n c rk : Nat} {L : List (List Int)} (h : EInv S n c rk L) (h0 : ∀ (i : Nat) (l : List Int), L[i]? = some l → rk ≤ i → l.getD c 0 = 0) : EInv S n (c + 1) rk L := by
  obtain ⟨ls, hls, he⟩ := h.ech
  have hE := he.ech
  refine ⟨h.span, h.len, ⟨ls, hls, he.inc, fun x hx => by have := he.lt x hx; omega, he.row⟩, h.rkL, fun i l hi hr y hy => ?_, .no h.cnt ?_⟩
  · by_cases hyc : y = c
    · rw [hyc]; exact h0 i l hi hr
    · exact h.rest i l hi hr y (by omega)
  · rintro ⟨v, hv, hvc, hvz⟩
    have hlt : ∀ p, p ∈ normR L ls → p.2 < c := fun p hp => by
      obtain ⟨k, l, _, h2, _⟩ := normR_mem L ls p hp
      exact he.lt _ (List.mem_of_getElem? h2)
    have e1 : redV (normR L ls) v c = 0 := by
      refine Sp.lin (fun v => redV (normR L ls) v c) ?_ ?_ ?_ ((h.span v).2 hv)
      · show redV (normR L ls) vzero c = 0
        rw [redV_zero]; rfl
      · intro v u a
        show redV (normR L ls) (vadd v u a) c = _
        rw [redV_add]; rfl
      · rintro u ⟨l, hl, rfl⟩
        obtain ⟨i, hi⟩ := List.mem_iff_getElem?.1 hl
        by_cases hir : i < rk
        · obtain ⟨x, hx⟩ : ∃ x, ls[i]? = some x := ⟨_, List.getElem?_eq_getElem (by omega)⟩
          have hm := normR_get L ls i l x hi hx
          have := redV_ech _ hE _ hm
          obtain ⟨a, b⟩ := he.row i l x hi hx
          have e2 : vecI l = vadd vzero (newRow (vecI l) x) (vecI l x) := funext fun y => by
            unfold vadd vzero newRow
            rw [Rat.div_mul_cancel (vecI_ne a)]; grind
          show redV (normR L ls) (vecI l) c = 0
          rw [e2, redV_add, this, redV_zero]
          unfold vadd vzero; grind
        · show redV (normR L ls) (vecI l) c = 0
          rw [redV_fix _ _ (fun p hp => vecI_zero (h.rest i l hi (by omega) _ (hlt p hp)))]
          exact vecI_zero (h0 i l hi (by omega))
    rw [redV_fix _ _ (fun p hp => hvz _ (hlt p hp))] at e1
    exact hvc e1
/-- In the midst of an elimination with the row 'first'. -/
structure EMid (S : Vec → Prop) (n c rk i : Nat) (first : List Int) (L : List (List Int)) : Prop where
  span : ∀ x, Sp (InL L) x ↔ Sp S x
  len : ∀ l, l ∈ L → l.length = n
  ech : ∃ ls, ls.length = rk ∧ EchI c L ls
  rki : rk < i
  iL : i ≤ L.length
  atr : L[rk]? = some first
  fc : first.getD c 0 ≠ 0
  fz : ∀ y, y < c → first.getD y 0 = 0
  mid : ∀ (j : Nat) (l : List Int), L[j]? = some l → rk < j → j < i → ∀ y, y ≤ c → l.getD y 0 = 0
  rest : ∀ (j : Nat) (l : List Int), L[j]? = some l → i ≤ j → ∀ y, y < c → l.getD y 0 = 0
  cnt : Cnt (IsLd S) c rk
theorem EInv.pivot {S : Vec → Prop} {n c rk k : Nat} {L : List (List Int)} (h : EInv S n c rk L) {f o : List Int} (hk : L[k]? = some f) (hrk : rk ≤ k) (ho : L[rk]? = some o) (hf : f.getD c 0 ≠ 0) :
    EMid S n c rk (rk + 1) f ((L.set k o).set rk f) := by
  have hkL : k < L.length := by
    rcases Nat.lt_or_ge k L.length with h1 | h1
    · exact h1
    · rw [List.getElem?_eq_none h1] at hk; cases hk
  have hL : rk < L.length := by omega
  have hmem : ∀ l, l ∈ (L.set k o).set rk f ↔ l ∈ L := by
    intro l
    constructor
    · intro hl
      rcases List.mem_or_eq_of_mem_set hl with hl | rfl
      · rcases List.mem_or_eq_of_mem_set hl with hl | rfl
        · exact hl
        · exact List.mem_of_getElem? ho
      · exact List.mem_of_getElem? hk
    · intro hl
      obtain ⟨j, hj⟩ := List.mem_iff_getElem?.1 hl
      rw [List.mem_iff_getElem?]
      by_cases h1 : j = rk
      · refine ⟨k, ?_⟩
        rw [h1, ho] at hj
        by_cases h2 : rk = k
        · subst h2
          rw [ho] at hk
          rw [List.getElem?_set_self (by simpa using hL)]
          rw [← hj, hk]
        · rw [List.getElem?_set_ne h2, List.getElem?_set_self hkL, hj]
      · by_cases h2 : j = k
        · refine ⟨rk, ?_⟩
          rw [List.getElem?_set_self (by simpa using hL), ← hk, ← h2, hj]
        · refine ⟨j, ?_⟩
          rw [List.getElem?_set_ne (Ne.symm h1), List.getElem?_set_ne (Ne.symm h2), hj]
  have hget : ∀ j, j < rk → ((L.set k o).set rk f)[j]? = L[j]? := fun j hj => by
    rw [List.getElem?_set_ne (by omega), List.getElem?_set_ne (by omega)]
  obtain ⟨ls, hls, he⟩ := h.ech
  refine ⟨fun x => ?_, fun l hl => h.len l ((hmem l).1 hl), ⟨ls, hls, he.inc, he.lt, fun j l x h1 h2 => ?_⟩, by omega, by simp; omega, List.getElem?_set_self (by simpa using hL), hf, h.rest k f hk hrk, fun j l _ h1 h2 => by omega, fun j l hj hji y hy => ?_, h.cnt⟩
  · rw [← h.span x]
    constructor
    · exact Sp.mono fun u hu => by obtain ⟨l, hl, e⟩ := hu; exact ⟨l, (hmem l).1 hl, e⟩
    · exact Sp.mono fun u hu => by obtain ⟨l, hl, e⟩ := hu; exact ⟨l, (hmem l).2 hl, e⟩
  · have hj : j < ls.length := by
      rcases Nat.lt_or_ge j ls.length with h9 | h9
      · exact h9
      · rw [List.getElem?_eq_none h9] at h2; cases h2
    rw [hget j (by omega)] at h1
    exact he.row j l x h1 h2
  · rw [List.getElem?_set_ne (by omega)] at hj
    by_cases hjk : k = j
    · subst hjk
      rw [List.getElem?_set_self hkL] at hj
      cases hj
      exact h.rest rk o ho (Nat.le_refl _) y hy
    · rw [List.getElem?_set_ne hjk] at hj
      exact h.rest j l hj (by omega) y hy
/-- A row replaced by what the elimination makes of it. -/
theorem EMid.step {S : Vec → Prop} {n c rk i : Nat} {f l u : List Int} {g : Int} {L : List (List Int)} (h : EMid S n c rk i f L) (hi : L[i]? = some l) (hu : u.length = n) (hg : g ≠ 0) (hn : c < n)
    (he : ∀ j, j < n → u.getD j 0 * g = l.getD j 0 * f.getD c 0 - f.getD j 0 * l.getD c 0) : EMid S n c rk (i + 1) f (L.set i u) := by
  have hiL : i < L.length := by
    rcases Nat.lt_or_ge i L.length with h1 | h1
    · exact h1
    · rw [List.getElem?_eq_none h1] at hi; cases hi
  have hrki := h.rki
  have hfl := h.len f (List.mem_of_getElem? h.atr)
  have hll := h.len l (List.mem_of_getElem? hi)
  have hall : ∀ j, u.getD j 0 * g = l.getD j 0 * f.getD c 0 - f.getD j 0 * l.getD c 0 := fun j => by
    rcases Nat.lt_or_ge j n with h1 | h1
    · exact he j h1
    · have z : ∀ q : List Int, q.length = n → q.getD j 0 = 0 := fun q hq => by rw [List.getD_eq_getElem?_getD, List.getElem?_eq_none (by omega)]; rfl
      rw [z u hu, z f hfl, z l hll]; simp
  have hgq : (g : Rat) ≠ 0 := fun e => hg (Rat.intCast_eq_zero_iff.1 e)
  have hfq : (f.getD c 0 : Rat) ≠ 0 := fun e => h.fc (Rat.intCast_eq_zero_iff.1 e)
  have hq : ∀ j, vecI u j * (g : Rat) = vecI l j * (f.getD c 0 : Rat) - vecI f j * (l.getD c 0 : Rat) := fun j => by
    unfold vecI
    rw [← Rat.intCast_mul, hall j, Rat.intCast_sub, Rat.intCast_mul, Rat.intCast_mul]
  have hne : i ≠ rk := by omega
  have hfirst : (L.set i u)[rk]? = some f := by rw [List.getElem?_set_ne hne]; exact h.atr
  obtain ⟨ls, hls, hec⟩ := h.ech
  refine ⟨fun x => ?_, fun q hq => ?_, ⟨ls, hls, hec.inc, hec.lt, fun j q x h1 h2 => ?_⟩, by omega, by simp; omega, hfirst, h.fc, h.fz, fun j q h1 h2 h3 y hy => ?_, fun j q h1 h2 y hy => ?_, h.cnt⟩
  · rw [← h.span x]
    have gi := Rat.mul_inv_cancel _ hgq
    have fi := Rat.mul_inv_cancel _ hfq
    constructor
    · refine Sp.sub fun v hv => ?_
      obtain ⟨q, hqm, rfl⟩ := hv
      rcases List.mem_or_eq_of_mem_set hqm with hm | rfl
      · exact Sp.mem ⟨q, hm, rfl⟩
      · have a1 : Sp (InL L) (vecI l) := Sp.mem ⟨l, List.mem_of_getElem? hi, rfl⟩
        have a2 : Sp (InL L) (vecI f) := Sp.mem ⟨f, List.mem_of_getElem? h.atr, rfl⟩
        have a3 := Sp.less (Sp.smul a1 ((f.getD c 0 : Rat) * (g : Rat)⁻¹)) a2 ((l.getD c 0 : Rat) * (g : Rat)⁻¹)
        rwa [show vless (fun y => vecI l y * ((f.getD c 0 : Rat) * (g : Rat)⁻¹)) (vecI f) ((l.getD c 0 : Rat) * (g : Rat)⁻¹) = vecI q from funext fun y => by
          unfold vless
          have := hq y
          grind] at a3
    · refine Sp.sub fun v hv => ?_
      obtain ⟨q, hqm, rfl⟩ := hv
      have hu' : Sp (InL (L.set i u)) (vecI u) := Sp.mem ⟨u, List.mem_of_getElem? (List.getElem?_set_self hiL), rfl⟩
      have hf' : Sp (InL (L.set i u)) (vecI f) := Sp.mem ⟨f, List.mem_of_getElem? hfirst, rfl⟩
      obtain ⟨j, hj⟩ := List.mem_iff_getElem?.1 hqm
      by_cases hji : i = j
      · subst hji
        rw [hi] at hj
        cases hj
        have a3 := Sp.add (Sp.smul hu' ((g : Rat) * (f.getD c 0 : Rat)⁻¹)) hf' ((l.getD c 0 : Rat) * (f.getD c 0 : Rat)⁻¹)
        rwa [show vadd (fun y => vecI u y * ((g : Rat) * (f.getD c 0 : Rat)⁻¹)) (vecI f) ((l.getD c 0 : Rat) * (f.getD c 0 : Rat)⁻¹) = vecI l from funext fun y => by
          unfold vadd
          have := hq y
          grind] at a3
      · exact Sp.mem ⟨q, List.mem_of_getElem? (by rw [List.getElem?_set_ne hji]; exact hj), rfl⟩
  · rcases List.mem_or_eq_of_mem_set hq with hm | rfl
    · exact h.len q hm
    · exact hu
  · have hj : j < ls.length := by
      rcases Nat.lt_or_ge j ls.length with h9 | h9
      · exact h9
      · rw [List.getElem?_eq_none h9] at h2; cases h2
    rw [List.getElem?_set_ne (by omega)] at h1
    exact hec.row j q x h1 h2
  · by_cases hji : i = j
    · subst hji
      rw [List.getElem?_set_self hiL] at h1
      cases h1
      have e := hall y
      by_cases hyc : y = c
      · subst hyc
        have e2 : u.getD y 0 * g = 0 := by rw [e, Int.mul_comm]; omega
        rcases Int.mul_eq_zero.1 e2 with h9 | h9
        · exact h9
        · exact absurd h9 hg
      · rw [h.fz y (by omega), h.rest i l hi (Nat.le_refl _) y (by omega)] at e
        have e2 : u.getD y 0 * g = 0 := by rw [e]; simp
        rcases Int.mul_eq_zero.1 e2 with h9 | h9
        · exact h9
        · exact absurd h9 hg
    · rw [List.getElem?_set_ne hji] at h1
      exact h.mid j q h1 h2 (by omega) y hy
  · rw [List.getElem?_set_ne (by omega)] at h1
    exact h.rest j q h1 (by omega) y hy
theorem EMid.done {S : Vec → Prop} {n c rk : Nat} {f : List Int} {L : List (List Int)} (h : EMid S n c rk L.length f L) : EInv S n (c + 1) (rk + 1) L := by
  obtain ⟨ls, hls, he⟩ := h.ech
  have hrk := h.rki
  have hfirst := h.atr
  refine ⟨h.span, h.len, ⟨ls ++ [c], by simp [hls], ?_, ?_, ?_⟩, by omega, fun i l hi hr y hy => ?_, .yes h.cnt ⟨vecI f, (h.span _).1 (Sp.mem ⟨f, List.mem_of_getElem? h.atr, rfl⟩), vecI_ne h.fc, fun x hx => vecI_zero (h.fz x hx)⟩⟩
  · rw [List.pairwise_append]
    exact ⟨he.inc, List.pairwise_singleton _ _, fun a ha b hb => by rw [List.mem_singleton.1 hb]; exact he.lt a ha⟩
  · intro x hx
    rcases List.mem_append.1 hx with hx | hx
    · have := he.lt x hx; omega
    · rw [List.mem_singleton.1 hx]; omega
  · intro k l x h1 h2
    by_cases hk : k < ls.length
    · rw [List.getElem?_append_left hk] at h2
      exact he.row k l x h1 h2
    · rw [List.getElem?_append_right (by omega)] at h2
      have hk2 : k = rk := by
        rcases Nat.lt_or_ge (k - ls.length) 1 with h9 | h9
        · omega
        · rw [List.getElem?_eq_none (by simpa using h9)] at h2; cases h2
      subst hk2
      rw [show k - ls.length = 0 by omega] at h2
      simp at h2
      subst h2
      rw [hfirst] at h1
      cases h1
      exact ⟨h.fc, h.fz⟩
  · have hil : i < L.length := by
      rcases Nat.lt_or_ge i L.length with h9 | h9
      · exact h9
      · rw [List.getElem?_eq_none h9] at hi; cases hi
    exact h.mid i l hi (by omega) hil y (by omega)
theorem EInv.start {n : Nat} {L : List (List Int)} (h : ∀ l, l ∈ L → l.length = n) : EInv (InL L) n 0 0 L :=
  ⟨fun _ => Iff.rfl, h, ⟨[], rfl, by simp, by simp, by simp⟩, Nat.zero_le _, fun _ _ _ _ y hy => by omega, .zero⟩
/-- The number of leads is the rank; a vector that does not raise it lies in the span. -/
def RankN (S : Vec → Prop) (n k : Nat) : Prop := Cnt (IsLd S) n k
/-- Each row of reduced rows is 0 before its lead. -/
def RedZ (R : Lds) : Prop := ∀ p, p ∈ R → ∀ y, y < p.2 → p.1 y = 0
theorem redV_front (R : Lds) (c : Nat) : RedZ R → (∀ p, p ∈ R → p.2 ≠ c) → ∀ v : Vec, (∀ x, x < c → v x = 0) → redV R v c = v c := by
  induction R with
  | nil => intro _ _ v _; rfl
  | cons p R ih =>
    obtain ⟨r, l⟩ := p
    intro hz hn v hv
    have z0 : ∀ y, y < l → r y = 0 := hz (r, l) List.mem_cons_self
    have n0 : l ≠ c := hn (r, l) List.mem_cons_self
    unfold redV
    have e : ∀ y, y ≤ c → vless v r (v l) y = v y := fun y hy => by
      unfold vless
      rcases Nat.lt_or_ge l c with h1 | h1
      · rw [hv l h1]; grind
      · rw [z0 y (by omega)]; grind
    rw [ih (fun p hp => hz p (List.mem_cons_of_mem _ hp)) (fun p hp => hn p (List.mem_cons_of_mem _ hp)) _ (fun x hx => by rw [e x (by omega)]; exact hv x hx), e c (Nat.le_refl _)]
theorem addV_redZ {n : Nat} {R : Lds} (h : RedZ R) (hr : Red R) (v : Vec) : RedZ (addV n R v) := by
  unfold addV
  cases hl : leadOf (redV R v) 0 n with
  | none => exact h
  | some l =>
    obtain ⟨_, _, h3, h4⟩ := leadOf_some _ _ _ _ hl
    have hrow : ∀ y, y < l → newRow (redV R v) l y = 0 := fun y hy => by unfold newRow; rw [h4 y (by omega) hy]; grind
    intro p hp y hy
    rcases List.mem_append.1 hp with hp | hp
    · obtain ⟨q, hq, rfl⟩ := List.mem_map.1 hp
      simp only [vless] at hy ⊢
      have e1 := h q hq y hy
      rcases Nat.lt_or_ge y l with h1 | h1
      · rw [hrow y h1, e1]; grind
      · rw [e1, h q hq l (by omega)]; grind
    · rw [List.mem_singleton.1 hp] at hy ⊢
      exact hrow y hy
/-- The rank grows by a vector if and only if it is not in the span. -/
theorem rank_iff {S : Vec → Prop} {R : Lds} {n k j : Nat} {v : Vec} (hR : Red R) (hz : RedZ R) (hs : ∀ p, p ∈ R → Supp n p.1) (hv : Supp n v) (hSp : ∀ x, Sp (InR R) x ↔ Sp S x) (h1 : RankN S n k) (h2 : RankN (fun u => S u ∨ u = v) n j) : j = k ↔ Sp S v := by
  have hmono : ∀ x, Sp S x → Sp (fun u => S u ∨ u = v) x := fun x => Sp.mono fun u hu => .inl hu
  constructor
  · intro e
    have hle := (Cnt.le (fun c hc => IsLd.mono hmono hc) h1 h2).2 e.symm
    rw [← hSp, redV_iff hR]
    refine funext fun c => ?_
    show redV R v c = 0
    by_cases hex : ∃ l, leadOf (redV R v) 0 n = some l
    · exfalso
      obtain ⟨l, hl⟩ := hex
      obtain ⟨_, b, h3, h4⟩ := leadOf_some _ _ _ _ hl
      have hyS : Sp (fun u => S u ∨ u = v) (redV R v) := by
        have a1 := hmono _ ((hSp _).1 (redV_span R v))
        have a2 := Sp.less (Sp.mem (S := fun u => S u ∨ u = v) (u := v) (.inr rfl)) a1 1
        rwa [show vless v (vless v (redV R v) 1) 1 = redV R v from funext fun y => by unfold vless; grind] at a2
      obtain ⟨x, x1, x2, x3⟩ := hle l (by omega) ⟨redV R v, hyS, h3, fun y hy => h4 y (by omega) hy⟩
      have hx0 := (redV_iff hR x).1 ((hSp x).2 x1)
      by_cases hin : ∃ p, p ∈ R ∧ p.2 = l
      · obtain ⟨p, hp, rfl⟩ := hin
        exact h3 (redV_lead R hR v p hp)
      · have := redV_front R l hz (fun p hp e => hin ⟨p, hp, e⟩) x x3
        rw [hx0] at this
        exact x2 this.symm
    · have hnone : leadOf (redV R v) 0 n = none := by
        cases h9 : leadOf (redV R v) 0 n with
        | none => rfl
        | some l => exact absurd ⟨l, h9⟩ hex
      rcases Nat.lt_or_ge c n with h9 | h9
      · exact (leadOf_none _ _ _).1 hnone c (by omega) (by omega)
      · exact redV_supp R v hs hv c h9
  · intro hSv
    refine Cnt.eq (fun c => ⟨fun hc => IsLd.mono (fun x hx => Sp.sub (fun u hu => ?_) hx) hc, fun hc => IsLd.mono hmono hc⟩) h2 h1
    rcases hu with hu | rfl
    · exact Sp.mem hu
    · exact hSv
end Go.Proofs.Ytkoidookanmknaa
