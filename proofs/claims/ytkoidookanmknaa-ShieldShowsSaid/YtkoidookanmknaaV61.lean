/- shield.Show: the plain law of the change that it shows. -/
import Derived.Test.YtkoidookanmknaaV60
namespace Go.Proofs.Ytkoidookanmknaa
set_option linter.unusedSimpArgs false
set_option linter.unusedVariables false
open Go.RowKit

/-- The change behind k rows. -/
def outV (R : Lds) (free : Nat) : Nat → Vec
  | 0 => fun c => if c = free then 1 else 0
  | k + 1 => fun c => if c = (R.getD k (vzero, 0)).2 then 0 - (R.getD k (vzero, 0)).1 free else outV R free k c
theorem ldsD_lt {R : Lds} {k : Nat} (hk : k < R.length) : R.getD k (vzero, 0) = R[k] := by simp [List.getD_eq_getElem?_getD, hk]
theorem lead_inj {R : Lds} (h : Red R) {j k : Nat} (hj : j < R.length) (hk : k < R.length) (e : (R.getD j (vzero, 0)).2 = (R.getD k (vzero, 0)).2) : j = k := by
  rw [ldsD_lt hj, ldsD_lt hk] at e
  have hp := List.pairwise_iff_getElem.1 h.2
  rcases Nat.lt_trichotomy j k with h1 | h1 | h1
  · have h2 := (hp j k hj hk h1).1
    rw [← e, h.1 _ (List.getElem_mem hj)] at h2
    exact absurd h2 (by decide)
  · exact h1
  · have h2 := (hp k j hk hj h1).1
    rw [e, h.1 _ (List.getElem_mem hk)] at h2
    exact absurd h2 (by decide)
theorem outV_other {R : Lds} {free c : Nat} : ∀ k, (∀ j, j < k → (R.getD j (vzero, 0)).2 ≠ c) → outV R free k c = if c = free then 1 else 0
  | 0, _ => rfl
  | k + 1, h => by
    have ih := outV_other (R := R) (free := free) (c := c) k (fun j hj => h j (by omega))
    unfold outV
    rw [if_neg (fun e => h k (by omega) e.symm)]
    exact ih
theorem outV_lead {R : Lds} (h : Red R) {free : Nat} : ∀ k, k ≤ R.length → ∀ j, j < k → outV R free k (R.getD j (vzero, 0)).2 = 0 - (R.getD j (vzero, 0)).1 free
  | 0, _, j, hj => absurd hj (by omega)
  | k + 1, hk, j, hj => by
    unfold outV
    by_cases e : j = k
    · subst e; simp
    · have hne : (R.getD j (vzero, 0)).2 ≠ (R.getD k (vzero, 0)).2 := fun e2 => e (lead_inj h (by omega) (by omega) e2)
      simp only [if_neg hne]
      exact outV_lead h k (by omega) j (by omega)
def dotR (u o : Vec) : Nat → Rat
  | 0 => 0
  | n + 1 => dotR u o n + u n * o n
theorem dot_zero (o : Vec) : ∀ n, dotR vzero o n = 0
  | 0 => rfl
  | n + 1 => by unfold dotR; rw [dot_zero o n]; unfold vzero; grind
theorem dot_add (v u o : Vec) (a : Rat) : ∀ n, dotR (vadd v u a) o n = dotR v o n + dotR u o n * a
  | 0 => by unfold dotR; grind
  | n + 1 => by unfold dotR; rw [dot_add v u o a n]; unfold vadd; grind
theorem dot_two {u o : Vec} {a b : Nat} {x y : Rat} : ∀ n, (∀ c, c < n → u c * o c = (if c = a then x else 0) + (if c = b then y else 0)) → dotR u o n = (if a < n then x else 0) + (if b < n then y else 0)
  | 0, _ => by unfold dotR; simp; grind
  | n + 1, h => by
    unfold dotR
    rw [dot_two (u := u) (o := o) (a := a) (b := b) (x := x) (y := y) n (fun c hc => h c (by omega)), h n (by omega)]
    have e1 : (if a < n + 1 then x else 0) = (if a < n then x else 0) + (if n = a then x else 0) := by
      by_cases h1 : n = a
      · rw [if_pos (by omega), if_neg (by omega), if_pos h1]; grind
      · by_cases h2 : a < n
        · rw [if_pos (by omega), if_pos h2, if_neg h1]; grind
        · rw [if_neg (by omega), if_neg h2, if_neg h1]; grind
    have e2 : (if b < n + 1 then y else 0) = (if b < n then y else 0) + (if n = b then y else 0) := by
      by_cases h1 : n = b
      · rw [if_pos (by omega), if_neg (by omega), if_pos h1]; grind
      · by_cases h2 : b < n
        · rw [if_pos (by omega), if_pos h2, if_neg h1]; grind
        · rw [if_neg (by omega), if_neg h2, if_neg h1]; grind
    rw [e1, e2]; grind
theorem dot_upd {u u' o : Vec} {x : Nat} (h0 : u x = 0) (h : ∀ c, u' c = if c = x then 1 else u c) : ∀ n, dotR u' o n = dotR u o n + if x < n then o x else 0
  | 0 => by unfold dotR; simp; grind
  | n + 1 => by
    unfold dotR
    rw [dot_upd h0 h n, h n]
    by_cases h1 : n = x
    · subst h1
      rw [if_pos rfl, if_neg (by omega), if_pos (by omega), h0]; grind
    · by_cases h2 : x < n
      · rw [if_neg h1, if_pos h2, if_pos (by omega)]; grind
      · rw [if_neg h1, if_neg h2, if_neg (by omega)]; grind
/-- A row of the solver annihilates the change. -/
theorem dot_row {R : Lds} (h : Red R) {free n : Nat} (hn : free < n) (hl : ∀ p, p ∈ R → p.2 < n) (hf : ∀ p, p ∈ R → p.2 ≠ free) {p : Vec × Nat} (hp : p ∈ R) : dotR p.1 (outV R free R.length) n = 0 := by
  obtain ⟨k, hk, rfl⟩ := List.getElem_of_mem hp
  have e0 := outV_lead h (free := free) R.length (Nat.le_refl _) k hk
  rw [ldsD_lt hk] at e0
  have hff : outV R free R.length free = 1 := by
    rw [outV_other R.length (fun j hj e => hf _ (by rw [ldsD_lt hj] at e; exact List.getElem_mem hj) (by rw [← ldsD_lt hj]; exact e)), if_pos rfl]
  have key := dot_two (u := R[k].1) (o := outV R free R.length) (a := free) (b := R[k].2) (x := R[k].1 free) (y := 0 - R[k].1 free) n (fun c hc => by
    by_cases h1 : c = R[k].2
    · rw [if_neg (fun e => hf _ hp (by rw [← h1, e])), if_pos h1, h1, e0, h.1 _ hp]; grind
    · rw [if_neg h1]
      by_cases h2 : c = free
      · rw [if_pos h2, h2, hff]; grind
      · rw [if_neg h2]
        by_cases h3 : ∃ j, j < R.length ∧ (R.getD j (vzero, 0)).2 = c
        · obtain ⟨j, hj, rfl⟩ := h3
          have hjk : j ≠ k := fun e => h1 (by subst e; rw [ldsD_lt hj])
          have hz : R[k].1 (R.getD j (vzero, 0)).2 = 0 := by
            rw [ldsD_lt hj]
            have hpw := List.pairwise_iff_getElem.1 h.2
            rcases Nat.lt_or_gt_of_ne hjk with h4 | h4
            · exact (hpw j k hj hk h4).2
            · exact (hpw k j hk hj h4).1
          rw [hz]; grind
        · rw [outV_other R.length (fun j hj e => h3 ⟨j, hj, e⟩), if_neg h2]; grind)
  rw [key, if_pos hn, if_pos (hl _ hp)]; grind
/-- What is left of a vector does not. -/
theorem dot_rest {R : Lds} (h : Red R) {free n : Nat} (hn : free < n) {v : Vec} (hv : redV R v free ≠ 0) : dotR (redV R v) (outV R free R.length) n = redV R v free := by
  have hne : ∀ j, j < R.length → (R.getD j (vzero, 0)).2 ≠ free := fun j hj e => hv (by rw [← e, ldsD_lt hj]; exact redV_lead R h v _ (List.getElem_mem hj))
  have hff : outV R free R.length free = 1 := by
    rw [outV_other R.length (fun j hj e => hne j hj e), if_pos rfl]
  have key := dot_two (u := redV R v) (o := outV R free R.length) (a := free) (b := n) (x := redV R v free) (y := 0) n (fun c hc => by
    rw [if_neg (show ¬ c = n by omega)]
    by_cases h2 : c = free
    · rw [if_pos h2, h2, hff]; grind
    · rw [if_neg h2]
      by_cases h3 : ∃ j, j < R.length ∧ (R.getD j (vzero, 0)).2 = c
      · obtain ⟨j, hj, rfl⟩ := h3
        rw [ldsD_lt hj, redV_lead R h v _ (List.getElem_mem hj)]; grind
      · rw [outV_other R.length (fun j hj e => h3 ⟨j, hj, e⟩), if_neg h2]; grind)
  rw [key, if_pos hn, if_neg (by omega)]; grind
/-- The sum of a change over a set, as a product. -/
theorem sum_dot {l : List Int} {n : Nat} (o : Vec) (h0 : ∀ k, k < l.length → 0 ≤ l.getD k 0 ∧ l.getD k 0 < (n : Int)) (hs : ∀ j k, j < k → k < l.length → l.getD j 0 ≠ l.getD k 0) : ∀ k, k ≤ l.length → sumV o l k = dotR (rowV (l.take k)) o n
  | 0, _ => by
    have : rowV (l.take 0) = vzero := by funext c; rw [List.take_zero, rowV_nil]; rfl
    rw [this, dot_zero]; rfl
  | k + 1, hk => by
    have ih := sum_dot o h0 hs k (by omega)
    obtain ⟨x, hx⟩ : ∃ x : Nat, l.getD k 0 = (x : Int) := ⟨(l.getD k 0).toNat, by have := (h0 k (by omega)).1; omega⟩
    have hxn : x < n := by have := (h0 k (by omega)).2; omega
    have hg : l[k]? = some (x : Int) := by rw [← hx, List.getD_eq_getElem?_getD, List.getElem?_eq_getElem (by omega)]; rfl
    have hz : rowV (l.take k) x = 0 := by
      unfold rowV
      rw [if_neg]
      intro hm
      obtain ⟨j, hj, e⟩ := List.getElem_of_mem hm
      rw [List.length_take] at hj
      rw [List.getElem_take] at e
      refine hs j k (by omega) (by omega) ?_
      rw [hx, ← e, List.getD_eq_getElem?_getD, List.getElem?_eq_getElem (by omega)]; rfl
    show sumV o l k + o (l.getD k 0).toNat = _
    rw [dot_upd hz (fun c => rowV_snoc l k c x hg) n, if_pos hxn, ih, hx, Int.toNat_natCast]
/-- The change's numbers have one small denominator. -/
theorem outV_rep {R : Lds} {d M : Nat} (h : Rep R d M) (free : Nat) : ∀ k, k ≤ R.length → ∀ c, ∃ A : Int, outV R free k c * (d : Rat) = (A : Rat) ∧ A.natAbs ≤ M
  | 0, _, c => by
    unfold outV
    have h1 := h.dM
    split
    · exact ⟨(d : Int), by rw [Rat.one_mul]; rfl, by omega⟩
    · exact ⟨0, by simp, by simp⟩
  | k + 1, hk, c => by
    unfold outV
    split
    · rw [ldsD_lt (by omega)]
      obtain ⟨A, a, b⟩ := h.num _ (List.getElem_mem (show k < R.length by omega)) free
      refine ⟨-A, ?_, by omega⟩
      rw [Rat.intCast_neg, ← a]; grind
    · exact outV_rep h free k (by omega) c
theorem sum_rep {o : Vec} {d M : Nat} (h : ∀ c, ∃ A : Int, o c * (d : Rat) = (A : Rat) ∧ A.natAbs ≤ M) (l : List Int) : ∀ j, ∃ A : Int, sumV o l j * (d : Rat) = (A : Rat) ∧ A.natAbs ≤ j * M
  | 0 => ⟨0, by unfold sumV; simp, by simp⟩
  | j + 1 => by
    obtain ⟨A, a, b⟩ := sum_rep h l j
    obtain ⟨C, c, e⟩ := h (l.getD j 0).toNat
    refine ⟨A + C, ?_, ?_⟩
    · unfold sumV
      rw [Rat.intCast_add, ← a, ← c]; grind
    · rw [Nat.succ_mul]; omega
/-- The law of Show. -/
theorem show_law {n : Nat} {Ls : List (List Int)} {zs : List Int} {hs : List Bool} (hv : validE n Ls zs = 0) (hf : FewOK Ls) (hl : ∀ k, (Ls.getD k []).length ≤ 13)
    (hnd : ∀ q, q < Ls.length → ∀ j k, j < k → k < (Ls.getD q []).length → (Ls.getD q []).getD j 0 ≠ (Ls.getD q []).getD k 0)
    (hlt : ∀ p, p ∈ solveR n Ls hs Ls.length → p.2 < n) {set free : Nat} (hset : set < Ls.length) (hfn : free < n) (hfree : redV (solveR n Ls hs Ls.length) (rowV (Ls.getD set [])) free ≠ 0) :
    let o := outV (solveR n Ls hs Ls.length) free (solveR n Ls hs Ls.length).length
    (∀ q, q < Ls.length → hs.getD q false = false → sumV o (Ls.getD q []) (Ls.getD q []).length = 0) ∧ sumV o (Ls.getD set []) (Ls.getD set []).length ≠ 0 ∧
    (∀ q j, j ≤ (Ls.getD q []).length → SmB BB (sumV o (Ls.getD q []) j)) ∧ ∀ c, SmB BB (o c) := by
  obtain ⟨_, _, _, _, v5⟩ := validE_of hv
  have hcell : ∀ q, q < Ls.length → ∀ k, k < (Ls.getD q []).length → 0 ≤ (Ls.getD q []).getD k 0 ∧ (Ls.getD q []).getD k 0 < (n : Int) := fun q hq k hk => by
    have := (item_cells (v5 q hq)).2 k hk; omega
  have hc : ∀ k x, x ∈ Ls.getD k [] → x < (n : Int) := fun k x hx => by
    rcases Nat.lt_or_ge k Ls.length with hk | hk
    · obtain ⟨j, hj, rfl⟩ := List.getElem_of_mem hx
      have := (hcell k hk j hj).2
      rwa [getD_get hj] at this
    · rw [List.getD_eq_getElem?_getD, List.getElem?_eq_none hk] at hx
      cases hx
  have hok := solve_ok hs hf hc Ls.length (Nat.le_refl _)
  have hsp := solve_span hs hf hc Ls.length (Nat.le_refl _)
  obtain ⟨R, hR⟩ : ∃ R, solveR n Ls hs Ls.length = R := ⟨_, rfl⟩
  rw [hR] at hok hsp hlt hfree ⊢
  dsimp only
  have hne : ∀ p, p ∈ R → p.2 ≠ free := fun p hp e => hfree (by rw [← e]; exact redV_lead R hok.red _ p hp)
  have lin : ∀ {u : Vec}, Sp (InR R) u → dotR u (outV R free R.length) n = 0 := fun hu => Sp.lin (fun u => dotR u (outV R free R.length) n) (dot_zero _ n) (fun v u a => dot_add v u _ a n) (fun u ⟨p, hp, e⟩ => by rw [← e]; exact dot_row hok.red hfn hlt hne hp) hu
  have hdot : ∀ q, q < Ls.length → sumV (outV R free R.length) (Ls.getD q []) (Ls.getD q []).length = dotR (rowV (Ls.getD q [])) (outV R free R.length) n := fun q hq => by
    rw [sum_dot _ (hcell q hq) (hnd q hq) _ (Nat.le_refl _), List.take_length]
  obtain ⟨d, hd⟩ := hok.sol.rep
  have hM := MB_mono hok.le12
  have hm1 := MB_pos 12
  have hB : BB = 13 * MB 12 := by unfold BB; rfl
  refine ⟨fun q hq hp => ?_, ?_, fun q j hj => ?_, fun c => ?_⟩
  · rw [hdot q hq]
    exact lin ((hsp _).2 (Sp.mem ⟨q, hq, hp, rfl⟩))
  · rw [hdot set hset]
    have h1 := lin (redV_span R (rowV (Ls.getD set [])))
    have h2 := dot_rest hok.red hfn hfree
    obtain ⟨y, hy⟩ : ∃ y, redV R (rowV (Ls.getD set [])) = y := ⟨_, rfl⟩
    rw [hy] at h1 h2 hfree
    have h3 : dotR (vless (rowV (Ls.getD set [])) y 1) (outV R free R.length) n = dotR (rowV (Ls.getD set [])) (outV R free R.length) n + dotR y (outV R free R.length) n * (-1) := by
      rw [← dot_add]
      congr 1
      funext c
      unfold vless vadd
      grind
    rw [h3, h2] at h1
    intro e
    rw [e] at h1
    exact hfree (by grind)
  · obtain ⟨A, a, b⟩ := sum_rep (outV_rep hd free R.length (Nat.le_refl _)) (Ls.getD q []) j
    have h1 := hd.dM
    have h2 : j * MB R.length ≤ 13 * MB 12 := Nat.mul_le_mul (by have := hl q; omega) hM
    exact smb_of hd.d1 (by omega) a (by omega)
  · obtain ⟨A, a, b⟩ := outV_rep hd free R.length (Nat.le_refl _) c
    have h1 := hd.dM
    exact smb_of hd.d1 (by omega) a (by omega)
end Go.Proofs.Ytkoidookanmknaa
