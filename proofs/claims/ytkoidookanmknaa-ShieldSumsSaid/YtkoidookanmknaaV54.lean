/- ShieldSums: plain laws. -/
import Derived.Test.YtkoidookanmknaaV30
import Derived.Test.YtkoidookanmknaaV27
namespace Go.Proofs.Ytkoidookanmknaa
set_option linter.unusedSimpArgs false
set_option linter.unusedVariables false
open Go.RowKit

/-- A division of the first i cells in two sets; all of them. -/
structure Par (n i : Nat) (A B C : List Int) : Prop where
  a : SetOK i A
  b : SetOK i B
  c : SetOK i C
  inC : ∀ x : Nat, x < i → (x : Int) ∈ C
  one : ∀ x : Nat, x < i → ((x : Int) ∈ A ∧ ¬ (x : Int) ∈ B) ∨ (¬ (x : Int) ∈ A ∧ (x : Int) ∈ B)
  first : 0 < i → (0 : Int) ∈ A
  last : n - 1 < i → ((n - 1 : Nat) : Int) ∈ B
theorem Par.start (n : Nat) (hn : 2 ≤ n) : Par n 0 [] [] [] :=
  ⟨SetOK.nil _, SetOK.nil _, SetOK.nil _, fun x h => absurd h (by omega), fun x h => absurd h (by omega), fun h => absurd h (by omega), fun h => absurd h (by omega)⟩
theorem SetOK.not {i : Nat} {A : List Int} (h : SetOK i A) : ¬ (i : Int) ∈ A := fun hm => by have := (h.2 _ hm).2; omega
theorem SetOK.addN {i : Nat} {A : List Int} (h : SetOK i A) : SetOK ((i + 1 : Nat) : Int) (A ++ [(i : Int)]) := by
  rw [show ((i + 1 : Nat) : Int) = (i : Int) + 1 by omega]
  exact h.add (by omega)
theorem SetOK.upN {i : Nat} {A : List Int} (h : SetOK i A) : SetOK ((i + 1 : Nat) : Int) A := h.up (by omega)
theorem Par.left {n i : Nat} {A B C : List Int} (h : Par n i A B C) (hn : 2 ≤ n) (hi : i = 0 ∨ i < n - 1) : Par n (i + 1) (A ++ [(i : Int)]) B (C ++ [(i : Int)]) :=
  ⟨h.a.addN, h.b.upN, h.c.addN, fun x hx => by
    by_cases e : x = i
    · subst e; simp
    · exact List.mem_append.2 (.inl (h.inC x (by omega))), fun x hx => by
    by_cases e : x = i
    · subst e; exact .inl ⟨by simp, h.b.not⟩
    · rcases h.one x (by omega) with ⟨h1, h2⟩ | ⟨h1, h2⟩
      · exact .inl ⟨List.mem_append.2 (.inl h1), h2⟩
      · refine .inr ⟨fun hm => ?_, h2⟩
        rcases List.mem_append.1 hm with hm | hm
        · exact h1 hm
        · rw [List.mem_singleton] at hm; omega, fun _ => by
    by_cases e : i = 0
    · subst e; simp
    · exact List.mem_append.2 (.inl (h.first (by omega))), fun hl => by omega⟩
theorem Par.right {n i : Nat} {A B C : List Int} (h : Par n i A B C) (hi : 0 < i) (hn : i < n) : Par n (i + 1) A (B ++ [(i : Int)]) (C ++ [(i : Int)]) :=
  ⟨h.a.upN, h.b.addN, h.c.addN, fun x hx => by
    by_cases e : x = i
    · subst e; simp
    · exact List.mem_append.2 (.inl (h.inC x (by omega))), fun x hx => by
    by_cases e : x = i
    · subst e; exact .inr ⟨h.a.not, by simp⟩
    · rcases h.one x (by omega) with ⟨h1, h2⟩ | ⟨h1, h2⟩
      · refine .inl ⟨h1, fun hm => ?_⟩
        rcases List.mem_append.1 hm with hm | hm
        · exact h2 hm
        · rw [List.mem_singleton] at hm; omega
      · exact .inr ⟨h1, List.mem_append.2 (.inl h2)⟩, fun _ => h.first hi, fun hl => by
    have : i = n - 1 := by omega
    subst this; simp⟩
theorem Par.sum {n : Nat} {A B C : List Int} (h : Par n n A B C) (c : Nat) : rowV C c = rowV A c + rowV B c := by
  unfold rowV
  by_cases hc : c < n
  · rw [if_pos (h.inC c hc)]
    rcases h.one c hc with ⟨h1, h2⟩ | ⟨h1, h2⟩
    · rw [if_pos h1, if_neg h2]; grind
    · rw [if_neg h1, if_pos h2]; grind
  · rw [if_neg (fun hm => by have := (h.c.2 _ hm).2; omega), if_neg (fun hm => by have := (h.a.2 _ hm).2; omega), if_neg (fun hm => by have := (h.b.2 _ hm).2; omega)]; grind
theorem Par.at0 {n : Nat} {A B C : List Int} (h : Par n n A B C) (hn : 2 ≤ n) : rowV A 0 = 1 ∧ rowV B 0 = 0 ∧ rowV C 0 = 1 := by
  have h1 := h.first (by omega)
  have h2 := h.inC 0 (by omega)
  rcases h.one 0 (by omega) with ⟨_, h3⟩ | ⟨h3, _⟩
  · exact ⟨if_pos h1, if_neg h3, if_pos h2⟩
  · exact absurd h1 h3
theorem Par.atN {n : Nat} {A B C : List Int} (h : Par n n A B C) (hn : 2 ≤ n) : rowV A (n - 1) = 0 ∧ rowV B (n - 1) = 1 ∧ rowV C (n - 1) = 1 := by
  have h1 := h.last (by omega)
  have h2 := h.inC (n - 1) (by omega)
  rcases h.one (n - 1) (by omega) with ⟨_, h3⟩ | ⟨h3, _⟩
  · exact absurd h1 h3
  · exact ⟨if_neg h3, if_pos h1, if_pos h2⟩
def h1of (i : Nat) : List Bool := [false, false, false].set i true
def h2of (i : Nat) : List Bool := (h1of i).set ((i + 1) % 3) true
theorem par_yes {n : Nat} {A B C : List Int} (h : Par n n A B C) (i : Nat) (hi : i < 3) : dB [A, B, C] (h1of i) i = true := by
  rw [dB_iff]
  unfold Det
  have h3 : i = 0 ∨ i = 1 ∨ i = 2 := by omega
  have pub : ∀ k, k < 3 → (h1of i).getD k false = false → Sp (Pub [A, B, C] (h1of i) 3) (rowV ([A, B, C].getD k [])) := fun k hk hp => Sp.mem ⟨k, hk, hp, rfl⟩
  rcases h3 with rfl | rfl | rfl
  · have e : rowV A = vless (rowV C) (rowV B) 1 := funext fun c => by unfold vless; rw [h.sum c]; grind
    show Sp _ (rowV A)
    rw [e]
    exact Sp.less (pub 2 (by omega) rfl) (pub 1 (by omega) rfl) 1
  · have e : rowV B = vless (rowV C) (rowV A) 1 := funext fun c => by unfold vless; rw [h.sum c]; grind
    show Sp _ (rowV B)
    rw [e]
    exact Sp.less (pub 2 (by omega) rfl) (pub 0 (by omega) rfl) 1
  · have e : rowV C = vadd (rowV A) (rowV B) 1 := funext fun c => by unfold vadd; rw [h.sum c]; grind
    show Sp _ (rowV C)
    rw [e]
    exact Sp.add (pub 0 (by omega) rfl) (pub 1 (by omega) rfl) 1
theorem par_no {n : Nat} {A B C : List Int} (h : Par n n A B C) (hn : 2 ≤ n) (i : Nat) (hi : i < 3) : dB [A, B, C] (h2of i) i = false := by
  cases hd : dB [A, B, C] (h2of i) i with
  | false => rfl
  | true =>
    exfalso
    rw [dB_iff] at hd
    unfold Det at hd
    obtain ⟨a0, b0, c0⟩ := h.at0 hn
    obtain ⟨aN, bN, cN⟩ := h.atN hn
    have h3 : i = 0 ∨ i = 1 ∨ i = 2 := by omega
    rcases h3 with rfl | rfl | rfl
    · have := Sp.lin (fun v => v 0 - v (n - 1)) (by unfold vzero; grind) (fun v u a => by unfold vadd; grind) (fun u ⟨k, hk, hp, e⟩ => by
        subst e
        have hk2 : k = 2 := by
          have : k = 0 ∨ k = 1 ∨ k = 2 := by simp at hk; omega
          rcases this with rfl | rfl | rfl
          · cases hp
          · cases hp
          · rfl
        subst hk2
        show rowV C 0 - rowV C (n - 1) = 0
        rw [c0, cN]; grind) hd
      have e : rowV A 0 - rowV A (n - 1) = 0 := this
      rw [a0, aN] at e
      exact absurd e (by decide +kernel)
    · have := Sp.lin (fun v => v (n - 1)) (by rfl) (fun v u a => by unfold vadd; rfl) (fun u ⟨k, hk, hp, e⟩ => by
        subst e
        have hk2 : k = 0 := by
          have : k = 0 ∨ k = 1 ∨ k = 2 := by simp at hk; omega
          rcases this with rfl | rfl | rfl
          · rfl
          · cases hp
          · cases hp
        subst hk2
        exact aN) hd
      have e : rowV B (n - 1) = 0 := this
      rw [bN] at e
      exact absurd e (by decide +kernel)
    · have := Sp.lin (fun v => v 0) (by rfl) (fun v u a => by unfold vadd; rfl) (fun u ⟨k, hk, hp, e⟩ => by
        subst e
        have hk2 : k = 1 := by
          have : k = 0 ∨ k = 1 ∨ k = 2 := by simp at hk; omega
          rcases this with rfl | rfl | rfl
          · cases hp
          · rfl
          · cases hp
        subst hk2
        exact b0) hd
      have e : rowV C 0 = 0 := this
      rw [c0] at e
      exact absurd e (by decide +kernel)
/-- The table: its cells, rows, columns and the total. -/
def sngL (i : Nat) : List (List Int) := (List.range i).map fun k : Nat => [(k : Int)]
def rowL (i : Nat) : List (List Int) := (List.range i).map fun k : Nat => [4 * (k : Int), 4 * (k : Int) + 1, 4 * (k : Int) + 2, 4 * (k : Int) + 3]
def colL (i : Nat) : List (List Int) := (List.range i).map fun k : Nat => [(k : Int), 4 + (k : Int), 8 + (k : Int)]
def totL : List Int := [0, 1, 2, 3, 4, 5, 6, 7, 8, 9, 10, 11]
def tabL : List (List Int) := sngL 12 ++ rowL 3 ++ colL 4 ++ [totL]
def oneF (x y : Nat) (k : Nat) : Bool := decide ((k : Int) = 4 * (x : Int) + (y : Int))
def fourF (x y : Nat) (k : Nat) : Bool := (decide (k / 4 = x) || decide (k / 4 = (x + 1) % 3)) && (decide (k % 4 = y) || decide (k % 4 = (y + 1) % 4))
def hidT (P : Nat → Bool) (i : Nat) : List Bool := (List.range 20).map fun k => decide (k < i) && P k
theorem hidT_zero (P : Nat → Bool) : hidT P 0 = List.replicate 20 false := by unfold hidT; simp; rfl
theorem hidT_len (P : Nat → Bool) (i : Nat) : (hidT P i).length = 20 := by simp [hidT]
theorem hidT_get (P : Nat → Bool) (i k : Nat) (hk : k < 20) : (hidT P i).getD k false = (decide (k < i) && P k) := by simp [hidT, hk]
theorem hidT_succ (P : Nat → Bool) (i : Nat) (hi : i < 20) : (hidT P i).set i (P i) = hidT P (i + 1) := by
  apply List.ext_getElem (by simp [hidT])
  intro k h1 h2
  have hk : k < 20 := by simpa [hidT] using h2
  rw [List.getElem_set]
  by_cases e : i = k
  · subst e; simp [hidT]
  · rw [if_neg e]
    simp only [hidT, List.getElem_map, List.getElem_range]
    rw [show decide (k < i + 1) = decide (k < i) by apply decide_eq_decide.2; omega]
theorem tab_len : tabL.length = 20 := by decide
theorem tab_lt (k : Nat) (x : Int) (hx : x ∈ tabL.getD k []) : 0 ≤ x ∧ x < 12 := by
  have h : ∀ k : Fin 20, ∀ x ∈ tabL.getD k [], 0 ≤ x ∧ x < 12 := by decide
  by_cases hk : k < 20
  · exact h ⟨k, hk⟩ x hx
  · rw [List.getD_eq_getElem?_getD, List.getElem?_eq_none (by rw [tab_len]; omega)] at hx
    simp at hx
theorem tab_row12 {L : List Int} (h : ∀ x, x ∈ L → 0 ≤ x ∧ x < 12) (c : Nat) (hc : 12 ≤ c) : rowV L c = 0 := by
  unfold rowV
  rw [if_neg]
  intro hm
  have := h _ hm
  omega
theorem tab_pub {hs : List Bool} (k : Nat) (hk : k < 20) (hp : hs.getD k false = false) : Sp (Pub tabL hs tabL.length) (rowV (tabL.getD k [])) := Sp.mem ⟨k, by rw [tab_len]; exact hk, hp, rfl⟩
theorem tab_eq (x : Fin 3) (y : Fin 4) (c : Fin 12) : rowV (tabL.getD (4 * x.val + y.val) []) c.val = rowV (tabL.getD (12 + x.val) []) c.val - rowV (tabL.getD (4 * x.val + (y.val + 1) % 4) []) c.val * 1 - rowV (tabL.getD (4 * x.val + (y.val + 2) % 4) []) c.val * 1 - rowV (tabL.getD (4 * x.val + (y.val + 3) % 4) []) c.val * 1 := by
  revert x y c
  decide +kernel
/-- A single cell that is hidden is determined. -/
theorem tab_yes (x y i : Nat) (hx : x < 3) (hy : y < 4) (hi : i < 12) : dB tabL (hidT (oneF x y) 12) i = true := by
  have hpub : ∀ k, k < 20 → k ≠ 4 * x + y → (hidT (oneF x y) 12).getD k false = false := fun k hk hne => by
    rw [hidT_get _ _ _ hk]
    have : oneF x y k = false := by unfold oneF; rw [decide_eq_false_iff_not]; omega
    rw [this, Bool.and_false]
  by_cases e : i = 4 * x + y
  · subst e
    rw [dB_iff]
    unfold Det
    have e : rowV (tabL.getD (4 * x + y) []) = vless (vless (vless (rowV (tabL.getD (12 + x) [])) (rowV (tabL.getD (4 * x + (y + 1) % 4) [])) 1) (rowV (tabL.getD (4 * x + (y + 2) % 4) [])) 1) (rowV (tabL.getD (4 * x + (y + 3) % 4) [])) 1 := funext fun c => by
      unfold vless
      by_cases hc : c < 12
      · exact tab_eq ⟨x, hx⟩ ⟨y, hy⟩ ⟨c, hc⟩
      · rw [tab_row12 (tab_lt _) c (by omega), tab_row12 (tab_lt _) c (by omega), tab_row12 (tab_lt _) c (by omega), tab_row12 (tab_lt _) c (by omega), tab_row12 (tab_lt _) c (by omega)]
        grind
    rw [e]
    exact Sp.less (Sp.less (Sp.less (tab_pub _ (by omega) (hpub _ (by omega) (by omega))) (tab_pub _ (by omega) (hpub _ (by omega) (by omega))) 1) (tab_pub _ (by omega) (hpub _ (by omega) (by omega))) 1) (tab_pub _ (by omega) (hpub _ (by omega) (by omega))) 1
  · exact det_pub (by rw [tab_len]; omega) (hpub i (by omega) e)
def cornF (x y : Nat) (v : Vec) : Rat := v (4 * x + y) - v (4 * x + (y + 1) % 4) - v (4 * ((x + 1) % 3) + y) + v (4 * ((x + 1) % 3) + (y + 1) % 4)
theorem tab_corn (x : Fin 3) (y : Fin 4) (k : Fin 20) : (fourF x.val y.val k.val = false ∨ 12 ≤ k.val → cornF x.val y.val (rowV (tabL.getD k.val [])) = 0) ∧ (fourF x.val y.val k.val = true → k.val < 12 → cornF x.val y.val (rowV (tabL.getD k.val [])) ≠ 0) := by
  revert x y k
  decide +kernel
/-- The four at the corners of a rectangle are not determined. -/
theorem tab_four (x y i : Nat) (hx : x < 3) (hy : y < 4) (hi : i < 12) : dB tabL (hidT (fourF x y) 12) i = !fourF x y i := by
  cases hf : fourF x y i with
  | false =>
    refine det_pub (by rw [tab_len]; omega) ?_
    rw [hidT_get _ _ _ (by omega), hf, Bool.and_false]
  | true =>
    cases hd : dB tabL (hidT (fourF x y) 12) i with
    | false => rfl
    | true =>
      exfalso
      rw [dB_iff] at hd
      have h0 := Sp.lin (cornF x y) (by unfold cornF vzero; grind) (fun v u a => by unfold cornF vadd; grind) (fun u ⟨k, hk, hp, e⟩ => by
        rw [tab_len] at hk
        rw [hidT_get _ _ _ hk] at hp
        subst e
        refine (tab_corn ⟨x, hx⟩ ⟨y, hy⟩ ⟨k, hk⟩).1 ?_
        rw [Bool.and_eq_false_iff, decide_eq_false_iff_not] at hp
        rcases hp with hp | hp
        · exact .inr (by simp only; omega)
        · exact .inl hp) hd
      exact (tab_corn ⟨x, hx⟩ ⟨y, hy⟩ ⟨i, by omega⟩).2 hf hi h0
end Go.Proofs.Ytkoidookanmknaa
