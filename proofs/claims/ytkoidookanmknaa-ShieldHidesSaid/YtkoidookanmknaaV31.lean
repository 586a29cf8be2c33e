/- ShieldNumbers: plain laws. -/
import Derived.Test.YtkoidookanmknaaV26
namespace Go.Proofs.Ytkoidookanmknaa
set_option linter.unusedSimpArgs false
set_option linter.unusedVariables false
open Go.RowKit

/-- The cells in the opposite order. -/
def flipV (N : Nat) (v : Vec) : Vec := fun c => if c < N then v (N - 1 - c) else 0
theorem Sp.map {S T : Vec → Prop} {v : Vec} (f : Vec → Vec) (f0 : f vzero = vzero) (f1 : ∀ v u a, f (vadd v u a) = vadd (f v) (f u) a) (h : ∀ u, S u → T (f u)) (hv : Sp S v) : Sp T (f v) := by
  induction hv with
  | zero => rw [f0]; exact Sp.zero
  | step a _ hu ih => rw [f1]; exact Sp.step a ih (h _ hu)
theorem flip_zero (N : Nat) : flipV N vzero = vzero := funext fun c => by unfold flipV vzero; split <;> rfl
theorem flip_add (N : Nat) (v u : Vec) (a : Rat) : flipV N (vadd v u a) = vadd (flipV N v) (flipV N u) a := funext fun c => by
  show (if c < N then v (N - 1 - c) + u (N - 1 - c) * a else 0) = (if c < N then v (N - 1 - c) else 0) + (if c < N then u (N - 1 - c) else 0) * a
  split <;> grind
/-- A set with the cells in the opposite order. -/
def flipL (N : Nat) (l : List Int) : List Int := (l.map fun x => (N : Int) - 1 - x).reverse
theorem flip_row {N : Nat} {l : List Int} (h : ∀ x, x ∈ l → 0 ≤ x ∧ x < (N : Int)) : rowV (flipL N l) = flipV N (rowV l) := funext fun c => by
  unfold flipV rowV
  by_cases hc : c < N
  · rw [if_pos hc]
    have e : (c : Int) ∈ flipL N l ↔ ((N - 1 - c : Nat) : Int) ∈ l := by
      unfold flipL
      rw [List.mem_reverse, List.mem_map]
      constructor
      · rintro ⟨x, hx, e⟩
        have := h x hx
        rwa [show ((N - 1 - c : Nat) : Int) = x by omega]
      · intro hx
        exact ⟨_, hx, by omega⟩
    simp only [e]
  · rw [if_neg hc, if_neg]
    intro hm
    unfold flipL at hm
    rw [List.mem_reverse, List.mem_map] at hm
    obtain ⟨x, hx, e⟩ := hm
    have := h x hx
    omega
theorem flip_flip {N : Nat} {l : List Int} (h : ∀ x, x ∈ l → 0 ≤ x ∧ x < (N : Int)) : flipV N (flipV N (rowV l)) = rowV l := funext fun c => by
  unfold flipV
  by_cases hc : c < N
  · rw [if_pos hc, if_pos (by omega), show N - 1 - (N - 1 - c) = c by omega]
  · rw [if_neg hc]
    unfold rowV
    rw [if_neg]
    intro hm
    have := h _ hm
    omega
/-- What is determined is determined in the other numbering. -/
theorem det_move {N : Nat} {Ls Ls' : List (List Int)} {hs hs' : List Bool} {i i' : Nat}
    (hpub : ∀ j, j < Ls.length → hs.getD j false = false → ∃ j', j' < Ls'.length ∧ hs'.getD j' false = false ∧ rowV (Ls'.getD j' []) = flipV N (rowV (Ls.getD j [])))
    (hrow : rowV (Ls'.getD i' []) = flipV N (rowV (Ls.getD i []))) (h : dB Ls hs i = true) : dB Ls' hs' i' = true := by
  rw [dB_iff] at h ⊢
  unfold Det at h ⊢
  rw [hrow]
  refine Sp.map (flipV N) (flip_zero N) (flip_add N) ?_ h
  rintro u ⟨j, h1, h2, rfl⟩
  obtain ⟨j', h3, h4, h5⟩ := hpub j h1 h2
  exact ⟨j', h3, h4, h5.symm⟩
theorem SetOK.flip {N : Nat} {l : List Int} (h : SetOK N l) : SetOK N (flipL N l) := by
  unfold flipL
  refine ⟨?_, fun x hx => ?_⟩
  · rw [List.pairwise_reverse, List.pairwise_map]
    exact h.1.imp fun hab => by omega
  · rw [List.mem_reverse, List.mem_map] at hx
    obtain ⟨y, hy, rfl⟩ := hx
    have := h.2 y hy
    omega
end Go.Proofs.Ytkoidookanmknaa
