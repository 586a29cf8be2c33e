/- Hide: what it leaves hidden. -/
import Derived.Test.YtkoidookanmknaaV22
import Derived.Test.YtkoidookanmknaaV40
namespace Go.Proofs.Ytkoidookanmknaa
set_option linter.unusedSimpArgs false
set_option linter.unusedVariables false
open Go.RowKit

theorem firstF_spec (Q : Nat → Bool) : ∀ n i, 0 ≤ firstF Q i n → ∃ k, i ≤ k ∧ k < i + n ∧ firstF Q i n = (k : Int) ∧ Q k = true
  | 0, i, h => by unfold firstF at h; omega
  | n + 1, i, h => by
    unfold firstF at h ⊢
    by_cases hq : Q i = true
    · rw [if_pos hq]; exact ⟨i, Nat.le_refl _, by omega, rfl, hq⟩
    · rw [if_neg hq] at h ⊢
      obtain ⟨k, h1, h2, h3, h4⟩ := firstF_spec Q n (i + 1) h
      exact ⟨k, by omega, by omega, h3, h4⟩
theorem firstF_neg (Q : Nat → Bool) : ∀ n i, firstF Q i n < 0 → ∀ j, i ≤ j → j < i + n → Q j = false
  | 0, i, _, j, h1, h2 => by omega
  | n + 1, i, h, j, h1, h2 => by
    unfold firstF at h
    by_cases hq : Q i = true
    · rw [if_pos hq] at h; omega
    · rw [if_neg hq] at h
      by_cases e : j = i
      · rw [e]; simpa using hq
      · exact firstF_neg Q n (i + 1) h j (by omega) (by omega)
theorem set_keep {hs : List Bool} {k j : Nat} (h : hs.getD j false = true) : (hs.set k true).getD j false = true := by
  by_cases hk : k = j
  · subst hk
    have : k < hs.length := by
      rcases Nat.lt_or_ge k hs.length with h1 | h1
      · exact h1
      · rw [List.getD_eq_getElem?_getD, List.getElem?_eq_none h1] at h; cases h
    simp [List.getD_eq_getElem?_getD, this]
  · rw [List.getD_eq_getElem?_getD, List.getElem?_set_ne hk, ← List.getD_eq_getElem?_getD]; exact h
theorem hideF_keep (D : List Bool → Nat → Bool) (zs : List Int) (m : Nat) : ∀ f hs j, hs.getD j false = true → (hideF D zs m f hs).getD j false = true
  | 0, hs, j, h => h
  | f + 1, hs, j, h => by
    unfold hideF
    split
    · exact h
    · exact hideF_keep D zs m f _ j (set_keep h)
theorem hideF_len (D : List Bool → Nat → Bool) (zs : List Int) (m : Nat) : ∀ f hs, (hideF D zs m f hs).length = hs.length
  | 0, hs => rfl
  | f + 1, hs => by
    unfold hideF
    split
    · rfl
    · rw [hideF_len D zs m f]; simp
theorem hideF_done {Ls : List (List Int)} {zs : List Int} {m : Nat} (hm : Ls.length = m) (hne : ∀ k, k < m → Ls.getD k [] ≠ []) (hpos : ∀ k x, x ∈ Ls.getD k [] → 0 ≤ x) : ∀ f hs, hs.length = m → pubN hs < f → nextF (dB Ls) (hideF (dB Ls) zs m f hs) m < 0
  | 0, hs, _, h => absurd h (by omega)
  | f + 1, hs, hl, h => by
    unfold hideF
    split
    · assumption
    · rename_i hn
      obtain ⟨i, _, h2, h3, h4⟩ := firstF_spec _ m 0 (show 0 ≤ firstF (fun i => hs.getD i false && dB Ls hs i) 0 m by unfold nextF at hn; omega)
      have hnx : nextF (dB Ls) hs m = (i : Int) := h3
      rw [hnx, Int.toNat_natCast]
      simp only [Bool.and_eq_true] at h4
      have hDet := (dB_iff Ls hs i).1 h4.2
      have hpub := pub_of_det hDet (hne i (by omega)) (fun x hx => hpos i x hx)
      rw [hm] at hpub
      obtain ⟨m1, m2, m3⟩ := more_ok (Ls := Ls) (zs := zs) (h := i) (D := dB Ls) hpub
      have hp := pubN_set hs (moreF (dB Ls) zs hs m i).toNat (by omega) m3
      exact hideF_done hm hne hpos f _ (by simpa using hl) (by omega)
theorem hide0_get (zs : List Int) (lim : Int) (m j : Nat) (hj : j < m) : (hide0 zs lim m).getD j false = (decide (1 ≤ zs.getD j 0) && decide (zs.getD j 0 < lim)) := by
  simp [hide0, hj]
/-- What Hide leaves: small values hidden, no hidden one determined. -/
theorem hide_law {Ls : List (List Int)} {zs : List Int} {n lim : Int} {m : Nat} (hv : validE n Ls zs = 0) (hm : Ls.length = m) {j : Nat} (hj : j < m) :
    ((decide (1 ≤ zs.getD j 0) && decide (zs.getD j 0 < lim)) = true → (hideF (dB Ls) zs m (m + 1) (hide0 zs lim m)).getD j false = true) ∧
    ((hideF (dB Ls) zs m (m + 1) (hide0 zs lim m)).getD j false = true → dB Ls (hideF (dB Ls) zs m (m + 1) (hide0 zs lim m)) j = false) := by
  obtain ⟨_, _, _, _, h5⟩ := validE_of hv
  have hp0 : pubN (hide0 zs lim m) < m + 1 := by
    have h1 : pubN (hide0 zs lim m) ≤ (hide0 zs lim m).length := List.count_le_length
    rw [hide0_len] at h1
    omega
  have hd := hideF_done (zs := zs) hm (fun k hk => (item_cells (h5 k (by omega))).1) (fun k x hx => by
    by_cases hk : k < Ls.length
    · obtain ⟨q, hq, rfl⟩ := List.getElem_of_mem hx
      have := ((item_cells (h5 k hk)).2 q hq).1
      have e : (Ls.getD k []).getD q 0 = (Ls.getD k [])[q] := by rw [List.getD_eq_getElem?_getD, List.getElem?_eq_getElem hq]; rfl
      rw [e] at this
      omega
    · rw [List.getD_eq_getElem?_getD, List.getElem?_eq_none (by omega)] at hx
      simp at hx) (m + 1) (hide0 zs lim m) (hide0_len _ _ _) hp0
  refine ⟨fun h => hideF_keep _ _ _ _ _ _ (by rw [hide0_get zs lim m j hj]; exact h), fun h => ?_⟩
  have := firstF_neg _ m 0 hd j (Nat.zero_le _) (by omega)
  simp only [Bool.and_eq_false_iff] at this
  rcases this with e | e
  · rw [h] at e; cases e
  · exact e
end Go.Proofs.Ytkoidookanmknaa
