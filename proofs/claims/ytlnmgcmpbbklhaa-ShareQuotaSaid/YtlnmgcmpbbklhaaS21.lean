/- share: pure laws for ShareQuota: how far Largest is from the quotas. -/
import Derived.Test.YtlnmgcmpbbklhaaS19
namespace Go.Proofs.Ytlnmgcmpbbklhaa
set_option linter.unusedSimpArgs false
set_option linter.unusedVariables false
open Go.RowKit

theorem cntPos_ex (l : List Int) (h : 0 < cntPos l) : ∃ j, j < l.length ∧ 0 < l.getD j 0 := by
  induction l with
  | nil => simp [cntPos, sumI] at h
  | cons x l ih =>
    by_cases hx : 0 < x
    · exact ⟨0, by simp, by simpa using hx⟩
    · obtain ⟨j, hj, hj2⟩ := ih (by simp [cntPos, sumI, hx] at h ⊢; exact h)
      exact ⟨j + 1, by simpa using hj, by simpa using hj2⟩
theorem pickN_shape {m : Nat} {q R : List Int} (hR : R.length = m) (hq : q.length = m) (h0 : ∀ i, i < m → 0 ≤ R.getD i 0) (t : Nat) (ht : (t : Int) ≤ cntPos R) :
    (∀ i, i < m → ((pickN m t (q, R)).2.getD i 0 = R.getD i 0 ∧ (pickN m t (q, R)).1.getD i 0 = q.getD i 0) ∨ (0 < R.getD i 0 ∧ (pickN m t (q, R)).2.getD i 0 = -1 ∧ (pickN m t (q, R)).1.getD i 0 = q.getD i 0 + 1)) ∧
    ∀ i j, i < j → j < m → R.getD i 0 = R.getD j 0 → (pickN m t (q, R)).2.getD j 0 = -1 → (pickN m t (q, R)).2.getD i 0 = -1 := by
  induction t with
  | zero => exact ⟨fun i _ => .inl ⟨rfl, rfl⟩, fun i j hij hj he h => by have := h0 j hj; rw [pickN] at h; simp only at h; omega⟩
  | succ t ih =>
    obtain ⟨h1, h2⟩ := ih (by omega)
    have hc := (pickN_zero hR hq t (by omega)).1
    obtain ⟨l1, l2⟩ := pickN_length m t (q, R)
    simp only at l1 l2
    rw [pickN, pick1]
    simp only
    generalize pickN m t (q, R) = s at *
    obtain ⟨s1, s2⟩ := s
    simp only at *
    obtain ⟨j, hj, hj2⟩ := cntPos_ex s2 (by omega)
    obtain ⟨a1, a2, a3⟩ := argmax_spec (fun i => s2.getD i 0) m
    have hb := a1 (by omega)
    have hbp := a2 j (by omega)
    generalize argmaxF (fun i => s2.getD i 0) m = b at *
    have hbp : 0 < s2.getD b 0 := by omega
    have hnb : s2.getD b 0 = R.getD b 0 ∧ s1.getD b 0 = q.getD b 0 := by
      rcases h1 b hb with h | ⟨_, h, _⟩
      · exact h
      · omega
    refine ⟨fun i hi => ?_, fun i k hik hk he hp => ?_⟩
    · by_cases hbi : b = i
      · subst hbi
        right
        exact ⟨by omega, by rw [getD_set_eq _ _ _ (by omega)], by rw [bump_at _ _ _ (by omega), if_pos rfl]; omega⟩
      · rw [getD_set_ne _ _ _ _ hbi, bump_at _ _ _ (by omega), if_neg hbi]; exact h1 i hi
    · by_cases hbi : b = i
      · subst hbi; exact getD_set_eq _ _ _ (by omega)
      · rw [getD_set_ne _ _ _ _ hbi]
        by_cases hbk : b = k
        · subst hbk
          have k1 := a3 i hik
          rcases h1 i (by omega) with h | ⟨_, h, _⟩
          · omega
          · exact h
        · rw [getD_set_ne _ _ _ _ hbk] at hp
          exact h2 i k hik hk he hp
/-- Largest gives each part its quota, rounded down, or one more where something is left. -/
theorem largestF_shape {n : Int} {w : List Int} (hs : 0 < sumI w) (hn : n ≠ 0) (i : Nat) (hi : i < w.length) :
    (largestF n w).getD i 0 = n * w.getD i 0 / sumI w ∨ (0 < n * w.getD i 0 % sumI w ∧ (largestF n w).getD i 0 = n * w.getD i 0 / sumI w + 1) := by
  obtain ⟨l1, l2, l3⟩ := left_bd (n := n) hs
  unfold largestF
  rw [if_neg (by omega)]
  have h := (pickN_shape (m := w.length) (q := quos n w) (R := rems n w) (by simp [rems]) (by simp [quos]) (fun j hj => by unfold rems; rw [getD_map _ _ _ hj]; exact Int.emod_nonneg _ (by omega)) (leftF n w).toNat (by omega)).1 i hi
  have e1 : (rems n w).getD i 0 = n * w.getD i 0 % sumI w := by unfold rems; rw [getD_map _ _ _ hi]
  have e2 : (quos n w).getD i 0 = n * w.getD i 0 / sumI w := by unfold quos; rw [getD_map _ _ _ hi]
  rw [e1, e2] at h
  rcases h with h | h
  · left; exact h.2
  · right; exact ⟨h.1, h.2.2⟩
/-- Of equal weights the first ones have not less, and at most one more. -/
theorem largestF_equal {n : Int} {w : List Int} (hs : 0 < sumI w) (i j : Nat) (hij : i < j) (hj : j < w.length) (he : w.getD i 0 = w.getD j 0) :
    (largestF n w).getD j 0 ≤ (largestF n w).getD i 0 ∧ (largestF n w).getD i 0 ≤ (largestF n w).getD j 0 + 1 := by
  by_cases hn : n = 0
  · unfold largestF
    rw [if_pos (.inl hn)]
    simp [List.getD_eq_getElem?_getD, List.getElem?_replicate, hj, show i < w.length by omega]
  · obtain ⟨l1, l2, l3⟩ := left_bd (n := n) hs
    unfold largestF
    rw [if_neg (by omega)]
    have hR : ∀ k, k < w.length → 0 ≤ (rems n w).getD k 0 := fun k hk => by unfold rems; rw [getD_map _ _ _ hk]; exact Int.emod_nonneg _ (by omega)
    have h := pickN_shape (m := w.length) (q := quos n w) (R := rems n w) (by simp [rems]) (by simp [quos]) hR (leftF n w).toNat (by omega)
    have hi : i < w.length := by omega
    have e1 : (rems n w).getD i 0 = (rems n w).getD j 0 := by unfold rems; rw [getD_map _ _ _ hi, getD_map _ _ _ hj, he]
    have e2 : (quos n w).getD i 0 = (quos n w).getD j 0 := by unfold quos; rw [getD_map _ _ _ hi, getD_map _ _ _ hj, he]
    have ha := h.1 i hi
    have hb := h.1 j hj
    have hc := h.2 i j hij hj e1
    have hj0 := hR j hj
    have hi0 := hR i hi
    generalize pickN w.length (leftF n w).toNat (quos n w, rems n w) = s at *
    rcases ha with ha | ha <;> rcases hb with hb | hb
    · omega
    · have := hc hb.2.1; omega
    · omega
    · omega
theorem largest_offs {n : Int} {w : List Int} (h : errF n w 1 = 0) (hs : 0 < sumI w) : offs n w (largestF n w) w.length = false := by
  unfold offs
  refine List.any_eq_false.2 fun j hj => ?_
  have hj := List.mem_range.1 hj
  have hal : (if 1 < sumI w then sumI w else 1) = sumI w := by split <;> omega
  rw [hal]
  have hok := errF_ok h
  by_cases hn : n = 0
  · subst hn
    have e : (largestF 0 w).getD j 0 = 0 := by unfold largestF; rw [if_pos (.inl rfl)]; simp [List.getD_eq_getElem?_getD, List.getElem?_replicate, hj]
    rw [e]; simp [offF]
  · have hr0 := Int.emod_nonneg (n * w.getD j 0) (show sumI w ≠ 0 by omega)
    have hsh := largestF_shape hs hn j hj
    have hca := offF_cases n (sumI w) (w.getD j 0) ((largestF n w).getD j 0) _ _ rfl rfl hr0
    generalize n * w.getD j 0 / sumI w = q at *
    generalize n * w.getD j 0 % sumI w = r at *
    generalize (largestF n w).getD j 0 = p at *
    rcases hca with ⟨h1, _⟩ | ⟨h1, h2, h3, _⟩ | ⟨_, _, _, h4⟩ | ⟨h1, h2, h3, _⟩ | ⟨_, _, _, h4⟩
    · exfalso; omega
    · exfalso; omega
    · rw [h4]; simp
    · exfalso; omega
    · rw [h4]; simp
/-- 'Check' accepts what Largest returns. -/
theorem largest_check {n : Int} {w : List Int} (h : errF n w 1 = 0) (hs : 0 < sumI w) : checkF n w (largestF n w) = 0 := by
  have hok := errF_ok h
  have hg := good_of_any hok.2.2.1
  have hw : ∀ x, x ∈ w → 0 ≤ x := fun x hx => (hg x hx).1
  unfold checkF
  rw [if_neg (by rw [h]; simp), if_neg (by rw [largestF_length]; simp), if_neg, if_neg, if_neg]
  · rw [largest_offs h hs]; simp
  · rw [largestF_sum hw (fun _ => hs)]; simp
  · have h1 : (largestF n w).any (outF n) = false := List.any_eq_false.2 fun x hx => by
      obtain ⟨k, hk, rfl⟩ := mem_getD hx
      have h5 := lgF_bd h k
      generalize (largestF n w).getD k 0 = z at *
      simp [outF]; omega
    rw [h1]; simp
end Go.Proofs.Ytlnmgcmpbbklhaa
