/- meresmanref27: Groups, Join, Same of equal lists. -/
import Derived.Test.YtlnmgcmpbbklhaaS13
namespace Go.Proofs.Ytlnmgcmpbbklhaa
set_option linter.unusedSimpArgs false
set_option linter.unusedVariables false
open Go.RowKit

/-- 'append([]int{}, w...)'. -/
theorem copy_run {w : World} {b c n : Nat} {a : Option Addr} {P : List Int} (hb : Blk w b #[] 3) (h : Ints w a n P) (hn : n ≤ 100000) :
    ∃ g cap w', (Builtin.append_ #[22, 22] 22 #[.slice (some ⟨b, 0, none⟩) 0 0, .slice a n c]).run Try.prog w = .ok (.slice (some ⟨g, 0, none⟩) n cap) w' ∧ VRow w' b (.slice (some ⟨g, 0, none⟩) n cap) P ∧ w.grownBy w' (some b) := by
  obtain ⟨i0, hi0, hz0, hz1, hz2⟩ := info_parts intInfo
  by_cases h0 : n = 0
  · subst h0
    have hP : P = [] := List.eq_nil_of_length_eq_zero h.1
    subst hP
    exact ⟨b, 0, w, run_append_none (VRow.empty (Nat.le_refl b) hb) _ a c, VRow.empty (Nat.le_refl b) hb, grown_refl w _⟩
  · obtain ⟨b2, o2, rfl, _, _⟩ := h.at 0 (by omega)
    obtain ⟨g, cap, w', hr, hown, hg, _, _⟩ := run_append_lies (P := Try.prog) w 22 22 b 3 i0 (.int .i64 0) 1 8 Try.underlying22 hi0 hz0 hz1 hz2 rfl (by omega) (.slice (some ⟨b, 0, none⟩) 0 0) 0 [] (VRow.empty (Nat.le_refl b) hb) ⟨b2, o2, none⟩ n c (ivals P) (by simp [ivals, h.1]) (ints_news h (by omega)) (ivals_one _) (by omega) (by rw [maxLen]; omega) (by omega) (Nat.le_of_lt hb.lt) _ rfl
    rw [Nat.zero_add, List.nil_append] at hown
    rw [Nat.zero_add] at hr
    refine ⟨g, cap, w', hr, ?_, hg⟩
    unfold VRow; rw [h.1]; exact hown
/-- A slice of slices of the call's own, whose members lie in other blocks. -/
def GRow (w : World) (base : Nat) (v : Value) (gs : List Sl) (Fs : List (List Int)) : Prop :=
  gs.length = Fs.length ∧ w.ownsRow base 22 1 v Fs.length (gs.map Sl.v) ∧
    ∀ i, i < Fs.length → Ints w (gs.getD i sl0).a (gs.getD i sl0).n (Fs.getD i []) ∧ ∃ b off, (gs.getD i sl0).a = some ⟨b, off, none⟩ ∧ b < w.heap.size ∧ v.ownBlock ≠ some b
theorem GRow.nil (w : World) (base : Nat) : GRow w base (.slice none 0 0) [] [] := ⟨rfl, ⟨rfl, .inl ⟨rfl, rfl⟩⟩, fun i hi => absurd hi (by simp)⟩
theorem GRow.ext {w w' : World} {base : Nat} {v : Value} {gs : List Sl} {Fs : List (List Int)} (k : Ext w w') (h : GRow w base v gs Fs) : GRow w' base v gs Fs :=
  ⟨h.1, owns_ext k h.2.1, fun i hi => by
    obtain ⟨h1, b, off, h2, h3, h4⟩ := h.2.2 i hi
    exact ⟨h1.keep k.ik, b, off, h2, Nat.lt_of_lt_of_le h3 k.size, h4⟩⟩
theorem Ints.grown {w w1 : World} {row : Option Nat} {b off n : Nat} {F : List Int} (h : Ints w (some ⟨b, off, none⟩) n F) (hgr : w.grownBy w1 row) (hb : b < w.heap.size) (hne : row ≠ some b) : Ints w1 (some ⟨b, off, none⟩) n F := by
  obtain ⟨h1, h2, h3, h4⟩ := h
  refine ⟨h1, h2, h3, ?_⟩
  rcases h4 with h4 | ⟨b', off', ha, hb', hc⟩
  · exact .inl h4
  · injection ha with ha; injection ha with e1 e2
    subst e1; subst e2
    exact .inr ⟨b, off, rfl, Nat.lt_of_lt_of_le hb hgr.size, fun i hi => by rw [hgr.cell_far _ hb (fun e => hne e.symm)]; exact hc i hi⟩
theorem GRow.app {w w' w1 : World} {base : Nat} {v : Value} {gs : List Sl} {Fs : List (List Int)} {b off g2 cap n c : Nat} {F : List Int} (h : GRow w base v gs Fs) (k : Ext w w') (hF : Ints w' (some ⟨b, off, none⟩) n F)
    (hg : w.heap.size ≤ b) (hb : b < w'.heap.size)
    (hown : w1.ownsRow base 22 1 (.slice (some ⟨g2, 0, none⟩) (Fs.length + 1) cap) (Fs.length + 1) (gs.map Sl.v ++ [.slice (some ⟨b, off, none⟩) n c]))
    (hgr : w'.grownBy w1 v.ownBlock) (hat : v.ownBlock = some g2 ∨ g2 = w'.heap.size) : GRow w1 base (.slice (some ⟨g2, 0, none⟩) (Fs.length + 1) cap) (gs ++ [⟨some ⟨b, off, none⟩, n, c⟩]) (Fs ++ [F]) := by
  have hne : v.ownBlock ≠ some b := fun e => by have := (owns_lt h.2.1 e).2; omega
  have hfin : ∀ b off n (F : List Int), Ints w' (some ⟨b, off, none⟩) n F → b < w'.heap.size → v.ownBlock ≠ some b → Ints w1 (some ⟨b, off, none⟩) n F ∧ b < w1.heap.size ∧ (Value.slice (some ⟨g2, 0, none⟩) (Fs.length + 1) cap).ownBlock ≠ some b := fun b off n F hc hb hn =>
    ⟨hc.grown hgr hb hn, Nat.lt_of_lt_of_le hb hgr.size, fun e => by
      simp [Value.ownBlock] at e
      rcases hat with hat | hat
      · rw [hat, e] at hn; exact hn rfl
      · omega⟩
  refine ⟨by simp [h.1], ?_, fun i hi => ?_⟩
  · rw [List.length_append, List.length_singleton, List.map_append, List.map_singleton]; exact hown
  · rw [List.length_append, List.length_singleton] at hi
    by_cases hlt : i < Fs.length
    · have e1 : (gs ++ [(⟨some ⟨b, off, none⟩, n, c⟩ : Sl)]).getD i sl0 = gs.getD i sl0 := by simp [List.getD_eq_getElem?_getD, List.getElem?_append, h.1, hlt]
      have e2 : (Fs ++ [F]).getD i [] = Fs.getD i [] := by simp [List.getD_eq_getElem?_getD, List.getElem?_append, hlt]
      rw [e1, e2]
      obtain ⟨h1, b', off', h2, h3, h4⟩ := h.2.2 i hlt
      rw [h2] at h1 ⊢
      have h5 := hfin b' off' _ _ (h1.keep k.ik) (Nat.lt_of_lt_of_le h3 k.size) h4
      exact ⟨h5.1, b', off', rfl, h5.2.1, h5.2.2⟩
    · obtain rfl : i = Fs.length := by omega
      have e1 : (gs ++ [(⟨some ⟨b, off, none⟩, n, c⟩ : Sl)]).getD Fs.length sl0 = ⟨some ⟨b, off, none⟩, n, c⟩ := by rw [← h.1]; simp [List.getD_eq_getElem?_getD]
      have e2 : (Fs ++ [F]).getD Fs.length [] = F := by simp [List.getD_eq_getElem?_getD]
      rw [e1, e2]
      have h5 := hfin b off n F hF hb hne
      exact ⟨h5.1, b, off, rfl, h5.2.1, h5.2.2⟩
theorem GRow.grps {w : World} {base : Nat} {v : Value} {gs : List Sl} {Fs : List (List Int)} (h : GRow w base v gs Fs) (hl : Fs.length ≤ 1000000) : ∃ ga c, v = .slice ga Fs.length c ∧ Grps w ga Fs.length gs Fs := by
  obtain ⟨h1, ⟨h2, h0⟩, h3⟩ := h
  rcases h0 with ⟨hv, hn⟩ | ⟨g', cap', cur, hv, hb, hh, hle, hc, hsz, htk⟩
  · exact ⟨none, 0, by rw [hv, hn], h1, rfl, hl, .inl hn, fun i hi => (h3 i hi).1⟩
  · refine ⟨_, _, hv, h1, rfl, hl, .inr ⟨g', 0, rfl, lt_of_block hh, fun i hi => ?_⟩, fun i hi => (h3 i hi).1⟩
    have p1 : (gs.map Sl.v)[i]? = some (gs.getD i sl0).v := by simp [List.getD_eq_getElem?_getD, show i < gs.length by omega]
    rw [← htk, List.getElem?_take_of_lt (by omega)] at p1
    simp [World.cell?, hh]; simpa using p1

/-- 'Groups': the groups and what is left of the weights, behind k cuts. -/
def groupsK (P : List Int) (zs : List Int) : Nat → List (List Int) × List Int
  | 0 => ([], P)
  | k + 1 => ((groupsK P zs k).1 ++ [(groupsK P zs k).2.take (aroundF (zs.getD k 0) (((groupsK P zs k).2.length : Int) + 1)).toNat], (groupsK P zs k).2.drop (aroundF (zs.getD k 0) (((groupsK P zs k).2.length : Int) + 1)).toNat)
def groupsF (P : List Int) (zs : List Int) : List (List Int) := (groupsK P zs (min zs.length 6)).1 ++ [(groupsK P zs (min zs.length 6)).2]
theorem groupsK_flat (P zs : List Int) (k : Nat) : (groupsK P zs k).1.flatten ++ (groupsK P zs k).2 = P := by
  induction k with
  | zero => simp [groupsK]
  | succ k ih => simp only [groupsK, List.flatten_append, List.flatten_singleton, List.append_assoc, List.take_append_drop]; exact ih
theorem groupsK_length (P zs : List Int) (k : Nat) : (groupsK P zs k).1.length = k := by
  induction k with
  | zero => rfl
  | succ k ih => simp [groupsK, ih]
theorem groupsF_flat (P zs : List Int) : (groupsF P zs).flatten = P := by
  have h := groupsK_flat P zs (min zs.length 6)
  simpa [groupsF] using h
theorem groupsF_length (P zs : List Int) : 1 ≤ (groupsF P zs).length ∧ (groupsF P zs).length ≤ 7 := by
  simp only [groupsF, List.length_append, groupsK_length, List.length_singleton]; omega
theorem sl_take (k c : Nat) (a : Option Addr) (m : Nat) (R : List Int) (w : World) (h : Ints w a m R) (hk : k ≤ m) : Ints w a k (R.take k) := by
  obtain ⟨h1, h2, h3, h4⟩ := h
  have hg : ∀ i, i < k → (R.take k).getD i 0 = R.getD i 0 := fun i hi => by simp [List.getD_eq_getElem?_getD, hi]
  refine ⟨by simp; omega, by omega, fun i hi => by rw [hg i hi]; exact h3 i (by omega), ?_⟩
  rcases h4 with h4 | ⟨b, off, ha, hb, hc⟩
  · exact .inl (by omega)
  · exact .inr ⟨b, off, ha, hb, fun i hi => by rw [hg i hi]; exact hc i (by omega)⟩
theorem sl_drop (k : Nat) (b off m : Nat) (R : List Int) (w : World) (h : Ints w (some ⟨b, off, none⟩) m R) (hk : k ≤ m) : Ints w (some ⟨b, off + k, none⟩) (m - k) (R.drop k) := by
  obtain ⟨h1, h2, h3, h4⟩ := h
  have hg : ∀ i, (R.drop k).getD i 0 = R.getD (k + i) 0 := fun i => by simp [List.getD_eq_getElem?_getD]
  refine ⟨by simp; omega, by omega, fun i hi => by rw [hg i]; exact h3 _ (by omega), ?_⟩
  rcases h4 with h4 | ⟨b, off, ha, hb, hc⟩
  · exact .inl (by omega)
  · injection ha with ha; injection ha with e1 e2
    subst e1; subst e2
    exact .inr ⟨_, _, rfl, hb, fun i hi => by rw [hg i, Nat.add_assoc]; exact hc _ (by omega)⟩
theorem Ints.none0 {w : World} {a a' : Option Addr} {F : List Int} (h : Ints w a 0 F) : Ints w a' 0 F := ⟨h.1, h.2.1, h.2.2.1, .inl rfl⟩
/-- Where a slice of weights lies. -/
def SlA (a : Option Addr) (c : Nat) : Prop := (a = none ∧ c = 0) ∨ ∃ b off, a = some ⟨b, off, none⟩
end Go.Proofs.Ytlnmgcmpbbklhaa
