/- share: what ShareNested wants beside: pure laws of nestedF; lists of slices as groups; make([][]int, n). -/
import Derived.Test.YtlnmgcmpbbklhaaS16
namespace Go.Proofs.Ytlnmgcmpbbklhaa
set_option linter.unusedSimpArgs false
set_option linter.unusedVariables false
open Go.RowKit

theorem VRow.ints2 {w : World} {base : Nat} {v : Value} {l : List Int} (h : VRow w base v l) (hl : l.length ≤ 1000000) (h64 : ∀ i, i < l.length → Int64 (l.getD i 0)) :
    ∃ a c, v = .slice a l.length c ∧ Ints w a l.length l ∧ l.length ≤ c ∧ SlA a c := by
  obtain ⟨a, c, hv, hi⟩ := h.ints hl h64
  refine ⟨a, c, hv, hi, ?_⟩
  obtain ⟨h0, ⟨hv2, hn⟩ | ⟨g', cap', cur, hv2, hb, hh, hle, _⟩⟩ := h
  · rw [hv] at hv2; injection hv2 with e1 e2 e3
    subst e1; subst e3
    exact ⟨by omega, .inl ⟨rfl, rfl⟩⟩
  · rw [hv] at hv2; injection hv2 with e1 e2 e3
    subst e1; subst e3
    exact ⟨hle, .inr ⟨_, _, rfl⟩⟩
theorem GOut.nil (w : World) (base : Nat) : GOut w base (.slice none 0 0) [] [] := ⟨rfl, ⟨rfl, .inl ⟨rfl, rfl⟩⟩, fun i hi => absurd hi (by simp)⟩
theorem GOut.grps {w : World} {base : Nat} {v : Value} {gs : List Nat} {Fs : List (List Int)} (h : GOut w base v gs Fs) (h0 : 0 < Fs.length) (h1 : Fs.length ≤ 1000) (h2 : ∀ i, i < Fs.length → (Fs.getD i []).length ≤ 1000000)
    (h64 : ∀ i, i < Fs.length → ∀ x, x ∈ Fs.getD i [] → Int64 x) : ∃ ga c hs, v = .slice ga Fs.length c ∧ Grps w ga Fs.length hs Fs := by
  obtain ⟨g, cap, rfl, hg, hc⟩ := h.form h0
  have hat : ∀ i, i < Fs.length → ((List.range Fs.length).map fun i => (⟨some ⟨gs.getD i 0, 0, none⟩, (Fs.getD i []).length, (Fs.getD i []).length⟩ : Sl)).getD i sl0 = ⟨some ⟨gs.getD i 0, 0, none⟩, (Fs.getD i []).length, (Fs.getD i []).length⟩ := fun i hi => by
    rw [List.getD_eq_getElem?_getD, List.getElem?_map, List.getElem?_range hi]; rfl
  refine ⟨_, _, (List.range Fs.length).map fun i => ⟨some ⟨gs.getD i 0, 0, none⟩, (Fs.getD i []).length, (Fs.getD i []).length⟩, rfl, by simp, rfl, by omega, .inr ⟨g, 0, rfl, hg, fun i hi => ?_⟩, fun i hi => ?_⟩
  · rw [hat i hi, Nat.zero_add]; exact hc i hi
  · rw [hat i hi]
    have := h2 i hi
    show Ints w (some ⟨gs.getD i 0, 0, none⟩) (Fs.getD i []).length (Fs.getD i [])
    exact (h.2.2 i hi).1.ints rfl (by omega) (fun j hj => h64 i hi _ (getD_mem hj))
theorem sumI_nonneg {l : List Int} (h : ∀ x, x ∈ l → 0 ≤ x) : 0 ≤ sumI l := by
  induction l with
  | nil => simp [sumI]
  | cons x l ih => have := h x (by simp); have := ih fun y hy => h y (by simp [hy]); simp only [sumI]; omega
theorem sumI_take {l : List Int} (h : ∀ x, x ∈ l → 0 ≤ x) (i : Nat) : 0 ≤ sumI (l.take i) ∧ sumI (l.take i) ≤ sumI l := by
  have h1 : sumI l = sumI (l.take i) + sumI (l.drop i) := by rw [← sumI_append, List.take_append_drop]
  have h2 := sumI_nonneg (l := l.take i) fun x hx => h x (List.mem_of_mem_take hx)
  have h3 := sumI_nonneg (l := l.drop i) fun x hx => h x (List.mem_of_mem_drop hx)
  omega
theorem range_getD (l : List Int) : (List.range l.length).map (fun i => l.getD i 0) = l := by
  apply List.ext_getElem
  · simp
  · intro i h1 h2; simp [List.getD_eq_getElem?_getD, h2]
theorem range_getD' {α β : Type} (l : List α) (d : α) (f : α → β) : (List.range l.length).map (fun i => f (l.getD i d)) = l.map f := by
  apply List.ext_getElem
  · simp
  · intro i h1 h2
    have : i < l.length := by simpa using h2
    simp [List.getD_eq_getElem?_getD, this]
theorem nested_lens (n : Int) (Ls : List (List Int)) : lens (nestedF n Ls) = lens Ls := by
  unfold lens nestedF
  rw [List.map_map, ← range_getD' Ls [] fun l => (l.length : Int)]
  congr 1
  apply List.map_congr_left
  intro i _
  simp [largestF_length]
theorem nested_sum {n : Int} {Ls : List (List Int)} (hw : ∀ i, i < Ls.length → ∀ x, x ∈ Ls.getD i [] → 0 ≤ x) (h : n ≠ 0 → 0 < sumI (Ls.map sumI)) : sumI (nestedF n Ls).flatten = n := by
  have hs : ∀ x, x ∈ Ls.map sumI → 0 ≤ x := fun x hx => by
    obtain ⟨l, hl, rfl⟩ := List.mem_map.1 hx
    obtain ⟨i, hi, rfl⟩ := List.getElem_of_mem hl
    refine sumI_nonneg fun y hy => hw i hi y ?_
    rw [List.getD_eq_getElem?_getD, List.getElem?_eq_getElem hi]; exact hy
  rw [← sumI_flat, nestedF, List.map_map]
  have e : ((List.range Ls.length).map (sumI ∘ fun i => largestF ((largestF n (Ls.map sumI)).getD i 0) (Ls.getD i []))) = (List.range (largestF n (Ls.map sumI)).length).map fun i => (largestF n (Ls.map sumI)).getD i 0 := by
    rw [largestF_length, List.length_map]
    apply List.map_congr_left
    intro i hi
    have hi := List.mem_range.1 hi
    simp only [Function.comp]
    refine largestF_sum (hw i hi) fun hp => ?_
    have h0 := sumI_nonneg (hw i hi)
    by_cases hz : sumI (Ls.getD i []) = 0
    · refine absurd (largestF_zero h i (by simpa using hi) ?_) hp
      rw [List.getD_eq_getElem?_getD, List.getElem?_map, List.getElem?_eq_getElem hi]
      rw [List.getD_eq_getElem?_getD, List.getElem?_eq_getElem hi] at hz
      exact hz
    · omega
  rw [e, range_getD]
  exact largestF_sum hs h
theorem nested_mem {n : Int} {Ls : List (List Int)} (h0 : 0 ≤ n) (hw : ∀ i, i < Ls.length → ∀ x, x ∈ Ls.getD i [] → 0 ≤ x) (h : n ≠ 0 → 0 < sumI (Ls.map sumI)) : ∀ i, i < (nestedF n Ls).length → ∀ x, x ∈ (nestedF n Ls).getD i [] → 0 ≤ x ∧ x ≤ n := by
  have hs : ∀ x, x ∈ Ls.map sumI → 0 ≤ x := fun x hx => by
    obtain ⟨l, hl, rfl⟩ := List.mem_map.1 hx
    obtain ⟨i, hi, rfl⟩ := List.getElem_of_mem hl
    refine sumI_nonneg fun y hy => hw i hi y ?_
    rw [List.getD_eq_getElem?_getD, List.getElem?_eq_getElem hi]; exact hy
  have hp := largestF_nonneg (n := n) (w := Ls.map sumI) h0 hs
  have hnn : ∀ i, i < (nestedF n Ls).length → ∀ x, x ∈ (nestedF n Ls).getD i [] → 0 ≤ x := fun i hi x hx => by
    have hi2 : i < Ls.length := by rw [nestedF_length] at hi; exact hi
    rw [nestedF_at n Ls i hi2] at hx
    obtain ⟨j, _, rfl⟩ := mem_getD hx
    exact largestF_nonneg (hp i) (hw i hi2) j
  intro i hi x hx
  refine ⟨hnn i hi x hx, ?_⟩
  rw [← nested_sum hw h]
  refine mem_le_sum (fun y hy => ?_) ?_
  · obtain ⟨l, hl, hy⟩ := List.mem_flatten.1 hy
    obtain ⟨j, hj, rfl⟩ := List.getElem_of_mem hl
    refine hnn j hj y ?_
    rw [List.getD_eq_getElem?_getD, List.getElem?_eq_getElem hj]; exact hy
  · refine List.mem_flatten.2 ⟨(nestedF n Ls).getD i [], ?_, hx⟩
    rw [List.getD_eq_getElem?_getD, List.getElem?_eq_getElem hi]; exact List.getElem_mem _
theorem nested_flat {n : Int} {Ls : List (List Int)} (h0 : 0 ≤ n) (hw : ∀ i, i < Ls.length → ∀ x, x ∈ Ls.getD i [] → 0 ≤ x) (h : n ≠ 0 → 0 < sumI (Ls.map sumI)) : ∀ x, x ∈ (nestedF n Ls).flatten → 0 ≤ x ∧ x ≤ n := fun x hx => by
  obtain ⟨l, hl, hx⟩ := List.mem_flatten.1 hx
  obtain ⟨j, hj, rfl⟩ := List.getElem_of_mem hl
  refine nested_mem h0 hw h j hj x ?_
  rw [List.getD_eq_getElem?_getD, List.getElem?_eq_getElem hj]; exact hx
/-- 'make([][]int, n)'. -/
theorem make_intss (n : Nat) (x y : Int) (hx : x = (n : Int)) (hy : y = (n : Int)) (hn : n ≤ 1000000) (w : World) :
    (Instr.makeSlice 25 (.int .i64 x) (.int .i64 y)).run Try.prog w = .ok (.slice (some ⟨w.heap.size, 0, none⟩) n n) (w.alloc (.cells (List.replicate n (Value.slice none 0 0)).toArray 22)) := by
  obtain ⟨i0, hi, hz0, hz1, hz2⟩ := info_parts intsInfo
  have h := run_make (P := Try.prog) w 25 22 i0 (.slice none 0 0) Try.underlying25 hi hz0 .i64 .i64 n n (by omega) (Int.le_refl _) (by rw [hz2]; omega) (by omega)
  subst hx; subst hy
  rw [h, hz1]
  simp only [Int.toNat_natCast, Nat.mul_one]
  rw [show (Value.cells (.slice none 0 0)) = #[.slice none 0 0] from rfl]
  have e : madeCells #[Value.slice none 0 0] n = (List.replicate n (Value.slice none 0 0)).toArray := by
    apply Array.toList_inj.1
    rw [toList_madeCells_one]
  rw [e]
theorem Grps.nils (w : World) (n : Nat) (hn : n ≤ 100000) : Grps (w.alloc (.cells (List.replicate n (Value.slice none 0 0)).toArray 22)) (some ⟨w.heap.size, 0, none⟩) n (List.replicate n sl0) (List.replicate n []) := by
  have hb : Blk (w.alloc (.cells (List.replicate n (Value.slice none 0 0)).toArray 22)) w.heap.size (List.replicate n (Value.slice none 0 0)).toArray 22 := Blk.at _ _ rfl
  refine ⟨by simp, by simp, by omega, .inr ⟨_, 0, rfl, hb.lt, fun i hi => ?_⟩, fun i hi => ?_⟩
  · rw [Nat.zero_add, hb.cell]; simp [List.getD_eq_getElem?_getD, List.getElem?_replicate, hi, sl0, Sl.v]
  · have e1 : (List.replicate n sl0).getD i sl0 = sl0 := by simp [List.getD_eq_getElem?_getD, List.getElem?_replicate, hi]
    have e2 : (List.replicate n ([] : List Int)).getD i [] = [] := by simp [List.getD_eq_getElem?_getD, List.getElem?_replicate, hi]
    rw [e1, e2]
    exact ⟨rfl, by simp [sl0], fun j hj => absurd hj (by simp [sl0]), .inl rfl⟩
theorem errF_many (n : Int) (l : List Int) (m : Nat) (h : 4096 < l.length ∨ 4096 < m) : errF n l m = 4 := by unfold errF; rw [if_pos h]
end Go.Proofs.Ytlnmgcmpbbklhaa
