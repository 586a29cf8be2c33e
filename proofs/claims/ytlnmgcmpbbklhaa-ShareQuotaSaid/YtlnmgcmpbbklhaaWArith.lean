/- Plain arithmetic of magnitudes: lists of words, least significant first. No program here. -/
namespace Go.Proofs.Ytlnmgcmpbbklhaa
set_option linter.unusedSimpArgs false
set_option linter.unusedVariables false

/-- The base of the words. -/
@[irreducible] def B32 : Nat := 4294967296
theorem B32_eq : B32 = 4294967296 := by unfold B32; rfl
theorem B32_pos : 0 < B32 := by rw [B32_eq]; omega
theorem getD_lt (l : List Nat) (i : Nat) (h : i < l.length) : l.getD i 0 = l[i] := by simp [List.getD_eq_getElem?_getD, h]
theorem getD_ge (l : List Nat) (i : Nat) (h : l.length ≤ i) : l.getD i 0 = 0 := by simp [List.getD_eq_getElem?_getD, h]

/-- The number of a list of words. -/
def mval : List Nat → Nat
  | [] => 0
  | d :: l => d + B32 * mval l

/-- All words fit. -/
def Fit (l : List Nat) : Prop := ∀ d, d ∈ l → d < B32

theorem Fit.nil : Fit [] := fun _ h => by cases h
theorem Fit.cons {d : Nat} {l : List Nat} (h : d < B32) (k : Fit l) : Fit (d :: l) := fun x hx => by
  rcases List.mem_cons.1 hx with rfl | hx
  · exact h
  · exact k x hx
theorem Fit.head {d : Nat} {l : List Nat} (h : Fit (d :: l)) : d < B32 := h d (List.mem_cons_self)
theorem Fit.tail {d : Nat} {l : List Nat} (h : Fit (d :: l)) : Fit l := fun x hx => h x (List.mem_cons_of_mem _ hx)
theorem Fit.append {l k : List Nat} (h : Fit l) (g : Fit k) : Fit (l ++ k) := fun x hx => by
  rcases List.mem_append.1 hx with hx | hx
  · exact h x hx
  · exact g x hx
theorem Fit.take {l : List Nat} (h : Fit l) (k : Nat) : Fit (l.take k) := fun x hx => h x (List.mem_of_mem_take hx)
theorem Fit.drop {l : List Nat} (h : Fit l) (k : Nat) : Fit (l.drop k) := fun x hx => h x (List.mem_of_mem_drop hx)
theorem Fit.getD {l : List Nat} (h : Fit l) (i : Nat) : l.getD i 0 < B32 := by
  by_cases hi : i < l.length
  · rw [getD_lt _ _ hi]; exact h _ (List.getElem_mem hi)
  · rw [getD_ge _ _ (by omega)]; exact B32_pos

theorem mval_append (l k : List Nat) : mval (l ++ k) = mval l + B32 ^ l.length * mval k := by
  induction l with
  | nil => simp [mval]
  | cons d l ih => simp only [List.cons_append, mval, ih, List.length_cons, Nat.pow_succ]; grind
theorem mval_lt {l : List Nat} (h : Fit l) : mval l < B32 ^ l.length := by
  induction l with
  | nil => simp [mval]
  | cons d l ih =>
    have h1 := h.head
    have h2 := ih h.tail
    simp only [mval, List.length_cons, Nat.pow_succ]
    have h3 : B32 * (mval l + 1) ≤ B32 * B32 ^ l.length := Nat.mul_le_mul_left _ h2
    rw [Nat.mul_comm (B32 ^ l.length)]
    rw [Nat.mul_add] at h3
    omega
theorem mval_snoc (l : List Nat) (d : Nat) : mval (l ++ [d]) = mval l + B32 ^ l.length * d := by
  rw [mval_append]; simp [mval]
theorem mval_zeros (n : Nat) : mval (List.replicate n 0) = 0 := by
  induction n with
  | zero => rfl
  | succ n ih => rw [List.replicate_succ, mval, ih]; simp
/-- A list and the sum of its first and last parts. -/
theorem mval_take_drop (l : List Nat) (k : Nat) (h : k ≤ l.length) : mval l = mval (l.take k) + B32 ^ k * mval (l.drop k) := by
  have h1 := mval_append (l.take k) (l.drop k)
  rw [List.take_append_drop, List.length_take, Nat.min_eq_left h] at h1
  exact h1
theorem mval_take_succ (l : List Nat) (k : Nat) (h : k < l.length) : mval (l.take (k + 1)) = mval (l.take k) + B32 ^ k * l.getD k 0 := by
  rw [List.take_succ_eq_append_getElem h, mval_snoc, List.length_take, Nat.min_eq_left (by omega), getD_lt _ _ h]

/-- The length without zeros at the end. -/
def nlen (l : List Nat) : Nat → Nat
  | 0 => 0
  | k + 1 => if l.getD k 0 = 0 then nlen l k else k + 1
theorem nlen_le (l : List Nat) : ∀ k, nlen l k ≤ k
  | 0 => Nat.le_refl _
  | k + 1 => by
    unfold nlen; split
    · exact Nat.le_succ_of_le (nlen_le l k)
    · exact Nat.le_refl _
/-- Without zeros at the end. -/
def trim (l : List Nat) : List Nat := l.take (nlen l l.length)
/-- No zero at the end. -/
def Norm (l : List Nat) : Prop := l = [] ∨ l.getD (l.length - 1) 0 ≠ 0
theorem nlen_last (l : List Nat) : ∀ k, nlen l k = 0 ∨ l.getD (nlen l k - 1) 0 ≠ 0
  | 0 => .inl rfl
  | k + 1 => by
    unfold nlen; split
    · exact nlen_last l k
    · rename_i h; exact .inr (by simpa using h)
theorem trim_length (l : List Nat) : (trim l).length = nlen l l.length := by
  rw [trim, List.length_take, Nat.min_eq_left (nlen_le _ _)]
theorem getD_take (l : List Nat) (k i : Nat) (h : i < k) : (l.take k).getD i 0 = l.getD i 0 := by
  simp [List.getD_eq_getElem?_getD, h]
theorem trim_norm (l : List Nat) : Norm (trim l) := by
  have h := nlen_last l l.length
  have hl := trim_length l
  rcases h with h | h
  · left; exact List.eq_nil_of_length_eq_zero (by omega)
  · by_cases h0 : nlen l l.length = 0
    · left; exact List.eq_nil_of_length_eq_zero (by omega)
    · right; rw [hl, trim, getD_take _ _ _ (by omega)]; exact h
theorem mval_take_nlen (l : List Nat) : ∀ k, k ≤ l.length → mval (l.take (nlen l k)) = mval (l.take k)
  | 0, _ => rfl
  | k + 1, hk => by
    unfold nlen; split
    · rename_i h; rw [mval_take_nlen l k (by omega), mval_take_succ l k (by omega), h]; simp
    · rfl
theorem mval_trim (l : List Nat) : mval (trim l) = mval l := by
  rw [trim, mval_take_nlen l _ (Nat.le_refl _), List.take_of_length_le (Nat.le_refl _)]
theorem trim_fit {l : List Nat} (h : Fit l) : Fit (trim l) := h.take _
theorem norm_pos {l : List Nat} (h : Norm l) (hl : l ≠ []) : B32 ^ (l.length - 1) ≤ mval l := by
  have h0 : 0 < l.length := List.length_pos_iff.2 hl
  rcases h with h | h
  · exact absurd h hl
  · have h1 := mval_take_succ l (l.length - 1) (by omega)
    rw [show l.length - 1 + 1 = l.length from by omega, List.take_of_length_le (Nat.le_refl _)] at h1
    have h2 : B32 ^ (l.length - 1) * 1 ≤ B32 ^ (l.length - 1) * l.getD (l.length - 1) 0 := Nat.mul_le_mul_left _ (by omega)
    omega
theorem norm_zero {l : List Nat} (h : Norm l) (h0 : mval l = 0) : l = [] := by
  by_cases hl : l = []
  · exact hl
  · have h1 := norm_pos h hl
    have h2 : 0 < B32 ^ (l.length - 1) := Nat.pow_pos B32_pos
    omega
theorem norm_len_lt {a b : List Nat} (_ha : Norm a) (hb : Norm b) (fa : Fit a) (h : a.length < b.length) : mval a < mval b := by
  have h1 := norm_pos hb (by intro h0; rw [h0] at h; exact absurd h (by simp))
  have h2 := mval_lt fa
  have h3 : B32 ^ a.length ≤ B32 ^ (b.length - 1) := Nat.pow_le_pow_right B32_pos (by omega)
  omega
/-- The length tells the size. -/
theorem norm_len_le {l : List Nat} (h : Norm l) (f : Fit l) (n : Nat) : mval l < B32 ^ n ↔ l.length ≤ n := by
  constructor
  · intro hv
    by_cases hl : l = []
    · simp [hl]
    · have h1 := norm_pos h hl
      have h2 : B32 ^ (l.length - 1) < B32 ^ n := by omega
      have h3 := (Nat.pow_lt_pow_iff_right (a := B32) (by rw [B32_eq]; omega)).1 h2
      omega
  · intro hn
    have h1 := mval_lt f
    have h2 : B32 ^ l.length ≤ B32 ^ n := Nat.pow_le_pow_right B32_pos hn
    omega
/-- Equal lengths: the first place from the top where they differ decides. -/
theorem mval_cmp {a b : List Nat} (fa : Fit a) (h : a.length = b.length) (k : Nat) (hk : k < a.length) (htop : a.drop (k + 1) = b.drop (k + 1))
    (hlt : a.getD k 0 < b.getD k 0) : mval a < mval b := by
  have ha := mval_take_drop a (k + 1) (by omega)
  have hb := mval_take_drop b (k + 1) (by omega)
  have ha2 := mval_take_succ a k hk
  have hb2 := mval_take_succ b k (by omega)
  have h1 := mval_lt (fa.take k)
  rw [List.length_take, Nat.min_eq_left (by omega)] at h1
  have h2 : B32 ^ k * (a.getD k 0 + 1) ≤ B32 ^ k * b.getD k 0 := Nat.mul_le_mul_left _ hlt
  rw [htop] at ha
  rw [Nat.mul_add] at h2
  omega
theorem drop_succ_eq {a b : List Nat} (h : a.length = b.length) (k : Nat) (hk : k < a.length) (htop : a.drop (k + 1) = b.drop (k + 1)) (he : a.getD k 0 = b.getD k 0) :
    a.drop k = b.drop k := by
  rw [List.drop_eq_getElem_cons hk, List.drop_eq_getElem_cons (by omega : k < b.length), htop]
  rw [getD_lt _ _ hk, getD_lt _ _ (by omega : k < b.length)] at he
  rw [he]
/-- The greatest number of words. -/
@[irreducible] def WMost : Nat := 512
theorem WMost_eq : WMost = 512 := by unfold WMost; rfl
/-- Magnitudes of wide integers are below this. -/
@[irreducible] def WTop : Nat := B32 ^ WMost
theorem norm_top {l : List Nat} (h : Norm l) (f : Fit l) : mval l < WTop ↔ l.length ≤ 512 := by unfold WTop; rw [norm_len_le h f WMost, WMost_eq]
theorem WTop_ge {l : List Nat} (f : Fit l) (h : l.length ≤ 512) : mval l < WTop := by
  have h2 := mval_lt f
  have h3 : B32 ^ l.length ≤ B32 ^ WMost := Nat.pow_le_pow_right B32_pos (by rw [WMost_eq]; exact h)
  unfold WTop; exact Nat.lt_of_lt_of_le h2 h3
end Go.Proofs.Ytlnmgcmpbbklhaa
