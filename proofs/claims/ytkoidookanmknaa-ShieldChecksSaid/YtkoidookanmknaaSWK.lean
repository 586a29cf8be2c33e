/- Plain laws of long division; shifted, take. -/
import Derived.Test.YtkoidookanmknaaSWA
import Derived.Test.YtkoidookanmknaaRows
import Derived.Test.YtkoidookanmknaaSWB
/- Plain arithmetic of magnitudes: long division. No program here. -/
namespace Go.Proofs.Ytkoidookanmknaa
set_option linter.unusedSimpArgs false
set_option linter.unusedVariables false

/-- The numbers of one digit's guess: W is divided by V; P is the weight of what lies below the first words. -/
structure Guess (W V P num u2 top next B : Nat) : Prop where
 pos : 0 < P
 w1 : (num * B + u2) * P ≤ W
 w2 : W < (num * B + u2 + 1) * P
 v1 : (top * B + next) * P ≤ V
 v2 : V < (top * B + next + 1) * P
 big : B ≤ 2 * top
 base : 1 ≤ B
 topB : top < B
 nextB : next < B
 uB : u2 < B
 small : W < B * V
 num1 : num ≤ top * B + (B - 1)

variable {W V P num u2 top next B : Nat}

theorem Guess.qB (h : Guess W V P num u2 top next B) : W / V < B := by
 have hV : 0 < V := by
  apply Nat.pos_of_ne_zero; intro h0; have := h.small; rw [h0] at this; omega
 rw [Nat.div_lt_iff_lt_mul hV]; exact h.small
theorem Guess.start (h : Guess W V P num u2 top next B) : W / V ≤ num / top := by
 have ht : 0 < top := by have := h.big; have := h.base; omega
 rw [Nat.le_div_iff_mul_le ht]
 have h1 : W / V * V ≤ W := Nat.div_mul_le_self W V
 have h2 : W / V * ((top * B + next) * P) ≤ W / V * V := Nat.mul_le_mul_left _ h.v1
 have h3 := h.w2
 generalize W / V = q at *
 have h4 : q * (top * B + next) * P < (num * B + u2 + 1) * P := by rw [Nat.mul_assoc]; omega
 have h5 := Nat.lt_of_mul_lt_mul_right h4
 have h6 : q * (top * B + next) = q * top * B + q * next := by rw [Nat.mul_add, Nat.mul_assoc]
 have h7 : q * top * B < (num + 1) * B := by rw [Nat.add_mul, Nat.one_mul]; have := h.uB; omega
 have h8 := Nat.lt_of_mul_lt_mul_right h7
 omega
theorem Guess.num_lt (h : Guess W V P num u2 top next B) : num / top ≤ B + 1 := by
 have ht : 0 < top := by have := h.big; have := h.base; omega
 have h1 : num / top < B + 2 := by
  rw [Nat.div_lt_iff_lt_mul ht, Nat.add_mul, Nat.mul_comm B top]
  have := h.num1; have := h.big; omega
 omega
/-- In the midst of the guess. -/
structure GMid (W V num top B digit rest : Nat) : Prop where
 eq : digit * top + rest = num
 ge : W / V ≤ digit
 le : digit ≤ B + 1
 rest : rest < B
theorem Guess.begin (h : Guess W V P num u2 top next B) : GMid W V num top B (num / top) (num % top) := by
 have ht : 0 < top := by have := h.big; have := h.base; omega
 refine ⟨?_, h.start, h.num_lt, Nat.lt_trans (Nat.mod_lt _ ht) h.topB⟩
 rw [Nat.mul_comm]; exact Nat.div_add_mod num top
/-- What holds behind the guess. -/
structure GEnd (W V B digit : Nat) : Prop where
 lt : digit < B
 ge : W / V ≤ digit
 le : digit ≤ W / V + 1
theorem Guess.fin (h : Guess W V P num u2 top next B) {digit rest : Nat} (he : digit * top + rest = num) (hge : W / V ≤ digit) (hlt : digit < B) (hok : digit * next ≤ rest * B + u2) : GEnd W V B digit := by
 refine ⟨hlt, hge, ?_⟩
 have h3 : digit * (top * B + next) ≤ num * B + u2 := by
  rw [Nat.mul_add, ← Nat.mul_assoc, ← he, Nat.add_mul]; omega
 have h4 : digit * (top * B + next) * P ≤ W := Nat.le_trans (Nat.mul_le_mul_right _ h3) h.w1
 have hV : 0 < V := by
  apply Nat.pos_of_ne_zero; intro h0; have := h.small; rw [h0] at this; omega
 have hW : W < (W / V + 1) * V := by
  rw [Nat.mul_comm]; exact Nat.lt_mul_div_succ W hV
 generalize W / V = q at *
 apply Nat.le_of_not_lt
 intro hc
 obtain ⟨d, rfl⟩ : ∃ d, digit = d + 1 := ⟨digit - 1, by omega⟩
 have h5 : (q + 1) * V ≤ d * V := Nat.mul_le_mul_right _ (by omega)
 -- (d+1) * v2 * P ≤ W < d * V ≤ d * (v2 + 1) * P
 have h6 : d * V ≤ d * ((top * B + next + 1) * P) := Nat.mul_le_mul_left _ (Nat.le_of_lt h.v2)
 have h7 : d * ((top * B + next + 1) * P) = d * (top * B + next) * P + d * P := by grind
 have h8 : (d + 1) * (top * B + next) * P = d * (top * B + next) * P + (top * B + next) * P := by grind
 have h9 : (top * B + next) * P < d * P := by omega
 have h10 := Nat.lt_of_mul_lt_mul_right h9
 have h11 : B ≤ top * B := Nat.le_mul_of_pos_left _ (by have := h.big; have := h.base; omega)
 omega
theorem Guess.down (h : Guess W V P num u2 top next B) {digit rest : Nat} (m : GMid W V num top B digit rest) (hc : B ≤ digit ∨ rest * B + u2 < digit * next) : W / V + 1 ≤ digit ∧ 1 ≤ digit ∧ (digit - 1) * top + (rest + top) = num := by
 have hq := h.qB
 have hlt : W / V < digit := by
  rcases hc with hc | hc
  ·exact Nat.lt_of_lt_of_le hq hc
  ·apply Nat.lt_of_not_le
   intro hle
   have h1 : W / V * V ≤ W := Nat.div_mul_le_self W V
   have h2 : W / V * ((top * B + next) * P) ≤ W / V * V := Nat.mul_le_mul_left _ h.v1
   have h3 := h.w2
   have he := m.eq
   generalize W / V = q at *
   have h4 : q * (top * B + next) * P < (num * B + u2 + 1) * P := by rw [Nat.mul_assoc]; omega
   have h5 := Nat.lt_of_mul_lt_mul_right h4
   have h6 : digit * (top * B + next) ≤ q * (top * B + next) := Nat.mul_le_mul_right _ hle
   have h7 : digit * (top * B + next) = digit * top * B + digit * next := by grind
   have h8 : num * B = digit * top * B + rest * B := by rw [← he, Nat.add_mul]
   omega
 refine ⟨hlt, Nat.lt_of_le_of_lt (Nat.zero_le _) hlt, ?_⟩
 have hpos : 1 ≤ digit := Nat.lt_of_le_of_lt (Nat.zero_le _) hlt
 clear hq
 obtain ⟨d, rfl⟩ : ∃ d, digit = d + 1 := ⟨digit - 1, by omega⟩
 have := m.eq
 rw [Nat.add_mul] at this
 simp only [Nat.add_sub_cancel]
 omega
/-- Down, and on. -/
theorem Guess.next' (h : Guess W V P num u2 top next B) {digit rest : Nat} (m : GMid W V num top B digit rest) (hc : B ≤ digit ∨ rest * B + u2 < digit * next) (hr : rest + top < B) : GMid W V num top B (digit - 1) (rest + top) := by
 obtain ⟨h1, h2, h3⟩ := h.down m hc
 exact ⟨h3, by omega, by have := m.le; omega, hr⟩
/-- Down, and out. -/
theorem Guess.out (h : Guess W V P num u2 top next B) {digit rest : Nat} (m : GMid W V num top B digit rest) (hc : B ≤ digit ∨ rest * B + u2 < digit * next) (hr : B ≤ rest + top) : GEnd W V B (digit - 1) := by
 obtain ⟨h1, h2, h3⟩ := h.down m hc
 have hlt : digit - 1 < B := by
  apply Nat.lt_of_not_le
  intro hle
  have h4 : B * top ≤ (digit - 1) * top := Nat.mul_le_mul_right _ hle
  have := h.num1
  rw [Nat.mul_comm B top] at h4
  have := h.base
  omega
 refine h.fin h3 (by omega) hlt ?_
 have h5 : (digit - 1) * next ≤ B * B := Nat.mul_le_mul (by omega) (Nat.le_of_lt h.nextB)
 have h6 : B * B ≤ (rest + top) * B := Nat.mul_le_mul_right _ hr
 omega
theorem Guess.stop (h : Guess W V P num u2 top next B) {digit rest : Nat} (m : GMid W V num top B digit rest) (h1 : digit < B) (h2 : digit * next ≤ rest * B + u2) : GEnd W V B digit := h.fin m.eq m.ge h1 h2

/-- Subtracting a multiple, in the midst: s is what lay there, q what lies there now. -/
structure TakeMid (s v q : List Nat) (g i bo cy : Nat) : Prop where
 len : q.length = s.length
 fit : Fit q
 bo1 : bo ≤ 1
 cyB : cy < B32
 rest : ∀ j, i ≤ j → q.getD j 0 = s.getD j 0
 top : v.length < i → cy = 0
 eq : mval (s.take i) + B32 ^ i * (bo + cy) = mval (q.take i) + g * mval (v.take i)
theorem TakeMid.begin (s v : List Nat) (g : Nat) (f : Fit s) : TakeMid s v s g 0 0 0 := ⟨rfl, f, by omega, B32_pos, fun _ _ => rfl, fun _ => rfl, by simp [mval]⟩
theorem TakeMid.prod {s v q : List Nat} {g i bo cy : Nat} (h : TakeMid s v q g i bo cy) (fv : Fit v) (hg : g < B32) : cy + g * v.getD i 0 < B32 * B32 := by
 have := word_prod hg (fv.getD i) B32_pos h.cyB
 omega
theorem TakeMid.step {s v q : List Nat} {g i bo cy : Nat} (h : TakeMid s v q g i bo cy) (fv : Fit v) (hg : g < B32) (hi : i < s.length) (p x bo' : Nat) (hp : p = cy + g * v.getD i 0)
  (hx : x + (p % B32 + bo) = q.getD i 0 + B32 * bo') (hxB : x < B32) (hb' : bo' ≤ 1) : TakeMid s v (q.set i x) g (i + 1) bo' (p / B32) := by
 have hpp := h.prod fv hg
 obtain ⟨h1, h2, h3, h4, h5, h6, h7⟩ := h
 refine ⟨by rw [List.length_set]; exact h1, h2.set _ _ hxB, hb', (Nat.div_lt_iff_lt_mul B32_pos).2 (by rw [hp]; exact hpp), fun j hj => ?_, fun hv => ?_, ?_⟩
 ·rw [getD_set_other _ _ _ _ (by omega)]; exact h5 j (by omega)
 ·rw [getD_ge v i (by omega)] at hp
  rw [hp, Nat.mul_zero, Nat.add_zero]; exact Nat.div_eq_of_lt h4
 ·rw [take_set_next _ _ _ (by omega), mval_take_next s, mval_take_next v, Nat.pow_succ]
  rw [h5 i (Nat.le_refl _)] at hx
  have hd := Nat.mod_add_div p B32
  generalize B32 ^ i = P at *
  generalize p % B32 = pm at *
  generalize p / B32 = pd at *
  generalize s.getD i 0 = si at *
  generalize v.getD i 0 = vi at *
  generalize mval (s.take i) = S at *
  generalize mval (q.take i) = Q at *
  generalize mval (v.take i) = V at *
  generalize B32 = B at *
  clear h1 h2 h3 h4 h5 h6 hxB hb' hpp hg hi
  have e : x + bo + cy + g * vi = si + B * bo' + B * pd := by omega
  have e2 : P * (x + bo + cy + g * vi) = P * (si + B * bo' + B * pd) := by rw [e]
  clear hx hd hp e
  grind
theorem TakeMid.done {s v q : List Nat} {g k bo cy : Nat} (h : TakeMid s v q g k bo cy) (hk : v.length < k) : mval (s.take k) + B32 ^ k * bo = mval (q.take k) + g * mval v := by
 have h1 := h.eq
 rw [h.top hk, take_all v k (by omega)] at h1
 exact h1

/-- Adding in place, in the midst. -/
structure BackMid (s v q : List Nat) (i c : Nat) : Prop where
 len : q.length = s.length
 fit : Fit q
 carry : c ≤ 1
 rest : ∀ j, i ≤ j → q.getD j 0 = s.getD j 0
 eq : mval (q.take i) + B32 ^ i * c = mval (s.take i) + mval (v.take i)
theorem BackMid.begin (s v : List Nat) (f : Fit s) : BackMid s v s 0 0 := ⟨rfl, f, by omega, fun _ _ => rfl, by simp [mval]⟩
theorem BackMid.step {s v q : List Nat} {i c : Nat} (h : BackMid s v q i c) (fv : Fit v) (hi : i < s.length) (t : Nat) (ht : t = c + (q.getD i 0 + v.getD i 0)) :
  BackMid s v (q.set i (t % B32)) (i + 1) (t / B32) := by
 obtain ⟨h1, h2, h3, h4, h5⟩ := h
 have a1 := h2.getD i
 have a2 := fv.getD i
 refine ⟨by rw [List.length_set]; exact h1, h2.set _ _ (Nat.mod_lt _ B32_pos), ?_, fun j hj => ?_, ?_⟩
 ·have : t / B32 < 2 := (Nat.div_lt_iff_lt_mul B32_pos).2 (by omega)
  omega
 ·rw [getD_set_other _ _ _ _ (by omega)]; exact h4 j (by omega)
 ·rw [take_set_next _ _ _ (by omega), mval_take_next s, mval_take_next v, Nat.pow_succ]
  rw [h4 i (Nat.le_refl _)] at ht
  have hd := Nat.mod_add_div t B32
  generalize B32 ^ i = P at *
  generalize t % B32 = tm at *
  generalize t / B32 = td at *
  have e : P * tm + P * B32 * td = P * t := by rw [← hd, Nat.mul_add, Nat.mul_assoc]
  rw [ht, Nat.mul_add, Nat.mul_add] at e
  omega

/-- Without a borrow the guess was right. -/
theorem digit_right {W V B q0 : Nat} {D X : Nat} (hV : 0 < V) (h : GEnd W V B q0) (he : W + D * 0 = X + q0 * V) : q0 = W / V ∧ X = W % V := by
 have h1 : q0 ≤ W / V := by rw [Nat.le_div_iff_mul_le hV]; omega
 have h2 : q0 = W / V := Nat.le_antisymm h1 h.ge
 refine ⟨h2, ?_⟩
 have := Nat.div_add_mod W V
 rw [← h2, Nat.mul_comm V] at this
 omega
/-- With one it was too great by 1, and adding V makes it good. -/
theorem digit_back {W V B q0 D X Y c : Nat} (hV : 0 < V) (h : GEnd W V B q0) (hX : X < D) (hY : Y < D) (hVD : V ≤ D) (he : W + D * 1 = X + q0 * V) (hb : Y + D * c = X + V) (hc : c ≤ 1) : 1 ≤ q0 ∧ q0 - 1 = W / V ∧ Y = W % V := by
 have h0 : W < q0 * V := by omega
 have h1 : W / V < q0 := by rw [Nat.div_lt_iff_lt_mul hV]; exact h0
 have h2 : q0 = W / V + 1 := Nat.le_antisymm h.le h1
 have h3 := Nat.div_add_mod W V
 have h6 := Nat.mod_lt W hV
 clear h
 generalize W / V = q at *
 generalize W % V = r at *
 subst h2
 have h4 : (q + 1) * V = V * q + V := by rw [Nat.add_mul, Nat.mul_comm, Nat.one_mul]
 rw [h4] at he h0
 generalize V * q = z at *
 have h5 : c = 1 := by
  by_cases hc0 : c = 0
  ·subst hc0; omega
  ·omega
 subst h5
 exact ⟨by omega, by omega, by omega⟩

/-- The long division in the midst: J digits are left to find. -/
structure KMid (A V m n : Nat) (u o : List Nat) (J : Nat) : Prop where
 ulen : u.length = m + 1
 olen : o.length = m - n + 1
 ufit : Fit u
 ofit : Fit o
 lt : mval (u.drop J) < V
 eq : A = mval u + B32 ^ J * mval (o.drop J) * V

theorem mval_drop' (l : List Nat) (i : Nat) (h : i < l.length) : mval (l.drop i) = l.getD i 0 + B32 * mval (l.drop (i + 1)) := by
 rw [getD_lt _ _ h, ← List.getElem_cons_drop h]; rfl
theorem KMid.begin {A V m n : Nat} {u : List Nat} (hu : u.length = m + 1) (fu : Fit u) (hA : A = mval u) (hlt : mval (u.drop (m - n + 1)) < V) : KMid A V m n u (List.replicate (m - n + 1) 0) (m - n + 1) :=
 ⟨hu, by simp, fu, fit_zeros _, hlt, by simp [mval, hA]⟩
theorem KMid.step {A V m n : Nat} {u o : List Nat} {j : Nat} (h : KMid A V m n u o (j + 1)) (hj : j < m - n + 1) (hjm : j ≤ m) (u' : List Nat) (hu : u'.length = u.length) (fu : Fit u') (ht : u'.take j = u.take j)
  (hd : mval (u'.drop j) = mval (u.drop j) % V) (hq : mval (u.drop j) / V < B32) (hV : 0 < V) : KMid A V m n u' (o.set j (mval (u.drop j) / V)) j := by
 obtain ⟨h1, h2, h3, h4, h5, h6⟩ := h
 refine ⟨hu.trans h1, by rw [List.length_set]; exact h2, fu, h4.set _ _ hq, by rw [hd]; exact Nat.mod_lt _ hV, ?_⟩
 have e1 := mval_take_drop u j (by omega)
 have e2 := mval_take_drop u' j (by omega)
 rw [ht, hd] at e2
 rw [mval_drop' (o.set j _) j (by rw [List.length_set]; omega), getD_set_same _ _ _ (by omega), set_drop, h6, e1, e2, Nat.pow_succ]
 have e3 := Nat.div_add_mod (mval (u.drop j)) V
 generalize mval (u.drop j) / V = q at *
 generalize mval (u.drop j) % V = r at *
 rw [← e3]
 generalize mval (o.drop (j + 1)) = O
 generalize B32 ^ j = P
 generalize B32 = B
 grind
theorem KMid.done {A V m n : Nat} {u o : List Nat} (h : KMid A V m n u o 0) : mval o = A / V ∧ mval u = A % V := by
 obtain ⟨h1, h2, h3, h4, h5, h6⟩ := h
 simp only [List.drop_zero, Nat.pow_zero, Nat.one_mul] at h5 h6
 have hV : 0 < V := by omega
 rw [h6]
 constructor
 ·rw [Nat.add_mul_div_right _ _ hV, Nat.div_eq_of_lt h5, Nat.zero_add]
 ·rw [Nat.add_mul_mod_self_right, Nat.mod_eq_of_lt h5]
/-- The numbers of the guess at digit j. -/
theorem KMid.guess {A V m n : Nat} {u o v : List Nat} {j : Nat} (h : KMid A V m n u o (j + 1)) (hj : j < m - n + 1) (hn : 2 ≤ n) (hnm : n ≤ m) (hv : v.length = n) (fv : Fit v) (hV : V = mval v) (hbig : B32 ≤ 2 * v.getD (n - 1) 0) :
  Guess (mval (u.drop j)) V (B32 ^ (n - 2)) (u.getD (j + n) 0 * B32 + u.getD (j + n - 1) 0) (u.getD (j + n - 2) 0) (v.getD (n - 1) 0) (v.getD (n - 2) 0) B32 ∧ mval ((u.drop j).drop (n + 1)) = 0 ∧ u.getD (j + n) 0 ≤ v.getD (n - 1) 0 := by
 obtain ⟨h1, h2, h3, h4, h5, h6⟩ := h
 obtain ⟨k, rfl⟩ : ∃ k, n = k + 2 := ⟨n - 2, by omega⟩
 have hVlt := mval_lt fv
 rw [hv, ← hV] at hVlt
 -- V
 have v0 := mval_take_drop v k (by omega)
 have v1 := mval_drop' v k (by omega)
 have v2 := mval_drop' v (k + 1) (by omega)
 rw [show v.drop (k + 1 + 1) = [] from List.drop_eq_nil_of_le (by omega)] at v2
 have v3 := mval_lt (fv.take k)
 rw [List.length_take, Nat.min_eq_left (by omega)] at v3
 -- W
 have w0 := mval_take_drop (u.drop j) (k + 2 + 1) (by rw [List.length_drop]; omega)
 have w1 := mval_drop' u j (by omega)
 have w2 := mval_take_drop (u.drop j) k (by rw [List.length_drop]; omega)
 have w3 := mval_drop' u (j + k) (by omega)
 have w4 := mval_drop' u (j + k + 1) (by omega)
 have w5 := mval_drop' u (j + k + 1 + 1) (by omega)
 have w6 := mval_lt ((h3.drop j).take k)
 rw [List.length_take, List.length_drop, Nat.min_eq_left (by omega)] at w6
 rw [List.drop_drop] at w2
 have fu := h3.getD
 have fj := h3.getD j
 have hWs : mval (u.drop j) < B32 * V := by
  rw [w1]
  have : B32 * (mval (u.drop (j + 1)) + 1) ≤ B32 * V := Nat.mul_le_mul_left _ h5
  rw [Nat.mul_add] at this; omega
 have hz : mval ((u.drop j).drop (k + 2 + 1)) = 0 := by
  apply Nat.eq_zero_of_not_pos
  intro hp
  have a1 : B32 ^ (k + 2 + 1) * 1 ≤ B32 ^ (k + 2 + 1) * mval ((u.drop j).drop (k + 2 + 1)) := Nat.mul_le_mul_left _ hp
  have a2 : B32 * V ≤ B32 * B32 ^ (k + 2) := Nat.mul_le_mul_left _ (Nat.le_of_lt hVlt)
  rw [Nat.pow_succ, Nat.mul_comm] at a1
  rw [Nat.pow_succ] at w0
  rw [Nat.mul_comm (B32 ^ (k + 2)) B32] at w0 a1
  omega
 have hz2 : mval (u.drop (j + k + 1 + 1 + 1)) = 0 := by
  rw [List.drop_drop] at hz
  rw [show j + k + 1 + 1 + 1 = j + (k + 2 + 1) from by omega]; exact hz
 rw [hz2] at w5
 -- the top word
 have hR := mval_take_drop (u.drop (j + 1)) (k + 1) (by rw [List.length_drop]; omega)
 rw [List.drop_drop, show j + 1 + (k + 1) = j + k + 1 + 1 from by omega, w5] at hR
 have fn := fv.getD (k + 1)
 have fx := fv.getD k
 have htop : u.getD (j + k + 1 + 1) 0 ≤ v.getD (k + 1) 0 := by
  apply Nat.le_of_not_lt
  intro hc
  have b1 : B32 ^ (k + 1) * (v.getD (k + 1) 0 + 1) ≤ B32 ^ (k + 1) * (u.getD (j + k + 1 + 1) 0 + B32 * 0) := Nat.mul_le_mul_left _ (by omega)
  have b2 : mval v = mval (v.take (k + 1)) + B32 ^ (k + 1) * v.getD (k + 1) 0 := by
   have := mval_take_succ v (k + 1) (by omega)
   rw [take_all v (k + 1 + 1) (by omega)] at this; exact this
  have b3 := mval_lt (fv.take (k + 1))
  rw [List.length_take, Nat.min_eq_left (by omega)] at b3
  rw [Nat.mul_add] at b1
  omega
 have e1 : j + (k + 2) = j + k + 1 + 1 := by omega
 have e2 : j + (k + 2) - 1 = j + k + 1 := by omega
 have e3 : j + (k + 2) - 2 = j + k := by omega
 rw [e1]
 rw [show j + k + 1 + 1 - 1 = j + k + 1 from by omega, show j + k + 1 + 1 - 2 = j + k from by omega, show k + 2 - 1 = k + 1 from by omega, show k + 2 - 2 = k from by omega] at *
 have g1 := fu (j + k)
 have g2 := fu (j + k + 1)
 clear fu
 refine ⟨⟨Nat.pow_pos B32_pos, ?_, ?_, ?_, ?_, hbig, B32_pos, fn, fx, g1, hWs, ?_⟩, hz, htop⟩
 ·rw [w2, w3, w4, w5]; simp only [Nat.mul_zero, Nat.add_zero]
  generalize B32 ^ k = P at *
  grind
 ·rw [w2, w3, w4, w5]; simp only [Nat.mul_zero, Nat.add_zero]
  generalize B32 ^ k = P at *
  have : P * (u.getD (j + k) 0 + B32 * (u.getD (j + k + 1) 0 + B32 * u.getD (j + k + 1 + 1) 0)) + P = ((u.getD (j + k + 1 + 1) 0 * B32 + u.getD (j + k + 1) 0) * B32 + u.getD (j + k) 0 + 1) * P := by grind
  omega
 ·rw [hV, v0, v1, v2]; simp only [mval, Nat.mul_zero, Nat.add_zero]
  generalize B32 ^ k = P at *
  grind
 ·rw [hV, v0, v1, v2]; simp only [mval, Nat.mul_zero, Nat.add_zero]
  generalize B32 ^ k = P at *
  have : P * (v.getD k 0 + B32 * v.getD (k + 1) 0) + P = (v.getD (k + 1) 0 * B32 + v.getD k 0 + 1) * P := by grind
  omega
 ·have : u.getD (j + k + 1 + 1) 0 * B32 ≤ v.getD (k + 1) 0 * B32 := Nat.mul_le_mul_right _ htop
  omega
end Go.Proofs.Ytkoidookanmknaa
/- Plain arithmetic of magnitudes: shifts by less than a word. No program here. -/
namespace Go.Proofs.Ytkoidookanmknaa
set_option linter.unusedSimpArgs false
set_option linter.unusedVariables false

/-- Shifting to the left in the midst. -/
structure ShiftMid (a o : List Nat) (S i : Nat) : Prop where
 len : o.length = a.length + 1
 fit : Fit o
 high : o.getD i 0 < S
 zero : ∀ j, i < j → o.getD j 0 = 0
 eq : mval (o.take (i + 1)) = mval (a.take i) * S
theorem ShiftMid.begin (a : List Nat) (S : Nat) (hS : 0 < S) : ShiftMid a (List.replicate (a.length + 1) 0) S 0 :=
 ⟨by simp, fit_zeros _, by rw [getD_zeros]; exact hS, fun j _ => getD_zeros _ _, by rw [List.take_replicate, mval_zeros]; simp [mval]⟩
/-- The parts of a word that is shifted. -/
theorem shift_parts {w S T : Nat} (hST : S * T = B32) (hw : w < B32) : w * S % B32 = S * (w % T) ∧ w * S / B32 = w / T ∧ w / T < S ∧ w * S % B32 + S ≤ B32 := by
 have hS : 0 < S := Nat.pos_of_ne_zero fun h => by rw [h, Nat.zero_mul] at hST; have := B32_pos; omega
 have hT : 0 < T := Nat.pos_of_ne_zero fun h => by rw [h, Nat.mul_zero] at hST; have := B32_pos; omega
 have h1 : w * S % B32 = S * (w % T) := by rw [← hST, Nat.mul_comm w S, Nat.mul_mod_mul_left]
 have h2 : w * S / B32 = w / T := by rw [← hST, Nat.mul_comm w S, Nat.mul_div_mul_left _ _ hS]
 have h3 : w / T < S := by rw [Nat.div_lt_iff_lt_mul hT, hST]; exact hw
 refine ⟨h1, h2, h3, ?_⟩
 rw [h1]
 have h4 : S * (w % T + 1) ≤ S * T := Nat.mul_le_mul_left _ (Nat.mod_lt _ hT)
 rw [hST, Nat.mul_add, Nat.mul_one] at h4
 exact h4
theorem ShiftMid.step {a o : List Nat} {S T i : Nat} (h : ShiftMid a o S i) (hST : S * T = B32) (fa : Fit a) (hi : i < a.length) (t : Nat) (ht : t = a.getD i 0 * S) :
  ShiftMid a ((o.set i (o.getD i 0 + t % B32)).set (i + 1) (t / B32)) S (i + 1) := by
 obtain ⟨h1, h2, h3, h4, h5⟩ := h
 obtain ⟨p1, p2, p3, p4⟩ := shift_parts hST (fa.getD i)
 rw [← ht] at p1 p2 p4
 rw [← p2] at p3
 have hl : (o.set i (o.getD i 0 + t % B32)).length = o.length := List.length_set
 refine ⟨by rw [List.length_set, hl]; exact h1, (h2.set _ _ (by omega)).set _ _ (by omega), ?_, fun j hj => ?_, ?_⟩
 ·rw [getD_set_same _ _ _ (by rw [hl]; omega)]; exact p3
 ·rw [getD_set_other _ _ _ _ (by omega), getD_set_other _ _ _ _ (by omega)]; exact h4 j (by omega)
 ·rw [take_set_next _ _ _ (by rw [hl]; omega), take_set_next _ _ _ (by omega), mval_take_next a, Nat.pow_succ]
  rw [mval_take_next o] at h5
  have hd := Nat.mod_add_div t B32
  generalize B32 ^ i = P at *
  generalize t % B32 = tm at *
  generalize t / B32 = td at *
  generalize o.getD i 0 = x at *
  generalize a.getD i 0 = y at *
  generalize mval (o.take i) = M at *
  generalize mval (a.take i) = K at *
  have e : P * (tm + B32 * td) = P * (y * S) := by rw [hd, ht]
  clear hd ht p1 p2 p3 p4 h1 h2 h3 h4 hl hi hST
  generalize B32 = B at *
  grind
theorem ShiftMid.done {a o : List Nat} {S : Nat} (h : ShiftMid a o S a.length) : mval o = mval a * S := by
 have := h.eq
 rw [take_all o _ (by rw [h.len]; exact Nat.le_refl _), take_all a _ (Nat.le_refl _)] at this
 exact this

/-- Shifting back in the midst: i words of r are there. -/
structure RestMid (u r : List Nat) (S n i : Nat) : Prop where
 len : r.length = n
 fit : Fit r
 eq : mval (r.take i) * S + u.getD 0 0 % S = mval (u.take i) + B32 ^ i * (u.getD i 0 % S)
theorem RestMid.begin (u : List Nat) (S n : Nat) : RestMid u (List.replicate n 0) S n 0 :=
 ⟨by simp, fit_zeros _, by simp [mval]⟩
/-- The word that is shifted back. -/
theorem back_parts {x y S T : Nat} (hST : S * T = B32) (_hx : x < B32) (hy : y < B32) : (x * B32 + y) / S % B32 = x % S * T + y / S ∧ x % S * T + y / S < B32 := by
 have hS : 0 < S := Nat.pos_of_ne_zero fun h => by rw [h, Nat.zero_mul] at hST; have := B32_pos; omega
 have h1 : (x * B32 + y) / S = x * T + y / S := by
  rw [← hST, show x * (S * T) = S * (x * T) from by rw [Nat.mul_left_comm], Nat.mul_add_div hS]
 have h2 : y / S < T := by rw [Nat.div_lt_iff_lt_mul hS, Nat.mul_comm T S, hST]; exact hy
 have h3 : x % S * T + y / S < B32 := by
  have h4 : (x % S + 1) * T ≤ S * T := Nat.mul_le_mul_right _ (Nat.mod_lt _ hS)
  rw [Nat.add_mul, Nat.one_mul, hST] at h4
  omega
 refine ⟨?_, h3⟩
 rw [h1]
 have h5 : x * T = B32 * (x / S) + x % S * T := by
  conv => lhs; rw [← Nat.div_add_mod x S]
  rw [← hST, Nat.add_mul]; congr 1
  grind
 rw [h5, Nat.add_assoc, Nat.mul_add_mod, Nat.mod_eq_of_lt h3]
theorem RestMid.step {u r : List Nat} {S T n i : Nat} (h : RestMid u r S n i) (hST : S * T = B32) (fu : Fit u) (hi : i < n) (t : Nat) (ht : t = (u.getD (i + 1) 0 * B32 + u.getD i 0) / S % B32) :
  RestMid u (r.set i t) S n (i + 1) := by
 obtain ⟨h1, h2, h3⟩ := h
 obtain ⟨p1, p2⟩ := back_parts hST (fu.getD (i + 1)) (fu.getD i)
 rw [← ht] at p1
 refine ⟨by rw [List.length_set]; exact h1, h2.set _ _ (by omega), ?_⟩
 rw [take_set_next _ _ _ (by omega), mval_take_next u, Nat.pow_succ, p1]
 have e := Nat.mod_add_div (u.getD i 0) S
 generalize u.getD (i + 1) 0 % S = x at *
 generalize u.getD i 0 / S = y at *
 generalize u.getD i 0 % S = z at *
 rw [← e, ← hST] at *
 generalize (S * T) ^ i = P at *
 generalize mval (r.take i) = M at *
 generalize mval (u.take i) = K at *
 generalize u.getD 0 0 % S = W at *
 clear p1 p2 e hi h1 h2 ht
 grind
theorem RestMid.done {u r : List Nat} {S n : Nat} (h : RestMid u r S n n) (hS : 0 < S) (fu : Fit u) (hn : n < u.length) (hlt : mval u < B32 ^ n) : mval r = mval u / S := by
 have h3 := h.eq
 rw [take_all r n (by rw [h.len]; exact Nat.le_refl _)] at h3
 have e := mval_take_drop u n (by omega)
 have hz : mval (u.drop n) = 0 := by
  apply Nat.eq_zero_of_not_pos; intro hp
  have : B32 ^ n * 1 ≤ B32 ^ n * mval (u.drop n) := Nat.mul_le_mul_left _ hp
  omega
 have e2 := mval_drop' u n hn
 have hz2 : u.getD n 0 = 0 := by omega
 rw [hz2, Nat.zero_mod, Nat.mul_zero, Nat.add_zero] at h3
 rw [hz, Nat.mul_zero, Nat.add_zero] at e
 rw [e, ← h3, Nat.mul_comm, Nat.mul_add_div hS, Nat.div_eq_of_lt (Nat.mod_lt _ hS), Nat.add_zero]
end Go.Proofs.Ytkoidookanmknaa
/- Plain arithmetic of magnitudes: the shifted divisor and the shifted dividend. No program here. -/
namespace Go.Proofs.Ytkoidookanmknaa
set_option linter.unusedSimpArgs false
set_option linter.unusedVariables false

theorem getD_succ_take (l : List Nat) (m : Nat) (h : l.length = m + 1) : mval l = mval (l.take m) + B32 ^ m * l.getD m 0 := by
 have := mval_take_succ l m (by omega)
 rw [take_all l (m + 1) (by omega)] at this; exact this
/-- The divisor shifted so that its highest word is at least half the base. -/
theorem top_shifted {k v : List Nat} {m S T : Nat} (hk : k.length = m + 1) (fk : Fit k) (hv : v.length = m + 2) (fv : Fit v) (hST : S * T = B32) (he : mval v = mval k * S) (h1 : B32 ≤ 2 * (k.getD m 0 * S)) (h2 : k.getD m 0 * S < B32) (hev : ∃ H, B32 = 2 * H) :
  mval (v.take (m + 1)) = mval k * S ∧ B32 ≤ 2 * v.getD m 0 ∧ v.getD (m + 1) 0 = 0 := by
 have ek := getD_succ_take k m hk
 have lk := mval_lt (fk.take m)
 rw [List.length_take, Nat.min_eq_left (by omega)] at lk
 have ev := getD_succ_take v (m + 1) hv
 have ev2 : mval (v.take (m + 1)) = mval (v.take m) + B32 ^ m * v.getD m 0 := mval_take_succ v m (by omega)
 have lv := mval_lt (fv.take m)
 rw [List.length_take, Nat.min_eq_left (by omega)] at lv
 have h3 : k.getD m 0 * S + S ≤ B32 := by
  have : k.getD m 0 * S < T * S := by rw [Nat.mul_comm T S, hST]; exact h2
  have h4 := Nat.lt_of_mul_lt_mul_right this
  have h5 : (k.getD m 0 + 1) * S ≤ T * S := Nat.mul_le_mul_right _ h4
  rw [Nat.add_mul, Nat.one_mul, Nat.mul_comm T S, hST] at h5; exact h5
 have hP : 0 < B32 ^ m := Nat.pow_pos B32_pos
 have hlt : mval k * S < B32 ^ (m + 1) := by
  have hS : 0 < S := Nat.pos_of_ne_zero fun h => by rw [h, Nat.zero_mul] at hST; have := B32_pos; omega
  have a1 : mval k * S < (B32 ^ m + B32 ^ m * k.getD m 0) * S := Nat.mul_lt_mul_of_pos_right (by omega) hS
  have a2 : (B32 ^ m + B32 ^ m * k.getD m 0) * S = B32 ^ m * (k.getD m 0 * S + S) := by grind
  have a3 : B32 ^ m * (k.getD m 0 * S + S) ≤ B32 ^ m * B32 := Nat.mul_le_mul_left _ h3
  rw [Nat.pow_succ]; omega
 have hz : v.getD (m + 1) 0 = 0 := by
  apply Nat.eq_zero_of_not_pos; intro hp
  have : B32 ^ (m + 1) * 1 ≤ B32 ^ (m + 1) * v.getD (m + 1) 0 := Nat.mul_le_mul_left _ hp
  omega
 have hV : mval (v.take (m + 1)) = mval k * S := by rw [hz] at ev; omega
 refine ⟨hV, ?_, hz⟩
 obtain ⟨H, hH⟩ := hev
 -- 2 * V ≥ P * B, V < P * (v + 1)
 have b1 : B32 ^ m * B32 ≤ B32 ^ m * (2 * (k.getD m 0 * S)) := Nat.mul_le_mul_left _ h1
 have b2 : B32 ^ m * (2 * (k.getD m 0 * S)) ≤ 2 * (mval k * S) := by
  rw [ek]
  have : 2 * ((mval (k.take m) + B32 ^ m * k.getD m 0) * S) = 2 * (mval (k.take m) * S) + B32 ^ m * (2 * (k.getD m 0 * S)) := by grind
  omega
 have b3 : B32 ^ m * B32 < B32 ^ m * (2 * (v.getD m 0 + 1)) := by
  have : B32 ^ m * (2 * (v.getD m 0 + 1)) = 2 * B32 ^ m + 2 * (B32 ^ m * v.getD m 0) := by grind
  omega
 have b4 := Nat.lt_of_mul_lt_mul_left b3
 omega
/-- What lies above the first digit is less than the divisor. -/
theorem start_lt {l k u : List Nat} {n m S : Nat} (hl : l.length = n) (fl : Fit l) (hk : k.length = m + 1) (hnm : m + 1 ≤ n) (hu : u.length = n + 1) (he : mval u = mval l * S) (htop : 0 < k.getD m 0) (hS : 0 < S) :
  mval (u.drop (n - (m + 1) + 1)) < mval k * S := by
 have e1 := mval_take_drop u (n - (m + 1) + 1) (by omega)
 have l1 := mval_lt fl
 rw [hl] at l1
 have ek := getD_succ_take k m hk
 have hpow : B32 ^ n = B32 ^ (n - (m + 1) + 1) * B32 ^ m := by rw [← Nat.pow_add]; congr 1; omega
 generalize B32 ^ (n - (m + 1) + 1) = Q at *
 have a1 : mval l * S < Q * B32 ^ m * S := Nat.mul_lt_mul_of_pos_right (by omega) hS
 have a2 : Q * mval (u.drop (n - (m + 1) + 1)) < Q * (B32 ^ m * S) := by rw [← Nat.mul_assoc]; omega
 have a3 := Nat.lt_of_mul_lt_mul_left a2
 have a4 : B32 ^ m * S ≤ mval k * S := by
  apply Nat.mul_le_mul_right
  have : B32 ^ m * 1 ≤ B32 ^ m * k.getD m 0 := Nat.mul_le_mul_left _ htop
  omega
 omega
theorem KMid.guess2 {A V n m j x1 x2 x3 tp nx : Nat} {us o v : List Nat} (h : KMid A V n (m + 1) us o (j + 1)) (hj : j < n - (m + 1) + 1) (h1 : 1 ≤ m) (hmn : m + 1 ≤ n) (hv : v.length = m + 1 + 1) (fv : Fit v) (hV : mval (v.take (m + 1)) = V) (hbig : B32 ≤ 2 * v.getD m 0)
  (e1 : us.getD (j + (m + 1)) 0 = x1) (e2 : us.getD (j + m) 0 = x2) (e3 : us.getD (j + (m - 1)) 0 = x3) (e4 : v.getD m 0 = tp) (e5 : v.getD (m - 1) 0 = nx) :
  Guess (mval (us.drop j)) V (B32 ^ (m - 1)) (x1 * B32 + x2) x3 tp nx B32 ∧ mval ((us.drop j).drop (m + 1 + 1)) = 0 := by
 have hg := h.guess (v := v.take (m + 1)) hj (by omega) hmn (by rw [List.length_take]; omega) (fv.take _) hV.symm (by rw [Nat.add_sub_cancel, getD_take _ _ _ (by omega)]; exact hbig)
 rw [Nat.add_sub_cancel, show m + 1 - 2 = m - 1 from by omega, getD_take _ _ _ (by omega), getD_take _ _ _ (by omega), show j + (m + 1) - 1 = j + m from by omega, show j + (m + 1) - 2 = j + (m - 1) from by omega, e1, e2, e3, e4, e5] at hg
 exact ⟨hg.1, hg.2.1⟩
theorem B32_even : ∃ H, B32 = 2 * H := ⟨2147483648, by rw [B32_eq]⟩
end Go.Proofs.Ytkoidookanmknaa
/- Plain arithmetic of magnitudes: a digit is found. No program here. -/
namespace Go.Proofs.Ytkoidookanmknaa
set_option linter.unusedSimpArgs false
set_option linter.unusedVariables false

theorem drop_eq_getD {a b : List Nat} (hl : a.length = b.length) (k : Nat) (h : ∀ i, k ≤ i → a.getD i 0 = b.getD i 0) : a.drop k = b.drop k := by
 apply List.ext_getElem
 ·rw [List.length_drop, List.length_drop, hl]
 ·intro i h1 h2
  rw [List.length_drop] at h1 h2
  rw [List.getElem_drop, List.getElem_drop]
  have := h (k + i) (by omega)
  rw [getD_lt _ _ (by omega), getD_lt _ _ (by omega)] at this
  exact this
theorem getD_drop (l : List Nat) (j i : Nat) : (l.drop j).getD i 0 = l.getD (j + i) 0 := by simp [List.getD_eq_getElem?_getD, List.getElem?_drop]
theorem drop_set_add (l : List Nat) (j i x : Nat) : (l.set (j + i) x).drop j = (l.drop j).set i x := by
 rw [List.drop_set, if_neg (by omega), Nat.add_sub_cancel_left]
theorem take_set_add (l : List Nat) (j i x : Nat) : (l.set (j + i) x).take j = l.take j := by
 rw [List.take_set]; exact List.set_eq_of_length_le (by rw [List.length_take]; omega)

/-- Adding the divisor back, from place j on. -/
structure BackR (j i : Nat) (u v q : List Nat) (c : Nat) : Prop where
 mid : BackMid (u.drop j) v (q.drop j) i c
 len : q.length = u.length
 fit : Fit q
 low : q.take j = u.take j
theorem BackR.begin (j : Nat) (u v : List Nat) (f : Fit u) : BackR j 0 u v u 0 := ⟨BackMid.begin _ _ (f.drop j), rfl, f, rfl⟩
theorem BackR.step {j i c : Nat} {u v q : List Nat} (h : BackR j i u v q c) (fv : Fit v) (hi : j + i < u.length) (t : Nat) (ht : t = c + (q.getD (j + i) 0 + v.getD i 0)) : BackR j (i + 1) u v (q.set (j + i) (t % B32)) (t / B32) := by
 obtain ⟨h1, h2, h3, h4⟩ := h
 refine ⟨?_, by rw [List.length_set]; exact h2, h3.set _ _ (Nat.mod_lt _ B32_pos), by rw [take_set_add]; exact h4⟩
 rw [drop_set_add]
 exact h1.step fv (by rw [List.length_drop]; omega) t (by rw [getD_drop]; exact ht)

theorem KMid.posV {A V m n : Nat} {u o : List Nat} {J : Nat} (h : KMid A V m n u o J) : 0 < V := Nat.lt_of_le_of_lt (Nat.zero_le _) h.lt
theorem mval_top_zero {s q : List Nat} {k : Nat} (hl : q.length = s.length) (hk : k ≤ s.length) (hz : mval (s.drop k) = 0) (hr : ∀ i, k ≤ i → q.getD i 0 = s.getD i 0) : mval s = mval (s.take k) ∧ mval q = mval (q.take k) := by
 have e1 := mval_take_drop s k hk
 have e2 := mval_take_drop q k (by omega)
 rw [drop_eq_getD hl k hr, hz] at e2
 rw [hz] at e1
 omega
/-- Without a borrow. -/
theorem KMid.right {A V n m j g cy : Nat} {us v q o : List Nat} (h : KMid A V n (m + 1) us o (j + 1)) (hj : j < n - (m + 1) + 1) (hmn : m + 1 ≤ n) (hg : GEnd (mval (us.drop j)) V B32 g) (hz : mval ((us.drop j).drop (m + 1 + 1)) = 0)
  (hV : mval (v.take (m + 1)) = V) (hv : v.length = m + 1 + 1) (ht : TakeMid (us.drop j) (v.take (m + 1)) (q.drop j) g (m + 1 + 1) 0 cy) (hl : q.length = us.length) (fq : Fit q) (low : q.take j = us.take j) : KMid A V n (m + 1) q (o.set j g) j := by
 have hul := h.ulen
 have hd := ht.done (by rw [List.length_take]; omega)
 obtain ⟨z1, z2⟩ := mval_top_zero (by rw [List.length_drop, List.length_drop, hl]) (by rw [List.length_drop]; omega) hz ht.rest
 rw [← z1, ← z2, hV] at hd
 obtain ⟨r1, r2⟩ := digit_right h.posV hg hd
 have := h.step hj (by omega) q hl fq low r2 (by rw [← r1]; exact hg.lt) h.posV
 rw [← r1] at this
 exact this
/-- With one. -/
theorem KMid.back {A V n m j g cy c : Nat} {us v q q2 o : List Nat} (h : KMid A V n (m + 1) us o (j + 1)) (hj : j < n - (m + 1) + 1) (hmn : m + 1 ≤ n) (hg : GEnd (mval (us.drop j)) V B32 g) (hz : mval ((us.drop j).drop (m + 1 + 1)) = 0)
  (hV : mval (v.take (m + 1)) = V) (hv : v.length = m + 1 + 1) (fv : Fit v) (ht : TakeMid (us.drop j) (v.take (m + 1)) (q.drop j) g (m + 1 + 1) 1 cy) (hl : q.length = us.length) (low : q.take j = us.take j)
  (hb : BackR j (m + 1 + 1) q (v.take (m + 1)) q2 c) : 1 ≤ g ∧ KMid A V n (m + 1) q2 (o.set j (g - 1)) j := by
 have hul := h.ulen
 have hd := ht.done (by rw [List.length_take]; omega)
 obtain ⟨z1, z2⟩ := mval_top_zero (by rw [List.length_drop, List.length_drop, hl]) (by rw [List.length_drop]; omega) hz ht.rest
 have hz3 : mval ((q.drop j).drop (m + 1 + 1)) = 0 := by rw [drop_eq_getD (by rw [List.length_drop, List.length_drop, hl]) _ ht.rest]; exact hz
 obtain ⟨z4, z5⟩ := mval_top_zero (by rw [List.length_drop, List.length_drop, hb.len]) (by rw [List.length_drop, hl]; omega) hz3 hb.mid.rest
 have hbe := hb.mid.eq
 rw [take_all (v.take (m + 1)) _ (by rw [List.length_take]; omega), hV, ← z4, ← z5] at hbe
 rw [← z1, ← z2, hV] at hd
 have x1 := mval_lt (ht.fit.take (m + 1 + 1))
 have x2 := mval_lt (hb.mid.fit.take (m + 1 + 1))
 have hql : m + 1 + 1 ≤ (q.drop j).length := by rw [List.length_drop, hl]; omega
 have hq2 : m + 1 + 1 ≤ (q2.drop j).length := by rw [List.length_drop, hb.len, hl]; omega
 rw [List.length_take, Nat.min_eq_left hql, ← z4] at x1
 rw [List.length_take, Nat.min_eq_left hq2, ← z5] at x2
 have x3 : V ≤ B32 ^ (m + 1 + 1) := by
  have := mval_lt (fv.take (m + 1))
  rw [hV, List.length_take, Nat.min_eq_left (by omega)] at this
  exact Nat.le_trans (Nat.le_of_lt this) (Nat.pow_le_pow_right B32_pos (by omega))
 obtain ⟨r0, r1, r2⟩ := digit_back h.posV hg x1 x2 x3 hd hbe hb.mid.carry
 refine ⟨r0, ?_⟩
 have := h.step hj (by omega) q2 (by rw [hb.len, hl]) hb.fit (by rw [hb.low, low]) r2 (by rw [← r1]; have := hg.lt; omega) h.posV
 rw [← r1] at this
 exact this
/-- The division is done. -/
theorem KMid.fin {l k us o : List Nat} {n m sh : Nat} (h : KMid (mval l * 2 ^ sh) (mval k * 2 ^ sh) n (m + 1) us o 0) (hk : 0 < mval k) : mval o = mval l / mval k ∧ mval us = mval l % mval k * 2 ^ sh := by
 obtain ⟨h1, h2⟩ := h.done
 have hS : 0 < 2 ^ sh := Nat.two_pow_pos _
 rw [Nat.mul_div_mul_right _ _ hS] at h1
 rw [Nat.mul_mod_mul_right] at h2
 exact ⟨h1, h2⟩
end Go.Proofs.Ytkoidookanmknaa
/- wide: shifted. -/
namespace Go.Proofs.Ytkoidookanmknaa
set_option linter.unusedSimpArgs false
set_option linter.unusedVariables false
open Go.RowKit

theorem or_low (b x y z : Nat) (hx : x < 2 ^ b) (hy : y = 2 ^ b * z) (hs : x + y < 4294967296) : bits BinOp.or IntKind.u32 (x : Int) (y : Int) = ((x + y : Nat) : Int) := by
 have h2 := Nat.two_pow_add_eq_or_of_lt hx z
 have h3 : x ||| y = x + y := by rw [Nat.or_comm, hy, ← h2, Nat.add_comm]
 have e : IntKind.u32.bits = 32 := rfl
 unfold bits
 simp only
 rw [BitVec.ofInt_natCast, BitVec.ofInt_natCast, BitVec.toNat_or, BitVec.toNat_ofNat, BitVec.toNat_ofNat, Nat.mod_eq_of_lt (by rw [e]; omega), Nat.mod_eq_of_lt (by rw [e]; omega), h3]
 clear h3 h2 hy
 generalize x + y = s at *
 unfold IntKind.wrap; simp [IntKind.signed, IntKind.bits]; omega
theorem pow_split {b : Nat} (hb : b < 32) : 2 ^ b * 2 ^ (32 - b) = B32 := by
 rw [← Nat.pow_add, show b + (32 - b) = 32 from by omega, B32_eq]
theorem shl_word (l : List Nat) (fl : Fit l) (i b : Nat) (hb : b < 32) : IntKind.u64.wrap (dg l i * 2 ^ b) = ((l.getD i 0 * 2 ^ b : Nat) : Int) ∧ l.getD i 0 * 2 ^ b < 18446744073709551616 := by
 have h1 := fl.getD i
 rw [B32_eq] at h1
 have h2 : 2 ^ b ≤ 2 ^ 31 := Nat.pow_le_pow_right (by omega) (by omega)
 have h3 : l.getD i 0 * 2 ^ b ≤ 4294967295 * 2 ^ 31 := Nat.mul_le_mul (by omega) h2
 have e : dg l i * 2 ^ b = ((l.getD i 0 * 2 ^ b : Nat) : Int) := by unfold dg; rw [Int.natCast_mul, Int.natCast_pow]; rfl
 rw [e]
 generalize l.getD i 0 * 2 ^ b = t at *
 refine ⟨?_, by omega⟩
 unfold IntKind.wrap; simp [IntKind.signed, IntKind.bits]; omega

set_option maxRecDepth 100000 in
set_option maxHeartbeats 1000000 in
theorem shifted_c (a : Option Addr) (n c : Nat) (l : List Nat) (by_ : Nat) (w : World) (hl : Wds w a n c l) (hn : n ≤ 4096) (hb : by_ < 32) :
  Calls Try.prog 86 #[.slice a n c, .int .i64 (by_ : Int)] w fun e w' => ∃ (o : List Nat), e = .returned (.slice (some ⟨w.heap.size, 0, none⟩) (n + 1) (n + 1)) ∧ Row w' w.heap.size o ∧ o.length = n + 1 ∧ Fit o ∧ mval o = mval l * 2 ^ by_ ∧ Ext w w' := by
 have hmk := make_words (n + 1) ((n : Int) + 1) ((n : Int) + 1) (by omega) (by omega) (by omega)
 have HL := Lib.hid hl
 have hlen := hl.len
 clear hl
 go_enter Try.func86, Try.ntmps86
 go_wp2_with fail
 have hrow : Row (w.alloc (.cells (wcells (List.replicate (n + 1) 0)) 85)) w.heap.size (List.replicate (n + 1) 0) := Blk.new _ _ _
 have HROW := Lib.hid hrow
 clear hrow hmk
 go_loopw [15] (fun v ws => ∃ (i : Nat) (o : List Nat), i ≤ n ∧ v = .int .i64 (i : Int) ∧ Row ws w.heap.size o ∧ ShiftMid l o (2 ^ by_) i ∧ Ext w ws) (fun v _ => n - (intOf v).toNat)
 case atStart => exact ⟨0, _, by omega, rfl, HROW.out, by rw [← hlen]; exact ShiftMid.begin l _ (Nat.two_pow_pos _), (by repeat (first | exact Ext.refl _ | assumption | refine Ext.setCell ?_ (by first | (simp; done) | (simp; omega) | omega) _ | refine Ext.alloc ?_ _ | refine Ext.drew ?_ | refine Ext.trans ?_ (by assumption)))⟩
 case round =>
  obtain ⟨i, o, hi, rfl, hrow, hmid, hE⟩ := hrel
  by_cases hlt : i < n
  ·obtain ⟨b, off, rfl, hb2, hc⟩ := (HL.out.keep hE.ik).at i hlt
   have ho := hmid.len
   rw [hlen] at ho
   have c0 := hrow.cell i (by omega)
   have f0 := hrow.free i
   have c1 := hrow.cell (i + 1) (by omega)
   have f1 := hrow.free (i + 1)
   have l0 := hrow.lt
   have hx := HL.out.fit.getD i
   have p1 := dg_nonneg l i
   have p2 := dg_lt HL.out.fit i
   obtain ⟨hw, hw2⟩ := shl_word l HL.out.fit i by_ hb
   have hst := hmid.step (pow_split hb) HL.out.fit (by omega) _ rfl
   obtain ⟨q1, q2, q3, q4⟩ := shift_parts (pow_split hb) (HL.out.fit.getD i)
   have hor := or_low by_ (o.getD i 0) (l.getD i 0 * 2 ^ by_ % B32) _ hmid.high q1 (by have := hmid.high; rw [B32_eq] at *; omega)
   have HST := Lib.hid hst; have HR := Lib.hid hrow; have HE := Lib.hid hE
   have hdo : dg o i = ((o.getD i 0 : Nat) : Int) := rfl
   obtain ⟨t, ht⟩ : ∃ t, l.getD i 0 * 2 ^ by_ = t := ⟨_, rfl⟩
   rw [ht] at hw hor HST hw2
   have hm : (t : Int) % 4294967296 = ((t % B32 : Nat) : Int) := (dg_div t t rfl).1
   have hd : (t : Int) / 4294967296 = ((t / B32 : Nat) : Int) := (dg_div t t rfl).2
   have hd2 : ((t / B32 : Nat) : Int) % 4294967296 = ((t / B32 : Nat) : Int) := by rw [B32_eq]; omega
   have HH := Lib.hid (And.intro hw (And.intro hor (And.intro hdo (And.intro hm (And.intro hd hd2)))))
   clear hw hor hdo hm hd hd2 ht q1 q2 q3 q4 hst hrow hE hmid ho hx hw2
   go_wp2_with fail
   rw [HH.out.1, HH.out.2.2.2.1, HH.out.2.2.1, HH.out.2.1, HH.out.2.2.2.2.1, HH.out.2.2.2.2.2]
   go_roundw
   case rel => exact ⟨i + 1, _, by omega, by go_num, Row.set (Row.set HR.out _ _ _ rfl) _ _ _ rfl, HST.out, (HE.out.setCell (Nat.le_refl _) _).setCell (Nat.le_refl _) _⟩
   case measure => simp [intOf]; omega
  ·obtain rfl : i = n := by omega
   have hm := hmid
   rw [← hlen] at hm
   have hv := hm.done
   have HV := Lib.hid hv; have HR := Lib.hid hrow; have HM := Lib.hid hmid; have HE := Lib.hid hE
   clear hv hrow hmid hE hm
   go_wp2_with fail
   go_ret
   exact ⟨o, rfl, HR.out, by rw [HM.out.len, hlen], HM.out.fit, HV.out, HE.out⟩
end Go.Proofs.Ytkoidookanmknaa
/- wide: take. -/
namespace Go.Proofs.Ytkoidookanmknaa
set_option linter.unusedSimpArgs false
set_option linter.unusedVariables false
open Go.RowKit

theorem grown_refl (w : World) (g : Option Nat) : w.grownBy w g := ⟨rfl, rfl, rfl, Nat.le_refl _, fun _ _ _ => rfl⟩
theorem Row.grown {w w' : World} {b g : Nat} {l : List Nat} (h : Row w b l) (k : w.grownBy w' (some g)) (hne : b ≠ g) : Row w' b l := Blk.grown h k hne
/-- What 'take' leaves. -/
structure TakeR (ub j k : Nat) (u v : List Nat) (g : Nat) (w w' : World) (q : List Nat) (bo cy : Nat) : Prop where
 row : Row w' ub q
 mid : TakeMid (u.drop j) v (q.drop j) g k bo cy
 len : q.length = u.length
 fit : Fit q
 low : q.take j = u.take j
 grown : w.grownBy w' (some ub)

theorem TakeR.step {ub j i : Nat} {u v q : List Nat} {g bo cy : Nat} {w wr : World} (h : TakeR ub j i u v g w wr q bo cy) (fv : Fit v) (hg : g < B32) (hi : j + i < u.length) (p : Nat) (hp : p = cy + g * v.getD i 0) (P bI : Int) (hP : P = (p : Int)) (hb : bI = (bo : Int)) :
  ∃ x bo' : Nat, IntKind.u64.wrap (IntKind.u64.wrap (dg q (j + i) - P % 4294967296) - bI) / 9223372036854775808 = (bo' : Int) ∧ P / 4294967296 = ((p / B32 : Nat) : Int) ∧
   TakeR ub j (i + 1) u v g w (wr.setCell ⟨ub, j + i, none⟩ (.int .u32 (IntKind.u64.wrap (IntKind.u64.wrap (dg q (j + i) - P % 4294967296) - bI) % 4294967296))) (q.set (j + i) x) bo' (p / B32) := by
 subst hP; subst hb
 obtain ⟨h1, h2, h3, h4, h5, h6⟩ := h
 have hb := h2.bo1
 have hq := h4.getD (j + i)
 have hlow := Nat.mod_lt p B32_pos
 obtain ⟨x, bo', hx, hxB, hb', hT⟩ : ∃ x bo' : Nat, x + (p % B32 + bo) = q.getD (j + i) 0 + B32 * bo' ∧ x < B32 ∧ bo' ≤ 1 ∧ (IntKind.u64.wrap (IntKind.u64.wrap (dg q (j + i) - (p : Int) % 4294967296) - (bo : Int)) % 4294967296 = (x : Int) ∧ IntKind.u64.wrap (IntKind.u64.wrap (dg q (j + i) - (p : Int) % 4294967296) - (bo : Int)) / 9223372036854775808 = (bo' : Int)) := by
  rw [IntKind.wrap_u64, IntKind.wrap_u64]
  unfold dg
  rw [B32_eq] at *
  by_cases hc : q.getD (j + i) 0 < p % 4294967296 + bo
  ·exact ⟨q.getD (j + i) 0 + 4294967296 - (p % 4294967296 + bo), 1, by omega, by omega, by omega, by omega, by omega⟩
  ·exact ⟨q.getD (j + i) 0 - (p % 4294967296 + bo), 0, by omega, by omega, by omega, by omega, by omega⟩
 refine ⟨x, bo', hT.2, (dg_div p p rfl).2, h1.set _ _ _ hT.1, ?_, by rw [List.length_set]; exact h3, h4.set _ _ hxB, by rw [take_set_add]; exact h5, grown_trans h6 (grown_setCell _ _ _ _)⟩
 rw [drop_set_add]
 exact h2.step fv hg (by rw [List.length_drop]; omega) p x bo' hp (by rw [getD_drop]; exact hx) hxB hb'

set_option maxRecDepth 100000 in
set_option maxHeartbeats 2000000 in
theorem take_c (ub j k cA vb m d : Nat) (u vr : List Nat) (g : Nat) (w : World) (hu : Row w ub u) (fu : Fit u) (hjk : j + k ≤ u.length) (hv : Row w vb vr) (fv : Fit vr) (hm : m ≤ vr.length) (hne : vb ≠ ub) (hg : g < B32) (hn : u.length ≤ 4096) :
  Calls Try.prog 87 #[.slice (some ⟨ub, j, none⟩) k cA, .slice (some ⟨vb, 0, none⟩) m d, .int .u64 (g : Int)] w fun e w' => ∃ (q : List Nat) (bo cy : Nat), e = .returned (.bool (decide (0 < bo))) ∧ TakeR ub j k u (vr.take m) g w w' q bo cy := by
 have HU := Lib.hid hu; have HV := Lib.hid hv; have FU := Lib.hid fu; have FV := Lib.hid fv
 have hg' := hg
 rw [B32_eq] at hg'
 clear hu hv fu fv
 go_enter Try.func87, Try.ntmps87
 go_wp2_with fail
 go_loopw [7, 8, 14] (fun cv bv v ws => ∃ (i bo cy : Nat) (q : List Nat), i ≤ k ∧ v = .int .i64 (i : Int) ∧ bv = .int .u64 (bo : Int) ∧ cv = .int .u64 (cy : Int) ∧ TakeR ub j i u (vr.take m) g w ws q bo cy) (fun _ _ v _ => k - (intOf v).toNat)
 case atStart => exact ⟨0, 0, 0, u, by omega, rfl, rfl, rfl, HU.out, TakeMid.begin _ _ _ (FU.out.drop j), rfl, FU.out, rfl, grown_refl _ _⟩
 case round =>
  obtain ⟨i, bo, cy, q, hi, rfl, rfl, rfl, hR⟩ := hrel
  by_cases hlt : i < k
  ·have hlen := hR.len
   have c0 := hR.row.cell (j + i) (by omega)
   have f0 := hR.row.free (j + i)
   have l0 := hR.row.lt
   have p1 := dg_nonneg q (j + i)
   have p2 := dg_lt hR.fit (j + i)
   have p3 := hR.mid.bo1
   have p4 := hR.mid.cyB
   rw [B32_eq] at p4
   by_cases him : i < m
   ·have c1 := (hR.grown |> HV.out.grown (hne := hne)).cell i (by omega)
    have p5 := dg_nonneg vr i
    have p6 := dg_lt FV.out i
    have ge : (vr.take m).getD i 0 = vr.getD i 0 := getD_take _ _ _ him
    have pr := hR.mid.prod (FV.out.take m) hg
    rw [ge] at pr
    have p7 : (0 : Int) ≤ (g : Int) * dg vr i := Int.mul_nonneg (by omega) p5
    have p8 : (cy : Int) + (g : Int) * dg vr i ≤ 18446744073709551615 := by
     rw [B32_eq] at pr
     have e : (g : Int) * dg vr i = ((g * vr.getD i 0 : Nat) : Int) := by unfold dg; rw [Int.natCast_mul]
     rw [e]; omega
    obtain ⟨x, bo', e1, e2, hst⟩ := hR.step (FV.out.take m) hg (by omega) _ rfl ((cy : Int) + (g : Int) * dg vr i) (bo : Int) (by rw [ge]; unfold dg; rw [Int.natCast_add, Int.natCast_mul]) rfl
    have HST := Lib.hid (And.intro e1 (And.intro e2 hst))
    clear hR pr e1 e2 hst
    go_wp2_with fail
    rw [HST.out.1, HST.out.2.1]
    go_roundw
    case rel => exact ⟨i + 1, _, _, _, by omega, by go_num, rfl, rfl, HST.out.2.2⟩
    case measure => simp [intOf]; omega
   ·have ge : (vr.take m).getD i 0 = 0 := getD_ge _ _ (by rw [List.length_take]; omega)
    obtain ⟨x, bo', e1, e2, hst⟩ := hR.step (FV.out.take m) hg (by omega) _ rfl (cy : Int) (bo : Int) (by rw [ge]; simp) rfl
    rw [show (cy : Int) % 4294967296 = (cy : Int) from by omega] at e1 hst
    have HST := Lib.hid (And.intro e1 (And.intro e2 hst))
    clear hR e1 e2 hst
    go_wp2_with fail
    rw [HST.out.1, HST.out.2.1]
    go_roundw
    case rel => exact ⟨i + 1, _, _, _, by omega, by go_num, rfl, rfl, HST.out.2.2⟩
    case measure => simp [intOf]; omega
  ·obtain rfl : i = k := by omega
   have HR := Lib.hid hR
   clear hR
   go_wp2_with fail
   go_ret
   exact ⟨q, bo, cy, by simp, HR.out⟩
end Go.Proofs.Ytkoidookanmknaa
