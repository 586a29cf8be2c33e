/- exact: Circle, the terms that are appended. -/
import Derived.Test.YtgmedfloflplgaaECirc0
import Derived.Deep.AppendLies
namespace Go.Proofs.Ytgmedfloflplgaa
open Go.RowKit

def row0 : Row1 := ⟨0, 0, [], []⟩
/-- A list that is summed up: it lies in ws, its numbers in W2. -/
def RowIn (W2 ws : World) (r : Row1) : Prop :=
  r.b < ws.heap.size ∧ r.ps.length ≤ 1000 ∧ r.xs.length = r.ps.length ∧ ∀ k, k < r.ps.length → ws.cell? ⟨r.b, k * 2, none⟩ = some (.bool (r.ps.getD k ⟨false, none, 0, 0⟩).neg) ∧
    ws.cell? ⟨r.b, k * 2 + 1, none⟩ = some (.slice (r.ps.getD k ⟨false, none, 0, 0⟩).a (r.ps.getD k ⟨false, none, 0, 0⟩).n (r.ps.getD k ⟨false, none, 0, 0⟩).c) ∧ IsI W2 (r.ps.getD k ⟨false, none, 0, 0⟩) (r.xs.getD k 0)
def rowVal (r : Row1) : Value := .slice (some ⟨r.b, 0, none⟩) r.ps.length r.c
/-- The terms so far. -/
def Terms (W2 ws : World) (v : Value) (L : List Row1) : Prop :=
  ws.ownsRow W2.heap.size 89 1 v L.length (L.map rowVal) ∧ ∀ i, i < L.length → RowIn W2 ws (L.getD i row0) ∧ v.ownBlock ≠ some (L.getD i row0).b
theorem RowIn.ext {W2 w w' : World} {r : Row1} (k : Ext w w') (h : RowIn W2 w r) : RowIn W2 w' r :=
  ⟨Nat.lt_of_lt_of_le h.1 k.size, h.2.1, h.2.2.1, fun i hi => ⟨k.cell (h.2.2.2 i hi).1, k.cell (h.2.2.2 i hi).2.1, (h.2.2.2 i hi).2.2⟩⟩
theorem RowIn.grown {W2 w w' : World} {r : Row1} {row : Option Nat} (k : w.grownBy w' row) (hne : row ≠ some r.b) (h : RowIn W2 w r) : RowIn W2 w' r := by
  have hc : ∀ o, w'.cell? ⟨r.b, o, none⟩ = w.cell? ⟨r.b, o, none⟩ := fun o => World.cell?_of_block (w := w) (k.block r.b h.1 (fun e => hne e.symm))
  exact ⟨Nat.lt_of_lt_of_le h.1 k.size, h.2.1, h.2.2.1, fun i hi => ⟨by rw [hc]; exact (h.2.2.2 i hi).1, by rw [hc]; exact (h.2.2.2 i hi).2.1, (h.2.2.2 i hi).2.2⟩⟩
theorem owns_lt {w : World} {base : Nat} {e : TypeId} {s : Nat} {v : Value} {n : Nat} {xs : List Value} (h : w.ownsRow base e s v n xs) {g : Nat} (hg : v.ownBlock = some g) : base ≤ g ∧ g < w.heap.size := by
  obtain ⟨_, ⟨hv, _⟩ | ⟨g', cap, cur, hv, hb, hh, _⟩⟩ := h
  · subst hv; simp [Value.ownBlock] at hg
  · subst hv; simp [Value.ownBlock] at hg; subst hg; exact ⟨hb, lt_of_block hh⟩
theorem owns_ext {w w' : World} {base : Nat} {e : TypeId} {s : Nat} {v : Value} {n : Nat} {xs : List Value} (k : Ext w w') (h : w.ownsRow base e s v n xs) : w'.ownsRow base e s v n xs := by
  obtain ⟨h0, ⟨hv, hn⟩ | ⟨g', cap, cur, hv, hb, hh, r⟩⟩ := h
  · exact ⟨h0, .inl ⟨hv, hn⟩⟩
  · exact ⟨h0, .inr ⟨g', cap, cur, hv, hb, by rw [k.below.block g' (lt_of_block hh)]; exact hh, r⟩⟩
theorem Terms.ext {W2 w w' : World} {v : Value} {L : List Row1} (k : Ext w w') (h : Terms W2 w v L) : Terms W2 w' v L :=
  ⟨owns_ext k h.1, fun i hi => ⟨(h.2 i hi).1.ext k, (h.2 i hi).2⟩⟩
theorem Terms.start (W2 : World) : Terms W2 W2 (.slice none 0 0) [] := ⟨⟨rfl, .inl ⟨rfl, rfl⟩⟩, fun i hi => by simp at hi⟩
theorem getD_two (L : List Row1) (A B d : Row1) (i : Nat) (hi : i < L.length + 2) : (i < L.length ∧ (L ++ [A, B]).getD i d = L.getD i d) ∨ (i = L.length ∧ (L ++ [A, B]).getD i d = A) ∨ (i = L.length + 1 ∧ (L ++ [A, B]).getD i d = B) := by
  by_cases h : i < L.length
  · left; exact ⟨h, by simp [List.getD_eq_getElem?_getD, List.getElem?_append, h]⟩
  · have : i = L.length ∨ i = L.length + 1 := by omega
    rcases this with rfl | rfl
    · right; left; exact ⟨rfl, by simp [List.getD_eq_getElem?_getD]⟩
    · right; right; exact ⟨rfl, by simp [List.getD_eq_getElem?_getD, List.getElem?_append]⟩
/-- Two more terms. -/
theorem Terms.append {W2 w w' w1 : World} {v : Value} {L : List Row1} {A B : Row1} {g cap : Nat} (h : Terms W2 w v L) (k : Ext w w') (hA : RowIn W2 w' A) (hB : RowIn W2 w' B) (lA : w.heap.size ≤ A.b) (lB : w.heap.size ≤ B.b)
    (hown : w1.ownsRow W2.heap.size 89 1 (.slice (some ⟨g, 0, none⟩) (L.length + 2) cap) (L.length + 2) (L.map rowVal ++ [rowVal A, rowVal B])) (hg : w'.grownBy w1 v.ownBlock) (hat : v.ownBlock = some g ∨ g = w'.heap.size) :
    Terms W2 w1 (.slice (some ⟨g, 0, none⟩) (L.length + 2) cap) (L ++ [A, B]) := by
  have hne : ∀ b, w.heap.size ≤ b → v.ownBlock ≠ some b := fun b hb e => by have := (owns_lt h.1 e).2; omega
  refine ⟨by simpa using hown, fun i hi => ?_⟩
  have hfin : ∀ r, RowIn W2 w' r → v.ownBlock ≠ some r.b → RowIn W2 w1 r ∧ (Value.slice (some ⟨g, 0, none⟩) (L.length + 2) cap).ownBlock ≠ some r.b := fun r hr hn => by
    refine ⟨hr.grown hg hn, fun e => ?_⟩
    simp [Value.ownBlock] at e
    rcases hat with hat | hat
    · rw [hat] at hn; exact hn (by rw [e])
    · have := hr.1; omega
  rcases getD_two L A B row0 i (by simpa using hi) with ⟨h1, h2⟩ | ⟨h1, h2⟩ | ⟨h1, h2⟩
  · rw [h2]; exact hfin _ ((h.2 i h1).1.ext k) (h.2 i h1).2
  · rw [h2]; exact hfin _ hA (hne _ lA)
  · rw [h2]; exact hfin _ hB (hne _ lB)
theorem Terms.vecs {W2 w : World} {g n cap : Nat} {L : List Row1} (k : Ext W2 w) (h : Terms W2 w (.slice (some ⟨g, 0, none⟩) n cap) L) : Vecs w g L := fun i hi => by
  obtain ⟨⟨h0, ⟨hv, _⟩ | ⟨g', cap', cur, hv, hb, hh, hle, hc, hsz, htk⟩⟩, h2⟩ := h
  · simp at hv
  · simp at hv
    obtain ⟨rfl, rfl, rfl⟩ := hv
    obtain ⟨⟨r1, r2, r3, r4⟩, _⟩ := h2 i hi
    refine ⟨?_, r2, r3, Nat.lt_of_lt_of_le r1 (Nat.le_refl _), fun j hj => ⟨(r4 j hj).1, (r4 j hj).2.1, (r4 j hj).2.2.keep k.ik⟩⟩
    have hget : cur[i]? = some (rowVal (L.getD i row0)) := by
      have h3 : (cur.toList.take (L.length * 1))[i]? = (L.map rowVal)[i]? := by rw [htk]
      simp [hi, List.getElem?_take] at h3
      rw [h3]; simp [List.getD_eq_getElem?_getD, hi]
    simp [World.cell?, hh, hget]; rfl
theorem Three.at {w : World} {bx by' bz : Nat} {a b c d : Pt} (h : Three w bx by' bz a b c d 3) (n : Nat) (hn : n < 3) :
    ∃ q r s : IV, (w.cell? ⟨bx, n * 2, none⟩ = some (.bool q.neg) ∧ w.cell? ⟨bx, n * 2 + 1, none⟩ = some (.slice q.a q.n q.c)) ∧ (w.cell? ⟨by', n * 2, none⟩ = some (.bool r.neg) ∧ w.cell? ⟨by', n * 2 + 1, none⟩ = some (.slice r.a r.n r.c)) ∧
      (w.cell? ⟨bz, n * 2, none⟩ = some (.bool s.neg) ∧ w.cell? ⟨bz, n * 2 + 1, none⟩ = some (.slice s.a s.n s.c)) ∧
      IsI w q ((pt3 a b c n).x - d.x) ∧ IsI w r ((pt3 a b c n).y - d.y) ∧ IsI w s (((pt3 a b c n).x - d.x) * ((pt3 a b c n).x - d.x) + ((pt3 a b c n).y - d.y) * ((pt3 a b c n).y - d.y)) := by
  obtain ⟨ps, qs, rs, xs, ys, zs, l1, l2, l3, a1, a2, a3, hh⟩ := h
  obtain ⟨q, q1, q2, q3⟩ := a1.cells n (by omega)
  obtain ⟨r, r1, r2, r3⟩ := a2.cells n (by omega)
  obtain ⟨s, s1, s2, s3⟩ := a3.cells n (by omega)
  obtain ⟨hx, hy, hz⟩ := hh n hn
  rw [hx] at q3; rw [hy] at r3; rw [hz] at s3
  exact ⟨q, r, s, ⟨q1, q2⟩, ⟨r1, r2⟩, ⟨s1, s2⟩, q3, r3, s3⟩
theorem RowIn.three {W2 w : World} {b c : Nat} {p q r : IV} {x y z : Int} (h : At w b #[.bool p.neg, .slice p.a p.n p.c, .bool q.neg, .slice q.a q.n q.c, .bool r.neg, .slice r.a r.n r.c]) (hp : IsI W2 p x) (hq : IsI W2 q y) (hr : IsI W2 r z) : RowIn W2 w ⟨b, c, [p, q, r], [x, y, z]⟩ := by
  refine ⟨h.lt (by simp), by simp, rfl, fun k hk => ?_⟩
  match k, hk with
  | 0, _ => exact ⟨h 0 (by simp), h 1 (by simp), hp⟩
  | 1, _ => exact ⟨h 2 (by simp), h 3 (by simp), hq⟩
  | 2, _ => exact ⟨h 4 (by simp), h 5 (by simp), hr⟩
  | k + 3, hk => simp at hk; omega
theorem At.mk6 {w : World} {b : Nat} {x y z t u v : Value} (h0 : w.cell? ⟨b, 0, none⟩ = some x) (h1 : w.cell? ⟨b, 1, none⟩ = some y) (h2 : w.cell? ⟨b, 2, none⟩ = some z) (h3 : w.cell? ⟨b, 3, none⟩ = some t) (h4 : w.cell? ⟨b, 4, none⟩ = some u) (h5 : w.cell? ⟨b, 5, none⟩ = some v) : At w b #[x, y, z, t, u, v] := fun o ho => by
  match o, ho with
  | 0, _ => exact h0
  | 1, _ => exact h1
  | 2, _ => exact h2
  | 3, _ => exact h3
  | 4, _ => exact h4
  | 5, _ => exact h5
  | o + 6, ho => simp at ho; omega
/-- Two more terms of three factors. -/
theorem Terms.append3 {W2 w w' w1 : World} {v : Value} {L : List Row1} {ba bb : Nat} {p q r s t u : IV} {x y z x' y' z' : Int} {g cap : Nat} (h : Terms W2 w v L)
    (hown : w1.ownsRow W2.heap.size 89 1 (.slice (some ⟨g, 0, none⟩) (L.length + 2) cap) (L.length + 2) (L.map rowVal ++ [.slice (some ⟨ba, 0, none⟩) 3 3, .slice (some ⟨bb, 0, none⟩) 3 3]))
    (hg : w'.grownBy w1 v.ownBlock) (hat : v.ownBlock = some g ∨ g = w'.heap.size) (k : Ext w w')
    (hp : IsI W2 p x) (hq : IsI W2 q y) (hr : IsI W2 r z) (hs : IsI W2 s x') (ht : IsI W2 t y') (hu : IsI W2 u z')
    (hA : At w' ba #[.bool p.neg, .slice p.a p.n p.c, .bool q.neg, .slice q.a q.n q.c, .bool r.neg, .slice r.a r.n r.c]) (hB : At w' bb #[.bool s.neg, .slice s.a s.n s.c, .bool t.neg, .slice t.a t.n t.c, .bool u.neg, .slice u.a u.n u.c])
    (lA : w.heap.size ≤ ba) (lB : w.heap.size ≤ bb) :
    Terms W2 w1 (.slice (some ⟨g, 0, none⟩) (L.length + 2) cap) (L ++ [⟨ba, 3, [p, q, r], [x, y, z]⟩, ⟨bb, 3, [s, t, u], [x', y', z']⟩]) :=
  Terms.append (A := ⟨ba, 3, [p, q, r], [x, y, z]⟩) (B := ⟨bb, 3, [s, t, u], [x', y', z']⟩) h k (RowIn.three hA hp hq hr) (RowIn.three hB hs ht hu) lA lB hown hg hat
/-- All terms are small. -/
def RowsSm (L : List Row1) : Prop := ∀ i, i < L.length → ∃ x y z : Int, (L.getD i row0).xs = [x, y, z] ∧ x.natAbs ≤ 2147483648 ∧ y.natAbs ≤ 2147483648 ∧ z.natAbs ≤ 9223372036854775808
theorem RowsSm.append {L : List Row1} (h : RowsSm L) {A B : Row1} (hA : ∃ x y z : Int, A.xs = [x, y, z] ∧ x.natAbs ≤ 2147483648 ∧ y.natAbs ≤ 2147483648 ∧ z.natAbs ≤ 9223372036854775808)
    (hB : ∃ x y z : Int, B.xs = [x, y, z] ∧ x.natAbs ≤ 2147483648 ∧ y.natAbs ≤ 2147483648 ∧ z.natAbs ≤ 9223372036854775808) : RowsSm (L ++ [A, B]) := fun i hi => by
  rcases getD_two L A B row0 i (by simpa using hi) with ⟨h1, h2⟩ | ⟨_, h2⟩ | ⟨_, h2⟩
  · rw [h2]; exact h i h1
  · rw [h2]; exact hA
  · rw [h2]; exact hB
theorem prod3 {x y z : Int} (hx : x.natAbs ≤ 2147483648) (hy : y.natAbs ≤ 2147483648) (hz : z.natAbs ≤ 9223372036854775808) (k : Nat) : (prodL (([x, y, z] : List Int).take k)).natAbs ≤ 42535295865117307932921825928971026432 := by
  have h1 := natAbs_mul_le hx hy
  have h2 := natAbs_mul_le hx (natAbs_mul_le hy hz)
  match k with
  | 0 => exact Nat.le_trans (show (1 : Int).natAbs ≤ 1 by decide) (by omega)
  | 1 => rw [show prodL (([x, y, z] : List Int).take 1) = x from by simp [prodL]]; omega
  | 2 => rw [show prodL (([x, y, z] : List Int).take 2) = x * y from by simp [prodL]]; omega
  | k + 3 => rw [show prodL (([x, y, z] : List Int).take (k + 3)) = x * (y * z) from by simp [prodL]]; omega
theorem RowsSm.prods {L : List Row1} (h : RowsSm L) (i : Nat) (hi : i < L.length) (k : Nat) : Sm (prodL ((L.getD i ⟨0, 0, [], []⟩).xs.take k)) := by
  obtain ⟨x, y, z, he, hx, hy, hz⟩ := h i hi
  have := prod3 hx hy hz k
  unfold row0 at he
  rw [he]; unfold Sm; omega
theorem RowsSm.sums {L : List Row1} (h : RowsSm L) (hl : L.length ≤ 6) (i : Nat) : Sm (sumL ((Go.Proofs.Ytgmedfloflplgaa.prods L).take i)) := by
  have hb : ∀ n, n ≤ 6 → (sumL ((Go.Proofs.Ytgmedfloflplgaa.prods L).take n)).natAbs ≤ n * 42535295865117307932921825928971026432 := by
    intro n
    induction n with
    | zero => intro _; simp [sumL]
    | succ n ih =>
      intro hn
      have ih := ih (by omega)
      by_cases hlt : n < L.length
      · rw [sumL_next _ _ (by simpa [Go.Proofs.Ytgmedfloflplgaa.prods] using hlt)]
        obtain ⟨x, y, z, he, hx, hy, hz⟩ := h n hlt
        have h3 := prod3 hx hy hz 3
        have he2 : (Go.Proofs.Ytgmedfloflplgaa.prods L).getD n 0 = prodL ([x, y, z] : List Int) := by
          have : (Go.Proofs.Ytgmedfloflplgaa.prods L).getD n 0 = prodL (L.getD n row0).xs := by simp [Go.Proofs.Ytgmedfloflplgaa.prods, List.getD_eq_getElem?_getD, hlt]
          rw [this, he]
        rw [he2]
        simp only [List.take_succ_cons, List.take_zero] at h3
        rw [Nat.succ_mul]
        exact Nat.le_trans (Int.natAbs_add_le _ _) (Nat.add_le_add ih h3)
      · rw [List.take_of_length_le (by simp [Go.Proofs.Ytgmedfloflplgaa.prods]; omega)]
        rw [List.take_of_length_le (by simp [Go.Proofs.Ytgmedfloflplgaa.prods]; omega)] at ih
        exact Nat.le_trans ih (Nat.mul_le_mul_right _ (Nat.le_succ n))
  unfold Sm
  by_cases hi : i ≤ 6
  · have := hb i hi; omega
  · have h6 := hb 6 (by omega)
    rw [List.take_of_length_le (by simp [Go.Proofs.Ytgmedfloflplgaa.prods]; omega)] at h6 ⊢
    omega
theorem ext_grown {a w w' : World} {row : Option Nat} (h : Ext a w) (k : w.grownBy w' row) (hr : ∀ g, row = some g → a.heap.size ≤ g) : Ext a w' := Below.grown h k h.size hr
end Go.Proofs.Ytgmedfloflplgaa
