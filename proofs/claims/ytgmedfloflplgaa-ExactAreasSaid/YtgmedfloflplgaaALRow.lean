/- Lists of the call's own, of elements with several cells. -/
import Derived.Test.YtgmedfloflplgaaWA
import Derived.Deep.AppendLies
namespace Go.Proofs.Ytgmedfloflplgaa
set_option linter.unusedSimpArgs false
set_option linter.unusedVariables false
open Go.RowKit

theorem gowns_lt {w : World} {base : Nat} {e : TypeId} {s : Nat} {v : Value} {n : Nat} {xs : List Value} (h : w.ownsRow base e s v n xs) {g : Nat} (hg : v.ownBlock = some g) : base ≤ g ∧ g < w.heap.size := by
 obtain ⟨_, ⟨hv, _⟩ | ⟨g', cap, cur, hv, hb, hh, _⟩⟩ := h
 ·subst hv; simp [Value.ownBlock] at hg
 ·subst hv; simp [Value.ownBlock] at hg; subst hg; exact ⟨hb, lt_of_block hh⟩
theorem gowns_ext {w w' : World} {base : Nat} {e : TypeId} {s : Nat} {v : Value} {n : Nat} {xs : List Value} (k : Ext w w') (h : w.ownsRow base e s v n xs) : w'.ownsRow base e s v n xs := by
 obtain ⟨h0, ⟨hv, hn⟩ | ⟨g', cap, cur, hv, hb, hh, r⟩⟩ := h
 ·exact ⟨h0, .inl ⟨hv, hn⟩⟩
 ·exact ⟨h0, .inr ⟨g', cap, cur, hv, hb, by rw [k.below.block g' (lt_of_block hh)]; exact hh, r⟩⟩
theorem gext_grown {a w w' : World} {row : Option Nat} (h : Ext a w) (k : w.grownBy w' row) (hr : ∀ g, row = some g → a.heap.size ≤ g) : Ext a w' := Below.grown h k h.size hr
/-- How an element lies in cells. -/
structure Enc (α : Type) where
 f : α → List Value
 s : Nat
 len : ∀ a, (f a).length = s
 one : ∀ a, ∀ u ∈ f a, u.oneCell' = true
 pos : 0 < s
def gcells {α : Type} (F : Enc α) (l : List α) : List Value := l.flatMap F.f
theorem gcells_length {α : Type} (F : Enc α) (l : List α) : (gcells F l).length = l.length * F.s := by
 induction l with
 | nil => simp [gcells]
 | cons p l ih => 
  have : gcells F (p :: l) = F.f p ++ gcells F l := by simp [gcells]
  rw [this, List.length_append, ih, F.len, List.length_cons, Nat.succ_mul, Nat.add_comm]
theorem gcells_append {α : Type} (F : Enc α) (l k : List α) : gcells F (l ++ k) = gcells F l ++ gcells F k := by simp [gcells]
theorem gcells_at {α : Type} (F : Enc α) (l : List α) (i : Nat) (a : α) (hi : l[i]? = some a) (j : Nat) (hj : j < F.s) : (gcells F l)[i * F.s + j]? = (F.f a)[j]? := by
 induction l generalizing i with
 | nil => simp at hi
 | cons p l ih =>
  have hp : gcells F (p :: l) = F.f p ++ gcells F l := by simp [gcells]
  rw [hp]
  match i with
  | 0 =>
   simp at hi
   subst hi
   rw [Nat.zero_mul, Nat.zero_add, List.getElem?_append_left (by rw [F.len]; exact hj)]
  | i + 1 =>
   have := ih i (by simpa using hi)
   rw [List.getElem?_append_right (by rw [F.len, Nat.succ_mul]; omega), F.len, ← this]
   congr 1
   rw [Nat.succ_mul]; omega
theorem gcells_one {α : Type} (F : Enc α) (l : List α) : ∀ u ∈ gcells F l, u.oneCell' = true := by
 intro u hu
 simp [gcells] at hu
 obtain ⟨p, _, hp⟩ := hu
 exact F.one p u hp
/-- The elements of l lie at the head of block b. -/
def GAt {α : Type} (F : Enc α) (w : World) (b : Nat) (l : List α) : Prop := ∀ i a, l[i]? = some a → ∀ j, j < F.s → w.cell? ⟨b, i * F.s + j, none⟩ = (F.f a)[j]?
theorem GAt.ext {α : Type} {F : Enc α} {w w' : World} {b : Nat} {l : List α} (k : Ext w w') (h : GAt F w b l) : GAt F w' b l := fun i a hi j hj => by
 have := h i a hi j hj
 obtain ⟨v, hv⟩ : ∃ v, (F.f a)[j]? = some v := ⟨_, List.getElem?_eq_getElem (by rw [F.len]; exact hj)⟩
 rw [hv] at this ⊢
 exact k.cell this
/-- A slice of the call's own. -/
def GRow {α : Type} (F : Enc α) (T : TypeId) (w : World) (base : Nat) (v : Value) (l : List α) : Prop := w.ownsRow base T F.s v l.length (gcells F l)
theorem GRow.nil {α : Type} (F : Enc α) (T : TypeId) (w : World) (base : Nat) : GRow F T w base (.slice none 0 0) [] := ⟨by simp [gcells], .inl ⟨rfl, rfl⟩⟩
theorem GRow.ext {α : Type} {F : Enc α} {T : TypeId} {w w' : World} {base : Nat} {v : Value} {l : List α} (k : Ext w w') (h : GRow F T w base v l) : GRow F T w' base v l := gowns_ext k h
theorem GRow.gat {α : Type} {F : Enc α} {T : TypeId} {w : World} {base g n cap : Nat} {l : List α} (h : GRow F T w base (.slice (some ⟨g, 0, none⟩) n cap) l) : GAt F w g l := fun i a hi j hj => by
 obtain ⟨h0, ⟨hv, _⟩ | ⟨g', cap', cur, hv, hb, hh, hle, hc, hsz, htk⟩⟩ := h
 ·simp at hv
 ·simp at hv
  obtain ⟨rfl, rfl, rfl⟩ := hv
  have p1 := gcells_at F l i a hi j hj
  rw [← htk] at p1
  have hil : i < l.length := by
   rcases Nat.lt_or_ge i l.length with h | h
   ·exact h
   ·rw [List.getElem?_eq_none h] at hi; cases hi
  have hij : i * F.s + j < l.length * F.s := by
   have := Nat.mul_le_mul_right F.s (show i + 1 ≤ l.length from hil)
   rw [Nat.succ_mul] at this; omega
  rw [List.getElem?_take_of_lt hij] at p1
  rw [← p1]
  simp [World.cell?, hh]
theorem GRow.free {α : Type} {F : Enc α} {T : TypeId} {w : World} {base g n cap : Nat} {l : List α} (h : GRow F T w base (.slice (some ⟨g, 0, none⟩) n cap) l) (o : Nat) : w.frozen? ⟨g, o, none⟩ = false := by
 obtain ⟨h0, ⟨hv, _⟩ | ⟨g', cap', cur, hv, hb, hh, _⟩⟩ := h
 ·simp at hv
 ·simp at hv
  obtain ⟨rfl, rfl, rfl⟩ := hv
  simp [World.frozen?, hh]
theorem GRow.app {α : Type} {F : Enc α} {T : TypeId} {w1 : World} {base g cap m : Nat} {l : List α} {p : α} (h : w1.ownsRow base T F.s (.slice (some ⟨g, 0, none⟩) m cap) m (gcells F l ++ gcells F [p])) (hm : m = l.length + 1) :
  GRow F T w1 base (.slice (some ⟨g, 0, none⟩) m cap) (l ++ [p]) := by
 subst hm
 unfold GRow; rw [gcells_append]; simpa using h
/-- The cells of a list, where it lies. -/
theorem gnews_at {α : Type} {F : Enc α} {w : World} {b : Nat} {l : List α} (h : GAt F w b l) : ∀ (j : Nat) (u : Value), (gcells F l)[j]? = some u → w.cell? ((⟨b, 0, none⟩ : Addr).add j) = some u := fun j u hu => by
 have hadd : (⟨b, 0, none⟩ : Addr).add j = ⟨b, j, none⟩ := by unfold Addr.add; split <;> simp_all
 rw [hadd]
 have hj : j < l.length * F.s := by
  rw [← gcells_length]
  rcases Nat.lt_or_ge j (gcells F l).length with h | h
  ·exact h
  ·rw [List.getElem?_eq_none h] at hu; cases hu
 have hd := Nat.div_lt_of_lt_mul (show j < F.s * l.length by rw [Nat.mul_comm]; exact hj)
 have hm := Nat.mod_lt j F.pos
 have he := Nat.div_add_mod j F.s
 rw [Nat.mul_comm] at he
 have hl := List.getElem?_eq_getElem hd
 have p1 := gcells_at F l (j / F.s) _ hl (j % F.s) hm
 have c1 := h (j / F.s) _ hl (j % F.s) hm
 rw [he] at p1 c1
 rw [c1, ← p1, hu]
theorem gAt_one {α : Type} {F : Enc α} {w : World} {b : Nat} {a : α} (h : ∀ j, j < F.s → w.cell? ⟨b, j, none⟩ = (F.f a)[j]?) : GAt F w b [a] := fun i x hi j hj => by
 match i with
 | 0 =>
  simp at hi
  subst hi
  rw [Nat.zero_mul, Nat.zero_add]; exact h j hj
 | i + 1 => simp at hi
theorem free_set {w : World} {b : Nat} {p : Addr} {u : Value} (h : ∀ o, w.frozen? ⟨b, o, none⟩ = false) (o : Nat) : (w.setCell p u).frozen? ⟨b, o, none⟩ = false := by
 rw [World.frozen?_setCell]; exact h o
end Go.Proofs.Ytgmedfloflplgaa
