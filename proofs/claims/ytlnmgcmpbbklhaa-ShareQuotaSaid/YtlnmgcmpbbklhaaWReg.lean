/- What a region that draws its order keeps: blocks that are known, and blocks of the call's own that it writes. -/
import Derived.Test.YtlnmgcmpbbklhaaWDiff
namespace Go.Proofs.Ytlnmgcmpbbklhaa
set_option linter.unusedSimpArgs false
set_option linter.unusedVariables false
open Go.RowKit

/-- The cells of block b, as rules of the walk. -/
abbrev At (w : World) (b : Nat) (cs : Array Value) : Prop := ∀ o, o < cs.size → w.cell? ⟨b, o, none⟩ = cs[o]?
theorem At.mk1 {w : World} {b : Nat} {x : Value} (h0 : w.cell? ⟨b, 0, none⟩ = some x) : At w b #[x] := fun o ho => by
  have : o = 0 := by simp at ho; omega
  subst this; exact h0
theorem At.mk2 {w : World} {b : Nat} {x y : Value} (h0 : w.cell? ⟨b, 0, none⟩ = some x) (h1 : w.cell? ⟨b, 1, none⟩ = some y) : At w b #[x, y] := fun o ho => by
  match o, ho with
  | 0, _ => exact h0
  | 1, _ => exact h1
  | o + 2, ho => simp at ho; omega
/-- What a cell holds. -/
def cellAt (w : World) (a : Addr) : Value := (w.cell? a).getD undef
/-- k cells of block b are there, and may be written. -/
abbrev Own (w : World) (b : Nat) (k : Nat) : Prop := (∀ o, o < k → w.cell? ⟨b, o, none⟩ = some (cellAt w ⟨b, o, none⟩)) ∧ (∀ o, w.frozen? ⟨b, o, none⟩ = false) ∧ ∀ o k m, w.cell? ⟨b, o, none⟩ ≠ some (Value.int k m)
theorem Blk.at' {w : World} {b : Nat} {cs : Array Value} {t : TypeId} (h : Blk w b cs t) : At w b cs := fun o _ => h.cell o
theorem Blk.own {w : World} {b : Nat} {cs : Array Value} {t : TypeId} (h : Blk w b cs t) (k : Nat) (hk : k ≤ cs.size) (hn : ∀ (o : Nat) x y, cs[o]? ≠ some (Value.int x y)) : Own w b k :=
  ⟨fun o ho => by unfold cellAt; rw [h.cell]; simp [show o < cs.size by omega], fun o => h.free o, fun o x y => by rw [h.cell]; exact hn o x y⟩
theorem noInt2 (x y : Value) (hx : ∀ k m, x ≠ .int k m) (hy : ∀ k m, y ≠ .int k m) : ∀ (o : Nat) k m, (#[x, y] : Array Value)[o]? ≠ some (Value.int k m) := by
  intro o k m h
  match o with
  | 0 => exact hx k m (by simpa using h)
  | 1 => exact hy k m (by simpa using h)
  | o + 2 => simp at h
theorem noIntW : ∀ (o : Nat) k m, (#[Value.bool false, Value.slice none 0 0] : Array Value)[o]? ≠ some (Value.int k m) := noInt2 _ _ (by simp) (by simp)
theorem At.lt {w : World} {b : Nat} {cs : Array Value} (h : At w b cs) (h0 : 0 < cs.size) : b < w.heap.size := by
  have := h 0 h0
  rw [Array.getElem?_eq_getElem h0] at this
  exact lt_of_cell this
theorem Own.lt {w : World} {b : Nat} {k : Nat} (h : Own w b k) (h0 : 0 < k) : b < w.heap.size := lt_of_cell (h.1 0 h0)
theorem Ext.trans' {a b c : World} (k : Ext b c) (h : Ext a b) : Ext a c := h.trans k
theorem At.ext {w w' : World} {b : Nat} {cs : Array Value} (k : Ext w w') (h : At w b cs) (h0 : 0 < cs.size) : At w' b cs := fun o ho => by
  rw [k.see.1 b o (h.lt h0)]; exact h o ho
theorem Own.ext {w w' : World} {b : Nat} {n : Nat} (k : Ext w w') (h : Own w b n) (h0 : 0 < n) : Own w' b n :=
  ⟨fun o ho => by unfold cellAt; rw [k.see.1 b o (h.lt h0), h.1 o ho]; rfl, fun o => by rw [k.see.2.1 b o (h.lt h0)]; exact h.2.1 o, fun o x y => by rw [k.see.1 b o (h.lt h0)]; exact h.2.2 o x y⟩
theorem At.set {w : World} {b b' o' : Nat} {cs : Array Value} {u : Value} (h : At w b cs) (hne : b ≠ b') : At (w.setCell ⟨b', o', none⟩ u) b cs := fun o ho => by
  rw [World.cell?_setCell_other]
  · exact h o ho
  · intro e; injection e with e1; exact hne e1.symm
theorem own1_set {w : World} {b b' o' : Nat} {n : Nat} {u : Value} (h : ∀ o, o < n → w.cell? ⟨b, o, none⟩ = some (cellAt w ⟨b, o, none⟩)) (o : Nat) (ho : o < n) : (w.setCell ⟨b', o', none⟩ u).cell? ⟨b, o, none⟩ = some (cellAt (w.setCell ⟨b', o', none⟩ u) ⟨b, o, none⟩) := by
  obtain ⟨v', hv⟩ := cell?_setCell_some (w := w) (p := ⟨b', o', none⟩) (x := u) (q := ⟨b, o, none⟩) (h o ho)
  unfold cellAt; rw [hv]; rfl
theorem own2_set {w : World} {b b' o' : Nat} {u : Value} (h : ∀ o, w.frozen? ⟨b, o, none⟩ = false) (o : Nat) : (w.setCell ⟨b', o', none⟩ u).frozen? ⟨b, o, none⟩ = false := by
  rw [World.frozen?_setCell]; exact h o
theorem own3_set {w : World} {b b' o' : Nat} {u : Value} (h : ∀ o k m, w.cell? ⟨b, o, none⟩ ≠ some (.int k m)) (hu : ∀ k m, u ≠ .int k m) (o : Nat) (k : IntKind) (m : Int) : (w.setCell ⟨b', o', none⟩ u).cell? ⟨b, o, none⟩ ≠ some (.int k m) := by
  by_cases he : (⟨b', o', none⟩ : Addr) = ⟨b, o, none⟩
  · rw [← he]
    intro hc
    cases h0 : w.cell? ⟨b', o', none⟩ with
    | none =>
      have := h o k m
      unfold World.setCell World.cell? at hc
      unfold World.cell? at h0
      simp only [Array.getElem?_modify] at hc
      cases hb : w.heap[b']? with
      | none => simp [hb] at hc
      | some ob =>
        cases ob <;> simp [hb] at hc h0
        rw [Array.getElem?_eq_none (by simpa using h0)] at hc
        cases hc
    | some v =>
      rw [World.cell?_setCell_same _ _ _ h0] at hc
      injection hc with hc
      exact hu k m hc
  · rw [World.cell?_setCell_other _ _ _ _ he]; exact h o k m
theorem At.alloc {w : World} {b : Nat} {cs : Array Value} {o : Obj} (h : At w b cs) (h0 : 0 < cs.size) : At (w.alloc o) b cs := At.ext ((Ext.refl w).alloc o) h h0
theorem At.drew {w : World} {b : Nat} {cs : Array Value} (h : At w b cs) : At w.drew b cs := h
theorem own1_drew {w : World} {b n : Nat} (h : ∀ o, o < n → w.cell? ⟨b, o, none⟩ = some (cellAt w ⟨b, o, none⟩)) (o : Nat) (ho : o < n) : w.drew.cell? ⟨b, o, none⟩ = some (cellAt w.drew ⟨b, o, none⟩) := h o ho
theorem own1_alloc {w : World} {b n : Nat} {ob : Obj} (h : ∀ o, o < n → w.cell? ⟨b, o, none⟩ = some (cellAt w ⟨b, o, none⟩)) (o : Nat) (ho : o < n) : (w.alloc ob).cell? ⟨b, o, none⟩ = some (cellAt (w.alloc ob) ⟨b, o, none⟩) := by
  have := ((Ext.refl w).alloc ob).cell (h o ho)
  unfold cellAt; rw [this]; rfl
theorem At.put2 {w : World} {b : Nat} {x y : Value} (h0 : (w.cell? ⟨b, 0, none⟩).isSome = true) (h1 : (w.cell? ⟨b, 1, none⟩).isSome = true) : At ((w.setCell ⟨b, 0, none⟩ x).setCell ⟨b, 1, none⟩ y) b #[x, y] := by
  refine At.mk2 ?_ ?_
  · rw [World.cell?_setCell_other _ _ _ _ (by simp)]; exact World.cell?_setCell_same' _ _ _ h0
  · refine World.cell?_setCell_same' _ _ _ ?_
    rw [World.cell?_setCell_other _ _ _ _ (by simp)]; exact h1
theorem IK.setOwn {a w : World} {b o n : Nat} {u : Value} (h : IK a w) (hp : ∀ k m, w.cell? ⟨b, o, none⟩ ≠ some (.int k m)) : IK a (w.setCell ⟨b, o, none⟩ u) := h.setCell hp u
theorem Wds.in4 {w w1 : World} {a : Option Addr} {n c : Nat} {l : List Nat} {X : Prop} (h : Wds w a n c l) (k : Ext w w1 ∧ X) : Wds w1 a n c l := h.keep k.1.ik
theorem IsI.in4 {w w1 : World} {p : IV} {x : Int} {X : Prop} (h : IsI w p x) (k : Ext w w1 ∧ X) : IsI w1 p x := h.keep k.1.ik
/-- The two cells of a wide integer of the call's own are written. -/
theorem IK.put2 {w : World} {b : Nat} (h : Own w b 2) (g : Bool) (a : Option Addr) (n c : Nat) : IK w ((w.setCell ⟨b, 0, none⟩ (.bool g)).setCell ⟨b, 1, none⟩ (.slice a n c)) :=
  ((IK.refl w).setCell (h.2.2 0) _).setCell (own3_set h.2.2 (by simp) 1) _
theorem cell_alloc {w : World} {p : Addr} {v : Value} {o : Obj} (h : w.cell? p = some v) : (w.alloc o).cell? p = some v := ((Ext.refl w).alloc o).cell h
theorem own2_drew {w : World} {b : Nat} (h : ∀ o, w.frozen? ⟨b, o, none⟩ = false) (o : Nat) : w.drew.frozen? ⟨b, o, none⟩ = false := h o
theorem own3_drew {w : World} {b : Nat} (h : ∀ o k m, w.cell? ⟨b, o, none⟩ ≠ some (.int k m)) (o : Nat) (k : IntKind) (m : Int) : w.drew.cell? ⟨b, o, none⟩ ≠ some (.int k m) := h o k m
theorem own2_alloc {w : World} {b : Nat} {ob : Obj} (hb : b < w.heap.size) (h : ∀ o, w.frozen? ⟨b, o, none⟩ = false) (o : Nat) : (w.alloc ob).frozen? ⟨b, o, none⟩ = false := by
  rw [((Ext.refl w).alloc ob).see.2.1 b o hb]; exact h o
theorem own3_alloc {w : World} {b : Nat} {ob : Obj} (hb : b < w.heap.size) (h : ∀ o k m, w.cell? ⟨b, o, none⟩ ≠ some (.int k m)) (o : Nat) (k : IntKind) (m : Int) : (w.alloc ob).cell? ⟨b, o, none⟩ ≠ some (.int k m) := by
  rw [((Ext.refl w).alloc ob).see.1 b o hb]; exact h o k m
theorem cell_drew {w : World} {p : Addr} {v : Value} (h : w.cell? p = some v) : w.drew.cell? p = some v := h
theorem cell_set {w : World} {b o b' o' : Nat} {u v : Value} (h : w.cell? ⟨b, o, none⟩ = some v) (hne : b ≠ b') : (w.setCell ⟨b', o', none⟩ u).cell? ⟨b, o, none⟩ = some v := by
  rw [World.cell?_setCell_other _ _ _ _ (by intro e; injection e with e1; exact hne e1.symm)]; exact h
end Go.Proofs.Ytlnmgcmpbbklhaa
