/- Appending to a row that holds no integers: what integers there are stay. -/
import Derived.Test.YtkoidookanmknaaSLNu
namespace Go.Proofs.Ytkoidookanmknaa
set_option linter.unusedSimpArgs false
set_option linter.unusedVariables false
open Go Go.RowKit

/-- Block g holds no integer. -/
def NI (w : World) (g : Nat) : Prop := ∀ o k m, w.cell? ⟨g, o, none⟩ ≠ some (Value.int k m)
/-- What the row of a slice holds is no integer. -/
def NIv (w : World) (v : Value) : Prop := ∀ g, v.ownBlock = some g → NI w g
theorem NIv.nil (w : World) : NIv w (.slice none 0 0) := fun g h => by simp [Value.ownBlock] at h
theorem NI.ext {w w' : World} {g : Nat} (k : Ext w w') (hg : g < w.heap.size) (h : NI w g) : NI w' g := fun o x y => by rw [k.see.1 g o hg]; exact h o x y
theorem NIv.ext {w w' : World} {base : Nat} {e : TypeId} {s : Nat} {v : Value} {n : Nat} {xs : List Value} (k : Ext w w') (ho : w.ownsRow base e s v n xs) (h : NIv w v) : NIv w' v := fun g hg => (h g hg).ext k (gowns_lt ho hg).2
theorem NI.block {w : World} {g : Nat} {cs : Array Value} {t : TypeId} {fr : Nat × Nat} (h : w.heap[g]? = some (.cells cs t fr)) (hn : ∀ u ∈ cs, ∀ k m, u ≠ Value.int k m) : NI w g := fun o k m he => by
 simp only [World.cell?, h] at he
 have he : cs[o]? = some (Value.int k m) := he
 obtain ⟨ho, he⟩ := Array.getElem?_eq_some_iff.1 he
 exact hn _ (Array.getElem_mem ho) k m he
theorem IK.setRow {w : World} {g : Nat} {cs : Array Value} (h : NI w g) : IK w (w.setRow g cs) := ⟨by simp, fun a k n hc => by
 by_cases he : a.block = g
 ·exfalso
  obtain ⟨b, o, r⟩ := a
  simp only at he
  subst he
  cases r with
  | none => exact h o k n hc
  | some r =>
   cases hb : w.heap[b]? with
   | none => simp [World.cell?, hb] at hc
   | some ob => cases ob <;> simp [World.cell?, hb] at hc
 ·rw [World.cell?_of_block (setRow_other w g a.block cs he)]; exact hc⟩
theorem NI.at {w : World} {g : Nat} {cs : Array Value} {t : TypeId} {fr : Nat × Nat} (h : w.heap[g]? = some (.cells cs t fr)) (hn : NI w g) : ∀ u ∈ cs, ∀ k m, u ≠ Value.int k m := fun u hu k m he => by
 obtain ⟨o, ho, rfl⟩ := Array.getElem_of_mem hu
 refine hn o k m ?_
 simp only [World.cell?, h]
 show cs[o]? = _
 rw [Array.getElem?_eq_getElem ho, he]
section
variable {P : Program} (w : World)
end
end Go.Proofs.Ytkoidookanmknaa
