/- Appending to a row that holds no words: what words there are stay. -/
import Derived.Test.YtagiaiocgjagnaaQLRow
namespace Go.Proofs.Ytagiaiocgjagnaa
set_option linter.unusedSimpArgs false
set_option linter.unusedVariables false
open Go Go.RowKit

/-- All words that lay there lie there still. -/
def IU (w w' : World) : Prop := w.heap.size ≤ w'.heap.size ∧ ∀ a n, w.cell? a = some (.int .u32 n) → w'.cell? a = some (.int .u32 n)
theorem IK.iu {w w' : World} (h : IK w w') : IU w w' := ⟨h.1, fun a n hc => h.2 a _ n hc⟩
theorem Ext.iu {w w' : World} (h : Ext w w') : IU w w' := h.ik.iu
theorem Wds.keepU {w w' : World} {a : Option Addr} {n c : Nat} {l : List Nat} (h : Wds w a n c l) (k : IU w w') : Wds w' a n c l := by
 obtain ⟨h1, h2, h3, h4, h5⟩ := h
 refine ⟨h1, h2, h3, h4, ?_⟩
 rcases h5 with h5 | ⟨b, off, ha, hb, hc⟩
 ·exact .inl h5
 ·exact .inr ⟨b, off, ha, Nat.lt_of_lt_of_le hb k.1, fun i hi => k.2 _ _ (hc i hi)⟩
theorem IsI.keepU {w w' : World} {p : IV} {x : Int} (h : IsI w p x) (k : IU w w') : IsI w' p x := by
 obtain ⟨l, h1, h2⟩ := h
 exact ⟨l, h1.keepU k, h2⟩
/-- Block g holds no word. -/
def NU (w : World) (g : Nat) : Prop := ∀ o m, w.cell? ⟨g, o, none⟩ ≠ some (Value.int .u32 m)
/-- What the row of a slice holds is no integer. -/
def NUv (w : World) (v : Value) : Prop := ∀ g, v.ownBlock = some g → NU w g
theorem NU.block {w : World} {g : Nat} {cs : Array Value} {t : TypeId} {fr : Nat × Nat} (h : w.heap[g]? = some (.cells cs t fr)) (hn : ∀ u ∈ cs, ∀ m, u ≠ Value.int .u32 m) : NU w g := fun o m he => by
 simp only [World.cell?, h] at he
 have he : cs[o]? = some (Value.int .u32 m) := he
 obtain ⟨ho, he⟩ := Array.getElem?_eq_some_iff.1 he
 exact hn _ (Array.getElem_mem ho) m he
theorem IU.setRow {w : World} {g : Nat} {cs : Array Value} (h : NU w g) : IU w (w.setRow g cs) := ⟨by simp, fun a n hc => by
 by_cases he : a.block = g
 ·exfalso
  obtain ⟨b, o, r⟩ := a
  simp only at he
  subst he
  cases r with
  | none => exact h o n hc
  | some r =>
   cases hb : w.heap[b]? with
   | none => simp [World.cell?, hb] at hc
   | some ob => cases ob <;> simp [World.cell?, hb] at hc
 ·rw [World.cell?_of_block (setRow_other w g a.block cs he)]; exact hc⟩
section
variable {P : Program} (w : World)
end
end Go.Proofs.Ytagiaiocgjagnaa
