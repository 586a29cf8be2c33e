/- What the shell of a law tells of its numbers. -/
import Derived.Test.YtagiaiocgjagnaaMX40
namespace Go.Proofs.Ytagiaiocgjagnaa
set_option linter.unusedSimpArgs false
set_option linter.unusedVariables false
open Go.RowKit

theorem int64_of_wf {n : Int} (h : (Lit.int .i64 n).wf = true) : Int64 n := by
  simp [Lit.wf, IntKind.min, IntKind.max, IntKind.signed, IntKind.bits] at h
  unfold Int64; omega
theorem ints_of_row {w : World} {a : Option Addr} {len cap : Nat} {zs : List Int}
    (h : (a = none ∧ len = 0 ∧ cap = 0 ∧ zs = []) ∨ ∃ x, a = some x ∧ len ≤ cap ∧ cap ≤ maxLen ∧ zs.length = cap ∧ (∀ i, i < zs.length → w.cell? (x.add i) = some (.int .i64 (zs.getD i 0))) ∧ ∀ n ∈ zs, (Lit.int .i64 n).wf = true) :
    Ints w a len (zs.take len) := by
  rcases h with ⟨rfl, rfl, rfl, rfl⟩ | ⟨x, rfl, hl, hm, hz, hc, hw⟩
  · exact ⟨rfl, by omega, fun i hi => absurd hi (by omega), .inl rfl⟩
  · have hg : ∀ i, i < len → (zs.take len).getD i 0 = zs.getD i 0 := fun i hi => by
      simp [List.getD_eq_getElem?_getD, List.getElem?_take, hi]
    refine ⟨by simp; omega, ?_, fun i hi => ?_, ?_⟩
    · rw [maxLen] at hm; omega
    · rw [hg i hi]
      have : zs.getD i 0 ∈ zs := by
        rw [List.getD_eq_getElem?_getD, List.getElem?_eq_getElem (by omega)]; exact List.getElem_mem _
      exact int64_of_wf (hw _ this)
    · by_cases h0 : len = 0
      · exact .inl h0
      · have c0 := hc 0 (by omega)
        obtain ⟨b, off, sp⟩ := x
        cases sp with
        | some s =>
          exfalso
          rw [show (⟨b, off, some s⟩ : Addr).add 0 = ⟨b, off, some s⟩ by simp [Addr.add]] at c0
          unfold World.cell? at c0
          split at c0 <;> simp at c0
        | none =>
          refine .inr ⟨b, off, rfl, ?_, fun i hi => ?_⟩
          · rw [show (⟨b, off, none⟩ : Addr).add 0 = ⟨b, off, none⟩ by simp [Addr.add]] at c0
            exact lt_of_cell c0
          · rw [hg i hi, ← hc i (by omega)]
            congr 1
            unfold Addr.add; split <;> simp_all
end Go.Proofs.Ytagiaiocgjagnaa
