/- X39 X40: several texts of this proof in one. -/
import Derived.Test.YtagiaiocgjagnaaMFXm
import Derived.Test.YtagiaiocgjagnaaPX37
import Derived.Test.YtagiaiocgjagnaaPC09
import Derived.Test.YtagiaiocgjagnaaWT
namespace Go.Proofs.Ytagiaiocgjagnaa
set_option linter.unusedSimpArgs false
set_option linter.unusedVariables false
open Go.RowKit

/-- The numbers of a point are small. -/
def TinyP (q : QP) : Prop := ∃ r : RP, PIn r 4000000 ∧ r.q = q
end Go.Proofs.Ytagiaiocgjagnaa
namespace Go.Proofs.Ytagiaiocgjagnaa
set_option linter.unusedSimpArgs false
set_option linter.unusedVariables false
open Go.RowKit

theorem wp_build2S {o : Oper} {a : Act} {w : World} {K : Act → World → Prop} {Q : Exit → Act → World → Prop} (p q : Sg) (x y : Operand) (ho : o.op = .buildSlice 29 2 #[(0, x), (1, y)]) (hx : a.eval x = p.v) (hy : a.eval y = q.v)
    (h : K (a.put o.dst (.slice (some ⟨w.heap.size, 0, none⟩) 2 2)) (w.alloc (.cells (p.cs ++ q.cs) 25))) : o.wp Try.prog a w K Q := by
  obtain ⟨i0, hi, hz0, hz1, hz2⟩ := info_parts sgInfo
  refine wp_buildSlice 29 25 2 _ ho (p.cs ++ q.cs) i0 _ Try.underlying29 hi hz0 (by rw [hz1]; decide) (by rw [hz1]; decide) ?_ h
  rw [hz1]
  simp only [List.map_toArray, List.map_cons, List.map_nil, hx, hy]
  first
  | kernel_rfl
  | (cases p; cases q; rfl)
theorem Blk.two4 {w : World} {b : Nat} {p q : Sg} (h : Blk w b (p.cs ++ q.cs) 25) : GAt encSg w b [p, q] := fun i a hi j hj => by
  have hj8 : j < 4 := hj
  match i, hi with
  | 0, hi =>
    simp at hi; subst hi
    rw [Nat.zero_mul, Nat.zero_add, h.cell, Array.getElem?_append_left (by show j < 4; omega)]
    exact Array.getElem?_toList.symm
  | 1, hi =>
    simp at hi; subst hi
    rw [h.cell, Array.getElem?_append_right (by show 4 ≤ 1 * 4 + j; omega), show 1 * encSg.s + j - p.cs.size = j by show 1 * 4 + j - 4 = j; omega]
    exact Array.getElem?_toList.symm
  | i + 2, hi => simp at hi
end Go.Proofs.Ytagiaiocgjagnaa
