/- X39 X40: several texts of this proof in one. -/
import Derived.Test.YtagiaiocgjagnaaQFXm
import Derived.Test.YtagiaiocgjagnaaQX37
import Derived.Test.YtagiaiocgjagnaaQC09
import Derived.Test.YtagiaiocgjagnaaQWT
namespace Go.Proofs.Ytagiaiocgjagnaa
set_option linter.unusedSimpArgs false
set_option linter.unusedVariables false
open Go.RowKit

/-- The numbers of a point are small. -/
def TinyP (q : QP) : Prop := ∃ r : RP, PIn r 4000000 ∧ r.q = q
end Go.Proofs.Ytagiaiocgjagnaa
namespace Go.Proofs.Ytagiaiocgjagnaa
set_option linter.unusedSimpArgs false
set_option linter.unusedVariables false
open Go.RowKit

/-- Appending a slice: other blocks stay. -/
theorem app_gen2 {α : Type} {F : Enc α} {T S : TypeId} {z : Value} {bytes : Nat} (hu : Try.prog.underlying S = some (.slice T)) (hinf : (Try.prog.info? T).map (fun i => (i.zero, i.size, i.bytes)) = some (some z, F.s, bytes)) (hzs : z.cells.size = F.s) (hby : bytes ≤ 1000)
  {w : World} {base : Nat} {v : Value} {l1 l2 : List α} {ad : Addr} {n : Nat} (hb : base ≤ w.heap.size) (h1 : GRow F T w base v l1) (hl : l2.length = n) (hn : 0 < n) (hc : ∀ (j : Nat) (u : Value), (gcells F l2)[j]? = some u → w.cell? (ad.add j) = some u) (hs : l1.length + n ≤ 1000000) (c : Nat) (ty : TypeId) :
  ∃ v' w', (Builtin.append_ #[S, S] ty #[v, .slice (some ad) n c]).run Try.prog w = .ok v' w' ∧ GRow F T w' base v' (l1 ++ l2) ∧ (∀ A, Ext A w → A.heap.size ≤ base → Ext A w') ∧ ∀ k, k < w.heap.size → v.ownBlock ≠ some k → w'.heap[k]? = w.heap[k]? := by
 obtain ⟨i0, hi, hz0, hz1, hz2⟩ := info_parts hinf
 have hbb : (l1.length + n) * bytes ≤ 1000000 * 1000 := Nat.mul_le_mul hs hby
 obtain ⟨g, cap, w', hr, hown, hgrow, hat, hlt⟩ := run_append_lies (P := Try.prog) w S ty base T i0 _ F.s bytes hu hi hz0 hz1 hz2 hzs F.pos v l1.length (gcells F l1) h1 ad n c (gcells F l2) (by rw [gcells_length, hl]) hc (gcells_one _ _) hn (by rw [maxLen]; omega) (by omega) hb _ rfl
 refine ⟨_, w', hr, ?_, fun A hA hAb => ?_, fun k hk hne => hgrow.block k hk (fun e => hne e.symm)⟩
 ·unfold GRow
  rw [gcells_append, List.length_append, hl]
  exact hown
 ·exact gext_grown hA hgrow fun g' hg' => Nat.le_trans hAb (gowns_lt h1 hg').1
theorem wp_build2S {o : Oper} {a : Act} {w : World} {K : Act → World → Prop} {Q : Exit → Act → World → Prop} (p q : Sg) (x y : Operand) (ho : o.op = .buildSlice 29 2 #[(0, x), (1, y)]) (hx : a.eval x = p.v) (hy : a.eval y = q.v)
  (h : K (a.put o.dst (.slice (some ⟨w.heap.size, 0, none⟩) 2 2)) (w.alloc (.cells (p.cs ++ q.cs) 25))) : o.wp Try.prog a w K Q := by
 obtain ⟨i0, hi, hz0, hz1, hz2⟩ := info_parts sgInfo
 refine wp_buildSlice 29 25 2 _ ho (p.cs ++ q.cs) i0 _ Try.underlying29 hi hz0 (by rw [hz1]; decide) (by rw [hz1]; decide) ?_ h
 rw [hz1]
 simp only [List.map_toArray, List.map_cons, List.map_nil, hx, hy]
 first
 | kernel_rfl
 | (cases p; cases q; rfl)
theorem Blk.two4 {w : World} {b : Nat} {p q : Sg} (h : Blk w b (p.cs ++ q.cs) 25) : GAt encSg w b [p, q] := fun i a hi j hj => by
 have hj8 : j < 4 := hj
 match i, hi with
 | 0, hi =>
  simp at hi; subst hi
  rw [Nat.zero_mul, Nat.zero_add, h.cell, Array.getElem?_append_left (by show j < 4; omega)]
  exact Array.getElem?_toList.symm
 | 1, hi =>
  simp at hi; subst hi
  rw [h.cell, Array.getElem?_append_right (by show 4 ≤ 1 * 4 + j; omega), show 1 * encSg.s + j - p.cs.size = j by show 1 * 4 + j - 4 = j; omega]
  exact Array.getElem?_toList.symm
 | i + 2, hi => simp at hi
end Go.Proofs.Ytagiaiocgjagnaa
