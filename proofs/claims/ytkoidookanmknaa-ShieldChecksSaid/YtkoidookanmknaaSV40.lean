/- meresmanref01: Has; meresmanref30: Row. -/
import Derived.Test.YtkoidookanmknaaSV27
namespace Go.Proofs.Ytkoidookanmknaa
set_option linter.unusedSimpArgs false
set_option linter.unusedVariables false
open Go.RowKit

theorem step_append_lies {ops : Array Oper} {w : World} {P : Program} {o : Oper} {a : Act} {K : Act → World → Prop} {Q : Exit → Act → World → Prop} {E : Prop} (hgd : o.guard = none) (s x : Operand) (t : TypeId)
  (ho : o.op = .call { callee := .builtin .append, args := #[s, x], argTypes := #[t, t] })
  (base : Nat) (e : TypeId) (i : TypeInfo) (z : Value) (size bytes : Nat) (ht : P.underlying t = some (.slice e)) (hi : P.info? e = some i) (hz : i.zero = some z)
  (hsize : i.size = size) (hby : i.bytes = bytes) (hzs : z.cells.size = size) (hsz : 0 < size)
  (v : Value) (n : Nat) (xs : List Value) (hs : a.eval s = v) (hown : w.ownsRow base e size v n xs)
  (ad : Addr) (m c : Nat) (news : List Value) (hx : a.eval x = .slice (some ad) m c) (hl : news.length = m * size) (hnews : ∀ j u, news[j]? = some u → w.cell? (ad.add j) = some u) (h1 : ∀ u ∈ news, u.oneCell' = true)
  (hm : 0 < m) (h63 : n + m ≤ maxLen) (hbytes : (n + m) * bytes ≤ 140737488355328) (hbase : base ≤ w.heap.size) (H : Nat) (hH : w.heap.size = H)
  (h : ∀ g cap w', w'.ownsRow base e size (.slice (some ⟨g, 0, none⟩) (n + m) cap) (n + m) (xs ++ news) → w.grownBy w' v.ownBlock → (v.ownBlock = some g ∨ g = H) → g < w'.heap.size → K (a.put o.dst (.slice (some ⟨g, 0, none⟩) (n + m) cap)) w') :
  if Region.wanted o (yielded ops a.tmps) = true then Oper.wp P o a w K Q else E := by
 have hw : Region.wanted o (yielded ops a.tmps) = true := by simp [Region.wanted, hgd]
 rw [if_pos hw]
 exact wp_append_lies w s x t ho base e i z size bytes ht hi hz hsize hby hzs hsz v n xs hs hown ad m c news hx hl hnews h1 hm h63 hbytes hbase H hH h
/-- The row of a set, in integers. -/
def rowI (n : Nat) (L : List Int) : List Int := (List.range n).map fun c : Nat => if (c : Int) ∈ L then (1 : Int) else 0
theorem VRow.app2 {w1 : World} {base g cap m n : Nat} {l k : List Int} (hn : l.length = n) (hm : k.length = m) (h : w1.ownsRow base 3 1 (.slice (some ⟨g, 0, none⟩) (n + m) cap) (n + m) (ivals l ++ ivals k)) :
  VRow w1 base (.slice (some ⟨g, 0, none⟩) (n + m) cap) (l ++ k) := by subst hn; exact VRow.app hm h
/- meresmanref30: divided. -/
open Go.RowKit

theorem getD_app {α : Type} {l m : List α} {k : Nat} {d : α} (hk : k < l.length) : (l ++ m).getD k d = l.getD k d := by
 simp [List.getD_eq_getElem?_getD, List.getElem?_append, hk]
theorem getD_last {α : Type} {l : List α} {x d : α} {k : Nat} (hk : k = l.length) : (l ++ [x]).getD k d = x := by
 subst hk; simp [List.getD_eq_getElem?_getD]
end Go.Proofs.Ytkoidookanmknaa
