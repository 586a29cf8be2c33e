/- Lists of points of the call's own. -/
import Derived.Test.YtgmedfloflplgaaEC
import Derived.Test.YtgmedfloflplgaaR06c
namespace Go.Proofs.Ytgmedfloflplgaa
set_option linter.unusedSimpArgs false
set_option linter.unusedVariables false
open Go.RowKit

def pcells (l : List Pt) : List Value := l.flatMap fun p => [.int .i64 p.x, .int .i64 p.y]
theorem pcells_length (l : List Pt) : (pcells l).length = l.length * 2 := by
  induction l with
  | nil => rfl
  | cons p l ih => simp [pcells] at ih ⊢; omega
theorem pcells_append (l k : List Pt) : pcells (l ++ k) = pcells l ++ pcells k := by simp [pcells]
theorem pcells_at (l : List Pt) (i : Nat) (hi : i < l.length) : (pcells l)[i * 2]? = some (.int .i64 (l.getD i ⟨0, 0⟩).x) ∧ (pcells l)[i * 2 + 1]? = some (.int .i64 (l.getD i ⟨0, 0⟩).y) := by
  induction l generalizing i with
  | nil => simp at hi
  | cons p l ih =>
    have hp : pcells (p :: l) = .int .i64 p.x :: .int .i64 p.y :: pcells l := by simp [pcells]
    rw [hp]
    match i with
    | 0 => simp
    | i + 1 =>
      have := ih i (by simpa using hi)
      rw [show (i + 1) * 2 = i * 2 + 1 + 1 by omega]
      simpa using this
/-- A slice of points of the call's own. -/
def PRow (w : World) (base : Nat) (v : Value) (l : List Pt) : Prop := w.ownsRow base 25 2 v l.length (pcells l)
theorem PRow.nil (w : World) (base : Nat) : PRow w base (.slice none 0 0) [] := ⟨rfl, .inl ⟨rfl, rfl⟩⟩
theorem PRow.empty {w : World} {base b : Nat} (hb : base ≤ b) (h : Blk w b #[] 25) : PRow w base (.slice (some ⟨b, 0, none⟩) 0 0) [] :=
  ⟨rfl, .inr ⟨b, 0, #[], rfl, hb, h, Nat.le_refl _, by rw [maxLen]; omega, rfl, rfl⟩⟩
theorem PRow.ext {w w' : World} {base : Nat} {v : Value} {l : List Pt} (k : Ext w w') (h : PRow w base v l) : PRow w' base v l := owns_ext k h
theorem PRow.pts {w : World} {base g n cap : Nat} {l : List Pt} (h : PRow w base (.slice (some ⟨g, 0, none⟩) n cap) l) : Pts w g l := fun i hi => by
  obtain ⟨h0, ⟨hv, _⟩ | ⟨g', cap', cur, hv, hb, hh, hle, hc, hsz, htk⟩⟩ := h
  · simp at hv
  · simp at hv
    obtain ⟨rfl, rfl, rfl⟩ := hv
    obtain ⟨p1, p2⟩ := pcells_at l i hi
    rw [← htk] at p1 p2
    rw [List.getElem?_take_of_lt (by omega)] at p1 p2
    constructor
    · simp [World.cell?, hh]; simpa using p1
    · simp [World.cell?, hh]; simpa using p2
theorem pointInfo : (Try.prog.info? 25).map (fun i => (i.zero, i.size, i.bytes)) = some (some (.agg #[.int .i64 0, .int .i64 0]), 2, 16) := by kernel_rfl
/-- The cells of a list, where it lies. -/
theorem news_atL {w : World} {b : Nat} {l : List Pt} (h : Pts w b l) : ∀ (j : Nat) (u : Value), (pcells l)[j]? = some u → w.cell? ((⟨b, 0, none⟩ : Addr).add j) = some u := fun j u hu => by
  have hadd : (⟨b, 0, none⟩ : Addr).add j = ⟨b, j, none⟩ := by unfold Addr.add; split <;> simp_all
  rw [hadd]
  have hj : j < l.length * 2 := by
    rw [← pcells_length]
    rcases Nat.lt_or_ge j (pcells l).length with h | h
    · exact h
    · rw [List.getElem?_eq_none h] at hu; cases hu
  obtain ⟨p1, p2⟩ := pcells_at l (j / 2) (by omega)
  obtain ⟨c1, c2⟩ := h (j / 2) (by omega)
  rcases Nat.mod_two_eq_zero_or_one j with hm | hm
  · rw [show j / 2 * 2 = j by omega] at p1 c1
    rw [p1] at hu; rw [c1, hu]
  · rw [show j / 2 * 2 + 1 = j by omega] at p2 c2
    rw [p2] at hu; rw [c2, hu]
theorem pcells_one (l : List Pt) : ∀ u ∈ pcells l, u.oneCell' = true := by
  intro u hu
  simp [pcells] at hu
  obtain ⟨p, _, rfl | rfl⟩ := hu <;> rfl
theorem PRow.app {w1 : World} {base g cap : Nat} {l : List Pt} {p : Pt} (h : w1.ownsRow base 25 2 (.slice (some ⟨g, 0, none⟩) (l.length + 1) cap) (l.length + 1) (pcells l ++ pcells [p])) :
    PRow w1 base (.slice (some ⟨g, 0, none⟩) (l.length + 1) cap) (l ++ [p]) := by
  unfold PRow; rw [pcells_append]; simpa using h
theorem PRow.free {w : World} {base g n cap : Nat} {l : List Pt} (h : PRow w base (.slice (some ⟨g, 0, none⟩) n cap) l) (o : Nat) : w.frozen? ⟨g, o, none⟩ = false := by
  obtain ⟨h0, ⟨hv, _⟩ | ⟨g', cap', cur, hv, hb, hh, _⟩⟩ := h
  · simp at hv
  · simp at hv
    obtain ⟨rfl, rfl, rfl⟩ := hv
    simp [World.frozen?, hh]
theorem Ext.free {w w' : World} {b o : Nat} (k : Ext w w') (hb : b < w.heap.size) (h : w.frozen? ⟨b, o, none⟩ = false) : w'.frozen? ⟨b, o, none⟩ = false := by
  rw [k.see.2.1 b o hb]; exact h
theorem Pts.ext {w w' : World} {b : Nat} {l : List Pt} (k : Ext w w') (h : Pts w b l) : Pts w' b l := h.ik k.ik
theorem Pts.put {w : World} {b k : Nat} {l : List Pt} {p : Pt} (h : Pts w b l) (hk : k < l.length) :
    Pts ((w.setCell ⟨b, k * 2, none⟩ (.int .i64 p.x)).setCell ⟨b, k * 2 + 1, none⟩ (.int .i64 p.y)) b (l.set k p) := fun i hi => by
  rw [List.length_set] at hi
  by_cases hki : k = i
  · subst hki
    rw [getD_set_same' _ _ _ _ hk]
    constructor
    · rw [World.cell?_setCell_other _ _ _ _ (by simp)]; exact World.cell?_setCell_same' _ _ _ (by rw [(h k hk).1]; rfl)
    · refine World.cell?_setCell_same' _ _ _ ?_
      rw [World.cell?_setCell_other _ _ _ _ (by simp), (h k hk).2]; rfl
  · rw [getD_set_other' _ _ _ _ _ hki]
    constructor
    · rw [World.cell?_setCell_other _ _ _ _ (by simp <;> omega), World.cell?_setCell_other _ _ _ _ (by simp <;> omega)]; exact (h i hi).1
    · rw [World.cell?_setCell_other _ _ _ _ (by simp <;> omega), World.cell?_setCell_other _ _ _ _ (by simp <;> omega)]; exact (h i hi).2
theorem Pts.set' {w : World} {b b' o : Nat} {l : List Pt} {v : Value} (h : Pts w b l) (hne : b ≠ b') : Pts (w.setCell ⟨b', o, none⟩ v) b l := fun i hi =>
  ⟨cell_set (h i hi).1 hne, cell_set (h i hi).2 hne⟩
theorem Pts.at4 {w : World} {b : Nat} {p q r s : Pt} (h : Pts w b [p, q, r, s]) : At w b #[.int .i64 p.x, .int .i64 p.y, .int .i64 q.x, .int .i64 q.y, .int .i64 r.x, .int .i64 r.y, .int .i64 s.x, .int .i64 s.y] := fun o ho => by
  match o, ho with
  | 0, _ => exact (h 0 (by simp)).1
  | 1, _ => exact (h 0 (by simp)).2
  | 2, _ => exact (h 1 (by simp)).1
  | 3, _ => exact (h 1 (by simp)).2
  | 4, _ => exact (h 2 (by simp)).1
  | 5, _ => exact (h 2 (by simp)).2
  | 6, _ => exact (h 3 (by simp)).1
  | 7, _ => exact (h 3 (by simp)).2
  | o + 8, ho => simp at ho; omega
theorem four_of {l : List Pt} (h : l.length = 4) : ∃ a b c d, l = [a, b, c, d] := by
  match l, h with
  | [a, b, c, d], _ => exact ⟨a, b, c, d, rfl⟩
theorem Pts.lt {w : World} {b : Nat} {l : List Pt} (h : Pts w b l) (h0 : 0 < l.length) : b < w.heap.size := lt_of_cell (h 0 h0).1
end Go.Proofs.Ytgmedfloflplgaa
