/- A law's own sheet that grows, with a list of bools beside it. -/
import Derived.Test.YtkoidookanmknaaV31
import Derived.Test.YtkoidookanmknaaV30
namespace Go.Proofs.Ytkoidookanmknaa
set_option linter.unusedSimpArgs false
set_option linter.unusedVariables false
open Go.RowKit

/-- Rows of unlike elements lie in unlike blocks. -/
theorem owns_ne2 {w : World} {b b' : Nat} {e e' : TypeId} {s s' : Nat} {v u : Value} {n m : Nat} {xs ys : List Value} (h : w.ownsRow b e s v n xs) (h' : w.ownsRow b' e' s' u m ys) (he : e ≠ e') {g : Nat} (hg : v.ownBlock = some g) : u.ownBlock ≠ some g := by
  obtain ⟨_, ⟨hv, _⟩ | ⟨g1, cap, cur, hv, _, hh, _⟩⟩ := h
  · subst hv; simp [Value.ownBlock] at hg
  · subst hv
    simp [Value.ownBlock] at hg
    subst hg
    obtain ⟨_, ⟨hv, _⟩ | ⟨g2, cap2, cur2, hv, _, hh2, _⟩⟩ := h'
    · subst hv; simp [Value.ownBlock]
    · subst hv
      intro e1
      simp [Value.ownBlock] at e1
      subst e1
      rw [hh] at hh2
      injection hh2 with hh2
      injection hh2 with _ e2 _
      exact he e2
theorem GSh.grow {W W1 : World} {base : Nat} {vS vV : Value} {gs : List Sl} {Ls : List (List Int)} {zs : List Int} {row : Option Nat} (h : GSh W base vS vV gs Ls zs) (k : W.grownBy W1 row) (h1 : ∀ g, vS.ownBlock = some g → row ≠ some g) (h2 : ∀ g, vV.ownBlock = some g → row ≠ some g)
    (h3 : ∀ j b, j < gs.length → (gs.getD j sl0).a = some ⟨b, 0, none⟩ → row ≠ some b) : GSh W1 base vS vV gs Ls zs :=
  ⟨h.n1, owns_grown h.S k h1, owns_grown h.V k h2, h.ne, fun i hi => by
    obtain ⟨b, a1, a2, a3, a4, a5⟩ := h.sets i hi
    exact ⟨b, a1, a2, Nat.lt_of_lt_of_le a3 k.size, ints_grown a4 k a3 (h3 i b (by rw [h.n1]; exact hi) a1), a5⟩⟩
/-- A list of bools beside a sheet. -/
structure GBo (W : World) (base : Nat) (vg : Value) (hs : List Bool) (gs : List Sl) : Prop where
  B : W.ownsRow base 4 1 vg hs.length (bvals hs)
  sets : ∀ k b, k < gs.length → (gs.getD k sl0).a = some ⟨b, 0, none⟩ → vg.ownBlock ≠ some b ∧ b < W.heap.size
theorem GBo.ext {W W' : World} {base : Nat} {vg : Value} {hs : List Bool} {gs : List Sl} (h : GBo W base vg hs gs) (k : Ext W W') : GBo W' base vg hs gs :=
  ⟨gowns_ext k h.B, fun j b hj hb => ⟨(h.sets j b hj hb).1, Nat.lt_of_lt_of_le (h.sets j b hj hb).2 k.size⟩⟩
theorem GBo.grow {W W1 : World} {base : Nat} {vg : Value} {hs : List Bool} {gs : List Sl} {row : Option Nat} (h : GBo W base vg hs gs) (k : W.grownBy W1 row) (hne : ∀ g, vg.ownBlock = some g → row ≠ some g) : GBo W1 base vg hs gs :=
  ⟨owns_grown h.B k hne, fun j b hj hb => ⟨(h.sets j b hj hb).1, Nat.lt_of_lt_of_le (h.sets j b hj hb).2 k.size⟩⟩
theorem GBo.more {W : World} {base : Nat} {vg : Value} {hs : List Bool} {gs : List Sl} {b n c : Nat} (h : GBo W base vg hs gs) (hb : vg.ownBlock ≠ some b) (hlt : b < W.heap.size) : GBo W base vg hs (gs ++ [⟨some ⟨b, 0, none⟩, n, c⟩]) :=
  ⟨h.B, fun j x hj hx => by
    by_cases hj' : j < gs.length
    · rw [show (gs ++ [(⟨some ⟨b, 0, none⟩, n, c⟩ : Sl)]).getD j sl0 = gs.getD j sl0 by simp [List.getD_eq_getElem?_getD, List.getElem?_append, hj']] at hx
      exact h.sets j x hj' hx
    · obtain rfl : j = gs.length := by simp at hj; omega
      rw [show (gs ++ [(⟨some ⟨b, 0, none⟩, n, c⟩ : Sl)]).getD gs.length sl0 = ⟨some ⟨b, 0, none⟩, n, c⟩ by simp [List.getD_eq_getElem?_getD]] at hx
      injection hx with hx
      injection hx with hx
      subst hx
      exact ⟨hb, hlt⟩⟩
theorem GBo.add {W W1 : World} {base g cap : Nat} {vg : Value} {hs : List Bool} {gs : List Sl} {x : Bool} (h : GBo W base vg hs gs)
    (hown : W1.ownsRow base 4 1 (.slice (some ⟨g, 0, none⟩) (hs.length + 1) cap) (hs.length + 1) (bvals hs ++ bvals [x])) (hgr : W.grownBy W1 vg.ownBlock) (hat : vg.ownBlock = some g ∨ g = W.heap.size) :
    GBo W1 base (.slice (some ⟨g, 0, none⟩) (hs.length + 1) cap) (hs ++ [x]) gs := by
  refine ⟨by rw [List.length_append]; unfold bvals at *; rw [List.map_append]; exact hown, fun j b hj hb => ?_⟩
  obtain ⟨h1, h2⟩ := h.sets j b hj hb
  refine ⟨fun e => ?_, Nat.lt_of_lt_of_le h2 hgr.size⟩
  simp [Value.ownBlock] at e
  rcases hat with hat | hat
  · rw [hat, e] at h1; exact h1 rfl
  · omega
/-- The box, the sheet and the bools. -/
structure Num (w W : World) (Y N : Nat) (vS vV vg : Value) (gs : List Sl) (Ls : List (List Int)) (zs : List Int) (hs : List Bool) : Prop where
  lo : w.heap.size ≤ Y
  ext : Ext w W
  box : Blk W Y #[.int .i64 (N : Int), vS, vV] 31
  own : GSh W (Y + 1) vS vV gs Ls zs
  b : GBo W (Y + 1) vg hs gs
theorem Num.keep {w W W' : World} {Y N : Nat} {vS vV vg : Value} {gs : List Sl} {Ls : List (List Int)} {zs : List Int} {hs : List Bool} (h : Num w W Y N vS vV vg gs Ls zs hs) (k : Ext W W') : Num w W' Y N vS vV vg gs Ls zs hs :=
  ⟨h.lo, h.ext.trans k, h.box.ext k, h.own.ext k, h.b.ext k⟩
theorem GBo.low {W : World} {base b o : Nat} {u vg : Value} {hs : List Bool} {gs : List Sl} (h : GBo W base vg hs gs) (hb : b < base) : GBo (W.setCell ⟨b, o, none⟩ u) base vg hs gs :=
  h.grow (grown_setCell W b o u) (fun g hg e => by have := (gowns_lt h.B hg).1; injection e with e; omega)
theorem Num.addS {w W W1 : World} {Y N g cap b n c : Nat} {vS vV vg : Value} {gs : List Sl} {Ls : List (List Int)} {zs : List Int} {hs : List Bool} {L : List Int} (h : Num w W Y N vS vV vg gs Ls zs hs) (hI : Ints W (some ⟨b, 0, none⟩) n L) (hb : Y + 1 ≤ b) (hlt : b < W.heap.size) (h1 : vS.ownBlock ≠ some b) (h2 : vV.ownBlock ≠ some b) (h3 : vg.ownBlock ≠ some b)
    (hown : W1.ownsRow (Y + 1) 22 1 (.slice (some ⟨g, 0, none⟩) (Ls.length + 1) cap) (Ls.length + 1) (gs.map Sl.v ++ [.slice (some ⟨b, 0, none⟩) n c])) (hgr : W.grownBy W1 vS.ownBlock) (hat : vS.ownBlock = some g ∨ g = W.heap.size) :
    W1.cell? ⟨Y, 1, none⟩ = some vS ∧ W1.frozen? ⟨Y, 1, none⟩ = false ∧ Num w (W1.setCell ⟨Y, 1, none⟩ (.slice (some ⟨g, 0, none⟩) (Ls.length + 1) cap)) Y N (.slice (some ⟨g, 0, none⟩) (Ls.length + 1) cap) vV vg (gs ++ [⟨some ⟨b, 0, none⟩, n, c⟩]) (Ls ++ [L]) zs hs := by
  have hge : ∀ x, vS.ownBlock = some x → Y + 1 ≤ x := fun x hx => (owns_lt h.own.S hx).1
  have hX := blk_grown2 h.box hgr (fun e => by have := hge _ e; omega)
  have hl := h.lo
  refine ⟨hX.cell 1, hX.free 1, ⟨hl, (ext_grown h.ext hgr (fun x hx => by have := hge x hx; omega)).setCell (by simp; omega) _, hX.set 1 _, (h.own.addS hI hb hlt h1 h2 hown hgr hat).low (by omega), ?_⟩⟩
  exact ((h.b.more h3 hlt).grow hgr (fun x hx e => owns_ne2 h.own.S h.b.B (by decide) e hx)).low (by omega)
theorem Num.addV {w W W1 : World} {Y N g cap : Nat} {vS vV vg : Value} {gs : List Sl} {Ls : List (List Int)} {zs : List Int} {hs : List Bool} {x : Int} (h : Num w W Y N vS vV vg gs Ls zs hs)
    (hown : W1.ownsRow (Y + 1) 3 1 (.slice (some ⟨g, 0, none⟩) (zs.length + 1) cap) (zs.length + 1) (ivals zs ++ ivals [x])) (hgr : W.grownBy W1 vV.ownBlock) (hat : vV.ownBlock = some g ∨ g = W.heap.size) :
    W1.cell? ⟨Y, 2, none⟩ = some vV ∧ W1.frozen? ⟨Y, 2, none⟩ = false ∧ Num w (W1.setCell ⟨Y, 2, none⟩ (.slice (some ⟨g, 0, none⟩) (zs.length + 1) cap)) Y N vS (.slice (some ⟨g, 0, none⟩) (zs.length + 1) cap) vg gs Ls (zs ++ [x]) hs := by
  have hge : ∀ x, vV.ownBlock = some x → Y + 1 ≤ x := fun x hx => (owns_lt h.own.V hx).1
  have hX := blk_grown2 h.box hgr (fun e => by have := hge _ e; omega)
  have hl := h.lo
  refine ⟨hX.cell 2, hX.free 2, ⟨hl, (ext_grown h.ext hgr (fun x hx => by have := hge x hx; omega)).setCell (by simp; omega) _, hX.set 2 _, (h.own.addV hown hgr hat).low (by omega), ?_⟩⟩
  exact (h.b.grow hgr (fun x hx e => owns_ne2 h.own.V h.b.B (by decide) e hx)).low (by omega)
theorem Num.addB {w W W1 : World} {Y N g cap : Nat} {vS vV vg : Value} {gs : List Sl} {Ls : List (List Int)} {zs : List Int} {hs : List Bool} {x : Bool} (h : Num w W Y N vS vV vg gs Ls zs hs)
    (hown : W1.ownsRow (Y + 1) 4 1 (.slice (some ⟨g, 0, none⟩) (hs.length + 1) cap) (hs.length + 1) (bvals hs ++ bvals [x])) (hgr : W.grownBy W1 vg.ownBlock) (hat : vg.ownBlock = some g ∨ g = W.heap.size) :
    Num w W1 Y N vS vV (.slice (some ⟨g, 0, none⟩) (hs.length + 1) cap) gs Ls zs (hs ++ [x]) := by
  have hge : ∀ x, vg.ownBlock = some x → Y + 1 ≤ x := fun x hx => (gowns_lt h.b.B hx).1
  have hX := blk_grown2 h.box hgr (fun e => by have := hge _ e; omega)
  have hl := h.lo
  refine ⟨hl, ext_grown h.ext hgr (fun x hx => by have := hge x hx; omega), hX, ?_, h.b.add hown hgr hat⟩
  exact h.own.grow hgr (fun y hy e => owns_ne2 h.b.B h.own.S (by decide) e hy) (fun y hy e => owns_ne2 h.b.B h.own.V (by decide) e hy) (fun j b hj hb => (h.b.sets j b hj hb).1)
end Go.Proofs.Ytkoidookanmknaa
