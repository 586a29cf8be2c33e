/- ShieldSums: its memory. -/
import Derived.Test.YtkoidookanmknaaV54
namespace Go.Proofs.Ytkoidookanmknaa
set_option linter.unusedSimpArgs false
set_option linter.unusedVariables false
open Go.RowKit

/-- Three rows of ints of the call's own. -/
structure Tri (w W : World) (av bv cv : Value) (A B C : List Int) : Prop where
  ext : Ext w W
  ra : VRow W w.heap.size av A
  rb : VRow W w.heap.size bv B
  rc : VRow W w.heap.size cv C
  ab : ∀ g, av.ownBlock = some g → bv.ownBlock ≠ some g
  ac : ∀ g, av.ownBlock = some g → cv.ownBlock ≠ some g
  bc : ∀ g, bv.ownBlock = some g → cv.ownBlock ≠ some g
theorem Tri.rot {w W : World} {av bv cv : Value} {A B C : List Int} (h : Tri w W av bv cv A B C) : Tri w W bv cv av B C A :=
  ⟨h.ext, h.rb, h.rc, h.ra, h.bc, fun g e e' => h.ab g e' e, fun g e e' => h.ac g e' e⟩
theorem Tri.keep {w W W' : World} {av bv cv : Value} {A B C : List Int} (h : Tri w W av bv cv A B C) (k : Ext W W') : Tri w W' av bv cv A B C :=
  ⟨h.ext.trans k, h.ra.ext k, h.rb.ext k, h.rc.ext k, h.ab, h.ac, h.bc⟩
theorem Tri.start (w : World) : Tri w w (.slice none 0 0) (.slice none 0 0) (.slice none 0 0) [] [] [] :=
  ⟨Ext.refl w, VRow.nil _ _, VRow.nil _ _, VRow.nil _ _, fun g e => by simp [Value.ownBlock] at e, fun g e => by simp [Value.ownBlock] at e, fun g e => by simp [Value.ownBlock] at e⟩
theorem Tri.add {w W W1 : World} {av bv cv : Value} {A B C : List Int} {g cap : Nat} {x : Int} (h : Tri w W av bv cv A B C)
    (hown : W1.ownsRow w.heap.size 3 1 (.slice (some ⟨g, 0, none⟩) (A.length + 1) cap) (A.length + 1) (ivals A ++ ivals [x])) (hgr : W.grownBy W1 av.ownBlock) (hat : av.ownBlock = some g ∨ g = W.heap.size) :
    Tri w W1 (.slice (some ⟨g, 0, none⟩) (A.length + 1) cap) bv cv (A ++ [x]) B C := by
  have hne : ∀ v y : Value, ∀ D : List Int, VRow W w.heap.size v D → (∀ g, av.ownBlock = some g → v.ownBlock ≠ some g) → ∀ q, (Value.slice (some ⟨g, 0, none⟩) (A.length + 1) cap).ownBlock = some q → v.ownBlock ≠ some q := fun v _ D hv hd q hq e => by
    simp [Value.ownBlock] at hq
    subst hq
    rcases hat with hat | hat
    · exact hd _ hat e
    · have := (owns_lt hv e).2; omega
  exact ⟨ext_grown h.ext hgr (fun x hx => (owns_lt h.ra hx).1), VRow.app rfl hown, owns_grown h.rb hgr (fun q hq e => h.ab q e hq), owns_grown h.rc hgr (fun q hq e => h.ac q e hq), hne bv bv B h.rb h.ab, hne cv cv C h.rc h.ac, h.bc⟩
theorem row_ints {W : World} {base i : Nat} {v : Value} {A : List Int} (h : VRow W base v A) (ha : SetOK i A) (hi : i ≤ 1000) : ∃ a c, v = .slice a A.length c ∧ Ints W a A.length A := by
  have hl := ha.len
  exact h.ints (by omega) (fun k hk => by rw [getD_get hk]; have := ha.2 _ (List.getElem_mem hk); exact ⟨by omega, by omega⟩)
/-- Three sets as a sheet. -/
theorem tri_shin {W : World} {G V : Nat} {aa ba ca : Option Addr} {ac bc cc n : Nat} {A B C : List Int} (hA : Ints W aa A.length A) (hB : Ints W ba B.length B) (hC : Ints W ca C.length C)
    (hG : Blk W G #[.slice aa A.length ac, .slice ba B.length bc, .slice ca C.length cc] 22) (hV : Blk W V #[.int .i64 1, .int .i64 2, .int .i64 3] 3) (ha : A.length ≤ 1000) (hb : B.length ≤ 1000) (hc : C.length ≤ 1000) :
    ShIn W (n : Int) ⟨some ⟨G, 0, none⟩, 3, 3⟩ ⟨some ⟨V, 0, none⟩, 3, 3⟩ [⟨aa, A.length, ac⟩, ⟨ba, B.length, bc⟩, ⟨ca, C.length, cc⟩] [A, B, C] [1, 2, 3] := by
  have h3 : ∀ i, i < 3 → i = 0 ∨ i = 1 ∨ i = 2 := fun i hi => by omega
  refine ⟨⟨rfl, rfl, by simp, .inr ⟨G, 0, rfl, hG.lt, fun i hi => ?_⟩, fun i hi => ?_⟩, ?_, fun k => ?_⟩
  · rcases h3 i hi with rfl | rfl | rfl
    · exact hG.cell 0
    · exact hG.cell 1
    · exact hG.cell 2
  · rcases h3 i hi with rfl | rfl | rfl
    · exact hA
    · exact hB
    · exact hC
  · exact blk_ints (l := [1, 2, 3]) hV rfl (by simp) (fun x hx => by simp at hx; exact ⟨by omega, by omega⟩)
  · match k with
    | 0 => exact ha
    | 1 => exact hb
    | 2 => exact hc
    | k + 3 => simp
theorem tri_valid {n : Nat} {A B C : List Int} (h : Par n n A B C) (hn : 2 ≤ n) (hn2 : n ≤ 32) : validE n [A, B, C] [1, 2, 3] = 0 :=
  validE_ok (by omega) (by simp) (by omega) (by simp) (fun i hi => by
    have h3 : i = 0 ∨ i = 1 ∨ i = 2 := by simp at hi; omega
    rcases h3 with rfl | rfl | rfl
    · exact itemBad_no (fun e => by have h9 := h.first (by omega); have e9 : A = [] := List.eq_nil_of_length_eq_zero e; rw [e9] at h9; simp at h9) (by simp) (by simp) (fun k hk => h.a.cells k hk)
    · exact itemBad_no (fun e => by have h9 := h.last (by omega); have e9 : B = [] := List.eq_nil_of_length_eq_zero e; rw [e9] at h9; simp at h9) (by simp) (by simp) (fun k hk => h.b.cells k hk)
    · exact itemBad_no (fun e => by have h9 := h.inC 0 (by omega); have e9 : C = [] := List.eq_nil_of_length_eq_zero e; rw [e9] at h9; simp at h9) (by simp) (by simp) (fun k hk => h.c.cells k hk))
theorem bvals_cell {W : World} {b : Nat} {l : List Bool} (h : Blk W b (bvals l).toArray 4) (k : Nat) (hk : k < l.length) : W.cell? ⟨b, k, none⟩ = some (.bool (l.getD k false)) := by
  rw [h.cell]; simp [bvals, hk]
theorem bvals_put {W : World} {b k : Nat} {l : List Bool} {x : Bool} (h : Blk W b (bvals l).toArray 4) : Blk (W.setCell ⟨b, k, none⟩ (.bool x)) b (bvals (l.set k x)).toArray 4 := by
  have := h.set k (.bool x)
  rwa [show (bvals l).toArray.setIfInBounds k (.bool x) = (bvals (l.set k x)).toArray by simp [bvals, List.map_set]] at this
/-- The table that grows. -/
structure TabI (w W : World) (T : Nat) (vS : Value) (gs : List Sl) (Ls : List (List Int)) (l1 l2 : List Bool) : Prop where
  lo : w.heap.size ≤ T
  ext : Ext w W
  box : Blk W T #[.int .i64 12, vS, .slice none 0 0] 31
  own : GSh W (T + 1 + 1 + 1) vS (.slice none 0 0) gs Ls []
  h1 : Blk W (T + 1) (bvals l1).toArray 4
  h2 : Blk W (T + 1 + 1) (bvals l2).toArray 4
theorem TabI.keep {w W W' : World} {T : Nat} {vS : Value} {gs : List Sl} {Ls : List (List Int)} {l1 l2 : List Bool} (h : TabI w W T vS gs Ls l1 l2) (k : Ext W W') : TabI w W' T vS gs Ls l1 l2 :=
  ⟨h.lo, h.ext.trans k, h.box.ext k, h.own.ext k, h.h1.ext k, h.h2.ext k⟩
theorem TabI.addS {w W W1 : World} {T g cap b n c : Nat} {vS : Value} {gs : List Sl} {Ls : List (List Int)} {l1 l2 : List Bool} {L : List Int} (h : TabI w W T vS gs Ls l1 l2) (hI : Ints W (some ⟨b, 0, none⟩) n L) (hb : T + 1 + 1 + 1 ≤ b) (hlt : b < W.heap.size) (h1 : vS.ownBlock ≠ some b)
    (hown : W1.ownsRow (T + 1 + 1 + 1) 22 1 (.slice (some ⟨g, 0, none⟩) (Ls.length + 1) cap) (Ls.length + 1) (gs.map Sl.v ++ [.slice (some ⟨b, 0, none⟩) n c])) (hgr : W.grownBy W1 vS.ownBlock) (hat : vS.ownBlock = some g ∨ g = W.heap.size) :
    W1.cell? ⟨T, 1, none⟩ = some vS ∧ W1.frozen? ⟨T, 1, none⟩ = false ∧ TabI w (W1.setCell ⟨T, 1, none⟩ (.slice (some ⟨g, 0, none⟩) (Ls.length + 1) cap)) T (.slice (some ⟨g, 0, none⟩) (Ls.length + 1) cap) (gs ++ [⟨some ⟨b, 0, none⟩, n, c⟩]) (Ls ++ [L]) l1 l2 := by
  have hge : ∀ x, vS.ownBlock = some x → T + 1 + 1 + 1 ≤ x := fun x hx => (owns_lt h.own.S hx).1
  have hX := blk_grown2 h.box hgr (fun e => by have := hge _ e; omega)
  have hY := blk_grown2 h.h1 hgr (fun e => by have := hge _ e; omega)
  have hZ := blk_grown2 h.h2 hgr (fun e => by have := hge _ e; omega)
  have hlo := h.lo
  exact ⟨hX.cell 1, hX.free 1, hlo, (ext_grown h.ext hgr (fun x hx => by have := hge x hx; omega)).setCell (by simp; omega) _, hX.set 1 _, (h.own.addS hI hb hlt h1 (fun e => by simp [Value.ownBlock] at e) hown hgr hat).low (by omega), hY.setOther (by simp) _, hZ.setOther (by simp; omega) _⟩
theorem TabI.put1 {w W : World} {T k : Nat} {vS : Value} {gs : List Sl} {Ls : List (List Int)} {l1 l2 : List Bool} {x : Bool} (h : TabI w W T vS gs Ls l1 l2) : TabI w (W.setCell ⟨T + 1, k, none⟩ (.bool x)) T vS gs Ls (l1.set k x) l2 := by
  have hlo := h.lo
  exact ⟨hlo, h.ext.setCell (by simp; omega) _, h.box.setOther (by simp) _, h.own.low (by omega), bvals_put h.h1, h.h2.setOther (by simp) _⟩
theorem TabI.put2 {w W : World} {T k : Nat} {vS : Value} {gs : List Sl} {Ls : List (List Int)} {l1 l2 : List Bool} {x : Bool} (h : TabI w W T vS gs Ls l1 l2) : TabI w (W.setCell ⟨T + 1 + 1, k, none⟩ (.bool x)) T vS gs Ls l1 (l2.set k x) := by
  have hlo := h.lo
  exact ⟨hlo, h.ext.setCell (by simp; omega) _, h.box.setOther (by simp; omega) _, h.own.low (by omega), h.h1.setOther (by simp) _, bvals_put h.h2⟩
theorem TabI.fin {w W : World} {T g cap : Nat} {gs : List Sl} {l1 l2 : List Bool} {Z : List Int} (h : TabI w W T (.slice (some ⟨g, 0, none⟩) 20 cap) gs tabL l1 l2) (hZ : List.replicate 20 0 = Z) :
    Ext w ((W.setCell ⟨T, 2, none⟩ (.slice (some ⟨W.heap.size, 0, none⟩) 20 20)).alloc (.cells (icells Z) 3)) ∧ Blk ((W.setCell ⟨T, 2, none⟩ (.slice (some ⟨W.heap.size, 0, none⟩) 20 20)).alloc (.cells (icells Z) 3)) T #[.int .i64 12, .slice (some ⟨g, 0, none⟩) 20 cap, .slice (some ⟨W.heap.size, 0, none⟩) 20 20] 31 ∧
    ShIn ((W.setCell ⟨T, 2, none⟩ (.slice (some ⟨W.heap.size, 0, none⟩) 20 20)).alloc (.cells (icells Z) 3)) 12 ⟨some ⟨g, 0, none⟩, 20, cap⟩ ⟨some ⟨W.heap.size, 0, none⟩, 20, 20⟩ gs tabL Z ∧
    Blk ((W.setCell ⟨T, 2, none⟩ (.slice (some ⟨W.heap.size, 0, none⟩) 20 20)).alloc (.cells (icells Z) 3)) (T + 1) (bvals l1).toArray 4 ∧ Blk ((W.setCell ⟨T, 2, none⟩ (.slice (some ⟨W.heap.size, 0, none⟩) 20 20)).alloc (.cells (icells Z) 3)) (T + 1 + 1) (bvals l2).toArray 4 := by
  have hlo := h.lo
  have hG := (h.own.low (b := T) (o := 2) (u := .slice (some ⟨W.heap.size, 0, none⟩) 20 20) (by omega)).ext ((Ext.refl _).alloc (.cells (icells Z) 3))
  obtain ⟨⟨s1, s2, s3⟩, vs, e1, _, _, _, hSh⟩ := hG.shin (n := 12) (by rw [tab_len]; omega) (by simp) (fun i hi => absurd hi (by simp)) (fun k => by
    have h9 : ∀ k : Fin 20, (tabL.getD k.val []).length ≤ 1000 := by decide
    by_cases hk : k < 20
    · exact h9 ⟨k, hk⟩
    · rw [List.getD_eq_getElem?_getD, List.getElem?_eq_none (by rw [tab_len]; omega)]; simp)
  simp only [Sl.v] at e1
  injection e1 with p1 p2 p3
  subst p1; subst p2; subst p3
  refine ⟨(h.ext.setCell (by simp; omega) _).alloc _, (h.box.set 2 _).alloc _, ⟨hSh.grps, ?_, hSh.len⟩, (h.h1.setOther (by simp) _).alloc _, (h.h2.setOther (by simp; omega) _).alloc _⟩
  exact blk_ints (Blk.at _ _ (by simp)) (by rw [← hZ]; simp) (by rw [← hZ]; simp) (fun x hx => by rw [← hZ] at hx; have := List.eq_of_mem_replicate hx; subst this; exact ⟨by omega, by omega⟩)
theorem tab_valid : validE 12 tabL (List.replicate 20 0) = 0 := by decide
theorem tab_few : FewOK tabL := .inr fun k x hx => (tab_lt k x hx).2
end Go.Proofs.Ytkoidookanmknaa
