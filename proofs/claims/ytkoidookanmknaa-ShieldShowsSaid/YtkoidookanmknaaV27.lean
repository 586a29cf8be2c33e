/- meresmanref30: Some, its memory. -/
import Derived.Test.YtkoidookanmknaaV26
namespace Go.Proofs.Ytkoidookanmknaa
set_option linter.unusedSimpArgs false
set_option linter.unusedVariables false
open Go.RowKit

theorem intsInfo : (Try.prog.info? 22).map (fun i => (i.zero, i.size, i.bytes)) = some (some (.slice none 0 0), 1, 24) := by kernel_rfl
theorem ints_one (w : World) (s : Int) (h : Int64 s) : Ints (w.alloc (.cells #[.int .i64 s] 3)) (some ⟨w.heap.size, 0, none⟩) 1 [s] :=
  IRow.ints (l := [s]) (n := 1) (Blk.at _ _ rfl) rfl (by omega) fun j hj => by
    have h0 : j = 0 := by omega
    subst h0; exact h
theorem VRow.one {w : World} {base : Nat} (x : Int) (hb : base ≤ w.heap.size) : VRow (w.alloc (.cells #[.int .i64 x] 3)) base (.slice (some ⟨w.heap.size, 0, none⟩) 1 1) [x] :=
  ⟨rfl, .inr ⟨w.heap.size, 1, #[.int .i64 x], rfl, hb, Blk.at _ _ rfl, Nat.le_refl _, by rw [maxLen]; omega, rfl, rfl⟩⟩
theorem SetOK.len {n : Nat} {P : List Int} (h : SetOK n P) : P.length ≤ n := by
  rcases Nat.eq_zero_or_pos P.length with h0 | h0
  · omega
  · have hc : ∀ k, k < P.length → (k : Int) ≤ P.getD k 0 := fun k => by
      induction k with
      | zero => intro hk; rw [getD_get hk]; have := h.2 _ (List.getElem_mem hk); omega
      | succ k ih =>
        intro hk
        have h1 := ih (by omega)
        rw [getD_get (by omega)] at h1
        rw [getD_get hk]
        have := List.pairwise_iff_getElem.1 h.1 k (k + 1) (by omega) hk (by omega)
        omega
    have h1 := hc (P.length - 1) (by omega)
    rw [getD_get (by omega)] at h1
    have h2 := h.2 _ (List.getElem_mem (show P.length - 1 < P.length by omega))
    omega
structure SmI (w ws : World) (B N : Nat) (i : Nat) (vS vV : Value) (gs : List Sl) (Ls : List (List Int)) (zs : List Int) : Prop where
  ext : Ext w ws
  res : Blk ws B #[.int .i64 0, .slice none 0 0, .slice none 0 0] 25
  box : Blk ws (B + 1) #[.int .i64 (N : Int), vS, vV] 25
  own : GSh ws (B + 1 + 1) vS vV gs Ls zs
  nl : Ls.length = i
  nz : zs.length = i
  ok : ∀ k, k < i → SetOK N (Ls.getD k []) ∧ (Ls.getD k []).length ≠ 0
  bd : ∀ k, k < i → 0 ≤ zs.getD k 0 ∧ zs.getD k 0 ≤ 1000
theorem SmI.keep {w ws ws' : World} {B N i : Nat} {vS vV : Value} {gs : List Sl} {Ls : List (List Int)} {zs : List Int} (h : SmI w ws B N i vS vV gs Ls zs) (k : Ext ws ws') : SmI w ws' B N i vS vV gs Ls zs :=
  ⟨h.ext.trans k, h.res.ext k, h.box.ext k, h.own.ext k, h.nl, h.nz, h.ok, h.bd⟩
theorem blk_grown2 {w w' : World} {b : Nat} {cs : Array Value} {t : TypeId} {row : Option Nat} (h : Blk w b cs t) (k : w.grownBy w' row) (hne : row ≠ some b) : Blk w' b cs t := by
  unfold Blk; rw [k.block b h.lt (fun e => hne e.symm)]; exact h
/-- What lies there, the counts aside. -/
structure SoB (w ws : World) (B N : Nat) (vS vV : Value) (gs : List Sl) (Ls : List (List Int)) (zs : List Int) : Prop where
  sz : w.heap.size = B
  ext : Ext w ws
  res : Blk ws B #[.int .i64 0, .slice none 0 0, .slice none 0 0] 25
  box : Blk ws (B + 1) #[.int .i64 (N : Int), vS, vV] 25
  own : GSh ws (B + 1 + 1) vS vV gs Ls zs
theorem SoB.keep {w ws ws' : World} {B N : Nat} {vS vV : Value} {gs : List Sl} {Ls : List (List Int)} {zs : List Int} (h : SoB w ws B N vS vV gs Ls zs) (k : Ext ws ws') : SoB w ws' B N vS vV gs Ls zs :=
  ⟨h.sz, h.ext.trans k, h.res.ext k, h.box.ext k, h.own.ext k⟩
theorem SoB.addS {w W W1 : World} {B N g cap b n c : Nat} {vS vV : Value} {gs : List Sl} {Ls : List (List Int)} {zs : List Int} {L : List Int} (h : SoB w W B N vS vV gs Ls zs) (hI : Ints W (some ⟨b, 0, none⟩) n L) (hb : B + 1 + 1 ≤ b) (hlt : b < W.heap.size) (h1 : vS.ownBlock ≠ some b) (h2 : vV.ownBlock ≠ some b)
    (hown : W1.ownsRow (B + 1 + 1) 22 1 (.slice (some ⟨g, 0, none⟩) (Ls.length + 1) cap) (Ls.length + 1) (gs.map Sl.v ++ [.slice (some ⟨b, 0, none⟩) n c])) (hgr : W.grownBy W1 vS.ownBlock) (hat : vS.ownBlock = some g ∨ g = W.heap.size) :
    W1.cell? ⟨B + 1, 1, none⟩ = some vS ∧ W1.frozen? ⟨B + 1, 1, none⟩ = false ∧ SoB w (W1.setCell ⟨B + 1, 1, none⟩ (.slice (some ⟨g, 0, none⟩) (Ls.length + 1) cap)) B N (.slice (some ⟨g, 0, none⟩) (Ls.length + 1) cap) vV (gs ++ [⟨some ⟨b, 0, none⟩, n, c⟩]) (Ls ++ [L]) zs := by
  have hge : ∀ x, vS.ownBlock = some x → B + 1 + 1 ≤ x := fun x hx => (owns_lt h.own.S hx).1
  have hX := blk_grown2 h.box hgr (fun e => by have := hge _ e; omega)
  have hR := blk_grown2 h.res hgr (fun e => by have := hge _ e; omega)
  have hs := h.sz
  refine ⟨hX.cell 1, hX.free 1, ⟨hs, (ext_grown h.ext hgr (fun x hx => by have := hge x hx; omega)).setCell (by simp; omega) _, hR.setOther (by simp) _, hX.set 1 _, ?_⟩⟩
  exact (h.own.addS hI hb hlt h1 h2 hown hgr hat).low (by omega)
theorem SoB.addV {w W W1 : World} {B N g cap : Nat} {vS vV : Value} {gs : List Sl} {Ls : List (List Int)} {zs : List Int} {x : Int} (h : SoB w W B N vS vV gs Ls zs)
    (hown : W1.ownsRow (B + 1 + 1) 3 1 (.slice (some ⟨g, 0, none⟩) (zs.length + 1) cap) (zs.length + 1) (ivals zs ++ ivals [x])) (hgr : W.grownBy W1 vV.ownBlock) (hat : vV.ownBlock = some g ∨ g = W.heap.size) :
    W1.cell? ⟨B + 1, 2, none⟩ = some vV ∧ W1.frozen? ⟨B + 1, 2, none⟩ = false ∧ SoB w (W1.setCell ⟨B + 1, 2, none⟩ (.slice (some ⟨g, 0, none⟩) (zs.length + 1) cap)) B N vS (.slice (some ⟨g, 0, none⟩) (zs.length + 1) cap) gs Ls (zs ++ [x]) := by
  have hge : ∀ x, vV.ownBlock = some x → B + 1 + 1 ≤ x := fun x hx => (owns_lt h.own.V hx).1
  have hX := blk_grown2 h.box hgr (fun e => by have := hge _ e; omega)
  have hR := blk_grown2 h.res hgr (fun e => by have := hge _ e; omega)
  have hs := h.sz
  refine ⟨hX.cell 2, hX.free 2, ⟨hs, (ext_grown h.ext hgr (fun x hx => by have := hge x hx; omega)).setCell (by simp; omega) _, hR.setOther (by simp) _, hX.set 2 _, ?_⟩⟩
  exact (h.own.addV hown hgr hat).low (by omega)
theorem SmI.b {w ws : World} {B N i : Nat} {vS vV : Value} {gs : List Sl} {Ls : List (List Int)} {zs : List Int} (h : SmI w ws B N i vS vV gs Ls zs) (hs : w.heap.size = B) : SoB w ws B N vS vV gs Ls zs := ⟨hs, h.ext, h.res, h.box, h.own⟩
theorem SmI.next {w ws W : World} {B N i : Nat} {vS vV vS' vV' : Value} {gs gs' : List Sl} {Ls : List (List Int)} {zs : List Int} {L : List Int} {x : Int} (h : SmI w ws B N i vS vV gs Ls zs) (k : SoB w W B N vS' vV' gs' (Ls ++ [L]) (zs ++ [x])) (hL : SetOK N L) (hL0 : L.length ≠ 0) (hx : 0 ≤ x ∧ x ≤ 1000) :
    SmI w W B N (i + 1) vS' vV' gs' (Ls ++ [L]) (zs ++ [x]) := by
  have hnl := h.nl
  have hnz := h.nz
  refine ⟨k.ext, k.res, k.box, k.own, by simp [hnl], by simp [hnz], fun j hj => ?_, fun j hj => ?_⟩
  · by_cases hlt : j < i
    · have e : (Ls ++ [L]).getD j [] = Ls.getD j [] := by simp [List.getD_eq_getElem?_getD, List.getElem?_append, hnl, hlt]
      rw [e]; exact h.ok j hlt
    · have e : (Ls ++ [L]).getD j [] = L := by obtain rfl : j = Ls.length := by omega
                                               simp [List.getD_eq_getElem?_getD]
      rw [e]; exact ⟨hL, hL0⟩
  · by_cases hlt : j < i
    · have e : (zs ++ [x]).getD j 0 = zs.getD j 0 := by simp [List.getD_eq_getElem?_getD, List.getElem?_append, hnz, hlt]
      rw [e]; exact h.bd j hlt
    · have e : (zs ++ [x]).getD j 0 = x := by obtain rfl : j = zs.length := by omega
                                              simp [List.getD_eq_getElem?_getD]
      rw [e]; exact hx
end Go.Proofs.Ytkoidookanmknaa
