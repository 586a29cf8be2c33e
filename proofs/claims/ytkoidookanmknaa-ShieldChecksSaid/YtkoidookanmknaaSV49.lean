/- meresmanlaw30: ShieldDetermines, the walk. -/
import Derived.Test.YtkoidookanmknaaSV46
import Derived.Test.YtkoidookanmknaaSV48
namespace Go.Proofs.Ytkoidookanmknaa
set_option linter.unusedSimpArgs false
set_option linter.unusedVariables false
open Go.RowKit

theorem cells6 {n : Int} {Ls : List (List Int)} {zs : List Int} (hv : validE n Ls zs = 0) (hn : n ≤ 6) (k : Nat) (x : Int) (hx : x ∈ Ls.getD k []) : x < 6 := by
 obtain ⟨_, _, _, _, h5⟩ := validE_of hv
 by_cases hk : k < Ls.length
 ·obtain ⟨_, hc⟩ := item_cells (h5 k hk)
  obtain ⟨j, hj, rfl⟩ := List.getElem_of_mem hx
  have := (hc j hj).2
  rw [getD_get hj] at this
  omega
 ·rw [List.getD_eq_getElem?_getD, List.getElem?_eq_none (by omega)] at hx
  simp at hx
/-- A sheet, as an element of a list of sheets. -/
structure PkI (W : World) (A o : Nat) (n : Int) (ss vs : Sl) (gs : List Sl) (Ls : List (List Int)) (zs : List Int) : Prop where
 c0 : W.cell? ⟨A, o, none⟩ = some (.int .i64 n)
 c1 : W.cell? ⟨A, o + 1, none⟩ = some ss.v
 c2 : W.cell? ⟨A, o + 2, none⟩ = some vs.v
 sh : ShIn W n ss vs gs Ls zs
theorem PkI.keep {W W' : World} {A o : Nat} {n : Int} {ss vs : Sl} {gs : List Sl} {Ls : List (List Int)} {zs : List Int} (h : PkI W A o n ss vs gs Ls zs) (k : Ext W W') : PkI W' A o n ss vs gs Ls zs :=
 ⟨k.cell h.c0, k.cell h.c1, k.cell h.c2, h.sh.ext k⟩
/-- Two sheets: the one, and one that is spoilt. -/
structure DtI (w W : World) (X A N : Nat) (ss vs : Sl) (gs : List Sl) (Ls : List (List Int)) (zs : List Int) (n2 : Int) (ss2 vs2 : Sl) (gs2 : List Sl) (Ls2 : List (List Int)) (zs2 : List Int) : Prop where
 ext : Ext w W
 box : Blk W X #[.int .i64 (N : Int), ss.v, vs.v] 25
 p1 : PkI W A 0 N ss vs gs Ls zs
 p2 : PkI W A 3 n2 ss2 vs2 gs2 Ls2 zs2
theorem DtI.keep {w W W' : World} {X A N : Nat} {ss vs : Sl} {gs : List Sl} {Ls : List (List Int)} {zs : List Int} {n2 : Int} {ss2 vs2 : Sl} {gs2 : List Sl} {Ls2 : List (List Int)} {zs2 : List Int} (h : DtI w W X A N ss vs gs Ls zs n2 ss2 vs2 gs2 Ls2 zs2) (k : Ext W W') : DtI w W' X A N ss vs gs Ls zs n2 ss2 vs2 gs2 Ls2 zs2 :=
 ⟨h.ext.trans k, h.box.ext k, h.p1.keep k, h.p2.keep k⟩
theorem DtI.pick {w W : World} {X A N : Nat} {ss vs : Sl} {gs : List Sl} {Ls : List (List Int)} {zs : List Int} {n2 : Int} {ss2 vs2 : Sl} {gs2 : List Sl} {Ls2 : List (List Int)} {zs2 : List Int} (h : DtI w W X A N ss vs gs Ls zs n2 ss2 vs2 gs2 Ls2 zs2)
  (hv : validE N Ls zs = 0) (hN : N ≤ 6) (hor : n2 = N ∨ Ls2 = Ls) (hl : Ls.length ≤ 9) (hl2 : ss2.n ≤ 900) (i : Nat) (hi : i < 2) :
  ∃ (n1 : Int) (ss1 vs1 : Sl) (gs1 : List Sl) (Ls1 : List (List Int)) (zs1 : List Int), PkI W A (i * 3) n1 ss1 vs1 gs1 Ls1 zs1 ∧ (validE n1 Ls1 zs1 = 0 → ∀ k x, x ∈ Ls1.getD k [] → x < 6) ∧ ss1.n ≤ 900 := by
 have h01 : i = 0 ∨ i = 1 := by omega
 rcases h01 with rfl | rfl
 ·exact ⟨_, _, _, _, _, _, h.p1, fun hv k x hx => cells6 hv (by omega) k x hx, by have := h.p1.sh.grps.2.1; omega⟩
 ·refine ⟨_, _, _, _, _, _, h.p2, fun hv2 k x hx => ?_, hl2⟩
  rcases hor with e | e
  ·exact cells6 hv2 (by omega) k x hx
  ·rw [e] at hx; exact cells6 hv (by omega) k x hx
end Go.Proofs.Ytkoidookanmknaa
