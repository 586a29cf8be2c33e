/- meresmanlaw30: lives, the walk. -/
import Derived.Test.YtkoidookanmknaaV24
namespace Go.Proofs.Ytkoidookanmknaa
set_option linter.unusedSimpArgs false
set_option linter.unusedVariables false
open Go.RowKit

theorem blk_ints {w : World} {b n : Nat} {l : List Int} (h : Blk w b (icells l) 3) (hl : l.length = n) (hn : l.length ≤ 1000000) (h64 : ∀ x, x ∈ l → Int64 x) : Ints w (some ⟨b, 0, none⟩) n l :=
  IRow.ints h hl (by omega) (fun i hi => h64 _ (by rw [List.getD_eq_getElem?_getD, List.getElem?_eq_getElem (by omega)]; exact List.getElem_mem _))
def gs0 (B : Nat) : List Sl := [⟨some ⟨B, 0, none⟩, 2, 2⟩, ⟨some ⟨B + 1, 0, none⟩, 2, 2⟩, ⟨some ⟨B + 1 + 1, 0, none⟩, 4, 4⟩, ⟨some ⟨B + 1 + 1 + 1, 0, none⟩, 1, 1⟩, ⟨some ⟨B + 1 + 1 + 1 + 1, 0, none⟩, 1, 1⟩, ⟨some ⟨B + 1 + 1 + 1 + 1 + 1, 0, none⟩, 1, 1⟩, ⟨some ⟨B + 1 + 1 + 1 + 1 + 1 + 1, 0, none⟩, 1, 1⟩]
theorem sh0 {W : World} {B G V : Nat} (h0 : Blk W B #[.int .i64 0, .int .i64 1] 3) (h1 : Blk W (B + 1) #[.int .i64 2, .int .i64 3] 3) (h2 : Blk W (B + 1 + 1) #[.int .i64 0, .int .i64 1, .int .i64 2, .int .i64 3] 3) (h3 : Blk W (B + 1 + 1 + 1) #[.int .i64 0] 3) (h4 : Blk W (B + 1 + 1 + 1 + 1) #[.int .i64 1] 3)
    (h5 : Blk W (B + 1 + 1 + 1 + 1 + 1) #[.int .i64 2] 3) (h6 : Blk W (B + 1 + 1 + 1 + 1 + 1 + 1) #[.int .i64 3] 3) (hG : Blk W G ((gs0 B).map Sl.v).toArray 22) (hV : Blk W V (icells zs0) 3) :
    ShIn W 4 ⟨some ⟨G, 0, none⟩, 7, 7⟩ ⟨some ⟨V, 0, none⟩, 7, 7⟩ (gs0 B) Ls0 zs0 := by
  have i64 : ∀ l : List Int, (∀ x, x ∈ l → 0 ≤ x ∧ x ≤ 100) → ∀ x, x ∈ l → Int64 x := fun l h x hx => by have := h x hx; exact ⟨by omega, by omega⟩
  refine ⟨⟨rfl, rfl, show (7 : Nat) ≤ 1000000 by decide, .inr ⟨G, 0, rfl, hG.lt, fun i hi => ?_⟩, fun i hi => ?_⟩, blk_ints hV rfl (by decide) (i64 _ (by decide)), fun k => ?_⟩
  · rw [Nat.zero_add, hG.cell]
    match i, hi with
    | 0, _ => rfl
    | 1, _ => rfl
    | 2, _ => rfl
    | 3, _ => rfl
    | 4, _ => rfl
    | 5, _ => rfl
    | 6, _ => rfl
    | i + 7, hi => exact absurd (show i + 7 < 7 from hi) (by omega)
  · match i, hi with
    | 0, _ => exact blk_ints (l := [0, 1]) h0 rfl (by decide) (i64 _ (by decide))
    | 1, _ => exact blk_ints (l := [2, 3]) h1 rfl (by decide) (i64 _ (by decide))
    | 2, _ => exact blk_ints (l := [0, 1, 2, 3]) h2 rfl (by decide) (i64 _ (by decide))
    | 3, _ => exact blk_ints (l := [0]) h3 rfl (by decide) (i64 _ (by decide))
    | 4, _ => exact blk_ints (l := [1]) h4 rfl (by decide) (i64 _ (by decide))
    | 5, _ => exact blk_ints (l := [2]) h5 rfl (by decide) (i64 _ (by decide))
    | 6, _ => exact blk_ints (l := [3]) h6 rfl (by decide) (i64 _ (by decide))
    | i + 7, hi => exact absurd (show i + 7 < 7 from hi) (by omega)
  · match k with
    | 0 => decide
    | 1 => decide
    | 2 => decide
    | 3 => decide
    | 4 => decide
    | 5 => decide
    | 6 => decide
    | k + 7 => show ([] : List Int).length ≤ 1000; decide
theorem valid0 : validE 4 Ls0 zs0 = 0 := by decide
theorem check0 : checkE 4 Ls0 zs0 7 3 = 0 := by decide
def hs1 : List Bool := [false, false, false, true, false, false, false]
theorem bls7 {w : World} {b : Nat} (l : List Bool) (h : Blk w b (l.map Value.bool).toArray 4) : Bls w (some ⟨b, 0, none⟩) l.length l := by
  refine ⟨rfl, .inr ⟨b, 0, rfl, h.lt, fun i hi => ?_⟩⟩
  rw [Nat.zero_add, h.cell]
  simp [List.getD_eq_getElem?_getD, hi]
set_option maxRecDepth 100000 in
set_option maxHeartbeats 4000000 in
theorem lives_c (w : World) : Calls Try.prog 19 #[] w fun e w' => e = .returned (.bool true) ∧ Ext w w' := by
  obtain ⟨B, hB⟩ : ∃ B, w.heap.size = B := ⟨_, rfl⟩
  go_enter Try.func19, Try.ntmps19
  go_upto_region 2 with (fail)
  refine wp_gen (fun W => Ext w W ∧ ShIn W 4 ⟨some ⟨B + 1 + 1 + 1 + 1 + 1 + 1 + 1, 0, none⟩, 7, 7⟩ ⟨some ⟨B + 1 + 1 + 1 + 1 + 1 + 1 + 1 + 1, 0, none⟩, 7, 7⟩ (gs0 B) Ls0 zs0 ∧ Blk W (B + 1 + 1 + 1 + 1 + 1 + 1 + 1 + 1 + 1) #[.int .i64 4, .slice (some ⟨B + 1 + 1 + 1 + 1 + 1 + 1 + 1, 0, none⟩) 7 7, .slice (some ⟨B + 1 + 1 + 1 + 1 + 1 + 1 + 1 + 1, 0, none⟩) 7 7] 31)
    ⟨(by repeat (first | exact Ext.refl _ | assumption | refine Ext.setCell ?_ (by first | (simp; done) | (simp; omega) | omega) _ | refine Ext.alloc ?_ _ | refine Ext.drew ?_ | refine Ext.trans ?_ (by assumption))), sh0 ((((((((((Blk.at _ 3 (by simp [hB])).alloc _).alloc _).alloc _).alloc _).alloc _).alloc _).alloc _).alloc _).alloc _) (((((((((Blk.at _ 3 (by simp [hB])).alloc _).alloc _).alloc _).alloc _).alloc _).alloc _).alloc _).alloc _) ((((((((Blk.at _ 3 (by simp [hB])).alloc _).alloc _).alloc _).alloc _).alloc _).alloc _).alloc _) (((((((Blk.at _ 3 (by simp [hB])).alloc _).alloc _).alloc _).alloc _).alloc _).alloc _) ((((((Blk.at _ 3 (by simp [hB])).alloc _).alloc _).alloc _).alloc _).alloc _) (((((Blk.at _ 3 (by simp [hB])).alloc _).alloc _).alloc _).alloc _) ((((Blk.at _ 3 (by simp [hB])).alloc _).alloc _).alloc _) (((Blk.at _ 22 (by simp [hB])).alloc _).alloc _) ((Blk.at _ 3 (by simp [hB])).alloc _), Blk.at _ 31 (by simp [hB])⟩ ?_
  rintro V ⟨E0, S0, B0⟩
  obtain ⟨X, hX⟩ : ∃ X, B + 1 + 1 + 1 + 1 + 1 + 1 + 1 + 1 + 1 = X := ⟨_, rfl⟩
  obtain ⟨G, hG⟩ : ∃ G, B + 1 + 1 + 1 + 1 + 1 + 1 + 1 = G := ⟨_, rfl⟩
  simp only [hX] at B0 ⊢
  simp only [hG] at S0 B0 ⊢
  have HS := Lib.hid (And.intro E0 S0)
  have x0 : V.cell? ⟨X, 0, none⟩ = some (.int .i64 4) := B0.cell 0
  have x1 : V.cell? ⟨X, 1, none⟩ = some (.slice (some ⟨G, 0, none⟩) 7 7) := B0.cell 1
  have x2 : V.cell? ⟨X, 2, none⟩ = some (.slice (some ⟨G + 1, 0, none⟩) 7 7) := B0.cell 2
  have HB := Lib.hid B0
  clear E0 S0 B0 hX hG
  go_wp2_with fail
  have hsz := Ext.refl V
  refine (Determined_c 4 ⟨some ⟨G, 0, none⟩, 7, 7⟩ ⟨some ⟨G + 1, 0, none⟩, 7, 7⟩ (gs0 B) Ls0 zs0 _ 7 7 hs1 3 _ (HS.out.2.ext (by repeat (first | exact Ext.refl _ | assumption | refine Ext.setCell ?_ (by first | (simp; done) | (simp; omega) | omega) _ | refine Ext.alloc ?_ _ | refine Ext.drew ?_ | refine Ext.trans ?_ (by assumption)))) (bls7 hs1 (Blk.at _ 4 rfl)) (by decide) (fun _ => few0)).mono ?_
  rw [if_pos check0, check0, show ((3 : Int).toNat) = 3 from rfl, det_a (hs := hs1) rfl rfl]
  rintro e w2 ⟨rfl, hx2⟩
  have HX := Lib.hid (HS.out.1.trans (Ext.trans (by repeat (first | exact Ext.refl _ | assumption | refine Ext.setCell ?_ (by first | (simp; done) | (simp; omega) | omega) _ | refine Ext.alloc ?_ _ | refine Ext.drew ?_ | refine Ext.trans ?_ (by assumption))) hx2))
  have HS2 := Lib.hid (HS.out.2.ext (Ext.trans (by repeat (first | exact Ext.refl _ | assumption | refine Ext.setCell ?_ (by first | (simp; done) | (simp; omega) | omega) _ | refine Ext.alloc ?_ _ | refine Ext.drew ?_ | refine Ext.trans ?_ (by assumption))) hx2))
  have y0 : w2.cell? ⟨X, 0, none⟩ = some (.int .i64 4) := (Ext.trans (by repeat (first | exact Ext.refl _ | assumption | refine Ext.setCell ?_ (by first | (simp; done) | (simp; omega) | omega) _ | refine Ext.alloc ?_ _ | refine Ext.drew ?_ | refine Ext.trans ?_ (by assumption))) hx2).cell x0
  have y1 : w2.cell? ⟨X, 1, none⟩ = some (.slice (some ⟨G, 0, none⟩) 7 7) := (Ext.trans (by repeat (first | exact Ext.refl _ | assumption | refine Ext.setCell ?_ (by first | (simp; done) | (simp; omega) | omega) _ | refine Ext.alloc ?_ _ | refine Ext.drew ?_ | refine Ext.trans ?_ (by assumption))) hx2).cell x1
  have y2 : w2.cell? ⟨X, 2, none⟩ = some (.slice (some ⟨G + 1, 0, none⟩) 7 7) := (Ext.trans (by repeat (first | exact Ext.refl _ | assumption | refine Ext.setCell ?_ (by first | (simp; done) | (simp; omega) | omega) _ | refine Ext.alloc ?_ _ | refine Ext.drew ?_ | refine Ext.trans ?_ (by assumption))) hx2).cell x2
  clear x0 x1 x2 hx2 hsz
  go_wp2_with fail
  refine (Hide_c 4 3 ⟨some ⟨G, 0, none⟩, 7, 7⟩ ⟨some ⟨G + 1, 0, none⟩, 7, 7⟩ (gs0 B) Ls0 zs0 _ (HS2.out.ext (by repeat (first | exact Ext.refl _ | assumption | refine Ext.setCell ?_ (by first | (simp; done) | (simp; omega) | omega) _ | refine Ext.alloc ?_ _ | refine Ext.drew ?_ | refine Ext.trans ?_ (by assumption)))) (fun _ => few0)).mono ?_
  rintro e w3 (⟨h, _, _⟩ | ⟨_, b, rfl, hb, hx3⟩)
  · exact absurd (show hideE 4 Ls0 zs0 3 = 0 by decide) h
  rw [show (hideF (dB Ls0) zs0 (7 : Nat) (7 + 1) (hide0 zs0 3 7)) = hs2 from hide_ex] at hb
  have HX3 := Lib.hid (HX.out.trans hx3)
  have HY := Lib.hid hb
  clear y0 y1 y2 hx3 hb
  go_wp2_with fail
  refine (same_c (some ⟨b, 0, none⟩) _ 7 7 7 7 hs2 hs2 _ (HY.out.ext (by repeat (first | exact Ext.refl _ | assumption | refine Ext.setCell ?_ (by first | (simp; done) | (simp; omega) | omega) _ | refine Ext.alloc ?_ _ | refine Ext.drew ?_ | refine Ext.trans ?_ (by assumption)))) (bls7 hs2 (Blk.at _ 4 rfl)) (by decide) (by decide)).mono ?_
  rintro e w4 ⟨rfl, hx4⟩
  rw [show decide (hs2 = hs2) = true from decide_eq_true rfl]
  have HX4 := Lib.hid (HX3.out.trans (Ext.trans (by repeat (first | exact Ext.refl _ | assumption | refine Ext.setCell ?_ (by first | (simp; done) | (simp; omega) | omega) _ | refine Ext.alloc ?_ _ | refine Ext.drew ?_ | refine Ext.trans ?_ (by assumption))) hx4))
  clear hx4
  go_wp2_with fail
  go_ret
  exact ⟨rfl, HX4.out⟩
end Go.Proofs.Ytkoidookanmknaa
