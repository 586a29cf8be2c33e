/- meresmanlaw27: lives. -/
import Derived.Test.YtlnmgcmpbbklhaaS11
namespace Go.Proofs.Ytlnmgcmpbbklhaa
set_option linter.unusedSimpArgs false
set_option linter.unusedVariables false
open Go.RowKit

theorem GOut.form {w : World} {base : Nat} {v : Value} {gs : List Nat} {Fs : List (List Int)} (h : GOut w base v gs Fs) (h0 : 0 < Fs.length) :
    ∃ g cap, v = .slice (some ⟨g, 0, none⟩) Fs.length cap ∧ g < w.heap.size ∧ ∀ i, i < Fs.length → w.cell? ⟨g, i, none⟩ = some (.slice (some ⟨gs.getD i 0, 0, none⟩) (Fs.getD i []).length (Fs.getD i []).length) := by
  obtain ⟨_, ⟨hl, ⟨hv, hn⟩ | ⟨g', cap', cur, hv, hb, hh, hle, hc, hsz, htk⟩⟩, _⟩ := h
  · omega
  · refine ⟨g', cap', hv, lt_of_block hh, fun i hi => ?_⟩
    have p1 : ((List.range Fs.length).map fun i => Value.slice (some ⟨gs.getD i 0, 0, none⟩) (Fs.getD i []).length (Fs.getD i []).length)[i]? = some (.slice (some ⟨gs.getD i 0, 0, none⟩) (Fs.getD i []).length (Fs.getD i []).length) := by
      rw [List.getElem?_map, List.getElem?_range hi]; rfl
    rw [← htk, List.getElem?_take_of_lt (by omega)] at p1
    simp [World.cell?, hh]; simpa using p1
theorem DivR.ok {err : Int} {F : List Int} {m : Nat} {w w' : World} {e : Ending} (h : DivR err F m w e w') (h0 : err = 0) : Ext w w' ∧ ∃ g, e = .returned (.tuple #[.slice (some ⟨g, 0, none⟩) m m, .int .i64 0]) ∧ w.heap.size ≤ g ∧ IRow w' g F := by
  obtain ⟨hx, ⟨h1, _⟩ | ⟨_, h2⟩⟩ := h
  · exact absurd h0 h1
  · exact ⟨hx, h2⟩
theorem small_int {l : List Int} (h : ∀ x, x ∈ l → -1000 ≤ x ∧ x ≤ 1000) : ∀ i, i < l.length → Int64 (l.getD i 0) := fun i hi => by
  have := h _ (getD_mem hi); exact ⟨by omega, by omega⟩
theorem lit_ints {w : World} {b n : Nat} {cs : Array Value} (l : List Int) (hn : l.length = n) (hcs : cs = icells l) (h : ∀ x, x ∈ l → -1000 ≤ x ∧ x ≤ 1000) (hn2 : n ≤ 1000) (hb : b = w.heap.size) : Ints (w.alloc (.cells cs 3)) (some ⟨b, 0, none⟩) n l := by
  subst hcs
  exact IRow.ints (Blk.at _ _ hb) hn (by omega) (fun i hi => small_int h i (by omega))
theorem Grps.two {w : World} {b : Nat} {a a' : Option Addr} {m c m' c' : Nat} {l l' : List Int} (hb : At w b #[.slice a m c, .slice a' m' c']) (h : Ints w a m l) (h' : Ints w a' m' l') : Grps w (some ⟨b, 0, none⟩) 2 [⟨a, m, c⟩, ⟨a', m', c'⟩] [l, l'] := by
  refine ⟨rfl, rfl, by omega, .inr ⟨b, 0, rfl, hb.lt (by simp), fun i hi => ?_⟩, fun i hi => ?_⟩
  · match i, hi with
    | 0, _ => exact hb 0 (by simp)
    | 1, _ => exact hb 1 (by simp)
  · match i, hi with
    | 0, _ => exact h
    | 1, _ => exact h'
theorem NestR.ok {err : Int} {Fs : List (List Int)} {w w' : World} {e : Ending} (h : NestR err Fs w e w') (h0 : err = 0) : Ext w w' ∧ ∃ v gs, e = .returned (.tuple #[v, .int .i64 0]) ∧ GOut w' w.heap.size v gs Fs := by
  obtain ⟨hx, ⟨h1, _⟩ | ⟨_, h2⟩⟩ := h
  · exact absurd h0 h1
  · exact ⟨hx, h2⟩
theorem row_ints {w : World} {b n : Nat} {l : List Int} (h : IRow w b l) (hn : l.length = n) (hs : ∀ x, x ∈ l → -1000 ≤ x ∧ x ≤ 1000) (hn2 : n ≤ 1000) : Ints w (some ⟨b, 0, none⟩) n l := h.ints hn (by omega) (fun i hi => small_int hs i (by omega))
def LivesK (w W : World) (g1 g2 g3 d0 d1 gd : Nat) : Prop := Ext w W ∧ IRow W g1 [4, 3, 3] ∧ IRow W g2 [2, 1, 1] ∧ IRow W g3 [3, 1, 0] ∧ IRow W d0 [1, 1] ∧ IRow W d1 [1] ∧
  W.cell? ⟨gd, 0, none⟩ = some (.slice (some ⟨d0, 0, none⟩) 2 2) ∧ W.cell? ⟨gd, 1, none⟩ = some (.slice (some ⟨d1, 0, none⟩) 1 1)
theorem LivesK.ext {w W W' : World} {g1 g2 g3 d0 d1 gd : Nat} (k : Ext W W') (h : LivesK w W g1 g2 g3 d0 d1 gd) : LivesK w W' g1 g2 g3 d0 d1 gd :=
  ⟨h.1.trans k, h.2.1.ext k, h.2.2.1.ext k, h.2.2.2.1.ext k, h.2.2.2.2.1.ext k, h.2.2.2.2.2.1.ext k, k.cell h.2.2.2.2.2.2.1, k.cell h.2.2.2.2.2.2.2⟩
set_option maxRecDepth 100000 in
set_option maxHeartbeats 4000000 in
theorem lives27_c (w : World) : Calls Try.prog 19 #[] w fun e w' => e = .returned (.bool true) ∧ Ext w w' := by
  have f1 : errF 10 [1, 1, 1] 1 = 0 := by decide
  have f2 : largestF 10 [1, 1, 1] = [4, 3, 3] := by decide
  have f3 : errF 4 [5, 3, 1] 1 = 0 := by decide
  have f4 : largestF 4 [5, 3, 1] = [2, 1, 1] := by decide
  have f5 : highErr 4 [5, 3, 1] = 0 := by decide
  have f6 : highN [5, 3, 1] 4 = [3, 1, 0] := by decide
  have f7 : errF 3 [1, 1, 1] 2 = 0 := by decide
  have f8 : nestedF 3 [[1, 1], [1]] = [[1, 1], [1]] := by decide
  have F1 := Lib.hid f1; have F2 := Lib.hid f2; have F3 := Lib.hid f3; have F4 := Lib.hid f4; have F5 := Lib.hid f5; have F6 := Lib.hid f6; have F7 := Lib.hid f7; have F8 := Lib.hid f8
  clear f1 f2 f3 f4 f5 f6 f7 f8
  go_enter Try.func19, Try.ntmps19
  go_wp2_with fail
  refine (Largest_c 10 _ 3 3 [1, 1, 1] _ (lit_ints [1, 1, 1] rfl rfl (by decide) (by omega) (by first | rfl | simp)) (.inl (by omega)) (by omega)).mono ?_
  intro e w1 hd
  obtain ⟨hx, g1, rfl, hg1, hr1⟩ := hd.ok F1.out
  rw [F2.out] at hr1
  have E1 : Ext w w1 := ((Ext.refl w).alloc _).trans hx
  have R1 := Lib.hid (And.intro E1 hr1)
  clear hd hx E1 hr1 hg1
  go_wp2_with fail
  refine (Largest_c 4 _ 3 3 [5, 3, 1] _ (lit_ints [5, 3, 1] rfl rfl (by decide) (by omega) (by first | rfl | simp)) (.inl (by omega)) (by omega)).mono ?_
  intro e w2 hd
  obtain ⟨hx, g2, rfl, hg2, hr2⟩ := hd.ok F3.out
  rw [F4.out] at hr2
  have X2 := ((Ext.refl w1).alloc _).trans hx
  have R2 := Lib.hid (And.intro (R1.out.1.trans X2) (And.intro (R1.out.2.ext X2) hr2))
  clear hd hx X2 hr2 hg2 R1
  go_wp2_with fail
  refine (Highest_c 4 _ 3 3 [5, 3, 1] _ (lit_ints [5, 3, 1] rfl rfl (by decide) (by omega) (by first | rfl | simp)) (by omega)).mono ?_
  intro e w3 hd
  obtain ⟨hx, g3, rfl, hg3, hr3⟩ := hd.ok F5.out
  rw [show ((4 : Int).toNat) = 4 from rfl, F6.out] at hr3
  have X3 := ((Ext.refl w2).alloc _).trans hx
  have R3 := Lib.hid (And.intro (R2.out.1.trans X3) (And.intro (R2.out.2.1.ext X3) (And.intro (R2.out.2.2.ext X3) hr3)))
  clear hd hx X3 hr3 hg3 R2
  go_wp2_with fail
  refine (Nested_c 3 _ 2 2 [⟨some ⟨w3.heap.size, 0, none⟩, 2, 2⟩, ⟨some ⟨w3.heap.size + 1, 0, none⟩, 1, 1⟩] [[1, 1], [1]] _ (Grps.two (Blk.at _ _ (by simp)).at'
    (Ints.keep (lit_ints (w := w3) (b := w3.heap.size) (n := 2) [1, 1] rfl rfl (by decide) (by omega) rfl) (((Ext.refl _).alloc _).alloc _).ik)
    (Ints.keep (lit_ints (b := w3.heap.size + 1) (n := 1) [1] rfl rfl (by decide) (by omega) (by simp)) ((Ext.refl _).alloc _).ik)) (by decide) (.inl (by omega)) (fun _ i hi => by
      match i, hi with
      | 0, _ => decide
      | 1, _ => decide)).mono ?_
  rw [F8.out]
  intro e w4 hd
  obtain ⟨hx, v, gs, rfl, hG⟩ := hd.ok F7.out
  obtain ⟨gd, cap, rfl, hgl, hcell⟩ := hG.form (by decide)
  have X4 := (((Ext.refl w3).alloc (.cells #[.int .i64 1, .int .i64 1] 3)).alloc (.cells #[.int .i64 1] 3)).alloc (.cells #[.slice (some ⟨w3.heap.size, 0, none⟩) 2 2, .slice (some ⟨w3.heap.size + 1, 0, none⟩) 1 1] 22)
  have X5 := X4.trans hx
  have K := Lib.hid (show LivesK w w4 g1 g2 g3 (gs.getD 0 0) (gs.getD 1 0) gd from
    ⟨R3.out.1.trans X5, R3.out.2.1.ext X5, R3.out.2.2.1.ext X5, R3.out.2.2.2.ext X5, (hG.2.2 0 (by decide)).1, (hG.2.2 1 (by decide)).1, hcell 0 (by decide), hcell 1 (by decide)⟩)
  clear hd hx hG hcell X4 X5 R3 hgl
  generalize gs.getD 0 0 = d0 at *
  generalize gs.getD 1 0 = d1 at *
  go_wp2_with fail; refine (same_c _ _ 3 3 3 [4, 3, 3] _ (Ints.keep (row_ints K.out.2.1 rfl (by decide) (by omega)) ((Ext.refl _).alloc _).ik) (lit_ints [4, 3, 3] rfl rfl (by decide) (by omega) (by first | rfl | simp))).mono ?_; rintro e w' ⟨rfl, hx'⟩; replace K := Lib.hid (K.out.ext (((Ext.refl _).alloc _).trans hx')); clear hx'
  go_wp2_with fail; refine (same_c _ _ 3 3 3 [2, 1, 1] _ (Ints.keep (row_ints K.out.2.2.1 rfl (by decide) (by omega)) ((Ext.refl _).alloc _).ik) (lit_ints [2, 1, 1] rfl rfl (by decide) (by omega) (by first | rfl | simp))).mono ?_; rintro e w' ⟨rfl, hx'⟩; replace K := Lib.hid (K.out.ext (((Ext.refl _).alloc _).trans hx')); clear hx'
  go_wp2_with fail; refine (same_c _ _ 3 3 3 [3, 1, 0] _ (Ints.keep (row_ints K.out.2.2.2.1 rfl (by decide) (by omega)) ((Ext.refl _).alloc _).ik) (lit_ints [3, 1, 0] rfl rfl (by decide) (by omega) (by first | rfl | simp))).mono ?_; rintro e w' ⟨rfl, hx'⟩; replace K := Lib.hid (K.out.ext (((Ext.refl _).alloc _).trans hx')); clear hx'
  have k1 := K.out.2.2.2.2.2.2.1
  have k2 := lt_of_cell k1
  go_wp2_with fail; refine (same_c _ _ 2 2 2 [1, 1] _ (Ints.keep (row_ints K.out.2.2.2.2.1 rfl (by decide) (by omega)) ((Ext.refl _).alloc _).ik) (lit_ints [1, 1] rfl rfl (by decide) (by omega) (by first | rfl | simp))).mono ?_; rintro e w' ⟨rfl, hx'⟩; replace K := Lib.hid (K.out.ext (((Ext.refl _).alloc _).trans hx')); clear hx'
  clear k1 k2
  have k1 := K.out.2.2.2.2.2.2.2
  have k2 := lt_of_cell k1
  go_wp2_with fail; refine (same_c _ _ 1 1 1 [1] _ (Ints.keep (row_ints K.out.2.2.2.2.2.1 rfl (by decide) (by omega)) ((Ext.refl _).alloc _).ik) (lit_ints [1] rfl rfl (by decide) (by omega) (by first | rfl | simp))).mono ?_; rintro e w' ⟨rfl, hx'⟩; replace K := Lib.hid (K.out.ext (((Ext.refl _).alloc _).trans hx')); clear hx'
  clear k1 k2
  go_wp2_with fail
  go_ret
  exact ⟨rfl, K.out.1⟩
end Go.Proofs.Ytlnmgcmpbbklhaa
