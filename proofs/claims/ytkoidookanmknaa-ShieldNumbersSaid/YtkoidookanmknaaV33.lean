/- meresmanlaw30: ShieldNumbers, the walk. -/
import Derived.Test.YtkoidookanmknaaV32
import Derived.Test.YtkoidookanmknaaV41
namespace Go.Proofs.Ytkoidookanmknaa
set_option linter.unusedSimpArgs false
set_option linter.unusedVariables false
open Go.RowKit

/-- The sets from the one with number q on, turned, the last first. -/
def flipsL (N : Nat) (Ls : List (List Int)) (q : Nat) : List (List Int) := ((Ls.drop q).map (flipL N)).reverse
theorem flipsL_next {N : Nat} {Ls : List (List Int)} {q : Nat} (hq : q < Ls.length) : flipsL N Ls q = flipsL N Ls (q + 1) ++ [flipL N (Ls.getD q [])] := by
  unfold flipsL
  rw [List.drop_eq_getElem_cons hq, List.map_cons, List.reverse_cons]
  simp [List.getD_eq_getElem?_getD, hq]
theorem flipL_next {N : Nat} {L : List Int} {q : Nat} (hq : q < L.length) : flipL N (L.drop q) = flipL N (L.drop (q + 1)) ++ [(N : Int) - 1 - L.getD q 0] := by
  unfold flipL
  rw [List.drop_eq_getElem_cons hq, List.map_cons, List.reverse_cons]
  simp [List.getD_eq_getElem?_getD, hq]
theorem flipsL_length (N : Nat) (Ls : List (List Int)) (q : Nat) : (flipsL N Ls q).length = Ls.length - q := by simp [flipsL]
def backL (h : List Bool) (q : Nat) : List Bool := (h.drop q).reverse
theorem backL_next {h : List Bool} {q : Nat} (hq : q < h.length) : backL h q = backL h (q + 1) ++ [h.getD q false] := by
  unfold backL
  rw [List.drop_eq_getElem_cons hq, List.reverse_cons]
  simp [List.getD_eq_getElem?_getD, hq]
theorem backL_length (h : List Bool) (q : Nat) : (backL h q).length = h.length - q := by simp [backL]
theorem item_sorted {n : Int} {Ls : List (List Int)} {zs : List Int} {i : Nat} (h : itemBad n Ls zs i = false) : SetOK n (Ls.getD i []) ∧ (Ls.getD i []).length ≠ 0 := by
  have hc := item_cells h
  unfold itemBad at h
  simp only [Bool.or_eq_false_iff] at h
  obtain ⟨⟨⟨h1, _⟩, _⟩, h4⟩ := h
  generalize Ls.getD i [] = L at *
  have hb : ∀ k, k < L.length → badC n L k = false := fun k hk => by
    cases hc : badC n L k with
    | false => rfl
    | true => rw [List.any_eq_true.2 ⟨k, List.mem_range.2 hk, hc⟩] at h4; cases h4
  have hs : ∀ a b, a < b → b < L.length → L.getD a 0 < L.getD b 0 := fun a b => by
    induction b with
    | zero => intro hab; omega
    | succ b ih =>
      intro hab hb'
      have := hb (b + 1) hb'
      unfold badC at this
      simp only [Bool.or_eq_false_iff, decide_eq_false_iff_not, Bool.and_eq_false_iff, Nat.add_sub_cancel] at this
      by_cases e : a = b
      · subst e; omega
      · have := ih (by omega) (by omega); omega
  refine ⟨⟨List.pairwise_iff_getElem.2 fun a b ha hb hab => ?_, fun x hx => ?_⟩, fun e => hc.1 (List.eq_nil_of_length_eq_zero e)⟩
  · have := hs a b hab hb
    rwa [getD_get ha, getD_get hb] at this
  · obtain ⟨k, hk, rfl⟩ := List.getElem_of_mem hx
    have := hc.2 k hk
    rw [getD_get hk] at this
    omega
/-- Sets that a valid sheet may have. -/
def SetsOK (N : Nat) (Ls : List (List Int)) : Prop := ∀ L, L ∈ Ls → SetOK N L ∧ L.length ≠ 0
theorem getD_mem {Ls : List (List Int)} {k : Nat} (hk : k < Ls.length) : Ls.getD k [] ∈ Ls := by
  rw [List.getD_eq_getElem?_getD, List.getElem?_eq_getElem hk]
  exact List.getElem_mem hk
theorem SetsOK.at {N : Nat} {Ls : List (List Int)} (h : SetsOK N Ls) {k : Nat} (hk : k < Ls.length) : SetOK N (Ls.getD k []) ∧ (Ls.getD k []).length ≠ 0 := h _ (getD_mem hk)
theorem SetsOK.len {N : Nat} {Ls : List (List Int)} (h : SetsOK N Ls) (k : Nat) : (Ls.getD k []).length ≤ N := by
  by_cases hk : k < Ls.length
  · exact (h.at hk).1.len
  · rw [List.getD_eq_getElem?_getD, List.getElem?_eq_none (by omega)]
    simp
theorem sets_of {N : Nat} {Ls : List (List Int)} {zs : List Int} (h : validE N Ls zs = 0) : SetsOK N Ls := fun L hL => by
  obtain ⟨k, hk, rfl⟩ := List.getElem_of_mem hL
  obtain ⟨_, _, _, _, h5⟩ := validE_of h
  have := item_sorted (h5 k hk)
  rwa [List.getD_eq_getElem?_getD, List.getElem?_eq_getElem hk] at this
theorem SetsOK.flips {N : Nat} {Ls : List (List Int)} (h : SetsOK N Ls) (q : Nat) : SetsOK N (flipsL N Ls q) := fun L hL => by
  unfold flipsL at hL
  rw [List.mem_reverse, List.mem_map] at hL
  obtain ⟨M, hM, rfl⟩ := hL
  obtain ⟨h1, h2⟩ := h M (List.mem_of_mem_drop hM)
  exact ⟨h1.flip, by unfold flipL; simpa using h2⟩
theorem SetsOK.app {N : Nat} {Ls : List (List Int)} {L : List Int} (h : SetsOK N Ls) (h' : SetOK N L ∧ L.length ≠ 0) : SetsOK N (Ls ++ [L]) := fun M hM => by
  rcases List.mem_append.1 hM with hM | hM
  · exact h M hM
  · simp at hM; subst hM; exact h'
theorem SetsOK.valid {N : Nat} {Ls : List (List Int)} {zs : List Int} (h : SetsOK N Ls) (h1 : N ≤ 32) (h2 : Ls.length ≤ 128) (h3 : zs.length = Ls.length) (h4 : ∀ x, x ∈ zs → 0 ≤ x ∧ x < 1073741824) : validE N Ls zs = 0 :=
  validE_ok (by omega) (by omega) (by omega) h3 fun i hi => by
    obtain ⟨g1, g2⟩ := h.at hi
    have h5 : 0 ≤ zs.getD i 0 ∧ zs.getD i 0 < 1073741824 := by
      rw [getD_get (by omega)]; exact h4 _ (List.getElem_mem _)
    exact itemBad_no g2 (by omega) (by omega) (fun k hk => g1.cells k hk)
theorem flips_get {N : Nat} {Ls : List (List Int)} {j : Nat} (hj : j < Ls.length) : (flipsL N Ls 0).getD (Ls.length - 1 - j) [] = flipL N (Ls.getD j []) := by
  unfold flipsL
  rw [List.drop_zero, List.getD_eq_getElem?_getD, List.getElem?_reverse (by simp; omega), List.getElem?_map]
  simp only [List.length_map]
  rw [show Ls.length - 1 - (Ls.length - 1 - j) = j by omega, List.getD_eq_getElem?_getD, List.getElem?_eq_getElem hj]
  rfl
theorem back_get {h : List Bool} {j : Nat} (hj : j < h.length) : (backL h 0).getD (h.length - 1 - j) false = h.getD j false := by
  unfold backL
  rw [List.drop_zero, List.getD_eq_getElem?_getD, List.getElem?_reverse (by omega), show h.length - 1 - (h.length - 1 - j) = j by omega, List.getD_eq_getElem?_getD]
theorem num_det {N : Nat} {Ls Ls2 : List (List Int)} {h hs2 : List Bool} {K i : Nat} (hok : SetsOK N Ls) (hl : h.length = Ls.length) (hi : i < Ls.length) (hK : K < Ls.length)
    (hor : (Ls2 = flipsL N Ls 0 ∧ hs2 = backL h 0) ∨ ((backL h 0).getD K false = false ∧ Ls2 = flipsL N Ls 0 ++ [(flipsL N Ls 0).getD K []] ∧ hs2 = backL h 0 ++ [false])) : dB Ls2 hs2 (Ls.length - 1 - i) = dB Ls h i := by
  have hfl : (flipsL N Ls 0).length = Ls.length := by rw [flipsL_length]; omega
  have hbl : (backL h 0).length = Ls.length := by rw [backL_length]; omega
  have e1 : ∀ k, k < Ls.length → Ls2.getD k [] = (flipsL N Ls 0).getD k [] ∧ hs2.getD k false = (backL h 0).getD k false := fun k hk => by
    rcases hor with ⟨rfl, rfl⟩ | ⟨_, rfl, rfl⟩
    · exact ⟨rfl, rfl⟩
    · exact ⟨getD_app (by omega), getD_app (by omega)⟩
  have e2 : ∀ j, j < Ls.length → Ls2.getD (Ls.length - 1 - j) [] = flipL N (Ls.getD j []) ∧ hs2.getD (Ls.length - 1 - j) false = h.getD j false := fun j hj => by
    obtain ⟨a, b⟩ := e1 (Ls.length - 1 - j) (by omega)
    rw [a, b, flips_get hj]
    refine ⟨rfl, ?_⟩
    have := back_get (h := h) (j := j) (by omega)
    rwa [hl] at this
  have el : Ls.length ≤ Ls2.length := by
    rcases hor with ⟨rfl, rfl⟩ | ⟨_, rfl, rfl⟩
    · omega
    · simp; omega
  have er : ∀ j, j < Ls.length → rowV (flipL N (Ls.getD j [])) = flipV N (rowV (Ls.getD j [])) := fun j hj => flip_row (hok.at hj).1.2
  have ff : ∀ j, j < Ls.length → rowV (Ls.getD j []) = flipV N (rowV (flipL N (Ls.getD j []))) := fun j hj => by
    rw [er j hj, flip_flip (hok.at hj).1.2]
  have d1 : dB Ls h i = true → dB Ls2 hs2 (Ls.length - 1 - i) = true := fun hd => by
    refine det_move (N := N) (fun j hj hp => ⟨Ls.length - 1 - j, by omega, by rw [(e2 j hj).2]; exact hp, by rw [(e2 j hj).1]; exact er j hj⟩) (by rw [(e2 i hi).1]; exact er i hi) hd
  have d2 : dB Ls2 hs2 (Ls.length - 1 - i) = true → dB Ls h i = true := fun hd => by
    refine det_move (N := N) (fun j hj hp => ?_) (by rw [(e2 i hi).1]; exact ff i hi) hd
    by_cases hj' : j < Ls.length
    · obtain ⟨a, b⟩ := e2 (Ls.length - 1 - j) (by omega)
      rw [show Ls.length - 1 - (Ls.length - 1 - j) = j by omega] at a b
      exact ⟨Ls.length - 1 - j, by omega, by rw [← b]; exact hp, by rw [a]; exact ff _ (by omega)⟩
    · obtain ⟨a, b⟩ := e2 (Ls.length - 1 - K) (by omega)
      rw [show Ls.length - 1 - (Ls.length - 1 - K) = K by omega] at a b
      rw [(e1 K hK).1] at a
      rw [(e1 K hK).2] at b
      rcases hor with ⟨rfl, rfl⟩ | ⟨hy, rfl, rfl⟩
      · omega
      · simp at hj
        refine ⟨Ls.length - 1 - K, by omega, by rw [← b]; exact hy, ?_⟩
        rw [getD_last (by omega), a]
        exact ff _ (by omega)
  cases h1 : dB Ls h i with
  | true => exact d1 h1
  | false =>
    cases h2 : dB Ls2 hs2 (Ls.length - 1 - i) with
    | false => rfl
    | true => rw [d2 h2] at h1; cases h1
/-- Two sheets with their bools. -/
structure NuI (w : World) (N X Y : Nat) (ss vs : Sl) (gs : List Sl) (Ls : List (List Int)) (zs : List Int) (a1 : Option Addr) (h : List Bool) (ss2 vs2 : Sl) (gs2 : List Sl) (Ls2 : List (List Int)) (zs2 : List Int) (a2 : Option Addr) (m2 : Nat) (hs2 : List Bool) (W : World) : Prop where
  ext : Ext w W
  sh : ShIn W N ss vs gs Ls zs
  box : Blk W X #[.int .i64 (N : Int), ss.v, vs.v] 25
  b1 : Bls W a1 ss.n h
  sh2 : ShIn W N ss2 vs2 gs2 Ls2 zs2
  box2 : Blk W Y #[.int .i64 (N : Int), ss2.v, vs2.v] 31
  b2 : Bls W a2 m2 hs2
theorem NuI.keep {w : World} {N X Y : Nat} {ss vs : Sl} {gs : List Sl} {Ls : List (List Int)} {zs : List Int} {a1 : Option Addr} {h : List Bool} {ss2 vs2 : Sl} {gs2 : List Sl} {Ls2 : List (List Int)} {zs2 : List Int} {a2 : Option Addr} {m2 : Nat} {hs2 : List Bool} {W W' : World} (i : NuI w N X Y ss vs gs Ls zs a1 h ss2 vs2 gs2 Ls2 zs2 a2 m2 hs2 W) (k : Ext W W') : NuI w N X Y ss vs gs Ls zs a1 h ss2 vs2 gs2 Ls2 zs2 a2 m2 hs2 W' :=
  ⟨i.ext.trans k, i.sh.ext k, i.box.ext k, i.b1.ext k, i.sh2.ext k, i.box2.ext k, i.b2.ext k⟩
set_option maxRecDepth 100000 in
set_option maxHeartbeats 4000000 in
theorem walkNumbers (a0 : Option Addr) (n c : Nat) (xs : List Int) (a1 a2 a3 : Int) (w : World) (h0 : Ints w a0 n xs) (h1 : Int64 a1) (h2 : Int64 a2) (h3 : Int64 a3) :
    Calls Try.prog 6 #[.slice a0 n c, .int .i64 a1, .int .i64 a2, .int .i64 a3] w fun e w' => e = .returned (.bool true) ∧ Ext w w' := by
  obtain ⟨i0, hi0, hz0, hz1, hz2⟩ := info_parts intInfo
  obtain ⟨j0, hj0, hy0, hy1, hy2⟩ := info_parts intsInfo
  obtain ⟨b0, hb0, hv0, hv1, hv2⟩ := info_parts boolInfo
  have H0 := Lib.hid h0; have H1 := Lib.hid h1; have H2 := Lib.hid h2; have H3 := Lib.hid h3
  clear h0 h1 h2 h3
  go_enter Try.func6, Try.ntmps6
  go_wp2_with fail
  refine (Some_c a0 n c xs _ H0.out).mono ?_
  rintro e w1 ⟨hE1, N, ss, vs, gs, Ls, zs, rfl, hSh, hV, hN1, hN6, hL1, hL9⟩
  obtain ⟨sa, sn, sc⟩ := ss
  obtain ⟨va, vn, vc⟩ := vs
  simp only [Sl.v]
  obtain ⟨X, hX⟩ : ∃ X, w1.heap.size = X := ⟨_, rfl⟩
  have hsn : sn = Ls.length := hSh.grps.2.1.symm
  have hfew : FewOK Ls := .inl (by omega)
  obtain ⟨sb, so, hsa, g1, g2⟩ := hSh.grps.at 0 (by simp only; omega)
  simp only at hsa
  subst hsa
  clear g1 g2
  have HV := Lib.hid (And.intro hV (And.intro hsn hfew))
  have HS := Lib.hid (And.intro hE1 hSh)
  have hs1 : 1 ≤ sn := by omega
  have hs9 : sn ≤ 9 := by omega
  clear hE1 hSh hV hsn hfew hL1 hL9
  go_upto_region 2 with (fail)
  refine wp_gen (fun W => (Ext w W ∧ ShIn W N ⟨some ⟨sb, so, none⟩, sn, sc⟩ ⟨va, vn, vc⟩ gs Ls zs ∧ Blk W X #[.int .i64 (N : Int), .slice (some ⟨sb, so, none⟩) sn sc, .slice va vn vc] 25)) ⟨HS.out.1.alloc _, HS.out.2.ext ((Ext.refl w1).alloc _), Blk.at _ _ hX.symm⟩ ?_
  clear hX HS
  intro W0 hS
  have x0 : W0.cell? ⟨X, 0, none⟩ = some (.int .i64 (N : Int)) := hS.2.2.cell 0
  have x1 : W0.cell? ⟨X, 1, none⟩ = some (.slice (some ⟨sb, so, none⟩) sn sc) := hS.2.2.cell 1
  have x2 : W0.cell? ⟨X, 2, none⟩ = some (.slice va vn vc) := hS.2.2.cell 2
  have HS := Lib.hid hS
  clear hS
  go_wp2_with fail
  refine (Hidden_c N a1 ⟨some ⟨sb, so, none⟩, sn, sc⟩ ⟨va, vn, vc⟩ _ H1.out (by simp only; omega)).mono ?_
  rintro e w2 ⟨ha, hc, rfl, hB, hx⟩
  obtain ⟨hb, ho, rfl, g1, g2⟩ := hB.at 0 (by simp only; omega)
  clear g1 g2
  simp only at hB
  obtain ⟨h, hh⟩ : ∃ h, hidF a1 sn = h := ⟨_, rfl⟩
  rw [hh] at hB
  clear hh
  have HW := Lib.hid (show (Ext w w2 ∧ ShIn w2 N ⟨some ⟨sb, so, none⟩, sn, sc⟩ ⟨va, vn, vc⟩ gs Ls zs ∧ Blk w2 X #[.int .i64 (N : Int), .slice (some ⟨sb, so, none⟩) sn sc, .slice va vn vc] 25) ∧ Bls w2 (some ⟨hb, ho, none⟩) sn h from ⟨⟨HS.out.1.trans hx, HS.out.2.1.ext hx, HS.out.2.2.ext hx⟩, hB⟩)
  clear hB hx x0 x1 x2 HS
  obtain ⟨Y, hY⟩ : ∃ Y, w2.heap.size = Y := ⟨_, rfl⟩
  have x0 : w2.cell? ⟨X, 0, none⟩ = some (.int .i64 (N : Int)) := HW.out.1.2.2.cell 0
  have x1 : w2.cell? ⟨X, 1, none⟩ = some (.slice (some ⟨sb, so, none⟩) sn sc) := HW.out.1.2.2.cell 1
  go_upto_region 4 with (fail)
  refine wp_gen (fun W => Num w2 W Y N (.slice none 0 0) (.slice none 0 0) (.slice none 0 0) [] [] [] []) ⟨by omega, (by repeat (first | exact Ext.refl _ | assumption | refine Ext.setCell ?_ (by first | (simp; done) | (simp; omega) | omega) _ | refine Ext.alloc ?_ _ | refine Ext.drew ?_ | refine Ext.trans ?_ (by assumption))), Blk.at _ _ hY.symm, GSh.nil _ _, ⟨⟨rfl, .inl ⟨rfl, rfl⟩⟩, fun k _ hk => absurd hk (by simp)⟩⟩ ?_
  clear x0 x1
  intro W3 hN
  have x1 : W3.cell? ⟨X, 1, none⟩ = some (.slice (some ⟨sb, so, none⟩) sn sc) := (HW.out.1.2.2.ext hN.ext).cell 1
  have HN := Lib.hid hN
  clear hN
  go_wp2_with fail
  go_loopw [12, 14] (fun vg v ws => ∃ (q : Nat) (vS vV : Value) (gs' : List Sl) (zs' : List Int), q ≤ sn ∧ v = .int .i64 ((q : Int) - 1) ∧ Num w2 ws Y N vS vV vg gs' (flipsL N Ls q) zs' (backL h q) ∧ zs'.length = sn - q ∧ (∀ x, x ∈ zs' → 0 ≤ x ∧ x < 1073741824)) (fun _ v _ => (intOf v + 1).toNat)
  case atStart =>
    have e1 : flipsL N Ls sn = [] := by unfold flipsL; rw [List.drop_eq_nil_of_le (by rw [HV.out.2.1]; exact Nat.le_refl _)]; rfl
    have e2 : backL h sn = [] := by unfold backL; rw [List.drop_eq_nil_of_le (by rw [HW.out.2.1]; exact Nat.le_refl _)]; rfl
    exact ⟨sn, _, _, [], [], by omega, rfl, by rw [e1, e2]; exact HN.out, by simp, fun x hx => absurd hx (by simp)⟩
  case round =>
    obtain ⟨q1, vS, vV, gs', zs', hq, rfl, hNm, hzl, hzb⟩ := hrel
    have HM := Lib.hid (And.intro hNm (And.intro hzl hzb))
    have hbx := HW.out.1.2.2.ext hNm.ext
    have x0 : wr.cell? ⟨X, 0, none⟩ = some (.int .i64 (N : Int)) := hbx.cell 0
    have x1 : wr.cell? ⟨X, 1, none⟩ = some (.slice (some ⟨sb, so, none⟩) sn sc) := hbx.cell 1
    have hsh := HW.out.1.2.1.ext hNm.ext
    clear hNm hzl hzb hbx
    by_cases hq0 : q1 = 0
    · subst hq0
      have hhl := HW.out.2.1
      have hbl : (backL h 0).length = sn := by rw [backL_length]; omega
      have hLs := HV.out.2.1
      have hfl : (flipsL N Ls 0).length = sn := by rw [flipsL_length]; omega
      obtain ⟨gb, gcap, rfl, hgb, hgl⟩ := World.ownsRow.form HM.out.1.b.B (by omega)
      rw [hbl]
      have HM1 := HM.out.1
      rw [hbl] at HM1
      obtain ⟨hBg, _, _⟩ := owns_bls (by have := HM1.b.B; rw [hbl] at this; exact this) hbl (by omega)
      have HG := Lib.hid (And.intro HM1 (And.intro hBg (And.intro hbl hfl)))
      clear HM1 hBg hbl hfl hhl hLs
      go_upto_region 17 with (fail)
      go_wp2_with fail
      refine (around_c _ _ _ (by omega) (by omega) H2.out).mono ?_
      rintro e w4 ⟨rfl, rfl⟩
      have hk := aroundF_bd a2 sn (by omega)
      obtain ⟨kz, hkz⟩ : ∃ kz, aroundF a2 sn = kz := ⟨_, rfl⟩
      rw [hkz] at hk ⊢
      clear hkz
      obtain ⟨KI, rfl⟩ : ∃ KI : Nat, kz = (KI : Int) := ⟨kz.toNat, by omega⟩
      obtain ⟨_, _, e, _, hkc⟩ := HG.out.2.1.at KI (by omega)
      injection e with e; injection e with e1 e2
      subst e1; subst e2
      rw [Nat.zero_add] at hkc
      obtain ⟨y, hy⟩ : ∃ y, (backL h 0).getD KI false = y := ⟨_, rfl⟩
      rw [hy] at hkc
      have HY := Lib.hid hy
      clear hy
      go_upto_if 95 with (fail)
      go_cut [12] (fun vg wx => ∃ (vS' vV' : Value) (gs2 : List Sl) (Ls2 : List (List Int)) (zs2 : List Int) (hs2 : List Bool), Num w2 wx Y N vS' vV' vg gs2 Ls2 zs2 hs2 ∧ zs2.length = Ls2.length ∧ (∀ x, x ∈ zs2 → 0 ≤ x ∧ x < 1073741824) ∧
        ((Ls2 = flipsL N Ls 0 ∧ hs2 = backL h 0) ∨ (y = false ∧ Ls2 = flipsL N Ls 0 ++ [(flipsL N Ls 0).getD KI []] ∧ hs2 = backL h 0 ++ [false])))
      case first =>
        cases y with
        | true =>
          go_wp2_with fail
          go_meet
          case rel => exact ⟨_, _, _, _, _, _, HG.out.1, by rw [HG.out.2.2.2]; have := HM.out.2.1; omega, HM.out.2.2, .inl ⟨rfl, rfl⟩⟩
        | false =>
          obtain ⟨ss1, vs1, hvS, hvV, hss, hvs, hSh1⟩ := HG.out.1.own.shin (n := (N : Int)) (by rw [HG.out.2.2.2]; omega) (by have := HM.out.2.1; omega) (fun i hi => by rw [getD_get hi]; have := HM.out.2.2 _ (List.getElem_mem hi); exact ⟨by omega, by omega⟩) (fun k => Nat.le_trans (((sets_of HV.out.1).flips 0).len k) (by omega))
          obtain ⟨s1a, s1n, s1c⟩ := ss1
          simp only at hss
          rw [HG.out.2.2.2] at hss
          subst hss
          obtain ⟨vb, vo, e, _, hKc⟩ := hSh1.grps.at KI (by simp only; omega)
          simp only at e
          subst e
          obtain ⟨ob, hob1, hob2, hob3, hob4, hob5, hob6⟩ := HG.out.1.own.sets KI (by rw [HG.out.2.2.2]; omega)
          have hob7 := (HG.out.1.b.sets KI ob (by have := HG.out.1.own.n1; have := HG.out.2.2.2; omega) hob1).1
          obtain ⟨⟨ta, tn, tc⟩, hgK⟩ : ∃ s, gs'.getD KI sl0 = s := ⟨_, rfl⟩
          rw [hgK] at hob1 hob4 hKc
          simp only at hob1 hob4 hKc
          subst hob1
          simp only [Sl.v] at hvS hKc
          obtain ⟨gs', rfl⟩ : ∃ gs1, gs' = gs1 := ⟨_, rfl⟩
          subst hvS
          have z1 : wr.cell? ⟨Y, 1, none⟩ = some (.slice (some ⟨vb, vo, none⟩) s1n s1c) := HG.out.1.box.cell 1
          have hbs := HG.out.1.box.lt
          have HO := Lib.hid (And.intro hob2 (And.intro hob3 (And.intro hob4 (And.intro hob5 (And.intro hob6 hob7)))))
          clear hob2 hob3 hob4 hob5 hob6 hob7 hgK hvs hSh1 hvV
          have hk0 := hk.1
          have hk1 := hk.2
          have hbs9 : s1n ≤ 9 := hs9
          have hzl9 : zs'.length = s1n := by have := HM.out.2.1; omega
          have hfl := HG.out.2.2.2
          have hbl := HG.out.2.2.1
          go_upto_region 19 with (fail)
          refine wp_region_E (fun W => W.cell? ⟨Y, 1, none⟩ = some (.slice (some ⟨vb, vo, none⟩) s1n s1c)) [10] (by kernel_rfl) z1 (fun _ => ?_)
          have z1' : wr.drew.cell? ⟨Y, 1, none⟩ = some (.slice (some ⟨vb, vo, none⟩) s1n s1c) := z1
          refine takeP (i := 0) (v := ?_) rfl (by kernel_rfl) (by kernel_rfl) (by kernel_rfl) (fun _ _ _ h => h) (Or.inl ⟨by rfl, ?_⟩) ?_; rotate_left; (focus (intro wq hSw; clear hSw; go_simp; try with_reducible rfl)); (try simp only [Act.put, List.setIfInBounds_toArray, List.set_cons_zero, List.set_cons_succ])
          refine takeE (i := 1) (v := ?_) rfl (by kernel_rfl) (by kernel_rfl) (by kernel_rfl) (fun _ _ _ h => h) (by kernel_rfl) (by kernel_rfl) (Or.inl ⟨by rfl, ?_⟩) (by assumption) ?_; rotate_left; (focus (intro wq hSw; go_simp; try with_reducible rfl)); (try simp only [Act.put, List.setIfInBounds_toArray, List.set_cons_zero, List.set_cons_succ])
          refine takeP (i := 2) (v := ?_) rfl (by kernel_rfl) (by kernel_rfl) (by kernel_rfl) (fun _ _ _ h => h) (Or.inl ⟨by rfl, ?_⟩) ?_; rotate_left; (focus (intro wq hSw; clear hSw; go_simp; try with_reducible rfl)); (try simp only [Act.put, List.setIfInBounds_toArray, List.set_cons_zero, List.set_cons_succ])
          refine takeE (i := 3) (v := ?_) rfl (by kernel_rfl) (by kernel_rfl) (by kernel_rfl) (fun _ _ _ h => h) (by kernel_rfl) (by kernel_rfl) (Or.inl ⟨by rfl, ?_⟩) (by assumption) ?_; rotate_left; (focus (intro wq hSw; go_simp; try with_reducible rfl)); (try simp only [Act.put, List.setIfInBounds_toArray, List.set_cons_zero, List.set_cons_succ])
          refine takeP (i := 4) (v := ?_) rfl (by kernel_rfl) (by kernel_rfl) (by kernel_rfl) (fun _ _ _ h => h) (Or.inl ⟨by rfl, ?_⟩) ?_; rotate_left; (focus (intro wq hSw; clear hSw; go_simp; try with_reducible rfl)); (try simp only [Act.put, List.setIfInBounds_toArray, List.set_cons_zero, List.set_cons_succ])
          refine takeP (i := 5) (v := ?_) rfl (by kernel_rfl) (by kernel_rfl) (by kernel_rfl) (fun _ _ _ h => h) (Or.inl ⟨by rfl, ?_⟩) ?_; rotate_left; (focus (intro wq hSw; clear hSw; go_simp; try with_reducible rfl)); (try simp only [Act.put, List.setIfInBounds_toArray, List.set_cons_zero, List.set_cons_succ])
          refine consE (i := 6) (by kernel_rfl) rfl (fun K hK => ?_)
          go_simp
          refine hK.out _ _ ?_ (fun _ => ?_); rotate_left; clear hK K; rotate_right; (focus (exact .inr (.inr rfl))); (try simp only [Act.put, List.setIfInBounds_toArray, List.set_cons_zero, List.set_cons_succ])
          refine consE (i := 7) (by kernel_rfl) rfl (fun K hK => ?_)
          go_simp
          refine hK.out _ _ ?_ (fun _ => ?_); rotate_left; clear hK K; rotate_right; (focus (exact .inr (.inl (((Ext.refl wr).drew.alloc _).cell z1)))); (try simp only [Act.put, List.setIfInBounds_toArray, List.set_cons_zero, List.set_cons_succ])
          refine consE (i := 8) (by kernel_rfl) rfl (fun K hK => ?_)
          refine step_append_lies rfl _ _ _ rfl (Y + 1) 22 j0 _ 1 24 Try.underlying23 hj0 hy0 hy1 hy2 rfl (by omega) _ (flipsL N Ls 0).length (gs'.map Sl.v) rfl (owns_ext ((Ext.refl wr).drew.alloc _) HG.out.1.own.S) ⟨wr.heap.size, 0, none⟩ 1 1 [.slice (some ⟨ob, 0, none⟩) tn tc] rfl rfl (World.news_of_block (cs := #[.slice (some ⟨ob, 0, none⟩) tn tc]) (t := 22) (fr := (0, 0)) (heap_alloc_new wr.drew _)) (by simp [Value.oneCell']) (by omega) (by rw [maxLen]; omega) (by omega) (by simp; omega) _ rfl ?_
          intro g3 cap3 w3 hown hgrow hat hlt1
          obtain ⟨t1, t2, hS3⟩ := (HG.out.1.keep ((Ext.refl wr).drew.alloc _)).addS (L := (flipsL N Ls 0).getD KI []) (HO.out.2.2.1.keep ((Ext.refl wr).drew.alloc _).ik) HO.out.1 (by rw [World.size_alloc]; have := HO.out.2.1; exact Nat.lt_succ_of_lt this) HO.out.2.2.2.1 HO.out.2.2.2.2.1 HO.out.2.2.2.2.2 hown hgrow hat
          have HS3 := Lib.hid hS3
          clear hown hgrow hat hS3
          refine hK.out _ _ ?_ (fun _ => ?_); rotate_left; clear hK K; rotate_right; (focus (exact .inr (.inl t1))); (try simp only [Act.put, List.setIfInBounds_toArray, List.set_cons_zero, List.set_cons_succ])
          refine takeP (i := 9) (v := ?_) rfl (by kernel_rfl) (by kernel_rfl) (by kernel_rfl) (fun _ _ _ h => h) (Or.inl ⟨by rfl, ?_⟩) ?_; rotate_left; (focus (intro wq hSw; clear hSw; go_simp; try with_reducible rfl)); (try simp only [Act.put, List.setIfInBounds_toArray, List.set_cons_zero, List.set_cons_succ])
          refine consE (i := 10) (by kernel_rfl) rfl (fun K hK => ?_)
          go_simp
          refine hK.out _ _ ?_ (fun _ => ?_); rotate_left; clear hK K; rotate_right; (focus (exact .inl (by simp))); (try simp only [Act.put, List.setIfInBounds_toArray, List.set_cons_zero, List.set_cons_succ])
          refine doneE (by kernel_rfl) ?_ _
          go_upto_region 20 with (fail)
          obtain ⟨L9, hL9⟩ : ∃ l, (flipsL N Ls 0).getD KI [] = l := ⟨_, rfl⟩
          rw [hL9] at HS3
          obtain ⟨Fs, hFs⟩ : ∃ l, flipsL N Ls 0 = l := ⟨_, rfl⟩
          obtain ⟨Bs, hBs⟩ : ∃ l, backL h 0 = l := ⟨_, rfl⟩
          rw [hFs, hBs] at HS3
          rw [hFs] at hfl
          rw [hBs] at hbl
          rw [hfl] at HS3
          refine wp_gen (fun W => Num w2 W Y N (.slice (some ⟨g3, 0, none⟩) (s1n + 1) cap3) vV (.slice (some ⟨gb, 0, none⟩) s1n gcap) (gs' ++ [⟨some ⟨ob, 0, none⟩, tn, tc⟩]) (Fs ++ [L9]) zs' Bs) HS3.out ?_
          clear HS3 t1 t2 hlt1 z1 z1' x0 x1 hkc
          intro W4 hS4
          have HS4 := Lib.hid hS4
          have z2 : W4.cell? ⟨Y, 2, none⟩ = some vV := hS4.box.cell 2
          have hbs4 := hS4.box.lt
          clear hS4
          have HNW := Lib.hid (ints_news (ints_one W4 0 ⟨by omega, by omega⟩) (by omega))
          go_wp2_with (at_builtin; refine wpList_append_lies _ rfl _ _ _ rfl (Y + 1) 3 i0 _ 1 8 Try.underlying22 hi0 hz0 hz1 hz2 rfl (by omega) _ zs'.length (ivals zs') rfl (owns_ext ((Ext.refl W4).alloc _) HS4.out.own.V) ⟨W4.heap.size, 0, none⟩ 1 1 (ivals [0]) rfl rfl HNW.out (ivals_one _) (by omega) (by rw [maxLen]; omega) (by omega) (by simp; omega) _ rfl ?_)
          intro g5 cap5 w5 hown hgrow hat hlt1
          have hown' : w5.ownsRow (Y + 1) 3 1 (.slice (some ⟨g5, 0, none⟩) (zs'.length + 1) cap5) (zs'.length + 1) (ivals zs' ++ ivals [0]) := by first | exact hown | (simpa only [hzl9] using hown)
          obtain ⟨t1, t2, hS5⟩ := (HS4.out.keep ((Ext.refl W4).alloc _)).addV hown' hgrow (by rw [World.size_alloc]; exact hat)
          rw [hzl9] at hS5
          have HS5 := Lib.hid hS5
          clear hown hown' hgrow hat hS5
          go_upto_region 21 with (fail)
          refine wp_gen (fun W => Num w2 W Y N (.slice (some ⟨g3, 0, none⟩) (s1n + 1) cap3) (.slice (some ⟨g5, 0, none⟩) (s1n + 1) cap5) (.slice (some ⟨gb, 0, none⟩) s1n gcap) (gs' ++ [⟨some ⟨ob, 0, none⟩, tn, tc⟩]) (Fs ++ [L9]) (zs' ++ [0]) Bs) HS5.out ?_
          clear HS5 HS4 t1 t2 hlt1 z2
          intro W6 hS6
          have HS6 := Lib.hid hS6
          have hbs6 := hS6.box.lt
          have hnews : ∀ (j : Nat) (u : Value), (bvals [false])[j]? = some u → (W6.alloc (.cells #[.bool false] 4)).cell? ((⟨W6.heap.size, 0, none⟩ : Addr).add j) = some u :=
            bls_news (n := 1) ⟨rfl, .inr ⟨_, 0, rfl, by simp, fun j hj => by obtain rfl : j = 0 := by omega
                                                                             exact (Blk.at (w := W6) #[.bool false] 4 rfl).cell 0⟩⟩ (by omega)
          have HNB := Lib.hid hnews
          clear hS6 hnews
          go_wp2_with (at_builtin; refine wpList_append_lies _ rfl _ _ _ rfl (Y + 1) 4 b0 _ 1 1 Try.underlying34 hb0 hv0 hv1 hv2 rfl (by omega) _ s1n (bvals Bs) rfl (gowns_ext ((Ext.refl W6).alloc _) (by have h9 := HS6.out.b.B; rw [hbl] at h9; exact h9)) ⟨W6.heap.size, 0, none⟩ 1 1 (bvals [false]) rfl rfl HNB.out (bvals_one _) (by omega) (by rw [maxLen]; omega) (by omega) (by simp <;> omega) _ rfl ?_)
          intro g7 cap7 w7 hown hgrow hat hlt1
          have hS7 := (HS6.out.keep ((Ext.refl W6).alloc _)).addB (x := false) (g := g7) (cap := cap7) (by rw [hbl]; exact hown) hgrow (by rw [World.size_alloc]; exact hat)
          rw [hbl] at hS7
          have HS7 := Lib.hid hS7
          clear hown hgrow hat hS7
          go_wp2_with fail
          go_meet
          case rel => exact ⟨_, _, _, _, _, _, HS7.out, by simp [hfl, hzl9], fun x hx => by
            rcases List.mem_append.1 hx with hx | hx
            · exact HM.out.2.2 x hx
            · simp at hx; omega, .inr ⟨by trivial, by rw [hL9, hFs], by rw [hBs]⟩⟩
      case rest =>
        obtain ⟨vS', vV', gs2, Ls2, zs2, hs2, hNm, hzl, hzb, hor⟩ := hcut
        have hLl := HV.out.2.1
        have hhl := HW.out.2.1
        have hok := sets_of HV.out.1
        have hok2 : SetsOK N Ls2 := by
          rcases hor with ⟨rfl, _⟩ | ⟨_, rfl, _⟩
          · exact hok.flips 0
          · exact (hok.flips 0).app ((hok.flips 0).at (by rw [flipsL_length]; omega))
        have hl2 : Ls2.length ≤ 10 ∧ sn ≤ Ls2.length ∧ hs2.length = Ls2.length := by
          have a := flipsL_length N Ls 0
          have b := backL_length h 0
          rcases hor with ⟨rfl, rfl⟩ | ⟨_, rfl, rfl⟩
          · omega
          · simp; omega
        obtain ⟨ss2, vs2, rfl, rfl, hss, hvs, hSh2⟩ := hNm.own.shin (n := (N : Int)) (by omega) (by omega) (fun i hi => by rw [getD_get hi]; have := hzb _ (List.getElem_mem hi); exact ⟨by omega, by omega⟩) (fun k => Nat.le_trans (hok2.len k) (by omega))
        obtain ⟨g2, cap2, rfl, _, _⟩ := World.ownsRow.form hNm.b.B (by omega)
        have hB2 := (owns_bls hNm.b.B rfl (by omega)).1
        have hv2 := hok2.valid (by omega) (by omega) hzl hzb
        have hdet : ∀ i, i < sn → dB Ls2 hs2 (sn - 1 - i) = dB Ls h i := fun i hi => by
          have := num_det (K := KI) (h := h) (hs2 := hs2) (Ls2 := Ls2) hok (by rw [hhl, hLl]) (show i < Ls.length by omega) (by omega) (by rw [HY.out]; exact hor)
          rwa [← hLl] at this
        obtain ⟨s2a, s2n, s2c⟩ := ss2
        obtain ⟨v2a, v2n, v2c⟩ := vs2
        simp only at hss hvs
        have HX := Lib.hid (show NuI w N X Y ⟨some ⟨sb, so, none⟩, sn, sc⟩ ⟨va, vn, vc⟩ gs Ls zs (some ⟨hb, ho, none⟩) h ⟨s2a, s2n, s2c⟩ ⟨v2a, v2n, v2c⟩ gs2 Ls2 zs2 (some ⟨g2, 0, none⟩) hs2.length hs2 wc from
          ⟨HW.out.1.1.trans hNm.ext, HW.out.1.2.1.ext hNm.ext, HW.out.1.2.2.ext hNm.ext, HW.out.2.ext hNm.ext, hSh2, hNm.box, hB2⟩)
        have HD := Lib.hid (And.intro hdet (And.intro hv2 hl2))
        clear hNm hSh2 hB2 hdet hv2 hl2 hor hok hok2 hzb hzl hLl hhl hss hvs hkc hsh x0 x1
        obtain ⟨m2, hm2⟩ : ∃ m, hs2.length = m := ⟨_, rfl⟩
        rw [hm2] at HX ⊢
        have HM2 := Lib.hid hm2
        clear hm2
        go_wp2_with fail
        go_loopw [18] (fun v ws => ∃ i : Nat, i ≤ sn ∧ v = .int .i64 (i : Int) ∧ Ext wc ws) (fun v _ => sn - (intOf v).toNat)
        case atStart => exact ⟨0, by omega, rfl, Ext.refl _⟩
        case round =>
          rename World => ws
          obtain ⟨i, hi, rfl, hE⟩ := hrel
          have HE := Lib.hid hE
          have HS := Lib.hid (HX.out.keep hE)
          clear hE
          have x0 : ws.cell? ⟨X, 0, none⟩ = some (.int .i64 (N : Int)) := HS.out.box.cell 0
          have x1 : ws.cell? ⟨X, 1, none⟩ = some (.slice (some ⟨sb, so, none⟩) sn sc) := HS.out.box.cell 1
          have x2 : ws.cell? ⟨X, 2, none⟩ = some (.slice va vn vc) := HS.out.box.cell 2
          by_cases hlt : i < sn
          · go_wp2_with fail
            refine (own_c N ⟨some ⟨sb, so, none⟩, sn, sc⟩ ⟨va, vn, vc⟩ _).mono ?_
            rintro e v1 ⟨rfl, hx⟩
            have HS1 := Lib.hid (HS.out.keep hx)
            have HE1 := Lib.hid (HE.out.trans hx)
            clear hx x0 x1 x2
            go_wp2_with fail
            refine (det_ok N ⟨some ⟨sb, so, none⟩, sn, sc⟩ ⟨va, vn, vc⟩ gs Ls zs (some ⟨hb, ho, none⟩) sn hc h i _ HS1.out.sh HS1.out.b1 HV.out.1 HV.out.2.1 HV.out.2.2 (by rw [← HV.out.2.1]; exact hlt)).mono ?_
            rintro e v2 ⟨rfl, hx⟩
            have HS2 := Lib.hid (HS1.out.keep hx)
            have HE2 := Lib.hid (HE1.out.trans hx)
            clear hx
            have y0 : v2.cell? ⟨Y, 0, none⟩ = some (.int .i64 (N : Int)) := HS2.out.box2.cell 0
            have y1 : v2.cell? ⟨Y, 1, none⟩ = some (.slice s2a s2n s2c) := HS2.out.box2.cell 1
            have y2 : v2.cell? ⟨Y, 2, none⟩ = some (.slice v2a v2n v2c) := HS2.out.box2.cell 2
            go_wp2_with fail
            rw [show ((sn : Int) - 1 - (i : Int)) = ((sn - 1 - i : Nat) : Int) by omega]
            refine (det_ok N ⟨s2a, s2n, s2c⟩ ⟨v2a, v2n, v2c⟩ gs2 Ls2 zs2 (some ⟨g2, 0, none⟩) m2 cap2 hs2 (sn - 1 - i) _ HS2.out.sh2 HS2.out.b2 HD.out.2.1 (by rw [← HM2.out]; exact HD.out.2.2.2.2) (.inl (by have := HD.out.2.2.1; omega)) (by have := HD.out.2.2.2.1; omega)).mono ?_
            rintro e v3 ⟨rfl, hx⟩
            have HE3 := Lib.hid (HE2.out.trans hx)
            rw [HD.out.1 i hlt]
            clear hx y0 y1 y2
            obtain ⟨d, hd⟩ : ∃ d, dB Ls h i = d := ⟨_, rfl⟩
            rw [hd]
            clear hd
            cases d <;> (go_wp2_with fail; go_roundw; (case rel => exact ⟨i + 1, by omega, by go_num, HE3.out⟩); (case measure => simp [intOf]; omega))
          · obtain rfl : i = sn := by omega
            go_wp2_with fail
            refine (lives_c _).mono ?_
            rintro e w9 ⟨rfl, hx9⟩
            have E9 := HS.out.ext.trans hx9
            clear hx9
            go_wp2_with fail
            go_ret
            exact ⟨rfl, E9⟩
    · --{{
      obtain ⟨q, rfl⟩ : ∃ q, q1 = q + 1 := ⟨q1 - 1, by omega⟩
      obtain ⟨_, _, e, _, hcell⟩ := hsh.grps.at q (by simp only; omega)
      injection e with e; injection e with e1 e2
      subst e1; subst e2
      have hin := hsh.grps.2.2.2.2 q (by simp only; omega)
      obtain ⟨⟨ta, tn, tc⟩, hgq⟩ : ∃ s, gs.getD q sl0 = s := ⟨_, rfl⟩
      obtain ⟨L, hL⟩ : ∃ L, Ls.getD q [] = L := ⟨_, rfl⟩
      rw [hgq] at hcell hin
      rw [hL] at hin
      simp only [Sl.v] at hcell
      simp only at hin
      obtain ⟨_, _, _, _, hv5⟩ := validE_of HV.out.1
      obtain ⟨hLs, hLn⟩ := item_sorted (hv5 q (by have := HV.out.2.1; omega))
      rw [hL] at hLs hLn
      have hLl := hLs.len
      have htn := hin.1
      rw [htn] at hLl hLn
      have HL := Lib.hid (And.intro hL (And.intro hin (And.intro hLs htn)))
      clear hL hgq hin hsh hv5 hLs htn
      have e3 : ((q + 1 : Nat) : Int) - 1 = (q : Int) := by omega
      rw [e3]
      have q0 : (0 : Int) ≤ (q : Int) := by omega
      have q1' : (q : Int) < (sn : Int) := by omega
      clear e3
      go_upto_region 11 with (fail)
      go_loopw [15, 16] (fun sv v ws => ∃ p : Nat, p ≤ tn ∧ v = .int .i64 ((p : Int) - 1) ∧ VRow ws wr.heap.size sv (flipL N (L.drop p)) ∧ Ext wr ws) (fun _ v _ => (intOf v + 1).toNat)
      case atStart =>
        have e4 : flipL N (L.drop tn) = [] := by unfold flipL; rw [List.drop_eq_nil_of_le (by rw [HL.out.2.2.2]; exact Nat.le_refl _)]; rfl
        exact ⟨tn, by omega, rfl, by rw [e4]; exact VRow.nil _ _, Ext.refl _⟩
      case round =>
        rename World => ws
        obtain ⟨p1, hp, rfl, hV, hE⟩ := hrel
        have HVR := Lib.hid (And.intro hV hE)
        clear hV hE
        by_cases hp0 : p1 = 0
        · subst hp0
          rw [List.drop_zero] at HVR
          have hfl : (flipL N L).length = tn := by unfold flipL; simp [HL.out.2.2.2]
          obtain ⟨g, cap, rfl, hgb, hgl⟩ := World.ownsRow.form HVR.out.1 (by omega)
          rw [hfl] at HVR ⊢
          have hI : Ints ws (some ⟨g, 0, none⟩) tn (flipL N L) := by
            obtain ⟨a, c, e, h⟩ := HVR.out.1.ints (by omega) (fun k hk => by have := HL.out.2.2.1.flip.2 _ (List.getElem_mem hk); rw [getD_get hk]; exact ⟨by omega, by omega⟩)
            injection e with e1 e2 e3
            subst e1
            rw [hfl] at h
            exact h
          have HI := Lib.hid (And.intro hI hfl)
          have HSB := Lib.hid (HM.out.1.keep HVR.out.2)
          have z1 : ws.cell? ⟨Y, 1, none⟩ = some vS := HSB.out.box.cell 1
          have hfl2 := flipsL_length N Ls (q + 1)
          have hls := HV.out.2.1
          have hLl9 : (flipsL N Ls (q + 1)).length ≤ 9 := by omega
          have hzl9 : zs'.length ≤ 9 := by have := HM.out.2.1; omega
          have hgs : g < (ws.alloc (.cells #[.slice (some ⟨g, 0, none⟩) tn cap] 22)).heap.size := by rw [World.size_alloc]; omega
          have hbs := HSB.out.box.lt
          clear hI hfl hfl2 hls
          go_upto_region 14 with (fail)
          go_wp2_with (at_builtin; refine wpList_append_lies _ rfl _ _ _ rfl (Y + 1) 22 j0 _ 1 24 Try.underlying23 hj0 hy0 hy1 hy2 rfl (by omega) _ (flipsL N Ls (q + 1)).length (gs'.map Sl.v) rfl (owns_ext ((Ext.refl ws).alloc _) HSB.out.own.S) ⟨ws.heap.size, 0, none⟩ 1 1 [.slice (some ⟨g, 0, none⟩) tn cap] rfl rfl (World.news_of_block (cs := #[.slice (some ⟨g, 0, none⟩) tn cap]) (t := 22) (fr := (0, 0)) (heap_alloc_new ws _)) (by simp [Value.oneCell']) (by omega) (by rw [maxLen]; omega) (by omega) (by simp; omega) _ rfl ?_)
          intro g2 cap2 w1' hown hgrow hat hlt1
          obtain ⟨t1, t2, hS2⟩ := (HSB.out.keep ((Ext.refl ws).alloc _)).addS (L := flipL N L) (HI.out.1.keep ((Ext.refl ws).alloc _).ik) (by have := HM.out.1.box.lt; omega) hgs (fun e => by have := (owns_lt HM.out.1.own.S e).2; omega) (fun e => by have := (owns_lt HM.out.1.own.V e).2; omega) (fun e => by have := (gowns_lt HM.out.1.b.B e).2; omega) hown hgrow (by rw [World.size_alloc]; exact hat)
          have HS2 := Lib.hid hS2
          clear hown hgrow hat hS2 z1
          go_upto_region 15 with (fail)
          refine wp_gen (fun W => Num w2 W Y N (.slice (some ⟨g2, 0, none⟩) ((flipsL N Ls (q + 1)).length + 1) cap2) vV u12 (gs' ++ [⟨some ⟨g, 0, none⟩, tn, cap⟩]) (flipsL N Ls q) zs' (backL h (q + 1))) (by rw [show flipsL N Ls q = flipsL N Ls (q + 1) ++ [flipL N L] from by rw [flipsL_next (q := q) (by have := HV.out.2.1; omega), HL.out.1]]; exact HS2.out) ?_
          clear HS2 t1 t2 hlt1
          intro W2 hS2
          have HS2 := Lib.hid hS2
          have z1 : W2.cell? ⟨Y, 2, none⟩ = some vV := hS2.box.cell 2
          have hbs2 := hS2.box.lt
          clear hS2
          have hw64 : Int64 (IntKind.i64.wrap (a3 + (q : Int))) := by rw [IntKind.wrap_i64]; exact ⟨by omega, by omega⟩
          have HW64 := Lib.hid hw64
          clear hw64
          refine wp_region_E (fun W => W.cell? ⟨Y, 2, none⟩ = some vV) [9] (by kernel_rfl) z1 (fun _ => ?_)
          have z1' : W2.drew.cell? ⟨Y, 2, none⟩ = some vV := z1
          refine takeP (i := 0) (v := ?_) rfl (by kernel_rfl) (by kernel_rfl) (by kernel_rfl) (fun _ _ _ h => h) (Or.inl ⟨by rfl, ?_⟩) ?_; rotate_left; (focus (intro wq hSw; clear hSw; go_simp; try with_reducible rfl)); (try simp only [Act.put, List.setIfInBounds_toArray, List.set_cons_zero, List.set_cons_succ])
          refine takeE (i := 1) (v := ?_) rfl (by kernel_rfl) (by kernel_rfl) (by kernel_rfl) (fun _ _ _ h => h) (by kernel_rfl) (by kernel_rfl) (Or.inl ⟨by rfl, ?_⟩) (by assumption) ?_; rotate_left; (focus (intro wq hSw; go_simp; try with_reducible rfl)); (try simp only [Act.put, List.setIfInBounds_toArray, List.set_cons_zero, List.set_cons_succ])
          refine takeP (i := 2) (v := ?_) rfl (by kernel_rfl) (by kernel_rfl) (by kernel_rfl) (fun _ _ _ h => h) (Or.inl ⟨by rfl, ?_⟩) ?_; rotate_left; (focus (intro wq hSw; clear hSw; go_simp; try with_reducible rfl)); (try simp only [Act.put, List.setIfInBounds_toArray, List.set_cons_zero, List.set_cons_succ])
          refine takeP (i := 3) (v := ?_) rfl (by kernel_rfl) (by kernel_rfl) (by kernel_rfl) (fun _ _ _ h => h) (Or.inl ⟨by rfl, ?_⟩) ?_; rotate_left; (focus (intro wq hSw; clear hSw; go_simp; try with_reducible rfl)); (try simp only [Act.put, List.setIfInBounds_toArray, List.set_cons_zero, List.set_cons_succ])
          refine takeP (i := 4) (v := ?_) rfl (by kernel_rfl) (by kernel_rfl) (by kernel_rfl) (fun _ _ _ h => h) (Or.inl ⟨by rfl, ?_⟩) ?_; rotate_left; (focus (intro wq hSw; clear hSw; go_simp; try with_reducible rfl)); (try simp only [Act.put, List.setIfInBounds_toArray, List.set_cons_zero, List.set_cons_succ])
          refine consE (i := 5) (by kernel_rfl) rfl (fun K hK => ?_)
          go_simp
          go_at_call 16
          refine (around_c _ _ _ (by omega) (by omega) HW64.out).mono ?_
          rintro e w9 ⟨rfl, rfl⟩
          go_wp2_with fail
          have hzb := aroundF_bd (IntKind.i64.wrap (a3 + (q : Int))) 1073741824 (by omega)
          obtain ⟨z, hz⟩ : ∃ z, aroundF (IntKind.i64.wrap (a3 + (q : Int))) 1073741824 = z := ⟨_, rfl⟩
          rw [hz] at hzb ⊢
          clear hz
          have hs64 : Int64 z := ⟨by omega, by omega⟩
          have HNW := Lib.hid (ints_news (ints_one W2 z hs64) (by omega))
          refine hK.out _ _ ?_ (fun _ => ?_); rotate_left; clear hK K; rotate_right; (focus (exact .inr (.inr rfl))); (try simp only [Act.put, List.setIfInBounds_toArray, List.set_cons_zero, List.set_cons_succ])
          refine consE (i := 6) (by kernel_rfl) rfl (fun K hK => ?_)
          go_simp
          refine hK.out _ _ ?_ (fun _ => ?_); rotate_left; clear hK K; rotate_right; (focus (exact .inr (.inl (((Ext.refl W2).drew.alloc _).cell z1)))); (try simp only [Act.put, List.setIfInBounds_toArray, List.set_cons_zero, List.set_cons_succ])
          refine consE (i := 7) (by kernel_rfl) rfl (fun K hK => ?_)
          refine step_append_lies rfl _ _ _ rfl (Y + 1) 3 i0 _ 1 8 Try.underlying22 hi0 hz0 hz1 hz2 rfl (by omega) _ zs'.length (ivals zs') rfl (owns_ext ((Ext.refl W2).drew.alloc _) HS2.out.own.V) ⟨W2.heap.size, 0, none⟩ 1 1 (ivals [z]) rfl rfl (fun j u hu => HNW.out j u hu) (ivals_one _) (by omega) (by rw [maxLen]; omega) (by omega) (by simp; omega) _ rfl ?_
          intro g3 cap3 w3 hown hgrow hat hlt1
          obtain ⟨t1, t2, hS3⟩ := (HS2.out.keep ((Ext.refl W2).drew.alloc _)).addV hown hgrow hat
          have HS3 := Lib.hid hS3
          clear hown hgrow hat hS3
          refine hK.out _ _ ?_ (fun _ => ?_); rotate_left; clear hK K; rotate_right; (focus (exact .inr (.inl t1))); (try simp only [Act.put, List.setIfInBounds_toArray, List.set_cons_zero, List.set_cons_succ])
          refine takeP (i := 8) (v := ?_) rfl (by kernel_rfl) (by kernel_rfl) (by kernel_rfl) (fun _ _ _ h => h) (Or.inl ⟨by rfl, ?_⟩) ?_; rotate_left; (focus (intro wq hSw; clear hSw; go_simp; try with_reducible rfl)); (try simp only [Act.put, List.setIfInBounds_toArray, List.set_cons_zero, List.set_cons_succ])
          refine consE (i := 9) (by kernel_rfl) rfl (fun K hK => ?_)
          go_simp
          refine hK.out _ _ ?_ (fun _ => ?_); rotate_left; clear hK K; rotate_right; (focus (exact .inl (by simp))); (try simp only [Act.put, List.setIfInBounds_toArray, List.set_cons_zero, List.set_cons_succ])
          refine doneE (by kernel_rfl) ?_ _
          go_upto_region 16 with (fail)
          refine wp_gen (fun W => Num w2 W Y N (.slice (some ⟨g2, 0, none⟩) ((flipsL N Ls (q + 1)).length + 1) cap2) (.slice (some ⟨g3, 0, none⟩) (zs'.length + 1) cap3) u12 (gs' ++ [⟨some ⟨g, 0, none⟩, tn, cap⟩]) (flipsL N Ls q) (zs' ++ [z]) (backL h (q + 1))) HS3.out ?_
          clear HS3 t1 t2 hlt1
          intro W4 hS4
          have HS4 := Lib.hid hS4
          obtain ⟨_, _, e, _, hbc⟩ := (HW.out.2.ext hS4.ext).at q (by omega)
          injection e with e; injection e with e1 e2
          subst e1; subst e2
          obtain ⟨y, hy⟩ : ∃ y, h.getD q false = y := ⟨_, rfl⟩
          rw [hy] at hbc
          have HY := Lib.hid hy
          have hbs4 := hS4.box.lt
          have hnews : ∀ (j : Nat) (u : Value), (bvals [y])[j]? = some u → (W4.alloc (.cells #[.bool y] 4)).cell? ((⟨W4.heap.size, 0, none⟩ : Addr).add j) = some u :=
            bls_news (n := 1) ⟨rfl, .inr ⟨_, 0, rfl, by simp, fun j hj => by obtain rfl : j = 0 := by omega
                                                                             exact (Blk.at (w := W4) #[.bool y] 4 rfl).cell 0⟩⟩ (by omega)
          have HNB := Lib.hid hnews
          have hbl := backL_length h (q + 1)
          have hhl := HW.out.2.1
          have hbl9 : (backL h (q + 1)).length ≤ 9 := by omega
          clear hS4 hy hnews hbl hhl
          go_wp2_with (at_builtin; refine wpList_append_lies _ rfl _ _ _ rfl (Y + 1) 4 b0 _ 1 1 Try.underlying34 hb0 hv0 hv1 hv2 rfl (by omega) _ (backL h (q + 1)).length (bvals (backL h (q + 1))) rfl (gowns_ext ((Ext.refl W4).alloc _) HS4.out.b.B) ⟨W4.heap.size, 0, none⟩ 1 1 (bvals [y]) rfl rfl HNB.out (bvals_one _) (by omega) (by rw [maxLen]; omega) (by omega) (by simp <;> omega) _ rfl ?_)
          intro g5 cap5 w5 hown hgrow hat hlt1
          have hS5 := (HS4.out.keep ((Ext.refl W4).alloc _)).addB hown hgrow (by rw [World.size_alloc]; exact hat)
          have HS5 := Lib.hid (show Num w2 w5 Y N _ _ _ _ (flipsL N Ls q) (zs' ++ [z]) (backL h q) from by rw [show backL h q = backL h (q + 1) ++ [y] from by rw [backL_next (q := q) (by have := HW.out.2.1; omega), HY.out]]; exact hS5)
          clear hown hgrow hat hS5
          go_wp2_with fail
          go_roundw
          case rel => exact ⟨q, _, _, _, _, by omega, by go_num, HS5.out, by simp; have := HM.out.2.1; omega, fun x hx => by
            rcases List.mem_append.1 hx with hx | hx
            · exact HM.out.2.2 x hx
            · simp at hx; omega⟩
          case measure => first | (simp [intOf]; done) | (simp [intOf]; omega)
        · obtain ⟨p, rfl⟩ : ∃ p, p1 = p + 1 := ⟨p1 - 1, by omega⟩
          have e3 : ((p + 1 : Nat) : Int) - 1 = (p : Int) := by omega
          rw [e3]
          have p0 : (0 : Int) ≤ (p : Int) := by omega
          have p1' : (p : Int) < (tn : Int) := by omega
          clear e3
          obtain ⟨tb, tof, rfl, _, hlc⟩ := HL.out.2.1.at p (by omega)
          have HX0 := Lib.hid (fun W (e : Ext wr W) => e.cell x0)
          have HX1 := Lib.hid (fun W (e : Ext wr W) => e.cell x1)
          have HX2 := Lib.hid (fun W (e : Ext wr W) => e.cell hcell)
          have HX3 := Lib.hid (fun W (e : Ext wr W) => e.cell hlc)
          obtain ⟨y, hy⟩ : ∃ y, L.getD p 0 = y := ⟨_, rfl⟩
          rw [hy] at HX3
          have hyb : 0 ≤ y ∧ y < (N : Int) := by
            rw [← hy, getD_get (by have := HL.out.2.2.2; omega)]
            exact HL.out.2.2.1.2 _ (List.getElem_mem _)
          have HY := Lib.hid hy
          have h64 : Int64 ((N : Int) - 1 - y) := ⟨by omega, by omega⟩
          have HNW := fun W => ints_news (ints_one W _ h64) (by omega)
          have HNW := Lib.hid HNW
          clear hlc hy h64
          go_upto_region 13 with (fail)
          refine wp_region_held_drew (S := fun W => Ext wr W) (by kernel_rfl) HVR.out.2.drew (fun hHeld => ?_)
          refine takeL (i := 0) (v := ?_) rfl (by kernel_rfl) (by kernel_rfl) (by kernel_rfl) (fun _ _ _ h => h) (Or.inl ⟨by rfl, ?_⟩) (by assumption) ?_; rotate_left; (focus (intro wq hSw; (try dsimp only at hSw); go_simp; try with_reducible rfl)); (try simp only [Act.put, List.setIfInBounds_toArray, List.set_cons_zero, List.set_cons_succ])
          refine takeL (i := 1) (v := ?_) rfl (by kernel_rfl) (by kernel_rfl) (by kernel_rfl) (fun _ _ _ h => h) (Or.inl ⟨by rfl, ?_⟩) (by assumption) ?_; rotate_left; (focus (intro wq hSw; (try dsimp only at hSw); go_simp; try with_reducible rfl)); (try simp only [Act.put, List.setIfInBounds_toArray, List.set_cons_zero, List.set_cons_succ])
          refine takeL (i := 2) (v := ?_) rfl (by kernel_rfl) (by kernel_rfl) (by kernel_rfl) (fun _ _ _ h => h) (Or.inl ⟨by rfl, ?_⟩) (by assumption) ?_; rotate_left; (focus (intro wq hSw; have hcc := HX0.out wq hSw; clear hSw; go_simp; try with_reducible rfl)); (try simp only [Act.put, List.setIfInBounds_toArray, List.set_cons_zero, List.set_cons_succ])
          refine takeL (i := 3) (v := ?_) rfl (by kernel_rfl) (by kernel_rfl) (by kernel_rfl) (fun _ _ _ h => h) (Or.inl ⟨by rfl, ?_⟩) (by assumption) ?_; rotate_left; (focus (intro wq hSw; (try dsimp only at hSw); go_simp; try with_reducible rfl)); (try simp only [Act.put, List.setIfInBounds_toArray, List.set_cons_zero, List.set_cons_succ])
          refine takeL (i := 4) (v := ?_) rfl (by kernel_rfl) (by kernel_rfl) (by kernel_rfl) (fun _ _ _ h => h) (Or.inl ⟨by rfl, ?_⟩) (by assumption) ?_; rotate_left; (focus (intro wq hSw; (try dsimp only at hSw); go_simp; try with_reducible rfl)); (try simp only [Act.put, List.setIfInBounds_toArray, List.set_cons_zero, List.set_cons_succ])
          refine takeL (i := 5) (v := ?_) rfl (by kernel_rfl) (by kernel_rfl) (by kernel_rfl) (fun _ _ _ h => h) (Or.inl ⟨by rfl, ?_⟩) (by assumption) ?_; rotate_left; (focus (intro wq hSw; have hcc := HX1.out wq hSw; clear hSw; go_simp; try with_reducible rfl)); (try simp only [Act.put, List.setIfInBounds_toArray, List.set_cons_zero, List.set_cons_succ])
          refine takeL (i := 6) (v := ?_) rfl (by kernel_rfl) (by kernel_rfl) (by kernel_rfl) (fun _ _ _ h => h) (Or.inl ⟨by rfl, ?_⟩) (by assumption) ?_; rotate_left; (focus (intro wq hSw; (try dsimp only at hSw); go_simp; try with_reducible rfl)); (try simp only [Act.put, List.setIfInBounds_toArray, List.set_cons_zero, List.set_cons_succ])
          refine takeL (i := 7) (v := ?_) rfl (by kernel_rfl) (by kernel_rfl) (by kernel_rfl) (fun _ _ _ h => h) (Or.inl ⟨by rfl, ?_⟩) (by assumption) ?_; rotate_left; (focus (intro wq hSw; (try dsimp only at hSw); go_simp; try with_reducible rfl)); (try simp only [Act.put, List.setIfInBounds_toArray, List.set_cons_zero, List.set_cons_succ])
          refine takeL (i := 8) (v := ?_) rfl (by kernel_rfl) (by kernel_rfl) (by kernel_rfl) (fun _ _ _ h => h) (Or.inl ⟨by rfl, ?_⟩) (by assumption) ?_; rotate_left; (focus (intro wq hSw; have hcc := HX2.out wq hSw; clear hSw; go_simp; try with_reducible rfl)); (try simp only [Act.put, List.setIfInBounds_toArray, List.set_cons_zero, List.set_cons_succ])
          refine takeL (i := 9) (v := ?_) rfl (by kernel_rfl) (by kernel_rfl) (by kernel_rfl) (fun _ _ _ h => h) (Or.inl ⟨by rfl, ?_⟩) (by assumption) ?_; rotate_left; (focus (intro wq hSw; (try dsimp only at hSw); go_simp; try with_reducible rfl)); (try simp only [Act.put, List.setIfInBounds_toArray, List.set_cons_zero, List.set_cons_succ])
          refine takeL (i := 10) (v := ?_) rfl (by kernel_rfl) (by kernel_rfl) (by kernel_rfl) (fun _ _ _ h => h) (Or.inl ⟨by rfl, ?_⟩) (by assumption) ?_; rotate_left; (focus (intro wq hSw; (try dsimp only at hSw); go_simp; try with_reducible rfl)); (try simp only [Act.put, List.setIfInBounds_toArray, List.set_cons_zero, List.set_cons_succ])
          refine takeL (i := 11) (v := ?_) rfl (by kernel_rfl) (by kernel_rfl) (by kernel_rfl) (fun _ _ _ h => h) (Or.inl ⟨by rfl, ?_⟩) (by assumption) ?_; rotate_left; (focus (intro wq hSw; have hcc := HX3.out wq hSw; clear hSw; go_simp; try with_reducible rfl)); (try simp only [Act.put, List.setIfInBounds_toArray, List.set_cons_zero, List.set_cons_succ])
          refine takeL (i := 12) (v := ?_) rfl (by kernel_rfl) (by kernel_rfl) (by kernel_rfl) (fun _ _ _ h => h) (Or.inl ⟨by rfl, ?_⟩) (by assumption) ?_; rotate_left; (focus (intro wq hSw; (try dsimp only at hSw); go_simp; try with_reducible rfl)); (try simp only [Act.put, List.setIfInBounds_toArray, List.set_cons_zero, List.set_cons_succ])
          have hwr : IntKind.i64.wrap (IntKind.i64.wrap ((N : Int) - 1) - y) = (N : Int) - 1 - y := by
            rw [show IntKind.i64.wrap ((N : Int) - 1) = (N : Int) - 1 from IntWalk.i64_in _ (by omega)]
            exact IntWalk.i64_in _ (by omega)
          simp only [hwr]
          clear hwr
          have hln : (flipL N (L.drop (p + 1))).length ≤ 10 := by unfold flipL; simp; have := HL.out.2.2.2; omega
          refine consL (i := 13) (by kernel_rfl) rfl (fun K hK => ?_); go_simp; refine hK.out _ _ ?_ (fun hHeld => ?_); rotate_left; clear hK K; rotate_right; (focus (exact hHeld.alloc _)); (try simp only [Act.put, List.setIfInBounds_toArray, List.set_cons_zero, List.set_cons_succ])
          refine consL (i := 14) (by kernel_rfl) rfl (fun K hK => ?_)
          refine step_append_lies rfl _ _ _ rfl wr.heap.size 3 i0 _ 1 8 Try.underlying22 hi0 hz0 hz1 hz2 rfl (by omega) _ _ (ivals (flipL N (L.drop (p + 1)))) rfl (owns_ext ((Ext.refl ws).alloc _).drew HVR.out.1) ⟨ws.drew.heap.size, 0, none⟩ 1 1 (ivals [(N : Int) - 1 - y]) rfl rfl (fun j u hu => HNW.out ws j u hu) (ivals_one _) (by omega) (by rw [maxLen]; omega) (by omega) hHeld.size _ rfl ?_
          intro g cap w1 hown hgrow hat hlt1
          have HR := Lib.hid (show VRow w1 wr.heap.size (.slice (some ⟨g, 0, none⟩) ((flipL N (L.drop (p + 1))).length + 1) cap) (flipL N (L.drop p)) ∧ Ext wr w1 from
            ⟨by rw [show flipL N (L.drop p) = flipL N (L.drop (p + 1)) ++ [(N : Int) - 1 - y] from by rw [flipL_next (q := p) (by have := HL.out.2.2.2; omega), HY.out]]; exact VRow.app rfl hown, ext_grown hHeld hgrow (fun g hg => (owns_lt HVR.out.1 hg).1)⟩)
          clear hown hgrow hat
          refine hK.out _ _ ?_ (fun hHeld => ?_)
          rotate_left
          clear hK K
          rotate_right
          focus exact HR.out.2
          (try simp only [Act.put, List.setIfInBounds_toArray, List.set_cons_zero, List.set_cons_succ])
          refine consL (i := 15) (by kernel_rfl) rfl (fun K hK => ?_); go_simp; refine hK.out _ _ ?_ (fun hHeld => ?_); rotate_left; clear hK K; rotate_right; (focus (exact HR.out.2)); (try simp only [Act.put, List.setIfInBounds_toArray, List.set_cons_zero, List.set_cons_succ])
          refine doneL (by kernel_rfl) ?_
          go_wp2_with fail
          go_roundw
          case rel => exact ⟨p, by omega, by go_num, HR.out.1, HR.out.2⟩
          case measure => first | (simp [intOf]; done) | (simp [intOf]; omega)
      --}}
end Go.Proofs.Ytkoidookanmknaa
