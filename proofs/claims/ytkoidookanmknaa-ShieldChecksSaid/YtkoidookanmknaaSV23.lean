/- shield: Hide, the walk. -/
import Derived.Test.YtkoidookanmknaaSV22
namespace Go.Proofs.Ytkoidookanmknaa
set_option linter.unusedSimpArgs false
set_option linter.unusedVariables false
open Go.RowKit

set_option maxRecDepth 100000 in
set_option maxHeartbeats 8000000 in
theorem Hide_c (n lim : Int) (ss vs : Sl) (gs : List Sl) (Ls : List (List Int)) (zs : List Int) (w : World) (h : ShIn w n ss vs gs Ls zs) (hf : validE n Ls zs = 0 → FewOK Ls) :
  Calls Try.prog 20 #[.agg #[.int .i64 n, ss.v, vs.v], .int .i64 lim] w fun e w' => (hideE n Ls zs lim ≠ 0 ∧ e = .returned (.tuple #[.slice none 0 0, .int .i64 (hideE n Ls zs lim)]) ∧ Ext w w') ∨
   (hideE n Ls zs lim = 0 ∧ ∃ b, e = .returned (.tuple #[.slice (some ⟨b, 0, none⟩) ss.n ss.n, .int .i64 0]) ∧ Bls w' (some ⟨b, 0, none⟩) ss.n (hideF (dB Ls) zs ss.n (ss.n + 1) (hide0 zs lim ss.n)) ∧ Ext w w') := by
 have H := Lib.hid (And.intro h hf)
 have hsn := h.grps.2.1
 have hs1 := h.grps.2.2.1
 obtain ⟨v, hv⟩ : ∃ v, validE n Ls zs = v := ⟨_, rfl⟩
 have hE : hideE n Ls zs lim = if v ≠ 0 then v else if lim < 0 ∨ 1099511627776 < lim then 1 else 0 := by unfold hideE; rw [hv]
 have HV := Lib.hid hv
 have HL := Lib.hid hsn
 obtain ⟨sa, sn, sc⟩ := ss
 obtain ⟨va, vn, vc⟩ := vs
 simp only at hs1
 simp only [Sl.v]
 obtain ⟨B, hB⟩ : ∃ B, w.heap.size = B := ⟨_, rfl⟩
 clear h hf hsn
 by_cases c1 : v = 0
 ·by_cases c2 : lim < 0
  ·have HR := Lib.hid (show hideE n Ls zs lim = 1 by rw [hE, if_neg (by omega), if_pos (.inl c2)])
   rw [HR.out]
   clear hE hv
   subst c1
   go_enter Try.func20, Try.ntmps20; go_upto_region 1 with (fail); refine wp_gen (fun W => Ext w W ∧ Blk W B #[.int .i64 n, .slice sa sn sc, .slice va vn vc] 31 ∧ W.heap.size = B + 1) ⟨(by repeat (first | exact Ext.refl _ | assumption | refine Ext.setCell ?_ (by first | (simp; done) | (simp; omega) | omega) _ | refine Ext.alloc ?_ _ | refine Ext.drew ?_ | refine Ext.trans ?_ (by assumption))), Blk.at _ 31 hB.symm, by simp [hB]⟩ ?_; rintro V ⟨E0, B0, hVs⟩; have HB := Lib.hid (And.intro E0 B0); have x0 : V.cell? ⟨B, 0, none⟩ = some (.int .i64 n) := B0.cell 0; have x1 : V.cell? ⟨B, 1, none⟩ = some (.slice sa sn sc) := B0.cell 1; have x2 : V.cell? ⟨B, 2, none⟩ = some (.slice va vn vc) := B0.cell 2; clear E0 B0; go_wp2_with fail; refine (Valid_c n ⟨sa, sn, sc⟩ ⟨va, vn, vc⟩ gs Ls zs _ (H.out.1.ext HB.out.1)).mono ?_; rw [HV.out]; rintro e w2 ⟨rfl, hx2⟩; have HX := Lib.hid (HB.out.1.trans hx2); have y0 : w2.cell? ⟨B, 0, none⟩ = some (.int .i64 n) := hx2.cell x0; have y1 : w2.cell? ⟨B, 1, none⟩ = some (.slice sa sn sc) := hx2.cell x1; have y2 : w2.cell? ⟨B, 2, none⟩ = some (.slice va vn vc) := hx2.cell x2; have hs2 := hx2.size; clear x0 x1 x2 hx2
   go_wp2_with fail
   go_ret2
   exact .inl ⟨by omega, rfl, HX.out⟩
  ·by_cases c3 : 1099511627776 < lim
   ·have HR := Lib.hid (show hideE n Ls zs lim = 1 by rw [hE, if_neg (by omega), if_pos (.inr c3)])
    rw [HR.out]
    clear hE hv
    subst c1
    go_enter Try.func20, Try.ntmps20; go_upto_region 1 with (fail); refine wp_gen (fun W => Ext w W ∧ Blk W B #[.int .i64 n, .slice sa sn sc, .slice va vn vc] 31 ∧ W.heap.size = B + 1) ⟨(by repeat (first | exact Ext.refl _ | assumption | refine Ext.setCell ?_ (by first | (simp; done) | (simp; omega) | omega) _ | refine Ext.alloc ?_ _ | refine Ext.drew ?_ | refine Ext.trans ?_ (by assumption))), Blk.at _ 31 hB.symm, by simp [hB]⟩ ?_; rintro V ⟨E0, B0, hVs⟩; have HB := Lib.hid (And.intro E0 B0); have x0 : V.cell? ⟨B, 0, none⟩ = some (.int .i64 n) := B0.cell 0; have x1 : V.cell? ⟨B, 1, none⟩ = some (.slice sa sn sc) := B0.cell 1; have x2 : V.cell? ⟨B, 2, none⟩ = some (.slice va vn vc) := B0.cell 2; clear E0 B0; go_wp2_with fail; refine (Valid_c n ⟨sa, sn, sc⟩ ⟨va, vn, vc⟩ gs Ls zs _ (H.out.1.ext HB.out.1)).mono ?_; rw [HV.out]; rintro e w2 ⟨rfl, hx2⟩; have HX := Lib.hid (HB.out.1.trans hx2); have y0 : w2.cell? ⟨B, 0, none⟩ = some (.int .i64 n) := hx2.cell x0; have y1 : w2.cell? ⟨B, 1, none⟩ = some (.slice sa sn sc) := hx2.cell x1; have y2 : w2.cell? ⟨B, 2, none⟩ = some (.slice va vn vc) := hx2.cell x2; have hs2 := hx2.size; clear x0 x1 x2 hx2
    go_wp2_with fail
    go_ret2
    exact .inl ⟨by omega, rfl, HX.out⟩
   ·have HR := Lib.hid (show hideE n Ls zs lim = 0 by rw [hE, if_neg (by omega), if_neg (by omega)])
    rw [HR.out]
    rw [c1] at hv
    obtain ⟨u1, u2, u3, u4, u5⟩ := validE_of hv
    obtain ⟨N, rfl⟩ : ∃ N : Nat, n = (N : Int) := ⟨n.toNat, by omega⟩
    have hG := H.out.1.sheet hv
    have hfo := H.out.2 hv
    have HLs := HL.out
    simp only at HLs
    have HU := Lib.hid (And.intro u4 (And.intro u5 (And.intro hG hfo)))
    have hvn : vn = sn := by have := H.out.1.vals.1; simp only at this; omega
    have hN : N ≤ 1000 := by omega
    have HLN := Lib.hid HLs
    obtain rfl := hvn.symm
    clear hE hv u1 u2 u3 u4 u5 hG hfo HLs
    subst c1
    have hmk := make_bools sn (sn : Int) (sn : Int) rfl rfl hs1
    go_enter Try.func20, Try.ntmps20; go_upto_region 1 with (fail); refine wp_gen (fun W => Ext w W ∧ Blk W B #[.int .i64 (N : Int), .slice sa sn sc, .slice va sn vc] 31 ∧ W.heap.size = B + 1) ⟨(by repeat (first | exact Ext.refl _ | assumption | refine Ext.setCell ?_ (by first | (simp; done) | (simp; omega) | omega) _ | refine Ext.alloc ?_ _ | refine Ext.drew ?_ | refine Ext.trans ?_ (by assumption))), Blk.at _ 31 hB.symm, by simp [hB]⟩ ?_; rintro V ⟨E0, B0, hVs⟩; have HB := Lib.hid (And.intro E0 B0); have x0 : V.cell? ⟨B, 0, none⟩ = some (.int .i64 (N : Int)) := B0.cell 0; have x1 : V.cell? ⟨B, 1, none⟩ = some (.slice sa sn sc) := B0.cell 1; have x2 : V.cell? ⟨B, 2, none⟩ = some (.slice va sn vc) := B0.cell 2; clear E0 B0; go_wp2_with fail; refine (Valid_c (N : Int) ⟨sa, sn, sc⟩ ⟨va, sn, vc⟩ gs Ls zs _ (H.out.1.ext HB.out.1)).mono ?_; rw [HV.out]; rintro e w2 ⟨rfl, hx2⟩; have HX := Lib.hid (HB.out.1.trans hx2); have y0 : w2.cell? ⟨B, 0, none⟩ = some (.int .i64 (N : Int)) := hx2.cell x0; have y1 : w2.cell? ⟨B, 1, none⟩ = some (.slice sa sn sc) := hx2.cell x1; have y2 : w2.cell? ⟨B, 2, none⟩ = some (.slice va sn vc) := hx2.cell x2; have hs2 := hx2.size; clear x0 x1 x2 hx2
    go_upto_region 7 with (fail)
    obtain ⟨HBk, hHB⟩ : ∃ k, w2.heap.size = k := ⟨_, rfl⟩
    have hfz := fun (o : Nat) => (Blk.at (w := w2) (bvals (List.replicate sn false)).toArray 4 hHB.symm).free o
    have hL0 : HLoop w ((w2.alloc (.cells (bvals (List.replicate sn false)).toArray 4)).alloc (.cells #[.slice (some ⟨HBk, 0, none⟩) sn sn] 34)) N sn B (HBk + 1) HBk ⟨sa, sn, sc⟩ ⟨va, sn, vc⟩ (hidA zs lim sn 0) := by
     refine ⟨(HX.out.alloc _).alloc _, cell_alloc (cell_alloc y0), cell_alloc (cell_alloc y1), cell_alloc (cell_alloc y2), (Blk.at _ 34 (by simp [hHB])).cell 0, ?_, fun o => ?_, by have := HX.out.size; omega, by simp [hHB]; omega⟩
     ·rw [hidA_zero]
      exact (blk_bls (Blk.at _ 4 hHB.symm) (by simp)).ext ((Ext.refl _).alloc _)
     ·rw [((Ext.refl _).alloc _).see.2.1 HBk o (by simp [hHB])]
      exact hfz o
    have hsz : B < HBk := by omega
    clear hfz hmk
    try rw [hHB]
    refine wp_gen (fun W => HLoop w W N sn B (HBk + 1) HBk ⟨sa, sn, sc⟩ ⟨va, sn, vc⟩ (hidA zs lim sn 0)) hL0 ?_
    clear hL0 y0 y1 y2 hVs hs2 hHB
    rintro W hL
    have HL0 := Lib.hid hL
    have x2 : W.cell? ⟨B, 2, none⟩ = some (.slice va sn vc) := hL.s2
    clear hL
    have hne1 : B ≠ HBk := by omega
    have hne2 : HBk + 1 ≠ HBk := by omega
    go_upto_region 8 with (fail)
    clear x2
    go_loopw [33] (fun iv ws => ∃ i : Nat, i ≤ sn ∧ iv = .int .i64 (i : Int) ∧ HLoop w ws N sn B (HBk + 1) HBk ⟨sa, sn, sc⟩ ⟨va, sn, vc⟩ (hidA zs lim sn i)) (fun iv _ => sn - (intOf iv).toNat)
    case atStart => exact ⟨0, by omega, rfl, HL0.out⟩
    case round =>
     obtain ⟨i, hi, rfl, hL⟩ := hrel
     by_cases hlt : i < sn
     ·obtain ⟨vb, vo, rfl, hvb, hvc⟩ := (H.out.1.vals.keep hL.ext.ik).at i hlt
      obtain ⟨b', o', e1, _, hbc⟩ := hL.bls.at i hlt
      injection e1 with e1
      injection e1 with e1 e2
      subst e1; subst e2
      rw [Nat.zero_add] at hbc
      have hfr := hL.free
      have x3 := hL.h0
      obtain ⟨z, hz⟩ : ∃ z, zs.getD i 0 = z := ⟨_, rfl⟩
      rw [hz] at hvc
      have HZ := Lib.hid hz
      have HLL := Lib.hid hL
      have i0 : (0 : Int) ≤ (i : Int) := by omega
      have i1 : (i : Int) < (sn : Int) := by omega
      clear hz hL
      by_cases d1 : 1 ≤ z
      ·by_cases d2 : z < lim
       ·have HN := Lib.hid (hidA_step zs lim sn i hlt true (by rw [HZ.out, decide_eq_true d1, decide_eq_true d2]; rfl))
        go_wp2_with fail
        go_roundw
        case rel => exact ⟨i + 1, by omega, by go_num, by rw [← HN.out]; exact HLL.out.put hlt hne1 hne2⟩
        case measure => simp [intOf]; omega
       ·have HN := Lib.hid (hidA_step zs lim sn i hlt false (by rw [HZ.out, decide_eq_true d1, decide_eq_false d2]; rfl))
        have d2' : decide (z < lim) = false := by rw [decide_eq_false_iff_not]; exact d2
        clear d2
        go_wp2_with fail
        go_roundw
        case rel => exact ⟨i + 1, by omega, by go_num, by rw [← HN.out]; exact HLL.out.put hlt hne1 hne2⟩
        case measure => simp [intOf]; omega
      ·have HN := Lib.hid (hidA_step zs lim sn i hlt false (by rw [HZ.out, decide_eq_false d1]; rfl))
       have d1' : decide (1 ≤ z) = false := by rw [decide_eq_false_iff_not]; exact d1
       clear d1
       go_wp2_with fail
       go_roundw
       case rel => exact ⟨i + 1, by omega, by go_num, by rw [← HN.out]; exact HLL.out.put hlt hne1 hne2⟩
       case measure => simp [intOf]; omega
     ·obtain rfl : sn = i := by omega
      rw [hidA_done] at hL
      have HLL := Lib.hid hL
      clear hL
      go_upto_region 13 with (fail)
      obtain ⟨R, hR⟩ : ∃ R, hideF (dB Ls) zs sn (sn + 1) (hide0 zs lim sn) = R := ⟨_, rfl⟩
      have HRR := Lib.hid hR
      have hp0 : pubN (hide0 zs lim sn) < sn + 1 := by
       have h1 : pubN (hide0 zs lim sn) ≤ (hide0 zs lim sn).length := List.count_le_length
       rw [hide0_len] at h1
       omega
      have HP0 := Lib.hid hp0
      clear hR hp0
      have hS0 : ∀ hs : List Bool, SolveOK N Ls Ls.length (solveR N Ls hs Ls.length) := fun hs => solve_ok hs HU.out.2.2.2 (fun k x hx => (HU.out.2.2.1.cell k x hx).2) Ls.length (Nat.le_refl _)
      have HSK := Lib.hid hS0
      have HDI := Lib.hid (fun (hs : List Bool) (k : Nat) => dB_of (det_iff (n := N) hs HU.out.2.2.2 (fun k x hx => (HU.out.2.2.1.cell k x hx).2) k))
      clear hS0
      go_loopg [14] (sn + 1) (fun g mv ws => ∃ hs : List Bool, HLoop w ws N sn B (HBk + 1) HBk ⟨sa, sn, sc⟩ ⟨va, sn, vc⟩ hs ∧ hideF (dB Ls) zs sn g hs = R ∧ pubN hs < g)
      case atStart => exact ⟨hide0 zs lim sn, HLL.out, HRR.out, HP0.out⟩
      case round =>
       obtain ⟨hs, hL, hH, hP⟩ := hrel
       obtain ⟨f, rfl⟩ : ∃ f, gk = f + 1 := ⟨gk - 1, by omega⟩
       have HHF := Lib.hid (And.intro hH hP)
       have HL1 := Lib.hid hL
       have hc1 := hL.ctx HU.out.2.2.1 H.out.1.vals HLN.out (HU.out.1.trans HLN.out) HU.out.2.2.2 hN
       have HC1 := Lib.hid hc1
       have y0 := hL.s0
       have y1 := hL.s1
       have y2 := hL.s2
       have y3 := hL.h0
       simp only [Sl.v] at y1 y2
       have hltW := hL.lt
       have hlx := lt_of_cell hL.h0
       clear hH hP hL hc1
       go_wp2_with fail
       refine (solve_c N sn ⟨sa, sn, sc⟩ ⟨va, sn, vc⟩ gs Ls (some ⟨HBk, 0, none⟩) sn hs _ HC1.out.ok HLN.out HU.out.2.2.2 hN HC1.out.bls).mono ?_
       rintro e w3 ⟨xb, rv, lv, bs, rfl, hS, hx3⟩
       have hL3 := HL1.out.next hx3
       have HS3 := Lib.hid (And.intro hS hx3)
       have hs3 := hx3.size
       obtain ⟨hv, hhv⟩ : ∃ k, w3.heap.size = k := ⟨_, rfl⟩
       have z1 := hL3.s1
       simp only [Sl.v] at z1
       have HL3 := Lib.hid hL3
       clear y0 y1 y2 y3 hS hx3 hL3
       go_upto_region 15 with (fail)
       have hvge : w.heap.size ≤ hv := by have := HL1.out.ext.size; omega
       have n1 : B ≠ hv := by omega
       have n2 : HBk + 1 ≠ hv := by omega
       have n3 : HBk ≠ hv := by omega
       refine wp_gen (fun W => Ext w3 W ∧ VarC W hv (.int .i64 (-1))) ⟨(Ext.refl w3).alloc _, (Blk.at _ 3 hhv.symm).cell 0, fun o => (Blk.at #[Value.int .i64 (-1)] 3 hhv.symm).free o⟩ ?_
       clear z1 hhv
       rintro w4 ⟨E4, V4⟩
       have HE4 := Lib.hid E4
       have HV4 := Lib.hid V4
       have hh4 : w3.heap.size ≤ hv ∨ True := .inr trivial
       have hw4 := lt_of_cell V4.1
       have z1 : w4.cell? ⟨B, 1, none⟩ = some (.slice sa sn sc) := (HL3.out.next E4).s1
       clear E4 V4 hh4
       go_upto_region 16 with (fail)
       clear z1
       go_loopw [56] (fun iv ws => ∃ i : Nat, i ≤ sn ∧ iv = .int .i64 (i : Int) ∧ (∀ j, j < i → (hs.getD j false && dB Ls hs j) = false) ∧ Ext w4 ws) (fun iv _ => sn - (intOf iv).toNat)
       case atStart => exact ⟨0, by omega, rfl, fun j hj => absurd hj (by omega), Ext.refl w4⟩
       case round =>
        obtain ⟨i, hi, rfl, hq, hE⟩ := hrel
        have HQ := Lib.hid hq
        have HE := Lib.hid hE
        have hL5 := HL3.out.next (HE4.out.trans hE)
        have HL5 := Lib.hid hL5
        have hV5 := HV4.out.ext hE
        have HV5 := Lib.hid hV5
        have hE3 := HE4.out.trans hE
        have HE3 := Lib.hid hE3
        clear hq hE
        by_cases hlt2 : i < sn
        ·obtain ⟨b', o', e1, _, hbc⟩ := hL5.bls.at i hlt2
         injection e1 with e1
         injection e1 with e1 e2
         subst e1; subst e2
         rw [Nat.zero_add] at hbc
         have x3 := hL5.h0
         have j0 : (0 : Int) ≤ (i : Int) := by omega
         have j1 : (i : Int) < (sn : Int) := by omega
         clear hL5 hV5 hE3
         cases hbi : hs.getD i false with
         | false =>
          rw [hbi] at hbc
          have HN := Lib.hid (show (hs.getD i false && dB Ls hs i) = false by rw [hbi]; rfl)
          clear hbi
          go_wp2_with fail
          go_roundw
          case rel => exact ⟨i + 1, by omega, by go_num, fun j hj => by
           by_cases e : j = i
           ·rw [e]; exact HN.out
           ·exact HQ.out j (by omega), HE.out⟩
          case measure => simp [intOf]; omega
         | true =>
          rw [hbi] at hbc
          have HBI := Lib.hid hbi
          clear hbi
          obtain ⟨d, hd⟩ : ∃ d, dB Ls hs i = d := ⟨_, rfl⟩
          have HD := Lib.hid hd
          clear hd
          cases d
          ·go_wp2_with fail; refine (det_c _ xb N (solveR N Ls hs Ls.length).length i ⟨sa, sn, sc⟩ ⟨va, sn, vc⟩ rv lv (solveR N Ls hs sn) bs gs Ls _ (HS3.out.1.ext HE3.out) (HC1.out.ok.ext (HS3.out.2.trans HE3.out)) hlt2 hN (by rw [HLN.out]; have := (HSK.out hs).sol; rw [HLN.out] at this; exact this) (HSK.out hs).le12).mono ?_; rw [show detB (solveR N Ls hs sn) N (Ls.getD i []) = false by rw [← HLN.out, HDI.out, HD.out]]; rintro e w6 ⟨rfl, hx6⟩
           have HX6 := Lib.hid (HE.out.trans hx6)
           have HN := Lib.hid (show (hs.getD i false && dB Ls hs i) = false by rw [HD.out]; simp)
           clear hx6 hbc x3
           go_wp2_with fail
           go_roundw
           case rel => exact ⟨i + 1, by omega, by go_num, fun j hj => by
            by_cases e : j = i
            ·rw [e]; exact HN.out
            ·exact HQ.out j (by omega), HX6.out⟩
           case measure => simp [intOf]; omega
          ·go_wp2_with fail; refine (det_c _ xb N (solveR N Ls hs Ls.length).length i ⟨sa, sn, sc⟩ ⟨va, sn, vc⟩ rv lv (solveR N Ls hs sn) bs gs Ls _ (HS3.out.1.ext HE3.out) (HC1.out.ok.ext (HS3.out.2.trans HE3.out)) hlt2 hN (by rw [HLN.out]; have := (HSK.out hs).sol; rw [HLN.out] at this; exact this) (HSK.out hs).le12).mono ?_; rw [show detB (solveR N Ls hs sn) N (Ls.getD i []) = true by rw [← HLN.out, HDI.out, HD.out]]; rintro e w6 ⟨rfl, hx6⟩
           have hV6 := HV5.out.ext hx6
           have v0 := hV6.1
           have v1 := hV6.2
           have hL6 := HL5.out.next hx6
           have hlv := lt_of_cell v0
           have HL6 := Lib.hid (hL6.var (x := .int .i64 (i : Int)) n1 n2 n3 hvge)
           have HW6 := Lib.hid (World.cell?_setCell_same w6 ⟨hv, 0, none⟩ (.int .i64 (i : Int)) v0)
           clear hx6 hbc x3 hV6 hL6
           go_upto_region 21 with (fail)
           refine wp_gen (fun W => HLoop w W N sn B (HBk + 1) HBk ⟨sa, sn, sc⟩ ⟨va, sn, vc⟩ hs ∧ W.cell? ⟨hv, 0, none⟩ = some (.int .i64 (i : Int))) ⟨HL6.out, HW6.out⟩ ?_
           clear HL6 HW6 v0 v1 hlv
           rintro w7 ⟨hL7, v0⟩
           have HC7 := Lib.hid (hL7.ctx HU.out.2.2.1 H.out.1.vals HLN.out (HU.out.1.trans HLN.out) HU.out.2.2.2 hN)
           have HL7 := Lib.hid hL7
           have HV7 := Lib.hid v0
           have HNX := Lib.hid (show nextF (dB Ls) hs sn = (i : Int) from firstF_some _ _ _ i (Nat.zero_le _) (by omega) (by rw [HBI.out, HD.out]; rfl) (fun j _ hj => HQ.out j hj))
           have hDet : Det Ls hs i := (dB_iff Ls hs i).1 HD.out
           have hit := item_cells (HU.out.2.1 i (by rw [HLN.out]; exact hlt2))
           have hpub := pub_of_det hDet hit.1 (fun x hx => (HU.out.2.2.1.cell i x hx).1)
           rw [HLN.out] at hpub
           have hmore := more_ok (Ls := Ls) (zs := zs) (h := i) (D := dB Ls) hpub
           clear hL7 hDet hit hpub
           obtain ⟨mo, hmo⟩ : ∃ mo : Nat, moreF (dB Ls) zs hs sn i = (mo : Int) := ⟨(moreF (dB Ls) zs hs sn i).toNat, by omega⟩
           rw [hmo] at hmore
           simp only [Int.toNat_natCast] at hmore
           have HMO := Lib.hid hmo
           have HMR := Lib.hid hmore
           have hmlt : mo < sn := by omega
           have HFF := Lib.hid (show hideF (dB Ls) zs sn (f + 1) hs = hideF (dB Ls) zs sn f (hs.set mo true) by
            show (if nextF (dB Ls) hs sn < 0 then hs else hideF (dB Ls) zs sn f (hs.set (moreF (dB Ls) zs hs sn (nextF (dB Ls) hs sn).toNat).toNat true)) = _
            rw [HNX.out, if_neg (by omega), Int.toNat_natCast, HMO.out, Int.toNat_natCast])
           have HPN := Lib.hid (pubN_set hs mo (by rw [HL7.out.bls.1]; exact hmlt) HMR.out.2.2)
           obtain ⟨a, ha⟩ : ∃ a, bestF zs hs (stillF Ls hs i) sn = a := ⟨_, rfl⟩
           have hmd : moreF (dB Ls) zs hs sn i = if a < 0 then bestF zs hs (fun _ => true) sn else a := by rw [← ha]; rfl
           have HAA := Lib.hid ha
           have m0 : (0 : Int) ≤ (mo : Int) := by omega
           have m1 : (mo : Int) < (sn : Int) := by omega
           clear hmo hmore ha
           by_cases hneg : a < 0
           ·rw [if_pos hneg] at hmd
            have HMD := Lib.hid (hmd.symm.trans HMO.out)
            clear hmd
            go_wp2_with fail
            refine (best2_c N sn B (HBk + 1) HBk hv i ⟨sa, sn, sc⟩ ⟨va, sn, vc⟩ gs Ls zs hs _ HC7.out HV7.out hlt2 hs1).mono ?_
            rw [HAA.out]
            rintro e w8 ⟨rfl, hx8⟩
            have HX8 := Lib.hid hx8
            clear hx8 v0
            go_wp2_with fail
            refine (best3_c N sn B (HBk + 1) HBk ⟨sa, sn, sc⟩ ⟨va, sn, vc⟩ gs Ls zs hs _ (HC7.out.ext HX8.out) hs1).mono ?_
            rw [HMD.out]
            rintro e w9 ⟨rfl, hx9⟩
            have HX9 := Lib.hid (HX8.out.trans hx9)
            clear hx9
            have HL9 := Lib.hid (HL7.out.next HX9.out); have x3 := HL9.out.h0; obtain ⟨b', o', e1, _, hbc⟩ := HL9.out.bls.at mo hmlt; injection e1 with e1; injection e1 with e1 e2; subst e1; subst e2; rw [Nat.zero_add] at hbc; have hfr := HL9.out.free; go_wp2_with fail; go_roundg f; (case measure => omega); (case rel => exact ⟨hs.set mo true, HL9.out.put hmlt hne1 hne2, by rw [← HFF.out]; exact HHF.out.1, by have := HPN.out; have := HHF.out.2; omega⟩)
           ·rw [if_neg hneg] at hmd
            have HMD := Lib.hid (hmd.symm.trans HMO.out)
            clear hmd
            go_wp2_with fail
            refine (best2_c N sn B (HBk + 1) HBk hv i ⟨sa, sn, sc⟩ ⟨va, sn, vc⟩ gs Ls zs hs _ HC7.out HV7.out hlt2 hs1).mono ?_
            rw [HAA.out, HMD.out]
            rintro e w9 ⟨rfl, hx9⟩
            have HX9 := Lib.hid hx9
            clear hx9 v0 hneg
            have HL9 := Lib.hid (HL7.out.next HX9.out); have x3 := HL9.out.h0; obtain ⟨b', o', e1, _, hbc⟩ := HL9.out.bls.at mo hmlt; injection e1 with e1; injection e1 with e1 e2; subst e1; subst e2; rw [Nat.zero_add] at hbc; have hfr := HL9.out.free; go_wp2_with fail; go_roundg f; (case measure => omega); (case rel => exact ⟨hs.set mo true, HL9.out.put hmlt hne1 hne2, by rw [← HFF.out]; exact HHF.out.1, by have := HPN.out; have := HHF.out.2; omega⟩)
        ·obtain rfl : sn = i := by omega
         have v0 := hV5.1
         have x3 := hL5.h0
         have HF := Lib.hid (show nextF (dB Ls) hs sn = -1 from firstF_none _ _ _ (fun j _ hj => HQ.out j (by omega)))
         have HFF := Lib.hid (show hideF (dB Ls) zs sn (f + 1) hs = hs by
          show (if nextF (dB Ls) hs sn < 0 then hs else _) = hs
          rw [if_pos (by rw [HF.out]; omega)])
         clear hL5 hV5 hE3
         go_wp2_with fail
         go_ret2
         exact .inr ⟨by first | rfl | trivial, HBk, rfl, by rw [HRR.out, ← HHF.out.1, HFF.out]; exact HL5.out.bls, HL5.out.ext⟩
 ·have HR := Lib.hid (show hideE n Ls zs lim = v by rw [hE, if_pos c1])
  have c1' : (v == 0) = false := by rw [beq_eq_false_iff_ne]; exact c1
  have HC1 := Lib.hid c1
  rw [HR.out]
  clear c1 hE hv
  go_enter Try.func20, Try.ntmps20; go_upto_region 1 with (fail); refine wp_gen (fun W => Ext w W ∧ Blk W B #[.int .i64 n, .slice sa sn sc, .slice va vn vc] 31 ∧ W.heap.size = B + 1) ⟨(by repeat (first | exact Ext.refl _ | assumption | refine Ext.setCell ?_ (by first | (simp; done) | (simp; omega) | omega) _ | refine Ext.alloc ?_ _ | refine Ext.drew ?_ | refine Ext.trans ?_ (by assumption))), Blk.at _ 31 hB.symm, by simp [hB]⟩ ?_; rintro V ⟨E0, B0, hVs⟩; have HB := Lib.hid (And.intro E0 B0); have x0 : V.cell? ⟨B, 0, none⟩ = some (.int .i64 n) := B0.cell 0; have x1 : V.cell? ⟨B, 1, none⟩ = some (.slice sa sn sc) := B0.cell 1; have x2 : V.cell? ⟨B, 2, none⟩ = some (.slice va vn vc) := B0.cell 2; clear E0 B0; go_wp2_with fail; refine (Valid_c n ⟨sa, sn, sc⟩ ⟨va, vn, vc⟩ gs Ls zs _ (H.out.1.ext HB.out.1)).mono ?_; rw [HV.out]; rintro e w2 ⟨rfl, hx2⟩; have HX := Lib.hid (HB.out.1.trans hx2); have y0 : w2.cell? ⟨B, 0, none⟩ = some (.int .i64 n) := hx2.cell x0; have y1 : w2.cell? ⟨B, 1, none⟩ = some (.slice sa sn sc) := hx2.cell x1; have y2 : w2.cell? ⟨B, 2, none⟩ = some (.slice va vn vc) := hx2.cell x2; have hs2 := hx2.size; clear x0 x1 x2 hx2
  go_wp2_with fail
  go_ret2
  exact .inl ⟨HC1.out, rfl, HX.out⟩
end Go.Proofs.Ytkoidookanmknaa
