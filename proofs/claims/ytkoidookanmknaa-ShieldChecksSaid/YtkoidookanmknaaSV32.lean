/- V28 V29 V30 V31 V32: several texts of this proof in one. -/
import Derived.Test.YtkoidookanmknaaSV27
namespace Go.Proofs.Ytkoidookanmknaa
set_option linter.unusedSimpArgs false
set_option linter.unusedVariables false
open Go.RowKit

set_option maxRecDepth 100000 in
set_option maxHeartbeats 4000000 in
theorem Some_c (a0 : Option Addr) (n c : Nat) (xs : List Int) (w : World) (h : Ints w a0 n xs) :
  Calls Try.prog 10 #[.slice a0 n c] w fun e w' => Ext w w' ∧ ∃ (N : Nat) (ss vs : Sl) (gs : List Sl) (Ls : List (List Int)) (zs : List Int), e = .returned (.agg #[.int .i64 N, ss.v, vs.v]) ∧ ShIn w' N ss vs gs Ls zs ∧ validE N Ls zs = 0 ∧ 1 ≤ N ∧ N ≤ 6 ∧ 1 ≤ Ls.length ∧ Ls.length ≤ 9 := by
 obtain ⟨i0, hi0, hz0, hz1, hz2⟩ := info_parts intInfo
 obtain ⟨j0, hj0, hy0, hy1, hy2⟩ := info_parts intsInfo
 have H := Lib.hid h
 clear h
 obtain ⟨B, hB⟩ : ∃ B, w.heap.size = B := ⟨_, rfl⟩
 go_enter Try.func10, Try.ntmps10
 go_wp2_with fail
 refine (pick_c a0 n c xs _ 0 _ _ (H.out.keep (Ext.ik (by repeat (first | exact Ext.refl _ | assumption | refine Ext.setCell ?_ (by first | (simp; done) | (simp; omega) | omega) _ | refine Ext.alloc ?_ _ | refine Ext.drew ?_ | refine Ext.trans ?_ (by assumption))))) rfl (by omega) (by omega) (by omega)).mono ?_
 rintro e w2 ⟨rfl, rfl⟩
 have hp := pickF_bd xs 0 6 (by omega)
 obtain ⟨p, hpe⟩ : ∃ p, pickF xs 0 6 = p := ⟨_, rfl⟩
 rw [hpe] at hp ⊢
 clear hpe
 obtain ⟨N, hN⟩ : ∃ N : Nat, p = (N : Int) - 1 := ⟨(p + 1).toNat, by omega⟩
 subst hN
 go_wp2_with fail
 refine (pick_c a0 n c xs _ 1 _ _ (H.out.keep (Ext.ik (by repeat (first | exact Ext.refl _ | assumption | refine Ext.setCell ?_ (by first | (simp; done) | (simp; omega) | omega) _ | refine Ext.alloc ?_ _ | refine Ext.drew ?_ | refine Ext.trans ?_ (by assumption))))) rfl (by omega) (by omega) (by omega)).mono ?_
 rintro e w2 ⟨rfl, rfl⟩
 have hq := pickF_bd xs 1 9 (by omega)
 obtain ⟨q, hqe⟩ : ∃ q, pickF xs 1 9 = q := ⟨_, rfl⟩
 rw [hqe] at hq ⊢
 clear hqe
 obtain ⟨M, hM⟩ : ∃ M : Nat, q = (M : Int) - 1 := ⟨(q + 1).toNat, by omega⟩
 subst hM
 go_upto_region 3 with (fail)
 have e1 : (1 : Int) + ((N : Int) - 1) = (N : Int) := by omega
 have e2 : (1 : Int) + ((M : Int) - 1) = (M : Int) := by omega
 simp only [e1, e2]
 go_wp2_with fail
 go_loopw [5] (fun v ws => ∃ (i : Nat) (vS vV : Value) (gs : List Sl) (Ls : List (List Int)) (zs : List Int), i ≤ M ∧ v = .int .i64 (i : Int) ∧ SmI w ws B N i vS vV gs Ls zs) (fun v _ => M - (intOf v).toNat)
 case atStart =>
  exact ⟨0, _, _, [], [], [], by omega, rfl, ⟨(by repeat (first | exact Ext.refl _ | assumption | refine Ext.setCell ?_ (by first | (simp; done) | (simp; omega) | omega) _ | refine Ext.alloc ?_ _ | refine Ext.drew ?_ | refine Ext.trans ?_ (by assumption))), (Blk.at _ _ hB.symm).alloc _, Blk.at _ _ (by simp [hB]), GSh.nil _ _, rfl, rfl, fun k hk => absurd hk (by omega), fun k hk => absurd hk (by omega)⟩⟩
 case round =>
  obtain ⟨i, vS, vV, gs, Ls, zs, hi, rfl, hI⟩ := hrel
  have x0 : wr.cell? ⟨B + 1, 0, none⟩ = some (.int .i64 (N : Int)) := hI.box.cell 0
  have HI := Lib.hid hI
  clear hI
  by_cases hlt : i < M
  ·go_wp2_with fail
   refine (pick_c a0 n c xs _ (8 + i) _ _ (H.out.keep (HI.out.ext.ik)) (by omega) (by omega) (by omega) (by omega)).mono ?_
   rintro e w2 ⟨rfl, rfl⟩
   have hk := pickF_bd xs (8 + i) 1048576 (by omega)
   obtain ⟨kz, hke⟩ : ∃ kz, pickF xs (8 + i) 1048576 = kz := ⟨_, rfl⟩
   rw [hke] at hk ⊢
   clear hke
   obtain ⟨K, rfl⟩ : ∃ K : Nat, kz = (K : Int) := ⟨kz.toNat, by omega⟩
   go_wp2_with fail
   go_loopw [7, 8] (fun sv v ws => ∃ (j : Nat) (P : List Int), j ≤ N ∧ v = .int .i64 (j : Int) ∧ VRow ws wr.heap.size sv P ∧ SetOK j P ∧ P.length ≤ j ∧ Ext wr ws) (fun _ v _ => N - (intOf v).toNat)
   case atStart => exact ⟨0, [], by omega, rfl, VRow.nil _ _, SetOK.nil _, by simp, Ext.refl _⟩
   case round =>
    rename World => ws
    obtain ⟨j, P, hj, rfl, hV, hP, hPl, hE⟩ := hrel
    have y0 : ws.cell? ⟨B + 1, 0, none⟩ = some (.int .i64 (N : Int)) := hE.cell x0
    have HV := Lib.hid (And.intro hV (And.intro hP hE))
    clear hV hP hE
    by_cases hjl : j < N
    ·have h64 : Int64 (j : Int) := ⟨by omega, by omega⟩
     have HNW := Lib.hid (ints_news (ints_one ws j h64) (by omega))
     have hsz := HV.out.2.2.size
     have HR := Lib.hid (fun g2 cap w1 (hown : w1.ownsRow wr.heap.size 3 1 (.slice (some ⟨g2, 0, none⟩) (P.length + 1) cap) (P.length + 1) (ivals P ++ ivals [(j : Int)])) (hgrow : (ws.alloc (.cells #[.int .i64 (j : Int)] 3)).grownBy w1 u7.ownBlock) =>
      (show VRow w1 wr.heap.size (.slice (some ⟨g2, 0, none⟩) (P.length + 1) cap) (P ++ [(j : Int)]) ∧ Ext wr w1 from ⟨VRow.app rfl hown, ext_grown (HV.out.2.2.alloc _) hgrow (fun g hg => (owns_lt HV.out.1 hg).1)⟩))
     clear h64
     go_wp2_with (at_builtin; refine wpList_append_lies _ rfl _ _ _ rfl wr.heap.size 3 i0 _ 1 8 Try.underlying22 hi0 hz0 hz1 hz2 rfl (by omega) _ _ _ rfl (VRow.ext ((Ext.refl ws).alloc _) HV.out.1) ⟨ws.heap.size, 0, none⟩ 1 1 (ivals [(j : Int)]) rfl rfl HNW.out (ivals_one _) (by omega) (by rw [maxLen]; omega) (by omega) (by simp; omega) _ rfl ?_)
     all_goals first
      | exact ⟨⟨j + 1, P, by omega, by go_num, HV.out.1, HV.out.2.1.up (by omega), by omega, HV.out.2.2⟩, by simp [intOf]; omega⟩
      | (intro g2 cap w1 hown hgrow hat hlt1; have HR2 := Lib.hid (HR.out g2 cap w1 hown hgrow); clear hown hgrow hat; go_wp2_with fail; go_roundw; (case rel => exact ⟨j + 1, P ++ [(j : Int)], by omega, by go_num, HR2.out.1, HV.out.2.1.add (by omega), by simp; omega, HR2.out.2⟩); (case measure => simp [intOf]; omega))
    ·obtain rfl : j = N := by omega
     obtain ⟨a7, c7, rfl, hI7⟩ := HV.out.1.ints (by omega) (fun k hk => by have := HV.out.2.1.2 _ (List.getElem_mem hk); rw [getD_get hk]; exact ⟨by omega, by omega⟩)
     have HI7 := Lib.hid hI7
     clear hI7
     obtain ⟨m, hm⟩ : ∃ m, P.length = m := ⟨_, rfl⟩
     have HM := Lib.hid hm
     rw [hm] at HV HI7 ⊢
     rw [hm] at hPl
     clear hm
     go_upto_if 59 with (fail)
     go_cut [7] from 18 to 101 (fun sv wx => ∃ L : List Int, VRow wx wr.heap.size sv L ∧ SetOK j L ∧ L.length ≠ 0 ∧ L.length ≤ j ∧ Ext wr wx)
     case first =>
      by_cases hm0 : m = 0
      ·subst hm0
       go_wp2_with fail
       go_meet
       case rel =>
        have hb := Int.tmod_nonneg (a := (K : Int) / 64) (j : Int) (by omega)
        have hb2 := Int.tmod_lt_of_pos ((K : Int) / 64) (b := (j : Int)) (by omega)
        exact ⟨_, VRow.one _ HV.out.2.2.size, SetOK.one hb hb2, by simp, by simp; omega, HV.out.2.2.alloc _⟩
      ·go_wp2_with fail
       go_meet
       case rel => exact ⟨P, HV.out.1, HV.out.2.1, by rw [HM.out]; exact hm0, by rw [HM.out]; exact hPl, HV.out.2.2⟩
     case rest =>
      obtain ⟨L, hV2, hL, hL0, hLl, hE2⟩ := hcut
      have y2 : wc.cell? ⟨B + 1, 0, none⟩ = some (.int .i64 (j : Int)) := hE2.cell x0
      have HV2 := Lib.hid (And.intro hV2 (And.intro hL hE2))
      have HL0 := Lib.hid (And.intro hL0 hLl)
      clear hV2 hL hE2 HV y0 hL0 hLl
      go_upto_if 68 with (fail)
      go_cut [7] from 18 to 101 (fun sv wx => ∃ L : List Int, VRow wx wr.heap.size sv L ∧ SetOK j L ∧ L.length ≠ 0 ∧ L.length ≤ j ∧ Ext wr wx)
      case first =>
       by_cases h5 : (K : Int) % 5 = 0
       ·go_wp2_with fail
        go_meet
        case rel =>
         have hb := Int.tmod_nonneg (a := (K : Int) / 64) (j : Int) (by omega)
         have hb2 := Int.tmod_lt_of_pos ((K : Int) / 64) (b := (j : Int)) (by omega)
         exact ⟨_, VRow.one _ HV2.out.2.2.size, SetOK.one hb hb2, by simp, by simp; omega, HV2.out.2.2.alloc _⟩
       ·go_wp2_with fail
        go_meet
        case rel => exact ⟨L, HV2.out.1, HV2.out.2.1, HL0.out.1, HL0.out.2, HV2.out.2.2⟩
      case rest =>
       clear HV2 HL0 y2
       obtain ⟨L, hV2, hL, hL0, hLl, hE2⟩ := hcut
       obtain ⟨a7, c7, rfl, hI7⟩ := hV2.ints (by omega) (fun k hk => by have := hL.2 _ (List.getElem_mem hk); rw [getD_get hk]; exact ⟨by omega, by omega⟩)
       obtain ⟨m, hm⟩ : ∃ m, L.length = m := ⟨_, rfl⟩
       have hbd : ∀ k, k < m → 0 ≤ L.getD k 0 ∧ L.getD k 0 < (j : Int) := fun k hk => by rw [getD_get (by omega)]; exact hL.2 _ (List.getElem_mem (by omega))
       have HV2 := Lib.hid (And.intro hV2 (And.intro hL hE2))
       rw [hm] at HV2 hI7 hL0 hLl ⊢
       have HI7 := Lib.hid (And.intro hI7 (And.intro hm hbd))
       clear hV2 hL hE2 hI7 hm hbd
       go_upto_region 18 with (fail)
       go_wp2_with fail
       go_loopw [9, 10] (fun sv v ws => ∃ (q : Nat) (s : Int), q ≤ m ∧ v = .int .i64 (q : Int) ∧ sv = .int .i64 s ∧ 0 ≤ s ∧ s ≤ 8 * q ∧ Ext wc ws) (fun _ v _ => m - (intOf v).toNat)
       case atStart => exact ⟨0, 0, by omega, rfl, rfl, by omega, by omega, Ext.refl _⟩
       case round =>
        rename World => ws
        obtain ⟨q, s, hq, rfl, rfl, hs0, hs1, hE3⟩ := hrel
        have HE3 := Lib.hid hE3
        clear hE3
        by_cases hql : q < m
        ·obtain ⟨b7, o7, rfl, hb7, hc7⟩ := (HI7.out.1.keep HE3.out.ik).at q hql
         have hx := HI7.out.2.2 q hql
         obtain ⟨X, hX⟩ : ∃ X : Nat, L.getD q 0 = (X : Int) := ⟨(L.getD q 0).toNat, by omega⟩
         rw [hX] at hc7 hx
         clear hX
         have t0 : (q : Int) < (m : Int) := by omega
         go_wp2_with fail
         refine (pick_c a0 n c xs _ (2 + X) _ _ (H.out.keep ((HI.out.ext.trans (HV2.out.2.2.trans HE3.out)).ik)) (by omega) (by omega) (by omega) (by omega)).mono ?_
         rintro e w2 ⟨rfl, rfl⟩
         have hk := pickF_bd xs (2 + X) 9 (by omega)
         obtain ⟨kz, hke⟩ : ∃ kz, pickF xs (2 + X) 9 = kz := ⟨_, rfl⟩
         rw [hke] at hk ⊢
         clear hke hc7
         go_wp2_with fail
         go_roundw
         case rel => exact ⟨q + 1, s + kz, by omega, by go_num, rfl, by omega, by omega, HE3.out⟩
         case measure => simp [intOf]; omega
        ·obtain rfl : q = m := by omega
         obtain ⟨g, cap, e, hgb, hgl⟩ := World.ownsRow.form HV2.out.1 (by rw [HI7.out.2.1]; omega)
         injection e with e1' e2' e3'
         subst e1'; subst e3'
         clear e2'
         have HSB := Lib.hid ((HI.out.b hB).keep (HV2.out.2.2.trans HE3.out))
         have z1 : ws.cell? ⟨B + 1, 1, none⟩ = some vS := HSB.out.box.cell 1
         have hnl := HI.out.nl
         have hnz := HI.out.nz
         have hLl9 : Ls.length ≤ 9 := by omega
         have hzl9 : zs.length ≤ 9 := by omega
         have hgs : g < (ws.alloc (.cells #[.slice (some ⟨g, 0, none⟩) q c7] 22)).heap.size := by
          have := HE3.out.size
          rw [World.size_alloc]; omega
         have hbs := HSB.out.box.lt
         clear hnl hnz
         go_upto_region 22 with (fail)
         go_wp2_with (at_builtin; refine wpList_append_lies _ rfl _ _ _ rfl (B + 1 + 1) 22 j0 _ 1 24 Try.underlying23 hj0 hy0 hy1 hy2 rfl (by omega) _ Ls.length (gs.map Sl.v) rfl (owns_ext ((Ext.refl ws).alloc _) HSB.out.own.S) ⟨ws.heap.size, 0, none⟩ 1 1 [.slice (some ⟨g, 0, none⟩) q c7] rfl rfl (World.news_of_block (cs := #[.slice (some ⟨g, 0, none⟩) q c7]) (t := 22) (fr := (0, 0)) (heap_alloc_new ws _)) (by simp [Value.oneCell']) (by omega) (by rw [maxLen]; omega) (by omega) (by simp; omega) _ rfl ?_)
         intro g2 cap2 w1 hown hgrow hat hlt1
         have hgb2 := hgb
         obtain ⟨t1, t2, hS2⟩ := (HSB.out.keep ((Ext.refl ws).alloc _)).addS ((HI7.out.1.keep HE3.out.ik).keep ((Ext.refl ws).alloc _).ik) (by have := HI.out.box.lt; omega) hgs (fun e => by have := (owns_lt HI.out.own.S e).2; omega) (fun e => by have := (owns_lt HI.out.own.V e).2; omega) hown hgrow (by rw [World.size_alloc]; exact hat)
         have HS2 := Lib.hid hS2
         clear hown hgrow hat hS2 z1
         go_upto_region 23 with (fail)
         refine wp_gen (fun W => SoB w W B j (.slice (some ⟨g2, 0, none⟩) (Ls.length + 1) cap2) vV (gs ++ [⟨some ⟨g, 0, none⟩, q, c7⟩]) (Ls ++ [L]) zs) HS2.out ?_
         clear HS2 t1 t2 hlt1
         intro W2 hS2
         have HS2 := Lib.hid hS2
         have z1 : W2.cell? ⟨B + 1, 2, none⟩ = some vV := hS2.box.cell 2
         have hbs2 := hS2.box.lt
         clear hS2
         have hs64 : Int64 s := ⟨by omega, by omega⟩
         have HNW := Lib.hid (ints_news (ints_one W2 s hs64) (by omega))
         go_wp2_with (at_builtin; refine wpList_append_lies _ rfl _ _ _ rfl (B + 1 + 1) 3 i0 _ 1 8 Try.underlying22 hi0 hz0 hz1 hz2 rfl (by omega) _ zs.length (ivals zs) rfl (owns_ext ((Ext.refl W2).alloc _) HS2.out.own.V) ⟨W2.heap.size, 0, none⟩ 1 1 (ivals [s]) rfl rfl HNW.out (ivals_one _) (by omega) (by rw [maxLen]; omega) (by omega) (by simp; omega) _ rfl ?_)
         intro g3 cap3 w3 hown hgrow hat hlt1
         obtain ⟨t1, t2, hS3⟩ := (HS2.out.keep ((Ext.refl W2).alloc _)).addV hown hgrow (by rw [World.size_alloc]; exact hat)
         have HS3 := Lib.hid (HI.out.next hS3 HV2.out.2.1 (by rw [HI7.out.2.1]; omega) ⟨by omega, by omega⟩)
         clear hown hgrow hat hS3 z1
         go_wp2_with fail
         go_roundw
         case rel => exact ⟨i + 1, _, _, _, _, _, by omega, by go_num, HS3.out⟩
         case measure => simp [intOf]; omega
  ·obtain rfl : i = M := by omega
   have hnl := HI.out.nl
   have hnz := HI.out.nz
   have hshin : ∀ W, GSh W (B + 1 + 1) vS vV gs Ls zs → ∃ ss vs : Sl, vS = ss.v ∧ vV = vs.v ∧ ss.n = Ls.length ∧ vs.n = zs.length ∧ ShIn W N ss vs gs Ls zs := fun W hW =>
    hW.shin (by omega) (by omega) (fun k hk => by have := HI.out.bd k (by omega); exact ⟨by omega, by omega⟩) (fun k => by
     by_cases hk : k < Ls.length
     ·have := (HI.out.ok k (by omega)).1.len; omega
     ·rw [List.getD_eq_getElem?_getD, List.getElem?_eq_none (by omega)]; simp)
   have hval : validE N Ls zs = 0 := validE_ok (by omega) (by omega) (by omega) (by omega) (fun k hk => by
    obtain ⟨ok1, ok2⟩ := HI.out.ok k (by omega)
    have hb := HI.out.bd k (by omega)
    exact itemBad_no ok2 (by omega) (by omega) (fun q hq => ok1.cells q hq))
   obtain ⟨⟨sa, sn, sc⟩, ⟨va, vn, vc⟩, rfl, rfl, g1, g2, g3⟩ := hshin wr HI.out.own
   clear g1 g2 g3
   have HF := Lib.hid (And.intro hshin (And.intro hval hnl))
   clear hshin hval hnl hnz
   have x1 : wr.cell? ⟨B + 1, 1, none⟩ = some (.slice sa sn sc) := HI.out.box.cell 1
   have x2 : wr.cell? ⟨B + 1, 2, none⟩ = some (.slice va vn vc) := HI.out.box.cell 2
   have r0 : wr.cell? ⟨B, 0, none⟩ = some (.int .i64 0) := HI.out.res.cell 0
   have r1 : wr.cell? ⟨B, 1, none⟩ = some (.slice none 0 0) := HI.out.res.cell 1
   have r2 : wr.cell? ⟨B, 2, none⟩ = some (.slice none 0 0) := HI.out.res.cell 2
   have f0 : wr.frozen? ⟨B, 0, none⟩ = false := HI.out.res.free 0
   have f1 : wr.frozen? ⟨B, 1, none⟩ = false := HI.out.res.free 1
   have f2 : wr.frozen? ⟨B, 2, none⟩ = false := HI.out.res.free 2
   go_wp2_with fail
   have hbl := ((HI.out.res.set 0 (.int .i64 (N : Int))).set 1 (.slice sa sn sc)).set 2 (.slice va vn vc)
   have q0 := hbl.cell 0
   have q1 := hbl.cell 1
   have q2 := hbl.cell 2
   simp at q0 q1 q2
   refine bodyPost_ret (v := .agg #[.int .i64 (N : Int), .slice sa sn sc, .slice va vn vc]) (by simp [results, Try.results10, go_sem, q0, q1, q2]) rfl ?_
   obtain ⟨ss, vs, e1, e2, _, _, hSh⟩ := HF.out.1 _ (((HI.out.own.low (b := B) (o := 0) (u := .int .i64 (N : Int)) (by omega)).low (b := B) (o := 1) (u := .slice sa sn sc) (by omega)).low (b := B) (o := 2) (u := .slice va vn vc) (by omega))
   have hE := HI.out.ext
   have hE3 : Ext w (((wr.setCell ⟨B, 0, none⟩ (.int .i64 (N : Int))).setCell ⟨B, 1, none⟩ (.slice sa sn sc)).setCell ⟨B, 2, none⟩ (.slice va vn vc)) := ((hE.setCell (by simp; omega) _).setCell (by simp; omega) _).setCell (by simp; omega) _
   have he : Ending.returned (.agg #[.int .i64 (N : Int), .slice sa sn sc, .slice va vn vc]) = .returned (.agg #[.int .i64 (N : Int), ss.v, vs.v]) := by
    rw [← e1, ← e2]
   exact ⟨hE3, N, ss, vs, gs, Ls, zs, he, hSh, HF.out.2.1, by omega, by omega, by rw [HF.out.2.2]; omega, by rw [HF.out.2.2]; omega⟩
end Go.Proofs.Ytkoidookanmknaa
namespace Go.Proofs.Ytkoidookanmknaa
set_option linter.unusedSimpArgs false
set_option linter.unusedVariables false
open Go.RowKit

set_option maxRecDepth 100000 in
set_option maxHeartbeats 4000000 in
theorem own_c (n : Int) (ss vs : Sl) (w : World) :
    Calls Try.prog 13 #[.agg #[.int .i64 n, ss.v, vs.v]] w fun e w' => e = .returned (.agg #[.int .i64 n, ss.v, vs.v]) ∧ Ext w w' := by
  obtain ⟨sa, sn, sc⟩ := ss
  obtain ⟨va, vn, vc⟩ := vs
  simp only [Sl.v]
  obtain ⟨B, hB⟩ : ∃ B, w.heap.size = B := ⟨_, rfl⟩
  go_enter Try.func13, Try.ntmps13
  go_upto_region 1 with (fail)
  refine wp_gen (fun W => Ext w W ∧ Blk W B #[.int .i64 n, .slice sa sn sc, .slice va vn vc] 25 ∧ Blk W (B + 1) #[.int .i64 0, .slice none 0 0, .slice none 0 0] 31) ⟨(by repeat (first | exact Ext.refl _ | assumption | refine Ext.setCell ?_ (by first | (simp; done) | (simp; omega) | omega) _ | refine Ext.alloc ?_ _ | refine Ext.drew ?_ | refine Ext.trans ?_ (by assumption))), (Blk.at _ _ hB.symm).alloc _, Blk.at _ _ (by simp [hB])⟩ ?_
  rintro V ⟨E0, B0, B1⟩
  have x0 : V.cell? ⟨B, 0, none⟩ = some (.int .i64 n) := B0.cell 0
  have x1 : V.cell? ⟨B, 1, none⟩ = some (.slice sa sn sc) := B0.cell 1
  have x2 : V.cell? ⟨B, 2, none⟩ = some (.slice va vn vc) := B0.cell 2
  have r0 : V.cell? ⟨B + 1, 0, none⟩ = some (.int .i64 0) := B1.cell 0
  have r1 : V.cell? ⟨B + 1, 1, none⟩ = some (.slice none 0 0) := B1.cell 1
  have r2 : V.cell? ⟨B + 1, 2, none⟩ = some (.slice none 0 0) := B1.cell 2
  have f0 : V.frozen? ⟨B + 1, 0, none⟩ = false := B1.free 0
  have f1 : V.frozen? ⟨B + 1, 1, none⟩ = false := B1.free 1
  have f2 : V.frozen? ⟨B + 1, 2, none⟩ = false := B1.free 2
  have HB := Lib.hid (And.intro E0 B1)
  clear E0 B0 B1
  go_wp2_with fail
  have hbl := ((HB.out.2.set 0 (.int .i64 n)).set 1 (.slice sa sn sc)).set 2 (.slice va vn vc)
  have q0 := hbl.cell 0
  have q1 := hbl.cell 1
  have q2 := hbl.cell 2
  simp at q0 q1 q2
  refine bodyPost_ret (v := .agg #[.int .i64 n, .slice sa sn sc, .slice va vn vc]) (by simp [results, Try.results13, go_sem, q0, q1, q2]) rfl ?_
  exact ⟨rfl, ((HB.out.1.setCell (by simp; omega) _).setCell (by simp; omega) _).setCell (by simp; omega) _⟩
/-- Which sets are hidden. -/
def hidF (k : Int) (i : Nat) : List Bool := (List.range i).map fun j => (aroundF k 1048576 / 2 ^ (j % 20)).tmod 2 == 1
theorem hidF_length (k : Int) (i : Nat) : (hidF k i).length = i := by simp [hidF]
theorem hidF_succ (k : Int) (i : Nat) : hidF k (i + 1) = hidF k i ++ [(aroundF k 1048576 / 2 ^ (i % 20)).tmod 2 == 1] := by simp [hidF, List.range_succ]
set_option maxRecDepth 100000 in
set_option maxHeartbeats 4000000 in
theorem Hidden_c (n k : Int) (ss vs : Sl) (w : World) (hk : Int64 k) (hn : ss.n ≤ 100000) :
    Calls Try.prog 15 #[.agg #[.int .i64 n, ss.v, vs.v], .int .i64 k] w fun e w' => ∃ a c, e = .returned (.slice a ss.n c) ∧ Bls w' a ss.n (hidF k ss.n) ∧ Ext w w' := by
  obtain ⟨i0, hi0, hz0, hz1, hz2⟩ := info_parts boolInfo
  obtain ⟨sa, sn, sc⟩ := ss
  obtain ⟨va, vn, vc⟩ := vs
  simp only [Sl.v] at hn ⊢
  obtain ⟨B, hB⟩ : ∃ B, w.heap.size = B := ⟨_, rfl⟩
  have H := Lib.hid hk
  clear hk
  go_enter Try.func15, Try.ntmps15
  go_upto_region 1 with (fail)
  refine wp_gen (fun W => Ext w W ∧ Blk W B #[.int .i64 n, .slice sa sn sc, .slice va vn vc] 25) ⟨(by repeat (first | exact Ext.refl _ | assumption | refine Ext.setCell ?_ (by first | (simp; done) | (simp; omega) | omega) _ | refine Ext.alloc ?_ _ | refine Ext.drew ?_ | refine Ext.trans ?_ (by assumption))), (Blk.at _ _ hB.symm)⟩ ?_
  rintro V ⟨E0, B0⟩
  have x1 : V.cell? ⟨B, 1, none⟩ = some (.slice sa sn sc) := B0.cell 1
  have HB := Lib.hid (And.intro E0 B0)
  clear B0
  go_wp2_with fail
  refine (around_c _ _ _ (by omega) (by omega) H.out).mono ?_
  rintro e w2 ⟨rfl, rfl⟩
  have hq := aroundF_bd k 1048576 (by omega)
  obtain ⟨kz, hkz⟩ : ∃ kz, aroundF k 1048576 = kz := ⟨_, rfl⟩
  rw [hkz] at hq ⊢
  have HK := Lib.hid hkz
  clear hkz
  obtain ⟨K, rfl⟩ : ∃ K : Nat, kz = (K : Int) := ⟨kz.toNat, by omega⟩
  go_wp2_with fail
  go_loopw [6, 7] (fun sv v ws => ∃ i : Nat, i ≤ sn ∧ v = .int .i64 (i : Int) ∧ ws.ownsRow V.heap.size 4 1 sv i (bvals (hidF k i)) ∧ Ext V ws) (fun _ v _ => sn - (intOf v).toNat)
  case atStart => exact ⟨0, by omega, rfl, ⟨rfl, .inl ⟨rfl, rfl⟩⟩, Ext.refl _⟩
  case round =>
    obtain ⟨i, hi, rfl, hO, hE⟩ := hrel
    have y1 : wr.cell? ⟨B, 1, none⟩ = some (.slice sa sn sc) := hE.cell x1
    have HO := Lib.hid (And.intro hO hE)
    clear hO hE
    by_cases hlt : i < sn
    · have hnews : ∀ x : Bool, ∀ (j : Nat) (u : Value), (bvals [x])[j]? = some u → (wr.alloc (.cells #[.bool x] 4)).cell? ((⟨wr.heap.size, 0, none⟩ : Addr).add j) = some u := fun x =>
        bls_news (n := 1) ⟨rfl, .inr ⟨_, 0, rfl, by simp, fun j hj => by obtain rfl : j = 0 := by omega
                                                                         exact (Blk.at (w := wr) #[.bool x] 4 rfl).cell 0⟩⟩ (by omega)
      have HN := Lib.hid hnews
      have hbs := HO.out.2.size
      have hbl := HB.out.2.lt
      clear hnews
      go_wp2_with (at_builtin; go_loud (refine wpList_append_lies _ rfl _ _ _ rfl V.heap.size 4 i0 _ 1 1 Try.underlying34 hi0 hz0 hz1 hz2 rfl (by omega) _ i (bvals (hidF k i)) rfl (gowns_ext ((Ext.refl wr).alloc _) HO.out.1) ⟨wr.heap.size, 0, none⟩ 1 1 (bvals [((K : Int) / 2 ^ (i % 20)).tmod 2 == 1]) rfl rfl (HN.out _) (bvals_one _) (by omega) (by rw [maxLen]; omega) (by omega) (by simp <;> omega) _ rfl ?_))
      intro g2 cap w1 hown hgrow hat hlt1
      have HR := Lib.hid (show w1.ownsRow V.heap.size 4 1 (.slice (some ⟨g2, 0, none⟩) (i + 1) cap) (i + 1) (bvals (hidF k (i + 1))) ∧ Ext V w1 from
        ⟨by rw [hidF_succ, HK.out]; unfold bvals at *; rw [List.map_append]; exact hown, gext_grown (HO.out.2.alloc _) hgrow (fun g hg => (gowns_lt HO.out.1 hg).1)⟩)
      clear hown hgrow hat
      go_wp2_with fail
      go_roundw
      case rel => exact ⟨i + 1, by omega, by go_num, HR.out.1, HR.out.2⟩
      case measure => simp [intOf]; omega
    · obtain rfl : i = sn := by omega
      rcases Nat.eq_zero_or_pos i with h0 | h0
      · subst h0
        obtain ⟨_, ⟨hv, _⟩ | ⟨g', cap', cur, hv, _⟩⟩ := HO.out.1
        · subst hv
          go_wp2_with fail
          go_ret
          first | exact ⟨_, ⟨_, rfl⟩, ⟨rfl, .inl rfl⟩, HB.out.1.trans HO.out.2⟩ | exact ⟨_, _, rfl, ⟨rfl, .inl rfl⟩, HB.out.1.trans HO.out.2⟩
        · subst hv
          go_wp2_with fail
          go_ret
          first | exact ⟨_, ⟨_, rfl⟩, ⟨rfl, .inl rfl⟩, HB.out.1.trans HO.out.2⟩ | exact ⟨_, _, rfl, ⟨rfl, .inl rfl⟩, HB.out.1.trans HO.out.2⟩
      · obtain ⟨g, cap, rfl, hgb, hgl⟩ := World.ownsRow.form HO.out.1 (by omega)
        obtain ⟨hB', _⟩ := owns_bls HO.out.1 (hidF_length k i) h0
        have HB' := Lib.hid hB'
        clear hB'
        go_wp2_with fail
        go_ret
        first | exact ⟨_, _, rfl, HB'.out, HB.out.1.trans HO.out.2⟩ | exact ⟨_, ⟨_, rfl⟩, HB'.out, HB.out.1.trans HO.out.2⟩
end Go.Proofs.Ytkoidookanmknaa
namespace Go.Proofs.Ytkoidookanmknaa
set_option linter.unusedSimpArgs false
set_option linter.unusedVariables false
open Go.RowKit

/-- The sheet, its box and three lists. -/
structure MoI (w : World) (N X : Nat) (ss vs : Sl) (gs : List Sl) (Ls : List (List Int)) (zs : List Int) (a1 a2 a3 : Option Addr) (l1 l2 l3 : List Bool) (W : World) : Prop where
 ext : Ext w W
 sh : ShIn W N ss vs gs Ls zs
 box : Blk W X #[.int .i64 (N : Int), ss.v, vs.v] 25
 b1 : Bls W a1 ss.n l1
 b2 : Bls W a2 ss.n l2
 b3 : Bls W a3 ss.n l3
theorem MoI.keep {w : World} {N X : Nat} {ss vs : Sl} {gs : List Sl} {Ls : List (List Int)} {zs : List Int} {a1 a2 a3 : Option Addr} {l1 l2 l3 : List Bool} {W W' : World} (h : MoI w N X ss vs gs Ls zs a1 a2 a3 l1 l2 l3 W) (k : Ext W W') : MoI w N X ss vs gs Ls zs a1 a2 a3 l1 l2 l3 W' :=
 ⟨h.ext.trans k, h.sh.ext k, h.box.ext k, h.b1.ext k, h.b2.ext k, h.b3.ext k⟩
end Go.Proofs.Ytkoidookanmknaa
namespace Go.Proofs.Ytkoidookanmknaa
set_option linter.unusedSimpArgs false
set_option linter.unusedVariables false
open Go.RowKit

/-- The cells in the opposite order. -/
def flipV (N : Nat) (v : Vec) : Vec := fun c => if c < N then v (N - 1 - c) else 0
theorem Sp.map {S T : Vec → Prop} {v : Vec} (f : Vec → Vec) (f0 : f vzero = vzero) (f1 : ∀ v u a, f (vadd v u a) = vadd (f v) (f u) a) (h : ∀ u, S u → T (f u)) (hv : Sp S v) : Sp T (f v) := by
 induction hv with
 | zero => rw [f0]; exact Sp.zero
 | step a _ hu ih => rw [f1]; exact Sp.step a ih (h _ hu)
/-- A set with the cells in the opposite order. -/
def flipL (N : Nat) (l : List Int) : List Int := (l.map fun x => (N : Int) - 1 - x).reverse
end Go.Proofs.Ytkoidookanmknaa
namespace Go.Proofs.Ytkoidookanmknaa
set_option linter.unusedSimpArgs false
set_option linter.unusedVariables false
open Go.RowKit

/-- Rows of unlike elements lie in unlike blocks. -/
theorem owns_ne2 {w : World} {b b' : Nat} {e e' : TypeId} {s s' : Nat} {v u : Value} {n m : Nat} {xs ys : List Value} (h : w.ownsRow b e s v n xs) (h' : w.ownsRow b' e' s' u m ys) (he : e ≠ e') {g : Nat} (hg : v.ownBlock = some g) : u.ownBlock ≠ some g := by
 obtain ⟨_, ⟨hv, _⟩ | ⟨g1, cap, cur, hv, _, hh, _⟩⟩ := h
 ·subst hv; simp [Value.ownBlock] at hg
 ·subst hv
  simp [Value.ownBlock] at hg
  subst hg
  obtain ⟨_, ⟨hv, _⟩ | ⟨g2, cap2, cur2, hv, _, hh2, _⟩⟩ := h'
  ·subst hv; simp [Value.ownBlock]
  ·subst hv
   intro e1
   simp [Value.ownBlock] at e1
   subst e1
   rw [hh] at hh2
   injection hh2 with hh2
   injection hh2 with _ e2 _
   exact he e2
theorem GSh.grow {W W1 : World} {base : Nat} {vS vV : Value} {gs : List Sl} {Ls : List (List Int)} {zs : List Int} {row : Option Nat} (h : GSh W base vS vV gs Ls zs) (k : W.grownBy W1 row) (h1 : ∀ g, vS.ownBlock = some g → row ≠ some g) (h2 : ∀ g, vV.ownBlock = some g → row ≠ some g)
  (h3 : ∀ j b, j < gs.length → (gs.getD j sl0).a = some ⟨b, 0, none⟩ → row ≠ some b) : GSh W1 base vS vV gs Ls zs :=
 ⟨h.n1, owns_grown h.S k h1, owns_grown h.V k h2, h.ne, fun i hi => by
  obtain ⟨b, a1, a2, a3, a4, a5⟩ := h.sets i hi
  exact ⟨b, a1, a2, Nat.lt_of_lt_of_le a3 k.size, ints_grown a4 k a3 (h3 i b (by rw [h.n1]; exact hi) a1), a5⟩⟩
/-- A list of bools beside a sheet. -/
structure GBo (W : World) (base : Nat) (vg : Value) (hs : List Bool) (gs : List Sl) : Prop where
 B : W.ownsRow base 4 1 vg hs.length (bvals hs)
 sets : ∀ k b, k < gs.length → (gs.getD k sl0).a = some ⟨b, 0, none⟩ → vg.ownBlock ≠ some b ∧ b < W.heap.size
theorem GBo.ext {W W' : World} {base : Nat} {vg : Value} {hs : List Bool} {gs : List Sl} (h : GBo W base vg hs gs) (k : Ext W W') : GBo W' base vg hs gs :=
 ⟨gowns_ext k h.B, fun j b hj hb => ⟨(h.sets j b hj hb).1, Nat.lt_of_lt_of_le (h.sets j b hj hb).2 k.size⟩⟩
theorem GBo.grow {W W1 : World} {base : Nat} {vg : Value} {hs : List Bool} {gs : List Sl} {row : Option Nat} (h : GBo W base vg hs gs) (k : W.grownBy W1 row) (hne : ∀ g, vg.ownBlock = some g → row ≠ some g) : GBo W1 base vg hs gs :=
 ⟨owns_grown h.B k hne, fun j b hj hb => ⟨(h.sets j b hj hb).1, Nat.lt_of_lt_of_le (h.sets j b hj hb).2 k.size⟩⟩
theorem GBo.more {W : World} {base : Nat} {vg : Value} {hs : List Bool} {gs : List Sl} {b n c : Nat} (h : GBo W base vg hs gs) (hb : vg.ownBlock ≠ some b) (hlt : b < W.heap.size) : GBo W base vg hs (gs ++ [⟨some ⟨b, 0, none⟩, n, c⟩]) :=
 ⟨h.B, fun j x hj hx => by
  by_cases hj' : j < gs.length
  ·rw [show (gs ++ [(⟨some ⟨b, 0, none⟩, n, c⟩ : Sl)]).getD j sl0 = gs.getD j sl0 by simp [List.getD_eq_getElem?_getD, List.getElem?_append, hj']] at hx
   exact h.sets j x hj' hx
  ·obtain rfl : j = gs.length := by simp at hj; omega
   rw [show (gs ++ [(⟨some ⟨b, 0, none⟩, n, c⟩ : Sl)]).getD gs.length sl0 = ⟨some ⟨b, 0, none⟩, n, c⟩ by simp [List.getD_eq_getElem?_getD]] at hx
   injection hx with hx
   injection hx with hx
   subst hx
   exact ⟨hb, hlt⟩⟩
theorem GBo.add {W W1 : World} {base g cap : Nat} {vg : Value} {hs : List Bool} {gs : List Sl} {x : Bool} (h : GBo W base vg hs gs)
  (hown : W1.ownsRow base 4 1 (.slice (some ⟨g, 0, none⟩) (hs.length + 1) cap) (hs.length + 1) (bvals hs ++ bvals [x])) (hgr : W.grownBy W1 vg.ownBlock) (hat : vg.ownBlock = some g ∨ g = W.heap.size) :
  GBo W1 base (.slice (some ⟨g, 0, none⟩) (hs.length + 1) cap) (hs ++ [x]) gs := by
 refine ⟨by rw [List.length_append]; unfold bvals at *; rw [List.map_append]; exact hown, fun j b hj hb => ?_⟩
 obtain ⟨h1, h2⟩ := h.sets j b hj hb
 refine ⟨fun e => ?_, Nat.lt_of_lt_of_le h2 hgr.size⟩
 simp [Value.ownBlock] at e
 rcases hat with hat | hat
 ·rw [hat, e] at h1; exact h1 rfl
 ·omega
/-- The box, the sheet and the bools. -/
structure Num (w W : World) (Y N : Nat) (vS vV vg : Value) (gs : List Sl) (Ls : List (List Int)) (zs : List Int) (hs : List Bool) : Prop where
 lo : w.heap.size ≤ Y
 ext : Ext w W
 box : Blk W Y #[.int .i64 (N : Int), vS, vV] 31
 own : GSh W (Y + 1) vS vV gs Ls zs
 b : GBo W (Y + 1) vg hs gs
theorem Num.keep {w W W' : World} {Y N : Nat} {vS vV vg : Value} {gs : List Sl} {Ls : List (List Int)} {zs : List Int} {hs : List Bool} (h : Num w W Y N vS vV vg gs Ls zs hs) (k : Ext W W') : Num w W' Y N vS vV vg gs Ls zs hs :=
 ⟨h.lo, h.ext.trans k, h.box.ext k, h.own.ext k, h.b.ext k⟩
theorem GBo.low {W : World} {base b o : Nat} {u vg : Value} {hs : List Bool} {gs : List Sl} (h : GBo W base vg hs gs) (hb : b < base) : GBo (W.setCell ⟨b, o, none⟩ u) base vg hs gs :=
 h.grow (grown_setCell W b o u) (fun g hg e => by have := (gowns_lt h.B hg).1; injection e with e; omega)
theorem Num.addS {w W W1 : World} {Y N g cap b n c : Nat} {vS vV vg : Value} {gs : List Sl} {Ls : List (List Int)} {zs : List Int} {hs : List Bool} {L : List Int} (h : Num w W Y N vS vV vg gs Ls zs hs) (hI : Ints W (some ⟨b, 0, none⟩) n L) (hb : Y + 1 ≤ b) (hlt : b < W.heap.size) (h1 : vS.ownBlock ≠ some b) (h2 : vV.ownBlock ≠ some b) (h3 : vg.ownBlock ≠ some b)
  (hown : W1.ownsRow (Y + 1) 22 1 (.slice (some ⟨g, 0, none⟩) (Ls.length + 1) cap) (Ls.length + 1) (gs.map Sl.v ++ [.slice (some ⟨b, 0, none⟩) n c])) (hgr : W.grownBy W1 vS.ownBlock) (hat : vS.ownBlock = some g ∨ g = W.heap.size) :
  W1.cell? ⟨Y, 1, none⟩ = some vS ∧ W1.frozen? ⟨Y, 1, none⟩ = false ∧ Num w (W1.setCell ⟨Y, 1, none⟩ (.slice (some ⟨g, 0, none⟩) (Ls.length + 1) cap)) Y N (.slice (some ⟨g, 0, none⟩) (Ls.length + 1) cap) vV vg (gs ++ [⟨some ⟨b, 0, none⟩, n, c⟩]) (Ls ++ [L]) zs hs := by
 have hge : ∀ x, vS.ownBlock = some x → Y + 1 ≤ x := fun x hx => (owns_lt h.own.S hx).1
 have hX := blk_grown2 h.box hgr (fun e => by have := hge _ e; omega)
 have hl := h.lo
 refine ⟨hX.cell 1, hX.free 1, ⟨hl, (ext_grown h.ext hgr (fun x hx => by have := hge x hx; omega)).setCell (by simp; omega) _, hX.set 1 _, (h.own.addS hI hb hlt h1 h2 hown hgr hat).low (by omega), ?_⟩⟩
 exact ((h.b.more h3 hlt).grow hgr (fun x hx e => owns_ne2 h.own.S h.b.B (by decide) e hx)).low (by omega)
theorem Num.addV {w W W1 : World} {Y N g cap : Nat} {vS vV vg : Value} {gs : List Sl} {Ls : List (List Int)} {zs : List Int} {hs : List Bool} {x : Int} (h : Num w W Y N vS vV vg gs Ls zs hs)
  (hown : W1.ownsRow (Y + 1) 3 1 (.slice (some ⟨g, 0, none⟩) (zs.length + 1) cap) (zs.length + 1) (ivals zs ++ ivals [x])) (hgr : W.grownBy W1 vV.ownBlock) (hat : vV.ownBlock = some g ∨ g = W.heap.size) :
  W1.cell? ⟨Y, 2, none⟩ = some vV ∧ W1.frozen? ⟨Y, 2, none⟩ = false ∧ Num w (W1.setCell ⟨Y, 2, none⟩ (.slice (some ⟨g, 0, none⟩) (zs.length + 1) cap)) Y N vS (.slice (some ⟨g, 0, none⟩) (zs.length + 1) cap) vg gs Ls (zs ++ [x]) hs := by
 have hge : ∀ x, vV.ownBlock = some x → Y + 1 ≤ x := fun x hx => (owns_lt h.own.V hx).1
 have hX := blk_grown2 h.box hgr (fun e => by have := hge _ e; omega)
 have hl := h.lo
 refine ⟨hX.cell 2, hX.free 2, ⟨hl, (ext_grown h.ext hgr (fun x hx => by have := hge x hx; omega)).setCell (by simp; omega) _, hX.set 2 _, (h.own.addV hown hgr hat).low (by omega), ?_⟩⟩
 exact (h.b.grow hgr (fun x hx e => owns_ne2 h.own.V h.b.B (by decide) e hx)).low (by omega)
end Go.Proofs.Ytkoidookanmknaa
