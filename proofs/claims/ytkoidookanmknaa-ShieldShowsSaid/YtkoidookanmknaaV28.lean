/- meresmanref30: Some, the walk. -/
import Derived.Test.YtkoidookanmknaaV27
namespace Go.Proofs.Ytkoidookanmknaa
set_option linter.unusedSimpArgs false
set_option linter.unusedVariables false
open Go.RowKit

set_option maxRecDepth 100000 in
set_option maxHeartbeats 4000000 in
theorem Some_c (a0 : Option Addr) (n c : Nat) (xs : List Int) (w : World) (h : Ints w a0 n xs) :
    Calls Try.prog 10 #[.slice a0 n c] w fun e w' => Ext w w' ∧ ∃ (N : Nat) (ss vs : Sl) (gs : List Sl) (Ls : List (List Int)) (zs : List Int), e = .returned (.agg #[.int .i64 N, ss.v, vs.v]) ∧ ShIn w' N ss vs gs Ls zs ∧ validE N Ls zs = 0 ∧ 1 ≤ N ∧ N ≤ 6 ∧ 1 ≤ Ls.length ∧ Ls.length ≤ 9 := by
  obtain ⟨i0, hi0, hz0, hz1, hz2⟩ := info_parts intInfo
  obtain ⟨j0, hj0, hy0, hy1, hy2⟩ := info_parts intsInfo
  have H := Lib.hid h
  clear h
  obtain ⟨B, hB⟩ : ∃ B, w.heap.size = B := ⟨_, rfl⟩
  go_enter Try.func10, Try.ntmps10
  go_wp2_with fail
  refine (pick_c a0 n c xs _ 0 _ _ (H.out.keep (Ext.ik (by repeat (first | exact Ext.refl _ | assumption | refine Ext.setCell ?_ (by first | (simp; done) | (simp; omega) | omega) _ | refine Ext.alloc ?_ _ | refine Ext.drew ?_ | refine Ext.trans ?_ (by assumption))))) rfl (by omega) (by omega) (by omega)).mono ?_
  rintro e w2 ⟨rfl, rfl⟩
  have hp := pickF_bd xs 0 6 (by omega)
  obtain ⟨p, hpe⟩ : ∃ p, pickF xs 0 6 = p := ⟨_, rfl⟩
  rw [hpe] at hp ⊢
  clear hpe
  obtain ⟨N, hN⟩ : ∃ N : Nat, p = (N : Int) - 1 := ⟨(p + 1).toNat, by omega⟩
  subst hN
  go_wp2_with fail
  refine (pick_c a0 n c xs _ 1 _ _ (H.out.keep (Ext.ik (by repeat (first | exact Ext.refl _ | assumption | refine Ext.setCell ?_ (by first | (simp; done) | (simp; omega) | omega) _ | refine Ext.alloc ?_ _ | refine Ext.drew ?_ | refine Ext.trans ?_ (by assumption))))) rfl (by omega) (by omega) (by omega)).mono ?_
  rintro e w2 ⟨rfl, rfl⟩
  have hq := pickF_bd xs 1 9 (by omega)
  obtain ⟨q, hqe⟩ : ∃ q, pickF xs 1 9 = q := ⟨_, rfl⟩
  rw [hqe] at hq ⊢
  clear hqe
  obtain ⟨M, hM⟩ : ∃ M : Nat, q = (M : Int) - 1 := ⟨(q + 1).toNat, by omega⟩
  subst hM
  go_upto_region 3 with (fail)
  have e1 : (1 : Int) + ((N : Int) - 1) = (N : Int) := by omega
  have e2 : (1 : Int) + ((M : Int) - 1) = (M : Int) := by omega
  simp only [e1, e2]
  go_wp2_with fail
  go_loopw [5] (fun v ws => ∃ (i : Nat) (vS vV : Value) (gs : List Sl) (Ls : List (List Int)) (zs : List Int), i ≤ M ∧ v = .int .i64 (i : Int) ∧ SmI w ws B N i vS vV gs Ls zs) (fun v _ => M - (intOf v).toNat)
  case atStart =>
    exact ⟨0, _, _, [], [], [], by omega, rfl, ⟨(by repeat (first | exact Ext.refl _ | assumption | refine Ext.setCell ?_ (by first | (simp; done) | (simp; omega) | omega) _ | refine Ext.alloc ?_ _ | refine Ext.drew ?_ | refine Ext.trans ?_ (by assumption))), (Blk.at _ _ hB.symm).alloc _, Blk.at _ _ (by simp [hB]), GSh.nil _ _, rfl, rfl, fun k hk => absurd hk (by omega), fun k hk => absurd hk (by omega)⟩⟩
  case round =>
    obtain ⟨i, vS, vV, gs, Ls, zs, hi, rfl, hI⟩ := hrel
    have x0 : wr.cell? ⟨B + 1, 0, none⟩ = some (.int .i64 (N : Int)) := hI.box.cell 0
    have HI := Lib.hid hI
    clear hI
    by_cases hlt : i < M
    · go_wp2_with fail
      refine (pick_c a0 n c xs _ (8 + i) _ _ (H.out.keep (HI.out.ext.ik)) (by omega) (by omega) (by omega) (by omega)).mono ?_
      rintro e w2 ⟨rfl, rfl⟩
      have hk := pickF_bd xs (8 + i) 1048576 (by omega)
      obtain ⟨kz, hke⟩ : ∃ kz, pickF xs (8 + i) 1048576 = kz := ⟨_, rfl⟩
      rw [hke] at hk ⊢
      clear hke
      obtain ⟨K, rfl⟩ : ∃ K : Nat, kz = (K : Int) := ⟨kz.toNat, by omega⟩
      go_wp2_with fail
      go_loopw [7, 8] (fun sv v ws => ∃ (j : Nat) (P : List Int), j ≤ N ∧ v = .int .i64 (j : Int) ∧ VRow ws wr.heap.size sv P ∧ SetOK j P ∧ P.length ≤ j ∧ Ext wr ws) (fun _ v _ => N - (intOf v).toNat)
      case atStart => exact ⟨0, [], by omega, rfl, VRow.nil _ _, SetOK.nil _, by simp, Ext.refl _⟩
      case round =>
        rename World => ws
        obtain ⟨j, P, hj, rfl, hV, hP, hPl, hE⟩ := hrel
        have y0 : ws.cell? ⟨B + 1, 0, none⟩ = some (.int .i64 (N : Int)) := hE.cell x0
        have HV := Lib.hid (And.intro hV (And.intro hP hE))
        clear hV hP hE
        by_cases hjl : j < N
        · have h64 : Int64 (j : Int) := ⟨by omega, by omega⟩
          have HNW := Lib.hid (ints_news (ints_one ws j h64) (by omega))
          have hsz := HV.out.2.2.size
          have HR := Lib.hid (fun g2 cap w1 (hown : w1.ownsRow wr.heap.size 3 1 (.slice (some ⟨g2, 0, none⟩) (P.length + 1) cap) (P.length + 1) (ivals P ++ ivals [(j : Int)])) (hgrow : (ws.alloc (.cells #[.int .i64 (j : Int)] 3)).grownBy w1 u7.ownBlock) =>
            (show VRow w1 wr.heap.size (.slice (some ⟨g2, 0, none⟩) (P.length + 1) cap) (P ++ [(j : Int)]) ∧ Ext wr w1 from ⟨VRow.app rfl hown, ext_grown (HV.out.2.2.alloc _) hgrow (fun g hg => (owns_lt HV.out.1 hg).1)⟩))
          clear h64
          go_wp2_with (at_builtin; refine wpList_append_lies _ rfl _ _ _ rfl wr.heap.size 3 i0 _ 1 8 Try.underlying22 hi0 hz0 hz1 hz2 rfl (by omega) _ _ _ rfl (VRow.ext ((Ext.refl ws).alloc _) HV.out.1) ⟨ws.heap.size, 0, none⟩ 1 1 (ivals [(j : Int)]) rfl rfl HNW.out (ivals_one _) (by omega) (by rw [maxLen]; omega) (by omega) (by simp; omega) _ rfl ?_)
          all_goals first
            | exact ⟨⟨j + 1, P, by omega, by go_num, HV.out.1, HV.out.2.1.up (by omega), by omega, HV.out.2.2⟩, by simp [intOf]; omega⟩
            | (intro g2 cap w1 hown hgrow hat hlt1; have HR2 := Lib.hid (HR.out g2 cap w1 hown hgrow); clear hown hgrow hat; go_wp2_with fail; go_roundw; (case rel => exact ⟨j + 1, P ++ [(j : Int)], by omega, by go_num, HR2.out.1, HV.out.2.1.add (by omega), by simp; omega, HR2.out.2⟩); (case measure => simp [intOf]; omega))
        · obtain rfl : j = N := by omega
          obtain ⟨a7, c7, rfl, hI7⟩ := HV.out.1.ints (by omega) (fun k hk => by have := HV.out.2.1.2 _ (List.getElem_mem hk); rw [getD_get hk]; exact ⟨by omega, by omega⟩)
          have HI7 := Lib.hid hI7
          clear hI7
          obtain ⟨m, hm⟩ : ∃ m, P.length = m := ⟨_, rfl⟩
          have HM := Lib.hid hm
          rw [hm] at HV HI7 ⊢
          rw [hm] at hPl
          clear hm
          go_upto_if 59 with (fail)
          go_cut [7] from 18 to 101 (fun sv wx => ∃ L : List Int, VRow wx wr.heap.size sv L ∧ SetOK j L ∧ L.length ≠ 0 ∧ L.length ≤ j ∧ Ext wr wx)
          case first =>
            by_cases hm0 : m = 0
            · subst hm0
              go_wp2_with fail
              go_meet
              case rel =>
                have hb := Int.tmod_nonneg (a := (K : Int) / 64) (j : Int) (by omega)
                have hb2 := Int.tmod_lt_of_pos ((K : Int) / 64) (b := (j : Int)) (by omega)
                exact ⟨_, VRow.one _ HV.out.2.2.size, SetOK.one hb hb2, by simp, by simp; omega, HV.out.2.2.alloc _⟩
            · go_wp2_with fail
              go_meet
              case rel => exact ⟨P, HV.out.1, HV.out.2.1, by rw [HM.out]; exact hm0, by rw [HM.out]; exact hPl, HV.out.2.2⟩
          case rest =>
            obtain ⟨L, hV2, hL, hL0, hLl, hE2⟩ := hcut
            have y2 : wc.cell? ⟨B + 1, 0, none⟩ = some (.int .i64 (j : Int)) := hE2.cell x0
            have HV2 := Lib.hid (And.intro hV2 (And.intro hL hE2))
            have HL0 := Lib.hid (And.intro hL0 hLl)
            clear hV2 hL hE2 HV y0 hL0 hLl
            go_upto_if 68 with (fail)
            go_cut [7] from 18 to 101 (fun sv wx => ∃ L : List Int, VRow wx wr.heap.size sv L ∧ SetOK j L ∧ L.length ≠ 0 ∧ L.length ≤ j ∧ Ext wr wx)
            case first =>
              by_cases h5 : (K : Int) % 5 = 0
              · go_wp2_with fail
                go_meet
                case rel =>
                  have hb := Int.tmod_nonneg (a := (K : Int) / 64) (j : Int) (by omega)
                  have hb2 := Int.tmod_lt_of_pos ((K : Int) / 64) (b := (j : Int)) (by omega)
                  exact ⟨_, VRow.one _ HV2.out.2.2.size, SetOK.one hb hb2, by simp, by simp; omega, HV2.out.2.2.alloc _⟩
              · go_wp2_with fail
                go_meet
                case rel => exact ⟨L, HV2.out.1, HV2.out.2.1, HL0.out.1, HL0.out.2, HV2.out.2.2⟩
            case rest =>
              clear HV2 HL0 y2
              obtain ⟨L, hV2, hL, hL0, hLl, hE2⟩ := hcut
              obtain ⟨a7, c7, rfl, hI7⟩ := hV2.ints (by omega) (fun k hk => by have := hL.2 _ (List.getElem_mem hk); rw [getD_get hk]; exact ⟨by omega, by omega⟩)
              obtain ⟨m, hm⟩ : ∃ m, L.length = m := ⟨_, rfl⟩
              have hbd : ∀ k, k < m → 0 ≤ L.getD k 0 ∧ L.getD k 0 < (j : Int) := fun k hk => by rw [getD_get (by omega)]; exact hL.2 _ (List.getElem_mem (by omega))
              have HV2 := Lib.hid (And.intro hV2 (And.intro hL hE2))
              rw [hm] at HV2 hI7 hL0 hLl ⊢
              have HI7 := Lib.hid (And.intro hI7 (And.intro hm hbd))
              clear hV2 hL hE2 hI7 hm hbd
              go_upto_region 18 with (fail)
              go_wp2_with fail
              go_loopw [9, 10] (fun sv v ws => ∃ (q : Nat) (s : Int), q ≤ m ∧ v = .int .i64 (q : Int) ∧ sv = .int .i64 s ∧ 0 ≤ s ∧ s ≤ 8 * q ∧ Ext wc ws) (fun _ v _ => m - (intOf v).toNat)
              case atStart => exact ⟨0, 0, by omega, rfl, rfl, by omega, by omega, Ext.refl _⟩
              case round =>
                rename World => ws
                obtain ⟨q, s, hq, rfl, rfl, hs0, hs1, hE3⟩ := hrel
                have HE3 := Lib.hid hE3
                clear hE3
                by_cases hql : q < m
                · obtain ⟨b7, o7, rfl, hb7, hc7⟩ := (HI7.out.1.keep HE3.out.ik).at q hql
                  have hx := HI7.out.2.2 q hql
                  obtain ⟨X, hX⟩ : ∃ X : Nat, L.getD q 0 = (X : Int) := ⟨(L.getD q 0).toNat, by omega⟩
                  rw [hX] at hc7 hx
                  clear hX
                  have t0 : (q : Int) < (m : Int) := by omega
                  go_wp2_with fail
                  refine (pick_c a0 n c xs _ (2 + X) _ _ (H.out.keep ((HI.out.ext.trans (HV2.out.2.2.trans HE3.out)).ik)) (by omega) (by omega) (by omega) (by omega)).mono ?_
                  rintro e w2 ⟨rfl, rfl⟩
                  have hk := pickF_bd xs (2 + X) 9 (by omega)
                  obtain ⟨kz, hke⟩ : ∃ kz, pickF xs (2 + X) 9 = kz := ⟨_, rfl⟩
                  rw [hke] at hk ⊢
                  clear hke hc7
                  go_wp2_with fail
                  go_roundw
                  case rel => exact ⟨q + 1, s + kz, by omega, by go_num, rfl, by omega, by omega, HE3.out⟩
                  case measure => simp [intOf]; omega
                · obtain rfl : q = m := by omega
                  obtain ⟨g, cap, e, hgb, hgl⟩ := World.ownsRow.form HV2.out.1 (by rw [HI7.out.2.1]; omega)
                  injection e with e1' e2' e3'
                  subst e1'; subst e3'
                  clear e2'
                  have HSB := Lib.hid ((HI.out.b hB).keep (HV2.out.2.2.trans HE3.out))
                  have z1 : ws.cell? ⟨B + 1, 1, none⟩ = some vS := HSB.out.box.cell 1
                  have hnl := HI.out.nl
                  have hnz := HI.out.nz
                  have hLl9 : Ls.length ≤ 9 := by omega
                  have hzl9 : zs.length ≤ 9 := by omega
                  have hgs : g < (ws.alloc (.cells #[.slice (some ⟨g, 0, none⟩) q c7] 22)).heap.size := by
                    have := HE3.out.size
                    rw [World.size_alloc]; omega
                  have hbs := HSB.out.box.lt
                  clear hnl hnz
                  go_upto_region 22 with (fail)
                  go_wp2_with (at_builtin; refine wpList_append_lies _ rfl _ _ _ rfl (B + 1 + 1) 22 j0 _ 1 24 Try.underlying23 hj0 hy0 hy1 hy2 rfl (by omega) _ Ls.length (gs.map Sl.v) rfl (owns_ext ((Ext.refl ws).alloc _) HSB.out.own.S) ⟨ws.heap.size, 0, none⟩ 1 1 [.slice (some ⟨g, 0, none⟩) q c7] rfl rfl (World.news_of_block (cs := #[.slice (some ⟨g, 0, none⟩) q c7]) (t := 22) (fr := (0, 0)) (heap_alloc_new ws _)) (by simp [Value.oneCell']) (by omega) (by rw [maxLen]; omega) (by omega) (by simp; omega) _ rfl ?_)
                  intro g2 cap2 w1 hown hgrow hat hlt1
                  have hgb2 := hgb
                  obtain ⟨t1, t2, hS2⟩ := (HSB.out.keep ((Ext.refl ws).alloc _)).addS ((HI7.out.1.keep HE3.out.ik).keep ((Ext.refl ws).alloc _).ik) (by have := HI.out.box.lt; omega) hgs (fun e => by have := (owns_lt HI.out.own.S e).2; omega) (fun e => by have := (owns_lt HI.out.own.V e).2; omega) hown hgrow (by rw [World.size_alloc]; exact hat)
                  have HS2 := Lib.hid hS2
                  clear hown hgrow hat hS2 z1
                  go_upto_region 23 with (fail)
                  refine wp_gen (fun W => SoB w W B j (.slice (some ⟨g2, 0, none⟩) (Ls.length + 1) cap2) vV (gs ++ [⟨some ⟨g, 0, none⟩, q, c7⟩]) (Ls ++ [L]) zs) HS2.out ?_
                  clear HS2 t1 t2 hlt1
                  intro W2 hS2
                  have HS2 := Lib.hid hS2
                  have z1 : W2.cell? ⟨B + 1, 2, none⟩ = some vV := hS2.box.cell 2
                  have hbs2 := hS2.box.lt
                  clear hS2
                  have hs64 : Int64 s := ⟨by omega, by omega⟩
                  have HNW := Lib.hid (ints_news (ints_one W2 s hs64) (by omega))
                  go_wp2_with (at_builtin; refine wpList_append_lies _ rfl _ _ _ rfl (B + 1 + 1) 3 i0 _ 1 8 Try.underlying22 hi0 hz0 hz1 hz2 rfl (by omega) _ zs.length (ivals zs) rfl (owns_ext ((Ext.refl W2).alloc _) HS2.out.own.V) ⟨W2.heap.size, 0, none⟩ 1 1 (ivals [s]) rfl rfl HNW.out (ivals_one _) (by omega) (by rw [maxLen]; omega) (by omega) (by simp; omega) _ rfl ?_)
                  intro g3 cap3 w3 hown hgrow hat hlt1
                  obtain ⟨t1, t2, hS3⟩ := (HS2.out.keep ((Ext.refl W2).alloc _)).addV hown hgrow (by rw [World.size_alloc]; exact hat)
                  have HS3 := Lib.hid (HI.out.next hS3 HV2.out.2.1 (by rw [HI7.out.2.1]; omega) ⟨by omega, by omega⟩)
                  clear hown hgrow hat hS3 z1
                  go_wp2_with fail
                  go_roundw
                  case rel => exact ⟨i + 1, _, _, _, _, _, by omega, by go_num, HS3.out⟩
                  case measure => simp [intOf]; omega
    · obtain rfl : i = M := by omega
      have hnl := HI.out.nl
      have hnz := HI.out.nz
      have hshin : ∀ W, GSh W (B + 1 + 1) vS vV gs Ls zs → ∃ ss vs : Sl, vS = ss.v ∧ vV = vs.v ∧ ss.n = Ls.length ∧ vs.n = zs.length ∧ ShIn W N ss vs gs Ls zs := fun W hW =>
        hW.shin (by omega) (by omega) (fun k hk => by have := HI.out.bd k (by omega); exact ⟨by omega, by omega⟩) (fun k => by
          by_cases hk : k < Ls.length
          · have := (HI.out.ok k (by omega)).1.len; omega
          · rw [List.getD_eq_getElem?_getD, List.getElem?_eq_none (by omega)]; simp)
      have hval : validE N Ls zs = 0 := validE_ok (by omega) (by omega) (by omega) (by omega) (fun k hk => by
        obtain ⟨ok1, ok2⟩ := HI.out.ok k (by omega)
        have hb := HI.out.bd k (by omega)
        exact itemBad_no ok2 (by omega) (by omega) (fun q hq => ok1.cells q hq))
      obtain ⟨⟨sa, sn, sc⟩, ⟨va, vn, vc⟩, rfl, rfl, g1, g2, g3⟩ := hshin wr HI.out.own
      clear g1 g2 g3
      have HF := Lib.hid (And.intro hshin (And.intro hval hnl))
      clear hshin hval hnl hnz
      have x1 : wr.cell? ⟨B + 1, 1, none⟩ = some (.slice sa sn sc) := HI.out.box.cell 1
      have x2 : wr.cell? ⟨B + 1, 2, none⟩ = some (.slice va vn vc) := HI.out.box.cell 2
      have r0 : wr.cell? ⟨B, 0, none⟩ = some (.int .i64 0) := HI.out.res.cell 0
      have r1 : wr.cell? ⟨B, 1, none⟩ = some (.slice none 0 0) := HI.out.res.cell 1
      have r2 : wr.cell? ⟨B, 2, none⟩ = some (.slice none 0 0) := HI.out.res.cell 2
      have f0 : wr.frozen? ⟨B, 0, none⟩ = false := HI.out.res.free 0
      have f1 : wr.frozen? ⟨B, 1, none⟩ = false := HI.out.res.free 1
      have f2 : wr.frozen? ⟨B, 2, none⟩ = false := HI.out.res.free 2
      go_wp2_with fail
      have hbl := ((HI.out.res.set 0 (.int .i64 (N : Int))).set 1 (.slice sa sn sc)).set 2 (.slice va vn vc)
      have q0 := hbl.cell 0
      have q1 := hbl.cell 1
      have q2 := hbl.cell 2
      simp at q0 q1 q2
      refine bodyPost_ret (v := .agg #[.int .i64 (N : Int), .slice sa sn sc, .slice va vn vc]) (by simp [results, Try.results10, go_sem, q0, q1, q2]) rfl ?_
      obtain ⟨ss, vs, e1, e2, _, _, hSh⟩ := HF.out.1 _ (((HI.out.own.low (b := B) (o := 0) (u := .int .i64 (N : Int)) (by omega)).low (b := B) (o := 1) (u := .slice sa sn sc) (by omega)).low (b := B) (o := 2) (u := .slice va vn vc) (by omega))
      have hE := HI.out.ext
      have hE3 : Ext w (((wr.setCell ⟨B, 0, none⟩ (.int .i64 (N : Int))).setCell ⟨B, 1, none⟩ (.slice sa sn sc)).setCell ⟨B, 2, none⟩ (.slice va vn vc)) := ((hE.setCell (by simp; omega) _).setCell (by simp; omega) _).setCell (by simp; omega) _
      have he : Ending.returned (.agg #[.int .i64 (N : Int), .slice sa sn sc, .slice va vn vc]) = .returned (.agg #[.int .i64 (N : Int), ss.v, vs.v]) := by
        rw [← e1, ← e2]
      exact ⟨hE3, N, ss, vs, gs, Ls, zs, he, hSh, HF.out.2.1, by omega, by omega, by rw [HF.out.2.2]; omega, by rw [HF.out.2.2]; omega⟩
end Go.Proofs.Ytkoidookanmknaa
