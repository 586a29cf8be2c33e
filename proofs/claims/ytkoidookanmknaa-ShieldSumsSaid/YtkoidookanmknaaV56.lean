/- meresmanlaw30: ShieldSums, the walk. -/
import Derived.Test.YtkoidookanmknaaV55
namespace Go.Proofs.Ytkoidookanmknaa
set_option linter.unusedSimpArgs false
set_option linter.unusedVariables false
open Go.RowKit

set_option maxRecDepth 100000 in
set_option maxHeartbeats 4000000 in
theorem walkSums (a0 a1 a2 a3 : Int) (w : World) (h0 : Int64 a0) (h1 : Int64 a1) (h2 : Int64 a2) (h3 : Int64 a3) :
    Calls Try.prog 7 #[.int .i64 a0, .int .i64 a1, .int .i64 a2, .int .i64 a3] w fun e w' => e = .returned (.bool true) ∧ Ext w w' := by
  obtain ⟨i0, hi0, hz0, hz1, hz2⟩ := info_parts intInfo
  obtain ⟨j0, hj0, hy0, hy1, hy2⟩ := info_parts intsInfo
  have H0 := Lib.hid h0; have H1 := Lib.hid h1; have H2 := Lib.hid h2; have H3 := Lib.hid h3
  clear h0 h1 h2 h3
  go_enter Try.func7, Try.ntmps7
  go_wp2_with fail
  refine (around_c _ _ _ (by omega) (by omega) H0.out).mono ?_
  rintro e w1 ⟨rfl, rfl⟩
  have hq := aroundF_bd a0 20 (by omega)
  obtain ⟨n', hn'⟩ : ∃ K : Nat, aroundF a0 20 = (K : Int) := ⟨(aroundF a0 20).toNat, by omega⟩
  rw [hn'] at hq ⊢
  clear hn'
  obtain ⟨n, hn⟩ : ∃ n : Nat, n = 2 + n' := ⟨_, rfl⟩
  have hnn : (2 : Int) + (n' : Int) = (n : Int) := by omega
  have hn2 : 2 ≤ n := by omega
  have hn21 : n ≤ 21 := by omega
  have HNN := Lib.hid hnn
  clear hq hn
  go_upto_region 2 with (fail)
  clear hnn HNN
  go_wp2_with fail
  go_loopw [10, 11, 12, 13] (fun av bv cv iv ws => ∃ (i : Nat) (A B C : List Int), i ≤ n ∧ iv = .int .i64 (i : Int) ∧ Tri w ws av bv cv A B C ∧ Par n i A B C) (fun _ _ _ iv _ => n - (intOf iv).toNat)
  case atStart => exact ⟨0, [], [], [], by omega, rfl, Tri.start _, Par.start n hn2⟩
  case round =>
    obtain ⟨i, A, B, C, hi, rfl, hT, hP⟩ := hrel
    have HT := Lib.hid (And.intro hT hP)
    have hla := hP.a.len
    have hlb := hP.b.len
    have hlc := hP.c.len
    have hsz := hT.ext.size
    clear hT hP
    by_cases hlt : i < n
    · --{{
      have hi64 : Int64 (i : Int) := ⟨by omega, by omega⟩
      have HNW := Lib.hid (fun W : World => ints_news (ints_one W (i : Int) hi64) (by omega))
      clear hi64
      have h21a : A.length + 1 ≤ 30 := by omega
      have h21b : B.length + 1 ≤ 30 := by omega
      have h21c : C.length + 1 ≤ 30 := by omega
      have hmx : ∀ k, k ≤ 30 → k ≤ maxLen ∧ k * 8 ≤ 140737488355328 := fun k hk => by rw [maxLen]; omega
      have HMX := Lib.hid hmx
      clear hmx
      by_cases hi0' : i = 0
      · have e0 : ((i : Int) == 0) = true := by rw [beq_iff_eq]; omega
        have HC := Lib.hid (show i = 0 ∨ i < n - 1 from .inl hi0')
        clear hi0'
        (((go_wp2_with (at_builtin; refine wpList_append_lies _ rfl _ _ _ rfl w.heap.size 3 i0 _ 1 8 Try.underlying22 hi0 hz0 hz1 hz2 rfl (by omega) u10 A.length (ivals A) rfl (VRow.ext ((Ext.refl wr).alloc _) HT.out.1.ra) ⟨wr.heap.size, 0, none⟩ 1 1 (ivals [(i : Int)]) rfl rfl (HNW.out wr) (ivals_one _) (by omega) (HMX.out _ h21a).1 (HMX.out _ h21a).2 (by simp; omega) _ rfl ?_))); intro g5 cap5 w5 hown hgrow hat hlt5; have HT5 := Lib.hid ((HT.out.1.keep ((Ext.refl wr).alloc _)).add hown hgrow (by rw [World.size_alloc]; exact hat)); have hs5 := HT5.out.ext.size; clear hown hgrow hat; ((go_wp2_with (at_builtin; refine wpList_append_lies _ rfl _ _ _ rfl w.heap.size 3 i0 _ 1 8 Try.underlying22 hi0 hz0 hz1 hz2 rfl (by omega) u12 C.length (ivals C) rfl (VRow.ext ((Ext.refl w5).alloc _) HT5.out.rc) ⟨w5.heap.size, 0, none⟩ 1 1 (ivals [(i : Int)]) rfl rfl (HNW.out w5) (ivals_one _) (by omega) (HMX.out _ h21c).1 (HMX.out _ h21c).2 (by simp; omega) _ rfl ?_))); intro g6 cap6 w6 hown hgrow hat hlt6; have HT6 := Lib.hid ((HT5.out.rot.rot.keep ((Ext.refl w5).alloc _)).add hown hgrow (by rw [World.size_alloc]; exact hat)).rot; clear hown hgrow hat; go_wp2_with fail; go_roundw; (case rel => exact ⟨i + 1, A ++ [(i : Int)], B, C ++ [(i : Int)], by omega, by go_num, HT6.out, HT.out.2.left hn2 HC.out⟩); (case measure => simp [intOf]; omega))
      · have e0 : ((i : Int) == 0) = false := by rw [beq_eq_false_iff_ne]; omega
        by_cases hin : i < n - 1
        · have HC := Lib.hid (show i = 0 ∨ i < n - 1 from .inr hin)
          have e1 : decide ((i : Int) < (n : Int) - 1) = true := decide_eq_true (by omega)
          go_wp2_with fail
          refine (around_c _ _ _ (by omega) (by omega) H1.out).mono ?_
          rintro e w9 ⟨rfl, rfl⟩
          have hm := aroundF_bd a1 1048576 (by omega)
          obtain ⟨K, hK⟩ : ∃ K : Nat, aroundF a1 1048576 = (K : Int) := ⟨(aroundF a1 1048576).toNat, by omega⟩
          rw [hK] at hm ⊢
          clear hK
          have hi20 : i < 20 := by omega
          obtain ⟨bt, hbt⟩ : ∃ b, (((K : Int) / 2 ^ i).tmod 2 == 1) = b := ⟨_, rfl⟩
          go_upto_if 58 with (fail)
          cases bt with
          | true =>
            (((go_wp2_with (at_builtin; refine wpList_append_lies _ rfl _ _ _ rfl w.heap.size 3 i0 _ 1 8 Try.underlying22 hi0 hz0 hz1 hz2 rfl (by omega) u10 A.length (ivals A) rfl (VRow.ext ((Ext.refl wr).alloc _) HT.out.1.ra) ⟨wr.heap.size, 0, none⟩ 1 1 (ivals [(i : Int)]) rfl rfl (HNW.out wr) (ivals_one _) (by omega) (HMX.out _ h21a).1 (HMX.out _ h21a).2 (by simp; omega) _ rfl ?_))); intro g5 cap5 w5 hown hgrow hat hlt5; have HT5 := Lib.hid ((HT.out.1.keep ((Ext.refl wr).alloc _)).add hown hgrow (by rw [World.size_alloc]; exact hat)); have hs5 := HT5.out.ext.size; clear hown hgrow hat; ((go_wp2_with (at_builtin; refine wpList_append_lies _ rfl _ _ _ rfl w.heap.size 3 i0 _ 1 8 Try.underlying22 hi0 hz0 hz1 hz2 rfl (by omega) u12 C.length (ivals C) rfl (VRow.ext ((Ext.refl w5).alloc _) HT5.out.rc) ⟨w5.heap.size, 0, none⟩ 1 1 (ivals [(i : Int)]) rfl rfl (HNW.out w5) (ivals_one _) (by omega) (HMX.out _ h21c).1 (HMX.out _ h21c).2 (by simp; omega) _ rfl ?_))); intro g6 cap6 w6 hown hgrow hat hlt6; have HT6 := Lib.hid ((HT5.out.rot.rot.keep ((Ext.refl w5).alloc _)).add hown hgrow (by rw [World.size_alloc]; exact hat)).rot; clear hown hgrow hat; go_wp2_with fail; go_roundw; (case rel => exact ⟨i + 1, A ++ [(i : Int)], B, C ++ [(i : Int)], by omega, by go_num, HT6.out, HT.out.2.left hn2 HC.out⟩); (case measure => simp [intOf]; omega))
          | false =>
            (((go_wp2_with (at_builtin; refine wpList_append_lies _ rfl _ _ _ rfl w.heap.size 3 i0 _ 1 8 Try.underlying22 hi0 hz0 hz1 hz2 rfl (by omega) u11 B.length (ivals B) rfl (VRow.ext ((Ext.refl wr).alloc _) HT.out.1.rb) ⟨wr.heap.size, 0, none⟩ 1 1 (ivals [(i : Int)]) rfl rfl (HNW.out wr) (ivals_one _) (by omega) (HMX.out _ h21b).1 (HMX.out _ h21b).2 (by simp; omega) _ rfl ?_))); intro g5 cap5 w5 hown hgrow hat hlt5; have HT5 := Lib.hid ((HT.out.1.rot.keep ((Ext.refl wr).alloc _)).add hown hgrow (by rw [World.size_alloc]; exact hat)); have hs5 := HT5.out.ext.size; clear hown hgrow hat; ((go_wp2_with (at_builtin; refine wpList_append_lies _ rfl _ _ _ rfl w.heap.size 3 i0 _ 1 8 Try.underlying22 hi0 hz0 hz1 hz2 rfl (by omega) u12 C.length (ivals C) rfl (VRow.ext ((Ext.refl w5).alloc _) HT5.out.rb) ⟨w5.heap.size, 0, none⟩ 1 1 (ivals [(i : Int)]) rfl rfl (HNW.out w5) (ivals_one _) (by omega) (HMX.out _ h21c).1 (HMX.out _ h21c).2 (by simp; omega) _ rfl ?_))); intro g6 cap6 w6 hown hgrow hat hlt6; have HT6 := Lib.hid ((HT5.out.rot.keep ((Ext.refl w5).alloc _)).add hown hgrow (by rw [World.size_alloc]; exact hat)).rot; clear hown hgrow hat; go_wp2_with fail; go_roundw; (case rel => exact ⟨i + 1, A, B ++ [(i : Int)], C ++ [(i : Int)], by omega, by go_num, HT6.out, HT.out.2.right (by omega) hlt⟩); (case measure => simp [intOf]; omega))
        · have e1 : decide ((i : Int) < (n : Int) - 1) = false := decide_eq_false (by omega)
          (((go_wp2_with (at_builtin; refine wpList_append_lies _ rfl _ _ _ rfl w.heap.size 3 i0 _ 1 8 Try.underlying22 hi0 hz0 hz1 hz2 rfl (by omega) u11 B.length (ivals B) rfl (VRow.ext ((Ext.refl wr).alloc _) HT.out.1.rb) ⟨wr.heap.size, 0, none⟩ 1 1 (ivals [(i : Int)]) rfl rfl (HNW.out wr) (ivals_one _) (by omega) (HMX.out _ h21b).1 (HMX.out _ h21b).2 (by simp; omega) _ rfl ?_))); intro g5 cap5 w5 hown hgrow hat hlt5; have HT5 := Lib.hid ((HT.out.1.rot.keep ((Ext.refl wr).alloc _)).add hown hgrow (by rw [World.size_alloc]; exact hat)); have hs5 := HT5.out.ext.size; clear hown hgrow hat; ((go_wp2_with (at_builtin; refine wpList_append_lies _ rfl _ _ _ rfl w.heap.size 3 i0 _ 1 8 Try.underlying22 hi0 hz0 hz1 hz2 rfl (by omega) u12 C.length (ivals C) rfl (VRow.ext ((Ext.refl w5).alloc _) HT5.out.rb) ⟨w5.heap.size, 0, none⟩ 1 1 (ivals [(i : Int)]) rfl rfl (HNW.out w5) (ivals_one _) (by omega) (HMX.out _ h21c).1 (HMX.out _ h21c).2 (by simp; omega) _ rfl ?_))); intro g6 cap6 w6 hown hgrow hat hlt6; have HT6 := Lib.hid ((HT5.out.rot.keep ((Ext.refl w5).alloc _)).add hown hgrow (by rw [World.size_alloc]; exact hat)).rot; clear hown hgrow hat; go_wp2_with fail; go_roundw; (case rel => exact ⟨i + 1, A, B ++ [(i : Int)], C ++ [(i : Int)], by omega, by go_num, HT6.out, HT.out.2.right (by omega) hlt⟩); (case measure => simp [intOf]; omega))
      --}}
    · obtain rfl : i = n := by omega
      obtain ⟨aa, ac, rfl, hIA⟩ := row_ints HT.out.1.ra HT.out.2.a (by omega)
      obtain ⟨ba, bc, rfl, hIB⟩ := row_ints HT.out.1.rb HT.out.2.b (by omega)
      obtain ⟨ca, cc, rfl, hIC⟩ := row_ints HT.out.1.rc HT.out.2.c (by omega)
      have HIS := Lib.hid (And.intro hIA (And.intro hIB (And.intro hIC HT.out.1.ext)))
      have HP := Lib.hid HT.out.2
      obtain ⟨G, hG⟩ : ∃ G, wr.heap.size = G := ⟨_, rfl⟩
      clear hIA hIB hIC HT
      go_upto_region 13 with (fail)
      obtain ⟨gsP, hgsP⟩ : ∃ g, ([⟨aa, A.length, ac⟩, ⟨ba, B.length, bc⟩, ⟨ca, C.length, cc⟩] : List Sl) = g := ⟨_, rfl⟩
      have hEX : Ext wr (((wr.alloc (.cells #[.slice aa A.length ac, .slice ba B.length bc, .slice ca C.length cc] 22)).alloc (.cells #[.int .i64 1, .int .i64 2, .int .i64 3] 3)).alloc (.cells #[.int .i64 (i : Int), .slice (some ⟨G, 0, none⟩) 3 3, .slice (some ⟨G + 1, 0, none⟩) 3 3] 31)) := (((Ext.refl wr).alloc _).alloc _).alloc _
      have hla2 := HP.out.a.len
      have hlb2 := HP.out.b.len
      have hlc2 := HP.out.c.len
      refine wp_gen (fun W => Ext w W ∧ Blk W (G + 1 + 1) #[.int .i64 (i : Int), .slice (some ⟨G, 0, none⟩) 3 3, .slice (some ⟨G + 1, 0, none⟩) 3 3] 31 ∧ ShIn W (i : Int) ⟨some ⟨G, 0, none⟩, 3, 3⟩ ⟨some ⟨G + 1, 0, none⟩, 3, 3⟩ gsP [A, B, C] [1, 2, 3])
        ⟨HIS.out.2.2.2.trans hEX, Blk.at _ _ (by simp [hG]), by rw [← hgsP]; exact tri_shin (HIS.out.1.keep hEX.ik) (HIS.out.2.1.keep hEX.ik) (HIS.out.2.2.1.keep hEX.ik) (((Blk.at _ _ hG.symm).alloc _).alloc _) ((Blk.at _ _ (by simp [hG])).alloc _) (by omega) (by omega) (by omega)⟩ ?_
      have HV0 := Lib.hid (And.intro (tri_valid HP.out hn2 (by omega)) (show FewOK [A, B, C] from .inl (by simp)))
      obtain ⟨LP, hLP⟩ : ∃ l, [A, B, C] = l := ⟨_, rfl⟩
      have hLP3 : LP.length = 3 := by rw [← hLP]; rfl
      have HYN := Lib.hid (show ∀ k, k < 3 → dB LP (h1of k) k = true ∧ dB LP (h2of k) k = false from fun k hk => by rw [← hLP]; exact ⟨par_yes HP.out k hk, par_no HP.out hn2 k hk⟩)
      rw [hLP] at HV0
      simp only [hLP]
      have HL3 := Lib.hid hLP3
      clear hEX hla2 hlb2 hlc2 HIS hgsP hG hLP hLP3
      intro W0 hS
      have HS := Lib.hid hS
      clear hS
      go_wp2_with fail
      go_loopw [15] (fun v ws => ∃ k : Nat, k ≤ 3 ∧ v = .int .i64 (k : Int) ∧ Ext W0 ws) (fun v _ => 3 - (intOf v).toNat)
      case atStart => exact ⟨0, by omega, rfl, Ext.refl _⟩
      case round =>
        rename World => ws
        obtain ⟨k, hk, rfl, hE⟩ := hrel
        have HK := Lib.hid hE
        have hszk := hE.size
        clear hE
        by_cases hk3 : k < 3
        · --{{
          obtain ⟨Hk, hHk⟩ : ∃ k, ws.heap.size = k := ⟨_, rfl⟩
          have k0 : (0 : Int) ≤ (k : Int) := by omega
          have k1 : (k : Int) < 3 := by omega
          have hB0 : Blk (ws.alloc (.cells #[.bool false, .bool false, .bool false] 4)) Hk (bvals [false, false, false]).toArray 4 := Blk.at _ _ hHk.symm
          have c0 := bvals_cell hB0 k (by simpa using hk3)
          have c1 := hB0.free k
          have HB0 := Lib.hid hB0
          clear hB0
          go_upto_region 18 with (fail)
          have hlen1 : (h1of k).length = 3 := by simp [h1of]
          have hlen2 : (h2of k).length = 3 := by simp [h2of, h1of]
          obtain ⟨k2, hk2⟩ : ∃ j : Nat, (k + 1) % 3 = j := ⟨_, rfl⟩
          have hk23 : k2 < 3 := by omega
          have hset : (h1of k).set k2 true = h2of k := by unfold h2of; rw [hk2]
          have hmod : ((k : Int) + 1).tmod 3 = (k2 : Int) := by rw [Int.tmod_eq_emod_of_nonneg (by omega)]; omega
          have HSE := Lib.hid (And.intro hset (And.intro hlen1 hlen2))
          clear hset hlen1 hlen2 hk2
          refine wp_gen (fun W => Ext ws W ∧ Blk W Hk (bvals (h1of k)).toArray 4) ⟨(Ext.refl ws).alloc _, by rw [show (bvals (h1of k)).toArray = ([Value.bool false, Value.bool false, Value.bool false].set k (Value.bool true)).toArray by simp [bvals, h1of, List.map_set]]; exact Blk.at _ _ hHk.symm⟩ ?_
          clear c0 c1 HB0
          intro W1 hW
          have HW := Lib.hid hW
          have HE1 := Lib.hid (HK.out.trans hW.1)
          clear hW
          have hb1 := HS.out.2.1.ext HE1.out
          have x0 : W1.cell? ⟨G + 1 + 1, 0, none⟩ = some (.int .i64 (i : Int)) := hb1.cell 0
          have x1 : W1.cell? ⟨G + 1 + 1, 1, none⟩ = some (.slice (some ⟨G, 0, none⟩) 3 3) := hb1.cell 1
          have x2 : W1.cell? ⟨G + 1 + 1, 2, none⟩ = some (.slice (some ⟨G + 1, 0, none⟩) 3 3) := hb1.cell 2
          clear hb1
          go_wp2_with fail
          refine (det_ok (i : Int) ⟨some ⟨G, 0, none⟩, 3, 3⟩ ⟨some ⟨G + 1, 0, none⟩, 3, 3⟩ gsP LP [1, 2, 3] (some ⟨Hk, 0, none⟩) 3 3 (h1of k) k _ (HS.out.2.2.ext HE1.out) (blk_bls HW.out.2 HSE.out.2.1) HV0.out.1 HL3.out.symm HV0.out.2 (by rw [HL3.out]; exact hk3)).mono ?_
          rintro e W2 ⟨rfl, hx⟩
          rw [(HYN.out k hk3).1]
          have hb2 := HW.out.2.ext hx
          have c0 := bvals_cell hb2 k2 (by rw [HSE.out.2.1]; exact hk23)
          have c1 := hb2.free k2
          have HB2 := Lib.hid (And.intro hb2 (HE1.out.trans hx))
          have hsk := hb2.lt
          have k20 : (0 : Int) ≤ (k2 : Int) := by omega
          have k21 : (k2 : Int) < 3 := by omega
          clear hb2 hx x0 x1 x2
          go_upto_region 20 with (fail)
          have hW0 : W0.heap.size ≤ Hk := by omega
          refine wp_gen (fun W => Ext W0 W ∧ Blk W Hk (bvals (h2of k)).toArray 4) ⟨HB2.out.2.setCell (by simp only; omega) _, by rw [← HSE.out.1]; exact bvals_put HB2.out.1⟩ ?_
          clear c0 c1 HB2 hsk
          intro W3 hW
          have HW3 := Lib.hid hW
          clear hW
          have hb1 := HS.out.2.1.ext HW3.out.1
          have x0 : W3.cell? ⟨G + 1 + 1, 0, none⟩ = some (.int .i64 (i : Int)) := hb1.cell 0
          have x1 : W3.cell? ⟨G + 1 + 1, 1, none⟩ = some (.slice (some ⟨G, 0, none⟩) 3 3) := hb1.cell 1
          have x2 : W3.cell? ⟨G + 1 + 1, 2, none⟩ = some (.slice (some ⟨G + 1, 0, none⟩) 3 3) := hb1.cell 2
          clear hb1
          go_wp2_with fail
          refine (det_ok (i : Int) ⟨some ⟨G, 0, none⟩, 3, 3⟩ ⟨some ⟨G + 1, 0, none⟩, 3, 3⟩ gsP LP [1, 2, 3] (some ⟨Hk, 0, none⟩) 3 3 (h2of k) k _ (HS.out.2.2.ext HW3.out.1) (blk_bls HW3.out.2 HSE.out.2.2) HV0.out.1 HL3.out.symm HV0.out.2 (by rw [HL3.out]; exact hk3)).mono ?_
          rintro e W4 ⟨rfl, hx⟩
          rw [(HYN.out k hk3).2]
          have HE4 := Lib.hid (HW3.out.1.trans hx)
          clear hx x0 x1 x2
          go_wp2_with fail
          go_roundw
          case rel => exact ⟨k + 1, by omega, by go_num, HE4.out⟩
          case measure => simp [intOf]; omega
          --}}
        · have hk33 : ¬ (k : Int) < 3 := by omega
          have HE0 := Lib.hid (HS.out.1.trans HK.out)
          obtain ⟨F20, hF20⟩ : ∃ l, List.replicate 20 false = l := ⟨_, rfl⟩
          have hmk : ∀ W : World, (Instr.makeSlice 34 (.int .i64 20) (.int .i64 20)).run Try.prog W = .ok (.slice (some ⟨W.heap.size, 0, none⟩) 20 20) (W.alloc (.cells (bvals F20).toArray 4)) := fun W => by rw [← hF20]; exact make_bools 20 20 20 rfl rfl (by omega) W
          have HMK := Lib.hid (And.intro hmk hF20)
          clear hmk hF20 HS HV0 HYN HL3 HP HK
          obtain ⟨T, hT⟩ : ∃ T, ws.heap.size = T := ⟨_, rfl⟩
          have hmk1 := HMK.out.1 (ws.alloc (.cells #[.int .i64 12, .slice none 0 0, .slice none 0 0] 31))
          have hmk2 := HMK.out.1 ((ws.alloc (.cells #[.int .i64 12, .slice none 0 0, .slice none 0 0] 31)).alloc (.cells (bvals F20).toArray 4))
          go_upto_region 26 with (fail)
          have hzr : ∀ P, hidT P 0 = F20 := fun P => by rw [hidT_zero]; exact HMK.out.2
          refine wp_gen (fun W => TabI ws W T (.slice none 0 0) [] [] F20 F20) ⟨by omega, (((Ext.refl ws).alloc _).alloc _).alloc _, ((Blk.at _ _ hT.symm).alloc _).alloc _, GSh.nil _ _, (Blk.at _ _ (by simp [hT])).alloc _, Blk.at _ _ (by simp [hT])⟩ ?_
          have HZR := Lib.hid hzr
          clear hmk1 hmk2 HMK hT hzr
          intro W5 hW
          have HW5 := Lib.hid hW
          clear hW
          go_wp2_with fail
          refine (around_c _ _ _ (by omega) (by omega) H2.out).mono ?_
          rintro e w9 ⟨rfl, rfl⟩
          have hx := aroundF_bd a2 3 (by omega)
          obtain ⟨x, hxe⟩ : ∃ K : Nat, aroundF a2 3 = (K : Int) := ⟨(aroundF a2 3).toNat, by omega⟩
          rw [hxe] at hx ⊢
          clear hxe
          go_wp2_with fail
          refine (around_c _ _ _ (by omega) (by omega) H3.out).mono ?_
          rintro e w9 ⟨rfl, rfl⟩
          have hy := aroundF_bd a3 4 (by omega)
          obtain ⟨y, hye⟩ : ∃ K : Nat, aroundF a3 4 = (K : Int) := ⟨(aroundF a3 4).toNat, by omega⟩
          rw [hye] at hy ⊢
          clear hye
          have hx3 : x < 3 := by omega
          have hy4 : y < 4 := by omega
          clear hx hy
          go_wp2_with fail
          go_loopw [26] (fun v wt => ∃ (q : Nat) (vS : Value) (gsq : List Sl), q ≤ 12 ∧ v = .int .i64 (q : Int) ∧ TabI ws wt T vS gsq (sngL q) (hidT (oneF x y) q) (hidT (fourF x y) q)) (fun v _ => 12 - (intOf v).toNat)
          case atStart => exact ⟨0, _, _, by omega, rfl, by rw [HZR.out, HZR.out]; exact HW5.out⟩
          case round =>
            rename World => wt
            obtain ⟨q, vS, gsq, hq, rfl, hTb⟩ := hrel
            have HT := Lib.hid hTb
            have y1 : wt.cell? ⟨T, 1, none⟩ = some vS := hTb.box.cell 1
            have hbt := hTb.h2.lt
            clear hTb
            by_cases hq12 : q < 12
            · --{{
              have h64 : Int64 (q : Int) := ⟨by omega, by omega⟩
              have hSLl : (sngL q).length = q := by simp [sngL]
              have hSLs : sngL (q + 1) = sngL q ++ [[(q : Int)]] := by simp [sngL, List.range_succ]
              obtain ⟨SL, hSL⟩ : ∃ l, sngL q = l := ⟨_, rfl⟩
              rw [hSL] at HT hSLl hSLs
              have HSL := Lib.hid (And.intro hSLl hSLs)
              have HVI := Lib.hid ((ints_one wt (q : Int) h64).keep ((Ext.refl _).alloc (.cells #[.slice (some ⟨wt.heap.size, 0, none⟩) 1 1] 22)).ik)
              have hltS : ∀ x, vS.ownBlock = some x → x < wt.heap.size := fun x hx => (owns_lt HT.out.own.S hx).2
              have HLT := Lib.hid hltS
              clear hSL hSLl hSLs h64 hltS
              go_wp2_with (at_builtin; refine wpList_append_lies _ rfl _ _ _ rfl (T + 1 + 1 + 1) 22 j0 _ 1 24 Try.underlying23 hj0 hy0 hy1 hy2 rfl (by omega) vS SL.length (gsq.map Sl.v) rfl (owns_ext (((Ext.refl wt).alloc _).alloc _) HT.out.own.S) ⟨wt.heap.size + 1, 0, none⟩ 1 1 [.slice (some ⟨wt.heap.size, 0, none⟩) 1 1] rfl rfl (World.news_of_block (cs := #[.slice (some ⟨wt.heap.size, 0, none⟩) 1 1]) (t := 22) (fr := (0, 0)) (by have h9 := heap_alloc_new (wt.alloc (.cells #[.int .i64 (q : Int)] 3)) (.cells #[.slice (some ⟨wt.heap.size, 0, none⟩) 1 1] 22); rw [World.size_alloc] at h9; exact h9)) (by simp [Value.oneCell']) (by omega) (by have := HSL.out.1; rw [maxLen]; omega) (by have := HSL.out.1; omega) (by simp; omega) _ rfl ?_)
              intro g7 cap7 w7 hown hgrow hat hlt7
              obtain ⟨t1, t2, hS3⟩ := (HT.out.keep (((Ext.refl wt).alloc (.cells #[.int .i64 (q : Int)] 3)).alloc (.cells #[.slice (some ⟨wt.heap.size, 0, none⟩) 1 1] 22))).addS (L := [(q : Int)]) HVI.out (by omega) (by rw [World.size_alloc, World.size_alloc]; omega) (fun e => by have := HLT.out _ e; omega) hown hgrow (by rw [World.size_alloc, World.size_alloc]; exact hat)
              have HS3 := Lib.hid hS3
              clear hown hgrow hat hS3
              obtain ⟨b1, hb1⟩ : ∃ b, oneF x y q = b := ⟨_, rfl⟩
              have hq1 : ((q : Int) == 4 * (x : Int) + (y : Int)) = b1 := by rw [← hb1]; unfold oneF; rw [Bool.eq_iff_iff, beq_iff_eq, decide_eq_true_eq]
              have HB1 := Lib.hid hb1
              clear hb1
              go_upto_region 32 with (fail)
              refine wp_gen (fun W => TabI ws W T (.slice (some ⟨g7, 0, none⟩) (SL.length + 1) cap7) (gsq ++ [⟨some ⟨wt.heap.size, 0, none⟩, 1, 1⟩]) (SL ++ [[(q : Int)]]) (hidT (oneF x y) q) (hidT (fourF x y) q)) HS3.out ?_
              clear HS3 t1 t2 y1
              intro W6 hW
              have HW6 := Lib.hid hW
              have c0 := bvals_cell hW.h1 q (by rw [hidT_len]; omega)
              have c1 := hW.h1.free q
              have hbT := hW.h1.lt
              clear hW
              have q0 : (0 : Int) ≤ (q : Int) := by omega
              have q1 : (q : Int) < 20 := by omega
              go_upto_region 33 with (fail)
              refine wp_gen (fun W => TabI ws W T (.slice (some ⟨g7, 0, none⟩) (SL.length + 1) cap7) (gsq ++ [⟨some ⟨wt.heap.size, 0, none⟩, 1, 1⟩]) (SL ++ [[(q : Int)]]) (hidT (oneF x y) (q + 1)) (hidT (fourF x y) q)) (by rw [← hidT_succ _ _ (by omega), HB1.out]; exact HW6.out.put1) ?_
              clear HW6 c0 c1 hq1 hbT
              intro W7 hW
              have HW7 := Lib.hid hW
              have c0 := bvals_cell hW.h2 q (by rw [hidT_len]; omega)
              have c1 := hW.h2.free q
              have hbT := hW.h2.lt
              clear hW
              obtain ⟨qd, hqd⟩ : ∃ k, q / 4 = k := ⟨_, rfl⟩
              obtain ⟨qm, hqm⟩ : ∃ k, q % 4 = k := ⟨_, rfl⟩
              obtain ⟨xx, hxx⟩ : ∃ k, (x + 1) % 3 = k := ⟨_, rfl⟩
              obtain ⟨yy, hyy⟩ : ∃ k, (y + 1) % 4 = k := ⟨_, rfl⟩
              have e1 : (q : Int) / 4 = (qd : Int) := by omega
              have e2 : (q : Int).tmod 4 = (qm : Int) := by rw [Int.tmod_eq_emod_of_nonneg (by omega)]; omega
              have e3 : ((x : Int) + 1).tmod 3 = (xx : Int) := by rw [Int.tmod_eq_emod_of_nonneg (by omega)]; omega
              have e4 : ((y : Int) + 1).tmod 4 = (yy : Int) := by rw [Int.tmod_eq_emod_of_nonneg (by omega)]; omega
              have HF4 := Lib.hid (show fourF x y q = ((decide (qd = x) || decide (qd = xx)) && (decide (qm = y) || decide (qm = yy))) from by unfold fourF; rw [hqd, hqm, hxx, hyy])
              clear hqd hqm hxx hyy
              by_cases p1 : qd = x
              · have d1 : ((qd : Int) == (x : Int)) = true := beq_iff_eq.2 (by omega)
                by_cases p3 : qm = y
                · have d3 : ((qm : Int) == (y : Int)) = true := beq_iff_eq.2 (by omega)
                  (have HFF := Lib.hid (show fourF x y q = true from by rw [HF4.out]; simp_all); go_upto_region 30 with (fail); refine wp_gen (fun W => TabI ws W T (.slice (some ⟨g7, 0, none⟩) (SL.length + 1) cap7) (gsq ++ [⟨some ⟨wt.heap.size, 0, none⟩, 1, 1⟩]) (SL ++ [[(q : Int)]]) (hidT (oneF x y) (q + 1)) (hidT (fourF x y) (q + 1))) (by rw [← hidT_succ (fourF x y) _ (by omega), HFF.out]; exact HW7.out.put2) ?_; clear c0 c1; intro W8 hW; have HW8 := Lib.hid hW; clear hW; go_wp2_with fail; go_roundw; (case rel => exact ⟨q + 1, _, _, by omega, by go_num, by rw [HSL.out.2]; exact HW8.out⟩); (case measure => simp [intOf]; omega))
                · have d3 : ((qm : Int) == (y : Int)) = false := beq_eq_false_iff_ne.2 (by omega)
                  by_cases p4 : qm = yy
                  · have d4 : ((qm : Int) == (yy : Int)) = true := beq_iff_eq.2 (by omega)
                    (have HFF := Lib.hid (show fourF x y q = true from by rw [HF4.out]; simp_all); go_upto_region 30 with (fail); refine wp_gen (fun W => TabI ws W T (.slice (some ⟨g7, 0, none⟩) (SL.length + 1) cap7) (gsq ++ [⟨some ⟨wt.heap.size, 0, none⟩, 1, 1⟩]) (SL ++ [[(q : Int)]]) (hidT (oneF x y) (q + 1)) (hidT (fourF x y) (q + 1))) (by rw [← hidT_succ (fourF x y) _ (by omega), HFF.out]; exact HW7.out.put2) ?_; clear c0 c1; intro W8 hW; have HW8 := Lib.hid hW; clear hW; go_wp2_with fail; go_roundw; (case rel => exact ⟨q + 1, _, _, by omega, by go_num, by rw [HSL.out.2]; exact HW8.out⟩); (case measure => simp [intOf]; omega))
                  · have d4 : ((qm : Int) == (yy : Int)) = false := beq_eq_false_iff_ne.2 (by omega)
                    (have HFF := Lib.hid (show fourF x y q = false from by rw [HF4.out]; simp_all); go_upto_region 30 with (fail); refine wp_gen (fun W => TabI ws W T (.slice (some ⟨g7, 0, none⟩) (SL.length + 1) cap7) (gsq ++ [⟨some ⟨wt.heap.size, 0, none⟩, 1, 1⟩]) (SL ++ [[(q : Int)]]) (hidT (oneF x y) (q + 1)) (hidT (fourF x y) (q + 1))) (by rw [← hidT_succ (fourF x y) _ (by omega), HFF.out]; exact HW7.out.put2) ?_; clear c0 c1; intro W8 hW; have HW8 := Lib.hid hW; clear hW; go_wp2_with fail; go_roundw; (case rel => exact ⟨q + 1, _, _, by omega, by go_num, by rw [HSL.out.2]; exact HW8.out⟩); (case measure => simp [intOf]; omega))
              · have d1 : ((qd : Int) == (x : Int)) = false := beq_eq_false_iff_ne.2 (by omega)
                by_cases p2 : qd = xx
                · have d2 : ((qd : Int) == (xx : Int)) = true := beq_iff_eq.2 (by omega)
                  by_cases p3 : qm = y
                  · have d3 : ((qm : Int) == (y : Int)) = true := beq_iff_eq.2 (by omega)
                    (have HFF := Lib.hid (show fourF x y q = true from by rw [HF4.out]; simp_all); go_upto_region 30 with (fail); refine wp_gen (fun W => TabI ws W T (.slice (some ⟨g7, 0, none⟩) (SL.length + 1) cap7) (gsq ++ [⟨some ⟨wt.heap.size, 0, none⟩, 1, 1⟩]) (SL ++ [[(q : Int)]]) (hidT (oneF x y) (q + 1)) (hidT (fourF x y) (q + 1))) (by rw [← hidT_succ (fourF x y) _ (by omega), HFF.out]; exact HW7.out.put2) ?_; clear c0 c1; intro W8 hW; have HW8 := Lib.hid hW; clear hW; go_wp2_with fail; go_roundw; (case rel => exact ⟨q + 1, _, _, by omega, by go_num, by rw [HSL.out.2]; exact HW8.out⟩); (case measure => simp [intOf]; omega))
                  · have d3 : ((qm : Int) == (y : Int)) = false := beq_eq_false_iff_ne.2 (by omega)
                    by_cases p4 : qm = yy
                    · have d4 : ((qm : Int) == (yy : Int)) = true := beq_iff_eq.2 (by omega)
                      (have HFF := Lib.hid (show fourF x y q = true from by rw [HF4.out]; simp_all); go_upto_region 30 with (fail); refine wp_gen (fun W => TabI ws W T (.slice (some ⟨g7, 0, none⟩) (SL.length + 1) cap7) (gsq ++ [⟨some ⟨wt.heap.size, 0, none⟩, 1, 1⟩]) (SL ++ [[(q : Int)]]) (hidT (oneF x y) (q + 1)) (hidT (fourF x y) (q + 1))) (by rw [← hidT_succ (fourF x y) _ (by omega), HFF.out]; exact HW7.out.put2) ?_; clear c0 c1; intro W8 hW; have HW8 := Lib.hid hW; clear hW; go_wp2_with fail; go_roundw; (case rel => exact ⟨q + 1, _, _, by omega, by go_num, by rw [HSL.out.2]; exact HW8.out⟩); (case measure => simp [intOf]; omega))
                    · have d4 : ((qm : Int) == (yy : Int)) = false := beq_eq_false_iff_ne.2 (by omega)
                      (have HFF := Lib.hid (show fourF x y q = false from by rw [HF4.out]; simp_all); go_upto_region 30 with (fail); refine wp_gen (fun W => TabI ws W T (.slice (some ⟨g7, 0, none⟩) (SL.length + 1) cap7) (gsq ++ [⟨some ⟨wt.heap.size, 0, none⟩, 1, 1⟩]) (SL ++ [[(q : Int)]]) (hidT (oneF x y) (q + 1)) (hidT (fourF x y) (q + 1))) (by rw [← hidT_succ (fourF x y) _ (by omega), HFF.out]; exact HW7.out.put2) ?_; clear c0 c1; intro W8 hW; have HW8 := Lib.hid hW; clear hW; go_wp2_with fail; go_roundw; (case rel => exact ⟨q + 1, _, _, by omega, by go_num, by rw [HSL.out.2]; exact HW8.out⟩); (case measure => simp [intOf]; omega))
                · have d2 : ((qd : Int) == (xx : Int)) = false := beq_eq_false_iff_ne.2 (by omega)
                  (have HFF := Lib.hid (show fourF x y q = false from by rw [HF4.out]; simp_all); go_upto_region 30 with (fail); refine wp_gen (fun W => TabI ws W T (.slice (some ⟨g7, 0, none⟩) (SL.length + 1) cap7) (gsq ++ [⟨some ⟨wt.heap.size, 0, none⟩, 1, 1⟩]) (SL ++ [[(q : Int)]]) (hidT (oneF x y) (q + 1)) (hidT (fourF x y) (q + 1))) (by rw [← hidT_succ (fourF x y) _ (by omega), HFF.out]; exact HW7.out.put2) ?_; clear c0 c1; intro W8 hW; have HW8 := Lib.hid hW; clear hW; go_wp2_with fail; go_roundw; (case rel => exact ⟨q + 1, _, _, by omega, by go_num, by rw [HSL.out.2]; exact HW8.out⟩); (case measure => simp [intOf]; omega))
              --}}
            · have hqe : q = 12 := by omega
              have hqn : ¬ (q : Int) < 12 := by omega
              obtain ⟨F1, hF1⟩ : ∃ l, hidT (oneF x y) 12 = l := ⟨_, rfl⟩
              obtain ⟨F2, hF2⟩ : ∃ l, hidT (fourF x y) 12 = l := ⟨_, rfl⟩
              have HT2 := Lib.hid (show TabI ws wt T vS gsq (sngL 12 ++ rowL 0) F1 F2 from by rw [← hF1, ← hF2, show sngL 12 ++ rowL 0 = sngL 12 by simp [rowL]]; subst hqe; exact HT.out)
              have HFF := Lib.hid (And.intro hF1 hF2)
              have HY := Lib.hid (show ∀ k, k < 12 → dB tabL F1 k = true ∧ dB tabL F2 k = !fourF x y k from fun k hk => by rw [← hF1, ← hF2]; exact ⟨tab_yes x y k hx3 hy4 hk, tab_four x y k hx3 hy4 hk⟩)
              clear hF1 hF2 HT hqe y1
              go_wp2_with fail
              go_loopw [27] (fun v wu => ∃ (p : Nat) (vT : Value) (gsp : List Sl), p ≤ 3 ∧ v = .int .i64 (p : Int) ∧ TabI ws wu T vT gsp (sngL 12 ++ rowL p) F1 F2) (fun v _ => 3 - (intOf v).toNat)
              case atStart => exact ⟨0, _, _, by omega, rfl, HT2.out⟩
              case round =>
                rename World => wu
                obtain ⟨p, vT, gsp, hp, rfl, hTb⟩ := hrel
                have hbu := hTb.h2.lt
                have y1 : wu.cell? ⟨T, 1, none⟩ = some vT := hTb.box.cell 1
                have hl : (sngL 12 ++ rowL p).length = 12 + p := by simp [sngL, rowL]
                have hs : sngL 12 ++ rowL (p + 1) = sngL 12 ++ rowL p ++ [[4 * (p : Int), 4 * (p : Int) + 1, 4 * (p : Int) + 2, 4 * (p : Int) + 3]] := by simp [rowL, List.range_succ]
                by_cases hp3 : p < 3
                · --{{
                  obtain ⟨LS, hLS⟩ : ∃ l, sngL 12 ++ rowL p = l := ⟨_, rfl⟩
                  rw [hLS] at hTb hl hs
                  have HTb := Lib.hid hTb
                  have HLE := Lib.hid hl
                  have HLS := Lib.hid hs
                  clear hTb hl hs hLS HT2
                  (have HVI := Lib.hid ((show Ints (wu.alloc (.cells #[.int .i64 (4 * (p : Int)), .int .i64 (4 * (p : Int) + 1), .int .i64 (4 * (p : Int) + 2), .int .i64 (4 * (p : Int) + 3)] 3)) (some ⟨wu.heap.size, 0, none⟩) 4 [4 * (p : Int), 4 * (p : Int) + 1, 4 * (p : Int) + 2, 4 * (p : Int) + 3] from blk_ints (l := [4 * (p : Int), 4 * (p : Int) + 1, 4 * (p : Int) + 2, 4 * (p : Int) + 3]) (Blk.at _ _ rfl) rfl (by simp [totL]) (fun x hx => by simp only [totL, List.mem_cons, List.not_mem_nil, or_false] at hx; exact ⟨by omega, by omega⟩)).keep ((Ext.refl _).alloc (.cells #[.slice (some ⟨wu.heap.size, 0, none⟩) 4 4] 22)).ik); have hltS : ∀ x, (vT).ownBlock = some x → x < wu.heap.size := fun x hx => (owns_lt HTb.out.own.S hx).2; have HLT := Lib.hid hltS; clear hltS; go_wp2_with (at_builtin; refine wpList_append_lies _ rfl _ _ _ rfl (T + 1 + 1 + 1) 22 j0 _ 1 24 Try.underlying23 hj0 hy0 hy1 hy2 rfl (by omega) vT LS.length (List.map Sl.v gsp) rfl (owns_ext (((Ext.refl wu).alloc _).alloc _) HTb.out.own.S) ⟨wu.heap.size + 1, 0, none⟩ 1 1 [.slice (some ⟨wu.heap.size, 0, none⟩) 4 4] rfl rfl (World.news_of_block (cs := #[.slice (some ⟨wu.heap.size, 0, none⟩) 4 4]) (t := 22) (fr := (0, 0)) (by have h9 := heap_alloc_new (wu.alloc (.cells #[.int .i64 (4 * (p : Int)), .int .i64 (4 * (p : Int) + 1), .int .i64 (4 * (p : Int) + 2), .int .i64 (4 * (p : Int) + 3)] 3)) (.cells #[.slice (some ⟨wu.heap.size, 0, none⟩) 4 4] 22); rw [World.size_alloc] at h9; exact h9)) (by simp [Value.oneCell']) (by omega) (by have := HLE.out; rw [maxLen]; omega) (by have := HLE.out; omega) (by simp; omega) _ rfl ?_); intro g7 cap7 w7 hown hgrow hat hlt7; obtain ⟨t1, t2, hS3⟩ := (HTb.out.keep (((Ext.refl wu).alloc (.cells #[.int .i64 (4 * (p : Int)), .int .i64 (4 * (p : Int) + 1), .int .i64 (4 * (p : Int) + 2), .int .i64 (4 * (p : Int) + 3)] 3)).alloc (.cells #[.slice (some ⟨wu.heap.size, 0, none⟩) 4 4] 22))).addS (L := [4 * (p : Int), 4 * (p : Int) + 1, 4 * (p : Int) + 2, 4 * (p : Int) + 3]) HVI.out (by omega) (by rw [World.size_alloc, World.size_alloc]; omega) (fun e => by have := HLT.out _ e; omega) hown hgrow (by rw [World.size_alloc, World.size_alloc]; exact hat); have HS3 := Lib.hid hS3; clear hown hgrow hat hS3)
                  go_upto_region 36 with (fail)
                  refine wp_gen (fun W => TabI ws W T (.slice (some ⟨g7, 0, none⟩) (LS.length + 1) cap7) (gsp ++ [⟨some ⟨wu.heap.size, 0, none⟩, 4, 4⟩]) (LS ++ [[4 * (p : Int), 4 * (p : Int) + 1, 4 * (p : Int) + 2, 4 * (p : Int) + 3]]) F1 F2) HS3.out ?_
                  clear HS3 t1 t2 y1
                  intro W8 hW
                  have HW8 := Lib.hid hW
                  clear hW
                  go_wp2_with fail
                  go_roundw
                  case rel => exact ⟨p + 1, _, _, by omega, by go_num, by rw [HLS.out]; exact HW8.out⟩
                  case measure => simp [intOf]; omega
                  --}}
                · have hpe : p = 3 := by omega
                  have hpn : ¬ (p : Int) < 3 := by omega
                  have HT3 := Lib.hid (show TabI ws wu T vT gsp (sngL 12 ++ rowL 3 ++ colL 0) F1 F2 from by rw [show sngL 12 ++ rowL 3 ++ colL 0 = sngL 12 ++ rowL 3 by simp [colL]]; subst hpe; exact hTb)
                  clear hTb hl hs HT2 hpe y1
                  go_wp2_with fail
                  go_loopw [28] (fun v wv => ∃ (r : Nat) (vU : Value) (gsr : List Sl), r ≤ 4 ∧ v = .int .i64 (r : Int) ∧ TabI ws wv T vU gsr (sngL 12 ++ rowL 3 ++ colL r) F1 F2) (fun v _ => 4 - (intOf v).toNat)
                  case atStart => exact ⟨0, _, _, by omega, rfl, HT3.out⟩
                  case round =>
                    rename World => wv
                    obtain ⟨r, vU, gsr, hr, rfl, hTb⟩ := hrel
                    have hbv := hTb.h2.lt
                    have y1 : wv.cell? ⟨T, 1, none⟩ = some vU := hTb.box.cell 1
                    have hl : (sngL 12 ++ rowL 3 ++ colL r).length = 15 + r := by simp [sngL, rowL, colL]; omega
                    have hs : sngL 12 ++ rowL 3 ++ colL (r + 1) = sngL 12 ++ rowL 3 ++ colL r ++ [[(r : Int), 4 + (r : Int), 8 + (r : Int)]] := by simp [colL, List.range_succ]
                    by_cases hr4 : r < 4
                    · --{{
                      obtain ⟨LS, hLS⟩ : ∃ l, sngL 12 ++ rowL 3 ++ colL r = l := ⟨_, rfl⟩
                      rw [hLS] at hTb hl hs
                      have HTb := Lib.hid hTb
                      have HLE := Lib.hid hl
                      have HLS := Lib.hid hs
                      clear hTb hl hs hLS HT3
                      (have HVI := Lib.hid ((show Ints (wv.alloc (.cells #[.int .i64 (r : Int), .int .i64 (4 + (r : Int)), .int .i64 (8 + (r : Int))] 3)) (some ⟨wv.heap.size, 0, none⟩) 3 [(r : Int), 4 + (r : Int), 8 + (r : Int)] from blk_ints (l := [(r : Int), 4 + (r : Int), 8 + (r : Int)]) (Blk.at _ _ rfl) rfl (by simp [totL]) (fun x hx => by simp only [totL, List.mem_cons, List.not_mem_nil, or_false] at hx; exact ⟨by omega, by omega⟩)).keep ((Ext.refl _).alloc (.cells #[.slice (some ⟨wv.heap.size, 0, none⟩) 3 3] 22)).ik); have hltS : ∀ x, (vU).ownBlock = some x → x < wv.heap.size := fun x hx => (owns_lt HTb.out.own.S hx).2; have HLT := Lib.hid hltS; clear hltS; go_wp2_with (at_builtin; refine wpList_append_lies _ rfl _ _ _ rfl (T + 1 + 1 + 1) 22 j0 _ 1 24 Try.underlying23 hj0 hy0 hy1 hy2 rfl (by omega) vU LS.length (List.map Sl.v gsr) rfl (owns_ext (((Ext.refl wv).alloc _).alloc _) HTb.out.own.S) ⟨wv.heap.size + 1, 0, none⟩ 1 1 [.slice (some ⟨wv.heap.size, 0, none⟩) 3 3] rfl rfl (World.news_of_block (cs := #[.slice (some ⟨wv.heap.size, 0, none⟩) 3 3]) (t := 22) (fr := (0, 0)) (by have h9 := heap_alloc_new (wv.alloc (.cells #[.int .i64 (r : Int), .int .i64 (4 + (r : Int)), .int .i64 (8 + (r : Int))] 3)) (.cells #[.slice (some ⟨wv.heap.size, 0, none⟩) 3 3] 22); rw [World.size_alloc] at h9; exact h9)) (by simp [Value.oneCell']) (by omega) (by have := HLE.out; rw [maxLen]; omega) (by have := HLE.out; omega) (by simp; omega) _ rfl ?_); intro g7 cap7 w7 hown hgrow hat hlt7; obtain ⟨t1, t2, hS3⟩ := (HTb.out.keep (((Ext.refl wv).alloc (.cells #[.int .i64 (r : Int), .int .i64 (4 + (r : Int)), .int .i64 (8 + (r : Int))] 3)).alloc (.cells #[.slice (some ⟨wv.heap.size, 0, none⟩) 3 3] 22))).addS (L := [(r : Int), 4 + (r : Int), 8 + (r : Int)]) HVI.out (by omega) (by rw [World.size_alloc, World.size_alloc]; omega) (fun e => by have := HLT.out _ e; omega) hown hgrow (by rw [World.size_alloc, World.size_alloc]; exact hat); have HS3 := Lib.hid hS3; clear hown hgrow hat hS3)
                      go_upto_region 40 with (fail)
                      refine wp_gen (fun W => TabI ws W T (.slice (some ⟨g7, 0, none⟩) (LS.length + 1) cap7) (gsr ++ [⟨some ⟨wv.heap.size, 0, none⟩, 3, 3⟩]) (LS ++ [[(r : Int), 4 + (r : Int), 8 + (r : Int)]]) F1 F2) HS3.out ?_
                      clear HS3 t1 t2 y1
                      intro W8 hW
                      have HW8 := Lib.hid hW
                      clear hW
                      go_wp2_with fail
                      go_roundw
                      case rel => exact ⟨r + 1, _, _, by omega, by go_num, by rw [HLS.out]; exact HW8.out⟩
                      case measure => simp [intOf]; omega
                      --}}
                    · have hre : r = 4 := by omega
                      have hrn : ¬ (r : Int) < 4 := by omega
                      obtain ⟨LS, hLS⟩ : ∃ l, sngL 12 ++ rowL 3 ++ colL r = l := ⟨_, rfl⟩
                      rw [hLS] at hTb hl
                      have HTb := Lib.hid hTb
                      have HLE := Lib.hid hl
                      have HLS := Lib.hid (show LS ++ [totL] = tabL from by rw [← hLS, hre]; rfl)
                      clear hTb hl hs hLS HT3 hre
                      (have HVI := Lib.hid ((show Ints (wv.alloc (.cells #[.int .i64 0, .int .i64 1, .int .i64 2, .int .i64 3, .int .i64 4, .int .i64 5, .int .i64 6, .int .i64 7, .int .i64 8, .int .i64 9, .int .i64 10, .int .i64 11] 3)) (some ⟨wv.heap.size, 0, none⟩) 12 totL from blk_ints (l := totL) (Blk.at _ _ rfl) rfl (by simp [totL]) (fun x hx => by simp only [totL, List.mem_cons, List.not_mem_nil, or_false] at hx; exact ⟨by omega, by omega⟩)).keep ((Ext.refl _).alloc (.cells #[.slice (some ⟨wv.heap.size, 0, none⟩) 12 12] 22)).ik); have hltS : ∀ x, (vU).ownBlock = some x → x < wv.heap.size := fun x hx => (owns_lt HTb.out.own.S hx).2; have HLT := Lib.hid hltS; clear hltS; go_wp2_with (at_builtin; refine wpList_append_lies _ rfl _ _ _ rfl (T + 1 + 1 + 1) 22 j0 _ 1 24 Try.underlying23 hj0 hy0 hy1 hy2 rfl (by omega) vU LS.length (List.map Sl.v gsr) rfl (owns_ext (((Ext.refl wv).alloc _).alloc _) HTb.out.own.S) ⟨wv.heap.size + 1, 0, none⟩ 1 1 [.slice (some ⟨wv.heap.size, 0, none⟩) 12 12] rfl rfl (World.news_of_block (cs := #[.slice (some ⟨wv.heap.size, 0, none⟩) 12 12]) (t := 22) (fr := (0, 0)) (by have h9 := heap_alloc_new (wv.alloc (.cells #[.int .i64 0, .int .i64 1, .int .i64 2, .int .i64 3, .int .i64 4, .int .i64 5, .int .i64 6, .int .i64 7, .int .i64 8, .int .i64 9, .int .i64 10, .int .i64 11] 3)) (.cells #[.slice (some ⟨wv.heap.size, 0, none⟩) 12 12] 22); rw [World.size_alloc] at h9; exact h9)) (by simp [Value.oneCell']) (by omega) (by have := HLE.out; rw [maxLen]; omega) (by have := HLE.out; omega) (by simp; omega) _ rfl ?_); intro g7 cap7 w7 hown hgrow hat hlt7; obtain ⟨t1, t2, hS3⟩ := (HTb.out.keep (((Ext.refl wv).alloc (.cells #[.int .i64 0, .int .i64 1, .int .i64 2, .int .i64 3, .int .i64 4, .int .i64 5, .int .i64 6, .int .i64 7, .int .i64 8, .int .i64 9, .int .i64 10, .int .i64 11] 3)).alloc (.cells #[.slice (some ⟨wv.heap.size, 0, none⟩) 12 12] 22))).addS (L := totL) HVI.out (by omega) (by rw [World.size_alloc, World.size_alloc]; omega) (fun e => by have := HLT.out _ e; omega) hown hgrow (by rw [World.size_alloc, World.size_alloc]; exact hat); have HS3 := Lib.hid hS3; clear hown hgrow hat hS3)
                      go_upto_region 43 with (fail)
                      have hll : LS.length + 1 = 20 := by have := HLE.out; omega
                      refine wp_gen (fun W => TabI ws W T (.slice (some ⟨g7, 0, none⟩) 20 cap7) (gsr ++ [⟨some ⟨wv.heap.size, 0, none⟩, 12, 12⟩]) tabL F1 F2) (by have h9 := HS3.out; rw [HLS.out, hll] at h9; rw [hll]; exact h9) ?_
                      obtain ⟨gs9, hgs9⟩ : ∃ g, gsr ++ [(⟨some ⟨wv.heap.size, 0, none⟩, 12, 12⟩ : Sl)] = g := ⟨_, rfl⟩
                      simp only [hgs9, hll]
                      clear HS3 t1 t2 y1 hll hgs9
                      intro W8 hW
                      have HW8 := Lib.hid hW
                      have y2 : W8.cell? ⟨T, 2, none⟩ = some (.slice none 0 0) := hW.box.cell 2
                      have f2 := hW.box.free 2
                      have hb8 := hW.box.lt
                      clear hW
                      obtain ⟨Z20, hZ20⟩ : ∃ l, List.replicate 20 (0 : Int) = l := ⟨_, rfl⟩
                      have hmk : (Instr.makeSlice 22 (.int .i64 20) (.int .i64 20)).run Try.prog W8 = .ok (.slice (some ⟨W8.heap.size, 0, none⟩) 20 20) (W8.alloc (.cells (icells Z20) 3)) := by rw [← hZ20]; exact make_ints 20 20 20 rfl rfl (by omega) W8
                      have HFIN := Lib.hid (HW8.out.fin hZ20)
                      have HZV := Lib.hid (show validE 12 tabL Z20 = 0 by rw [← hZ20]; exact tab_valid)
                      clear hZ20
                      go_upto_region 44 with (fail)
                      obtain ⟨Vb, hVb⟩ : ∃ v, W8.heap.size = v := ⟨_, rfl⟩
                      rw [hVb] at HFIN ⊢
                      refine wp_gen (fun W => Ext ws W ∧ Blk W T #[.int .i64 12, .slice (some ⟨g7, 0, none⟩) 20 cap7, .slice (some ⟨Vb, 0, none⟩) 20 20] 31 ∧ ShIn W 12 ⟨some ⟨g7, 0, none⟩, 20, cap7⟩ ⟨some ⟨Vb, 0, none⟩, 20, 20⟩ gs9 tabL Z20 ∧ Blk W (T + 1) (bvals F1).toArray 4 ∧ Blk W (T + 1 + 1) (bvals F2).toArray 4) HFIN.out ?_
                      clear HFIN hmk y2 f2 HW8
                      intro W9 hW
                      have HW9 := Lib.hid hW
                      clear hW
                      have HF12 := Lib.hid (show F1.length = 20 ∧ F2.length = 20 ∧ ∀ k, k < 12 → F2.getD k false = fourF x y k from ⟨by rw [← HFF.out.1]; exact hidT_len _ _, by rw [← HFF.out.2]; exact hidT_len _ _, fun k hk => by rw [← HFF.out.2, hidT_get _ _ _ (by omega), decide_eq_true hk, Bool.true_and]⟩)
                      go_wp2_with fail
                      go_loopw [29] (fun v wz => ∃ j : Nat, j ≤ 12 ∧ v = .int .i64 (j : Int) ∧ Ext W9 wz) (fun v _ => 12 - (intOf v).toNat)
                      case atStart => exact ⟨0, by omega, rfl, Ext.refl _⟩
                      case round =>
                        rename World => wz
                        obtain ⟨j, hj, rfl, hE⟩ := hrel
                        have HJ := Lib.hid hE
                        clear hE
                        by_cases hj12 : j < 12
                        · have hb1 := HW9.out.2.1.ext HJ.out
                          have x0 : wz.cell? ⟨T, 0, none⟩ = some (.int .i64 12) := hb1.cell 0
                          have x1 : wz.cell? ⟨T, 1, none⟩ = some (.slice (some ⟨g7, 0, none⟩) 20 cap7) := hb1.cell 1
                          have x2 : wz.cell? ⟨T, 2, none⟩ = some (.slice (some ⟨Vb, 0, none⟩) 20 20) := hb1.cell 2
                          clear hb1
                          go_wp2_with fail
                          refine (det_ok 12 ⟨some ⟨g7, 0, none⟩, 20, cap7⟩ ⟨some ⟨Vb, 0, none⟩, 20, 20⟩ gs9 tabL Z20 (some ⟨T + 1, 0, none⟩) 20 20 F1 j _ (HW9.out.2.2.1.ext HJ.out) (blk_bls (HW9.out.2.2.2.1.ext HJ.out) HF12.out.1) HZV.out tab_len.symm tab_few (by rw [tab_len]; omega)).mono ?_
                          rintro e z1 ⟨rfl, hx⟩
                          rw [(HY.out j hj12).1]
                          have HE1 := Lib.hid (HJ.out.trans hx)
                          clear hx x0 x1 x2
                          have hb1 := HW9.out.2.1.ext HE1.out
                          have x0 : z1.cell? ⟨T, 0, none⟩ = some (.int .i64 12) := hb1.cell 0
                          have x1 : z1.cell? ⟨T, 1, none⟩ = some (.slice (some ⟨g7, 0, none⟩) 20 cap7) := hb1.cell 1
                          have x2 : z1.cell? ⟨T, 2, none⟩ = some (.slice (some ⟨Vb, 0, none⟩) 20 20) := hb1.cell 2
                          clear hb1
                          go_wp2_with fail
                          refine (det_ok 12 ⟨some ⟨g7, 0, none⟩, 20, cap7⟩ ⟨some ⟨Vb, 0, none⟩, 20, 20⟩ gs9 tabL Z20 (some ⟨T + 1 + 1, 0, none⟩) 20 20 F2 j _ (HW9.out.2.2.1.ext HE1.out) (blk_bls (HW9.out.2.2.2.2.ext HE1.out) HF12.out.2.1) HZV.out tab_len.symm tab_few (by rw [tab_len]; omega)).mono ?_
                          rintro e z2 ⟨rfl, hx⟩
                          rw [(HY.out j hj12).2]
                          have HE2 := Lib.hid (HE1.out.trans hx)
                          have c0 := bvals_cell (HW9.out.2.2.2.2.ext HE2.out) j (by rw [HF12.out.2.1]; omega)
                          rw [HF12.out.2.2 j hj12] at c0
                          obtain ⟨f, hf⟩ : ∃ f, fourF x y j = f := ⟨_, rfl⟩
                          rw [hf] at c0 ⊢
                          clear hx x0 x1 x2 hf
                          have j0 : (0 : Int) ≤ (j : Int) := by omega
                          have j1 : (j : Int) < 20 := by omega
                          cases f <;> (go_wp2_with fail; go_roundw; (case rel => exact ⟨j + 1, by omega, by go_num, HE2.out⟩); (case measure => simp [intOf]; omega))
                        · have hjn : ¬ (j : Int) < 12 := by omega
                          have HE9 := Lib.hid (HE0.out.trans (HW9.out.1.trans HJ.out))
                          go_wp2_with fail
                          refine (lives_c _).mono ?_
                          rintro e w9 ⟨rfl, hx9⟩
                          have E9 := HE9.out.trans hx9
                          clear hx9
                          go_wp2_with fail
                          go_ret
                          exact ⟨rfl, E9⟩
end Go.Proofs.Ytkoidookanmknaa
