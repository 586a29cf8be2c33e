/- meresmanlaw27: ShareNested: the walk. -/
import Derived.Test.YtlnmgcmpbbklhaaS17
import Derived.Test.YtlnmgcmpbbklhaaWSkip
namespace Go.Proofs.Ytlnmgcmpbbklhaa
open Go.RowKit

theorem groupsF_mem {P zs : List Int} (h : ∀ x, x ∈ P → 0 ≤ x ∧ x ≤ 1048576) (i : Nat) (hi : i < (groupsF P zs).length) : ∀ x, x ∈ (groupsF P zs).getD i [] → 0 ≤ x ∧ x ≤ 1048576 := fun x hx => by
  refine h x ?_
  rw [← groupsF_flat P zs]
  refine List.mem_flatten.2 ⟨_, ?_, hx⟩
  rw [List.getD_eq_getElem?_getD, List.getElem?_eq_getElem hi]; exact List.getElem_mem _
theorem lens_at (Ls : List (List Int)) (i : Nat) (hi : i < Ls.length) : ((Ls.getD i []).length : Int) ≤ lens Ls := by
  have h1 := lens_next Ls i hi
  have h2 := lens_take Ls i
  have h3 := lens_take Ls (i + 1)
  omega
/-- The facts on the groups. -/
structure GF (Ls : List (List Int)) (P : List Int) (T : Nat) : Prop where
  len : Ls.length = T
  lo : 1 ≤ T
  hi : T ≤ 7
  flat : Ls.flatten = P
  pl : P.length ≤ 12
  pg : ∀ x, x ∈ P → 0 ≤ x ∧ x ≤ 1048576
  mem : ∀ i, i < T → ∀ x, x ∈ Ls.getD i [] → 0 ≤ x ∧ x ≤ 1048576
  small : ∀ i, i < T → (Ls.getD i []).length ≤ 12
  sums : ∀ i, i < T → 0 ≤ sumI (Ls.getD i []) ∧ sumI (Ls.getD i []) ≤ 12582912
  ssum : ∀ x, x ∈ Ls.map sumI → 0 ≤ x ∧ x ≤ 12582912
  lens : lens Ls ≤ 12
  total : 0 ≤ sumI (Ls.map sumI) ∧ sumI (Ls.map sumI) ≤ 12582912
theorem GF.mk' {P zs : List Int} (hp : ∀ x, x ∈ P → 0 ≤ x ∧ x ≤ 1048576) (hl : P.length ≤ 12) : GF (groupsF P zs) P (groupsF P zs).length := by
  have h1 := groupsF_length P zs
  have h2 := groupsF_flat P zs
  have h3 : Go.Proofs.Ytlnmgcmpbbklhaa.lens (groupsF P zs) ≤ 12 := by rw [← flat_length, h2]; omega
  have hm := fun i hi => groupsF_mem (zs := zs) hp i hi
  have hs : ∀ i, i < (groupsF P zs).length → ((groupsF P zs).getD i []).length ≤ 12 := fun i hi => by have := lens_at _ i hi; omega
  have hsum : ∀ i, i < (groupsF P zs).length → 0 ≤ sumI ((groupsF P zs).getD i []) ∧ sumI ((groupsF P zs).getD i []) ≤ 12582912 := fun i hi => by
    have := sum_bd _ (hm i hi); have := hs i hi; omega
  refine ⟨rfl, h1.1, h1.2, h2, hl, hp, hm, hs, hsum, fun x hx => ?_, h3, ?_⟩
  · obtain ⟨l, hl, rfl⟩ := List.mem_map.1 hx
    obtain ⟨i, hi, rfl⟩ := List.getElem_of_mem hl
    have := hsum i hi
    rw [List.getD_eq_getElem?_getD, List.getElem?_eq_getElem hi] at this
    exact this
  · rw [sumI_flat, h2]; have := sum_bd P hp; omega
theorem lens_nils (n : Nat) : (List.replicate n ([] : List Int)).flatten = [] := by simp
theorem ints_zeros (w : World) (n : Nat) (hn : n ≤ 100000) : Ints (w.alloc (.cells (icells (List.replicate n 0)) 3)) (some ⟨w.heap.size, 0, none⟩) n (List.replicate n 0) :=
  IRow.ints (Blk.at _ _ rfl) (by simp) (by omega) fun i hi => by
    have : (List.replicate n (0 : Int)).getD i 0 = 0 := by simp [List.getD_eq_getElem?_getD, List.getElem?_replicate, hi]
    rw [this]; exact ⟨by omega, by omega⟩
theorem NestR.bad {err : Int} {Fs : List (List Int)} {w w' : World} {e : Ending} (h : NestR err Fs w e w') (h0 : err ≠ 0) : Ext w w' ∧ e = .returned (.tuple #[.slice none 0 0, .int .i64 err]) := by
  obtain ⟨hx, ⟨_, h1⟩ | ⟨h1, _⟩⟩ := h
  · exact ⟨hx, h1⟩
  · exact absurd h1 h0
theorem DivR.bad' {err : Int} {F : List Int} {m : Nat} {w w' : World} {e : Ending} (h : DivR err F m w e w') (h0 : err ≠ 0) : Ext w w' ∧ e = .returned (.tuple #[.slice none 0 0, .int .i64 err]) := by
  obtain ⟨hx, ⟨_, h1⟩ | ⟨h1, _⟩⟩ := h
  · exact ⟨hx, h1⟩
  · exact absurd h1 h0
set_option maxRecDepth 100000 in
set_option maxHeartbeats 8000000 in
theorem walkNested (a0 : Option Addr) (n c : Nat) (zs : List Int) (a1 : Option Addr) (n1 c1 : Nat) (ys : List Int) (a2 : Int) (w : World) (h0 : Ints w a0 n zs) (h1 : Ints w a1 n1 ys) (h2 : Int64 a2) :
    Calls Try.prog 4 #[.slice a0 n c, .slice a1 n1 c1, .int .i64 a2] w fun e w' => e = .returned (.bool true) ∧ Ext w w' := by
  obtain ⟨i0, hi0, hz0, hz1, hz2⟩ := info_parts intInfo
  obtain ⟨j0, hj0, hy0, hy1, hy2⟩ := info_parts intsInfo
  obtain ⟨C1, hC1, hmk⟩ : ∃ C, C = icells (List.replicate 4097 0) ∧ ∀ w, (Instr.makeSlice 22 (.int .i64 4097) (.int .i64 4097)).run Try.prog w = .ok (.slice (some ⟨w.heap.size, 0, none⟩) 4097 4097) (w.alloc (.cells C 3)) := ⟨_, rfl, make_ints 4097 4097 4097 rfl rfl (by omega)⟩
  obtain ⟨C2, hC2, hmk2⟩ : ∃ C, C = (List.replicate 4097 (Value.slice none 0 0)).toArray ∧ ∀ w, (Instr.makeSlice 25 (.int .i64 4097) (.int .i64 4097)).run Try.prog w = .ok (.slice (some ⟨w.heap.size, 0, none⟩) 4097 4097) (w.alloc (.cells C 22)) := ⟨_, rfl, make_intss 4097 4097 4097 rfl rfl (by omega)⟩
  have HC1 := Lib.hid hC1; have HC2 := Lib.hid hC2; clear hC1 hC2
  have H0 := Lib.hid h0; have H1 := Lib.hid h1; have H2 := Lib.hid h2; clear h0 h1 h2
  go_enter Try.func4, Try.ntmps4
  go_wp2_with fail
  refine (weights_c a0 n c zs 12 _ H0.out (by omega)).mono ?_
  rintro e w1 ⟨v, rfl, hV, hE⟩
  have hwl := weightsF_length zs 12
  have hbd := weightsF_bd zs 12
  obtain ⟨a9, c9, rfl, hin, hc9, hsa⟩ := hV.ints2 (by omega) (fun i hi => by have := hbd _ (getD_mem hi); exact ⟨by omega, by omega⟩)
  obtain ⟨tl, htl⟩ : ∃ tl, (weightsF zs 12).length = tl := ⟨_, rfl⟩
  rw [htl] at hwl hin hc9 ⊢
  have htl2 : tl ≤ 12 := by omega
  generalize weightsF zs 12 = P at *
  have HIN := Lib.hid hin; have HE := Lib.hid hE; have HSA := Lib.hid hsa
  have hgf := GF.mk' (zs := ys) hbd (by omega)
  obtain ⟨Ls, hLs⟩ : ∃ Ls, groupsF P ys = Ls := ⟨_, rfl⟩
  rw [hLs] at hgf
  have HLS := Lib.hid hLs; have HTL := Lib.hid htl
  obtain ⟨T, hT⟩ : ∃ T, Ls.length = T := ⟨_, rfl⟩
  rw [hT] at hgf
  have HGF := Lib.hid hgf; have HT := Lib.hid hT
  clear hV hin hE hsa hbd hLs hgf hwl htl hT
  go_wp2_with fail
  refine (groups_c a9 tl c9 P a1 n1 c1 ys _ HIN.out hc9 HSA.out (H1.out.keep HE.out.ik) (by omega)).mono ?_
  rw [HLS.out]
  rintro e w2 ⟨v, gs, rfl, hG, hx⟩
  have hT1 := HGF.out.lo
  have hT7 := HGF.out.hi
  obtain ⟨ga, gc, rfl, hGr⟩ := hG.grps (by rw [HT.out]; omega)
  rw [HT.out] at hGr ⊢
  have HG := Lib.hid hGr; have HX := Lib.hid hx
  clear hG hGr hx
  go_wp2_with fail
  refine (units_c a2 _ H2.out).mono ?_
  rintro e w3 ⟨ub, rfl, hub, hur, hx⟩
  have HST := Lib.hid (And.intro ((HE.out.trans HX.out).trans hx) (And.intro (HG.out.ext hx) (And.intro hur (HIN.out.keep ((HX.out.trans hx).ik)))))
  have hui := unitsF_int H2.out
  have HUI := Lib.hid hui
  have hul : (unitsF a2).length = 5 := rfl
  have HUL := Lib.hid hul
  clear hx hur hui hul HG HX HE HIN hub
  generalize unitsF a2 = U at *
  go_upto_region 6 with (fail)
  go_loopw [10, 11] (fun sv v ws => ∃ i : Nat, i ≤ T ∧ v = .int .i64 (i : Int) ∧ VRow ws w3.heap.size sv ((Ls.take i).map sumI) ∧ Ext w3 ws) (fun _ v _ => T - (intOf v).toNat)
  case atStart => exact ⟨0, by omega, rfl, VRow.nil _ _, Ext.refl _⟩
  case round =>
    obtain ⟨i, hi, rfl, hV, hE⟩ := hrel
    have HV := Lib.hid hV; have HE2 := Lib.hid hE; clear hV hE
    by_cases hlt : i < T
    · obtain ⟨b, off, rfl, hb, hc⟩ := (HST.out.2.1.ext HE2.out).at i hlt
      have hin := (HST.out.2.1.2.2.2.2 i hlt).keep HE2.out.ik
      have hnx : (Ls.take (i + 1)).map sumI = (Ls.take i).map sumI ++ [sumI (Ls.getD i [])] := by
        have e1 : Ls.getD i [] = Ls[i]'(by rw [HT.out]; exact hlt) := by simp [List.getD_eq_getElem?_getD, show i < Ls.length by rw [HT.out]; exact hlt]
        rw [List.take_succ_eq_append_getElem (by rw [HT.out]; exact hlt), List.map_append, e1]; rfl
      have hgl := HGF.out.mem i hlt
      have hll := HGF.out.small i hlt
      have hsv := HGF.out.sums i hlt
      generalize gs.getD i sl0 = gg at *
      generalize Ls.getD i [] = l at *
      have HIN := Lib.hid hin; have HNX := Lib.hid hnx; have HGLI := Lib.hid hgl
      clear hin hnx hgl
      have hvl : ((Ls.take i).map sumI).length ≤ 19 := by rw [List.length_map, List.length_take]; omega
      have hsz := HE2.out.size
      have t0 : (i : Int) < (T : Int) := by omega
      generalize (Ls.take i).map sumI = Q at *
      go_wp2_with fail
      refine (rsum_c _ _ _ l _ HIN.out (parts_bd HGLI.out (by omega))).mono ?_
      rintro e w4 ⟨rfl, hx⟩
      have HE3 := Lib.hid (HE2.out.trans hx); have HV3 := Lib.hid (HV.out.ext hx)
      have hs3 := HE3.out.size
      clear hx
      generalize sumI l = s at *
      have h64s : Int64 s := ⟨by omega, by omega⟩
      have HNW := Lib.hid (ints_news (ints_one w4 s h64s) (by omega))
      go_wp2_with (refine wpList_append_lies _ rfl _ _ _ rfl w3.heap.size 3 i0 _ 1 8 Try.underlying22 hi0 hz0 hz1 hz2 rfl (by omega) _ _ _ rfl (VRow.ext ((Ext.refl w4).alloc _) HV3.out) ⟨w4.heap.size, 0, none⟩ 1 1 (ivals [s]) rfl rfl HNW.out (ivals_one _) (by omega) (by rw [maxLen]; omega) (by omega) (by simp; omega) _ rfl ?_)
      intro g2 cap w5 hown hgrow hat hlt1
      have HR := Lib.hid (show VRow w5 w3.heap.size (.slice (some ⟨g2, 0, none⟩) (Q.length + 1) cap) (Q ++ [s]) ∧ Ext w3 w5 from
        ⟨VRow.app rfl hown, ext_grown (HE3.out.alloc _) hgrow (fun g hg => (owns_lt HV3.out hg).1)⟩)
      clear hown hgrow hat
      go_wp2_with fail
      go_roundw
      case rel => exact ⟨i + 1, by omega, by go_num, by rw [HNX.out]; exact HR.out.1, HR.out.2⟩
      case measure => simp [intOf]; omega
    · obtain rfl : T = i := by omega
      rw [List.take_of_length_le (by rw [HT.out]; omega)] at HV
      obtain ⟨a5, c5, rfl, hin⟩ := HV.out.ints (by rw [List.length_map, HT.out]; omega) (fun j hj => by have := HGF.out.ssum _ (getD_mem hj); exact ⟨by omega, by omega⟩)
      rw [List.length_map, HT.out] at hin
      rw [List.length_map, HT.out]
      have hS2 := HST.out.2.1.ext HE2.out
      have HST2 := Lib.hid (And.intro (HST.out.1.trans HE2.out) (And.intro hS2 (And.intro (HST.out.2.2.1.ext HE2.out) (And.intro (HST.out.2.2.2.keep HE2.out.ik) hin))))
      clear hin HV HST HE2 hS2
      obtain ⟨wS, rfl⟩ : ∃ W, W = wr := ⟨_, rfl⟩
      go_upto_region 10 with (fail)
      go_loopw [12] (fun v ws => ∃ k : Nat, k ≤ 5 ∧ v = .int .i64 (k : Int) ∧ Ext wS ws) (fun v _ => 5 - (intOf v).toNat)
      case atStart => exact ⟨0, by omega, rfl, Ext.refl _⟩
      case round =>
        obtain ⟨k, hk, rfl, hE⟩ := hrel
        have HE := Lib.hid hE
        by_cases hlt2 : k < 5
        · have t2 : (k : Int) < 5 := by omega
          have t3 : (0 : Int) ≤ (k : Int) := by omega
          have hU := HST2.out.2.2.1.ext hE
          have cu := IRow.cell hU k (by rw [HUL.out]; exact hlt2)
          have h64 := HUI.out k hlt2
          have lu := hU.lt
          generalize U.getD k 0 = nk at *
          obtain ⟨er, her⟩ : ∃ x, errF nk P T = x := ⟨_, rfl⟩
          have HER := Lib.hid her
          have H64 := Lib.hid h64
          clear her hU hE h64
          go_wp2_with fail
          refine (Nested_c nk ga T gc gs Ls _ (HST2.out.2.1.ext HE.out) (by have := HGF.out.lens; omega) (.inl (by omega)) (fun _ i hi => by have := HGF.out.small i hi; omega)).mono ?_
          rw [HGF.out.flat, HER.out]
          intro e w4 hd
          by_cases h0 : er = 0
          · subst h0
            obtain ⟨hx4, v, bs, rfl, hGO⟩ := hd.ok rfl
            have hok := errF_ok HER.out
            have hn0 := hok.1
            have hn1 := hok.2.1
            have hpos : nk ≠ 0 → 0 < sumI (Ls.map sumI) := fun hn => by have h1 := hok.2.2.2.1 hn; have h2 := HGF.out.total; rw [sumI_flat, HGF.out.flat] at h2 ⊢; omega
            have hw0 : ∀ i, i < Ls.length → ∀ x, x ∈ Ls.getD i [] → 0 ≤ x := fun i hi x hx => (HGF.out.mem i (by rw [← HT.out]; exact hi) x hx).1
            have hmem := nested_mem hn0 hw0 hpos
            have hfm := nested_flat hn0 hw0 hpos
            have hsum := nested_sum hw0 hpos
            have hnl := nestedF_length nk Ls
            have hle := nested_lens nk Ls
            have hna := fun j (hj : j < T) => nestedF_at nk Ls j (by rw [HT.out]; exact hj)
            have hpl : (largestF nk (Ls.map sumI)).length = T := by rw [largestF_length, List.length_map, HT.out]
            have hpn : ∀ j, j < T → 0 ≤ (largestF nk (Ls.map sumI)).getD j 0 ∧ (largestF nk (Ls.map sumI)).getD j 0 ≤ nk := fun j hj => by
              have h1 := largestF_nonneg (w := Ls.map sumI) hn0 (fun x hx => (HGF.out.ssum x hx).1)
              have h2 := mem_le_sum (l := largestF nk (Ls.map sumI)) (fun x hx => by obtain ⟨k, _, rfl⟩ := mem_getD hx; exact h1 k) (getD_mem (by omega : j < _))
              rw [largestF_sum (fun x hx => (HGF.out.ssum x hx).1) hpos] at h2
              exact ⟨h1 j, h2⟩
            rw [HT.out] at hnl
            have hfl : ∀ j, j < T → ((nestedF nk Ls).getD j []).length ≤ 12 := fun j hj => by rw [hna j hj, largestF_length]; exact HGF.out.small j hj
            generalize nestedF nk Ls = F at *
            obtain ⟨S, hS⟩ : ∃ S, largestF nk (Ls.map sumI) = S := ⟨_, rfl⟩
            rw [hS] at hpl hpn
            simp only [hS] at hna
            have HS := Lib.hid hS
            obtain ⟨gx, cx, hs, rfl, hGx⟩ := hGO.grps (by omega) (by omega) (fun i hi => by have := hfl i (by omega); omega) (fun i hi x hx => by have := hmem i hi x hx; exact ⟨by omega, by omega⟩)
            rw [hnl] at hGx ⊢
            have HGX := Lib.hid hGx; have HX4 := Lib.hid hx4; have HMEM := Lib.hid hmem; have HSUM := Lib.hid hsum; have HNL := Lib.hid hnl; have HNA := Lib.hid hna; have HPL := Lib.hid hpl; have HPN := Lib.hid hpn; have HFL := Lib.hid hfl; have HLE := Lib.hid hle; have HFM := Lib.hid hfm
            clear hd hGO hok hpos hw0 hmem hsum hnl hna hpl hpn hfl hGx hx4 hS hle hfm
            have cu4 := HX4.out.cell cu
            go_wp2_with fail
            refine (rerror_c nk a9 tl c9 P T _ (HST2.out.2.2.2.1.keep (HE.out.trans HX4.out).ik) (by omega)).mono ?_
            rw [HER.out]
            rintro e w5 ⟨rfl, hx5⟩
            have cu5 := hx5.cell cu4
            have HX5 := Lib.hid hx5
            clear hx5 cu4
            go_wp2_with fail
            refine (rlargest_c nk a5 T c5 (Ls.map sumI) _ (HST2.out.2.2.2.2.keep ((HE.out.trans HX4.out).trans HX5.out).ik) hn0 hn1 (fun x hx => by have := HGF.out.ssum x hx; omega) (by have := HGF.out.total; omega) (by omega)).mono ?_
            rw [HS.out]
            rintro e w6 ⟨gp, rfl, hgp, hrow, hx6⟩
            have cu6 := hx6.cell cu5
            have HX6 := Lib.hid (And.intro ((HX4.out.trans HX5.out).trans hx6) (And.intro hrow (HGX.out.ext (HX5.out.trans hx6))))
            clear hx6 hrow HX5 HX4 HGX cu5
            obtain ⟨wk, rfl⟩ : ∃ W, W = wr := ⟨_, rfl⟩
            go_upto_region 20 with (fail)
            go_loopw [17, 18] (fun yv v ws => ∃ (j : Nat) (bs : List Nat), j ≤ T ∧ v = .int .i64 (j : Int) ∧ GOut ws w6.heap.size yv bs (F.take j) ∧ Ext w6 ws) (fun _ v _ => T - (intOf v).toNat)
            case atStart => exact ⟨0, [], by omega, rfl, GOut.nil _ _, Ext.refl _⟩
            case round =>
              obtain ⟨j, bs, hj, rfl, hG, hE⟩ := hrel
              have HG := Lib.hid hG; have HE4 := Lib.hid hE; clear hG hE
              by_cases hlt3 : j < T
              · have hgr6 := HST2.out.2.1.ext (HE.out.trans HX6.out.1)
                obtain ⟨b, off, rfl, hb6, hc6⟩ := hgr6.at j hlt3
                have hin := (hgr6.2.2.2.2 j hlt3)
                have hgl := HGF.out.mem j hlt3
                have hll := HGF.out.small j hlt3
                have hsv := HGF.out.sums j hlt3
                have hna := HNA.out j hlt3
                have hpk := HPN.out j hlt3
                have cp6 := IRow.cell HX6.out.2.1 j (by rw [HPL.out]; exact hlt3)
                have htk : F.take (j + 1) = F.take j ++ [F.getD j []] := by
                  have e1 : F.getD j [] = F[j]'(by rw [HNL.out]; exact hlt3) := by simp [List.getD_eq_getElem?_getD, show j < F.length by rw [HNL.out]; exact hlt3]
                  rw [List.take_succ_eq_append_getElem (by rw [HNL.out]; exact hlt3), e1]
                rw [hna] at htk
                generalize gs.getD j sl0 = gg at *
                generalize Ls.getD j [] = l at *
                generalize S.getD j 0 = pk at *
                obtain ⟨qa, qn, qc⟩ := gg
                simp only at hin hc6
                have hln := hin.1
                have HIN := Lib.hid hin; have HTK := Lib.hid htk; have HGLI := Lib.hid hgl
                clear hin htk hgl hna hgr6
                have hfl : (F.take j).length = j := by rw [List.length_take, HNL.out]; omega
                have t0 : (j : Int) < (T : Int) := by omega
                have t4 : (0 : Int) ≤ (j : Int) := by omega
                have cpr := HE4.out.cell cp6
                have hcr := HE4.out.cell hc6
                have hse := HE4.out.size
                obtain ⟨XS, tv, hXS, htv, hOW⟩ : ∃ (XS : List Value) (tv : Nat), XS = ((List.range (F.take j).length).map fun i => Value.slice (some ⟨bs.getD i 0, 0, none⟩) ((F.take j).getD i []).length ((F.take j).getD i []).length) ∧ tv = (F.take j).length ∧ wr.ownsRow w6.heap.size 22 1 u17 tv XS := ⟨_, _, rfl, rfl, HG.out.2.1⟩
                have htv2 : tv ≤ 7 := by omega
                have HXS := Lib.hid hXS; have HTV := Lib.hid htv; have HOW := Lib.hid hOW; have HFLN := Lib.hid hfl; clear hXS htv hOW hfl
                go_upto_region 22 with (fail)
                refine wp_region_held_drew (S := fun w' => Ext w6 w' ∧ w'.cell? ⟨gp, j, none⟩ = some (.int .i64 pk) ∧ w'.cell? ⟨b, off + j, none⟩ = some (.slice qa qn qc)) (by kernel_rfl) ?_ (fun hHeld => ?_)
                · exact ⟨HE4.out.drew, cpr, hcr⟩
                refine takeL (i := 0) (v := ?_) rfl (by kernel_rfl) (by kernel_rfl) (by kernel_rfl) (fun _ _ _ h => h) (Or.inl ⟨by rfl, ?_⟩) (by assumption) ?_; rotate_left; (focus (intro wq hSw; (try dsimp only at hSw); go_simp; try with_reducible rfl)); (try simp only [Act.put, List.setIfInBounds_toArray, List.set_cons_zero, List.set_cons_succ])
                refine takeL (i := 1) (v := ?_) rfl (by kernel_rfl) (by kernel_rfl) (by kernel_rfl) (fun _ _ _ h => h) (Or.inl ⟨by rfl, ?_⟩) (by assumption) ?_; rotate_left; (focus (intro wq hSw; (try dsimp only at hSw); go_simp; try with_reducible rfl)); (try simp only [Act.put, List.setIfInBounds_toArray, List.set_cons_zero, List.set_cons_succ])
                refine takeL (i := 2) (v := ?_) rfl (by kernel_rfl) (by kernel_rfl) (by kernel_rfl) (fun _ _ _ h => h) (Or.inl ⟨by rfl, ?_⟩) (by assumption) ?_; rotate_left; (focus (intro wq hSw; (try dsimp only at hSw); go_simp; try with_reducible rfl)); (try simp only [Act.put, List.setIfInBounds_toArray, List.set_cons_zero, List.set_cons_succ])
                refine takeL (i := 3) (v := ?_) rfl (by kernel_rfl) (by kernel_rfl) (by kernel_rfl) (fun _ _ _ h => h) (Or.inl ⟨by rfl, ?_⟩) (by assumption) ?_; rotate_left; (focus (intro wq hSw; (try dsimp only at hSw); go_simp; try with_reducible rfl)); (try simp only [Act.put, List.setIfInBounds_toArray, List.set_cons_zero, List.set_cons_succ])
                refine takeL (i := 4) (v := ?_) rfl (by kernel_rfl) (by kernel_rfl) (by kernel_rfl) (fun _ _ _ h => h) (Or.inl ⟨by rfl, ?_⟩) (by assumption) ?_; rotate_left; (focus (intro wq hSw; (try dsimp only at hSw); go_simp; try with_reducible rfl)); (try simp only [Act.put, List.setIfInBounds_toArray, List.set_cons_zero, List.set_cons_succ])
                refine takeL (i := 5) (v := ?_) rfl (by kernel_rfl) (by kernel_rfl) (by kernel_rfl) (fun _ _ _ h => h) (Or.inl ⟨by rfl, ?_⟩) (by assumption) ?_; rotate_left; (focus (intro wq hSw; (try dsimp only at hSw); go_simp; try with_reducible rfl)); (try simp only [Act.put, List.setIfInBounds_toArray, List.set_cons_zero, List.set_cons_succ])
                refine takeL (i := 6) (v := ?_) rfl (by kernel_rfl) (by kernel_rfl) (by kernel_rfl) (fun _ _ _ h => h) (Or.inl ⟨by rfl, ?_⟩) (by assumption) ?_; rotate_left; (focus (intro wq hSw; (try dsimp only at hSw); go_simp; try with_reducible rfl)); (try simp only [Act.put, List.setIfInBounds_toArray, List.set_cons_zero, List.set_cons_succ])
                refine takeL (i := 7) (v := ?_) rfl (by kernel_rfl) (by kernel_rfl) (by kernel_rfl) (fun _ _ _ h => h) (Or.inl ⟨by rfl, ?_⟩) (by assumption) ?_; rotate_left; (focus (intro wq hSw; (try dsimp only at hSw); go_simp; try with_reducible rfl)); (try simp only [Act.put, List.setIfInBounds_toArray, List.set_cons_zero, List.set_cons_succ])
                refine takeL (i := 8) (v := ?_) rfl (by kernel_rfl) (by kernel_rfl) (by kernel_rfl) (fun _ _ _ h => h) (Or.inl ⟨by rfl, ?_⟩) (by assumption) ?_; rotate_left; (focus (intro wq hSw; (try dsimp only at hSw); go_simp; try with_reducible rfl)); (try simp only [Act.put, List.setIfInBounds_toArray, List.set_cons_zero, List.set_cons_succ])
                refine consL (i := 9) (by kernel_rfl) rfl (fun K hK => ?_); go_simp; go_at_call 17; refine (rlargest_c pk qa qn qc l _ (HIN.out.keep (Ext.ik (And.left (by assumption)))) hpk.1 (by omega) (fun x hx => by have := HGLI.out x hx; omega) (by omega) (by omega)).mono ?_; rintro e w8 ⟨g8, rfl, hg8, hr8, hx8⟩; go_wp2_with fail; refine hK.out _ _ ?_ (fun hHeld => ?_); rotate_left; clear hK K; rotate_right; (focus (try dsimp only); refine (fun hq => ⟨hq, Ext.cell hq cp6, Ext.cell hq hc6⟩ : Ext w6 _ → _) ?_; repeat' (first | with_reducible assumption | with_reducible exact And.left (by assumption) | with_reducible refine Ext.drew ?_ | with_reducible refine Ext.alloc ?_ _ | with_reducible exact Ext.trans (And.left (by assumption)) (by assumption))); (try simp only [Act.put, List.setIfInBounds_toArray, List.set_cons_zero, List.set_cons_succ])
                have hFl : (largestF pk l).length = qn := by rw [largestF_length]; exact hln
                have hs8 := hx8.size
                simp only [World.size_drew] at hg8 hs8
                have hx8' : Ext wr w8 := Ext.trans ((Ext.refl wr).drew) hx8
                have HOW8 := Lib.hid (owns_ext (hx8'.alloc (.cells #[.slice (some ⟨g8, 0, none⟩) qn qn] 22)) HOW.out)
                refine consL (i := 10) (by kernel_rfl) rfl (fun K hK => ?_); go_simp; refine hK.out _ _ ?_ (fun hHeld => ?_); rotate_left; clear hK K; rotate_right; (focus (try dsimp only); refine (fun hq => ⟨hq, Ext.cell hq cp6, Ext.cell hq hc6⟩ : Ext w6 _ → _) ?_; repeat' (first | with_reducible assumption | with_reducible exact And.left (by assumption) | with_reducible refine Ext.drew ?_ | with_reducible refine Ext.alloc ?_ _ | with_reducible exact Ext.trans (And.left (by assumption)) (by assumption))); (try simp only [Act.put, List.setIfInBounds_toArray, List.set_cons_zero, List.set_cons_succ])
                refine consL (i := 11) (by kernel_rfl) rfl (fun K hK => ?_)
                refine step_append_lies _ rfl _ _ _ rfl w6.heap.size 22 j0 _ 1 24 Try.underlying25 hj0 hy0 hy1 hy2 rfl (by omega) _ tv XS rfl HOW8.out ⟨w8.heap.size, 0, none⟩ 1 1 [.slice (some ⟨g8, 0, none⟩) qn qn] rfl rfl (World.news_of_block (cs := #[.slice (some ⟨g8, 0, none⟩) qn qn]) (t := 22) (fr := (0, 0)) (heap_alloc_new w8 _)) (by simp [Value.oneCell']) (by omega) (by rw [maxLen]; omega) (by omega) (by simp; omega) _ rfl ?_
                intro g2 cap w9 hown hgrow hat hlt1
                have hxw := (Ext.refl w8).alloc (.cells #[.slice (some ⟨g8, 0, none⟩) qn qn] 22)
                rw [HXS.out, HTV.out] at hown
                have hA := GOut.app HG.out (hx8'.trans hxw) (hr8.ext hxw) hg8 hFl hown hgrow (hat.imp id (fun h => by first | exact h | (rw [h]; done) | (rw [h]; simp)))
                have hE9 : Ext w6 w9 := ext_grown ((HE4.out.trans hx8').trans hxw) hgrow (fun g hg => (owns_lt HG.out.2.1 hg).1)
                rw [← HTV.out] at hA
                have HR := Lib.hid (And.intro hA hE9)
                clear hown hgrow hat hA hxw HOW8
                refine hK.out _ _ ?_ (fun hHeld => ?_); rotate_left; clear hK K; rotate_right
                · exact ⟨hE9, Ext.cell hE9 cp6, Ext.cell hE9 hc6⟩
                (try simp only [Act.put, List.setIfInBounds_toArray, List.set_cons_zero, List.set_cons_succ])
                refine consL (i := 12) (by kernel_rfl) rfl (fun K hK => ?_); go_simp; refine hK.out _ _ ?_ (fun hHeld => ?_); rotate_left; clear hK K; rotate_right; (focus (try dsimp only); refine (fun hq => ⟨hq, Ext.cell hq cp6, Ext.cell hq hc6⟩ : Ext w6 _ → _) ?_; repeat' (first | with_reducible assumption | with_reducible exact And.left (by assumption) | with_reducible refine Ext.drew ?_ | with_reducible refine Ext.alloc ?_ _ | with_reducible exact Ext.trans (And.left (by assumption)) (by assumption))); (try simp only [Act.put, List.setIfInBounds_toArray, List.set_cons_zero, List.set_cons_succ])
                refine doneL (by kernel_rfl) ?_
                go_wp2_with fail
                go_roundw
                case rel => exact ⟨j + 1, _, by omega, by go_num, by rw [HTK.out]; exact HR.out.1, HR.out.2⟩
                case measure => simp [intOf]; omega
              · obtain rfl : T = j := by omega
                rw [List.take_of_length_le (by rw [HNL.out]; omega)] at HG
                obtain ⟨gy, cy, hy, rfl, hGy⟩ := HG.out.grps (by rw [HNL.out]; omega) (by rw [HNL.out]; omega) (fun i hi => by have := HFL.out i (by rw [← HNL.out]; exact hi); omega) (fun i hi x hx => by have := HMEM.out i hi x hx; exact ⟨by omega, by omega⟩)
                rw [HNL.out] at hGy ⊢
                have HGX := Lib.hid (And.intro hGy (HX6.out.2.2.ext HE4.out))
                have cur := HE4.out.cell cu6
                have E0 : Ext wr wr := Ext.refl wr
                have hfm := HFM.out
                have hlf : (F.flatten.length : Int) = lens F := flat_length F
                have hlg := HGF.out.lens
                rw [← HLE.out] at hlg
                have hsm := HSUM.out
                obtain ⟨FF, hFF⟩ : ∃ X, F.flatten = X := ⟨_, rfl⟩
                rw [hFF] at hfm hlf hsm
                obtain ⟨fl, hfl⟩ : ∃ q, FF.length = q := ⟨_, rfl⟩
                rw [hfl] at hlf
                have hfl12 : fl ≤ 12 := by omega
                have HLG := Lib.hid hlg
                have HFM := Lib.hid hfm; have HFF := Lib.hid hFF; have HFL2 := Lib.hid hfl; have HSM := Lib.hid hsm
                clear hGy hfm hlf HG hFF hfl hsm hlg
                go_upto_region 23 with (fail)
                refine wp_region_held_drew (S := fun w' => Ext wr w' ∧ w'.cell? ⟨ub, k, none⟩ = some (.int .i64 nk)) (by kernel_rfl) ?_ (fun hHeld => ?_)
                · exact ⟨E0.drew, cur⟩
                refine takeL (i := 0) (v := ?_) rfl (by kernel_rfl) (by kernel_rfl) (by kernel_rfl) (fun _ _ _ h => h) (Or.inl ⟨by rfl, ?_⟩) (by assumption) ?_; rotate_left; (focus (intro wq hSw; (try dsimp only at hSw); go_simp; try with_reducible rfl)); (try simp only [Act.put, List.setIfInBounds_toArray, List.set_cons_zero, List.set_cons_succ])
                refine takeL (i := 1) (v := ?_) rfl (by kernel_rfl) (by kernel_rfl) (by kernel_rfl) (fun _ _ _ h => h) (Or.inl ⟨by rfl, ?_⟩) (by assumption) ?_; rotate_left; (focus (intro wq hSw; (try dsimp only at hSw); go_simp; try with_reducible rfl)); (try simp only [Act.put, List.setIfInBounds_toArray, List.set_cons_zero, List.set_cons_succ])
                refine consL (i := 2) (by kernel_rfl) rfl (fun K hK => ?_); go_simp; go_at_call 23; refine (same2_c gx gy T cx cy hs hy F _ (HGX.out.2.ext (And.left (by assumption))) (HGX.out.1.ext (And.left (by assumption)))).mono ?_; rintro e w9 ⟨rfl, hx9⟩; go_wp2_with fail; refine hK.out _ _ ?_ (fun hHeld => ?_); rotate_left; clear hK K; rotate_right; (focus (try dsimp only); refine (fun hq => ⟨hq, Ext.cell hq cur⟩ : Ext wr _ → _) ?_; repeat' (first | with_reducible assumption | with_reducible exact And.left (by assumption) | with_reducible refine Ext.drew ?_ | with_reducible refine Ext.alloc ?_ _ | with_reducible exact Ext.trans (And.left (by assumption)) (by assumption))); (try simp only [Act.put, List.setIfInBounds_toArray, List.set_cons_zero, List.set_cons_succ])
                refine takeL (i := 3) (v := ?_) rfl (by kernel_rfl) (by kernel_rfl) (by kernel_rfl) (fun _ _ _ h => h) (Or.inl ⟨by rfl, ?_⟩) (by assumption) ?_; rotate_left; (focus (intro wq hSw; (try dsimp only at hSw); go_simp; try with_reducible rfl)); (try simp only [Act.put, List.setIfInBounds_toArray, List.set_cons_zero, List.set_cons_succ])
                refine takeL (i := 4) (v := ?_) rfl (by kernel_rfl) (by kernel_rfl) (by kernel_rfl) (fun _ _ _ h => h) (Or.inl ⟨by rfl, ?_⟩) (by assumption) ?_; rotate_left; (focus (intro wq hSw; (try dsimp only at hSw); go_simp; try with_reducible rfl)); (try simp only [Act.put, List.setIfInBounds_toArray, List.set_cons_zero, List.set_cons_succ])
                refine takeL (i := 5) (v := ?_) rfl (by kernel_rfl) (by kernel_rfl) (by kernel_rfl) (fun _ _ _ h => h) (Or.inl ⟨by rfl, ?_⟩) (by assumption) ?_; rotate_left; (focus (intro wq hSw; (try dsimp only at hSw); go_simp; try with_reducible rfl)); (try simp only [Act.put, List.setIfInBounds_toArray, List.set_cons_zero, List.set_cons_succ])
                refine takeL (i := 8) (v := ?_) rfl (by kernel_rfl) (by kernel_rfl) (by kernel_rfl) (fun _ _ _ h => h) (Or.inl ⟨by rfl, ?_⟩) (by assumption) ?_; rotate_left; (focus (intro wq hSw; (try dsimp only at hSw); go_simp; try with_reducible rfl)); (try simp only [Act.put, List.setIfInBounds_toArray, List.set_cons_zero, List.set_cons_succ])
                refine takeL (i := 9) (v := ?_) rfl (by kernel_rfl) (by kernel_rfl) (by kernel_rfl) (fun _ _ _ h => h) (Or.inl ⟨by rfl, ?_⟩) (by assumption) ?_; rotate_left; (focus (intro wq hSw; (try dsimp only at hSw); go_simp; try with_reducible rfl)); (try simp only [Act.put, List.setIfInBounds_toArray, List.set_cons_zero, List.set_cons_succ])
                refine takeL (i := 10) (v := ?_) rfl (by kernel_rfl) (by kernel_rfl) (by kernel_rfl) (fun _ _ _ h => h) (Or.inl ⟨by rfl, ?_⟩) (by assumption) ?_; rotate_left; (focus (intro wq hSw; (try dsimp only at hSw); go_simp; try with_reducible rfl)); (try simp only [Act.put, List.setIfInBounds_toArray, List.set_cons_zero, List.set_cons_succ])
                refine takeL (i := 11) (v := ?_) rfl (by kernel_rfl) (by kernel_rfl) (by kernel_rfl) (fun _ _ _ h => h) (Or.inl ⟨by rfl, ?_⟩) (by assumption) ?_; rotate_left; (focus (intro wq hSw; (try dsimp only at hSw); go_simp; try with_reducible rfl)); (try simp only [Act.put, List.setIfInBounds_toArray, List.set_cons_zero, List.set_cons_succ])
                refine consL (i := 6) (by kernel_rfl) rfl (fun K hK => ?_); go_simp; go_at_call 24; refine (join_c gx T cx hs F _ (HGX.out.2.ext (And.left (by assumption))) (by have := HLG.out; omega)).mono ?_; rintro e w10 ⟨v, rfl, hV, hx10⟩; rw [HFF.out] at hV; obtain ⟨a7, c7, rfl, hi7⟩ := hV.ints (by rw [HFL2.out]; omega) (fun i hi => by have := HFM.out _ (getD_mem hi); exact ⟨by omega, by omega⟩); rw [HFL2.out] at hi7 ⊢; have HI7 := Lib.hid hi7; clear hi7 hV; go_wp2_with fail; refine hK.out _ _ ?_ (fun hHeld => ?_); rotate_left; clear hK K; rotate_right; (focus (try dsimp only); refine (fun hq => ⟨hq, Ext.cell hq cur⟩ : Ext wr _ → _) ?_; repeat' (first | with_reducible assumption | with_reducible exact And.left (by assumption) | with_reducible refine Ext.drew ?_ | with_reducible refine Ext.alloc ?_ _ | with_reducible exact Ext.trans (And.left (by assumption)) (by assumption))); (try simp only [Act.put, List.setIfInBounds_toArray, List.set_cons_zero, List.set_cons_succ])
                refine consL (i := 7) (by kernel_rfl) rfl (fun K hK => ?_); go_simp; go_at_call 21; refine (rsum_c a7 fl c7 FF _ HI7.out (fun i => by have h1 := sumI_take (fun x hx => (HFM.out x hx).1) i; rw [HSM.out] at h1; exact ⟨by omega, by omega⟩)).mono ?_; rw [HSM.out]; rintro e w11 ⟨rfl, hx11⟩; go_wp2_with fail; refine hK.out _ _ ?_ (fun hHeld => ?_); rotate_left; clear hK K; rotate_right; (focus (try dsimp only); refine (fun hq => ⟨hq, Ext.cell hq cur⟩ : Ext wr _ → _) ?_; repeat' (first | with_reducible assumption | with_reducible exact And.left (by assumption) | with_reducible refine Ext.drew ?_ | with_reducible refine Ext.alloc ?_ _ | with_reducible exact Ext.trans (And.left (by assumption)) (by assumption))); (try simp only [Act.put, List.setIfInBounds_toArray, List.set_cons_zero, List.set_cons_succ])
                refine takeL (i := 12) (v := ?_) rfl (by kernel_rfl) (by kernel_rfl) (by kernel_rfl) (fun _ _ _ h => h) (Or.inl ⟨by rfl, ?_⟩) (by assumption) ?_; rotate_left; (focus (intro wq hSw; (try dsimp only at hSw); go_simp; try with_reducible rfl)); (try simp only [Act.put, List.setIfInBounds_toArray, List.set_cons_zero, List.set_cons_succ])
                refine takeL (i := 13) (v := ?_) rfl (by kernel_rfl) (by kernel_rfl) (by kernel_rfl) (fun _ _ _ h => h) (Or.inl ⟨by rfl, ?_⟩) (by assumption) ?_; rotate_left; (focus (intro wq hSw; (try dsimp only at hSw); go_simp; try with_reducible rfl)); (try simp only [Act.put, List.setIfInBounds_toArray, List.set_cons_zero, List.set_cons_succ])
                refine doneL (by kernel_rfl) ?_
                obtain ⟨E9, hc9⟩ : Ext wr w11 ∧ w11.cell? ⟨ub, k, none⟩ = some (.int .i64 nk) := (by assumption)
                have HEE := Lib.hid (HE.out.trans (HX6.out.1.trans (HE4.out.trans E9)))
                clear E9 hc9 E0 hx9 hx10 hx11
                go_wp2_with fail
                go_roundw
                case rel => exact ⟨k + 1, by omega, by go_num, HEE.out⟩
                case measure => simp [intOf]; omega
          · obtain ⟨hx4, rfl⟩ := hd.bad h0
            have cu4 := hx4.cell cu
            have HX4 := Lib.hid hx4
            clear hd hx4
            go_wp2_with fail
            refine (rerror_c nk a9 tl c9 P T _ (HST2.out.2.2.2.1.keep (HE.out.trans HX4.out).ik) (by omega)).mono ?_
            rw [HER.out]
            rintro e w5 ⟨rfl, hx5⟩
            have HX5 := Lib.hid ((HE.out.trans HX4.out).trans hx5)
            clear hx5 cu4 HX4
            go_wp2_with fail
            go_roundw
            case rel => exact ⟨k + 1, by omega, by go_num, HX5.out⟩
            case measure => simp [intOf]; omega
        · obtain rfl : k = 5 := by omega
          go_wp2_with fail
          have hz : Grps (wr.alloc (.cells C2 22)) (some ⟨wr.heap.size, 0, none⟩) 4097 (List.replicate 4097 sl0) (List.replicate 4097 []) := by rw [HC2.out]; exact Grps.nils wr 4097 (by omega)
          refine (Nested_c 0 _ 4097 4097 (List.replicate 4097 sl0) (List.replicate 4097 []) _ hz (by rw [← flat_length, lens_nils]; simp) (.inr (by omega)) (fun h => absurd h (by omega))).mono ?_
          clear hz
          rw [errF_many _ _ _ (.inr (by omega))]
          intro e w4 hd
          obtain ⟨hx4, rfl⟩ := hd.bad (by omega)
          have HX4 := Lib.hid ((HE.out.alloc _).trans hx4)
          clear hd hx4
          go_wp2_with fail
          have hz : Ints (w4.alloc (.cells C1 3)) (some ⟨w4.heap.size, 0, none⟩) 4097 (List.replicate 4097 0) := by rw [HC1.out]; exact ints_zeros w4 4097 (by omega)
          refine (Largest_c 0 _ 4097 4097 (List.replicate 4097 0) _ hz (.inr (by omega)) (by omega)).mono ?_
          clear hz
          rw [errF_many _ _ _ (.inl (by rw [List.length_replicate]; omega))]
          intro e w5 hd
          obtain ⟨hx5, rfl⟩ := hd.bad' (by omega)
          have HX5 := Lib.hid ((HX4.out.alloc _).trans hx5)
          clear hd hx5
          go_wp2_with fail
          refine (lives27_c _).mono ?_
          rintro e w6 ⟨rfl, hx⟩
          have HX := Lib.hid ((HST2.out.1.trans HX5.out).trans hx); clear hx
          go_wp2_with fail
          go_ret
          exact ⟨rfl, HX.out⟩
end Go.Proofs.Ytlnmgcmpbbklhaa
