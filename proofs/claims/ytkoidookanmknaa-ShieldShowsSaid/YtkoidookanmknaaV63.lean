/- meresmanlaw30: ShieldShows, the walk. -/
import Derived.Test.YtkoidookanmknaaV62
namespace Go.Proofs.Ytkoidookanmknaa
set_option linter.unusedSimpArgs false
set_option linter.unusedVariables false
open Go.RowKit

theorem chk_zero {N : Nat} {Ls : List (List Int)} {zs : List Int} {hs : List Bool} {m i : Nat} {v : Vec} (hc : checkE N Ls zs m (i : Int) = 0) (hi : hs.getD i false = true)
    (h1 : ∀ q, q < m → hs.getD q false = false → sumV v (Ls.getD q []) (Ls.getD q []).length = 0) (h2 : sumV v (Ls.getD i []) (Ls.getD i []).length ≠ 0) : chkE N Ls zs hs m (i : Int) N v = 0 := by
  unfold chkE
  rw [if_neg (by rw [hc]; simp), if_neg (by simp), Int.toNat_natCast]
  unfold outP
  rw [if_pos]
  refine ⟨hi, ?_⟩
  rw [List.take_length, List.all_eq_true]
  intro x hx
  rcases List.mem_append.1 hx with hx | hx
  · obtain ⟨q, hq, hp, rfl⟩ := (pubI_mem hs m x).1 hx
    rw [Int.toNat_natCast]
    unfold goodI
    rw [h1 q hq hp, hp]; simp
  · rw [List.mem_singleton] at hx
    subst hx
    rw [Int.toNat_natCast]
    unfold goodI
    rw [hi, decide_eq_false h2]; rfl
theorem VecAt.vecOf {w : World} {b n : Nat} {v : Vec} (h : VecAt w b n v) : VecOf w (some ⟨b, 0, none⟩) n v := fun i hi => by
  obtain ⟨fs, h1, h2, h3⟩ := h
  obtain ⟨f, hf⟩ : ∃ f, fs[i]? = some f := ⟨_, List.getElem?_eq_getElem (by omega)⟩
  exact ⟨b, 0, f, rfl, h1.lt, by rw [Nat.zero_add]; exact h1.quad hf, h3 i f hf⟩
theorem item_sorted2 {n : Int} {Ls : List (List Int)} {zs : List Int} {i : Nat} (h : itemBad n Ls zs i = false) : SetOK n (Ls.getD i []) ∧ (Ls.getD i []).length ≠ 0 := by
  have hc := item_cells h
  unfold itemBad at h
  simp only [Bool.or_eq_false_iff] at h
  obtain ⟨⟨⟨h1, _⟩, _⟩, h4⟩ := h
  generalize Ls.getD i [] = L at *
  have hb : ∀ k, k < L.length → badC n L k = false := fun k hk => by
    cases hc : badC n L k with
    | false => rfl
    | true => rw [List.any_eq_true.2 ⟨k, List.mem_range.2 hk, hc⟩] at h4; cases h4
  have hs : ∀ a b, a < b → b < L.length → L.getD a 0 < L.getD b 0 := fun a b => by
    induction b with
    | zero => intro hab; omega
    | succ b ih =>
      intro hab hb'
      have := hb (b + 1) hb'
      unfold badC at this
      simp only [Bool.or_eq_false_iff, decide_eq_false_iff_not, Bool.and_eq_false_iff, Nat.add_sub_cancel] at this
      by_cases e : a = b
      · subst e; omega
      · have := ih (by omega) (by omega); omega
  refine ⟨⟨List.pairwise_iff_getElem.2 fun a b ha hb hab => ?_, fun x hx => ?_⟩, fun e => hc.1 (List.eq_nil_of_length_eq_zero e)⟩
  · have := hs a b hab hb
    rwa [getD_get ha, getD_get hb] at this
  · obtain ⟨k, hk, rfl⟩ := List.getElem_of_mem hx
    have := hc.2 k hk
    rw [getD_get hk] at this
    omega
/-- The change that is shown. -/
structure ShowOK (N : Nat) (Ls : List (List Int)) (hs : List Bool) (i : Nat) (o : Vec) : Prop where
  hid : hs.getD i false = true
  pub : ∀ q, q < Ls.length → hs.getD q false = false → sumV o (Ls.getD q []) (Ls.getD q []).length = 0
  own : sumV o (Ls.getD i []) (Ls.getD i []).length ≠ 0
  sums : ∀ q j, j ≤ (Ls.getD q []).length → SmB BB (sumV o (Ls.getD q []) j)
  one : ∀ c, SmB BB (o c)
theorem ShowOK.of {N : Nat} {Ls : List (List Int)} {zs : List Int} {hs : List Bool} {i free : Nat} (hv : validE N Ls zs = 0) (hf : FewOK Ls) (hN : N ≤ 13) (hi : i < Ls.length) (hd : dB Ls hs i = false)
    (hfn : free < N) (hfree : redV (solveR N Ls hs Ls.length) (rowV (Ls.getD i [])) free ≠ 0) (hlt : ∀ p, p ∈ solveR N Ls hs Ls.length → p.2 < N) :
    ShowOK N Ls hs i (outV (solveR N Ls hs Ls.length) free (solveR N Ls hs Ls.length).length) := by
  obtain ⟨_, _, _, _, v5⟩ := validE_of hv
  have hs1 : ∀ q, q < Ls.length → SetOK N (Ls.getD q []) := fun q hq => (item_sorted2 (v5 q hq)).1
  have hlen : ∀ k, (Ls.getD k []).length ≤ 13 := fun k => by
    rcases Nat.lt_or_ge k Ls.length with hk | hk
    · have := (hs1 k hk).len; omega
    · rw [List.getD_eq_getElem?_getD, List.getElem?_eq_none hk]; simp
  have hnd : ∀ q, q < Ls.length → ∀ j k, j < k → k < (Ls.getD q []).length → (Ls.getD q []).getD j 0 ≠ (Ls.getD q []).getD k 0 := fun q hq j k hjk hk => by
    have := List.pairwise_iff_getElem.1 (hs1 q hq).1 j k (by omega) hk hjk
    rw [getD_get hk, getD_get (by omega)]
    omega
  obtain ⟨p1, p2, p3, p4⟩ := show_law (set := i) hv hf hlen hnd hlt hi hfn hfree
  refine ⟨?_, p1, p2, p3, p4⟩
  cases hh : hs.getD i false with
  | true => rfl
  | false => rw [det_pub hi hh] at hd; cases hd
set_option maxRecDepth 100000 in
set_option maxHeartbeats 4000000 in
theorem walkShows (a0 : Option Addr) (n c : Nat) (xs : List Int) (a1 : Int) (w : World) (h0 : Ints w a0 n xs) (h1 : Int64 a1) :
    Calls Try.prog 9 #[.slice a0 n c, .int .i64 a1] w fun e w' => e = .returned (.bool true) ∧ Ext w w' := by
  have H0 := Lib.hid h0; have H1 := Lib.hid h1
  clear h0 h1
  go_enter Try.func9, Try.ntmps9
  go_wp2_with fail
  refine (Some_c a0 n c xs _ H0.out).mono ?_
  rintro e w1 ⟨hE1, N, ss, vs, gs, Ls, zs, rfl, hSh, hV, hN1, hN6, hL1, hL9⟩
  obtain ⟨sa, sn, sc⟩ := ss
  obtain ⟨va, vn, vc⟩ := vs
  simp only [Sl.v]
  obtain ⟨X, hX⟩ : ∃ X, w1.heap.size = X := ⟨_, rfl⟩
  have hsn : sn = Ls.length := hSh.grps.2.1.symm
  have hfew : FewOK Ls := .inl (by omega)
  obtain ⟨xs, xo, e, _, _⟩ := hSh.grps.at 0 (by simp only; omega)
  simp only at e
  subst e
  have HV := Lib.hid (And.intro hV (And.intro hsn hfew))
  have HS := Lib.hid (And.intro hE1 hSh)
  have hs1 : 1 ≤ sn := by omega
  have hs9 : sn ≤ 9 := by omega
  clear hE1 hSh hV hsn hfew hL1 hL9
  go_upto_region 2 with (fail)
  refine wp_gen (fun W => (Ext w W ∧ ShIn W N ⟨some ⟨xs, xo, none⟩, sn, sc⟩ ⟨va, vn, vc⟩ gs Ls zs ∧ Blk W X #[.int .i64 (N : Int), .slice (some ⟨xs, xo, none⟩) sn sc, .slice va vn vc] 25)) ⟨HS.out.1.alloc _, HS.out.2.ext ((Ext.refl w1).alloc _), Blk.at _ _ hX.symm⟩ ?_
  clear hX HS
  intro W0 hS
  have x0 : W0.cell? ⟨X, 0, none⟩ = some (.int .i64 (N : Int)) := hS.2.2.cell 0
  have x1 : W0.cell? ⟨X, 1, none⟩ = some (.slice (some ⟨xs, xo, none⟩) sn sc) := hS.2.2.cell 1
  have x2 : W0.cell? ⟨X, 2, none⟩ = some (.slice va vn vc) := hS.2.2.cell 2
  have HS := Lib.hid hS
  clear hS
  go_wp2_with fail
  refine (Hidden_c N a1 ⟨some ⟨xs, xo, none⟩, sn, sc⟩ ⟨va, vn, vc⟩ _ H1.out (by simp only; omega)).mono ?_
  rintro e w2 ⟨ha, hc, rfl, hB, hx⟩
  obtain ⟨hb, ho, rfl, g1, g2⟩ := hB.at 0 (by simp only; omega)
  clear g1 g2
  simp only at hB
  have hl := hB.1
  obtain ⟨h, hh⟩ : ∃ h, hidF a1 sn = h := ⟨_, rfl⟩
  rw [hh] at hB hl
  clear hh
  have HS6 := Lib.hid (show MoI w N X ⟨some ⟨xs, xo, none⟩, sn, sc⟩ ⟨va, vn, vc⟩ gs Ls zs (some ⟨hb, ho, none⟩) (some ⟨hb, ho, none⟩) (some ⟨hb, ho, none⟩) h h h w2 from
    ⟨HS.out.1.trans hx, HS.out.2.1.ext hx, HS.out.2.2.ext hx, hB, hB, hB⟩)
  clear hB hx x0 x1 x2 HS hl
  go_wp2_with fail
  go_loopw [7] (fun v ws => ∃ i : Nat, i ≤ sn ∧ v = .int .i64 (i : Int) ∧ Ext w2 ws) (fun v _ => sn - (intOf v).toNat)
  case atStart => exact ⟨0, by omega, rfl, Ext.refl _⟩
  case round =>
    obtain ⟨i, hi, rfl, hE⟩ := hrel
    have HE := Lib.hid hE
    have HS := Lib.hid (HS6.out.keep hE)
    (have x0 : wr.cell? ⟨X, 0, none⟩ = some (.int .i64 (N : Int)) := HS.out.box.cell 0; have x1 : wr.cell? ⟨X, 1, none⟩ = some (.slice (some ⟨xs, xo, none⟩) sn sc) := HS.out.box.cell 1; have x2 : wr.cell? ⟨X, 2, none⟩ = some (.slice va vn vc) := HS.out.box.cell 2)
    clear hE
    by_cases hlt : i < sn
    · go_wp2_with fail
      (refine (own_c N ⟨some ⟨xs, xo, none⟩, sn, sc⟩ ⟨va, vn, vc⟩ _).mono ?_; rintro e v1 ⟨rfl, hx⟩; have HS1 := Lib.hid (HS.out.keep hx); have HE1 := Lib.hid (HE.out.trans hx); clear hx x0 x1 x2)
      go_wp2_with fail
      refine (det_ok N ⟨some ⟨xs, xo, none⟩, sn, sc⟩ ⟨va, vn, vc⟩ gs Ls zs (some ⟨hb, ho, none⟩) sn hc h i _ HS1.out.sh HS1.out.b1 HV.out.1 HV.out.2.1 HV.out.2.2 (by rw [← HV.out.2.1]; exact hlt)).mono ?_
      rintro e v2 ⟨rfl, hx⟩
      have HS2 := Lib.hid (HS1.out.keep hx)
      have HE2 := Lib.hid (HE1.out.trans hx)
      clear hx
      (have x0 : v2.cell? ⟨X, 0, none⟩ = some (.int .i64 (N : Int)) := HS2.out.box.cell 0; have x1 : v2.cell? ⟨X, 1, none⟩ = some (.slice (some ⟨xs, xo, none⟩) sn sc) := HS2.out.box.cell 1; have x2 : v2.cell? ⟨X, 2, none⟩ = some (.slice va vn vc) := HS2.out.box.cell 2)
      go_upto_region 7 with (fail)
      go_wp2_with fail
      (refine (own_c N ⟨some ⟨xs, xo, none⟩, sn, sc⟩ ⟨va, vn, vc⟩ _).mono ?_; rintro e v3 ⟨rfl, hx⟩; have HS3 := Lib.hid (HS2.out.keep hx); have HE3 := Lib.hid (HE2.out.trans hx); clear hx x0 x1 x2)
      go_wp2_with fail
      refine (Show_c N ⟨some ⟨xs, xo, none⟩, sn, sc⟩ ⟨va, vn, vc⟩ gs Ls zs (some ⟨hb, ho, none⟩) sn hc h i _ HS3.out.sh HS3.out.b1 HV.out.1 HV.out.2.1 HV.out.2.2 (by rw [← HV.out.2.1]; exact hlt)).mono ?_
      rintro e v4 ⟨hx, hcase⟩
      have HS4 := Lib.hid (HS3.out.keep hx)
      have HE4 := Lib.hid (HE3.out.trans hx)
      clear hx
      obtain ⟨a, hea⟩ : ∃ a, dB Ls h i = a := ⟨_, rfl⟩
      rw [hea] at hcase ⊢
      rcases hcase with ⟨rfl, rfl⟩ | ⟨rfl, b, fr, rfl, hfn, hfz, hlt2, hvec⟩
      · clear hea
        go_wp2_with fail
        go_roundw
        case rel => exact ⟨i + 1, by omega, by go_num, HE4.out⟩
        case measure => simp [intOf]; omega
      · have hok := ShowOK.of HV.out.1 HV.out.2.2 (by omega) (by rw [← HV.out.2.1]; exact hlt) hea hfn hfz hlt2
        obtain ⟨o, hoe⟩ : ∃ o, outV (solveR N Ls h Ls.length) fr (solveR N Ls h Ls.length).length = o := ⟨_, rfl⟩
        rw [hoe] at hok hvec
        have HO := Lib.hid hok
        have HVE := Lib.hid hvec
        clear hea hfn hfz hlt2 hvec hoe hok
        (have x0 : v4.cell? ⟨X, 0, none⟩ = some (.int .i64 (N : Int)) := HS4.out.box.cell 0; have x1 : v4.cell? ⟨X, 1, none⟩ = some (.slice (some ⟨xs, xo, none⟩) sn sc) := HS4.out.box.cell 1; have x2 : v4.cell? ⟨X, 2, none⟩ = some (.slice va vn vc) := HS4.out.box.cell 2)
        go_upto_region 11 with (fail)
        go_wp2_with fail
        refine (own_c N ⟨some ⟨xs, xo, none⟩, sn, sc⟩ ⟨va, vn, vc⟩ _).mono ?_
        rintro e v5 ⟨rfl, hx⟩
        have HS5 := Lib.hid (HS4.out.keep hx)
        have HE5 := Lib.hid (HE4.out.trans hx)
        have HVE5 := Lib.hid (HVE.out.ext hx)
        clear hx x0 x1 x2
        go_wp2_with fail
        refine (Check_c (N : Int) ⟨some ⟨xs, xo, none⟩, sn, sc⟩ ⟨va, vn, vc⟩ gs Ls zs (some ⟨hb, ho, none⟩) sn hc h (i : Int) (some ⟨b, 0, none⟩) N N o _ HS5.out.sh HS5.out.b1 (by omega) HVE5.out.vecOf (by omega) (fun _ => ⟨HO.out.sums, HO.out.one⟩)).mono ?_
        rw [chk_zero (check_ok HV.out.1 HV.out.2.1 (by rw [← HV.out.2.1]; exact hlt)) HO.out.hid (fun q hq hp => HO.out.pub q (by rw [← HV.out.2.1]; exact hq) hp) HO.out.own]
        rintro e v6 ⟨rfl, hx⟩
        have HS7 := Lib.hid (HS5.out.keep hx)
        have HE7 := Lib.hid (HE5.out.trans hx)
        have HVE7 := Lib.hid (HVE5.out.ext hx)
        clear hx
        (have x0 : v6.cell? ⟨X, 0, none⟩ = some (.int .i64 (N : Int)) := HS7.out.box.cell 0; have x1 : v6.cell? ⟨X, 1, none⟩ = some (.slice (some ⟨xs, xo, none⟩) sn sc) := HS7.out.box.cell 1; have x2 : v6.cell? ⟨X, 2, none⟩ = some (.slice va vn vc) := HS7.out.box.cell 2)
        go_wp2_with fail
        clear x0 x1 x2
        go_loopw [12] (fun kv wk => ∃ k : Nat, k ≤ sn ∧ kv = .int .i64 (k : Int) ∧ Ext v6 wk) (fun kv _ => sn - (intOf kv).toNat)
        case atStart => exact ⟨0, by omega, rfl, Ext.refl _⟩
        case round =>
          rename World => wk
          obtain ⟨k, hk, rfl, hEk⟩ := hrel
          have HEK := Lib.hid hEk
          have HSK := Lib.hid (HS7.out.keep hEk)
          (have x0 : wk.cell? ⟨X, 0, none⟩ = some (.int .i64 (N : Int)) := HSK.out.box.cell 0; have x1 : wk.cell? ⟨X, 1, none⟩ = some (.slice (some ⟨xs, xo, none⟩) sn sc) := HSK.out.box.cell 1; have x2 : wk.cell? ⟨X, 2, none⟩ = some (.slice va vn vc) := HSK.out.box.cell 2)
          clear x0 x2 hEk
          by_cases hkl : k < sn
          · obtain ⟨_, _, e, _, hset⟩ := HSK.out.sh.grps.at k hkl
            injection e with e; injection e with e1 e2
            subst e1; subst e2
            have hI := HSK.out.sh.grps.2.2.2.2 k hkl
            obtain ⟨⟨ga, gn, gc⟩, hg⟩ : ∃ s, gs.getD k sl0 = s := ⟨_, rfl⟩
            obtain ⟨l, hl⟩ : ∃ l, Ls.getD k [] = l := ⟨_, rfl⟩
            rw [hg] at hset hI
            rw [hl] at hI
            simp only [Sl.v] at hset hI
            have hgn := hI.1
            have hgm := hI.2.1
            have HI := Lib.hid (And.intro hI (And.intro hl (show ∀ x, x ∈ l → 0 ≤ x ∧ x < (N : Int) from fun x hx => (HSK.out.sh.sheet HV.out.1).cell k x (by rw [hl]; exact hx))))
            have k0 : (0 : Int) ≤ (k : Int) := by omega
            have k1 : (k : Int) < (sn : Int) := by omega
            clear hl hI hg
            go_upto_region 17 with (fail)
            obtain ⟨zb, hzb⟩ : ∃ b, wk.heap.size = b := ⟨_, rfl⟩
            try rw [hzb]
            refine wp_gen (fun W => Ext wk W ∧ Own W zb 4 ∧ Quad0 W zb fv0 ∧ IsQ W fv0 0) ⟨(Ext.refl _).alloc _, (Blk.at _ 58 hzb.symm).own _ (by simp) (noIntF _ _ _ _ _ _ _ _), Blk.quad0 (f := fv0) (Blk.at _ 58 hzb.symm), zero_isQ _⟩ ?_
            rintro W ⟨hx7, ho7, hq7, hf7⟩
            have H7 := Lib.hid (And.intro hx7 (And.intro ho7 (And.intro hq7 hf7)))
            have HST := Lib.hid (And.intro x1 hset)
            clear hx7 ho7 hq7 hf7 x1 hset
            go_wp2_with fail
            go_loopw [14] (fun jv wz => ∃ (j : Nat) (fs : FV), j ≤ gn ∧ jv = .int .i64 (j : Int) ∧ Ext wk wz ∧ Own wz zb 4 ∧ Quad0 wz zb fs ∧ IsQ wz fs (sumV o l j)) (fun jv _ => gn - (intOf jv).toNat)
            case atStart => exact ⟨0, fv0, by omega, rfl, H7.out.1, H7.out.2.1, H7.out.2.2.1, H7.out.2.2.2⟩
            case round =>
              rename World => wz
              obtain ⟨j, fs, hj, rfl, hxz, hoz, hqz, hfz⟩ := hrel
              have HJ := Lib.hid (And.intro hxz (And.intro hoz (And.intro hqz hfz)))
              have x1 := hxz.cell HST.out.1
              have hset := hxz.cell HST.out.2
              by_cases hjl : j < gn
              · obtain ⟨lb, lo, rfl, _, hcell⟩ := (HI.out.1.keep hxz.ik).at j hjl
                obtain ⟨cc, hcc, hcm2⟩ : ∃ cc : Nat, l.getD j 0 = (cc : Int) ∧ cc < N := by
                  have := HI.out.2.2 (l.getD j 0) (by rw [getD_get (by omega)]; exact List.getElem_mem _)
                  exact ⟨(l.getD j 0).toNat, by omega, by omega⟩
                rw [hcc] at hcell
                obtain ⟨rs, r1, r2, r3⟩ := (HVE7.out.ext HEK.out).ext hxz
                obtain ⟨g9, hg9⟩ : ∃ g, rs[cc]? = some g := ⟨_, List.getElem?_eq_getElem (by omega)⟩
                have HC := Lib.hid (And.intro hcc (r3 cc g9 hg9))
                have i0' : (0 : Int) ≤ (j : Int) := by omega
                have i1' : (j : Int) < (gn : Int) := by omega
                have c0' : (0 : Int) ≤ (cc : Int) := by omega
                have c1' : (cc : Int) < (N : Int) := by omega
                have hSt : wz.cell? ⟨X, 1, none⟩ = some (.slice (some ⟨xs, xo, none⟩) sn sc) ∧ wz.cell? ⟨xs, xo + k, none⟩ = some (.slice (some ⟨lb, lo, none⟩) gn gc) ∧ wz.cell? ⟨lb, lo + j, none⟩ = some (.int .i64 (cc : Int)) ∧ Quad0 wz zb fs ∧ Quad wz b (cc * 4) g9 := ⟨x1, hset, hcell, hqz, r1.quad hg9⟩
                have HSt := Lib.hid hSt
                have hzl := hoz.lt (by omega)
                clear hxz hoz hqz hfz hcc r1 r2 r3 hg9
                go_upto_region 20 with (fail)
                refine wp_region_E (fun W => W.cell? ⟨X, 1, none⟩ = some (.slice (some ⟨xs, xo, none⟩) sn sc) ∧ W.cell? ⟨xs, xo + k, none⟩ = some (.slice (some ⟨lb, lo, none⟩) gn gc) ∧ W.cell? ⟨lb, lo + j, none⟩ = some (.int .i64 (cc : Int)) ∧ Quad0 W zb fs ∧ Quad W b (cc * 4) g9) [17] (by kernel_rfl) hSt (fun hSd => ?_)
                refine takeE (i := 0) (v := ?_) rfl (by kernel_rfl) (by kernel_rfl) (by kernel_rfl) (fun _ _ _ h => h) (by kernel_rfl) (by kernel_rfl) (Or.inl ⟨by rfl, ?_⟩) (by assumption) ?_; rotate_left; (focus (intro wq hSw; obtain ⟨s1, s2, s3, ⟨q1, q2, q3, q4⟩, ⟨p1, p2, p3, p4⟩⟩ := hSw; go_simp; try with_reducible rfl)); (try simp only [Act.put, List.setIfInBounds_toArray, List.set_cons_zero, List.set_cons_succ])
                refine takeP (i := 1) (v := ?_) rfl (by kernel_rfl) (by kernel_rfl) (by kernel_rfl) (fun _ _ _ h => h) (Or.inl ⟨by rfl, ?_⟩) ?_; rotate_left; (focus (intro wq hSw; clear hSw; go_simp; try with_reducible rfl)); (try simp only [Act.put, List.setIfInBounds_toArray, List.set_cons_zero, List.set_cons_succ])
                refine takeP (i := 2) (v := ?_) rfl (by kernel_rfl) (by kernel_rfl) (by kernel_rfl) (fun _ _ _ h => h) (Or.inl ⟨by rfl, ?_⟩) ?_; rotate_left; (focus (intro wq hSw; clear hSw; go_simp; try with_reducible rfl)); (try simp only [Act.put, List.setIfInBounds_toArray, List.set_cons_zero, List.set_cons_succ])
                refine takeE (i := 3) (v := ?_) rfl (by kernel_rfl) (by kernel_rfl) (by kernel_rfl) (fun _ _ _ h => h) (by kernel_rfl) (by kernel_rfl) (Or.inl ⟨by rfl, ?_⟩) (by assumption) ?_; rotate_left; (focus (intro wq hSw; obtain ⟨s1, s2, s3, ⟨q1, q2, q3, q4⟩, ⟨p1, p2, p3, p4⟩⟩ := hSw; go_simp; try with_reducible rfl)); (try simp only [Act.put, List.setIfInBounds_toArray, List.set_cons_zero, List.set_cons_succ])
                refine takeP (i := 4) (v := ?_) rfl (by kernel_rfl) (by kernel_rfl) (by kernel_rfl) (fun _ _ _ h => h) (Or.inl ⟨by rfl, ?_⟩) ?_; rotate_left; (focus (intro wq hSw; clear hSw; go_simp; try with_reducible rfl)); (try simp only [Act.put, List.setIfInBounds_toArray, List.set_cons_zero, List.set_cons_succ])
                refine takeP (i := 5) (v := ?_) rfl (by kernel_rfl) (by kernel_rfl) (by kernel_rfl) (fun _ _ _ h => h) (Or.inl ⟨by rfl, ?_⟩) ?_; rotate_left; (focus (intro wq hSw; clear hSw; go_simp; try with_reducible rfl)); (try simp only [Act.put, List.setIfInBounds_toArray, List.set_cons_zero, List.set_cons_succ])
                refine takeE (i := 6) (v := ?_) rfl (by kernel_rfl) (by kernel_rfl) (by kernel_rfl) (fun _ _ _ h => h) (by kernel_rfl) (by kernel_rfl) (Or.inl ⟨by rfl, ?_⟩) (by assumption) ?_; rotate_left; (focus (intro wq hSw; obtain ⟨s1, s2, s3, ⟨q1, q2, q3, q4⟩, ⟨p1, p2, p3, p4⟩⟩ := hSw; go_simp; try with_reducible rfl)); (try simp only [Act.put, List.setIfInBounds_toArray, List.set_cons_zero, List.set_cons_succ])
                refine takeP (i := 7) (v := ?_) rfl (by kernel_rfl) (by kernel_rfl) (by kernel_rfl) (fun _ _ _ h => h) (Or.inl ⟨by rfl, ?_⟩) ?_; rotate_left; (focus (intro wq hSw; clear hSw; go_simp; try with_reducible rfl)); (try simp only [Act.put, List.setIfInBounds_toArray, List.set_cons_zero, List.set_cons_succ])
                refine takeP (i := 8) (v := ?_) rfl (by kernel_rfl) (by kernel_rfl) (by kernel_rfl) (fun _ _ _ h => h) (Or.inl ⟨by rfl, ?_⟩) ?_; rotate_left; (focus (intro wq hSw; clear hSw; go_simp; try with_reducible rfl)); (try simp only [Act.put, List.setIfInBounds_toArray, List.set_cons_zero, List.set_cons_succ])
                refine takeE (i := 9) (v := ?_) rfl (by kernel_rfl) (by kernel_rfl) (by kernel_rfl) (fun _ _ _ h => h) (by kernel_rfl) (by kernel_rfl) (Or.inl ⟨by rfl, ?_⟩) (by assumption) ?_; rotate_left; (focus (intro wq hSw; obtain ⟨s1, s2, s3, ⟨q1, q2, q3, q4⟩, ⟨p1, p2, p3, p4⟩⟩ := hSw; go_simp; try with_reducible rfl)); (try simp only [Act.put, List.setIfInBounds_toArray, List.set_cons_zero, List.set_cons_succ])
                refine takeP (i := 10) (v := ?_) rfl (by kernel_rfl) (by kernel_rfl) (by kernel_rfl) (fun _ _ _ h => h) (Or.inl ⟨by rfl, ?_⟩) ?_; rotate_left; (focus (intro wq hSw; clear hSw; go_simp; try with_reducible rfl)); (try simp only [Act.put, List.setIfInBounds_toArray, List.set_cons_zero, List.set_cons_succ])
                refine takeE (i := 11) (v := ?_) rfl (by kernel_rfl) (by kernel_rfl) (by kernel_rfl) (fun _ _ _ h => h) (by kernel_rfl) (by kernel_rfl) (Or.inl ⟨by rfl, ?_⟩) (by assumption) ?_; rotate_left; (focus (intro wq hSw; obtain ⟨s1, s2, s3, ⟨q1, q2, q3, q4⟩, ⟨p1, p2, p3, p4⟩⟩ := hSw; go_simp; try with_reducible rfl)); (try simp only [Act.put, List.setIfInBounds_toArray, List.set_cons_zero, List.set_cons_succ])
                have HSm := Lib.hid (fun (W : World) (k' : Ext wz W) => show W.cell? ⟨X, 1, none⟩ = some (.slice (some ⟨xs, xo, none⟩) sn sc) ∧ W.cell? ⟨xs, xo + k, none⟩ = some (.slice (some ⟨lb, lo, none⟩) gn gc) ∧ W.cell? ⟨lb, lo + j, none⟩ = some (.int .i64 (cc : Int)) ∧ Quad0 W zb fs ∧ Quad W b (cc * 4) g9 from ⟨k'.cell HSt.out.1, k'.cell HSt.out.2.1, k'.cell HSt.out.2.2.1, HSt.out.2.2.2.1.ext k', HSt.out.2.2.2.2.ext k'⟩)
                have hsm : SmB BB (sumV o l j) := by
                  have := HO.out.sums k j
                  rw [HI.out.2.1, hgn] at this
                  exact this (by omega)
                have HSMJ := Lib.hid hsm
                clear hsm
                refine cons2E (i := 12) (j := 16) (by kernel_rfl) rfl rfl (fun K hK => ?_) (fun K hK => ?_)
                · go_simp; go_at_call 31; refine (addQ_c fs g9 (sumV o l j) (o cc) BB BBk _ (HJ.out.2.2.2.keep ((Ext.refl wz).drew).ik) (HC.out.2.keep ((Ext.refl wz).drew).ik) HSMJ.out (HO.out.one cc) BB_lt (by decide)).mono ?_; rintro e w8 ⟨r, rfl, hr, hx8⟩; go_wp2_with fail; have hx8' : Ext wz w8 := ((Ext.refl wz).drew).trans hx8; (refine hK.out _ _ ?_ (fun _ => ?_); rotate_left; clear hK K; rotate_right; (focus (exact .inr (.inl (HSm.out w8 hx8')))); (try simp only [Act.put, List.setIfInBounds_toArray, List.set_cons_zero, List.set_cons_succ])); have HX8 := Lib.hid hx8; have H8 := Lib.hid (And.intro hr hx8'); clear hr hx8 hx8'
                  refine takeP (i := 13) (v := ?_) rfl (by kernel_rfl) (by kernel_rfl) (by kernel_rfl) (fun _ _ _ h => h) (Or.inl ⟨by rfl, ?_⟩) ?_; rotate_left; (focus (intro wq hSw; clear hSw; go_simp; try with_reducible rfl)); (try simp only [Act.put, List.setIfInBounds_toArray, List.set_cons_zero, List.set_cons_succ])
                  refine takeP (i := 14) (v := ?_) rfl (by kernel_rfl) (by kernel_rfl) (by kernel_rfl) (fun _ _ _ h => h) (Or.inl ⟨by rfl, ?_⟩) ?_; rotate_left; (focus (intro wq hSw; clear hSw; go_simp; try with_reducible rfl)); (try simp only [Act.put, List.setIfInBounds_toArray, List.set_cons_zero, List.set_cons_succ])
                  refine takeP (i := 15) (v := ?_) rfl (by kernel_rfl) (by kernel_rfl) (by kernel_rfl) (fun _ _ _ h => h) (Or.inl ⟨by rfl, ?_⟩) ?_; rotate_left; (focus (intro wq hSw; clear hSw; go_simp; try with_reducible rfl)); (try simp only [Act.put, List.setIfInBounds_toArray, List.set_cons_zero, List.set_cons_succ])
                  refine consE (i := 16) (by kernel_rfl) rfl (fun K hK => ?_)
                  go_simp
                  refine hK.out _ _ ?_ (fun _ => ?_); rotate_left; clear hK K; rotate_right; (focus (exact .inr (.inl (HSm.out _ (H8.out.2.alloc _))))); (try simp only [Act.put, List.setIfInBounds_toArray, List.set_cons_zero, List.set_cons_succ])
                  refine consE (i := 17) (by kernel_rfl) rfl (fun K hK => ?_)
                  go_simp
                  refine hK.out _ _ ?_ (fun _ => ?_); rotate_left; clear hK K; rotate_right; (focus (exact .inl (by simp))); (try simp only [Act.put, List.setIfInBounds_toArray, List.set_cons_zero, List.set_cons_succ])
                  refine takeP (i := 18) (v := ?_) rfl (by kernel_rfl) (by kernel_rfl) (by kernel_rfl) (fun _ _ _ h => h) (Or.inl ⟨by rfl, ?_⟩) ?_; rotate_left; (focus (intro wq hSw; clear hSw; go_simp; try with_reducible rfl)); (try simp only [Act.put, List.setIfInBounds_toArray, List.set_cons_zero, List.set_cons_succ])
                  refine doneE (by kernel_rfl) ?_ _
                  go_upto_region 21 with (fail)
                  obtain ⟨nb, hnb⟩ : ∃ k, w8.heap.size = k := ⟨_, rfl⟩
                  rw [hnb]
                  refine wp_gen (fun W => Ext wz W ∧ Quad0 W nb r ∧ IsQ W r (sumV o l j + o cc) ∧ Own W zb 4) ⟨H8.out.2.alloc _, Blk.quad0 (Blk.at _ 58 hnb.symm), H8.out.1.keep ((Ext.refl _).alloc _).ik, Own.ext (H8.out.2.alloc _) HJ.out.2.1 (by omega)⟩ ?_
                  rintro W ⟨hW, hq, hr, hz⟩; obtain ⟨n0, n1, n2, n3⟩ := hq; have z0 := hz.1 0 (by omega); have z1 := hz.1 1 (by omega); have z2 := hz.1 2 (by omega); have z3 := hz.1 3 (by omega); have zf := hz.2.1; have HW := Lib.hid (And.intro hW (And.intro hr hz)); clear hW hr hz; go_wp2_with fail; go_roundw; (case rel => exact ⟨j + 1, r, by omega, by go_num, ext_putF (HJ.out.1.trans HW.out.1) (by omega) r, own_putF HW.out.2.2 r, Quad0.putF HW.out.2.2 r, by rw [show sumV o l (j + 1) = sumV o l j + o cc from by (show sumV o l j + o (l.getD j 0).toNat = _; rw [HC.out.1, Int.toNat_natCast])]; exact HW.out.2.1.keep (IK.putF HW.out.2.2 r)⟩); (case measure => simp [intOf]; omega)
                · go_simp
                  refine hK.out _ _ ?_ (fun _ => ?_); rotate_left; clear hK K; rotate_right; (focus (exact .inr (.inl (HSm.out _ ((Ext.refl wz).drew.alloc _))))); (try simp only [Act.put, List.setIfInBounds_toArray, List.set_cons_zero, List.set_cons_succ])
                  refine consE (i := 12) (by kernel_rfl) rfl (fun K hK => ?_)
                  go_simp; go_at_call 31; refine (addQ_c fs g9 (sumV o l j) (o cc) BB BBk _ (HJ.out.2.2.2.keep ((Ext.refl wz).drew.alloc _).ik) (HC.out.2.keep ((Ext.refl wz).drew.alloc _).ik) HSMJ.out (HO.out.one cc) BB_lt (by decide)).mono ?_; rintro e w8 ⟨r, rfl, hr, hx8⟩; go_wp2_with fail; have hx8' : Ext wz w8 := ((Ext.refl wz).drew.alloc _).trans hx8; (refine hK.out _ _ ?_ (fun _ => ?_); rotate_left; clear hK K; rotate_right; (focus (exact .inr (.inl (HSm.out w8 hx8')))); (try simp only [Act.put, List.setIfInBounds_toArray, List.set_cons_zero, List.set_cons_succ])); have HX8 := Lib.hid hx8; have H8 := Lib.hid (And.intro hr hx8'); clear hr hx8 hx8'
                  refine takeP (i := 13) (v := ?_) rfl (by kernel_rfl) (by kernel_rfl) (by kernel_rfl) (fun _ _ _ h => h) (Or.inl ⟨by rfl, ?_⟩) ?_; rotate_left; (focus (intro wq hSw; clear hSw; go_simp; try with_reducible rfl)); (try simp only [Act.put, List.setIfInBounds_toArray, List.set_cons_zero, List.set_cons_succ])
                  refine takeP (i := 14) (v := ?_) rfl (by kernel_rfl) (by kernel_rfl) (by kernel_rfl) (fun _ _ _ h => h) (Or.inl ⟨by rfl, ?_⟩) ?_; rotate_left; (focus (intro wq hSw; clear hSw; go_simp; try with_reducible rfl)); (try simp only [Act.put, List.setIfInBounds_toArray, List.set_cons_zero, List.set_cons_succ])
                  refine takeP (i := 15) (v := ?_) rfl (by kernel_rfl) (by kernel_rfl) (by kernel_rfl) (fun _ _ _ h => h) (Or.inl ⟨by rfl, ?_⟩) ?_; rotate_left; (focus (intro wq hSw; clear hSw; go_simp; try with_reducible rfl)); (try simp only [Act.put, List.setIfInBounds_toArray, List.set_cons_zero, List.set_cons_succ])
                  have ho9 : Own w8 wz.heap.size 4 := Own.ext HX8.out ((Blk.at #[.bool false, .slice none 0 0, .bool false, .slice none 0 0] 58 rfl).own _ (by simp) (noIntF _ _ _ _ _ _ _ _)) (by omega)
                  have z0 := ho9.1 0 (by omega)
                  have z1 := ho9.1 1 (by omega)
                  have z2 := ho9.1 2 (by omega)
                  have z3 := ho9.1 3 (by omega)
                  have zf := ho9.2.1
                  refine consE (i := 17) (by kernel_rfl) rfl (fun K hK => ?_)
                  go_simp
                  refine hK.out _ _ ?_ (fun _ => ?_); rotate_left; clear hK K; rotate_right; (focus (exact .inl (by simp))); (try simp only [Act.put, List.setIfInBounds_toArray, List.set_cons_zero, List.set_cons_succ])
                  refine takeP (i := 18) (v := ?_) rfl (by kernel_rfl) (by kernel_rfl) (by kernel_rfl) (fun _ _ _ h => h) (Or.inl ⟨by rfl, ?_⟩) ?_; rotate_left; (focus (intro wq hSw; clear hSw; go_simp; try with_reducible rfl)); (try simp only [Act.put, List.setIfInBounds_toArray, List.set_cons_zero, List.set_cons_succ])
                  refine doneE (by kernel_rfl) ?_ _
                  go_upto_region 21 with (fail)
                  refine wp_gen (fun W => Ext wz W ∧ Quad0 W wz.heap.size r ∧ IsQ W r (sumV o l j + o cc) ∧ Own W zb 4) ⟨ext_putF H8.out.2 (Nat.le_refl _) r, Quad0.putF ho9 r, H8.out.1.keep (IK.putF ho9 r), own_putF (Own.ext H8.out.2 HJ.out.2.1 (by omega)) r⟩ ?_
                  rintro W ⟨hW, hq, hr, hz⟩; obtain ⟨n0, n1, n2, n3⟩ := hq; have z0 := hz.1 0 (by omega); have z1 := hz.1 1 (by omega); have z2 := hz.1 2 (by omega); have z3 := hz.1 3 (by omega); have zf := hz.2.1; have HW := Lib.hid (And.intro hW (And.intro hr hz)); clear hW hr hz; go_wp2_with fail; go_roundw; (case rel => exact ⟨j + 1, r, by omega, by go_num, ext_putF (HJ.out.1.trans HW.out.1) (by omega) r, own_putF HW.out.2.2 r, Quad0.putF HW.out.2.2 r, by rw [show sumV o l (j + 1) = sumV o l j + o cc from by (show sumV o l j + o (l.getD j 0).toNat = _; rw [HC.out.1, Int.toNat_natCast])]; exact HW.out.2.1.keep (IK.putF HW.out.2.2 r)⟩); (case measure => simp [intOf]; omega)
              · obtain rfl : j = gn := by omega
                obtain ⟨_, _, e, _, hcell⟩ := (HSK.out.keep hxz).b1.at k hkl
                injection e with e; injection e with e1 e2
                subst e1; subst e2
                obtain ⟨y, hy⟩ : ∃ y, h.getD k false = y := ⟨_, rfl⟩
                rw [hy] at hcell
                obtain ⟨c0, c1, c2, c3⟩ := hqz
                have HY := Lib.hid hy
                have hkL : k < Ls.length := by rw [← HV.out.2.1]; exact hkl
                have hss : sumV o (Ls.getD k []) (Ls.getD k []).length = sumV o l j := by rw [HI.out.2.1, hgn]
                have HSS := Lib.hid hss
                clear hoz hfz hxz hy hss hjl
                cases y with
                | false =>
                  have hki : ((k : Int) == (i : Int)) = false := by
                    rw [beq_eq_false_iff_ne]
                    intro e
                    have : k = i := by omega
                    subst this
                    have := HO.out.hid
                    rw [HY.out] at this
                    cases this
                  have hz0 : sumV o l j = 0 := by rw [← HSS.out]; exact HO.out.pub k hkL HY.out
                  have HZ0 := Lib.hid hz0
                  clear hz0
                  go_wp2_with fail; refine (signQ_c fs (sumV o l j) _ HJ.out.2.2.2).mono ?_; rintro e v9 ⟨⟨s, rfl, hs⟩, hx9⟩
                  have s0 : s = 0 := hs.2 HZ0.out
                  subst s0
                  have H9 := Lib.hid (HJ.out.1.trans hx9)
                  clear hs hx9 c0 c1 c2 c3
                  go_wp2_with fail; go_roundw; (case rel => exact ⟨k + 1, by omega, by go_num, HEK.out.trans H9.out⟩); (case measure => simp [intOf]; omega)
                | true =>
                  by_cases hki : k = i
                  · subst hki
                    have HNZ := Lib.hid (show sumV o l j ≠ 0 from by rw [← HSS.out]; exact HO.out.own)
                    go_wp2_with fail; refine (signQ_c fs (sumV o l j) _ HJ.out.2.2.2).mono ?_; rintro e v9 ⟨⟨s, rfl, hs⟩, hx9⟩
                    have s0 : (s == 0) = false := by rw [beq_eq_false_iff_ne]; exact fun e => HNZ.out (hs.1 e)
                    have H9 := Lib.hid (HJ.out.1.trans hx9)
                    clear hs hx9 c0 c1 c2 c3
                    go_wp2_with fail; go_roundw; (case rel => exact ⟨k + 1, by omega, by go_num, HEK.out.trans H9.out⟩); (case measure => simp [intOf]; omega)
                  · have hki2 : ((k : Int) == (i : Int)) = false := by
                      rw [beq_eq_false_iff_ne]
                      omega
                    clear hki
                    go_wp2_with fail; go_roundw; (case rel => exact ⟨k + 1, by omega, by go_num, HEK.out.trans HJ.out.1⟩); (case measure => simp [intOf]; omega)
          · obtain rfl : k = sn := by omega
            clear hkl
            go_wp2_with fail
            go_roundw
            case rel => exact ⟨i + 1, by omega, by go_num, HE7.out.trans HEK.out⟩
            case measure => simp [intOf]; omega
    · obtain rfl : i = sn := by omega
      go_wp2_with fail
      refine (lives_c _).mono ?_
      rintro e w9 ⟨rfl, hx9⟩
      have E9 := HS.out.ext.trans hx9
      clear hx9
      go_wp2_with fail
      go_ret
      exact ⟨rfl, E9⟩
end Go.Proofs.Ytkoidookanmknaa
