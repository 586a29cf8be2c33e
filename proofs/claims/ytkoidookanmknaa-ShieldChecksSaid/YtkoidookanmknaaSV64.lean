/- meresmanref30.Check, with small integers. -/
import Derived.Test.YtkoidookanmknaaSV60
import Derived.Test.YtkoidookanmknaaSV46
namespace Go.Proofs.Ytkoidookanmknaa
set_option linter.unusedSimpArgs false
set_option linter.unusedVariables false
open Go.RowKit

def sumI (ds l : List Int) : Nat → Int
 | 0 => 0
 | k + 1 => sumI ds l k + ds.getD (l.getD k 0).toNat 0
theorem sumI_bd {ds l : List Int} (h : ∀ c, -2 ≤ ds.getD c 0 ∧ ds.getD c 0 ≤ 2) : ∀ k : Nat, -(2 * (k : Int)) ≤ sumI ds l k ∧ sumI ds l k ≤ 2 * (k : Int)
 | 0 => by unfold sumI; omega
 | k + 1 => by
  have ih := sumI_bd (l := l) h k
  have := h (l.getD k 0).toNat
  unfold sumI
  omega
theorem sumV_I (ds l : List Int) : ∀ k, sumV (vecI ds) l k = ((sumI ds l k : Int) : Rat)
 | 0 => rfl
 | k + 1 => by
  unfold sumV sumI
  rw [sumV_I ds l k, Rat.intCast_add]; rfl
def badR (ds : List Int) (Ls : List (List Int)) (hs : List Bool) (set : Int) (i : Nat) : Bool :=
 (!hs.getD i false && !decide (sumI ds (Ls.getD i []) (Ls.getD i []).length = 0)) || (decide ((i : Int) = set) && (decide (sumI ds (Ls.getD i []) (Ls.getD i []).length = 0) || !hs.getD i false))
def rchkE (n : Int) (Ls : List (List Int)) (zs : List Int) (hs : List Bool) (m : Nat) (set : Int) (cm : Nat) (ds : List Int) : Int :=
 if checkE n Ls zs m set ≠ 0 then checkE n Ls zs m set else if (cm : Int) ≠ n then 1 else if (List.range m).any (badR ds Ls hs set) = true then 14 else 0
theorem good_I (ds : List Int) (Ls : List (List Int)) (hs : List Bool) (i : Nat) : goodI (vecI ds) Ls hs i = (decide (sumI ds (Ls.getD i []) (Ls.getD i []).length = 0) == !hs.getD i false) := by
 unfold goodI
 rw [sumV_I]
 congr 1
 rw [decide_eq_decide]
 exact Rat.intCast_eq_zero_iff
theorem chk_same (n : Int) (Ls : List (List Int)) (zs : List Int) (hs : List Bool) (m : Nat) (set : Int) (cm : Nat) (ds : List Int) : chkE n Ls zs hs m set cm (vecI ds) = rchkE n Ls zs hs m set cm ds := by
 unfold chkE rchkE
 by_cases h1 : checkE n Ls zs m set ≠ 0
 ·rw [if_pos h1, if_pos h1]
 ·rw [if_neg h1, if_neg h1]
  by_cases h2 : (cm : Int) ≠ n
  ·rw [if_pos h2, if_pos h2]
  ·rw [if_neg h2, if_neg h2]
   obtain ⟨_, v2, v3, v4⟩ := checkE_ok (Decidable.of_not_not h1)
   obtain ⟨K, rfl⟩ : ∃ K : Nat, set = (K : Int) := ⟨set.toNat, by omega⟩
   unfold outP
   rw [Int.toNat_natCast, List.take_length]
   have key : (hs.getD K false = true ∧ (pubI hs m ++ [(K : Int)]).all (fun x => goodI (vecI ds) Ls hs x.toNat) = true) ↔ ¬ (List.range m).any (badR ds Ls hs (K : Int)) = true := by
    rw [List.all_eq_true, List.any_eq_true]
    constructor
    ·rintro ⟨g1, g2⟩ ⟨i, hi, hb⟩
     rw [List.mem_range] at hi
     unfold badR at hb
     by_cases hiK : i = K
     ·subst hiK
      have := g2 (i : Int) (List.mem_append.2 (.inr (by simp)))
      rw [Int.toNat_natCast, good_I, g1] at this
      rw [g1] at hb
      cases hd : decide (sumI ds (Ls.getD i []) (Ls.getD i []).length = 0) <;> rw [hd] at this hb <;> simp at this hb
     ·rw [decide_eq_false (show ¬ (i : Int) = (K : Int) by omega)] at hb
      cases hh : hs.getD i false with
      | true => rw [hh] at hb; simp at hb
      | false =>
       have := g2 (i : Int) (List.mem_append.2 (.inl ((pubI_mem hs m _).2 ⟨i, hi, hh, rfl⟩)))
       rw [Int.toNat_natCast, good_I, hh] at this
       rw [hh] at hb
       cases hd : decide (sumI ds (Ls.getD i []) (Ls.getD i []).length = 0) <;> rw [hd] at this hb <;> simp at this hb
    ·intro h
     have hno : ∀ i, i < m → badR ds Ls hs (K : Int) i = false := fun i hi => by
      cases hb : badR ds Ls hs (K : Int) i with
      | false => rfl
      | true => exact absurd ⟨i, List.mem_range.2 hi, hb⟩ h
     have hK := hno K (by omega)
     unfold badR at hK
     rw [decide_eq_true (rfl : (K : Int) = (K : Int))] at hK
     have hh : hs.getD K false = true := by
      cases hh : hs.getD K false with
      | true => rfl
      | false => rw [hh] at hK; simp at hK
     refine ⟨hh, fun x hx => ?_⟩
     rcases List.mem_append.1 hx with hx | hx
     ·obtain ⟨q, hq, hp, rfl⟩ := (pubI_mem hs m x).1 hx
      have := hno q hq
      unfold badR at this
      rw [Int.toNat_natCast, good_I, hp]
      rw [hp] at this
      cases hd : decide (sumI ds (Ls.getD q []) (Ls.getD q []).length = 0) <;> rw [hd] at this <;> simp at this ⊢
     ·rw [List.mem_singleton] at hx
      subst hx
      rw [Int.toNat_natCast, good_I, hh]
      rw [hh] at hK
      cases hd : decide (sumI ds (Ls.getD K []) (Ls.getD K []).length = 0) <;> rw [hd] at hK <;> simp at hK ⊢
   by_cases hb : (List.range m).any (badR ds Ls hs (K : Int)) = true
   ·rw [if_pos hb, if_neg (fun h => key.1 h hb)]
   ·rw [if_neg hb, if_pos (key.2 hb)]
theorem lt_succ_of {P : Nat → Bool} {i : Nat} (h : ∀ q, q < i → P q = false) (hi : P i = false) {q : Nat} (hq : q < i + 1) : P q = false := by
 by_cases e : q = i
 ·rw [e]; exact hi
 ·exact h q (by omega)
set_option maxRecDepth 100000 in
set_option maxHeartbeats 4000000 in
theorem rChk_c (n : Int) (ss vs : Sl) (gs : List Sl) (Ls : List (List Int)) (zs : List Int) (ha : Option Addr) (m hc : Nat) (hs : List Bool) (set : Int) (ca : Option Addr) (cm cc : Nat) (ds : List Int) (w : World) (h : ShIn w n ss vs gs Ls zs) (hH : Bls w ha m hs) (hm : m ≤ 1000) (hd : Ints w ca cm ds) (hcm : cm ≤ 1000) (hb : ∀ c, -2 ≤ ds.getD c 0 ∧ ds.getD c 0 ≤ 2) :
  Calls Try.prog 26 #[.agg #[.int .i64 n, ss.v, vs.v], .slice ha m hc, .int .i64 set, .slice ca cm cc] w fun e w' => e = .returned (.int .i64 (rchkE n Ls zs hs m set cm ds)) ∧ Ext w w' := by
 have H := Lib.hid (And.intro h (And.intro hH (And.intro hd hb)))
 obtain ⟨q, hq⟩ : ∃ q, checkE n Ls zs m set = q := ⟨_, rfl⟩
 obtain ⟨o, ho⟩ : ∃ o, rchkE n Ls zs hs m set cm ds = o := ⟨_, rfl⟩
 have HQ := Lib.hid hq
 have HO := Lib.hid (show o = if q ≠ 0 then q else if (cm : Int) ≠ n then 1 else if (List.range m).any (badR ds Ls hs set) = true then 14 else 0 from by rw [← ho]; unfold rchkE; rw [hq])
 rw [ho]
 obtain ⟨sa, sn, sc⟩ := ss
 obtain ⟨va, vn, vc⟩ := vs
 obtain ⟨B, hBw⟩ : ∃ B, w.heap.size = B := ⟨_, rfl⟩
 simp only [Sl.v]
 clear h hH hd hb hq ho
 by_cases hq0 : q = 0
 ·by_cases hcn : (cm : Int) = n
  ·have hoe := HO.out
   rw [if_neg (by omega), if_neg (by omega)] at hoe
   subst hq0
   obtain ⟨v1, v2, v3, v4⟩ := checkE_ok HQ.out
   obtain ⟨K, rfl⟩ : ∃ K : Nat, set = (K : Int) := ⟨set.toNat, by omega⟩
   subst hcn
   have hKm : K < m := by omega
   have hsm : sn = m := by have := H.out.1.grps.2.1; simp only at this; omega
   subst hsm
   have HOE := Lib.hid hoe
   have HVL := Lib.hid (And.intro v1 v2)
   clear hoe v1 v2 v3 v4 HO
   go_enter Try.func26, Try.ntmps26; go_upto_region 1 with (fail); refine wp_gen (fun W => Ext w W ∧ Blk W B #[.int .i64 (cm : Int), .slice sa sn sc, .slice va vn vc] 25) ⟨(by repeat (first | exact Ext.refl _ | assumption | refine Ext.setCell ?_ (by first | (simp; done) | (simp; omega) | omega) _ | refine Ext.alloc ?_ _ | refine Ext.drew ?_ | refine Ext.trans ?_ (by assumption))), Blk.at _ 25 hBw.symm⟩ ?_; rintro V ⟨E0, B0⟩; have HB := Lib.hid (And.intro E0 B0); have x0 : V.cell? ⟨B, 0, none⟩ = some (.int .i64 (cm : Int)) := B0.cell 0; have x1 : V.cell? ⟨B, 1, none⟩ = some (.slice sa sn sc) := B0.cell 1; have x2 : V.cell? ⟨B, 2, none⟩ = some (.slice va vn vc) := B0.cell 2; clear E0 B0; go_wp2_with fail; refine (rcheck_c (cm : Int) ⟨sa, sn, sc⟩ ⟨va, vn, vc⟩ gs Ls zs _ _ hc _ _ (H.out.1.ext HB.out.1) (Nat.le_trans hm (by omega))).mono ?_; rw [HQ.out]; rintro e w2 ⟨rfl, hx2⟩; have HX := Lib.hid (And.intro (HB.out.1.trans hx2) (HB.out.2.ext hx2)); have y0 : w2.cell? ⟨B, 0, none⟩ = some (.int .i64 (cm : Int)) := hx2.cell x0; have y1 : w2.cell? ⟨B, 1, none⟩ = some (.slice sa sn sc) := hx2.cell x1; clear x0 x1 x2 hx2
   go_wp2_with fail
   clear y0
   go_loopw [10] (fun iv ws => ∃ i : Nat, i ≤ sn ∧ iv = .int .i64 (i : Int) ∧ (∀ q, q < i → badR ds Ls hs (K : Int) q = false) ∧ Ext w2 ws) (fun iv _ => sn - (intOf iv).toNat)
   case atStart => exact ⟨0, by omega, rfl, fun q hq => absurd hq (by omega), Ext.refl _⟩
   case round =>
    rename World => ws
    obtain ⟨i, hi, rfl, hnb, hE⟩ := hrel
    have HN := Lib.hid hnb
    have HE := Lib.hid (HX.out.1.trans hE)
    have z1 : ws.cell? ⟨B, 1, none⟩ = some (.slice sa sn sc) := hE.cell y1
    have HES := Lib.hid hE
    clear hnb
    by_cases hlt : i < sn
    ·obtain ⟨xs, xo, exs, _, hset⟩ := (H.out.1.ext HE.out).grps.at i hlt
     simp only at exs
     subst exs
     have hI := (H.out.1.ext HE.out).grps.2.2.2.2 i hlt
     obtain ⟨⟨ga, gn, gc⟩, hg⟩ : ∃ s, gs.getD i sl0 = s := ⟨_, rfl⟩
     obtain ⟨l, hl⟩ : ∃ l, Ls.getD i [] = l := ⟨_, rfl⟩
     have hgl := H.out.1.len i
     rw [hg] at hset hI
     rw [hl] at hI hgl
     simp only [Sl.v] at hset hI
     have hgn := hI.1
     have hgm := hI.2.1
     have HI := Lib.hid (And.intro hI (And.intro hl (show ∀ x, x ∈ l → 0 ≤ x ∧ x < (cm : Int) from fun x hx => by have := (H.out.1.sheet HVL.out.1).cell i x (by rw [hl]; exact hx); omega)))
     obtain ⟨hbb, hbo, rfl, _, hhc⟩ := (H.out.2.1.ext HE.out).at i hlt
     have HHC := Lib.hid hhc
     have j0 : (0 : Int) ≤ (i : Int) := by omega
     have j1 : (i : Int) < (sn : Int) := by omega
     clear hl hI hg hhc hE
     go_wp2_with fail
     go_loopw [11, 12] (fun sv jv wz => ∃ j : Nat, j ≤ gn ∧ sv = .int .i64 (sumI ds l j) ∧ jv = .int .i64 (j : Int) ∧ Ext ws wz) (fun _ jv _ => gn - (intOf jv).toNat)
     case atStart => exact ⟨0, by omega, rfl, rfl, Ext.refl _⟩
     case round =>
      rename World => wz
      obtain ⟨j, hj, rfl, rfl, hxz⟩ := hrel
      have HJ := Lib.hid hxz
      have z2 := hxz.cell z1
      have hset2 := hxz.cell hset
      have hbd := sumI_bd (l := l) H.out.2.2.2 j
      by_cases hjl : j < gn
      ·obtain ⟨lb, lo, rfl, _, hcell⟩ := (HI.out.1.keep hxz.ik).at j hjl
       obtain ⟨c, hcc, hcm2⟩ : ∃ c : Nat, l.getD j 0 = (c : Int) ∧ c < cm := by
        have := HI.out.2.2 (l.getD j 0) (by rw [getD_get (by omega)]; exact List.getElem_mem _)
        exact ⟨(l.getD j 0).toNat, by omega, by omega⟩
       rw [hcc] at hcell
       obtain ⟨cb, co, rfl, _, hdc⟩ := ((H.out.2.2.1.keep HE.out.ik).keep hxz.ik).at c hcm2
       have hdb := H.out.2.2.2 c
       have HSU := Lib.hid (show sumI ds l (j + 1) = sumI ds l j + ds.getD c 0 from by (show sumI ds l j + ds.getD (l.getD j 0).toNat 0 = _; rw [hcc, Int.toNat_natCast]))
       obtain ⟨S, hS⟩ : ∃ S, sumI ds l j = S := ⟨_, rfl⟩
       obtain ⟨D, hD⟩ : ∃ D, ds.getD c 0 = D := ⟨_, rfl⟩
       rw [hS] at HSU hbd ⊢
       rw [hD] at HSU hdb hdc
       have i0' : (0 : Int) ≤ (j : Int) := by omega
       have i1' : (j : Int) < (gn : Int) := by omega
       have c0' : (0 : Int) ≤ (c : Int) := by omega
       have c1' : (c : Int) < (cm : Int) := by omega
       clear hxz hcc hS hD
       go_wp2_with fail
       go_roundw
       case rel => exact ⟨j + 1, by omega, by rw [HSU.out], by go_num, HJ.out⟩
       case measure => simp [intOf]; omega
      ·obtain rfl : j = gn := by omega
       have hjn : ¬ (j : Int) < (j : Int) := by omega
       have h9 := hxz.cell HHC.out
       have HBAD := Lib.hid (show badR ds Ls hs (K : Int) i = ((!hs.getD i false && !decide (sumI ds l j = 0)) || (decide ((i : Int) = (K : Int)) && (decide (sumI ds l j = 0) || !hs.getD i false))) from by unfold badR; rw [HI.out.2.1, hgn])
       obtain ⟨S, hS⟩ : ∃ S, sumI ds l j = S := ⟨_, rfl⟩
       obtain ⟨y, hy⟩ : ∃ y, hs.getD i false = y := ⟨_, rfl⟩
       rw [hS, hy] at HBAD
       rw [hy] at h9
       rw [hS] at hbd ⊢
       clear hxz hjl hS hy
       by_cases hSz : S = 0
       ·have HSZ := Lib.hid hSz
        subst hSz
        by_cases hiK : i = K
        ·subst hiK
         have HIK := Lib.hid (rfl : (i : Int) = (i : Int))
         cases y <;> (go_wp2_with fail; go_ret; exact ⟨by rw [HOE.out, if_pos (List.any_eq_true.2 ⟨i, List.mem_range.2 hlt, by rw [HBAD.out]; simp [HSZ.out, HIK.out]⟩)]; rfl, HE.out.trans HJ.out⟩)
        ·have HIK := Lib.hid (show ¬ (i : Int) = (K : Int) by omega)
         have hik : ((i : Int) == (K : Int)) = false := by rw [beq_eq_false_iff_ne]; omega
         clear hiK
         cases y <;> (go_wp2_with fail; go_roundw; (case rel => exact ⟨i + 1, by omega, by go_num, fun q hq => lt_succ_of HN.out (by rw [HBAD.out]; simp [HSZ.out, HIK.out]) hq, HES.out.trans HJ.out⟩); (case measure => simp [intOf]; omega))
       ·have HSZ := Lib.hid hSz
        have hsz : (S == 0) = false := by rw [beq_eq_false_iff_ne]; exact hSz
        clear hSz
        by_cases hiK : i = K
        ·subst hiK
         have HIK := Lib.hid (rfl : (i : Int) = (i : Int))
         cases y with
         | true => go_wp2_with fail; go_roundw; (case rel => exact ⟨i + 1, by omega, by go_num, fun q hq => lt_succ_of HN.out (by rw [HBAD.out]; simp [HSZ.out, HIK.out]) hq, HES.out.trans HJ.out⟩); (case measure => simp [intOf]; omega)
         | false => go_wp2_with fail; go_ret; exact ⟨by rw [HOE.out, if_pos (List.any_eq_true.2 ⟨i, List.mem_range.2 hlt, by rw [HBAD.out]; simp [HSZ.out, HIK.out]⟩)]; rfl, HE.out.trans HJ.out⟩
        ·have HIK := Lib.hid (show ¬ (i : Int) = (K : Int) by omega)
         have hik : ((i : Int) == (K : Int)) = false := by rw [beq_eq_false_iff_ne]; omega
         clear hiK
         cases y with
         | true => go_wp2_with fail; go_roundw; (case rel => exact ⟨i + 1, by omega, by go_num, fun q hq => lt_succ_of HN.out (by rw [HBAD.out]; simp [HSZ.out, HIK.out]) hq, HES.out.trans HJ.out⟩); (case measure => simp [intOf]; omega)
         | false => go_wp2_with fail; go_ret; exact ⟨by rw [HOE.out, if_pos (List.any_eq_true.2 ⟨i, List.mem_range.2 hlt, by rw [HBAD.out]; simp [HSZ.out, HIK.out]⟩)]; rfl, HE.out.trans HJ.out⟩
    ·obtain rfl : i = sn := by omega
     have hjn : ¬ (i : Int) < (i : Int) := by omega
     clear hE hlt
     go_wp2_with fail
     go_ret
     refine ⟨?_, HE.out⟩
     rw [HOE.out, if_neg]
     ·rfl
     ·intro h
      obtain ⟨q, hq, hb⟩ := List.any_eq_true.1 h
      rw [HN.out q (List.mem_range.1 hq)] at hb
      cases hb
  ·have hoe := HO.out
   rw [if_neg (by omega), if_pos hcn] at hoe
   have hcn' : ((cm : Int) == n) = false := by rw [beq_eq_false_iff_ne]; exact hcn
   subst hq0
   have HOE := Lib.hid hoe
   clear hoe HO hcn
   go_enter Try.func26, Try.ntmps26; go_upto_region 1 with (fail); refine wp_gen (fun W => Ext w W ∧ Blk W B #[.int .i64 n, .slice sa sn sc, .slice va vn vc] 25) ⟨(by repeat (first | exact Ext.refl _ | assumption | refine Ext.setCell ?_ (by first | (simp; done) | (simp; omega) | omega) _ | refine Ext.alloc ?_ _ | refine Ext.drew ?_ | refine Ext.trans ?_ (by assumption))), Blk.at _ 25 hBw.symm⟩ ?_; rintro V ⟨E0, B0⟩; have HB := Lib.hid (And.intro E0 B0); have x0 : V.cell? ⟨B, 0, none⟩ = some (.int .i64 n) := B0.cell 0; have x1 : V.cell? ⟨B, 1, none⟩ = some (.slice sa sn sc) := B0.cell 1; have x2 : V.cell? ⟨B, 2, none⟩ = some (.slice va vn vc) := B0.cell 2; clear E0 B0; go_wp2_with fail; refine (rcheck_c n ⟨sa, sn, sc⟩ ⟨va, vn, vc⟩ gs Ls zs _ _ hc _ _ (H.out.1.ext HB.out.1) (Nat.le_trans hm (by omega))).mono ?_; rw [HQ.out]; rintro e w2 ⟨rfl, hx2⟩; have HX := Lib.hid (And.intro (HB.out.1.trans hx2) (HB.out.2.ext hx2)); have y0 : w2.cell? ⟨B, 0, none⟩ = some (.int .i64 n) := hx2.cell x0; have y1 : w2.cell? ⟨B, 1, none⟩ = some (.slice sa sn sc) := hx2.cell x1; clear x0 x1 x2 hx2
   go_wp2_with fail
   go_ret
   exact ⟨by rw [HOE.out]; rfl, HX.out.1⟩
 ·have hoe := HO.out
  rw [if_pos hq0] at hoe
  have hq1 : (q == 0) = false := by rw [beq_eq_false_iff_ne]; exact hq0
  have HOE := Lib.hid hoe
  clear hoe HO hq0
  go_enter Try.func26, Try.ntmps26; go_upto_region 1 with (fail); refine wp_gen (fun W => Ext w W ∧ Blk W B #[.int .i64 n, .slice sa sn sc, .slice va vn vc] 25) ⟨(by repeat (first | exact Ext.refl _ | assumption | refine Ext.setCell ?_ (by first | (simp; done) | (simp; omega) | omega) _ | refine Ext.alloc ?_ _ | refine Ext.drew ?_ | refine Ext.trans ?_ (by assumption))), Blk.at _ 25 hBw.symm⟩ ?_; rintro V ⟨E0, B0⟩; have HB := Lib.hid (And.intro E0 B0); have x0 : V.cell? ⟨B, 0, none⟩ = some (.int .i64 n) := B0.cell 0; have x1 : V.cell? ⟨B, 1, none⟩ = some (.slice sa sn sc) := B0.cell 1; have x2 : V.cell? ⟨B, 2, none⟩ = some (.slice va vn vc) := B0.cell 2; clear E0 B0; go_wp2_with fail; refine (rcheck_c n ⟨sa, sn, sc⟩ ⟨va, vn, vc⟩ gs Ls zs _ _ hc _ _ (H.out.1.ext HB.out.1) (Nat.le_trans hm (by omega))).mono ?_; rw [HQ.out]; rintro e w2 ⟨rfl, hx2⟩; have HX := Lib.hid (And.intro (HB.out.1.trans hx2) (HB.out.2.ext hx2)); have y0 : w2.cell? ⟨B, 0, none⟩ = some (.int .i64 n) := hx2.cell x0; have y1 : w2.cell? ⟨B, 1, none⟩ = some (.slice sa sn sc) := hx2.cell x1; clear x0 x1 x2 hx2
  go_wp2_with fail
  go_ret
  exact ⟨by rw [HOE.out]; rfl, HX.out.1⟩
end Go.Proofs.Ytkoidookanmknaa
