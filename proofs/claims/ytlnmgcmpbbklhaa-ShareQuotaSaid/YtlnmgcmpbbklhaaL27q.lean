/- meresmanlaw27: ShareQuota: the walk. -/
import Derived.Test.YtlnmgcmpbbklhaaS22
import Derived.Test.YtlnmgcmpbbklhaaS17
import Derived.Test.YtlnmgcmpbbklhaaFCmp
namespace Go.Proofs.Ytlnmgcmpbbklhaa
set_option linter.unusedSimpArgs false
set_option linter.unusedVariables false
open Go.RowKit

theorem At.mk4 {w : World} {b : Nat} {f : FV} (h : w.cell? ⟨b, 0, none⟩ = some (.bool f.n.neg) ∧ w.cell? ⟨b, 1, none⟩ = some (.slice f.n.a f.n.n f.n.c) ∧ w.cell? ⟨b, 2, none⟩ = some (.bool f.d.neg) ∧ w.cell? ⟨b, 3, none⟩ = some (.slice f.d.a f.d.n f.d.c)) :
    At w b #[.bool f.n.neg, .slice f.n.a f.n.n f.n.c, .bool f.d.neg, .slice f.d.a f.d.n f.d.c] := fun o ho => by
  match o, ho with
  | 0, _ => exact h.1
  | 1, _ => exact h.2.1
  | 2, _ => exact h.2.2.1
  | 3, _ => exact h.2.2.2
  | o + 4, ho => simp at ho; omega
theorem fSub1_c (a b : FV) (p r s : Int) (w : World) (ha : IsF w a p 1) (hb : IsF w b r s) (hs : s.natAbs < B32) (h1 : Big (p * s)) (h2 : Big (-r * 1)) (h3 : Big (p * s + -r * 1)) :
    Calls Try.prog 31 #[a.v, b.v] w (RetQ ((p * s + -r * 1) / gcdI (p * s + -r * 1) s) (s / gcdI (p * s + -r * 1) s) w) := by
  have h := fSub_c a b p 1 r s w ha hb hs
  have e : gcdI 1 s = 1 := gcdI_one_left hb.pos
  rw [e] at h
  simp only [Int.ediv_one, Int.one_mul] at h
  exact h h1 h2 h3 hs
theorem units_small (n : Int) (k : Nat) (hk : k < 2) : 0 ≤ (unitsF n).getD k 0 ∧ (unitsF n).getD k 0 ≤ 1099511627776 := by
  have h1 := aroundF_bd n 60 (by omega)
  have h2 := aroundF_bd n 1099511627777 (by omega)
  match k, hk with
  | 0, _ => simp [unitsF]; omega
  | 1, _ => simp [unitsF]; omega
/-- The facts on weights and their sum. -/
structure QF (W : List Int) (T : Nat) (S : Int) : Prop where
  len : W.length = T
  lo : 1 ≤ T
  hi : T ≤ 10
  good : ∀ x, x ∈ W → 0 ≤ x ∧ x ≤ 1048576
  sum : sumI W = S
  s1 : 1 ≤ S
  s2 : S ≤ 10485760
  ok : ∀ n, 0 ≤ n → n ≤ 1099511627776 → errF n W 1 = 0
theorem QF.mk' {P : List Int} (hp : ∀ x, x ∈ P → 0 ≤ x ∧ x ≤ 1048576) (hl : P.length ≤ 9) : QF (P ++ [1]) (P.length + 1) (sumI (P ++ [1])) := by
  have hg : ∀ x, x ∈ P ++ [1] → 0 ≤ x ∧ x ≤ 1048576 := fun x hx => by
    rcases List.mem_append.1 hx with h | h
    · exact hp x h
    · have : x = 1 := by simpa using h
      omega
  have h1 := sum_bd P hp
  have h2 : sumI (P ++ [1]) = sumI P + 1 := by rw [sumI_append]; simp [sumI]
  refine ⟨by simp, by omega, by omega, hg, rfl, by omega, by omega, fun n h3 h4 => ?_⟩
  have hb : (P ++ [1]).any badF = false := List.any_eq_false.2 fun x hx => by
    have := hg x hx
    simp [badF]; omega
  unfold errF
  rw [if_neg (by simp; omega), if_neg (by rw [hb]; simp; omega), if_neg (by omega)]
set_option maxRecDepth 100000 in
set_option maxHeartbeats 8000000 in
theorem walkQuota (a0 : Option Addr) (n c : Nat) (zs : List Int) (a1 : Int) (w : World) (h0 : Ints w a0 n zs) (h1 : Int64 a1) :
    Calls Try.prog 9 #[.slice a0 n c, .int .i64 a1] w fun e w' => e = .returned (.bool true) ∧ Ext w w' := by
  obtain ⟨i0, hi0, hz0, hz1, hz2⟩ := info_parts intInfo
  have H0 := Lib.hid h0; have H1 := Lib.hid h1; clear h0 h1
  go_enter Try.func9, Try.ntmps9
  go_wp2_with fail
  refine (weights_c a0 n c zs 9 _ H0.out (by omega)).mono ?_
  rintro e w1 ⟨v, rfl, hV, hE⟩
  have hwl := weightsF_length zs 9
  have hbd := weightsF_bd zs 9
  have hqf := QF.mk' hbd (by omega)
  obtain ⟨tl, htl⟩ : ∃ tl, (weightsF zs 9).length = tl := ⟨_, rfl⟩
  rw [htl] at hwl hqf
  have htl2 : tl ≤ 9 := by omega
  have how : w1.ownsRow w.heap.size 3 1 v tl (ivals (weightsF zs 9)) := by have h9 := hV; unfold VRow at h9; rw [htl] at h9; exact h9
  obtain ⟨S, hS⟩ : ∃ S, sumI (weightsF zs 9 ++ [1]) = S := ⟨_, rfl⟩
  rw [hS] at hqf
  generalize weightsF zs 9 = P at *
  have HE := Lib.hid hE; have HQF := Lib.hid hqf; have HTL := Lib.hid htl; have HV := Lib.hid hV
  have hsz := hE.size
  have HOW := Lib.hid (owns_ext ((Ext.refl w1).alloc (.cells #[.int .i64 1] 3)) how)
  have HNW := Lib.hid (ints_news (ints_one w1 1 ⟨by omega, by omega⟩) (by omega))
  clear hV hE hbd hwl hqf htl how hS
  go_wp2_with (at_builtin; refine wpList_append_lies _ rfl _ _ _ rfl w.heap.size 3 i0 _ 1 8 Try.underlying22 hi0 hz0 hz1 hz2 rfl (by omega) _ tl _ rfl HOW.out ⟨w1.heap.size, 0, none⟩ 1 1 (ivals [1]) rfl rfl HNW.out (ivals_one _) (by omega) (by rw [maxLen]; omega) (by omega) (by simp; omega) _ rfl ?_)
  intro g2 cap w2 hown hgrow hat hlt1
  rw [← HTL.out] at hown
  have hV2 : VRow w2 w.heap.size (.slice (some ⟨g2, 0, none⟩) (tl + 1) cap) (P ++ [1]) := by
    have h9 := VRow.app rfl hown
    rw [HTL.out] at h9
    exact h9
  have hE2 : Ext w w2 := ext_grown (HE.out.alloc _) hgrow (fun g hg => (owns_lt HV.out hg).1)
  obtain ⟨T, hT⟩ : ∃ T, tl + 1 = T := ⟨_, rfl⟩
  rw [hT] at hV2 HQF
  generalize P ++ [1] = W at *
  have hin : Ints w2 (some ⟨g2, 0, none⟩) T W := by
    obtain ⟨a9, c9, he, h9⟩ := hV2.ints (by rw [HQF.out.len]; have := HQF.out.hi; omega) (fun j hj => by have := HQF.out.good _ (getD_mem hj); exact ⟨by omega, by omega⟩)
    rw [HQF.out.len] at h9 he
    injection he with he1 he2 he3
    rw [he1]; exact h9
  have HIN := Lib.hid (And.intro hin hE2)
  clear hown hgrow hat hV2 hE2 hin HOW HNW HV HTL
  rw [hT]
  clear hT
  go_wp2_with fail
  refine (rsum_c _ T cap W _ HIN.out.1 (parts_bd HQF.out.good (by rw [HQF.out.len]; have := HQF.out.hi; omega))).mono ?_
  rw [HQF.out.sum]
  rintro e w3 ⟨rfl, hx3⟩
  have HX3 := Lib.hid (HIN.out.2.trans hx3); have HI3 := Lib.hid (HIN.out.1.keep hx3.ik)
  clear hx3 HIN
  go_wp2_with fail
  refine (units_c a1 _ H1.out).mono ?_
  rintro e w4 ⟨ub, rfl, hub, hur, hx⟩
  have HST := Lib.hid (And.intro (HX3.out.trans hx) (And.intro hur (HI3.out.keep hx.ik)))
  have hus := units_small a1
  have HUS := Lib.hid hus
  have hul : (unitsF a1).length = 5 := rfl
  have HUL := Lib.hid hul
  clear hx hur hus hul HX3 HI3 hub
  generalize unitsF a1 = U at *
  have hT1 := HQF.out.lo
  have hT2 := HQF.out.hi
  go_upto_region 5 with (fail)
  go_loopw [8] (fun v ws => ∃ k : Nat, k ≤ 2 ∧ v = .int .i64 (k : Int) ∧ Ext w4 ws) (fun v _ => 2 - (intOf v).toNat)
  case atStart => exact ⟨0, by omega, rfl, Ext.refl _⟩
  case round =>
    obtain ⟨k, hk, rfl, hE⟩ := hrel
    have HE := Lib.hid hE
    by_cases hlt2 : k < 2
    · have t2 : (k : Int) < 2 := by omega
      have t3 : (0 : Int) ≤ (k : Int) := by omega
      have t6 : (k : Int) < 5 := by omega
      have hcu : ∀ W, Ext w4 W → W.cell? ⟨ub, k, none⟩ = some (.int .i64 (U.getD k 0)) := fun W hW => IRow.cell (HST.out.2.1.ext hW) k (by rw [HUL.out]; omega)
      have HCU := Lib.hid hcu
      have cu := hcu wr hE
      have lu := lt_of_cell cu
      have hnk := HUS.out k hlt2
      obtain ⟨nk, hnkk⟩ : ∃ x, U.getD k 0 = x := ⟨_, rfl⟩
      rw [hnkk] at cu hnk HCU
      have HER := Lib.hid (HQF.out.ok nk hnk.1 hnk.2)
      clear hnkk hcu hE
      go_wp2_with fail
      refine (Largest_c nk _ T cap W _ (HST.out.2.2.keep HE.out.ik) (.inl (by omega)) (by omega)).mono ?_
      rw [HER.out]
      intro e w5 hd
      obtain ⟨hx5, ga, rfl, hga, hra⟩ := hd.ok rfl
      have hs0 : 0 < sumI W := by rw [HQF.out.sum]; have := HQF.out.s1; omega
      have hAl : (largestF nk W).length = T := by rw [largestF_length, HQF.out.len]
      have hnear := fun i (hi : i < T) => part_near (n := nk) (w := W) (fun x hx => (HQF.out.good x hx).1) hs0 i (by rw [HQF.out.len]; exact hi)
      simp only [HQF.out.sum] at hnear
      have heq := fun i j (hij : i < j) (hj : j < T) he => largestF_equal (n := nk) (w := W) hs0 i j hij (by rw [HQF.out.len]; exact hj) he
      have hab := lgF_bd HER.out
      have hchk := largest_check HER.out hs0
      generalize largestF nk W = A at *
      have hia : Ints w5 (some ⟨ga, 0, none⟩) T A := hra.ints hAl (by omega) (fun i _ => by have := hab i; exact ⟨by omega, by omega⟩)
      have cu5 := hx5.cell cu
      have HIA := Lib.hid hia; have HX5 := Lib.hid hx5; have HNEAR := Lib.hid hnear; have HEQ := Lib.hid heq; have HAB := Lib.hid hab; have HCHK := Lib.hid hchk
      clear hd hia hra hx5 hnear heq hab hchk hs0 cu hga hAl
      go_wp2_with fail
      refine (Check_c nk _ T cap W _ T T A _ (HST.out.2.2.keep (HE.out.trans HX5.out).ik) HIA.out (by omega)).mono ?_
      rw [HCHK.out]
      rintro e w6 ⟨rfl, hx6⟩
      have HX6 := Lib.hid (And.intro (HE.out.trans (HX5.out.trans hx6)) (HIA.out.keep hx6.ik))
      clear hx6 cu5 HX5 HIA HCHK
      obtain ⟨wk, rfl⟩ : ∃ W, W = wr := ⟨_, rfl⟩
      go_upto_region 11 with (fail)
      go_loopw [11] (fun v ws => ∃ i : Nat, i ≤ T ∧ v = .int .i64 (i : Int) ∧ Ext w6 ws) (fun v _ => T - (intOf v).toNat)
      case atStart => exact ⟨0, by omega, rfl, Ext.refl _⟩
      case round =>
        obtain ⟨i, hi, rfl, hE6⟩ := hrel
        have HE6 := Lib.hid hE6
        by_cases hlt : i < T
        · have t4 : (i : Int) < (T : Int) := by omega
          have t5 : (0 : Int) ≤ (i : Int) := by omega
          have hEr := HX6.out.1.trans hE6
          obtain ⟨b, off, he, hb, cw⟩ := (HST.out.2.2.keep hEr.ik).at i hlt
          injection he with he; injection he with e1 e2
          subst e1; subst e2
          obtain ⟨b, off, he, hb2, ca⟩ := (HX6.out.2.keep hE6.ik).at i hlt
          injection he with he; injection he with e1 e2
          subst e1; subst e2
          rw [Nat.zero_add] at cw ca
          have cu := HCU.out wr hEr
          have hnear := HNEAR.out i hlt
          have hxg := HQF.out.good _ (getD_mem (l := W) (i := i) (by rw [HQF.out.len]; exact hlt))
          have hpb := HAB.out i
          obtain ⟨x, hx⟩ : ∃ z, W.getD i 0 = z := ⟨_, rfl⟩
          obtain ⟨p, hp⟩ : ∃ z, A.getD i 0 = z := ⟨_, rfl⟩
          rw [hx] at cw hnear hxg
          rw [hp] at ca hnear hpb
          have hy1 : 0 ≤ nk * x := Int.mul_nonneg hnk.1 hxg.1
          have hy2 : nk * x ≤ 1152921504606846976 := by
            have := Int.mul_le_mul hnk.2 hxg.2 hxg.1 (by omega)
            omega
          obtain ⟨Y, hY⟩ : ∃ z, nk * x = z := ⟨_, rfl⟩
          rw [hY] at hnear hy1 hy2
          have LY := Lib.hid (show lim (nk * x) = (Y, 0) by rw [hY]; exact lim_big (big_of (by omega) (by omega)))
          have HXI := Lib.hid hx; have HPI := Lib.hid hp; have CA := Lib.hid ca
          clear hx hp hY hE6 hEr ca
          have lu2 := lt_of_cell cu
          have lg2 := lt_of_cell cw
          obtain ⟨wd, rfl⟩ : ∃ W, W = wr := ⟨_, rfl⟩
          go_upto_region 13 with (fail)
          go_cut [12, 13] (fun s12 s13 wx => ∃ (H : Nat) (y : IV), s12 = .pointer (some ⟨H, 0, none⟩) ∧ s13 = .int .i64 0 ∧ Ext wd wx ∧ At wx H #[.bool y.neg, .slice y.a y.n y.c] ∧ IsI wx y Y)
          case first =>
            refine wp_region_held_drew (S := fun w' => Ext wd w' ∧ w'.cell? ⟨ub, k, none⟩ = some (.int .i64 nk) ∧ w'.cell? ⟨g2, i, none⟩ = some (.int .i64 x)) (by kernel_rfl) ?_ (fun hHeld => ?_)
            · exact ⟨(Ext.refl wd).drew, cu, cw⟩
            refine takeL (i := 0) (v := ?_) rfl (by kernel_rfl) (by kernel_rfl) (by kernel_rfl) (fun _ _ _ h => h) (Or.inl ⟨by rfl, ?_⟩) (by assumption) ?_; rotate_left; (focus (intro wq hSw; (try dsimp only at hSw); go_simp; try with_reducible rfl)); (try simp only [Act.put, List.setIfInBounds_toArray, List.set_cons_zero, List.set_cons_succ])
            refine takeL (i := 1) (v := ?_) rfl (by kernel_rfl) (by kernel_rfl) (by kernel_rfl) (fun _ _ _ h => h) (Or.inl ⟨by rfl, ?_⟩) (by assumption) ?_; rotate_left; (focus (intro wq hSw; (try dsimp only at hSw); go_simp; try with_reducible rfl)); (try simp only [Act.put, List.setIfInBounds_toArray, List.set_cons_zero, List.set_cons_succ])
            refine takeL (i := 2) (v := ?_) rfl (by kernel_rfl) (by kernel_rfl) (by kernel_rfl) (fun _ _ _ h => h) (Or.inl ⟨by rfl, ?_⟩) (by assumption) ?_; rotate_left; (focus (intro wq hSw; (try dsimp only at hSw); go_simp; try with_reducible rfl)); (try simp only [Act.put, List.setIfInBounds_toArray, List.set_cons_zero, List.set_cons_succ])
            refine takeL (i := 3) (v := ?_) rfl (by kernel_rfl) (by kernel_rfl) (by kernel_rfl) (fun _ _ _ h => h) (Or.inl ⟨by rfl, ?_⟩) (by assumption) ?_; rotate_left; (focus (intro wq hSw; (try dsimp only at hSw); go_simp; try with_reducible rfl)); (try simp only [Act.put, List.setIfInBounds_toArray, List.set_cons_zero, List.set_cons_succ])
            refine takeL (i := 5) (v := ?_) rfl (by kernel_rfl) (by kernel_rfl) (by kernel_rfl) (fun _ _ _ h => h) (Or.inl ⟨by rfl, ?_⟩) (by assumption) ?_; rotate_left; (focus (intro wq hSw; (try dsimp only at hSw); go_simp; try with_reducible rfl)); (try simp only [Act.put, List.setIfInBounds_toArray, List.set_cons_zero, List.set_cons_succ])
            refine takeL (i := 6) (v := ?_) rfl (by kernel_rfl) (by kernel_rfl) (by kernel_rfl) (fun _ _ _ h => h) (Or.inl ⟨by rfl, ?_⟩) (by assumption) ?_; rotate_left; (focus (intro wq hSw; (try dsimp only at hSw); go_simp; try with_reducible rfl)); (try simp only [Act.put, List.setIfInBounds_toArray, List.set_cons_zero, List.set_cons_succ])
            refine takeL (i := 7) (v := ?_) rfl (by kernel_rfl) (by kernel_rfl) (by kernel_rfl) (fun _ _ _ h => h) (Or.inl ⟨by rfl, ?_⟩) (by assumption) ?_; rotate_left; (focus (intro wq hSw; (try dsimp only at hSw); go_simp; try with_reducible rfl)); (try simp only [Act.put, List.setIfInBounds_toArray, List.set_cons_zero, List.set_cons_succ])
            refine takeL (i := 8) (v := ?_) rfl (by kernel_rfl) (by kernel_rfl) (by kernel_rfl) (fun _ _ _ h => h) (Or.inl ⟨by rfl, ?_⟩) (by assumption) ?_; rotate_left; (focus (intro wq hSw; (try dsimp only at hSw); go_simp; try with_reducible rfl)); (try simp only [Act.put, List.setIfInBounds_toArray, List.set_cons_zero, List.set_cons_succ])
            refine cons2L (i := 4) (j := 14) (by kernel_rfl) rfl rfl (fun K hK => ?_) (fun K hK => ?_)
            · skip
              go_simp; go_at_call 28; refine (From_c nk _ (by omega) (by omega)).mono ?_; rintro e w7 ⟨t1, rfl, ht1, hx1⟩; have HX1 := Lib.hid hx1; have sz := Ext.size hx1; (try simp only [World.size_alloc, World.size_drew] at sz); (first | (have OG := Own.ext hx1 ((Blk.at #[.bool false, .slice none 0 0] 48 rfl).own 2 (by simp) noIntW) (by omega)) | (have OG := Own.ext hx1 OG (by omega)) | skip); (try simp only [World.size_alloc] at OG); go_wp2_with fail; refine hK.out _ _ ?_ (fun hHeld => ?_); rotate_left; clear hK K; rotate_right; (focus ((try dsimp only); (go_split_ands; repeat' (first | with_reducible assumption | with_reducible apply And.intro | with_reducible exact Ext.refl _ | with_reducible refine Ext.setCell ?_ (by simp; omega) _ | with_reducible refine Ext.setCell ?_ (by simp) _ | with_reducible refine At.set ?_ (by omega) | with_reducible refine own1_set ?_ | with_reducible refine own2_set ?_ | with_reducible refine own3_set ?_ (by simp) | with_reducible refine Ext.drew ?_ | with_reducible refine At.drew ?_ | with_reducible refine own1_drew ?_ | with_reducible refine Ext.alloc ?_ _ | with_reducible refine At.alloc ?_ (by simp) | with_reducible refine own1_alloc ?_ | with_reducible refine cell_alloc ?_ | with_reducible refine cell_drew ?_ | with_reducible refine own2_drew ?_ | with_reducible refine own3_drew ?_ | with_reducible refine own2_alloc (by first | omega | (simp; omega)) ?_ | with_reducible refine own3_alloc (by first | omega | (simp; omega)) ?_ | with_reducible refine cell_set ?_ (by omega) | with_reducible exact Ext.trans' (by assumption) (by assumption) | with_reducible exact At.ext (by assumption) (by assumption) (by simp) | with_reducible exact Ext.cell (by assumption) (by assumption) | exact (Own.ext (by assumption) ⟨by assumption, by assumption, by assumption⟩ (by simp)).1 | exact (Own.ext (by assumption) ⟨by assumption, by assumption, by assumption⟩ (by simp)).2.1 | exact (Own.ext (by assumption) ⟨by assumption, by assumption, by assumption⟩ (by simp)).2.2)))); (try simp only [Act.put, List.setIfInBounds_toArray, List.set_cons_zero, List.set_cons_succ])
              refine cons2L (i := 9) (j := 14) (by kernel_rfl) rfl rfl (fun K hK => ?_) (fun K hK => ?_)
              · skip
                go_simp; go_at_call 28; refine (From_c x _ (by omega) (by omega)).mono ?_; rintro e w8 ⟨t2, rfl, ht2, hx2⟩; have HX2 := Lib.hid hx2; have sz := Ext.size hx2; (try simp only [World.size_alloc, World.size_drew] at sz); (first | (have OG := Own.ext hx2 ((Blk.at #[.bool false, .slice none 0 0] 48 rfl).own 2 (by simp) noIntW) (by omega)) | (have OG := Own.ext hx2 OG (by omega)) | skip); (try simp only [World.size_alloc] at OG); go_wp2_with fail; refine hK.out _ _ ?_ (fun hHeld => ?_); rotate_left; clear hK K; rotate_right; (focus ((try dsimp only); (go_split_ands; repeat' (first | with_reducible assumption | with_reducible apply And.intro | with_reducible exact Ext.refl _ | with_reducible refine Ext.setCell ?_ (by simp; omega) _ | with_reducible refine Ext.setCell ?_ (by simp) _ | with_reducible refine At.set ?_ (by omega) | with_reducible refine own1_set ?_ | with_reducible refine own2_set ?_ | with_reducible refine own3_set ?_ (by simp) | with_reducible refine Ext.drew ?_ | with_reducible refine At.drew ?_ | with_reducible refine own1_drew ?_ | with_reducible refine Ext.alloc ?_ _ | with_reducible refine At.alloc ?_ (by simp) | with_reducible refine own1_alloc ?_ | with_reducible refine cell_alloc ?_ | with_reducible refine cell_drew ?_ | with_reducible refine own2_drew ?_ | with_reducible refine own3_drew ?_ | with_reducible refine own2_alloc (by first | omega | (simp; omega)) ?_ | with_reducible refine own3_alloc (by first | omega | (simp; omega)) ?_ | with_reducible refine cell_set ?_ (by omega) | with_reducible exact Ext.trans' (by assumption) (by assumption) | with_reducible exact At.ext (by assumption) (by assumption) (by simp) | with_reducible exact Ext.cell (by assumption) (by assumption) | exact (Own.ext (by assumption) ⟨by assumption, by assumption, by assumption⟩ (by simp)).1 | exact (Own.ext (by assumption) ⟨by assumption, by assumption, by assumption⟩ (by simp)).2.1 | exact (Own.ext (by assumption) ⟨by assumption, by assumption, by assumption⟩ (by simp)).2.2)))); (try simp only [Act.put, List.setIfInBounds_toArray, List.set_cons_zero, List.set_cons_succ])
                refine cons2L (i := 10) (j := 14) (by kernel_rfl) rfl rfl (fun K hK => ?_) (fun K hK => ?_)
                · skip
                  go_simp; go_at_call 27; refine (Mul_c t1 t2 nk x _ (by first | exact ht1.keep (Ext.ik HX2.out) | exact ht1.keep (Ext.ik (Ext.trans HX2.out ((Ext.refl _).alloc _))) | exact ht1.keep (Ext.ik (Ext.trans ((Ext.refl _).alloc _) HX2.out))) (by first | exact ht2 | exact ht2.keep ((Ext.refl _).alloc _).ik)).mono ?_; rw [LY.out]; rintro e w9 ⟨t7, rfl, ht7, hx7⟩; have HX7 := Lib.hid hx7; have sz := Ext.size hx7; (try simp only [World.size_alloc, World.size_drew] at sz); (first | (have OG := Own.ext hx7 ((Blk.at #[.bool false, .slice none 0 0] 48 rfl).own 2 (by simp) noIntW) (by omega)) | (have OG := Own.ext hx7 OG (by omega)) | skip); (try simp only [World.size_alloc] at OG); go_wp2_with fail; refine hK.out _ _ ?_ (fun hHeld => ?_); rotate_left; clear hK K; rotate_right; (focus ((try dsimp only); (go_split_ands; repeat' (first | with_reducible assumption | with_reducible apply And.intro | with_reducible exact Ext.refl _ | with_reducible refine Ext.setCell ?_ (by simp; omega) _ | with_reducible refine Ext.setCell ?_ (by simp) _ | with_reducible refine At.set ?_ (by omega) | with_reducible refine own1_set ?_ | with_reducible refine own2_set ?_ | with_reducible refine own3_set ?_ (by simp) | with_reducible refine Ext.drew ?_ | with_reducible refine At.drew ?_ | with_reducible refine own1_drew ?_ | with_reducible refine Ext.alloc ?_ _ | with_reducible refine At.alloc ?_ (by simp) | with_reducible refine own1_alloc ?_ | with_reducible refine cell_alloc ?_ | with_reducible refine cell_drew ?_ | with_reducible refine own2_drew ?_ | with_reducible refine own3_drew ?_ | with_reducible refine own2_alloc (by first | omega | (simp; omega)) ?_ | with_reducible refine own3_alloc (by first | omega | (simp; omega)) ?_ | with_reducible refine cell_set ?_ (by omega) | with_reducible exact Ext.trans' (by assumption) (by assumption) | with_reducible exact At.ext (by assumption) (by assumption) (by simp) | with_reducible exact Ext.cell (by assumption) (by assumption) | exact (Own.ext (by assumption) ⟨by assumption, by assumption, by assumption⟩ (by simp)).1 | exact (Own.ext (by assumption) ⟨by assumption, by assumption, by assumption⟩ (by simp)).2.1 | exact (Own.ext (by assumption) ⟨by assumption, by assumption, by assumption⟩ (by simp)).2.2)))); (try simp only [Act.put, List.setIfInBounds_toArray, List.set_cons_zero, List.set_cons_succ])
                  refine takeL (i := 11) (v := ?_) rfl (by kernel_rfl) (by kernel_rfl) (by kernel_rfl) (fun _ _ _ h => h) (Or.inl ⟨by rfl, ?_⟩) (by assumption) ?_; rotate_left; (focus (intro wq hSw; (try dsimp only at hSw); go_simp; try with_reducible rfl)); (try simp only [Act.put, List.setIfInBounds_toArray, List.set_cons_zero, List.set_cons_succ])
                  refine takeL (i := 12) (v := ?_) rfl (by kernel_rfl) (by kernel_rfl) (by kernel_rfl) (fun _ _ _ h => h) (Or.inl ⟨by rfl, ?_⟩) (by assumption) ?_; rotate_left; (focus (intro wq hSw; (try dsimp only at hSw); go_simp; try with_reducible rfl)); (try simp only [Act.put, List.setIfInBounds_toArray, List.set_cons_zero, List.set_cons_succ])
                  refine takeL (i := 13) (v := ?_) rfl (by kernel_rfl) (by kernel_rfl) (by kernel_rfl) (fun _ _ _ h => h) (Or.inl ⟨by rfl, ?_⟩) (by assumption) ?_; rotate_left; (focus (intro wq hSw; (try dsimp only at hSw); go_simp; try with_reducible rfl)); (try simp only [Act.put, List.setIfInBounds_toArray, List.set_cons_zero, List.set_cons_succ])
                  refine consL (i := 14) (by kernel_rfl) rfl (fun K hK => ?_); go_simp; refine hK.out _ _ ?_ (fun hHeld => ?_); rotate_left; clear hK K; rotate_right; (focus ((try dsimp only); (go_split_ands; repeat' (first | with_reducible assumption | with_reducible apply And.intro | with_reducible exact Ext.refl _ | with_reducible refine Ext.setCell ?_ (by simp; omega) _ | with_reducible refine Ext.setCell ?_ (by simp) _ | with_reducible refine At.set ?_ (by omega) | with_reducible refine own1_set ?_ | with_reducible refine own2_set ?_ | with_reducible refine own3_set ?_ (by simp) | with_reducible refine Ext.drew ?_ | with_reducible refine At.drew ?_ | with_reducible refine own1_drew ?_ | with_reducible refine Ext.alloc ?_ _ | with_reducible refine At.alloc ?_ (by simp) | with_reducible refine own1_alloc ?_ | with_reducible refine cell_alloc ?_ | with_reducible refine cell_drew ?_ | with_reducible refine own2_drew ?_ | with_reducible refine own3_drew ?_ | with_reducible refine own2_alloc (by first | omega | (simp; omega)) ?_ | with_reducible refine own3_alloc (by first | omega | (simp; omega)) ?_ | with_reducible refine cell_set ?_ (by omega) | with_reducible exact Ext.trans' (by assumption) (by assumption) | with_reducible exact At.ext (by assumption) (by assumption) (by simp) | with_reducible exact Ext.cell (by assumption) (by assumption) | exact (Own.ext (by assumption) ⟨by assumption, by assumption, by assumption⟩ (by simp)).1 | exact (Own.ext (by assumption) ⟨by assumption, by assumption, by assumption⟩ (by simp)).2.1 | exact (Own.ext (by assumption) ⟨by assumption, by assumption, by assumption⟩ (by simp)).2.2)))); (try simp only [Act.put, List.setIfInBounds_toArray, List.set_cons_zero, List.set_cons_succ])
                  refine consL (i := 15) (by kernel_rfl) rfl (fun K hK => ?_); go_simp; refine hK.out _ _ ?_ (fun hHeld => ?_); rotate_left; clear hK K; rotate_right; (focus ((try dsimp only); (go_split_ands; repeat' (first | with_reducible assumption | with_reducible apply And.intro | with_reducible exact Ext.refl _ | with_reducible refine Ext.setCell ?_ (by simp; omega) _ | with_reducible refine Ext.setCell ?_ (by simp) _ | with_reducible refine At.set ?_ (by omega) | with_reducible refine own1_set ?_ | with_reducible refine own2_set ?_ | with_reducible refine own3_set ?_ (by simp) | with_reducible refine Ext.drew ?_ | with_reducible refine At.drew ?_ | with_reducible refine own1_drew ?_ | with_reducible refine Ext.alloc ?_ _ | with_reducible refine At.alloc ?_ (by simp) | with_reducible refine own1_alloc ?_ | with_reducible refine cell_alloc ?_ | with_reducible refine cell_drew ?_ | with_reducible refine own2_drew ?_ | with_reducible refine own3_drew ?_ | with_reducible refine own2_alloc (by first | omega | (simp; omega)) ?_ | with_reducible refine own3_alloc (by first | omega | (simp; omega)) ?_ | with_reducible refine cell_set ?_ (by omega) | with_reducible exact Ext.trans' (by assumption) (by assumption) | with_reducible exact At.ext (by assumption) (by assumption) (by simp) | with_reducible exact Ext.cell (by assumption) (by assumption) | exact (Own.ext (by assumption) ⟨by assumption, by assumption, by assumption⟩ (by simp)).1 | exact (Own.ext (by assumption) ⟨by assumption, by assumption, by assumption⟩ (by simp)).2.1 | exact (Own.ext (by assumption) ⟨by assumption, by assumption, by assumption⟩ (by simp)).2.2)))); (try simp only [Act.put, List.setIfInBounds_toArray, List.set_cons_zero, List.set_cons_succ])
                  refine consL (i := 16) (by kernel_rfl) rfl (fun K hK => ?_); go_simp; refine hK.out _ _ ?_ (fun hHeld => ?_); rotate_left; clear hK K; rotate_right; (focus ((try dsimp only); (go_split_ands; repeat' (first | with_reducible assumption | with_reducible apply And.intro | with_reducible exact Ext.refl _ | with_reducible refine Ext.setCell ?_ (by simp; omega) _ | with_reducible refine Ext.setCell ?_ (by simp) _ | with_reducible refine At.set ?_ (by omega) | with_reducible refine own1_set ?_ | with_reducible refine own2_set ?_ | with_reducible refine own3_set ?_ (by simp) | with_reducible refine Ext.drew ?_ | with_reducible refine At.drew ?_ | with_reducible refine own1_drew ?_ | with_reducible refine Ext.alloc ?_ _ | with_reducible refine At.alloc ?_ (by simp) | with_reducible refine own1_alloc ?_ | with_reducible refine cell_alloc ?_ | with_reducible refine cell_drew ?_ | with_reducible refine own2_drew ?_ | with_reducible refine own3_drew ?_ | with_reducible refine own2_alloc (by first | omega | (simp; omega)) ?_ | with_reducible refine own3_alloc (by first | omega | (simp; omega)) ?_ | with_reducible refine cell_set ?_ (by omega) | with_reducible exact Ext.trans' (by assumption) (by assumption) | with_reducible exact At.ext (by assumption) (by assumption) (by simp) | with_reducible exact Ext.cell (by assumption) (by assumption) | exact (Own.ext (by assumption) ⟨by assumption, by assumption, by assumption⟩ (by simp)).1 | exact (Own.ext (by assumption) ⟨by assumption, by assumption, by assumption⟩ (by simp)).2.1 | exact (Own.ext (by assumption) ⟨by assumption, by assumption, by assumption⟩ (by simp)).2.2)))); (try simp only [Act.put, List.setIfInBounds_toArray, List.set_cons_zero, List.set_cons_succ])
                  refine doneL (by kernel_rfl) ?_
                  go_wp2_with fail
                  go_meet
                  exact ⟨_, t7, rfl, rfl, And.left hHeld, by first | exact (Blk.at _ 48 rfl).at' | exact At.mk2 (put2_cells OG _ _).1 (put2_cells OG _ _).2, by first | exact ht7.keep ((Ext.refl _).alloc _).ik | exact ht7.keep (IK.put2 OG _ _ _ _)⟩
                · skip
                  go_simp; refine hK.out _ _ ?_ (fun hHeld => ?_); rotate_left; clear hK K; rotate_right; (focus ((try dsimp only); (go_split_ands; repeat' (first | with_reducible assumption | with_reducible apply And.intro | with_reducible exact Ext.refl _ | with_reducible refine Ext.setCell ?_ (by simp; omega) _ | with_reducible refine Ext.setCell ?_ (by simp) _ | with_reducible refine At.set ?_ (by omega) | with_reducible refine own1_set ?_ | with_reducible refine own2_set ?_ | with_reducible refine own3_set ?_ (by simp) | with_reducible refine Ext.drew ?_ | with_reducible refine At.drew ?_ | with_reducible refine own1_drew ?_ | with_reducible refine Ext.alloc ?_ _ | with_reducible refine At.alloc ?_ (by simp) | with_reducible refine own1_alloc ?_ | with_reducible refine cell_alloc ?_ | with_reducible refine cell_drew ?_ | with_reducible refine own2_drew ?_ | with_reducible refine own3_drew ?_ | with_reducible refine own2_alloc (by first | omega | (simp; omega)) ?_ | with_reducible refine own3_alloc (by first | omega | (simp; omega)) ?_ | with_reducible refine cell_set ?_ (by omega) | with_reducible exact Ext.trans' (by assumption) (by assumption) | with_reducible exact At.ext (by assumption) (by assumption) (by simp) | with_reducible exact Ext.cell (by assumption) (by assumption) | exact (Own.ext (by assumption) ⟨by assumption, by assumption, by assumption⟩ (by simp)).1 | exact (Own.ext (by assumption) ⟨by assumption, by assumption, by assumption⟩ (by simp)).2.1 | exact (Own.ext (by assumption) ⟨by assumption, by assumption, by assumption⟩ (by simp)).2.2)))); (try simp only [Act.put, List.setIfInBounds_toArray, List.set_cons_zero, List.set_cons_succ])
                  refine consL (i := 10) (by kernel_rfl) rfl (fun K hK => ?_)
                  go_simp; go_at_call 27; refine (Mul_c t1 t2 nk x _ (by first | exact ht1.keep (Ext.ik HX2.out) | exact ht1.keep (Ext.ik (Ext.trans HX2.out ((Ext.refl _).alloc _))) | exact ht1.keep (Ext.ik (Ext.trans ((Ext.refl _).alloc _) HX2.out))) (by first | exact ht2 | exact ht2.keep ((Ext.refl _).alloc _).ik)).mono ?_; rw [LY.out]; rintro e w9 ⟨t7, rfl, ht7, hx7⟩; have HX7 := Lib.hid hx7; have sz := Ext.size hx7; (try simp only [World.size_alloc, World.size_drew] at sz); (first | (have OG := Own.ext hx7 ((Blk.at #[.bool false, .slice none 0 0] 48 rfl).own 2 (by simp) noIntW) (by omega)) | (have OG := Own.ext hx7 OG (by omega)) | skip); (try simp only [World.size_alloc] at OG); go_wp2_with fail; refine hK.out _ _ ?_ (fun hHeld => ?_); rotate_left; clear hK K; rotate_right; (focus ((try dsimp only); (go_split_ands; repeat' (first | with_reducible assumption | with_reducible apply And.intro | with_reducible exact Ext.refl _ | with_reducible refine Ext.setCell ?_ (by simp; omega) _ | with_reducible refine Ext.setCell ?_ (by simp) _ | with_reducible refine At.set ?_ (by omega) | with_reducible refine own1_set ?_ | with_reducible refine own2_set ?_ | with_reducible refine own3_set ?_ (by simp) | with_reducible refine Ext.drew ?_ | with_reducible refine At.drew ?_ | with_reducible refine own1_drew ?_ | with_reducible refine Ext.alloc ?_ _ | with_reducible refine At.alloc ?_ (by simp) | with_reducible refine own1_alloc ?_ | with_reducible refine cell_alloc ?_ | with_reducible refine cell_drew ?_ | with_reducible refine own2_drew ?_ | with_reducible refine own3_drew ?_ | with_reducible refine own2_alloc (by first | omega | (simp; omega)) ?_ | with_reducible refine own3_alloc (by first | omega | (simp; omega)) ?_ | with_reducible refine cell_set ?_ (by omega) | with_reducible exact Ext.trans' (by assumption) (by assumption) | with_reducible exact At.ext (by assumption) (by assumption) (by simp) | with_reducible exact Ext.cell (by assumption) (by assumption) | exact (Own.ext (by assumption) ⟨by assumption, by assumption, by assumption⟩ (by simp)).1 | exact (Own.ext (by assumption) ⟨by assumption, by assumption, by assumption⟩ (by simp)).2.1 | exact (Own.ext (by assumption) ⟨by assumption, by assumption, by assumption⟩ (by simp)).2.2)))); (try simp only [Act.put, List.setIfInBounds_toArray, List.set_cons_zero, List.set_cons_succ])
                  refine takeL (i := 11) (v := ?_) rfl (by kernel_rfl) (by kernel_rfl) (by kernel_rfl) (fun _ _ _ h => h) (Or.inl ⟨by rfl, ?_⟩) (by assumption) ?_; rotate_left; (focus (intro wq hSw; (try dsimp only at hSw); go_simp; try with_reducible rfl)); (try simp only [Act.put, List.setIfInBounds_toArray, List.set_cons_zero, List.set_cons_succ])
                  refine takeL (i := 12) (v := ?_) rfl (by kernel_rfl) (by kernel_rfl) (by kernel_rfl) (fun _ _ _ h => h) (Or.inl ⟨by rfl, ?_⟩) (by assumption) ?_; rotate_left; (focus (intro wq hSw; (try dsimp only at hSw); go_simp; try with_reducible rfl)); (try simp only [Act.put, List.setIfInBounds_toArray, List.set_cons_zero, List.set_cons_succ])
                  refine takeL (i := 13) (v := ?_) rfl (by kernel_rfl) (by kernel_rfl) (by kernel_rfl) (fun _ _ _ h => h) (Or.inl ⟨by rfl, ?_⟩) (by assumption) ?_; rotate_left; (focus (intro wq hSw; (try dsimp only at hSw); go_simp; try with_reducible rfl)); (try simp only [Act.put, List.setIfInBounds_toArray, List.set_cons_zero, List.set_cons_succ])
                  refine consL (i := 15) (by kernel_rfl) rfl (fun K hK => ?_); go_simp; refine hK.out _ _ ?_ (fun hHeld => ?_); rotate_left; clear hK K; rotate_right; (focus ((try dsimp only); (go_split_ands; repeat' (first | with_reducible assumption | with_reducible apply And.intro | with_reducible exact Ext.refl _ | with_reducible refine Ext.setCell ?_ (by simp; omega) _ | with_reducible refine Ext.setCell ?_ (by simp) _ | with_reducible refine At.set ?_ (by omega) | with_reducible refine own1_set ?_ | with_reducible refine own2_set ?_ | with_reducible refine own3_set ?_ (by simp) | with_reducible refine Ext.drew ?_ | with_reducible refine At.drew ?_ | with_reducible refine own1_drew ?_ | with_reducible refine Ext.alloc ?_ _ | with_reducible refine At.alloc ?_ (by simp) | with_reducible refine own1_alloc ?_ | with_reducible refine cell_alloc ?_ | with_reducible refine cell_drew ?_ | with_reducible refine own2_drew ?_ | with_reducible refine own3_drew ?_ | with_reducible refine own2_alloc (by first | omega | (simp; omega)) ?_ | with_reducible refine own3_alloc (by first | omega | (simp; omega)) ?_ | with_reducible refine cell_set ?_ (by omega) | with_reducible exact Ext.trans' (by assumption) (by assumption) | with_reducible exact At.ext (by assumption) (by assumption) (by simp) | with_reducible exact Ext.cell (by assumption) (by assumption) | exact (Own.ext (by assumption) ⟨by assumption, by assumption, by assumption⟩ (by simp)).1 | exact (Own.ext (by assumption) ⟨by assumption, by assumption, by assumption⟩ (by simp)).2.1 | exact (Own.ext (by assumption) ⟨by assumption, by assumption, by assumption⟩ (by simp)).2.2)))); (try simp only [Act.put, List.setIfInBounds_toArray, List.set_cons_zero, List.set_cons_succ])
                  refine consL (i := 16) (by kernel_rfl) rfl (fun K hK => ?_); go_simp; refine hK.out _ _ ?_ (fun hHeld => ?_); rotate_left; clear hK K; rotate_right; (focus ((try dsimp only); (go_split_ands; repeat' (first | with_reducible assumption | with_reducible apply And.intro | with_reducible exact Ext.refl _ | with_reducible refine Ext.setCell ?_ (by simp; omega) _ | with_reducible refine Ext.setCell ?_ (by simp) _ | with_reducible refine At.set ?_ (by omega) | with_reducible refine own1_set ?_ | with_reducible refine own2_set ?_ | with_reducible refine own3_set ?_ (by simp) | with_reducible refine Ext.drew ?_ | with_reducible refine At.drew ?_ | with_reducible refine own1_drew ?_ | with_reducible refine Ext.alloc ?_ _ | with_reducible refine At.alloc ?_ (by simp) | with_reducible refine own1_alloc ?_ | with_reducible refine cell_alloc ?_ | with_reducible refine cell_drew ?_ | with_reducible refine own2_drew ?_ | with_reducible refine own3_drew ?_ | with_reducible refine own2_alloc (by first | omega | (simp; omega)) ?_ | with_reducible refine own3_alloc (by first | omega | (simp; omega)) ?_ | with_reducible refine cell_set ?_ (by omega) | with_reducible exact Ext.trans' (by assumption) (by assumption) | with_reducible exact At.ext (by assumption) (by assumption) (by simp) | with_reducible exact Ext.cell (by assumption) (by assumption) | exact (Own.ext (by assumption) ⟨by assumption, by assumption, by assumption⟩ (by simp)).1 | exact (Own.ext (by assumption) ⟨by assumption, by assumption, by assumption⟩ (by simp)).2.1 | exact (Own.ext (by assumption) ⟨by assumption, by assumption, by assumption⟩ (by simp)).2.2)))); (try simp only [Act.put, List.setIfInBounds_toArray, List.set_cons_zero, List.set_cons_succ])
                  refine doneL (by kernel_rfl) ?_
                  go_wp2_with fail
                  go_meet
                  exact ⟨_, t7, rfl, rfl, And.left hHeld, by first | exact (Blk.at _ 48 rfl).at' | exact At.mk2 (put2_cells OG _ _).1 (put2_cells OG _ _).2, by first | exact ht7.keep ((Ext.refl _).alloc _).ik | exact ht7.keep (IK.put2 OG _ _ _ _)⟩
              · skip
                go_simp; refine hK.out _ _ ?_ (fun hHeld => ?_); rotate_left; clear hK K; rotate_right; (focus ((try dsimp only); (go_split_ands; repeat' (first | with_reducible assumption | with_reducible apply And.intro | with_reducible exact Ext.refl _ | with_reducible refine Ext.setCell ?_ (by simp; omega) _ | with_reducible refine Ext.setCell ?_ (by simp) _ | with_reducible refine At.set ?_ (by omega) | with_reducible refine own1_set ?_ | with_reducible refine own2_set ?_ | with_reducible refine own3_set ?_ (by simp) | with_reducible refine Ext.drew ?_ | with_reducible refine At.drew ?_ | with_reducible refine own1_drew ?_ | with_reducible refine Ext.alloc ?_ _ | with_reducible refine At.alloc ?_ (by simp) | with_reducible refine own1_alloc ?_ | with_reducible refine cell_alloc ?_ | with_reducible refine cell_drew ?_ | with_reducible refine own2_drew ?_ | with_reducible refine own3_drew ?_ | with_reducible refine own2_alloc (by first | omega | (simp; omega)) ?_ | with_reducible refine own3_alloc (by first | omega | (simp; omega)) ?_ | with_reducible refine cell_set ?_ (by omega) | with_reducible exact Ext.trans' (by assumption) (by assumption) | with_reducible exact At.ext (by assumption) (by assumption) (by simp) | with_reducible exact Ext.cell (by assumption) (by assumption) | exact (Own.ext (by assumption) ⟨by assumption, by assumption, by assumption⟩ (by simp)).1 | exact (Own.ext (by assumption) ⟨by assumption, by assumption, by assumption⟩ (by simp)).2.1 | exact (Own.ext (by assumption) ⟨by assumption, by assumption, by assumption⟩ (by simp)).2.2)))); (try simp only [Act.put, List.setIfInBounds_toArray, List.set_cons_zero, List.set_cons_succ])
                refine consL (i := 9) (by kernel_rfl) rfl (fun K hK => ?_)
                go_simp; go_at_call 28; refine (From_c x _ (by omega) (by omega)).mono ?_; rintro e w8 ⟨t2, rfl, ht2, hx2⟩; have HX2 := Lib.hid hx2; have sz := Ext.size hx2; (try simp only [World.size_alloc, World.size_drew] at sz); (first | (have OG := Own.ext hx2 ((Blk.at #[.bool false, .slice none 0 0] 48 rfl).own 2 (by simp) noIntW) (by omega)) | (have OG := Own.ext hx2 OG (by omega)) | skip); (try simp only [World.size_alloc] at OG); go_wp2_with fail; refine hK.out _ _ ?_ (fun hHeld => ?_); rotate_left; clear hK K; rotate_right; (focus ((try dsimp only); (go_split_ands; repeat' (first | with_reducible assumption | with_reducible apply And.intro | with_reducible exact Ext.refl _ | with_reducible refine Ext.setCell ?_ (by simp; omega) _ | with_reducible refine Ext.setCell ?_ (by simp) _ | with_reducible refine At.set ?_ (by omega) | with_reducible refine own1_set ?_ | with_reducible refine own2_set ?_ | with_reducible refine own3_set ?_ (by simp) | with_reducible refine Ext.drew ?_ | with_reducible refine At.drew ?_ | with_reducible refine own1_drew ?_ | with_reducible refine Ext.alloc ?_ _ | with_reducible refine At.alloc ?_ (by simp) | with_reducible refine own1_alloc ?_ | with_reducible refine cell_alloc ?_ | with_reducible refine cell_drew ?_ | with_reducible refine own2_drew ?_ | with_reducible refine own3_drew ?_ | with_reducible refine own2_alloc (by first | omega | (simp; omega)) ?_ | with_reducible refine own3_alloc (by first | omega | (simp; omega)) ?_ | with_reducible refine cell_set ?_ (by omega) | with_reducible exact Ext.trans' (by assumption) (by assumption) | with_reducible exact At.ext (by assumption) (by assumption) (by simp) | with_reducible exact Ext.cell (by assumption) (by assumption) | exact (Own.ext (by assumption) ⟨by assumption, by assumption, by assumption⟩ (by simp)).1 | exact (Own.ext (by assumption) ⟨by assumption, by assumption, by assumption⟩ (by simp)).2.1 | exact (Own.ext (by assumption) ⟨by assumption, by assumption, by assumption⟩ (by simp)).2.2)))); (try simp only [Act.put, List.setIfInBounds_toArray, List.set_cons_zero, List.set_cons_succ])
                refine consL (i := 10) (by kernel_rfl) rfl (fun K hK => ?_)
                go_simp; go_at_call 27; refine (Mul_c t1 t2 nk x _ (by first | exact ht1.keep (Ext.ik HX2.out) | exact ht1.keep (Ext.ik (Ext.trans HX2.out ((Ext.refl _).alloc _))) | exact ht1.keep (Ext.ik (Ext.trans ((Ext.refl _).alloc _) HX2.out))) (by first | exact ht2 | exact ht2.keep ((Ext.refl _).alloc _).ik)).mono ?_; rw [LY.out]; rintro e w9 ⟨t7, rfl, ht7, hx7⟩; have HX7 := Lib.hid hx7; have sz := Ext.size hx7; (try simp only [World.size_alloc, World.size_drew] at sz); (first | (have OG := Own.ext hx7 ((Blk.at #[.bool false, .slice none 0 0] 48 rfl).own 2 (by simp) noIntW) (by omega)) | (have OG := Own.ext hx7 OG (by omega)) | skip); (try simp only [World.size_alloc] at OG); go_wp2_with fail; refine hK.out _ _ ?_ (fun hHeld => ?_); rotate_left; clear hK K; rotate_right; (focus ((try dsimp only); (go_split_ands; repeat' (first | with_reducible assumption | with_reducible apply And.intro | with_reducible exact Ext.refl _ | with_reducible refine Ext.setCell ?_ (by simp; omega) _ | with_reducible refine Ext.setCell ?_ (by simp) _ | with_reducible refine At.set ?_ (by omega) | with_reducible refine own1_set ?_ | with_reducible refine own2_set ?_ | with_reducible refine own3_set ?_ (by simp) | with_reducible refine Ext.drew ?_ | with_reducible refine At.drew ?_ | with_reducible refine own1_drew ?_ | with_reducible refine Ext.alloc ?_ _ | with_reducible refine At.alloc ?_ (by simp) | with_reducible refine own1_alloc ?_ | with_reducible refine cell_alloc ?_ | with_reducible refine cell_drew ?_ | with_reducible refine own2_drew ?_ | with_reducible refine own3_drew ?_ | with_reducible refine own2_alloc (by first | omega | (simp; omega)) ?_ | with_reducible refine own3_alloc (by first | omega | (simp; omega)) ?_ | with_reducible refine cell_set ?_ (by omega) | with_reducible exact Ext.trans' (by assumption) (by assumption) | with_reducible exact At.ext (by assumption) (by assumption) (by simp) | with_reducible exact Ext.cell (by assumption) (by assumption) | exact (Own.ext (by assumption) ⟨by assumption, by assumption, by assumption⟩ (by simp)).1 | exact (Own.ext (by assumption) ⟨by assumption, by assumption, by assumption⟩ (by simp)).2.1 | exact (Own.ext (by assumption) ⟨by assumption, by assumption, by assumption⟩ (by simp)).2.2)))); (try simp only [Act.put, List.setIfInBounds_toArray, List.set_cons_zero, List.set_cons_succ])
                refine takeL (i := 11) (v := ?_) rfl (by kernel_rfl) (by kernel_rfl) (by kernel_rfl) (fun _ _ _ h => h) (Or.inl ⟨by rfl, ?_⟩) (by assumption) ?_; rotate_left; (focus (intro wq hSw; (try dsimp only at hSw); go_simp; try with_reducible rfl)); (try simp only [Act.put, List.setIfInBounds_toArray, List.set_cons_zero, List.set_cons_succ])
                refine takeL (i := 12) (v := ?_) rfl (by kernel_rfl) (by kernel_rfl) (by kernel_rfl) (fun _ _ _ h => h) (Or.inl ⟨by rfl, ?_⟩) (by assumption) ?_; rotate_left; (focus (intro wq hSw; (try dsimp only at hSw); go_simp; try with_reducible rfl)); (try simp only [Act.put, List.setIfInBounds_toArray, List.set_cons_zero, List.set_cons_succ])
                refine takeL (i := 13) (v := ?_) rfl (by kernel_rfl) (by kernel_rfl) (by kernel_rfl) (fun _ _ _ h => h) (Or.inl ⟨by rfl, ?_⟩) (by assumption) ?_; rotate_left; (focus (intro wq hSw; (try dsimp only at hSw); go_simp; try with_reducible rfl)); (try simp only [Act.put, List.setIfInBounds_toArray, List.set_cons_zero, List.set_cons_succ])
                refine consL (i := 15) (by kernel_rfl) rfl (fun K hK => ?_); go_simp; refine hK.out _ _ ?_ (fun hHeld => ?_); rotate_left; clear hK K; rotate_right; (focus ((try dsimp only); (go_split_ands; repeat' (first | with_reducible assumption | with_reducible apply And.intro | with_reducible exact Ext.refl _ | with_reducible refine Ext.setCell ?_ (by simp; omega) _ | with_reducible refine Ext.setCell ?_ (by simp) _ | with_reducible refine At.set ?_ (by omega) | with_reducible refine own1_set ?_ | with_reducible refine own2_set ?_ | with_reducible refine own3_set ?_ (by simp) | with_reducible refine Ext.drew ?_ | with_reducible refine At.drew ?_ | with_reducible refine own1_drew ?_ | with_reducible refine Ext.alloc ?_ _ | with_reducible refine At.alloc ?_ (by simp) | with_reducible refine own1_alloc ?_ | with_reducible refine cell_alloc ?_ | with_reducible refine cell_drew ?_ | with_reducible refine own2_drew ?_ | with_reducible refine own3_drew ?_ | with_reducible refine own2_alloc (by first | omega | (simp; omega)) ?_ | with_reducible refine own3_alloc (by first | omega | (simp; omega)) ?_ | with_reducible refine cell_set ?_ (by omega) | with_reducible exact Ext.trans' (by assumption) (by assumption) | with_reducible exact At.ext (by assumption) (by assumption) (by simp) | with_reducible exact Ext.cell (by assumption) (by assumption) | exact (Own.ext (by assumption) ⟨by assumption, by assumption, by assumption⟩ (by simp)).1 | exact (Own.ext (by assumption) ⟨by assumption, by assumption, by assumption⟩ (by simp)).2.1 | exact (Own.ext (by assumption) ⟨by assumption, by assumption, by assumption⟩ (by simp)).2.2)))); (try simp only [Act.put, List.setIfInBounds_toArray, List.set_cons_zero, List.set_cons_succ])
                refine consL (i := 16) (by kernel_rfl) rfl (fun K hK => ?_); go_simp; refine hK.out _ _ ?_ (fun hHeld => ?_); rotate_left; clear hK K; rotate_right; (focus ((try dsimp only); (go_split_ands; repeat' (first | with_reducible assumption | with_reducible apply And.intro | with_reducible exact Ext.refl _ | with_reducible refine Ext.setCell ?_ (by simp; omega) _ | with_reducible refine Ext.setCell ?_ (by simp) _ | with_reducible refine At.set ?_ (by omega) | with_reducible refine own1_set ?_ | with_reducible refine own2_set ?_ | with_reducible refine own3_set ?_ (by simp) | with_reducible refine Ext.drew ?_ | with_reducible refine At.drew ?_ | with_reducible refine own1_drew ?_ | with_reducible refine Ext.alloc ?_ _ | with_reducible refine At.alloc ?_ (by simp) | with_reducible refine own1_alloc ?_ | with_reducible refine cell_alloc ?_ | with_reducible refine cell_drew ?_ | with_reducible refine own2_drew ?_ | with_reducible refine own3_drew ?_ | with_reducible refine own2_alloc (by first | omega | (simp; omega)) ?_ | with_reducible refine own3_alloc (by first | omega | (simp; omega)) ?_ | with_reducible refine cell_set ?_ (by omega) | with_reducible exact Ext.trans' (by assumption) (by assumption) | with_reducible exact At.ext (by assumption) (by assumption) (by simp) | with_reducible exact Ext.cell (by assumption) (by assumption) | exact (Own.ext (by assumption) ⟨by assumption, by assumption, by assumption⟩ (by simp)).1 | exact (Own.ext (by assumption) ⟨by assumption, by assumption, by assumption⟩ (by simp)).2.1 | exact (Own.ext (by assumption) ⟨by assumption, by assumption, by assumption⟩ (by simp)).2.2)))); (try simp only [Act.put, List.setIfInBounds_toArray, List.set_cons_zero, List.set_cons_succ])
                refine doneL (by kernel_rfl) ?_
                go_wp2_with fail
                go_meet
                exact ⟨_, t7, rfl, rfl, And.left hHeld, by first | exact (Blk.at _ 48 rfl).at' | exact At.mk2 (put2_cells OG _ _).1 (put2_cells OG _ _).2, by first | exact ht7.keep ((Ext.refl _).alloc _).ik | exact ht7.keep (IK.put2 OG _ _ _ _)⟩
            · skip
              go_simp; refine hK.out _ _ ?_ (fun hHeld => ?_); rotate_left; clear hK K; rotate_right; (focus ((try dsimp only); (go_split_ands; repeat' (first | with_reducible assumption | with_reducible apply And.intro | with_reducible exact Ext.refl _ | with_reducible refine Ext.setCell ?_ (by simp; omega) _ | with_reducible refine Ext.setCell ?_ (by simp) _ | with_reducible refine At.set ?_ (by omega) | with_reducible refine own1_set ?_ | with_reducible refine own2_set ?_ | with_reducible refine own3_set ?_ (by simp) | with_reducible refine Ext.drew ?_ | with_reducible refine At.drew ?_ | with_reducible refine own1_drew ?_ | with_reducible refine Ext.alloc ?_ _ | with_reducible refine At.alloc ?_ (by simp) | with_reducible refine own1_alloc ?_ | with_reducible refine cell_alloc ?_ | with_reducible refine cell_drew ?_ | with_reducible refine own2_drew ?_ | with_reducible refine own3_drew ?_ | with_reducible refine own2_alloc (by first | omega | (simp; omega)) ?_ | with_reducible refine own3_alloc (by first | omega | (simp; omega)) ?_ | with_reducible refine cell_set ?_ (by omega) | with_reducible exact Ext.trans' (by assumption) (by assumption) | with_reducible exact At.ext (by assumption) (by assumption) (by simp) | with_reducible exact Ext.cell (by assumption) (by assumption) | exact (Own.ext (by assumption) ⟨by assumption, by assumption, by assumption⟩ (by simp)).1 | exact (Own.ext (by assumption) ⟨by assumption, by assumption, by assumption⟩ (by simp)).2.1 | exact (Own.ext (by assumption) ⟨by assumption, by assumption, by assumption⟩ (by simp)).2.2)))); (try simp only [Act.put, List.setIfInBounds_toArray, List.set_cons_zero, List.set_cons_succ])
              refine consL (i := 4) (by kernel_rfl) rfl (fun K hK => ?_)
              go_simp; go_at_call 28; refine (From_c nk _ (by omega) (by omega)).mono ?_; rintro e w7 ⟨t1, rfl, ht1, hx1⟩; have HX1 := Lib.hid hx1; have sz := Ext.size hx1; (try simp only [World.size_alloc, World.size_drew] at sz); (first | (have OG := Own.ext hx1 ((Blk.at #[.bool false, .slice none 0 0] 48 rfl).own 2 (by simp) noIntW) (by omega)) | (have OG := Own.ext hx1 OG (by omega)) | skip); (try simp only [World.size_alloc] at OG); go_wp2_with fail; refine hK.out _ _ ?_ (fun hHeld => ?_); rotate_left; clear hK K; rotate_right; (focus ((try dsimp only); (go_split_ands; repeat' (first | with_reducible assumption | with_reducible apply And.intro | with_reducible exact Ext.refl _ | with_reducible refine Ext.setCell ?_ (by simp; omega) _ | with_reducible refine Ext.setCell ?_ (by simp) _ | with_reducible refine At.set ?_ (by omega) | with_reducible refine own1_set ?_ | with_reducible refine own2_set ?_ | with_reducible refine own3_set ?_ (by simp) | with_reducible refine Ext.drew ?_ | with_reducible refine At.drew ?_ | with_reducible refine own1_drew ?_ | with_reducible refine Ext.alloc ?_ _ | with_reducible refine At.alloc ?_ (by simp) | with_reducible refine own1_alloc ?_ | with_reducible refine cell_alloc ?_ | with_reducible refine cell_drew ?_ | with_reducible refine own2_drew ?_ | with_reducible refine own3_drew ?_ | with_reducible refine own2_alloc (by first | omega | (simp; omega)) ?_ | with_reducible refine own3_alloc (by first | omega | (simp; omega)) ?_ | with_reducible refine cell_set ?_ (by omega) | with_reducible exact Ext.trans' (by assumption) (by assumption) | with_reducible exact At.ext (by assumption) (by assumption) (by simp) | with_reducible exact Ext.cell (by assumption) (by assumption) | exact (Own.ext (by assumption) ⟨by assumption, by assumption, by assumption⟩ (by simp)).1 | exact (Own.ext (by assumption) ⟨by assumption, by assumption, by assumption⟩ (by simp)).2.1 | exact (Own.ext (by assumption) ⟨by assumption, by assumption, by assumption⟩ (by simp)).2.2)))); (try simp only [Act.put, List.setIfInBounds_toArray, List.set_cons_zero, List.set_cons_succ])
              refine consL (i := 9) (by kernel_rfl) rfl (fun K hK => ?_)
              go_simp; go_at_call 28; refine (From_c x _ (by omega) (by omega)).mono ?_; rintro e w8 ⟨t2, rfl, ht2, hx2⟩; have HX2 := Lib.hid hx2; have sz := Ext.size hx2; (try simp only [World.size_alloc, World.size_drew] at sz); (first | (have OG := Own.ext hx2 ((Blk.at #[.bool false, .slice none 0 0] 48 rfl).own 2 (by simp) noIntW) (by omega)) | (have OG := Own.ext hx2 OG (by omega)) | skip); (try simp only [World.size_alloc] at OG); go_wp2_with fail; refine hK.out _ _ ?_ (fun hHeld => ?_); rotate_left; clear hK K; rotate_right; (focus ((try dsimp only); (go_split_ands; repeat' (first | with_reducible assumption | with_reducible apply And.intro | with_reducible exact Ext.refl _ | with_reducible refine Ext.setCell ?_ (by simp; omega) _ | with_reducible refine Ext.setCell ?_ (by simp) _ | with_reducible refine At.set ?_ (by omega) | with_reducible refine own1_set ?_ | with_reducible refine own2_set ?_ | with_reducible refine own3_set ?_ (by simp) | with_reducible refine Ext.drew ?_ | with_reducible refine At.drew ?_ | with_reducible refine own1_drew ?_ | with_reducible refine Ext.alloc ?_ _ | with_reducible refine At.alloc ?_ (by simp) | with_reducible refine own1_alloc ?_ | with_reducible refine cell_alloc ?_ | with_reducible refine cell_drew ?_ | with_reducible refine own2_drew ?_ | with_reducible refine own3_drew ?_ | with_reducible refine own2_alloc (by first | omega | (simp; omega)) ?_ | with_reducible refine own3_alloc (by first | omega | (simp; omega)) ?_ | with_reducible refine cell_set ?_ (by omega) | with_reducible exact Ext.trans' (by assumption) (by assumption) | with_reducible exact At.ext (by assumption) (by assumption) (by simp) | with_reducible exact Ext.cell (by assumption) (by assumption) | exact (Own.ext (by assumption) ⟨by assumption, by assumption, by assumption⟩ (by simp)).1 | exact (Own.ext (by assumption) ⟨by assumption, by assumption, by assumption⟩ (by simp)).2.1 | exact (Own.ext (by assumption) ⟨by assumption, by assumption, by assumption⟩ (by simp)).2.2)))); (try simp only [Act.put, List.setIfInBounds_toArray, List.set_cons_zero, List.set_cons_succ])
              refine consL (i := 10) (by kernel_rfl) rfl (fun K hK => ?_)
              go_simp; go_at_call 27; refine (Mul_c t1 t2 nk x _ (by first | exact ht1.keep (Ext.ik HX2.out) | exact ht1.keep (Ext.ik (Ext.trans HX2.out ((Ext.refl _).alloc _))) | exact ht1.keep (Ext.ik (Ext.trans ((Ext.refl _).alloc _) HX2.out))) (by first | exact ht2 | exact ht2.keep ((Ext.refl _).alloc _).ik)).mono ?_; rw [LY.out]; rintro e w9 ⟨t7, rfl, ht7, hx7⟩; have HX7 := Lib.hid hx7; have sz := Ext.size hx7; (try simp only [World.size_alloc, World.size_drew] at sz); (first | (have OG := Own.ext hx7 ((Blk.at #[.bool false, .slice none 0 0] 48 rfl).own 2 (by simp) noIntW) (by omega)) | (have OG := Own.ext hx7 OG (by omega)) | skip); (try simp only [World.size_alloc] at OG); go_wp2_with fail; refine hK.out _ _ ?_ (fun hHeld => ?_); rotate_left; clear hK K; rotate_right; (focus ((try dsimp only); (go_split_ands; repeat' (first | with_reducible assumption | with_reducible apply And.intro | with_reducible exact Ext.refl _ | with_reducible refine Ext.setCell ?_ (by simp; omega) _ | with_reducible refine Ext.setCell ?_ (by simp) _ | with_reducible refine At.set ?_ (by omega) | with_reducible refine own1_set ?_ | with_reducible refine own2_set ?_ | with_reducible refine own3_set ?_ (by simp) | with_reducible refine Ext.drew ?_ | with_reducible refine At.drew ?_ | with_reducible refine own1_drew ?_ | with_reducible refine Ext.alloc ?_ _ | with_reducible refine At.alloc ?_ (by simp) | with_reducible refine own1_alloc ?_ | with_reducible refine cell_alloc ?_ | with_reducible refine cell_drew ?_ | with_reducible refine own2_drew ?_ | with_reducible refine own3_drew ?_ | with_reducible refine own2_alloc (by first | omega | (simp; omega)) ?_ | with_reducible refine own3_alloc (by first | omega | (simp; omega)) ?_ | with_reducible refine cell_set ?_ (by omega) | with_reducible exact Ext.trans' (by assumption) (by assumption) | with_reducible exact At.ext (by assumption) (by assumption) (by simp) | with_reducible exact Ext.cell (by assumption) (by assumption) | exact (Own.ext (by assumption) ⟨by assumption, by assumption, by assumption⟩ (by simp)).1 | exact (Own.ext (by assumption) ⟨by assumption, by assumption, by assumption⟩ (by simp)).2.1 | exact (Own.ext (by assumption) ⟨by assumption, by assumption, by assumption⟩ (by simp)).2.2)))); (try simp only [Act.put, List.setIfInBounds_toArray, List.set_cons_zero, List.set_cons_succ])
              refine takeL (i := 11) (v := ?_) rfl (by kernel_rfl) (by kernel_rfl) (by kernel_rfl) (fun _ _ _ h => h) (Or.inl ⟨by rfl, ?_⟩) (by assumption) ?_; rotate_left; (focus (intro wq hSw; (try dsimp only at hSw); go_simp; try with_reducible rfl)); (try simp only [Act.put, List.setIfInBounds_toArray, List.set_cons_zero, List.set_cons_succ])
              refine takeL (i := 12) (v := ?_) rfl (by kernel_rfl) (by kernel_rfl) (by kernel_rfl) (fun _ _ _ h => h) (Or.inl ⟨by rfl, ?_⟩) (by assumption) ?_; rotate_left; (focus (intro wq hSw; (try dsimp only at hSw); go_simp; try with_reducible rfl)); (try simp only [Act.put, List.setIfInBounds_toArray, List.set_cons_zero, List.set_cons_succ])
              refine takeL (i := 13) (v := ?_) rfl (by kernel_rfl) (by kernel_rfl) (by kernel_rfl) (fun _ _ _ h => h) (Or.inl ⟨by rfl, ?_⟩) (by assumption) ?_; rotate_left; (focus (intro wq hSw; (try dsimp only at hSw); go_simp; try with_reducible rfl)); (try simp only [Act.put, List.setIfInBounds_toArray, List.set_cons_zero, List.set_cons_succ])
              refine consL (i := 15) (by kernel_rfl) rfl (fun K hK => ?_); go_simp; refine hK.out _ _ ?_ (fun hHeld => ?_); rotate_left; clear hK K; rotate_right; (focus ((try dsimp only); (go_split_ands; repeat' (first | with_reducible assumption | with_reducible apply And.intro | with_reducible exact Ext.refl _ | with_reducible refine Ext.setCell ?_ (by simp; omega) _ | with_reducible refine Ext.setCell ?_ (by simp) _ | with_reducible refine At.set ?_ (by omega) | with_reducible refine own1_set ?_ | with_reducible refine own2_set ?_ | with_reducible refine own3_set ?_ (by simp) | with_reducible refine Ext.drew ?_ | with_reducible refine At.drew ?_ | with_reducible refine own1_drew ?_ | with_reducible refine Ext.alloc ?_ _ | with_reducible refine At.alloc ?_ (by simp) | with_reducible refine own1_alloc ?_ | with_reducible refine cell_alloc ?_ | with_reducible refine cell_drew ?_ | with_reducible refine own2_drew ?_ | with_reducible refine own3_drew ?_ | with_reducible refine own2_alloc (by first | omega | (simp; omega)) ?_ | with_reducible refine own3_alloc (by first | omega | (simp; omega)) ?_ | with_reducible refine cell_set ?_ (by omega) | with_reducible exact Ext.trans' (by assumption) (by assumption) | with_reducible exact At.ext (by assumption) (by assumption) (by simp) | with_reducible exact Ext.cell (by assumption) (by assumption) | exact (Own.ext (by assumption) ⟨by assumption, by assumption, by assumption⟩ (by simp)).1 | exact (Own.ext (by assumption) ⟨by assumption, by assumption, by assumption⟩ (by simp)).2.1 | exact (Own.ext (by assumption) ⟨by assumption, by assumption, by assumption⟩ (by simp)).2.2)))); (try simp only [Act.put, List.setIfInBounds_toArray, List.set_cons_zero, List.set_cons_succ])
              refine consL (i := 16) (by kernel_rfl) rfl (fun K hK => ?_); go_simp; refine hK.out _ _ ?_ (fun hHeld => ?_); rotate_left; clear hK K; rotate_right; (focus ((try dsimp only); (go_split_ands; repeat' (first | with_reducible assumption | with_reducible apply And.intro | with_reducible exact Ext.refl _ | with_reducible refine Ext.setCell ?_ (by simp; omega) _ | with_reducible refine Ext.setCell ?_ (by simp) _ | with_reducible refine At.set ?_ (by omega) | with_reducible refine own1_set ?_ | with_reducible refine own2_set ?_ | with_reducible refine own3_set ?_ (by simp) | with_reducible refine Ext.drew ?_ | with_reducible refine At.drew ?_ | with_reducible refine own1_drew ?_ | with_reducible refine Ext.alloc ?_ _ | with_reducible refine At.alloc ?_ (by simp) | with_reducible refine own1_alloc ?_ | with_reducible refine cell_alloc ?_ | with_reducible refine cell_drew ?_ | with_reducible refine own2_drew ?_ | with_reducible refine own3_drew ?_ | with_reducible refine own2_alloc (by first | omega | (simp; omega)) ?_ | with_reducible refine own3_alloc (by first | omega | (simp; omega)) ?_ | with_reducible refine cell_set ?_ (by omega) | with_reducible exact Ext.trans' (by assumption) (by assumption) | with_reducible exact At.ext (by assumption) (by assumption) (by simp) | with_reducible exact Ext.cell (by assumption) (by assumption) | exact (Own.ext (by assumption) ⟨by assumption, by assumption, by assumption⟩ (by simp)).1 | exact (Own.ext (by assumption) ⟨by assumption, by assumption, by assumption⟩ (by simp)).2.1 | exact (Own.ext (by assumption) ⟨by assumption, by assumption, by assumption⟩ (by simp)).2.2)))); (try simp only [Act.put, List.setIfInBounds_toArray, List.set_cons_zero, List.set_cons_succ])
              refine doneL (by kernel_rfl) ?_
              go_wp2_with fail
              go_meet
              exact ⟨_, t7, rfl, rfl, And.left hHeld, by first | exact (Blk.at _ 48 rfl).at' | exact At.mk2 (put2_cells OG _ _).1 (put2_cells OG _ _).2, by first | exact ht7.keep ((Ext.refl _).alloc _).ik | exact ht7.keep (IK.put2 OG _ _ _ _)⟩
          case rest =>
            obtain ⟨H, y, rfl, rfl, E7, AH, hy⟩ := hcut
            have HY := Lib.hid hy; have HE7 := Lib.hid E7
            have lH := AH.lt (by simp)
            have hS1 := HQF.out.s1
            have hS2 := HQF.out.s2
            have hSb : S.natAbs < B32 := by rw [B32_eq]; omega
            have low1 := low_of Y S hS1
            obtain ⟨N1, hN1⟩ : ∃ z, Y / gcdI Y S = z := ⟨_, rfl⟩
            obtain ⟨D1, hD1⟩ : ∃ z, S / gcdI Y S = z := ⟨_, rfl⟩
            rw [hN1, hD1] at low1
            have HN1 := Lib.hid (And.intro hN1 hD1); have HLOW1 := Lib.hid low1
            clear hy E7 hN1 hD1 low1 cu cw
            obtain ⟨we, hwe⟩ : ∃ W, W = wd := ⟨_, rfl⟩
            have HWE := Lib.hid hwe
            rw [← hwe] at HE7
            clear hwe
            obtain ⟨wd, rfl⟩ : ∃ W, W = wc := ⟨_, rfl⟩
            go_upto_region 14 with (fail)
            go_cut [14, 15] (fun s12 s13 wx => ∃ (H : Nat) (f : FV), s12 = .pointer (some ⟨H, 0, none⟩) ∧ s13 = .int .i64 0 ∧ Ext wd wx ∧ At wx H #[.bool f.n.neg, .slice f.n.a f.n.n f.n.c, .bool f.d.neg, .slice f.d.a f.d.n f.d.c] ∧ IsF wx f N1 D1)
            case first =>
              refine wp_region_held_drew (S := fun w' => Ext wd w' ∧ At w' H #[.bool y.neg, .slice y.a y.n y.c]) (by kernel_rfl) ?_ (fun hHeld => ?_)
              · exact ⟨(Ext.refl wd).drew, AH⟩
              refine takeL (i := 0) (v := ?_) rfl (by kernel_rfl) (by kernel_rfl) (by kernel_rfl) (fun _ _ _ h => h) (Or.inl ⟨by rfl, ?_⟩) (by assumption) ?_; rotate_left; (focus (intro wq hSw; (try dsimp only at hSw); go_simp; try with_reducible rfl)); (try simp only [Act.put, List.setIfInBounds_toArray, List.set_cons_zero, List.set_cons_succ])
              refine takeL (i := 1) (v := ?_) rfl (by kernel_rfl) (by kernel_rfl) (by kernel_rfl) (fun _ _ _ h => h) (Or.inl ⟨by rfl, ?_⟩) (by assumption) ?_; rotate_left; (focus (intro wq hSw; (try dsimp only at hSw); go_simp; try with_reducible rfl)); (try simp only [Act.put, List.setIfInBounds_toArray, List.set_cons_zero, List.set_cons_succ])
              refine cons2L (i := 2) (j := 7) (by kernel_rfl) rfl rfl (fun K hK => ?_) (fun K hK => ?_)
              · skip
                go_simp; go_at_call 28; refine (From_c S _ (by omega) (by omega)).mono ?_; rintro e w7 ⟨t1, rfl, ht1, hx1⟩; have HX1 := Lib.hid hx1; have sz := Ext.size hx1; (try simp only [World.size_alloc, World.size_drew] at sz); (first | (have OG := Own.ext hx1 ((Blk.at #[.bool false, .slice none 0 0, .bool false, .slice none 0 0] 53 rfl).own 4 (by simp) (noIntF _ _ _ _ _ _ _ _)) (by omega)) | (have OG := Own.ext hx1 OG (by omega)) | skip); (try simp only [World.size_alloc] at OG); go_wp2_with fail; refine hK.out _ _ ?_ (fun hHeld => ?_); rotate_left; clear hK K; rotate_right; (focus ((try dsimp only); (go_split_ands; repeat' (first | with_reducible assumption | with_reducible apply And.intro | with_reducible exact Ext.refl _ | with_reducible refine Ext.setCell ?_ (by simp; omega) _ | with_reducible refine Ext.setCell ?_ (by simp) _ | with_reducible refine At.set ?_ (by omega) | with_reducible refine own1_set ?_ | with_reducible refine own2_set ?_ | with_reducible refine own3_set ?_ (by simp) | with_reducible refine Ext.drew ?_ | with_reducible refine At.drew ?_ | with_reducible refine own1_drew ?_ | with_reducible refine Ext.alloc ?_ _ | with_reducible refine At.alloc ?_ (by simp) | with_reducible refine own1_alloc ?_ | with_reducible refine cell_alloc ?_ | with_reducible refine cell_drew ?_ | with_reducible refine own2_drew ?_ | with_reducible refine own3_drew ?_ | with_reducible refine own2_alloc (by first | omega | (simp; omega)) ?_ | with_reducible refine own3_alloc (by first | omega | (simp; omega)) ?_ | with_reducible refine cell_set ?_ (by omega) | with_reducible exact Ext.trans' (by assumption) (by assumption) | with_reducible exact At.ext (by assumption) (by assumption) (by simp) | with_reducible exact Ext.cell (by assumption) (by assumption) | exact (Own.ext (by assumption) ⟨by assumption, by assumption, by assumption⟩ (by simp)).1 | exact (Own.ext (by assumption) ⟨by assumption, by assumption, by assumption⟩ (by simp)).2.1 | exact (Own.ext (by assumption) ⟨by assumption, by assumption, by assumption⟩ (by simp)).2.2)))); (try simp only [Act.put, List.setIfInBounds_toArray, List.set_cons_zero, List.set_cons_succ])
                refine cons2L (i := 3) (j := 7) (by kernel_rfl) rfl rfl (fun K hK => ?_) (fun K hK => ?_)
                · skip
                  go_simp; go_at_call 29; refine (Make_c y t1 Y S _ (HY.out.keep (Ext.ik (And.left (by assumption)))) (by first | exact ht1 | exact ht1.keep ((Ext.refl _).alloc _).ik) hS1 hSb).mono ?_; rw [HN1.out.1, HN1.out.2]; rintro e w9 ⟨f, rfl, hf, hx7⟩; have HX7 := Lib.hid hx7; have sz := Ext.size hx7; (try simp only [World.size_alloc, World.size_drew] at sz); (first | (have OG := Own.ext hx7 ((Blk.at #[.bool false, .slice none 0 0, .bool false, .slice none 0 0] 53 rfl).own 4 (by simp) (noIntF _ _ _ _ _ _ _ _)) (by omega)) | (have OG := Own.ext hx7 OG (by omega)) | skip); (try simp only [World.size_alloc] at OG); go_wp2_with fail; refine hK.out _ _ ?_ (fun hHeld => ?_); rotate_left; clear hK K; rotate_right; (focus ((try dsimp only); (go_split_ands; repeat' (first | with_reducible assumption | with_reducible apply And.intro | with_reducible exact Ext.refl _ | with_reducible refine Ext.setCell ?_ (by simp; omega) _ | with_reducible refine Ext.setCell ?_ (by simp) _ | with_reducible refine At.set ?_ (by omega) | with_reducible refine own1_set ?_ | with_reducible refine own2_set ?_ | with_reducible refine own3_set ?_ (by simp) | with_reducible refine Ext.drew ?_ | with_reducible refine At.drew ?_ | with_reducible refine own1_drew ?_ | with_reducible refine Ext.alloc ?_ _ | with_reducible refine At.alloc ?_ (by simp) | with_reducible refine own1_alloc ?_ | with_reducible refine cell_alloc ?_ | with_reducible refine cell_drew ?_ | with_reducible refine own2_drew ?_ | with_reducible refine own3_drew ?_ | with_reducible refine own2_alloc (by first | omega | (simp; omega)) ?_ | with_reducible refine own3_alloc (by first | omega | (simp; omega)) ?_ | with_reducible refine cell_set ?_ (by omega) | with_reducible exact Ext.trans' (by assumption) (by assumption) | with_reducible exact At.ext (by assumption) (by assumption) (by simp) | with_reducible exact Ext.cell (by assumption) (by assumption) | exact (Own.ext (by assumption) ⟨by assumption, by assumption, by assumption⟩ (by simp)).1 | exact (Own.ext (by assumption) ⟨by assumption, by assumption, by assumption⟩ (by simp)).2.1 | exact (Own.ext (by assumption) ⟨by assumption, by assumption, by assumption⟩ (by simp)).2.2)))); (try simp only [Act.put, List.setIfInBounds_toArray, List.set_cons_zero, List.set_cons_succ])
                  refine takeL (i := 4) (v := ?_) rfl (by kernel_rfl) (by kernel_rfl) (by kernel_rfl) (fun _ _ _ h => h) (Or.inl ⟨by rfl, ?_⟩) (by assumption) ?_; rotate_left; (focus (intro wq hSw; (try dsimp only at hSw); go_simp; try with_reducible rfl)); (try simp only [Act.put, List.setIfInBounds_toArray, List.set_cons_zero, List.set_cons_succ])
                  refine takeL (i := 5) (v := ?_) rfl (by kernel_rfl) (by kernel_rfl) (by kernel_rfl) (fun _ _ _ h => h) (Or.inl ⟨by rfl, ?_⟩) (by assumption) ?_; rotate_left; (focus (intro wq hSw; (try dsimp only at hSw); go_simp; try with_reducible rfl)); (try simp only [Act.put, List.setIfInBounds_toArray, List.set_cons_zero, List.set_cons_succ])
                  refine takeL (i := 6) (v := ?_) rfl (by kernel_rfl) (by kernel_rfl) (by kernel_rfl) (fun _ _ _ h => h) (Or.inl ⟨by rfl, ?_⟩) (by assumption) ?_; rotate_left; (focus (intro wq hSw; (try dsimp only at hSw); go_simp; try with_reducible rfl)); (try simp only [Act.put, List.setIfInBounds_toArray, List.set_cons_zero, List.set_cons_succ])
                  refine consL (i := 7) (by kernel_rfl) rfl (fun K hK => ?_); go_simp; refine hK.out _ _ ?_ (fun hHeld => ?_); rotate_left; clear hK K; rotate_right; (focus ((try dsimp only); (go_split_ands; repeat' (first | with_reducible assumption | with_reducible apply And.intro | with_reducible exact Ext.refl _ | with_reducible refine Ext.setCell ?_ (by simp; omega) _ | with_reducible refine Ext.setCell ?_ (by simp) _ | with_reducible refine At.set ?_ (by omega) | with_reducible refine own1_set ?_ | with_reducible refine own2_set ?_ | with_reducible refine own3_set ?_ (by simp) | with_reducible refine Ext.drew ?_ | with_reducible refine At.drew ?_ | with_reducible refine own1_drew ?_ | with_reducible refine Ext.alloc ?_ _ | with_reducible refine At.alloc ?_ (by simp) | with_reducible refine own1_alloc ?_ | with_reducible refine cell_alloc ?_ | with_reducible refine cell_drew ?_ | with_reducible refine own2_drew ?_ | with_reducible refine own3_drew ?_ | with_reducible refine own2_alloc (by first | omega | (simp; omega)) ?_ | with_reducible refine own3_alloc (by first | omega | (simp; omega)) ?_ | with_reducible refine cell_set ?_ (by omega) | with_reducible exact Ext.trans' (by assumption) (by assumption) | with_reducible exact At.ext (by assumption) (by assumption) (by simp) | with_reducible exact Ext.cell (by assumption) (by assumption) | exact (Own.ext (by assumption) ⟨by assumption, by assumption, by assumption⟩ (by simp)).1 | exact (Own.ext (by assumption) ⟨by assumption, by assumption, by assumption⟩ (by simp)).2.1 | exact (Own.ext (by assumption) ⟨by assumption, by assumption, by assumption⟩ (by simp)).2.2)))); (try simp only [Act.put, List.setIfInBounds_toArray, List.set_cons_zero, List.set_cons_succ])
                  refine consL (i := 8) (by kernel_rfl) rfl (fun K hK => ?_); go_simp; refine hK.out _ _ ?_ (fun hHeld => ?_); rotate_left; clear hK K; rotate_right; (focus ((try dsimp only); (go_split_ands; repeat' (first | with_reducible assumption | with_reducible apply And.intro | with_reducible exact Ext.refl _ | with_reducible refine Ext.setCell ?_ (by simp; omega) _ | with_reducible refine Ext.setCell ?_ (by simp) _ | with_reducible refine At.set ?_ (by omega) | with_reducible refine own1_set ?_ | with_reducible refine own2_set ?_ | with_reducible refine own3_set ?_ (by simp) | with_reducible refine Ext.drew ?_ | with_reducible refine At.drew ?_ | with_reducible refine own1_drew ?_ | with_reducible refine Ext.alloc ?_ _ | with_reducible refine At.alloc ?_ (by simp) | with_reducible refine own1_alloc ?_ | with_reducible refine cell_alloc ?_ | with_reducible refine cell_drew ?_ | with_reducible refine own2_drew ?_ | with_reducible refine own3_drew ?_ | with_reducible refine own2_alloc (by first | omega | (simp; omega)) ?_ | with_reducible refine own3_alloc (by first | omega | (simp; omega)) ?_ | with_reducible refine cell_set ?_ (by omega) | with_reducible exact Ext.trans' (by assumption) (by assumption) | with_reducible exact At.ext (by assumption) (by assumption) (by simp) | with_reducible exact Ext.cell (by assumption) (by assumption) | exact (Own.ext (by assumption) ⟨by assumption, by assumption, by assumption⟩ (by simp)).1 | exact (Own.ext (by assumption) ⟨by assumption, by assumption, by assumption⟩ (by simp)).2.1 | exact (Own.ext (by assumption) ⟨by assumption, by assumption, by assumption⟩ (by simp)).2.2)))); (try simp only [Act.put, List.setIfInBounds_toArray, List.set_cons_zero, List.set_cons_succ])
                  refine consL (i := 9) (by kernel_rfl) rfl (fun K hK => ?_); go_simp; refine hK.out _ _ ?_ (fun hHeld => ?_); rotate_left; clear hK K; rotate_right; (focus ((try dsimp only); (go_split_ands; repeat' (first | with_reducible assumption | with_reducible apply And.intro | with_reducible exact Ext.refl _ | with_reducible refine Ext.setCell ?_ (by simp; omega) _ | with_reducible refine Ext.setCell ?_ (by simp) _ | with_reducible refine At.set ?_ (by omega) | with_reducible refine own1_set ?_ | with_reducible refine own2_set ?_ | with_reducible refine own3_set ?_ (by simp) | with_reducible refine Ext.drew ?_ | with_reducible refine At.drew ?_ | with_reducible refine own1_drew ?_ | with_reducible refine Ext.alloc ?_ _ | with_reducible refine At.alloc ?_ (by simp) | with_reducible refine own1_alloc ?_ | with_reducible refine cell_alloc ?_ | with_reducible refine cell_drew ?_ | with_reducible refine own2_drew ?_ | with_reducible refine own3_drew ?_ | with_reducible refine own2_alloc (by first | omega | (simp; omega)) ?_ | with_reducible refine own3_alloc (by first | omega | (simp; omega)) ?_ | with_reducible refine cell_set ?_ (by omega) | with_reducible exact Ext.trans' (by assumption) (by assumption) | with_reducible exact At.ext (by assumption) (by assumption) (by simp) | with_reducible exact Ext.cell (by assumption) (by assumption) | exact (Own.ext (by assumption) ⟨by assumption, by assumption, by assumption⟩ (by simp)).1 | exact (Own.ext (by assumption) ⟨by assumption, by assumption, by assumption⟩ (by simp)).2.1 | exact (Own.ext (by assumption) ⟨by assumption, by assumption, by assumption⟩ (by simp)).2.2)))); (try simp only [Act.put, List.setIfInBounds_toArray, List.set_cons_zero, List.set_cons_succ])
                  refine doneL (by kernel_rfl) ?_
                  go_wp2_with fail
                  go_meet
                  exact ⟨_, f, rfl, rfl, And.left hHeld, (Blk.at _ 53 rfl).at', hf.keep ((Ext.refl _).alloc _).ik⟩
                · skip
                  go_simp; refine hK.out _ _ ?_ (fun hHeld => ?_); rotate_left; clear hK K; rotate_right; (focus ((try dsimp only); (go_split_ands; repeat' (first | with_reducible assumption | with_reducible apply And.intro | with_reducible exact Ext.refl _ | with_reducible refine Ext.setCell ?_ (by simp; omega) _ | with_reducible refine Ext.setCell ?_ (by simp) _ | with_reducible refine At.set ?_ (by omega) | with_reducible refine own1_set ?_ | with_reducible refine own2_set ?_ | with_reducible refine own3_set ?_ (by simp) | with_reducible refine Ext.drew ?_ | with_reducible refine At.drew ?_ | with_reducible refine own1_drew ?_ | with_reducible refine Ext.alloc ?_ _ | with_reducible refine At.alloc ?_ (by simp) | with_reducible refine own1_alloc ?_ | with_reducible refine cell_alloc ?_ | with_reducible refine cell_drew ?_ | with_reducible refine own2_drew ?_ | with_reducible refine own3_drew ?_ | with_reducible refine own2_alloc (by first | omega | (simp; omega)) ?_ | with_reducible refine own3_alloc (by first | omega | (simp; omega)) ?_ | with_reducible refine cell_set ?_ (by omega) | with_reducible exact Ext.trans' (by assumption) (by assumption) | with_reducible exact At.ext (by assumption) (by assumption) (by simp) | with_reducible exact Ext.cell (by assumption) (by assumption) | exact (Own.ext (by assumption) ⟨by assumption, by assumption, by assumption⟩ (by simp)).1 | exact (Own.ext (by assumption) ⟨by assumption, by assumption, by assumption⟩ (by simp)).2.1 | exact (Own.ext (by assumption) ⟨by assumption, by assumption, by assumption⟩ (by simp)).2.2)))); (try simp only [Act.put, List.setIfInBounds_toArray, List.set_cons_zero, List.set_cons_succ])
                  refine consL (i := 3) (by kernel_rfl) rfl (fun K hK => ?_)
                  go_simp; go_at_call 29; refine (Make_c y t1 Y S _ (HY.out.keep (Ext.ik (And.left (by assumption)))) (by first | exact ht1 | exact ht1.keep ((Ext.refl _).alloc _).ik) hS1 hSb).mono ?_; rw [HN1.out.1, HN1.out.2]; rintro e w9 ⟨f, rfl, hf, hx7⟩; have HX7 := Lib.hid hx7; have sz := Ext.size hx7; (try simp only [World.size_alloc, World.size_drew] at sz); (first | (have OG := Own.ext hx7 ((Blk.at #[.bool false, .slice none 0 0, .bool false, .slice none 0 0] 53 rfl).own 4 (by simp) (noIntF _ _ _ _ _ _ _ _)) (by omega)) | (have OG := Own.ext hx7 OG (by omega)) | skip); (try simp only [World.size_alloc] at OG); go_wp2_with fail; refine hK.out _ _ ?_ (fun hHeld => ?_); rotate_left; clear hK K; rotate_right; (focus ((try dsimp only); (go_split_ands; repeat' (first | with_reducible assumption | with_reducible apply And.intro | with_reducible exact Ext.refl _ | with_reducible refine Ext.setCell ?_ (by simp; omega) _ | with_reducible refine Ext.setCell ?_ (by simp) _ | with_reducible refine At.set ?_ (by omega) | with_reducible refine own1_set ?_ | with_reducible refine own2_set ?_ | with_reducible refine own3_set ?_ (by simp) | with_reducible refine Ext.drew ?_ | with_reducible refine At.drew ?_ | with_reducible refine own1_drew ?_ | with_reducible refine Ext.alloc ?_ _ | with_reducible refine At.alloc ?_ (by simp) | with_reducible refine own1_alloc ?_ | with_reducible refine cell_alloc ?_ | with_reducible refine cell_drew ?_ | with_reducible refine own2_drew ?_ | with_reducible refine own3_drew ?_ | with_reducible refine own2_alloc (by first | omega | (simp; omega)) ?_ | with_reducible refine own3_alloc (by first | omega | (simp; omega)) ?_ | with_reducible refine cell_set ?_ (by omega) | with_reducible exact Ext.trans' (by assumption) (by assumption) | with_reducible exact At.ext (by assumption) (by assumption) (by simp) | with_reducible exact Ext.cell (by assumption) (by assumption) | exact (Own.ext (by assumption) ⟨by assumption, by assumption, by assumption⟩ (by simp)).1 | exact (Own.ext (by assumption) ⟨by assumption, by assumption, by assumption⟩ (by simp)).2.1 | exact (Own.ext (by assumption) ⟨by assumption, by assumption, by assumption⟩ (by simp)).2.2)))); (try simp only [Act.put, List.setIfInBounds_toArray, List.set_cons_zero, List.set_cons_succ])
                  refine takeL (i := 4) (v := ?_) rfl (by kernel_rfl) (by kernel_rfl) (by kernel_rfl) (fun _ _ _ h => h) (Or.inl ⟨by rfl, ?_⟩) (by assumption) ?_; rotate_left; (focus (intro wq hSw; (try dsimp only at hSw); go_simp; try with_reducible rfl)); (try simp only [Act.put, List.setIfInBounds_toArray, List.set_cons_zero, List.set_cons_succ])
                  refine takeL (i := 5) (v := ?_) rfl (by kernel_rfl) (by kernel_rfl) (by kernel_rfl) (fun _ _ _ h => h) (Or.inl ⟨by rfl, ?_⟩) (by assumption) ?_; rotate_left; (focus (intro wq hSw; (try dsimp only at hSw); go_simp; try with_reducible rfl)); (try simp only [Act.put, List.setIfInBounds_toArray, List.set_cons_zero, List.set_cons_succ])
                  refine takeL (i := 6) (v := ?_) rfl (by kernel_rfl) (by kernel_rfl) (by kernel_rfl) (fun _ _ _ h => h) (Or.inl ⟨by rfl, ?_⟩) (by assumption) ?_; rotate_left; (focus (intro wq hSw; (try dsimp only at hSw); go_simp; try with_reducible rfl)); (try simp only [Act.put, List.setIfInBounds_toArray, List.set_cons_zero, List.set_cons_succ])
                  refine consL (i := 8) (by kernel_rfl) rfl (fun K hK => ?_); go_simp; refine hK.out _ _ ?_ (fun hHeld => ?_); rotate_left; clear hK K; rotate_right; (focus ((try dsimp only); (go_split_ands; repeat' (first | with_reducible assumption | with_reducible apply And.intro | with_reducible exact Ext.refl _ | with_reducible refine Ext.setCell ?_ (by simp; omega) _ | with_reducible refine Ext.setCell ?_ (by simp) _ | with_reducible refine At.set ?_ (by omega) | with_reducible refine own1_set ?_ | with_reducible refine own2_set ?_ | with_reducible refine own3_set ?_ (by simp) | with_reducible refine Ext.drew ?_ | with_reducible refine At.drew ?_ | with_reducible refine own1_drew ?_ | with_reducible refine Ext.alloc ?_ _ | with_reducible refine At.alloc ?_ (by simp) | with_reducible refine own1_alloc ?_ | with_reducible refine cell_alloc ?_ | with_reducible refine cell_drew ?_ | with_reducible refine own2_drew ?_ | with_reducible refine own3_drew ?_ | with_reducible refine own2_alloc (by first | omega | (simp; omega)) ?_ | with_reducible refine own3_alloc (by first | omega | (simp; omega)) ?_ | with_reducible refine cell_set ?_ (by omega) | with_reducible exact Ext.trans' (by assumption) (by assumption) | with_reducible exact At.ext (by assumption) (by assumption) (by simp) | with_reducible exact Ext.cell (by assumption) (by assumption) | exact (Own.ext (by assumption) ⟨by assumption, by assumption, by assumption⟩ (by simp)).1 | exact (Own.ext (by assumption) ⟨by assumption, by assumption, by assumption⟩ (by simp)).2.1 | exact (Own.ext (by assumption) ⟨by assumption, by assumption, by assumption⟩ (by simp)).2.2)))); (try simp only [Act.put, List.setIfInBounds_toArray, List.set_cons_zero, List.set_cons_succ])
                  refine consL (i := 9) (by kernel_rfl) rfl (fun K hK => ?_); go_simp; refine hK.out _ _ ?_ (fun hHeld => ?_); rotate_left; clear hK K; rotate_right; (focus ((try dsimp only); (go_split_ands; repeat' (first | with_reducible assumption | with_reducible apply And.intro | with_reducible exact Ext.refl _ | with_reducible refine Ext.setCell ?_ (by simp; omega) _ | with_reducible refine Ext.setCell ?_ (by simp) _ | with_reducible refine At.set ?_ (by omega) | with_reducible refine own1_set ?_ | with_reducible refine own2_set ?_ | with_reducible refine own3_set ?_ (by simp) | with_reducible refine Ext.drew ?_ | with_reducible refine At.drew ?_ | with_reducible refine own1_drew ?_ | with_reducible refine Ext.alloc ?_ _ | with_reducible refine At.alloc ?_ (by simp) | with_reducible refine own1_alloc ?_ | with_reducible refine cell_alloc ?_ | with_reducible refine cell_drew ?_ | with_reducible refine own2_drew ?_ | with_reducible refine own3_drew ?_ | with_reducible refine own2_alloc (by first | omega | (simp; omega)) ?_ | with_reducible refine own3_alloc (by first | omega | (simp; omega)) ?_ | with_reducible refine cell_set ?_ (by omega) | with_reducible exact Ext.trans' (by assumption) (by assumption) | with_reducible exact At.ext (by assumption) (by assumption) (by simp) | with_reducible exact Ext.cell (by assumption) (by assumption) | exact (Own.ext (by assumption) ⟨by assumption, by assumption, by assumption⟩ (by simp)).1 | exact (Own.ext (by assumption) ⟨by assumption, by assumption, by assumption⟩ (by simp)).2.1 | exact (Own.ext (by assumption) ⟨by assumption, by assumption, by assumption⟩ (by simp)).2.2)))); (try simp only [Act.put, List.setIfInBounds_toArray, List.set_cons_zero, List.set_cons_succ])
                  refine doneL (by kernel_rfl) ?_
                  go_wp2_with fail
                  go_meet
                  exact ⟨_, f, rfl, rfl, And.left hHeld, At.mk4 (putF_cells OG f), hf.keep (IK.putF OG f)⟩
              · skip
                go_simp; refine hK.out _ _ ?_ (fun hHeld => ?_); rotate_left; clear hK K; rotate_right; (focus ((try dsimp only); (go_split_ands; repeat' (first | with_reducible assumption | with_reducible apply And.intro | with_reducible exact Ext.refl _ | with_reducible refine Ext.setCell ?_ (by simp; omega) _ | with_reducible refine Ext.setCell ?_ (by simp) _ | with_reducible refine At.set ?_ (by omega) | with_reducible refine own1_set ?_ | with_reducible refine own2_set ?_ | with_reducible refine own3_set ?_ (by simp) | with_reducible refine Ext.drew ?_ | with_reducible refine At.drew ?_ | with_reducible refine own1_drew ?_ | with_reducible refine Ext.alloc ?_ _ | with_reducible refine At.alloc ?_ (by simp) | with_reducible refine own1_alloc ?_ | with_reducible refine cell_alloc ?_ | with_reducible refine cell_drew ?_ | with_reducible refine own2_drew ?_ | with_reducible refine own3_drew ?_ | with_reducible refine own2_alloc (by first | omega | (simp; omega)) ?_ | with_reducible refine own3_alloc (by first | omega | (simp; omega)) ?_ | with_reducible refine cell_set ?_ (by omega) | with_reducible exact Ext.trans' (by assumption) (by assumption) | with_reducible exact At.ext (by assumption) (by assumption) (by simp) | with_reducible exact Ext.cell (by assumption) (by assumption) | exact (Own.ext (by assumption) ⟨by assumption, by assumption, by assumption⟩ (by simp)).1 | exact (Own.ext (by assumption) ⟨by assumption, by assumption, by assumption⟩ (by simp)).2.1 | exact (Own.ext (by assumption) ⟨by assumption, by assumption, by assumption⟩ (by simp)).2.2)))); (try simp only [Act.put, List.setIfInBounds_toArray, List.set_cons_zero, List.set_cons_succ])
                refine consL (i := 2) (by kernel_rfl) rfl (fun K hK => ?_)
                go_simp; go_at_call 28; refine (From_c S _ (by omega) (by omega)).mono ?_; rintro e w7 ⟨t1, rfl, ht1, hx1⟩; have HX1 := Lib.hid hx1; have sz := Ext.size hx1; (try simp only [World.size_alloc, World.size_drew] at sz); (first | (have OG := Own.ext hx1 ((Blk.at #[.bool false, .slice none 0 0, .bool false, .slice none 0 0] 53 rfl).own 4 (by simp) (noIntF _ _ _ _ _ _ _ _)) (by omega)) | (have OG := Own.ext hx1 OG (by omega)) | skip); (try simp only [World.size_alloc] at OG); go_wp2_with fail; refine hK.out _ _ ?_ (fun hHeld => ?_); rotate_left; clear hK K; rotate_right; (focus ((try dsimp only); (go_split_ands; repeat' (first | with_reducible assumption | with_reducible apply And.intro | with_reducible exact Ext.refl _ | with_reducible refine Ext.setCell ?_ (by simp; omega) _ | with_reducible refine Ext.setCell ?_ (by simp) _ | with_reducible refine At.set ?_ (by omega) | with_reducible refine own1_set ?_ | with_reducible refine own2_set ?_ | with_reducible refine own3_set ?_ (by simp) | with_reducible refine Ext.drew ?_ | with_reducible refine At.drew ?_ | with_reducible refine own1_drew ?_ | with_reducible refine Ext.alloc ?_ _ | with_reducible refine At.alloc ?_ (by simp) | with_reducible refine own1_alloc ?_ | with_reducible refine cell_alloc ?_ | with_reducible refine cell_drew ?_ | with_reducible refine own2_drew ?_ | with_reducible refine own3_drew ?_ | with_reducible refine own2_alloc (by first | omega | (simp; omega)) ?_ | with_reducible refine own3_alloc (by first | omega | (simp; omega)) ?_ | with_reducible refine cell_set ?_ (by omega) | with_reducible exact Ext.trans' (by assumption) (by assumption) | with_reducible exact At.ext (by assumption) (by assumption) (by simp) | with_reducible exact Ext.cell (by assumption) (by assumption) | exact (Own.ext (by assumption) ⟨by assumption, by assumption, by assumption⟩ (by simp)).1 | exact (Own.ext (by assumption) ⟨by assumption, by assumption, by assumption⟩ (by simp)).2.1 | exact (Own.ext (by assumption) ⟨by assumption, by assumption, by assumption⟩ (by simp)).2.2)))); (try simp only [Act.put, List.setIfInBounds_toArray, List.set_cons_zero, List.set_cons_succ])
                refine consL (i := 3) (by kernel_rfl) rfl (fun K hK => ?_)
                go_simp; go_at_call 29; refine (Make_c y t1 Y S _ (HY.out.keep (Ext.ik (And.left (by assumption)))) (by first | exact ht1 | exact ht1.keep ((Ext.refl _).alloc _).ik) hS1 hSb).mono ?_; rw [HN1.out.1, HN1.out.2]; rintro e w9 ⟨f, rfl, hf, hx7⟩; have HX7 := Lib.hid hx7; have sz := Ext.size hx7; (try simp only [World.size_alloc, World.size_drew] at sz); (first | (have OG := Own.ext hx7 ((Blk.at #[.bool false, .slice none 0 0, .bool false, .slice none 0 0] 53 rfl).own 4 (by simp) (noIntF _ _ _ _ _ _ _ _)) (by omega)) | (have OG := Own.ext hx7 OG (by omega)) | skip); (try simp only [World.size_alloc] at OG); go_wp2_with fail; refine hK.out _ _ ?_ (fun hHeld => ?_); rotate_left; clear hK K; rotate_right; (focus ((try dsimp only); (go_split_ands; repeat' (first | with_reducible assumption | with_reducible apply And.intro | with_reducible exact Ext.refl _ | with_reducible refine Ext.setCell ?_ (by simp; omega) _ | with_reducible refine Ext.setCell ?_ (by simp) _ | with_reducible refine At.set ?_ (by omega) | with_reducible refine own1_set ?_ | with_reducible refine own2_set ?_ | with_reducible refine own3_set ?_ (by simp) | with_reducible refine Ext.drew ?_ | with_reducible refine At.drew ?_ | with_reducible refine own1_drew ?_ | with_reducible refine Ext.alloc ?_ _ | with_reducible refine At.alloc ?_ (by simp) | with_reducible refine own1_alloc ?_ | with_reducible refine cell_alloc ?_ | with_reducible refine cell_drew ?_ | with_reducible refine own2_drew ?_ | with_reducible refine own3_drew ?_ | with_reducible refine own2_alloc (by first | omega | (simp; omega)) ?_ | with_reducible refine own3_alloc (by first | omega | (simp; omega)) ?_ | with_reducible refine cell_set ?_ (by omega) | with_reducible exact Ext.trans' (by assumption) (by assumption) | with_reducible exact At.ext (by assumption) (by assumption) (by simp) | with_reducible exact Ext.cell (by assumption) (by assumption) | exact (Own.ext (by assumption) ⟨by assumption, by assumption, by assumption⟩ (by simp)).1 | exact (Own.ext (by assumption) ⟨by assumption, by assumption, by assumption⟩ (by simp)).2.1 | exact (Own.ext (by assumption) ⟨by assumption, by assumption, by assumption⟩ (by simp)).2.2)))); (try simp only [Act.put, List.setIfInBounds_toArray, List.set_cons_zero, List.set_cons_succ])
                refine takeL (i := 4) (v := ?_) rfl (by kernel_rfl) (by kernel_rfl) (by kernel_rfl) (fun _ _ _ h => h) (Or.inl ⟨by rfl, ?_⟩) (by assumption) ?_; rotate_left; (focus (intro wq hSw; (try dsimp only at hSw); go_simp; try with_reducible rfl)); (try simp only [Act.put, List.setIfInBounds_toArray, List.set_cons_zero, List.set_cons_succ])
                refine takeL (i := 5) (v := ?_) rfl (by kernel_rfl) (by kernel_rfl) (by kernel_rfl) (fun _ _ _ h => h) (Or.inl ⟨by rfl, ?_⟩) (by assumption) ?_; rotate_left; (focus (intro wq hSw; (try dsimp only at hSw); go_simp; try with_reducible rfl)); (try simp only [Act.put, List.setIfInBounds_toArray, List.set_cons_zero, List.set_cons_succ])
                refine takeL (i := 6) (v := ?_) rfl (by kernel_rfl) (by kernel_rfl) (by kernel_rfl) (fun _ _ _ h => h) (Or.inl ⟨by rfl, ?_⟩) (by assumption) ?_; rotate_left; (focus (intro wq hSw; (try dsimp only at hSw); go_simp; try with_reducible rfl)); (try simp only [Act.put, List.setIfInBounds_toArray, List.set_cons_zero, List.set_cons_succ])
                refine consL (i := 8) (by kernel_rfl) rfl (fun K hK => ?_); go_simp; refine hK.out _ _ ?_ (fun hHeld => ?_); rotate_left; clear hK K; rotate_right; (focus ((try dsimp only); (go_split_ands; repeat' (first | with_reducible assumption | with_reducible apply And.intro | with_reducible exact Ext.refl _ | with_reducible refine Ext.setCell ?_ (by simp; omega) _ | with_reducible refine Ext.setCell ?_ (by simp) _ | with_reducible refine At.set ?_ (by omega) | with_reducible refine own1_set ?_ | with_reducible refine own2_set ?_ | with_reducible refine own3_set ?_ (by simp) | with_reducible refine Ext.drew ?_ | with_reducible refine At.drew ?_ | with_reducible refine own1_drew ?_ | with_reducible refine Ext.alloc ?_ _ | with_reducible refine At.alloc ?_ (by simp) | with_reducible refine own1_alloc ?_ | with_reducible refine cell_alloc ?_ | with_reducible refine cell_drew ?_ | with_reducible refine own2_drew ?_ | with_reducible refine own3_drew ?_ | with_reducible refine own2_alloc (by first | omega | (simp; omega)) ?_ | with_reducible refine own3_alloc (by first | omega | (simp; omega)) ?_ | with_reducible refine cell_set ?_ (by omega) | with_reducible exact Ext.trans' (by assumption) (by assumption) | with_reducible exact At.ext (by assumption) (by assumption) (by simp) | with_reducible exact Ext.cell (by assumption) (by assumption) | exact (Own.ext (by assumption) ⟨by assumption, by assumption, by assumption⟩ (by simp)).1 | exact (Own.ext (by assumption) ⟨by assumption, by assumption, by assumption⟩ (by simp)).2.1 | exact (Own.ext (by assumption) ⟨by assumption, by assumption, by assumption⟩ (by simp)).2.2)))); (try simp only [Act.put, List.setIfInBounds_toArray, List.set_cons_zero, List.set_cons_succ])
                refine consL (i := 9) (by kernel_rfl) rfl (fun K hK => ?_); go_simp; refine hK.out _ _ ?_ (fun hHeld => ?_); rotate_left; clear hK K; rotate_right; (focus ((try dsimp only); (go_split_ands; repeat' (first | with_reducible assumption | with_reducible apply And.intro | with_reducible exact Ext.refl _ | with_reducible refine Ext.setCell ?_ (by simp; omega) _ | with_reducible refine Ext.setCell ?_ (by simp) _ | with_reducible refine At.set ?_ (by omega) | with_reducible refine own1_set ?_ | with_reducible refine own2_set ?_ | with_reducible refine own3_set ?_ (by simp) | with_reducible refine Ext.drew ?_ | with_reducible refine At.drew ?_ | with_reducible refine own1_drew ?_ | with_reducible refine Ext.alloc ?_ _ | with_reducible refine At.alloc ?_ (by simp) | with_reducible refine own1_alloc ?_ | with_reducible refine cell_alloc ?_ | with_reducible refine cell_drew ?_ | with_reducible refine own2_drew ?_ | with_reducible refine own3_drew ?_ | with_reducible refine own2_alloc (by first | omega | (simp; omega)) ?_ | with_reducible refine own3_alloc (by first | omega | (simp; omega)) ?_ | with_reducible refine cell_set ?_ (by omega) | with_reducible exact Ext.trans' (by assumption) (by assumption) | with_reducible exact At.ext (by assumption) (by assumption) (by simp) | with_reducible exact Ext.cell (by assumption) (by assumption) | exact (Own.ext (by assumption) ⟨by assumption, by assumption, by assumption⟩ (by simp)).1 | exact (Own.ext (by assumption) ⟨by assumption, by assumption, by assumption⟩ (by simp)).2.1 | exact (Own.ext (by assumption) ⟨by assumption, by assumption, by assumption⟩ (by simp)).2.2)))); (try simp only [Act.put, List.setIfInBounds_toArray, List.set_cons_zero, List.set_cons_succ])
                refine doneL (by kernel_rfl) ?_
                go_wp2_with fail
                go_meet
                exact ⟨_, f, rfl, rfl, And.left hHeld, At.mk4 (putF_cells OG f), hf.keep (IK.putF OG f)⟩
            case rest =>
              obtain ⟨H2, fq, rfl, rfl, E8, AQ, hfq⟩ := hcut
              have hE78 := HE7.out.trans E8
              have ca : wc.cell? ⟨ga, i, none⟩ = some (.int .i64 p) := hE78.cell (by rw [HWE.out]; exact CA.out)
              have HFQ := Lib.hid (And.intro hfq AQ)
              have HE78 := Lib.hid hE78
              have lQ := AQ.lt (by simp)
              have lga := lt_of_cell ca
              clear hfq AQ E8 hE78
              go_wp2_with fail
              refine (Of_c p 1 _ (by omega) (by omega) (by omega) (by rw [B32_eq]; decide)).mono ?_
              rw [gcdI_one_right, Int.ediv_one, Int.ediv_one]
              rintro e w9 ⟨f3, rfl, hf3, hx9⟩
              go_upto_region 16 with (fail)
              obtain ⟨G3, hG3⟩ : ∃ G, w9.heap.size = G := ⟨_, rfl⟩
              refine wp_gen (fun W => Ext wc W ∧ At W G3 #[.bool f3.n.neg, .slice f3.n.a f3.n.n f3.n.c, .bool f3.d.neg, .slice f3.d.a f3.d.n f3.d.c] ∧ IsF W f3 p 1) ⟨hx9.alloc _, (Blk.at _ 53 hG3.symm).at', hf3.keep ((Ext.refl _).alloc _).ik⟩ ?_
              try rw [hG3]
              clear hx9 hf3 hG3 ca
              rintro V1 ⟨E9, A3, hf3⟩
              have HF3 := Lib.hid (And.intro hf3 (And.intro E9 A3))
              have AQ := At.ext E9 HFQ.out.2 (by simp)
              have c30 := A3 0 (by simp)
              have c31 := A3 1 (by simp)
              have c32 := A3 2 (by simp)
              have c33 := A3 3 (by simp)
              have cq0 := AQ 0 (by simp)
              have cq1 := AQ 1 (by simp)
              have cq2 := AQ 2 (by simp)
              have cq3 := AQ 3 (by simp)
              simp at c30 c31 c32 c33 cq0 cq1 cq2 cq3
              have l3 := A3.lt (by simp)
              have lQ2 := AQ.lt (by simp)
              have L1 := HLOW1.out
              have hN1 := L1.nle
              have hD1 := L1.le
              have hD1p := L1.pos
              have hpD : (p * D1).natAbs ≤ 1099511627776 * 10485760 := by
                rw [Int.natAbs_mul]
                exact Nat.mul_le_mul (by omega) (by omega)
              have hB1 : Big (p * D1) := big_of (by omega) (by omega)
              have hB2 : Big (-N1 * 1) := big_of (by omega) (by omega)
              have hB3 : Big (p * D1 + -N1 * 1) := big_of (by omega) (by omega)
              have HBB := Lib.hid (And.intro hB1 (And.intro hB2 hB3))
              have hql := quota_law (p := p) (Y := Y) (S := S) (N1 := N1) (D1 := D1) hS1 L1.eq hD1p hnear.1 hnear.2 (low_of (p * D1 + -N1 * 1) D1 hD1p).eq (low_of (p * D1 + -N1 * 1) D1 hD1p).pos
              have hD3 := (low_of (p * D1 + -N1 * 1) D1 hD1p).le
              have hD3p := (low_of (p * D1 + -N1 * 1) D1 hD1p).pos
              obtain ⟨N3, hN3⟩ : ∃ z, (p * D1 + -N1 * 1) / gcdI (p * D1 + -N1 * 1) D1 = z := ⟨_, rfl⟩
              obtain ⟨D3, hD3e⟩ : ∃ z, D1 / gcdI (p * D1 + -N1 * 1) D1 = z := ⟨_, rfl⟩
              rw [hN3, hD3e] at hql
              rw [hD3e] at hD3 hD3p
              have HND := Lib.hid (And.intro hN3 hD3e)
              have k1 : cmpI (N3 * 1) (1 * D3) = -1 := by unfold cmpI; rw [if_pos (by omega)]
              have k2 : cmpI (N3 * 1) (-1 * D3) = 1 := by unfold cmpI; rw [if_neg (by omega), if_pos (by omega)]
              have K1 := Lib.hid k1; have K2 := Lib.hid k2
              have hD3b : D3.natAbs < B32 := by rw [B32_eq]; omega
              have hD1b : D1.natAbs < B32 := by rw [B32_eq]; omega
              have HDB := Lib.hid (And.intro hD3b hD1b)
              clear L1 hN1 hD1 hpD hB1 hB2 hB3 hql hN3 hD3e k1 k2 A3 AQ hf3 E9 hnear hD3b hD1b hD3 hD3p hD1p
              go_wp2_with fail
              refine (fSub1_c f3 fq p N1 D1 _ HF3.out.1 (HFQ.out.1.keep HF3.out.2.1.ik) HDB.out.2 HBB.out.1 HBB.out.2.1 HBB.out.2.2).mono ?_
              rw [HND.out.1, HND.out.2]
              rintro e w10 ⟨f4, rfl, hf4, hx10⟩
              clear c30 c31 c32 c33 cq0 cq1 cq2 cq3
              go_upto_region 17 with (fail)
              obtain ⟨G4, hG4⟩ : ∃ G, w10.heap.size = G := ⟨_, rfl⟩
              refine wp_gen (fun W => Ext wc W ∧ At W G4 #[.bool f4.n.neg, .slice f4.n.a f4.n.n f4.n.c, .bool f4.d.neg, .slice f4.d.a f4.d.n f4.d.c] ∧ IsF W f4 N3 D3) ⟨(HF3.out.2.1.trans hx10).alloc _, (Blk.at _ 53 hG4.symm).at', hf4.keep ((Ext.refl _).alloc _).ik⟩ ?_
              try rw [hG4]
              clear hx10 hf4 hG4 HF3
              rintro V2 ⟨E10, A4, hf4⟩
              have l4 := A4.lt (by simp)
              have HF4 := Lib.hid (And.intro hf4 (And.intro E10 A4))
              clear hf4 E10 A4
              go_wp2_with fail
              refine (Of_c 1 1 _ (by omega) (by omega) (by omega) (by rw [B32_eq]; decide)).mono ?_
              rw [gcdI_one_right, Int.ediv_one]
              rintro e w11 ⟨f5, rfl, hf5, hx11⟩
              go_upto_region 18 with (fail)
              obtain ⟨G5, hG5⟩ : ∃ G, w11.heap.size = G := ⟨_, rfl⟩
              refine wp_gen (fun W => Ext wc W ∧ At W G4 #[.bool f4.n.neg, .slice f4.n.a f4.n.n f4.n.c, .bool f4.d.neg, .slice f4.d.a f4.d.n f4.d.c] ∧ IsF W f4 N3 D3 ∧ At W G5 #[.bool f5.n.neg, .slice f5.n.a f5.n.n f5.n.c, .bool f5.d.neg, .slice f5.d.a f5.d.n f5.d.c] ∧ IsF W f5 1 1) ⟨(HF4.out.2.1.trans hx11).alloc _, At.alloc (At.ext hx11 HF4.out.2.2 (by simp)) (by simp), HF4.out.1.keep (hx11.alloc _).ik, (Blk.at _ 53 hG5.symm).at', hf5.keep ((Ext.refl _).alloc _).ik⟩ ?_
              try rw [hG5]
              clear hx11 hf5 hG5 HF4
              rintro V3 ⟨E11, A4, hf4, A5, hf5⟩
              have l5 := A5.lt (by simp)
              have HF5 := Lib.hid (And.intro E11 (And.intro A4 (And.intro hf4 (And.intro A5 hf5))))
              clear hf4 E11 A4 A5 hf5
              go_wp2_with fail
              refine (Of_c (-1) 1 _ (by omega) (by omega) (by omega) (by rw [B32_eq]; decide)).mono ?_
              rw [gcdI_one_right, Int.ediv_one, Int.ediv_one]
              rintro e w12 ⟨f6, rfl, hf6, hx12⟩
              go_upto_region 19 with (fail)
              obtain ⟨G6, hG6⟩ : ∃ G, w12.heap.size = G := ⟨_, rfl⟩
              have HF6 := Lib.hid (And.intro (HF5.out.1.trans (hx12.alloc (.cells #[.bool f6.n.neg, .slice f6.n.a f6.n.n f6.n.c, .bool f6.d.neg, .slice f6.d.a f6.d.n f6.d.c] 53))) (And.intro (At.alloc (o := .cells #[.bool f6.n.neg, .slice f6.n.a f6.n.n f6.n.c, .bool f6.d.neg, .slice f6.d.a f6.d.n f6.d.c] 53) (At.ext hx12 HF5.out.2.1 (by simp)) (by simp)) (And.intro (At.alloc (o := .cells #[.bool f6.n.neg, .slice f6.n.a f6.n.n f6.n.c, .bool f6.d.neg, .slice f6.d.a f6.d.n f6.d.c] 53) (At.ext hx12 HF5.out.2.2.2.1 (by simp)) (by simp)) (And.intro (Blk.at (w := w12) #[.bool f6.n.neg, .slice f6.n.a f6.n.n f6.n.c, .bool f6.d.neg, .slice f6.d.a f6.d.n f6.d.c] 53 hG6.symm).at'
                (And.intro (HF5.out.2.2.1.keep (hx12.alloc (.cells #[.bool f6.n.neg, .slice f6.n.a f6.n.n f6.n.c, .bool f6.d.neg, .slice f6.d.a f6.d.n f6.d.c] 53)).ik) (And.intro (HF5.out.2.2.2.2.keep (hx12.alloc (.cells #[.bool f6.n.neg, .slice f6.n.a f6.n.n f6.n.c, .bool f6.d.neg, .slice f6.d.a f6.d.n f6.d.c] 53)).ik) (hf6.keep ((Ext.refl w12).alloc (.cells #[.bool f6.n.neg, .slice f6.n.a f6.n.n f6.n.c, .bool f6.d.neg, .slice f6.d.a f6.d.n f6.d.c] 53)).ik)))))))
              refine wp_gen (fun W => Ext wc W ∧ At W G4 #[.bool f4.n.neg, .slice f4.n.a f4.n.n f4.n.c, .bool f4.d.neg, .slice f4.d.a f4.d.n f4.d.c] ∧ At W G5 #[.bool f5.n.neg, .slice f5.n.a f5.n.n f5.n.c, .bool f5.d.neg, .slice f5.d.a f5.d.n f5.d.c] ∧ At W G6 #[.bool f6.n.neg, .slice f6.n.a f6.n.n f6.n.c, .bool f6.d.neg, .slice f6.d.a f6.d.n f6.d.c] ∧ IsF W f4 N3 D3 ∧ IsF W f5 1 1 ∧ IsF W f6 (-1) 1) HF6.out ?_
              try rw [hG6]
              clear hx12 hf6 hG6 HF5 HF6
              rintro V4 ⟨E12, A4, A5, A6, hf4, hf5, hf6⟩
              have c40 := A4 0 (by simp)
              have c41 := A4 1 (by simp)
              have c42 := A4 2 (by simp)
              have c43 := A4 3 (by simp)
              have c50 := A5 0 (by simp)
              have c51 := A5 1 (by simp)
              have c52 := A5 2 (by simp)
              have c53 := A5 3 (by simp)
              have c60 := A6 0 (by simp)
              have c61 := A6 1 (by simp)
              have c62 := A6 2 (by simp)
              have c63 := A6 3 (by simp)
              simp at c40 c41 c42 c43 c50 c51 c52 c53 c60 c61 c62 c63
              have l4 := A4.lt (by simp)
              have l5 := A5.lt (by simp)
              have l6 := A6.lt (by simp)
              have HF7 := Lib.hid (And.intro E12 (And.intro hf4 (And.intro hf5 hf6)))
              clear A4 A5 A6 E12 hf4 hf5 hf6
              go_wp2_with fail
              refine (fCompare_c f4 f5 N3 D3 1 1 _ HF7.out.2.1 HF7.out.2.2.1 HDB.out.1 (by rw [B32_eq]; decide)).mono ?_
              rw [K1.out]
              rintro e w13 ⟨rfl, hx13⟩
              have d40 := hx13.cell c40
              have d41 := hx13.cell c41
              have d42 := hx13.cell c42
              have d43 := hx13.cell c43
              have d60 := hx13.cell c60
              have d61 := hx13.cell c61
              have d62 := hx13.cell c62
              have d63 := hx13.cell c63
              have HX13 := Lib.hid hx13
              have l413 := lt_of_cell d40
              have l613 := lt_of_cell d60
              clear c40 c41 c42 c43 c50 c51 c52 c53 c60 c61 c62 c63 hx13
              go_wp2_with fail
              refine (fCompare_c f4 f6 N3 D3 (-1) 1 _ (HF7.out.2.1.keep HX13.out.ik) (HF7.out.2.2.2.keep HX13.out.ik) HDB.out.1 (by rw [B32_eq]; decide)).mono ?_
              rw [K2.out]
              rintro e w14 ⟨rfl, hx14⟩
              have hE9 : Ext w6 w14 := HE6.out.trans (Ext.trans (by rw [← HWE.out]; exact HE78.out) (HF7.out.1.trans (HX13.out.trans hx14)))
              have HE9 := Lib.hid hE9
              clear d40 d41 d42 d43 d60 d61 d62 d63 hx14 hE9
              go_wp2_with fail
              go_loopw [24] (fun v ws => ∃ m : Nat, i + 1 ≤ m ∧ m ≤ T ∧ v = .int .i64 (m : Int) ∧ Ext w14 ws) (fun v _ => T - (intOf v).toNat)
              case atStart => exact ⟨i + 1, Nat.le_refl _, by omega, by go_num, Ext.refl _⟩
              case round =>
                obtain ⟨m, hm1, hm2, rfl, hEm⟩ := hrel
                have hE10 := HE9.out.trans hEm
                by_cases hmlt : m < T
                · have s1 : (m : Int) < (T : Int) := by omega
                  have s2 : (0 : Int) ≤ (m : Int) := by omega
                  have hEr := HX6.out.1.trans hE10
                  obtain ⟨b, off, he, hb3, cw1⟩ := (HST.out.2.2.keep hEr.ik).at i hlt
                  injection he with he; injection he with e1 e2
                  subst e1; subst e2
                  obtain ⟨b, off, he, hb4, cw2⟩ := (HST.out.2.2.keep hEr.ik).at m hmlt
                  injection he with he; injection he with e1 e2
                  subst e1; subst e2
                  obtain ⟨b, off, he, hb5, ca1⟩ := (HX6.out.2.keep hE10.ik).at i hlt
                  injection he with he; injection he with e1 e2
                  subst e1; subst e2
                  obtain ⟨b, off, he, hb6, ca2⟩ := (HX6.out.2.keep hE10.ik).at m hmlt
                  injection he with he; injection he with e1 e2
                  subst e1; subst e2
                  rw [Nat.zero_add] at cw1 cw2 ca1 ca2
                  have heq := HEQ.out i m (by omega) hmlt
                  have hp2b := HAB.out m
                  rw [HXI.out] at cw1 heq
                  rw [HPI.out] at ca1 heq
                  obtain ⟨x2, hx2⟩ : ∃ z, W.getD m 0 = z := ⟨_, rfl⟩
                  obtain ⟨p2, hp2⟩ : ∃ z, A.getD m 0 = z := ⟨_, rfl⟩
                  rw [hx2] at cw2 heq
                  rw [hp2] at ca2 hp2b heq
                  have HEM := Lib.hid hEm
                  clear hEm hE10 hEr hx2 hp2 hb hb2
                  by_cases hxx : x = x2
                  · subst hxx
                    obtain ⟨v1, v2⟩ := heq rfl
                    clear heq
                    go_upto_region 24 with (fail)
                    go_quiet (fail)
                    have ew : IntKind.i64.wrap (p2 + 1) = p2 + 1 := by unfold IntKind.wrap; simp [IntKind.signed, IntKind.bits]; omega
                    go_wp2_with fail
                    go_roundw
                    case rel => exact ⟨m + 1, by omega, by omega, by go_num, HEM.out.drewN _⟩
                    case measure => simp [intOf] <;> omega
                  · have hne : (x == x2) = false := by rw [beq_eq_false_iff_ne]; exact hxx
                    clear heq
                    go_upto_region 24 with (fail)
                    go_quiet (fail)
                    go_wp2_with fail
                    go_roundw
                    case rel => exact ⟨m + 1, by omega, by omega, by go_num, HEM.out.drewN _⟩
                    case measure => simp [intOf] <;> omega
                · obtain rfl : m = T := by omega
                  have HEM := Lib.hid hE10
                  clear hE10 hEm
                  go_wp2_with fail
                  go_roundw
                  case rel => exact ⟨i + 1, by omega, by go_num, HEM.out⟩
                  case measure => simp [intOf] <;> omega
        · obtain rfl : i = T := by omega
          have HEE := Lib.hid (HX6.out.1.trans hE6)
          go_wp2_with fail
          go_roundw
          case rel => exact ⟨k + 1, by omega, by go_num, HEE.out⟩
          case measure => simp [intOf]; omega
    · obtain rfl : k = 2 := by omega
      go_wp2_with fail
      refine (lives27_c _).mono ?_
      rintro e w6 ⟨rfl, hx⟩
      have HX := Lib.hid ((HST.out.1.trans HE.out).trans hx); clear hx
      go_wp2_with fail
      go_ret
      exact ⟨rfl, HX.out⟩
end Go.Proofs.Ytlnmgcmpbbklhaa
