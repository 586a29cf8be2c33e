/- meresmanlaw27: ShareEven: the walk. -/
import Derived.Test.YtlnmgcmpbbklhaaL27m
namespace Go.Proofs.Ytlnmgcmpbbklhaa
open Go.RowKit

set_option maxRecDepth 100000 in
set_option maxHeartbeats 4000000 in
theorem walkEven (a0 : Option Addr) (n c : Nat) (zs : List Int) (a1 : Int) (w : World) (h0 : Ints w a0 n zs) (h1 : Int64 a1) :
    Calls Try.prog 6 #[.slice a0 n c, .int .i64 a1] w fun e w' => e = .returned (.bool true) ∧ Ext w w' := by
  obtain ⟨i0, hi0, hz0, hz1, hz2⟩ := info_parts intInfo
  have H0 := Lib.hid h0; have H1 := Lib.hid h1; clear h0 h1
  go_enter Try.func6, Try.ntmps6
  go_wp2_with fail
  refine (weights_c a0 n c zs 9 _ H0.out (by omega)).mono ?_
  rintro e w1 ⟨v, rfl, hV, hE⟩
  have hwl := weightsF_length zs 9
  have hbd := lawW_bd (zs := zs) (k := 9) (x := 2) (by omega) (by omega)
  have hln := lawW_length zs 9 2
  have hsm := lawW_sum (zs := zs) (k := 9) (x := 2) (by omega) (by omega)
  have hWe : lawW zs 9 2 = weightsF zs 9 ++ [2] := rfl
  obtain ⟨tl, htl⟩ : ∃ tl, (weightsF zs 9).length = tl := ⟨_, rfl⟩
  rw [htl] at hwl
  have htl2 : tl ≤ 9 := by omega
  have hsz := hE.size
  generalize weightsF zs 9 = P at *
  generalize lawW zs 9 2 = L at *
  have HV := Lib.hid (show VRow w1 w.heap.size v P from hV)
  have hOW : w1.ownsRow w.heap.size 3 1 v tl (ivals P) := by rw [← htl]; exact hV
  have HOW := Lib.hid hOW; have HTL := Lib.hid htl; have HE := Lib.hid hE; have HBD := Lib.hid hbd; have HWE := Lib.hid hWe
  have hLl : L.length = tl + 1 := by rw [hWe, List.length_append, htl]; rfl
  have HLL := Lib.hid hLl
  have HSM := Lib.hid hsm
  clear hV hE hwl hbd hOW htl hWe hLl hsm hln
  go_wp2_with (at_builtin; refine wpList_append_lies _ rfl _ _ _ rfl w.heap.size 3 i0 _ 1 8 Try.underlying22 hi0 hz0 hz1 hz2 rfl (by omega) _ tl _ rfl (owns_ext ((Ext.refl w1).alloc _) HOW.out) ⟨w1.heap.size, 0, none⟩ 1 1 (ivals [2]) rfl rfl (ints_news (ints_one w1 2 ⟨by omega, by omega⟩) (by omega)) (ivals_one _) (by omega) (by rw [maxLen]; omega) (by omega) (by simp; omega) _ rfl ?_)
  intro g cap w2 hown hgrow hat hlt1
  rw [← HTL.out] at hown
  have hA := VRow.app (m := 1) (k := [2]) rfl hown
  rw [← HWE.out, HTL.out, ← HLL.out] at hA
  have hE2 : Ext w w2 := ext_grown (HE.out.alloc _) hgrow (fun g hg => (owns_lt HOW.out hg).1)
  have hI := owned_ints (w := w) (Nat.zero_le _) (VRow.base hA (Nat.zero_le _)) (by rw [HLL.out]; omega) HBD.out
  rw [HLL.out] at hI
  have HI := Lib.hid hI; have HE2 := Lib.hid hE2
  clear hown hgrow hat hA hE2 hI
  have hk := aroundF_bd a1 2000 (by omega)
  obtain ⟨k, hkk⟩ : ∃ k : Nat, aroundF a1 2000 = k := ⟨(aroundF a1 2000).toNat, by omega⟩
  rw [hkk] at hk
  have HK := Lib.hid hkk; clear hkk
  obtain ⟨hk1, hk2⟩ := hk
  go_wp2_with fail
  refine (around_c a1 2000 _ (by omega) (by omega) H1.out).mono ?_
  rw [HK.out]
  rintro e w3 ⟨rfl, rfl⟩
  go_wp2_with fail
  refine (Highest_c k _ (tl + 1) cap L _ HI.out (by omega)).mono ?_
  intro e w4 hd
  obtain ⟨hx, ga, rfl, hga, hra⟩ := hd.ok (highErr_zero HBD.out (by rw [HLL.out]; omega) (by omega) (by omega) (fun _ => by have := HSM.out; omega))
  rw [Int.toNat_natCast] at hra
  have HRA := Lib.hid hra; have HX4 := Lib.hid hx
  clear hd hx hra
  have hhl := highN_length L k
  have hhb := high_bd L (by rw [HLL.out]; omega) k
  have hev := highN_even L (fun i => by
    by_cases hi : i < L.length
    · exact (HBD.out _ (getD_mem hi)).1
    · rw [List.getD_eq_getElem?_getD, List.getElem?_eq_none (by omega)]; simp) k
  have hsum := highN_sum L (by rw [HLL.out]; omega) k
  rw [HLL.out] at hhl hev
  have HI4 := Lib.hid (HI.out.keep HX4.out.ik)
  have HE4 := Lib.hid (HE2.out.trans HX4.out)
  generalize highN L k = o at *
  have HEV := Lib.hid hev; have HHL := Lib.hid hhl; have HHB := Lib.hid hhb; have HSU := Lib.hid hsum
  have hpb : ∀ i, Int64 (sumI (o.take i)) := fun i => parts_bd (fun x hx => by
    obtain ⟨j, hj, rfl⟩ := mem_getD hx
    have := HHB.out j; omega) (by rw [HHL.out]; omega) i
  have HPB := Lib.hid hpb
  have hoi : Ints w4 (some ⟨ga, 0, none⟩) (tl + 1) o := HRA.out.ints hhl (by omega) (fun i hi => by have := HHB.out i; exact ⟨by omega, by omega⟩)
  have HOI := Lib.hid hoi
  clear hev hhl hhb hsum hpb hoi HX4 HE2 HI
  go_wp2_with fail
  refine (rsum_c _ _ _ o _ HOI.out HPB.out).mono ?_
  rw [HSU.out]
  rintro e w5 ⟨rfl, hx⟩
  have HST := Lib.hid (And.intro (HE4.out.trans hx) (And.intro (HI4.out.keep hx.ik) (HRA.out.ext hx)))
  clear hx HE4 HI4 HRA HOI
  go_wp2_with fail
  go_loopw [9] (fun v ws => ∃ i : Nat, i ≤ tl + 1 ∧ v = .int .i64 (i : Int) ∧ Ext w ws ∧ Ints ws (some ⟨g, 0, none⟩) (tl + 1) L ∧ IRow ws ga o) (fun v _ => tl + 1 - (intOf v).toNat)
  case atStart => exact ⟨0, by omega, rfl, HST.out⟩
  case round =>
    obtain ⟨i, hi, rfl, hS⟩ := hrel
    have HS := Lib.hid hS; clear hS HST
    by_cases hlt : i < tl + 1
    · have t0 : (i : Int) < (tl : Int) + 1 := by omega
      have t1 : (0 : Int) ≤ (i : Int) := by omega
      go_wp2_with fail
      go_loopw [10] (fun v ws => ∃ j : Nat, j ≤ tl + 1 ∧ v = .int .i64 (j : Int) ∧ Ext w ws ∧ Ints ws (some ⟨g, 0, none⟩) (tl + 1) L ∧ IRow ws ga o) (fun v _ => tl + 1 - (intOf v).toNat)
      case atStart => exact ⟨0, by omega, rfl, HS.out⟩
      case round =>
        obtain ⟨j, hj, rfl, hE, hIn, hra⟩ := hrel
        by_cases hlt2 : j < tl + 1
        · have t2 : (j : Int) < (tl : Int) + 1 := by omega
          have t3 : (0 : Int) ≤ (j : Int) := by omega
          obtain ⟨b1, o1, he1, hb1, hc1⟩ := Ints.at hIn i hlt
          injection he1 with he1; injection he1 with ea eb
          subst ea; subst eb
          obtain ⟨b2, o2, he2, _, hc2⟩ := Ints.at hIn j hlt2
          injection he2 with he2; injection he2 with ea eb
          subst ea; subst eb
          have c1 := IRow.cell hra i (by rw [HHL.out]; exact hlt)
          have c2 := IRow.cell hra j (by rw [HHL.out]; exact hlt2)
          have l2 := hra.lt
          have hx := HBD.out _ (getD_mem (l := L) (i := i) (by rw [HLL.out]; exact hlt))
          have hy := HBD.out _ (getD_mem (l := L) (i := j) (by rw [HLL.out]; exact hlt2))
          have hp := HHB.out i
          have hq := HHB.out j
          have hev := HEV.out i j hlt hlt2
          rw [Nat.zero_add] at hc1 hc2
          have HR := Lib.hid (And.intro hE (And.intro hIn hra)); clear hE hIn hra
          generalize o.getD i 0 = p at *
          generalize o.getD j 0 = q at *
          generalize L.getD i 0 = x at *
          generalize L.getD j 0 = y at *
          by_cases hp0 : 0 < p
          · have hev := hev hp0
            have p1 : 0 ≤ (2 * p - 1) * y := Int.mul_nonneg (by omega) hy.1
            have p2 := (part_bd hx.1 hx.2 hq.1 (by omega)).2
            rw [Int.mul_comm] at p2
            have p3 : 0 ≤ (2 * q + 1) * x := Int.mul_nonneg (by omega) hx.1
            have p4 : (2 * p - 1) * y ≤ 8590983168 := by omega
            go_wp2_with fail
            go_quiet (fail)
            go_wp2_with fail
            go_roundw
            case rel => exact ⟨j + 1, by omega, by go_num, HR.out.1.drewN _, HR.out.2.1, HR.out.2.2⟩
            case measure => simp [intOf]; omega
          · have hp1 : p = 0 := by omega
            subst hp1
            clear hev hp0 hp
            go_wp2_with fail
            go_quiet (fail)
            go_wp2_with fail
            go_roundw
            case rel => exact ⟨j + 1, by omega, by go_num, HR.out.1.drewN _, HR.out.2.1, HR.out.2.2⟩
            case measure => simp [intOf]; omega
        · obtain rfl : j = tl + 1 := by omega
          have HR := Lib.hid (And.intro hE (And.intro hIn hra)); clear hE hIn hra
          go_wp2_with fail
          go_roundw
          case rel => exact ⟨i + 1, by omega, by go_num, HR.out⟩
          case measure => simp [intOf]; omega
    · obtain rfl : i = tl + 1 := by omega
      go_wp2_with fail
      refine (lives27_c _).mono ?_
      rintro e w9 ⟨rfl, hx⟩
      have HX := Lib.hid (HS.out.1.trans hx); clear hx
      go_wp2_with fail
      go_ret
      exact ⟨rfl, HX.out⟩
end Go.Proofs.Ytlnmgcmpbbklhaa
