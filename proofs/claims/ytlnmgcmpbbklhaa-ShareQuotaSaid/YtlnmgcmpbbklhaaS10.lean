/- meresmanref27: Sum, Error, Quota; meresmanref01: SameInts. -/
import Derived.Test.YtlnmgcmpbbklhaaS09
namespace Go.Proofs.Ytlnmgcmpbbklhaa
set_option linter.unusedSimpArgs false
set_option linter.unusedVariables false
open Go.RowKit

set_option maxHeartbeats 1000000 in
theorem rsum_c (a : Option Addr) (n c : Nat) (zs : List Int) (w : World) (h : Ints w a n zs) (hb : ∀ i, Int64 (sumI (zs.take i))) :
    Calls Try.prog 21 #[.slice a n c] w fun e w' => e = .returned (.int .i64 (sumI zs)) ∧ Ext w w' := by
  have H := Lib.hid h; have HB := Lib.hid hb; have hn := h.2.1; clear h hb
  go_enter Try.func21, Try.ntmps21
  go_wp2_with fail
  go_loopw [3, 4] (fun s v ws => ∃ i : Nat, i ≤ n ∧ v = .int .i64 (i : Int) ∧ s = .int .i64 (sumI (zs.take i)) ∧ Ext w ws) (fun _ v _ => n - (intOf v).toNat)
  case atStart => exact ⟨0, by omega, rfl, by simp [sumI], Ext.refl w⟩
  case round =>
    obtain ⟨i, hi, rfl, rfl, hE⟩ := hrel
    have HE := Lib.hid hE; clear hE
    by_cases hlt : i < n
    · have hnx := sumI_next zs i (by rw [H.out.1]; exact hlt)
      obtain ⟨b, off, rfl, hbl, hc⟩ := Ints.at (H.out.keep HE.out.ik) i hlt
      obtain ⟨b1, b2⟩ := HB.out (i + 1)
      generalize zs.getD i 0 = z at *
      have e1 : IntKind.i64.wrap (sumI (zs.take i) + z) = sumI (zs.take (i + 1)) := by rw [hnx]; exact IntWalk.i64_in _ (by omega)
      clear hnx b1 b2
      generalize sumI (zs.take i) = s0 at *
      generalize hs1 : sumI (zs.take (i + 1)) = s1 at *
      have HS1 := Lib.hid hs1; clear hs1
      have t0 : (i : Int) < (n : Int) := by omega
      go_wp2_with fail
      go_roundw
      case rel => exact ⟨i + 1, by omega, by go_num, by rw [HS1.out], HE.out⟩
      case measure => simp [intOf]; omega
    · obtain rfl : i = n := by omega
      have hall : sumI (zs.take i) = sumI zs := by rw [List.take_of_length_le (by rw [H.out.1]; exact Nat.le_refl _)]
      have HA := Lib.hid hall; clear hall
      generalize sumI (zs.take i) = s0 at *
      go_wp2_with fail
      go_ret
      exact ⟨by rw [← HA.out]; rfl, HE.out⟩
set_option maxHeartbeats 1000000 in
theorem same_c (a b : Option Addr) (n c d : Nat) (zs : List Int) (w : World) (h : Ints w a n zs) (h2 : Ints w b n zs) :
    Calls Try.prog 16 #[.slice a n c, .slice b n d] w fun e w' => e = .returned (.bool true) ∧ Ext w w' := by
  have H := Lib.hid h; have H2 := Lib.hid h2; have hn := h.2.1; clear h h2
  go_enter Try.func16, Try.ntmps16
  go_wp2_with fail
  go_loopw [5] (fun v ws => ∃ i : Nat, i ≤ n ∧ v = .int .i64 (i : Int) ∧ Ext w ws) (fun v _ => n - (intOf v).toNat)
  case atStart => exact ⟨0, by omega, rfl, Ext.refl w⟩
  case round =>
    obtain ⟨i, hi, rfl, hE⟩ := hrel
    have HE := Lib.hid hE; clear hE
    by_cases hlt : i < n
    · obtain ⟨b1, o1, rfl, hb1, hc1⟩ := Ints.at (H.out.keep HE.out.ik) i hlt
      obtain ⟨b2, o2, rfl, hb2, hc2⟩ := Ints.at (H2.out.keep HE.out.ik) i hlt
      generalize zs.getD i 0 = z at *
      have t0 : (i : Int) < (n : Int) := by omega
      have t1 : (0 : Int) ≤ (i : Int) := by omega
      go_wp2_with fail
      go_quiet (fail)
      go_wp2_with fail
      go_roundw
      case rel => exact ⟨i + 1, by omega, by go_num, HE.out.drewN _⟩
      case measure => simp [intOf]; omega
    · obtain rfl : i = n := by omega
      go_wp2_with fail
      go_ret
      exact ⟨rfl, HE.out⟩
set_option maxHeartbeats 2000000 in
theorem rerror_c (n : Int) (a : Option Addr) (m c : Nat) (l : List Int) (g : Nat) (w : World) (h : Ints w a m l) (hm : m ≤ 100000) :
    Calls Try.prog 13 #[.int .i64 n, .slice a m c, .int .i64 (g : Int)] w fun e w' => e = .returned (.int .i64 (errF n l g)) ∧ Ext w w' := by
  have H := Lib.hid h
  have hlen := h.1
  have hc := errF_cases n l g
  rw [hlen] at hc
  clear h
  rcases hc with ⟨k1, hf⟩ | ⟨k1, k2, hf⟩ | ⟨k1, k2, k3, hf⟩ | ⟨k1, k2, k3, k4, hf⟩ | hc
  · have HF := Lib.hid hf; clear hf
    go_enter Try.func13, Try.ntmps13
    go_wp2_with fail
    go_ret
    exact ⟨by rw [HF.out]; rfl, Ext.refl w⟩
  · have HF := Lib.hid hf; clear hf
    go_enter Try.func13, Try.ntmps13
    go_wp2_with fail
    go_ret
    exact ⟨by rw [HF.out]; rfl, Ext.refl w⟩
  · have HF := Lib.hid hf; clear hf
    go_enter Try.func13, Try.ntmps13
    go_wp2_with fail
    go_ret
    exact ⟨by rw [HF.out]; rfl, Ext.refl w⟩
  · have HF := Lib.hid hf; clear hf
    go_enter Try.func13, Try.ntmps13
    go_wp2_with fail
    go_ret
    exact ⟨by rw [HF.out]; rfl, Ext.refl w⟩
  · obtain ⟨k1, k2, k3, k4⟩ : ¬ 4096 < (m : Int) ∧ ¬ 4096 < (g : Int) ∧ ¬ n < 0 ∧ ¬ 1099511627776 < n := by
      rcases hc with ⟨k1, k2, k3, k4, _⟩ | ⟨k1, k2, k3, k4, _⟩ | ⟨k1, k2, k3, k4, _⟩ | ⟨k1, k2, k3, _⟩ <;> exact ⟨k1, k2, by omega, by omega⟩
    have HC := Lib.hid hc; clear hc
    go_enter Try.func13, Try.ntmps13
    go_wp2_with fail
    go_loopw [7] (fun v ws => ∃ i : Nat, i ≤ m ∧ v = .int .i64 (i : Int) ∧ (l.take i).any badF = false ∧ Ext w ws) (fun v _ => m - (intOf v).toNat)
    case atStart => exact ⟨0, by omega, rfl, by simp, Ext.refl w⟩
    case round =>
      obtain ⟨i, hi, rfl, hz, hE⟩ := hrel
      have HE := Lib.hid hE; have HZ := Lib.hid hz; clear hE hz
      by_cases hlt : i < m
      · obtain ⟨b, off, rfl, hbl, hcc⟩ := Ints.at (H.out.keep HE.out.ik) i hlt
        have htk : l.take (i + 1) = l.take i ++ [l.getD i 0] := by
          have e1 : l.getD i 0 = l[i] := by simp [List.getD_eq_getElem?_getD, show i < l.length by omega]
          rw [List.take_succ_eq_append_getElem (by omega), e1]
        have hmem := getD_mem (l := l) (i := i) (by omega)
        generalize l.getD i 0 = z at *
        have HTK := Lib.hid htk; have HM := Lib.hid hmem; clear htk hmem
        have t0 : (i : Int) < (m : Int) := by omega
        have t1 : (0 : Int) ≤ (i : Int) := by omega
        have hbad : z < 0 ∨ (¬ z < 0 ∧ 1048576 < z) → errF n l g = 1 := fun hb => by
          have hany : l.any badF = true := List.any_eq_true.2 ⟨z, HM.out, by unfold badF; simp; omega⟩
          rcases HC.out with ⟨_, _, _, _, _, hf⟩ | ⟨_, _, _, _, h5, _⟩ | ⟨_, _, _, _, h5, _⟩ | ⟨_, _, _, h5, _⟩
          · exact hf
          · rw [h5] at hany; cases hany
          · rw [h5] at hany; cases hany
          · rw [h5] at hany; cases hany
        by_cases hz1 : z < 0
        · have HF := Lib.hid (hbad (.inl hz1)); clear hbad
          go_wp2_with fail
          go_ret
          exact ⟨by rw [HF.out]; rfl, HE.out⟩
        · by_cases hz2 : 1048576 < z
          · have HF := Lib.hid (hbad (.inr ⟨hz1, hz2⟩)); clear hbad
            go_wp2_with fail
            go_ret
            exact ⟨by rw [HF.out]; rfl, HE.out⟩
          · have hzb : badF z = false := by unfold badF; simp; omega
            have HZB := Lib.hid hzb; clear hbad hzb
            go_wp2_with fail
            go_roundw
            case rel => exact ⟨i + 1, by omega, by go_num, by rw [HTK.out, List.any_append, HZ.out]; simp [HZB.out], HE.out⟩
            case measure => simp [intOf]; omega
      · obtain rfl : i = m := by omega
        rw [List.take_of_length_le (by omega)] at HZ
        have hgd := good_of_any HZ.out
        rcases HC.out with ⟨_, _, _, _, h5, _⟩ | ⟨_, _, h3, _, h5, h6, hf⟩ | ⟨_, _, h3, _, h5, h6, hf⟩ | ⟨_, _, h3, h5, hf⟩
        · have := HZ.out; rw [h5] at this; cases this
        · have HF := Lib.hid hf; have H6 := Lib.hid h6; have HGD := Lib.hid hgd; clear hf h5 h6 hgd
          go_wp2_with fail
          refine (rsum_c a i c l _ (H.out.keep HE.out.ik) (parts_bd HGD.out (by omega))).mono ?_
          rw [H6.out]
          rintro e w3 ⟨rfl, hx⟩
          have HE3 := Lib.hid (HE.out.trans hx); clear hx
          go_wp2_with fail
          go_ret
          exact ⟨by rw [HF.out]; rfl, HE3.out⟩
        · have HF := Lib.hid hf; have HGD := Lib.hid hgd; clear hf h5 hgd
          go_wp2_with fail
          refine (rsum_c a i c l _ (H.out.keep HE.out.ik) (parts_bd HGD.out (by omega))).mono ?_
          rintro e w3 ⟨rfl, hx⟩
          have HE3 := Lib.hid (HE.out.trans hx); clear hx
          go_wp2_with fail
          go_ret
          exact ⟨by rw [HF.out]; rfl, HE3.out⟩
        · subst h3
          have HF := Lib.hid hf; clear hf h5 hgd
          go_wp2_with fail
          go_ret
          exact ⟨by rw [HF.out]; rfl, HE.out⟩

set_option maxHeartbeats 1000000 in
theorem rquota_c (n x all : Int) (w : World) (h1 : 0 ≤ n) (h2 : n ≤ 1099511627776) (h3 : 0 ≤ x) (h5 : 1 ≤ all) (h6 : all ≤ 8589934592) (h7 : x ≤ all) :
    Calls Try.prog 35 #[.int .i64 n, .int .i64 x, .int .i64 all] w fun e w' => e = .returned (.tuple #[.int .i64 (n * x / all), .int .i64 (n * x % all)]) ∧ Ext w w' := by
  go_enter Try.func35, Try.ntmps35
  go_wp2_with fail
  go_loopw [8, 9, 10] (fun q r v ws => ∃ j : Nat, j ≤ 41 ∧ v = .int .i64 ((j : Int) - 1) ∧ q = .int .i64 (n / 2 ^ j * x / all) ∧ r = .int .i64 (n / 2 ^ j * x % all) ∧ Ext w ws) (fun _ _ v _ => (intOf v + 1).toNat)
  case atStart =>
    have h0 : n / 2 ^ 41 = 0 := Int.ediv_eq_zero_of_lt h1 (by omega)
    exact ⟨41, by omega, rfl, by rw [h0]; simp, by rw [h0]; simp, Ext.refl w⟩
  case round =>
    obtain ⟨j, hj, rfl, rfl, rfl, hE⟩ := hrel
    have HE := Lib.hid hE; clear hE
    by_cases h0 : j = 0
    · subst h0
      have e0 : n / 2 ^ 0 = n := by simp
      rw [e0]
      go_wp2_with fail
      go_ret2
      exact ⟨rfl, HE.out⟩
    · obtain ⟨k, rfl⟩ : ∃ k, j = k + 1 := ⟨j - 1, by omega⟩
      have hA : 0 ≤ n / 2 ^ k := Int.ediv_nonneg h1 (Int.pow_nonneg (by omega))
      have hA2 : n / 2 ^ k ≤ n := Int.ediv_le_self _ h1
      have hAA : n / 2 ^ (k + 1) = n / 2 ^ k / 2 := by rw [Int.pow_succ, Int.ediv_ediv_of_nonneg (Int.pow_nonneg (by omega))]
      rw [hAA]
      generalize hBB : n / 2 ^ k = B at *
      have HBB := Lib.hid hBB; clear hBB hAA
      have hq := quota_ref (a := B / 2) (b := B % 2) (w := x) (all := all) (by omega)
      rw [show 2 * (B / 2) + B % 2 = B by omega] at hq
      have hP : 0 ≤ B % 2 * x ∧ B % 2 * x ≤ 8589934592 := by
        have : B % 2 = 0 ∨ B % 2 = 1 := by omega
        rcases this with h | h <;> rw [h] <;> omega
      have hr := Int.emod_nonneg (B / 2 * x) (show all ≠ 0 by omega)
      have hr2 := Int.emod_lt_of_pos (B / 2 * x) (show 0 < all by omega)
      have hqb := quo_bd (n := B / 2) (x := x) (all := all) (by omega) h3 h7 h5
      generalize B / 2 * x % all = r at *
      generalize B / 2 * x / all = q at *
      have tm : B.tmod 2 = B % 2 := Int.tmod_eq_emod_of_nonneg hA
      generalize B % 2 = bb at *
      obtain ⟨hP1, hP2⟩ := hP
      have k1 : 0 ≤ (2 * r + bb * x) / all := Int.ediv_nonneg (by omega) (by omega)
      have k2 : (2 * r + bb * x) / all ≤ 2 * r + bb * x := Int.ediv_le_self _ (by omega)
      have HQ := Lib.hid hq; clear hq
      have ek : ((k + 1 : Nat) : Int) - 1 = (k : Int) := by omega
      rw [ek]
      have k3 : (0 : Int) ≤ (k : Int) := by omega
      have k4 : 0 ≤ 2 * r + bb * x := by omega
      have e1 : wrap64 (bb * x) = bb * x := by unfold wrap64; omega
      have e2 : wrap64 (2 * r + bb * x) = 2 * r + bb * x := by unfold wrap64; omega
      go_upto_region 7 with (fail)
      rw [HBB.out, tm, e1, e2]
      clear tm e1 e2
      go_wp2_with fail
      go_roundw
      case rel => exact ⟨k, by omega, by go_num, by rw [HBB.out, HQ.out.1]; try (congr 1), by rw [HBB.out, HQ.out.2]; try (congr 1), HE.out⟩
      case measure => first | (simp [intOf]; done) | (simp [intOf]; omega)
end Go.Proofs.Ytlnmgcmpbbklhaa
