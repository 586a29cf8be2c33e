/- meresmanlaw27: ShareMore, ShareEven: the walks. -/
import Derived.Test.YtlnmgcmpbbklhaaS12
namespace Go.Proofs.Ytlnmgcmpbbklhaa
set_option linter.unusedSimpArgs false
set_option linter.unusedVariables false
open Go.RowKit

theorem any_of_good {l : List Int} (h : ∀ x, x ∈ l → 0 ≤ x ∧ x ≤ 1048576) : l.any badF = false := by
  rw [List.any_eq_false]
  intro x hx
  have := h x hx
  unfold badF; simp; omega
theorem errF_zero {n : Int} {l : List Int} (h : ∀ x, x ∈ l → 0 ≤ x ∧ x ≤ 1048576) (hl : l.length ≤ 4096) (h0 : 0 ≤ n) (h1 : n ≤ 1099511627776) (hs : n ≠ 0 → sumI l ≠ 0) (g : Nat) (hg : g ≤ 4096) : errF n l g = 0 := by
  unfold errF
  rw [if_neg (by omega), if_neg (by rw [any_of_good h]; simp; omega), if_neg (fun hc => hs (by omega) hc.2)]
theorem highErr_zero {n : Int} {l : List Int} (h : ∀ x, x ∈ l → 0 ≤ x ∧ x ≤ 1048576) (hl : l.length ≤ 4096) (h0 : 0 ≤ n) (h1 : n ≤ 4096) (hs : n ≠ 0 → sumI l ≠ 0) : highErr n l = 0 := by
  unfold highErr
  rw [errF_zero h hl h0 (by omega) hs 1 (by omega)]
  rw [if_neg (by simp), if_neg (by omega)]
/-- The weights of a law: a last one is not 0. -/
def lawW (zs : List Int) (k : Nat) (x : Int) : List Int := weightsF zs k ++ [x]
theorem lawW_bd {zs : List Int} {k : Nat} {x : Int} (h1 : 1 ≤ x) (h2 : x ≤ 1048576) : ∀ y, y ∈ lawW zs k x → 0 ≤ y ∧ y ≤ 1048576 := fun y hy => by
  unfold lawW at hy
  rw [List.mem_append, List.mem_singleton] at hy
  rcases hy with hy | rfl
  · exact weightsF_bd _ _ _ hy
  · omega
theorem lawW_length (zs : List Int) (k : Nat) (x : Int) : 1 ≤ (lawW zs k x).length ∧ (lawW zs k x).length ≤ k + 1 := by
  unfold lawW; rw [List.length_append, weightsF_length, List.length_singleton]; omega
theorem lawW_sum {zs : List Int} {k : Nat} {x : Int} (h1 : 1 ≤ x) (h2 : x ≤ 1048576) : 0 < sumI (lawW zs k x) := by
  have := mem_le_sum (l := lawW zs k x) (x := x) (fun y hy => (lawW_bd h1 h2 y hy).1) (by simp [lawW])
  omega
theorem owned_ints {w w1 : World} {base g cap : Nat} {l : List Int} (hb : base ≤ g) (h : VRow w1 base (.slice (some ⟨g, 0, none⟩) l.length cap) l) (hl : l.length ≤ 1000000) (h64 : ∀ x, x ∈ l → 0 ≤ x ∧ x ≤ 1048576) : Ints w1 (some ⟨g, 0, none⟩) l.length l := by
  obtain ⟨a, c, he, hi⟩ := h.ints hl (fun i hi => by have := h64 _ (getD_mem hi); exact ⟨by omega, by omega⟩)
  injection he with e1 e2 e3
  rw [e1]; exact hi

set_option maxRecDepth 100000 in
set_option maxHeartbeats 4000000 in
theorem walkMore (a0 : Option Addr) (n c : Nat) (zs : List Int) (a1 : Int) (w : World) (h0 : Ints w a0 n zs) (h1 : Int64 a1) :
    Calls Try.prog 5 #[.slice a0 n c, .int .i64 a1] w fun e w' => e = .returned (.bool true) ∧ Ext w w' := by
  obtain ⟨i0, hi0, hz0, hz1, hz2⟩ := info_parts intInfo
  have H0 := Lib.hid h0; have H1 := Lib.hid h1; clear h0 h1
  go_enter Try.func5, Try.ntmps5
  go_wp2_with fail
  refine (weights_c a0 n c zs 9 _ H0.out (by omega)).mono ?_
  rintro e w1 ⟨v, rfl, hV, hE⟩
  have hwl := weightsF_length zs 9
  have hbd := lawW_bd (zs := zs) (k := 9) (x := 3) (by omega) (by omega)
  have hln := lawW_length zs 9 3
  have hsm := lawW_sum (zs := zs) (k := 9) (x := 3) (by omega) (by omega)
  have hWe : lawW zs 9 3 = weightsF zs 9 ++ [3] := rfl
  obtain ⟨tl, htl⟩ : ∃ tl, (weightsF zs 9).length = tl := ⟨_, rfl⟩
  rw [htl] at hwl
  have htl2 : tl ≤ 9 := by omega
  have hsz := hE.size
  generalize weightsF zs 9 = P at *
  generalize lawW zs 9 3 = L at *
  have HV := Lib.hid (show VRow w1 w.heap.size v P from hV)
  have hOW : w1.ownsRow w.heap.size 3 1 v tl (ivals P) := by rw [← htl]; exact hV
  have HOW := Lib.hid hOW; have HTL := Lib.hid htl; have HE := Lib.hid hE; have HBD := Lib.hid hbd; have HWE := Lib.hid hWe
  have hLl : L.length = tl + 1 := by rw [hWe, List.length_append, htl]; rfl
  have HLL := Lib.hid hLl
  have HSM := Lib.hid hsm
  clear hV hE hwl hbd hOW htl hWe hLl hsm hln
  go_wp2_with (at_builtin; refine wpList_append_lies _ rfl _ _ _ rfl w.heap.size 3 i0 _ 1 8 Try.underlying22 hi0 hz0 hz1 hz2 rfl (by omega) _ tl _ rfl (owns_ext ((Ext.refl w1).alloc _) HOW.out) ⟨w1.heap.size, 0, none⟩ 1 1 (ivals [3]) rfl rfl (ints_news (ints_one w1 3 ⟨by omega, by omega⟩) (by omega)) (ivals_one _) (by omega) (by rw [maxLen]; omega) (by omega) (by simp; omega) _ rfl ?_)
  intro g cap w2 hown hgrow hat hlt1
  rw [← HTL.out] at hown
  have hA := VRow.app (m := 1) (k := [3]) rfl hown
  rw [← HWE.out, HTL.out, ← HLL.out] at hA
  have hE2 : Ext w w2 := ext_grown (HE.out.alloc _) hgrow (fun g hg => (owns_lt HOW.out hg).1)
  have hI := owned_ints (w := w) (Nat.zero_le _) (VRow.base hA (Nat.zero_le _)) (by rw [HLL.out]; omega) HBD.out
  rw [HLL.out] at hI
  have HI := Lib.hid hI; have HE2 := Lib.hid hE2
  clear hown hgrow hat hA hE2 hI
  have hk := aroundF_bd a1 300 (by omega)
  obtain ⟨k, hkk⟩ : ∃ k : Nat, aroundF a1 300 = k := ⟨(aroundF a1 300).toNat, by omega⟩
  rw [hkk] at hk
  have HK := Lib.hid hkk; clear hkk
  obtain ⟨hk1, hk2⟩ := hk
  go_wp2_with fail
  refine (around_c a1 300 _ (by omega) (by omega) H1.out).mono ?_
  rw [HK.out]
  rintro e w3 ⟨rfl, rfl⟩
  go_wp2_with fail
  refine (Highest_c k _ (tl + 1) cap L _ HI.out (by omega)).mono ?_
  intro e w4 hd
  obtain ⟨hx, ga, rfl, hga, hra⟩ := hd.ok (highErr_zero HBD.out (by rw [HLL.out]; omega) (by omega) (by omega) (fun _ => by have := HSM.out; omega))
  rw [Int.toNat_natCast] at hra
  have HRA := Lib.hid hra; have HX4 := Lib.hid hx
  clear hd hx hra
  go_wp2_with fail
  refine (Highest_c ((k + 1 : Nat) : Int) _ (tl + 1) cap L _ (HI.out.keep HX4.out.ik) (by omega)).mono ?_
  intro e w5 hd
  obtain ⟨hx, gb, rfl, hgb, hrb⟩ := hd.ok (highErr_zero HBD.out (by rw [HLL.out]; omega) (by omega) (by omega) (fun _ => by have := HSM.out; omega))
  rw [Int.toNat_natCast] at hrb
  have hnb : highN L (k + 1) = bump (highN L k) (bestF L (highN L k) L.length) := rfl
  have hbl := bestF_lt L (highN L k) L.length (by rw [HLL.out]; omega)
  have hhl := highN_length L k
  have hhb := high_bd L (by rw [HLL.out]; omega) k
  rw [hnb] at hrb
  have hst : IRow w5 ga (highN L k) := HRA.out.ext hx
  have hE5 : Ext w w5 := (HE2.out.trans HX4.out).trans hx
  generalize bestF L (highN L k) L.length = bb at *
  rw [HLL.out] at hbl hhl
  generalize highN L k = o at *
  have HST := Lib.hid (And.intro hst (And.intro hrb hE5)); have HHL := Lib.hid hhl; have HHB := Lib.hid hhb
  clear hd hx hrb hnb hst hE5 hhl hhb HRA HX4 HE2 HI
  go_wp2_with fail
  go_loopw [11, 12] (fun mv v ws => ∃ i : Nat, i ≤ tl + 1 ∧ v = .int .i64 (i : Int) ∧ mv = .int .i64 (if bb < i then 1 else 0) ∧ IRow ws ga o ∧ IRow ws gb (bump o bb) ∧ Ext w ws) (fun _ v _ => tl + 1 - (intOf v).toNat)
  case atStart => exact ⟨0, by omega, rfl, rfl, HST.out⟩
  case round =>
    obtain ⟨i, hi, rfl, rfl, hra, hrb, hE⟩ := hrel
    by_cases hlt : i < tl + 1
    · have c1 := IRow.cell hra i (by rw [HHL.out]; exact hlt)
      have c2 := IRow.cell hrb i (by rw [bump_length, HHL.out]; exact hlt)
      rw [bump_at _ _ _ (by rw [HHL.out]; exact hlt)] at c2
      have hb := HHB.out i
      have l1 := hra.lt
      have l2 := hrb.lt
      have HR := Lib.hid (And.intro hra (And.intro hrb hE)); clear hra hrb hE
      generalize o.getD i 0 = p at *
      have t0 : (i : Int) < (tl : Int) + 1 := by omega
      have t1 : (0 : Int) ≤ (i : Int) := by omega
      by_cases hbi : bb = i
      · subst hbi
        rw [if_pos rfl] at c2
        rw [if_neg (Nat.lt_irrefl _)]
        have n1 : (p + 1 != p) = true := by rw [bne_iff_ne]; omega
        go_wp2_with fail
        go_quiet (fail)
        go_wp2_with fail
        go_quiet (fail)
        go_wp2_with fail
        go_roundw
        case rel => exact ⟨bb + 1, by omega, by go_num, by rw [if_pos (by omega)]; first | rfl | (congr 1; omega), HR.out.1, HR.out.2.1, HR.out.2.2.drewN _⟩
        case measure => simp [intOf]; omega
      · rw [if_neg hbi] at c2
        have he : (if bb < i + 1 then (1 : Int) else 0) = (if bb < i then 1 else 0) := by
          by_cases hc : bb < i
          · rw [if_pos hc, if_pos (by omega)]
          · rw [if_neg hc, if_neg (by omega)]
        have HEQ := Lib.hid he
        have hmb : (0 : Int) ≤ (if bb < i then 1 else 0) ∧ (if bb < i then (1 : Int) else 0) ≤ 1 := by split <;> omega
        generalize (if bb < i then (1 : Int) else 0) = mm at *
        clear he
        go_wp2_with fail
        go_quiet (fail)
        go_wp2_with fail
        go_quiet (fail)
        go_wp2_with fail
        go_roundw
        case rel => exact ⟨i + 1, by omega, by go_num, by rw [HEQ.out], HR.out.1, HR.out.2.1, HR.out.2.2.drewN _⟩
        case measure => simp [intOf]; omega
    · obtain rfl : i = tl + 1 := by omega
      rw [if_pos hbl]
      go_wp2_with fail
      refine (lives27_c _).mono ?_
      rintro e w9 ⟨rfl, hx⟩
      have HX := Lib.hid (hE.trans hx); clear hx
      go_wp2_with fail
      go_ret
      exact ⟨rfl, HX.out⟩
end Go.Proofs.Ytlnmgcmpbbklhaa
