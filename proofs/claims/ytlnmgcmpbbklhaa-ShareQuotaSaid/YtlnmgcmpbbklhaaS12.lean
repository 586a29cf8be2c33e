/- meresmanref27: Weights. -/
import Derived.Test.YtlnmgcmpbbklhaaL27a
namespace Go.Proofs.Ytlnmgcmpbbklhaa
set_option linter.unusedSimpArgs false
set_option linter.unusedVariables false
open Go.RowKit

def weightK (n : Int) : Int := if n / 4 % 8 = 0 then n % 4 else if n / 4 % 8 = 1 then n % 10 else if n / 4 % 8 = 2 then n % 1000 else if n / 4 % 8 = 3 then n else if n / 4 % 8 = 4 then 0 else if n / 4 % 8 = 5 then 1048576 else if n / 4 % 8 = 6 then 1 else 7
def weightsF (zs : List Int) (k : Nat) : List Int := (zs.take k).map fun z => weightK (aroundF z 1048576)
theorem weightK_bd {n : Int} (h1 : 0 ≤ n) (h2 : n < 1048576) : 0 ≤ weightK n ∧ weightK n ≤ 1048576 := by
  unfold weightK; repeat' (first | omega | split)
theorem weightK_cases (n : Int) (h1 : 0 ≤ n) : (n / 4 % 8 = 0 ∧ weightK n = n % 4) ∨ (n / 4 % 8 = 1 ∧ weightK n = n % 10) ∨ (n / 4 % 8 = 2 ∧ weightK n = n % 1000) ∨ (n / 4 % 8 = 3 ∧ weightK n = n) ∨ (n / 4 % 8 = 4 ∧ weightK n = 0) ∨
    (n / 4 % 8 = 5 ∧ weightK n = 1048576) ∨ (n / 4 % 8 = 6 ∧ weightK n = 1) ∨ (n / 4 % 8 = 7 ∧ weightK n = 7) := by
  have h : n / 4 % 8 = 0 ∨ n / 4 % 8 = 1 ∨ n / 4 % 8 = 2 ∨ n / 4 % 8 = 3 ∨ n / 4 % 8 = 4 ∨ n / 4 % 8 = 5 ∨ n / 4 % 8 = 6 ∨ n / 4 % 8 = 7 := by omega
  unfold weightK
  rcases h with h | h | h | h | h | h | h | h <;> simp [h]
theorem weightsF_bd (zs : List Int) (k : Nat) : ∀ x, x ∈ weightsF zs k → 0 ≤ x ∧ x ≤ 1048576 := fun x hx => by
  unfold weightsF at hx
  rw [List.mem_map] at hx
  obtain ⟨z, _, rfl⟩ := hx
  have := aroundF_bd z 1048576 (by omega)
  exact weightK_bd this.1 this.2
theorem weightsF_next (zs : List Int) (i : Nat) (hi : i < zs.length) : weightsF zs (i + 1) = weightsF zs i ++ [weightK (aroundF (zs.getD i 0) 1048576)] := by
  unfold weightsF
  have e1 : zs.getD i 0 = zs[i] := by simp [List.getD_eq_getElem?_getD, hi]
  rw [List.take_succ_eq_append_getElem hi, List.map_append, e1]; rfl
theorem weightsF_length (zs : List Int) (k : Nat) : (weightsF zs k).length = min k zs.length := by simp [weightsF]
theorem weightsF_all (zs : List Int) (k : Nat) (h : zs.length ≤ k) : weightsF zs zs.length = weightsF zs k := by
  unfold weightsF; rw [List.take_of_length_le (Nat.le_refl _), List.take_of_length_le h]
theorem ints_one' {w : World} {b : Nat} {s : Int} (hb : b = w.heap.size) (h : Int64 s) : Ints (w.alloc (.cells #[.int .i64 s] 3)) (some ⟨b, 0, none⟩) 1 [s] := by subst hb; exact ints_one w s h
set_option maxRecDepth 100000 in
set_option maxHeartbeats 4000000 in
theorem weights_c (a : Option Addr) (n c : Nat) (zs : List Int) (K : Nat) (w : World) (h : Ints w a n zs) (hK : K ≤ 100) :
    Calls Try.prog 10 #[.slice a n c, .int .i64 (K : Int)] w fun e w' => ∃ v, e = .returned v ∧ VRow w' w.heap.size v (weightsF zs K) ∧ Ext w w' := by
  obtain ⟨i0, hi0, hz0, hz1, hz2⟩ := info_parts intInfo
  have H := Lib.hid h
  have hlen := h.1
  have hn := h.2.1
  clear h
  go_enter Try.func10, Try.ntmps10
  go_wp2_with fail
  go_loopw [5, 6] (fun wv v ws => ∃ i : Nat, i ≤ n ∧ i ≤ K ∧ v = .int .i64 (i : Int) ∧ VRow ws w.heap.size wv (weightsF zs i) ∧ Ext w ws) (fun _ v _ => K - (intOf v).toNat)
  case atStart => exact ⟨0, by omega, by omega, rfl, VRow.nil _ _, Ext.refl w⟩
  case round =>
    obtain ⟨i, hi, hi2, rfl, hV, hE⟩ := hrel
    have HV := Lib.hid hV; have HE := Lib.hid hE; clear hV hE
    by_cases hlt : i < n
    · by_cases hlt2 : i < K
      · obtain ⟨b, off, rfl, hb, hc⟩ := Ints.at (H.out.keep HE.out.ik) i hlt
        have h64 := H.out.2.2.1 i hlt
        have hnx := weightsF_next zs i (by omega)
        have hwl := weightsF_length zs i
        generalize zs.getD i 0 = z at *
        have hab := aroundF_bd z 1048576 (by omega)
        have H64 := Lib.hid h64
        clear h64
        have t0 : (i : Int) < (n : Int) := by omega
        have t1 : (i : Int) < (K : Int) := by omega
        have t2 : (0 : Int) ≤ (i : Int) := by omega
        have hsz := HE.out.size
        obtain ⟨q, hq⟩ : ∃ q, aroundF z 1048576 = q := ⟨_, rfl⟩
        rw [hq] at hab hnx
        have HQ := Lib.hid hq; clear hq
        have hkk := weightK_cases q hab.1
        have hkb := weightK_bd hab.1 hab.2
        obtain ⟨y, hy⟩ : ∃ y, weightK q = y := ⟨_, rfl⟩
        rw [hy] at hnx hkk hkb
        have HNX := Lib.hid hnx; clear hnx hy
        obtain ⟨tl, htl⟩ : ∃ tl, (weightsF zs i).length = tl := ⟨_, rfl⟩
        rw [htl] at hwl
        have htl2 : tl ≤ 100 := by omega
        have HTL := Lib.hid htl
        clear hwl htl
        generalize weightsF zs i = P at *
        have hV0 : _ := HV.out
        have HVV : Hid (wr.ownsRow w.heap.size 3 1 u5 tl (ivals P)) := Lib.hid (by rw [← HTL.out]; exact hV0)
        clear hV0
        obtain ⟨hab1, hab2⟩ := hab
        have h64y : Int64 y := ⟨by omega, by omega⟩
        have H64y := Lib.hid h64y
        clear h64y
        go_wp2_with fail
        refine (around_c z _ _ (by omega) (by omega) H64.out).mono ?_
        rw [HQ.out]
        rintro e w2 ⟨rfl, rfl⟩
        rcases hkk with ⟨k1, rfl⟩ | ⟨k1, rfl⟩ | ⟨k1, rfl⟩ | ⟨k1, rfl⟩ | ⟨k1, rfl⟩ | ⟨k1, rfl⟩ | ⟨k1, rfl⟩ | ⟨k1, rfl⟩
        · go_wp2_with (at_builtin; refine wpList_append_lies _ rfl _ _ _ rfl w.heap.size 3 i0 _ 1 8 Try.underlying22 hi0 hz0 hz1 hz2 rfl (by omega) _ tl _ rfl (owns_ext (((Ext.refl wr).alloc _).alloc _) HVV.out) ⟨wr.heap.size + 1, 0, none⟩ 1 1 (ivals [q % 4]) rfl rfl (ints_news (ints_one' (by simp) H64y.out) (by omega)) (ivals_one _) (by omega) (by rw [maxLen]; omega) (by omega) (by simp; omega) _ rfl ?_)
          intro g2 cap w1 hown hgrow hat hlt1; rw [← HTL.out] at hown; have hA := VRow.app rfl hown; rw [HTL.out] at hA; have hE1 := ext_grown ((HE.out.alloc _).alloc _) hgrow (fun g hg => (owns_lt HVV.out hg).1); have HR := Lib.hid (And.intro hA hE1); clear hown hgrow hat hA hE1; go_wp2_with fail; go_roundw; (case rel => exact ⟨i + 1, by omega, by omega, by go_num, by rw [HNX.out]; exact HR.out.1, HR.out.2⟩); (case measure => simp [intOf]; omega)
        · go_wp2_with (at_builtin; refine wpList_append_lies _ rfl _ _ _ rfl w.heap.size 3 i0 _ 1 8 Try.underlying22 hi0 hz0 hz1 hz2 rfl (by omega) _ tl _ rfl (owns_ext (((Ext.refl wr).alloc _).alloc _) HVV.out) ⟨wr.heap.size + 1, 0, none⟩ 1 1 (ivals [q % 10]) rfl rfl (ints_news (ints_one' (by simp) H64y.out) (by omega)) (ivals_one _) (by omega) (by rw [maxLen]; omega) (by omega) (by simp; omega) _ rfl ?_)
          intro g2 cap w1 hown hgrow hat hlt1; rw [← HTL.out] at hown; have hA := VRow.app rfl hown; rw [HTL.out] at hA; have hE1 := ext_grown ((HE.out.alloc _).alloc _) hgrow (fun g hg => (owns_lt HVV.out hg).1); have HR := Lib.hid (And.intro hA hE1); clear hown hgrow hat hA hE1; go_wp2_with fail; go_roundw; (case rel => exact ⟨i + 1, by omega, by omega, by go_num, by rw [HNX.out]; exact HR.out.1, HR.out.2⟩); (case measure => simp [intOf]; omega)
        · go_wp2_with (at_builtin; refine wpList_append_lies _ rfl _ _ _ rfl w.heap.size 3 i0 _ 1 8 Try.underlying22 hi0 hz0 hz1 hz2 rfl (by omega) _ tl _ rfl (owns_ext (((Ext.refl wr).alloc _).alloc _) HVV.out) ⟨wr.heap.size + 1, 0, none⟩ 1 1 (ivals [q % 1000]) rfl rfl (ints_news (ints_one' (by simp) H64y.out) (by omega)) (ivals_one _) (by omega) (by rw [maxLen]; omega) (by omega) (by simp; omega) _ rfl ?_)
          intro g2 cap w1 hown hgrow hat hlt1; rw [← HTL.out] at hown; have hA := VRow.app rfl hown; rw [HTL.out] at hA; have hE1 := ext_grown ((HE.out.alloc _).alloc _) hgrow (fun g hg => (owns_lt HVV.out hg).1); have HR := Lib.hid (And.intro hA hE1); clear hown hgrow hat hA hE1; go_wp2_with fail; go_roundw; (case rel => exact ⟨i + 1, by omega, by omega, by go_num, by rw [HNX.out]; exact HR.out.1, HR.out.2⟩); (case measure => simp [intOf]; omega)
        · go_wp2_with (at_builtin; refine wpList_append_lies _ rfl _ _ _ rfl w.heap.size 3 i0 _ 1 8 Try.underlying22 hi0 hz0 hz1 hz2 rfl (by omega) _ tl _ rfl (owns_ext (((Ext.refl wr).alloc _).alloc _) HVV.out) ⟨wr.heap.size + 1, 0, none⟩ 1 1 (ivals [y]) rfl rfl (ints_news (ints_one' (by simp) H64y.out) (by omega)) (ivals_one _) (by omega) (by rw [maxLen]; omega) (by omega) (by simp; omega) _ rfl ?_)
          intro g2 cap w1 hown hgrow hat hlt1; rw [← HTL.out] at hown; have hA := VRow.app rfl hown; rw [HTL.out] at hA; have hE1 := ext_grown ((HE.out.alloc _).alloc _) hgrow (fun g hg => (owns_lt HVV.out hg).1); have HR := Lib.hid (And.intro hA hE1); clear hown hgrow hat hA hE1; go_wp2_with fail; go_roundw; (case rel => exact ⟨i + 1, by omega, by omega, by go_num, by rw [HNX.out]; exact HR.out.1, HR.out.2⟩); (case measure => simp [intOf]; omega)
        · go_wp2_with (at_builtin; refine wpList_append_lies _ rfl _ _ _ rfl w.heap.size 3 i0 _ 1 8 Try.underlying22 hi0 hz0 hz1 hz2 rfl (by omega) _ tl _ rfl (owns_ext (((Ext.refl wr).alloc _).alloc _) HVV.out) ⟨wr.heap.size + 1, 0, none⟩ 1 1 (ivals [0]) rfl rfl (ints_news (ints_one' (by simp) H64y.out) (by omega)) (ivals_one _) (by omega) (by rw [maxLen]; omega) (by omega) (by simp; omega) _ rfl ?_)
          intro g2 cap w1 hown hgrow hat hlt1; rw [← HTL.out] at hown; have hA := VRow.app rfl hown; rw [HTL.out] at hA; have hE1 := ext_grown ((HE.out.alloc _).alloc _) hgrow (fun g hg => (owns_lt HVV.out hg).1); have HR := Lib.hid (And.intro hA hE1); clear hown hgrow hat hA hE1; go_wp2_with fail; go_roundw; (case rel => exact ⟨i + 1, by omega, by omega, by go_num, by rw [HNX.out]; exact HR.out.1, HR.out.2⟩); (case measure => simp [intOf]; omega)
        · go_wp2_with (at_builtin; refine wpList_append_lies _ rfl _ _ _ rfl w.heap.size 3 i0 _ 1 8 Try.underlying22 hi0 hz0 hz1 hz2 rfl (by omega) _ tl _ rfl (owns_ext (((Ext.refl wr).alloc _).alloc _) HVV.out) ⟨wr.heap.size + 1, 0, none⟩ 1 1 (ivals [1048576]) rfl rfl (ints_news (ints_one' (by simp) H64y.out) (by omega)) (ivals_one _) (by omega) (by rw [maxLen]; omega) (by omega) (by simp; omega) _ rfl ?_)
          intro g2 cap w1 hown hgrow hat hlt1; rw [← HTL.out] at hown; have hA := VRow.app rfl hown; rw [HTL.out] at hA; have hE1 := ext_grown ((HE.out.alloc _).alloc _) hgrow (fun g hg => (owns_lt HVV.out hg).1); have HR := Lib.hid (And.intro hA hE1); clear hown hgrow hat hA hE1; go_wp2_with fail; go_roundw; (case rel => exact ⟨i + 1, by omega, by omega, by go_num, by rw [HNX.out]; exact HR.out.1, HR.out.2⟩); (case measure => simp [intOf]; omega)
        · go_wp2_with (at_builtin; refine wpList_append_lies _ rfl _ _ _ rfl w.heap.size 3 i0 _ 1 8 Try.underlying22 hi0 hz0 hz1 hz2 rfl (by omega) _ tl _ rfl (owns_ext (((Ext.refl wr).alloc _).alloc _) HVV.out) ⟨wr.heap.size + 1, 0, none⟩ 1 1 (ivals [1]) rfl rfl (ints_news (ints_one' (by simp) H64y.out) (by omega)) (ivals_one _) (by omega) (by rw [maxLen]; omega) (by omega) (by simp; omega) _ rfl ?_)
          intro g2 cap w1 hown hgrow hat hlt1; rw [← HTL.out] at hown; have hA := VRow.app rfl hown; rw [HTL.out] at hA; have hE1 := ext_grown ((HE.out.alloc _).alloc _) hgrow (fun g hg => (owns_lt HVV.out hg).1); have HR := Lib.hid (And.intro hA hE1); clear hown hgrow hat hA hE1; go_wp2_with fail; go_roundw; (case rel => exact ⟨i + 1, by omega, by omega, by go_num, by rw [HNX.out]; exact HR.out.1, HR.out.2⟩); (case measure => simp [intOf]; omega)
        · go_wp2_with (at_builtin; refine wpList_append_lies _ rfl _ _ _ rfl w.heap.size 3 i0 _ 1 8 Try.underlying22 hi0 hz0 hz1 hz2 rfl (by omega) _ tl _ rfl (owns_ext (((Ext.refl wr).alloc _).alloc _) HVV.out) ⟨wr.heap.size + 1, 0, none⟩ 1 1 (ivals [7]) rfl rfl (ints_news (ints_one' (by simp) H64y.out) (by omega)) (ivals_one _) (by omega) (by rw [maxLen]; omega) (by omega) (by simp; omega) _ rfl ?_)
          intro g2 cap w1 hown hgrow hat hlt1; rw [← HTL.out] at hown; have hA := VRow.app rfl hown; rw [HTL.out] at hA; have hE1 := ext_grown ((HE.out.alloc _).alloc _) hgrow (fun g hg => (owns_lt HVV.out hg).1); have HR := Lib.hid (And.intro hA hE1); clear hown hgrow hat hA hE1; go_wp2_with fail; go_roundw; (case rel => exact ⟨i + 1, by omega, by omega, by go_num, by rw [HNX.out]; exact HR.out.1, HR.out.2⟩); (case measure => simp [intOf]; omega)
      · obtain rfl : i = K := by omega
        go_wp2_with fail
        go_ret
        exact ⟨_, rfl, HV.out, HE.out⟩
    · obtain rfl : i = n := by omega
      rw [← hlen, weightsF_all zs K (by omega)] at HV
      go_wp2_with fail
      go_ret
      exact ⟨_, rfl, HV.out, HE.out⟩
end Go.Proofs.Ytlnmgcmpbbklhaa
