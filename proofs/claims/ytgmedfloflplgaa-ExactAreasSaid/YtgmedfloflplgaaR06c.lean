/- meresmanref05: Grid, Good; meresmanref06: valid. -/
import Derived.Test.YtgmedfloflplgaaEV
import Derived.Test.YtgmedfloflplgaaR01
namespace Go.Proofs.Ytgmedfloflplgaa
set_option linter.unusedSimpArgs false
set_option linter.unusedVariables false
open Go.RowKit

/-- A point with small coordinates. -/
def Tiny (p : Pt) : Prop := 0 ≤ p.x ∧ p.x ≤ 32 ∧ 0 ≤ p.y ∧ p.y ≤ 32
def gridF (n : Int) : Pt :=
  if aroundF n 1048576 % 3 = 0 then ⟨8 * (aroundF n 1048576 / 3 % 5), 8 * (aroundF n 1048576 / 15 % 5)⟩ else ⟨aroundF n 1048576 / 3 % 33, aroundF n 1048576 / 99 % 33⟩
theorem gridF_tiny (n : Int) : Tiny (gridF n) := by
  have h := aroundF_bd n 1048576 (by omega)
  unfold gridF
  generalize aroundF n 1048576 = k at *
  split
  · refine ⟨?_, ?_, ?_, ?_⟩ <;> simp only <;> omega
  · refine ⟨?_, ?_, ?_, ?_⟩ <;> simp only <;> omega
theorem Tiny.good {p : Pt} (h : Tiny p) : Good p := by
  obtain ⟨h1, h2, h3, h4⟩ := h
  exact ⟨by omega, by omega, by omega, by omega⟩
theorem Tiny.validE {p : Pt} (h : Tiny p) : validE p = 0 := by
  exact if_pos h.good
set_option maxHeartbeats 1000000 in
theorem grid_c (n : Int) (w : World) (hn : Int64 n) : Calls Try.prog 10 #[.int .i64 n] w fun e w' => e = .returned (gridF n).v ∧ Ext w w' := by
  have hb := aroundF_bd n 1048576 (by omega)
  have hf := gridF.eq_1 n
  have H64 := Lib.hid hn; clear hn
  generalize hk : aroundF n 1048576 = k at hb hf
  obtain ⟨hb1, hb2⟩ := hb
  have HK := Lib.hid hk; clear hk
  by_cases c1 : k % 3 = 0
  · have c1' : (k % 3 == 0) = true := by rw [beq_iff_eq]; exact c1
    rw [if_pos c1] at hf
    have hv : (gridF n).v = .agg #[.int .i64 (8 * (k / 3 % 5)), .int .i64 (8 * (k / 15 % 5))] := by rw [hf]
    have HV := Lib.hid hv; clear hf hv c1
    go_enter Try.func10, Try.ntmps10
    go_wp2_with fail
    refine (around_c _ _ _ (by omega) (by omega) H64.out).mono ?_
    rintro e w2 ⟨rfl, rfl⟩
    rw [HK.out]
    go_wp2_with fail
    refine bodyPost_ret (v := .agg #[.int .i64 (8 * (k / 3 % 5)), .int .i64 (8 * (k / 15 % 5))]) (by simp [results, Try.results10, go_sem]) rfl ?_
    exact ⟨by rw [HV.out], (by repeat (first | exact Ext.refl _ | assumption | refine Ext.setCell ?_ (by first | (simp; done) | (simp; omega) | omega) _ | refine Ext.alloc ?_ _ | refine Ext.drew ?_ | refine Ext.trans ?_ (by assumption)))⟩
  · have c1' : (k % 3 == 0) = false := by rw [beq_eq_false_iff_ne]; exact c1
    rw [if_neg c1] at hf
    have hv : (gridF n).v = .agg #[.int .i64 (k / 3 % 33), .int .i64 (k / 99 % 33)] := by rw [hf]
    have HV := Lib.hid hv; clear hf hv c1
    go_enter Try.func10, Try.ntmps10
    go_wp2_with fail
    refine (around_c _ _ _ (by omega) (by omega) H64.out).mono ?_
    rintro e w2 ⟨rfl, rfl⟩
    rw [HK.out]
    go_wp2_with fail
    refine bodyPost_ret (v := .agg #[.int .i64 (k / 3 % 33), .int .i64 (k / 99 % 33)]) (by simp [results, Try.results10, go_sem]) rfl ?_
    exact ⟨by rw [HV.out], (by repeat (first | exact Ext.refl _ | assumption | refine Ext.setCell ?_ (by first | (simp; done) | (simp; omega) | omega) _ | refine Ext.alloc ?_ _ | refine Ext.drew ?_ | refine Ext.trans ?_ (by assumption)))⟩
set_option maxHeartbeats 1000000 in
theorem good_c (p : Pt) (w : World) : Calls Try.prog 17 #[p.v] w fun e w' => e = .returned (.int .i64 (validE p)) ∧ Ext w w' := by
  obtain ⟨x, y⟩ := p
  by_cases hok : -1073741824 ≤ x ∧ x ≤ 1073741824 ∧ -1073741824 ≤ y ∧ y ≤ 1073741824
  · have hd : validE ⟨x, y⟩ = 0 := by rw [validE, if_pos hok]
    have HD := Lib.hid hd; clear hd
    obtain ⟨k1, k2, k3, k4⟩ := hok
    go_enter Try.func17, Try.ntmps17
    go_wp2
    go_ret
    exact ⟨by rw [HD.out]; rfl, (by repeat (first | exact Ext.refl _ | assumption | refine Ext.setCell ?_ (by first | (simp; done) | (simp; omega) | omega) _ | refine Ext.alloc ?_ _ | refine Ext.drew ?_ | refine Ext.trans ?_ (by assumption)))⟩
  · have hd : validE ⟨x, y⟩ = 5 := by rw [validE, if_neg hok]
    have HD := Lib.hid hd; clear hd
    have hk : x < -1073741824 ∨ (¬ x < -1073741824 ∧ 1073741824 < x) ∨ (¬ x < -1073741824 ∧ ¬ 1073741824 < x ∧ y < -1073741824) ∨ (¬ x < -1073741824 ∧ ¬ 1073741824 < x ∧ ¬ y < -1073741824 ∧ 1073741824 < y) := by omega
    clear hok
    rcases hk with k1 | ⟨k1, k2⟩ | ⟨k1, k2, k3⟩ | ⟨k1, k2, k3, k4⟩
    all_goals
      go_enter Try.func17, Try.ntmps17
      go_wp2
      go_ret
      exact ⟨by rw [HD.out]; rfl, (by repeat (first | exact Ext.refl _ | assumption | refine Ext.setCell ?_ (by first | (simp; done) | (simp; omega) | omega) _ | refine Ext.alloc ?_ _ | refine Ext.drew ?_ | refine Ext.trans ?_ (by assumption)))⟩
set_option maxHeartbeats 2000000 in
theorem rvalid_c (b n c : Nat) (l : List Pt) (w : World) (hn : l.length = n) (hc : n ≤ c) (hc4 : c ≤ 1000) (h : Pts w b l) (hv : ∀ i, i < n → validE (l.getD i ⟨0, 0⟩) = 0) :
    Calls Try.prog 51 #[.slice (some ⟨b, 0, none⟩) n c] w fun e w' => e = .returned (.int .i64 0) ∧ Ext w w' := by
  have HN := Lib.hid hn; have HP := Lib.hid h; have HV := Lib.hid hv; clear hn h hv
  go_enter Try.func51, Try.ntmps51
  go_wp2
  go_loopw [3] (fun v wr => ∃ i : Nat, i ≤ n ∧ v = .int .i64 (i : Int) ∧ Ext w wr) (fun v _ => n - (intOf v).toNat)
  case atStart => exact ⟨0, by omega, rfl, Ext.refl _⟩
  case round =>
    obtain ⟨i, hi, rfl, hx⟩ := hrel
    have HX := Lib.hid hx; clear hx
    by_cases hlt : i < n
    · obtain ⟨c0, c1⟩ := HP.out.ik HX.out.ik i (by rw [HN.out]; exact hlt)
      have hvi := HV.out i hlt
      generalize l.getD i ⟨0, 0⟩ = p at c0 c1 hvi
      have HVI := Lib.hid hvi; clear hvi
      go_wp2_with fail
      refine (good_c p _).mono ?_
      rintro e w2 ⟨rfl, hx2⟩
      rw [HVI.out]
      have HX2 := Lib.hid (HX.out.trans hx2); clear hx2
      go_wp2_with fail
      go_roundw
      case rel => exact ⟨i + 1, by omega, by go_num, HX2.out⟩
      case measure => simp [intOf]; omega
    · obtain rfl : i = n := by omega
      go_wp2_with fail
      go_ret
      exact ⟨rfl, HX.out⟩
end Go.Proofs.Ytgmedfloflplgaa
