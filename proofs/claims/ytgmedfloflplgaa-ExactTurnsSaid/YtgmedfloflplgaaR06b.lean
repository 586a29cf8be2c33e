/- meresmanref06: Dir, Bent. -/
import Derived.Test.YtgmedfloflplgaaR06s
namespace Go.Proofs.Ytgmedfloflplgaa
open Go.RowKit

/-- A small direction made from a number. -/
def dirF (n : Int) : Pt :=
  if aroundF n 1048576 % 9 - 4 = 0 ∧ aroundF n 1048576 / 9 % 9 - 4 = 0 then ⟨1 - 2 * (aroundF n 1048576 / 81 % 2), 0⟩
  else ⟨aroundF n 1048576 % 9 - 4, aroundF n 1048576 / 9 % 9 - 4⟩
theorem dirF_small (n : Int) : Small (dirF n) ∧ dirE (dirF n) = 0 := by
  have h := aroundF_bd n 1048576 (by omega)
  unfold dirF
  generalize aroundF n 1048576 = k at *
  split
  · refine ⟨⟨by simp only; omega, by simp only; omega, by simp, by simp⟩, ?_⟩
    unfold dirE; simp only; rw [if_neg (by omega), if_neg (by omega)]
  · refine ⟨⟨by simp only; omega, by simp only; omega, by simp only; omega, by simp only; omega⟩, ?_⟩
    unfold dirE; simp only; rw [if_neg (by omega), if_neg (by assumption)]
set_option maxHeartbeats 1000000 in
theorem dir_c (n : Int) (w : World) (hn : Int64 n) : Calls Try.prog 19 #[.int .i64 n] w fun e w' => e = .returned (dirF n).v ∧ Ext w w' := by
  have hb := aroundF_bd n 1048576 (by omega)
  have hf := dirF.eq_1 n
  have H64 := Lib.hid hn; clear hn
  generalize hk : aroundF n 1048576 = k at hb hf
  obtain ⟨hb1, hb2⟩ := hb
  have HK := Lib.hid hk; clear hk
  by_cases c1 : k % 9 - 4 = 0
  · have c1' : (k % 9 - 4 == 0) = true := by rw [beq_iff_eq]; exact c1
    by_cases c2 : k / 9 % 9 - 4 = 0
    · have c2' : (k / 9 % 9 - 4 == 0) = true := by rw [beq_iff_eq]; exact c2
      rw [if_pos ⟨c1, c2⟩] at hf
      have hv : (dirF n).v = .agg #[.int .i64 (1 - 2 * (k / 81 % 2)), .int .i64 (k / 9 % 9 - 4)] := by rw [hf, c2]
      have HV := Lib.hid hv; clear hf hv c1 c2
      go_enter Try.func19, Try.ntmps19
      go_wp2_with fail
      refine (around_c _ _ _ (by omega) (by omega) H64.out).mono ?_
      rintro e w2 ⟨rfl, rfl⟩
      rw [HK.out]
      go_wp2_with fail
      refine bodyPost_ret (v := .agg #[.int .i64 (1 - 2 * (k / 81 % 2)), .int .i64 (k / 9 % 9 - 4)]) (by simp [results, Try.results19, go_sem]) rfl ?_
      exact ⟨by rw [HV.out], (by repeat (first | exact Ext.refl _ | assumption | refine Ext.setCell ?_ (by first | (simp; done) | (simp; omega) | omega) _ | refine Ext.alloc ?_ _ | refine Ext.drew ?_ | refine Ext.trans ?_ (by assumption)))⟩
    · have c2' : (k / 9 % 9 - 4 == 0) = false := by rw [beq_eq_false_iff_ne]; exact c2
      rw [if_neg (fun h => c2 h.2)] at hf
      have hv : (dirF n).v = .agg #[.int .i64 (k % 9 - 4), .int .i64 (k / 9 % 9 - 4)] := by rw [hf]
      have HV := Lib.hid hv; clear hf hv c1 c2
      go_enter Try.func19, Try.ntmps19
      go_wp2_with fail
      refine (around_c _ _ _ (by omega) (by omega) H64.out).mono ?_
      rintro e w2 ⟨rfl, rfl⟩
      rw [HK.out]
      go_wp2_with fail
      refine bodyPost_ret (v := .agg #[.int .i64 (k % 9 - 4), .int .i64 (k / 9 % 9 - 4)]) (by simp [results, Try.results19, go_sem]) rfl ?_
      exact ⟨by rw [HV.out], (by repeat (first | exact Ext.refl _ | assumption | refine Ext.setCell ?_ (by first | (simp; done) | (simp; omega) | omega) _ | refine Ext.alloc ?_ _ | refine Ext.drew ?_ | refine Ext.trans ?_ (by assumption)))⟩
  · have c1' : (k % 9 - 4 == 0) = false := by rw [beq_eq_false_iff_ne]; exact c1
    rw [if_neg (fun h => c1 h.1)] at hf
    have hv : (dirF n).v = .agg #[.int .i64 (k % 9 - 4), .int .i64 (k / 9 % 9 - 4)] := by rw [hf]
    have HV := Lib.hid hv; clear hf hv c1
    go_enter Try.func19, Try.ntmps19
    go_wp2_with fail
    refine (around_c _ _ _ (by omega) (by omega) H64.out).mono ?_
    rintro e w2 ⟨rfl, rfl⟩
    rw [HK.out]
    go_wp2_with fail
    refine bodyPost_ret (v := .agg #[.int .i64 (k % 9 - 4), .int .i64 (k / 9 % 9 - 4)]) (by simp [results, Try.results19, go_sem]) rfl ?_
    exact ⟨by rw [HV.out], (by repeat (first | exact Ext.refl _ | assumption | refine Ext.setCell ?_ (by first | (simp; done) | (simp; omega) | omega) _ | refine Ext.alloc ?_ _ | refine Ext.drew ?_ | refine Ext.trans ?_ (by assumption)))⟩

/-- The coordinates that Bent chooses from. -/
def bents (by' : Int) : List Int := [by', 1073741824, 1073741825, -1073741824, -1073741825, 2147483648, 2147483649, -2147483648, -2147483649, 0]
def bentF (p : Pt) (how by' : Int) : Pt :=
  if aroundF how 2 = 0 then ⟨(bents by').getD (aroundF by' 10).toNat 0, p.y⟩ else ⟨p.x, (bents by').getD (aroundF by' 10).toNat 0⟩
set_option maxHeartbeats 4000000 in
theorem bent_c (p : Pt) (how by' : Int) (w : World) (h1 : Int64 how) (h2 : Int64 by') : Calls Try.prog 13 #[p.v, .int .i64 how, .int .i64 by'] w fun e w' => e = .returned (bentF p how by').v ∧ Ext w w' := by
  obtain ⟨x, y⟩ := p
  have hb := aroundF_bd by' 10 (by omega)
  have hb2 := aroundF_bd how 2 (by omega)
  have H1 := Lib.hid h1; have H2 := Lib.hid h2; clear h1 h2
  generalize hk : aroundF by' 10 = k at hb
  generalize hj : aroundF how 2 = j at hb2
  have hf := bentF.eq_1 ⟨x, y⟩ how by'
  rw [hk, hj] at hf
  have HK := Lib.hid hk; have HJ := Lib.hid hj; clear hk hj
  have hk10 : k = 0 ∨ k = 1 ∨ k = 2 ∨ k = 3 ∨ k = 4 ∨ k = 5 ∨ k = 6 ∨ k = 7 ∨ k = 8 ∨ k = 9 := by omega
  have hj2 : j = 0 ∨ j = 1 := by omega
  clear hb hb2
  rcases hj2 with rfl | rfl <;> rcases hk10 with rfl | rfl | rfl | rfl | rfl | rfl | rfl | rfl | rfl | rfl
  all_goals
    have HF := Lib.hid hf; clear hf
    go_enter Try.func13, Try.ntmps13
    go_wp2_with fail
    refine (around_c _ _ _ (by omega) (by omega) H2.out).mono ?_
    rintro e w2 ⟨rfl, rfl⟩
    rw [HK.out]
    go_wp2_with fail
    refine (around_c _ _ _ (by omega) (by omega) H1.out).mono ?_
    rintro e w2 ⟨rfl, rfl⟩
    rw [HJ.out]
    go_wp2_with fail
    refine bodyPost_ret (v := (bentF ⟨x, y⟩ how by').v) (by rw [HF.out]; simp [results, Try.results13, go_sem, bents]) rfl ?_
    exact ⟨rfl, (by repeat (first | exact Ext.refl _ | assumption | refine Ext.setCell ?_ (by first | (simp; done) | (simp; omega) | omega) _ | refine Ext.alloc ?_ _ | refine Ext.drew ?_ | refine Ext.trans ?_ (by assumption)))⟩
end Go.Proofs.Ytgmedfloflplgaa
