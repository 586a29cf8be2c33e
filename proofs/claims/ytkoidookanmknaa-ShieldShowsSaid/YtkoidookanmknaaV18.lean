/- shield: check, Determined. -/
import Derived.Test.YtkoidookanmknaaV17
namespace Go.Proofs.Ytkoidookanmknaa
set_option linter.unusedSimpArgs false
set_option linter.unusedVariables false
open Go.RowKit

/-- The error of a sheet, hidden sets and a set. -/
def checkE (n : Int) (Ls : List (List Int)) (zs : List Int) (m : Nat) (set : Int) : Int :=
  if validE n Ls zs ≠ 0 then validE n Ls zs else if m ≠ Ls.length then 1 else if set < 0 ∨ (Ls.length : Int) ≤ set then 7 else 0
theorem checkE_ok {n : Int} {Ls : List (List Int)} {zs : List Int} {m : Nat} {set : Int} (h : checkE n Ls zs m set = 0) : validE n Ls zs = 0 ∧ m = Ls.length ∧ 0 ≤ set ∧ set < Ls.length := by
  unfold checkE at h
  split at h
  · rename_i h1; exact absurd h h1
  · rename_i h1
    split at h
    · omega
    · rename_i h2
      split at h
      · omega
      · exact ⟨by omega, by omega, by omega, by omega⟩
set_option maxRecDepth 100000 in
set_option maxHeartbeats 4000000 in
theorem shcheck_c (n : Int) (ss vs : Sl) (gs : List Sl) (Ls : List (List Int)) (zs : List Int) (ha : Option Addr) (m hc : Nat) (set : Int) (w : World) (h : ShIn w n ss vs gs Ls zs) (hm : m ≤ 1000000) :
    Calls Try.prog 34 #[.agg #[.int .i64 n, ss.v, vs.v], .slice ha m hc, .int .i64 set] w fun e w' => e = .returned (.int .i64 (checkE n Ls zs m set)) ∧ Ext w w' := by
  have H := Lib.hid h
  have hsn := h.grps.2.1
  have hs1 := h.grps.2.2.1
  clear h
  obtain ⟨v, hv⟩ : ∃ v, validE n Ls zs = v := ⟨_, rfl⟩
  have hC : checkE n Ls zs m set = if v ≠ 0 then v else if m ≠ ss.n then 1 else if set < 0 ∨ (ss.n : Int) ≤ set then 7 else 0 := by unfold checkE; rw [hv, hsn]
  have HC := Lib.hid hC
  have HV := Lib.hid hv
  obtain ⟨sa, sn, sc⟩ := ss
  obtain ⟨va, vn, vc⟩ := vs
  simp only at HC hs1
  simp only [Sl.v]
  obtain ⟨B, hB⟩ : ∃ B, w.heap.size = B := ⟨_, rfl⟩
  clear hC hv hsn
  by_cases c1 : v = 0
  · by_cases c2 : m = sn
    · obtain rfl := c2.symm
      by_cases c3 : set < 0
      · have HR := Lib.hid (show checkE n Ls zs sn set = 7 by rw [HC.out, if_neg (by omega), if_neg (by omega), if_pos (.inl c3)])
        subst c1
        go_enter Try.func34, Try.ntmps34; go_upto_region 1 with (fail); refine wp_gen (fun W => Ext w W ∧ Blk W B #[.int .i64 n, .slice sa sn sc, .slice va vn vc] 31) ⟨(by repeat (first | exact Ext.refl _ | assumption | refine Ext.setCell ?_ (by first | (simp; done) | (simp; omega) | omega) _ | refine Ext.alloc ?_ _ | refine Ext.drew ?_ | refine Ext.trans ?_ (by assumption))), Blk.at _ 31 hB.symm⟩ ?_; rintro V ⟨E0, B0⟩; have HB := Lib.hid (And.intro E0 B0); have x0 : V.cell? ⟨B, 0, none⟩ = some (.int .i64 n) := B0.cell 0; have x1 : V.cell? ⟨B, 1, none⟩ = some (.slice sa sn sc) := B0.cell 1; have x2 : V.cell? ⟨B, 2, none⟩ = some (.slice va vn vc) := B0.cell 2; clear E0 B0; go_wp2_with fail; refine (Valid_c n ⟨sa, sn, sc⟩ ⟨va, vn, vc⟩ gs Ls zs _ (H.out.ext HB.out.1)).mono ?_; rw [HV.out]; rintro e w2 ⟨rfl, hx2⟩; have HX := Lib.hid (HB.out.1.trans hx2); have y1 : w2.cell? ⟨B, 1, none⟩ = some (.slice sa sn sc) := hx2.cell x1; clear x0 x1 x2 hx2; go_wp2_with fail; go_ret
        exact ⟨by rw [HR.out]; rfl, HX.out⟩
      · by_cases c4 : (sn : Int) ≤ set
        · have HR := Lib.hid (show checkE n Ls zs sn set = 7 by rw [HC.out, if_neg (by omega), if_neg (by omega), if_pos (.inr c4)])
          subst c1
          go_enter Try.func34, Try.ntmps34; go_upto_region 1 with (fail); refine wp_gen (fun W => Ext w W ∧ Blk W B #[.int .i64 n, .slice sa sn sc, .slice va vn vc] 31) ⟨(by repeat (first | exact Ext.refl _ | assumption | refine Ext.setCell ?_ (by first | (simp; done) | (simp; omega) | omega) _ | refine Ext.alloc ?_ _ | refine Ext.drew ?_ | refine Ext.trans ?_ (by assumption))), Blk.at _ 31 hB.symm⟩ ?_; rintro V ⟨E0, B0⟩; have HB := Lib.hid (And.intro E0 B0); have x0 : V.cell? ⟨B, 0, none⟩ = some (.int .i64 n) := B0.cell 0; have x1 : V.cell? ⟨B, 1, none⟩ = some (.slice sa sn sc) := B0.cell 1; have x2 : V.cell? ⟨B, 2, none⟩ = some (.slice va vn vc) := B0.cell 2; clear E0 B0; go_wp2_with fail; refine (Valid_c n ⟨sa, sn, sc⟩ ⟨va, vn, vc⟩ gs Ls zs _ (H.out.ext HB.out.1)).mono ?_; rw [HV.out]; rintro e w2 ⟨rfl, hx2⟩; have HX := Lib.hid (HB.out.1.trans hx2); have y1 : w2.cell? ⟨B, 1, none⟩ = some (.slice sa sn sc) := hx2.cell x1; clear x0 x1 x2 hx2; go_wp2_with fail; go_ret
          exact ⟨by rw [HR.out]; rfl, HX.out⟩
        · have HR := Lib.hid (show checkE n Ls zs sn set = 0 by rw [HC.out, if_neg (by omega), if_neg (by omega), if_neg (by omega)])
          subst c1
          go_enter Try.func34, Try.ntmps34; go_upto_region 1 with (fail); refine wp_gen (fun W => Ext w W ∧ Blk W B #[.int .i64 n, .slice sa sn sc, .slice va vn vc] 31) ⟨(by repeat (first | exact Ext.refl _ | assumption | refine Ext.setCell ?_ (by first | (simp; done) | (simp; omega) | omega) _ | refine Ext.alloc ?_ _ | refine Ext.drew ?_ | refine Ext.trans ?_ (by assumption))), Blk.at _ 31 hB.symm⟩ ?_; rintro V ⟨E0, B0⟩; have HB := Lib.hid (And.intro E0 B0); have x0 : V.cell? ⟨B, 0, none⟩ = some (.int .i64 n) := B0.cell 0; have x1 : V.cell? ⟨B, 1, none⟩ = some (.slice sa sn sc) := B0.cell 1; have x2 : V.cell? ⟨B, 2, none⟩ = some (.slice va vn vc) := B0.cell 2; clear E0 B0; go_wp2_with fail; refine (Valid_c n ⟨sa, sn, sc⟩ ⟨va, vn, vc⟩ gs Ls zs _ (H.out.ext HB.out.1)).mono ?_; rw [HV.out]; rintro e w2 ⟨rfl, hx2⟩; have HX := Lib.hid (HB.out.1.trans hx2); have y1 : w2.cell? ⟨B, 1, none⟩ = some (.slice sa sn sc) := hx2.cell x1; clear x0 x1 x2 hx2; go_wp2_with fail; go_ret
          exact ⟨by rw [HR.out]; rfl, HX.out⟩
    · have HR := Lib.hid (show checkE n Ls zs m set = 1 by rw [HC.out, if_neg (by omega), if_pos c2])
      have c2' : ((m : Int) == (sn : Int)) = false := by rw [beq_eq_false_iff_ne]; omega
      subst c1
      clear c2
      go_enter Try.func34, Try.ntmps34; go_upto_region 1 with (fail); refine wp_gen (fun W => Ext w W ∧ Blk W B #[.int .i64 n, .slice sa sn sc, .slice va vn vc] 31) ⟨(by repeat (first | exact Ext.refl _ | assumption | refine Ext.setCell ?_ (by first | (simp; done) | (simp; omega) | omega) _ | refine Ext.alloc ?_ _ | refine Ext.drew ?_ | refine Ext.trans ?_ (by assumption))), Blk.at _ 31 hB.symm⟩ ?_; rintro V ⟨E0, B0⟩; have HB := Lib.hid (And.intro E0 B0); have x0 : V.cell? ⟨B, 0, none⟩ = some (.int .i64 n) := B0.cell 0; have x1 : V.cell? ⟨B, 1, none⟩ = some (.slice sa sn sc) := B0.cell 1; have x2 : V.cell? ⟨B, 2, none⟩ = some (.slice va vn vc) := B0.cell 2; clear E0 B0; go_wp2_with fail; refine (Valid_c n ⟨sa, sn, sc⟩ ⟨va, vn, vc⟩ gs Ls zs _ (H.out.ext HB.out.1)).mono ?_; rw [HV.out]; rintro e w2 ⟨rfl, hx2⟩; have HX := Lib.hid (HB.out.1.trans hx2); have y1 : w2.cell? ⟨B, 1, none⟩ = some (.slice sa sn sc) := hx2.cell x1; clear x0 x1 x2 hx2; go_wp2_with fail; go_ret
      exact ⟨by rw [HR.out]; rfl, HX.out⟩
  · have HR := Lib.hid (show checkE n Ls zs m set = v by rw [HC.out, if_pos c1])
    have c1' : (v == 0) = false := by rw [beq_eq_false_iff_ne]; exact c1
    clear c1
    go_enter Try.func34, Try.ntmps34; go_upto_region 1 with (fail); refine wp_gen (fun W => Ext w W ∧ Blk W B #[.int .i64 n, .slice sa sn sc, .slice va vn vc] 31) ⟨(by repeat (first | exact Ext.refl _ | assumption | refine Ext.setCell ?_ (by first | (simp; done) | (simp; omega) | omega) _ | refine Ext.alloc ?_ _ | refine Ext.drew ?_ | refine Ext.trans ?_ (by assumption))), Blk.at _ 31 hB.symm⟩ ?_; rintro V ⟨E0, B0⟩; have HB := Lib.hid (And.intro E0 B0); have x0 : V.cell? ⟨B, 0, none⟩ = some (.int .i64 n) := B0.cell 0; have x1 : V.cell? ⟨B, 1, none⟩ = some (.slice sa sn sc) := B0.cell 1; have x2 : V.cell? ⟨B, 2, none⟩ = some (.slice va vn vc) := B0.cell 2; clear E0 B0; go_wp2_with fail; refine (Valid_c n ⟨sa, sn, sc⟩ ⟨va, vn, vc⟩ gs Ls zs _ (H.out.ext HB.out.1)).mono ?_; rw [HV.out]; rintro e w2 ⟨rfl, hx2⟩; have HX := Lib.hid (HB.out.1.trans hx2); have y1 : w2.cell? ⟨B, 1, none⟩ = some (.slice sa sn sc) := hx2.cell x1; clear x0 x1 x2 hx2; go_wp2_with fail; go_ret
    exact ⟨by rw [HR.out]; rfl, HX.out⟩
/-- Whether a set is determined. -/
noncomputable def dB (Ls : List (List Int)) (hs : List Bool) (k : Nat) : Bool := @decide (Det Ls hs k) (Classical.propDecidable _)
theorem dB_iff (Ls : List (List Int)) (hs : List Bool) (k : Nat) : dB Ls hs k = true ↔ Det Ls hs k := by unfold dB; exact @decide_eq_true_iff _ (Classical.propDecidable _)
theorem dB_of {Ls : List (List Int)} {hs : List Bool} {k : Nat} {b : Bool} (h : b = true ↔ Det Ls hs k) : b = dB Ls hs k := by
  rw [Bool.eq_iff_iff, h, dB_iff]
set_option maxRecDepth 100000 in
set_option maxHeartbeats 4000000 in
theorem Determined_c (n : Int) (ss vs : Sl) (gs : List Sl) (Ls : List (List Int)) (zs : List Int) (ha : Option Addr) (m hc : Nat) (hs : List Bool) (set : Int) (w : World) (h : ShIn w n ss vs gs Ls zs) (hH : Bls w ha m hs) (hm : m ≤ 1000000) (hf : checkE n Ls zs m set = 0 → FewOK Ls) :
    Calls Try.prog 17 #[.agg #[.int .i64 n, ss.v, vs.v], .slice ha m hc, .int .i64 set] w fun e w' => e = .returned (.tuple #[.bool (if checkE n Ls zs m set = 0 then dB Ls hs set.toNat else false), .int .i64 (checkE n Ls zs m set)]) ∧ Ext w w' := by
  have H := Lib.hid (And.intro h (And.intro hH hf))
  clear h hH hf
  obtain ⟨v, hv⟩ : ∃ v, checkE n Ls zs m set = v := ⟨_, rfl⟩
  have HV := Lib.hid hv
  rw [hv]
  obtain ⟨sa, sn, sc⟩ := ss
  obtain ⟨va, vn, vc⟩ := vs
  obtain ⟨B, hB⟩ : ∃ B, w.heap.size = B := ⟨_, rfl⟩
  simp only [Sl.v]
  by_cases c1 : v = 0
  · rw [if_pos c1]
    rw [c1] at hv
    obtain ⟨v1, v2, v3, v4⟩ := checkE_ok hv
    obtain ⟨u1, u2, u3, _, _⟩ := validE_of v1
    obtain ⟨N, rfl⟩ : ∃ N : Nat, n = (N : Int) := ⟨n.toNat, by omega⟩
    obtain ⟨k, rfl⟩ : ∃ k : Nat, set = (k : Int) := ⟨set.toNat, by omega⟩
    have hG := H.out.1.sheet v1
    have hfo := H.out.2.2 hv
    have hks : k < sn := by have := H.out.1.grps.2.1; simp only at this; omega
    have HG := Lib.hid (And.intro hG (And.intro hfo v2))
    have HDI := Lib.hid (det_iff (n := N) hs hfo (fun k x hx => (hG.cell k x hx).2) k)
    have hok := solve_ok hs hfo (fun k x hx => (hG.cell k x hx).2) Ls.length (Nat.le_refl _)
    have HOK := Lib.hid hok
    have hN : N ≤ 1000 := by omega
    simp only [Int.toNat_natCast]
    clear hv v1 v2 v3 v4 u1 u2 u3 hG hfo hok
    subst c1
    go_enter Try.func17, Try.ntmps17; go_upto_region 1 with (fail); refine wp_gen (fun W => Ext w W ∧ Blk W B #[.int .i64 (N : Int), .slice sa sn sc, .slice va vn vc] 31) ⟨(by repeat (first | exact Ext.refl _ | assumption | refine Ext.setCell ?_ (by first | (simp; done) | (simp; omega) | omega) _ | refine Ext.alloc ?_ _ | refine Ext.drew ?_ | refine Ext.trans ?_ (by assumption))), Blk.at _ 31 hB.symm⟩ ?_; rintro V ⟨E0, B0⟩; have HB := Lib.hid (And.intro E0 B0); have x0 : V.cell? ⟨B, 0, none⟩ = some (.int .i64 (N : Int)) := B0.cell 0; have x1 : V.cell? ⟨B, 1, none⟩ = some (.slice sa sn sc) := B0.cell 1; have x2 : V.cell? ⟨B, 2, none⟩ = some (.slice va vn vc) := B0.cell 2; clear E0 B0; go_wp2_with fail; refine (shcheck_c (N : Int) ⟨sa, sn, sc⟩ ⟨va, vn, vc⟩ gs Ls zs ha m hc _ _ (H.out.1.ext HB.out.1) hm).mono ?_; rw [HV.out]; rintro e w2 ⟨rfl, hx2⟩; have HX := Lib.hid (HB.out.1.trans hx2); have y0 : w2.cell? ⟨B, 0, none⟩ = some (.int .i64 (N : Int)) := hx2.cell x0; have y1 : w2.cell? ⟨B, 1, none⟩ = some (.slice sa sn sc) := hx2.cell x1; have y2 : w2.cell? ⟨B, 2, none⟩ = some (.slice va vn vc) := hx2.cell x2; clear x0 x1 x2 hx2; go_wp2_with fail
    refine (solve_c N m ⟨sa, sn, sc⟩ ⟨va, vn, vc⟩ gs Ls ha hc hs _ (HG.out.1.ext HX.out) HG.out.2.2.symm HG.out.2.1 hN (H.out.2.1.ext HX.out)).mono ?_
    rintro e w3 ⟨xb, rv, lv, bs, rfl, hS, hx3⟩
    have HS := Lib.hid (And.intro hS (HX.out.trans hx3))
    clear hS hx3 y0 y1 y2
    go_wp2_with fail
    refine (det_c _ xb N (solveR N Ls hs Ls.length).length k ⟨sa, sn, sc⟩ ⟨va, vn, vc⟩ rv lv (solveR N Ls hs m) bs gs Ls _ HS.out.1 (HG.out.1.ext HS.out.2) hks hN (by rw [HG.out.2.2]; exact HOK.out.sol) HOK.out.le12).mono ?_
    rw [HG.out.2.2, dB_of HDI.out]
    rintro e w4 ⟨rfl, hx4⟩
    go_wp2_with fail
    go_ret2
    exact ⟨rfl, HS.out.2.trans hx4⟩
  · rw [if_neg c1]
    have c1' : (v == 0) = false := by rw [beq_eq_false_iff_ne]; exact c1
    clear c1 hv
    go_enter Try.func17, Try.ntmps17; go_upto_region 1 with (fail); refine wp_gen (fun W => Ext w W ∧ Blk W B #[.int .i64 n, .slice sa sn sc, .slice va vn vc] 31) ⟨(by repeat (first | exact Ext.refl _ | assumption | refine Ext.setCell ?_ (by first | (simp; done) | (simp; omega) | omega) _ | refine Ext.alloc ?_ _ | refine Ext.drew ?_ | refine Ext.trans ?_ (by assumption))), Blk.at _ 31 hB.symm⟩ ?_; rintro V ⟨E0, B0⟩; have HB := Lib.hid (And.intro E0 B0); have x0 : V.cell? ⟨B, 0, none⟩ = some (.int .i64 n) := B0.cell 0; have x1 : V.cell? ⟨B, 1, none⟩ = some (.slice sa sn sc) := B0.cell 1; have x2 : V.cell? ⟨B, 2, none⟩ = some (.slice va vn vc) := B0.cell 2; clear E0 B0; go_wp2_with fail; refine (shcheck_c n ⟨sa, sn, sc⟩ ⟨va, vn, vc⟩ gs Ls zs ha m hc _ _ (H.out.1.ext HB.out.1) hm).mono ?_; rw [HV.out]; rintro e w2 ⟨rfl, hx2⟩; have HX := Lib.hid (HB.out.1.trans hx2); have y0 : w2.cell? ⟨B, 0, none⟩ = some (.int .i64 n) := hx2.cell x0; have y1 : w2.cell? ⟨B, 1, none⟩ = some (.slice sa sn sc) := hx2.cell x1; have y2 : w2.cell? ⟨B, 2, none⟩ = some (.slice va vn vc) := hx2.cell x2; clear x0 x1 x2 hx2; go_wp2_with fail
    go_ret2
    exact ⟨rfl, HX.out⟩
end Go.Proofs.Ytkoidookanmknaa
