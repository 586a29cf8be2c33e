/- V17 V18 V19: several texts of this proof in one. -/
import Derived.Test.YtkoidookanmknaaSV16
namespace Go.Proofs.Ytkoidookanmknaa
set_option linter.unusedSimpArgs false
set_option linter.unusedVariables false
open Go.RowKit

def badC (n : Int) (l : List Int) (k : Nat) : Bool := decide (l.getD k 0 < 0) || decide (n ≤ l.getD k 0) || (decide (0 < k) && decide (l.getD k 0 ≤ l.getD (k - 1) 0))
def itemBad (n : Int) (Ls : List (List Int)) (zs : List Int) (i : Nat) : Bool := (Ls.getD i []).isEmpty || decide (zs.getD i 0 < 0) || decide (1099511627776 < zs.getD i 0) || (List.range (Ls.getD i []).length).any (badC n (Ls.getD i []))
/-- The error of a sheet. -/
def validE (n : Int) (Ls : List (List Int)) (zs : List Int) : Int :=
 if 32 < n ∨ 128 < Ls.length then 4 else if n < 0 ∨ zs.length ≠ Ls.length then 1 else if (List.range Ls.length).any (itemBad n Ls zs) = true then 1 else 0
theorem validE_bad {n : Int} {Ls : List (List Int)} {zs : List Int} {i : Nat} (h1 : ¬ 32 < n) (h2 : ¬ 128 < Ls.length) (hi : i < Ls.length) (hb : itemBad n Ls zs i = true) : validE n Ls zs = 1 := by
 unfold validE
 rw [if_neg (by omega)]
 split
 ·rfl
 ·rw [if_pos (List.any_eq_true.2 ⟨i, List.mem_range.2 hi, hb⟩)]
theorem validE_ok {n : Int} {Ls : List (List Int)} {zs : List Int} (h1 : ¬ 32 < n) (h2 : ¬ 128 < Ls.length) (h3 : ¬ n < 0) (h4 : zs.length = Ls.length) (hb : ∀ i, i < Ls.length → itemBad n Ls zs i = false) : validE n Ls zs = 0 := by
 unfold validE
 rw [if_neg (by omega), if_neg (by omega), if_neg]
 intro h
 obtain ⟨i, hi, h5⟩ := List.any_eq_true.1 h
 rw [hb i (List.mem_range.1 hi)] at h5
 cases h5
theorem validE_of {n : Int} {Ls : List (List Int)} {zs : List Int} (h : validE n Ls zs = 0) : n ≤ 32 ∧ Ls.length ≤ 128 ∧ 0 ≤ n ∧ zs.length = Ls.length ∧ ∀ i, i < Ls.length → itemBad n Ls zs i = false := by
 unfold validE at h
 split at h
 ·omega
 ·rename_i h1
  split at h
  ·omega
  ·rename_i h2
   split at h
   ·omega
   ·rename_i h3
    refine ⟨by omega, by omega, by omega, by omega, fun i hi => ?_⟩
    cases h5 : itemBad n Ls zs i with
    | false => rfl
    | true => exact absurd (List.any_eq_true.2 ⟨i, List.mem_range.2 hi, h5⟩) h3
theorem itemBad_cell {n : Int} {Ls : List (List Int)} {zs : List Int} {i k : Nat} (hk : k < (Ls.getD i []).length) (hb : badC n (Ls.getD i []) k = true) : itemBad n Ls zs i = true := by
 unfold itemBad
 rw [List.any_eq_true.2 ⟨k, List.mem_range.2 hk, hb⟩]
 simp
theorem itemBad_no {n : Int} {Ls : List (List Int)} {zs : List Int} {i : Nat} (h1 : (Ls.getD i []).length ≠ 0) (h2 : ¬ zs.getD i 0 < 0) (h3 : ¬ 1099511627776 < zs.getD i 0) (hb : ∀ k, k < (Ls.getD i []).length → badC n (Ls.getD i []) k = false) : itemBad n Ls zs i = false := by
 unfold itemBad
 rw [decide_eq_false h2, decide_eq_false h3]
 have h4 : (Ls.getD i []).isEmpty = false := by cases h : Ls.getD i [] with | nil => rw [h] at h1; exact absurd rfl h1 | cons a l => rfl
 have h5 : (List.range (Ls.getD i []).length).any (badC n (Ls.getD i [])) = false := by
  cases h : (List.range (Ls.getD i []).length).any (badC n (Ls.getD i [])) with
  | false => rfl
  | true =>
   obtain ⟨k, hk, h6⟩ := List.any_eq_true.1 h
   rw [hb k (List.mem_range.1 hk)] at h6
   cases h6
 rw [h4, h5]
 rfl
/-- What a valid item is. -/
theorem item_cells {n : Int} {Ls : List (List Int)} {zs : List Int} {i : Nat} (h : itemBad n Ls zs i = false) : (Ls.getD i []) ≠ [] ∧ ∀ k, k < (Ls.getD i []).length → (k : Int) ≤ (Ls.getD i []).getD k 0 ∧ (Ls.getD i []).getD k 0 < n := by
 unfold itemBad at h
 simp only [Bool.or_eq_false_iff] at h
 obtain ⟨⟨⟨h1, _⟩, _⟩, h4⟩ := h
 have hb : ∀ k, k < (Ls.getD i []).length → badC n (Ls.getD i []) k = false := fun k hk => by
  cases hc : badC n (Ls.getD i []) k with
  | false => rfl
  | true => rw [List.any_eq_true.2 ⟨k, List.mem_range.2 hk, hc⟩] at h4; cases h4
 refine ⟨(fun e => by rw [e] at h1; cases h1), fun k => ?_⟩
 induction k with
 | zero =>
  intro hk
  have := hb 0 hk
  unfold badC at this
  simp only [Bool.or_eq_false_iff, decide_eq_false_iff_not] at this
  omega
 | succ k ih =>
  intro hk
  have h2 := ih (by omega)
  have := hb (k + 1) hk
  unfold badC at this
  simp only [Bool.or_eq_false_iff, decide_eq_false_iff_not, Bool.and_eq_false_iff] at this
  simp only [Nat.add_sub_cancel] at this
  omega
/-- A sheet in memory. -/
structure ShIn (w : World) (n : Int) (ss vs : Sl) (gs : List Sl) (Ls : List (List Int)) (zs : List Int) : Prop where
 grps : Grps w ss.a ss.n gs Ls
 vals : Ints w vs.a vs.n zs
 len : ∀ k, (Ls.getD k []).length ≤ 1000
theorem ShIn.ext {w w' : World} {n : Int} {ss vs : Sl} {gs : List Sl} {Ls : List (List Int)} {zs : List Int} (h : ShIn w n ss vs gs Ls zs) (k : Ext w w') : ShIn w' n ss vs gs Ls zs := ⟨h.grps.ext k, h.vals.keep k.ik, h.len⟩
theorem ShIn.sheet {w : World} {n : Nat} {ss vs : Sl} {gs : List Sl} {Ls : List (List Int)} {zs : List Int} (h : ShIn w n ss vs gs Ls zs) (hv : validE n Ls zs = 0) : SheetOK w n ss gs Ls := by
 obtain ⟨_, _, _, _, h5⟩ := validE_of hv
 refine ⟨h.grps, fun k x hx => ?_, h.len⟩
 rcases Nat.lt_or_ge k Ls.length with hk | hk
 ·obtain ⟨_, hc⟩ := item_cells (h5 k hk)
  obtain ⟨j, hj, rfl⟩ := List.getElem_of_mem hx
  have := hc j hj
  have e : (Ls.getD k []).getD j 0 = (Ls.getD k [])[j] := by rw [List.getD_eq_getElem?_getD, List.getElem?_eq_getElem hj]; rfl
  rw [e] at this
  omega
 ·rw [List.getD_eq_getElem?_getD, List.getElem?_eq_none hk] at hx
  simp at hx
theorem badC_neg {n : Int} {l : List Int} {k : Nat} (h : l.getD k 0 < 0) : badC n l k = true := by unfold badC; rw [decide_eq_true h]; rfl
theorem badC_ge {n : Int} {l : List Int} {k : Nat} (h : n ≤ l.getD k 0) : badC n l k = true := by unfold badC; rw [decide_eq_true h]; simp
theorem badC_le {n : Int} {l : List Int} {k : Nat} (h0 : 0 < k) (h : l.getD k 0 ≤ l.getD (k - 1) 0) : badC n l k = true := by unfold badC; rw [decide_eq_true h0, decide_eq_true h]; simp
theorem badC_no {n : Int} {l : List Int} {k : Nat} (h1 : ¬ l.getD k 0 < 0) (h2 : ¬ n ≤ l.getD k 0) (h3 : 0 < k → ¬ l.getD k 0 ≤ l.getD (k - 1) 0) : badC n l k = false := by
 unfold badC
 rw [decide_eq_false h1, decide_eq_false h2]
 by_cases h0 : 0 < k
 ·rw [decide_eq_false (h3 h0)]; simp
 ·rw [decide_eq_false h0]; rfl
set_option maxRecDepth 100000 in
set_option maxHeartbeats 8000000 in
theorem Valid_c (n : Int) (ss vs : Sl) (gs : List Sl) (Ls : List (List Int)) (zs : List Int) (w : World) (h : ShIn w n ss vs gs Ls zs) :
  Calls Try.prog 12 #[.agg #[.int .i64 n, ss.v, vs.v]] w fun e w' => e = .returned (.int .i64 (validE n Ls zs)) ∧ Ext w w' := by
 obtain ⟨sa, sn, sc⟩ := ss
 obtain ⟨va, vn, vc⟩ := vs
 have hsn := h.grps.2.1
 have hvn := h.vals.1
 have hs1 := h.grps.2.2.1
 have hv1 := h.vals.2.1
 simp only at hsn hvn hs1 hv1
 have H := Lib.hid h
 have HL := Lib.hid (And.intro hsn hvn)
 simp only [Sl.v]
 obtain ⟨B, hB⟩ : ∃ B, w.heap.size = B := ⟨_, rfl⟩
 have start : ∀ W, Ext w W → True := fun _ _ => trivial
 clear h start
 by_cases c1 : 32 < n
 ·have HV := Lib.hid (show validE n Ls zs = 4 by unfold validE; rw [if_pos (.inl c1)])
  clear hsn hvn
  go_enter Try.func12, Try.ntmps12
  go_wp2_with fail
  go_ret
  exact ⟨by rw [HV.out]; rfl, (by repeat (first | exact Ext.refl _ | assumption | refine Ext.setCell ?_ (by first | (simp; done) | (simp; omega) | omega) _ | refine Ext.alloc ?_ _ | refine Ext.drew ?_ | refine Ext.trans ?_ (by assumption)))⟩
 by_cases c2 : 128 < sn
 ·have HV := Lib.hid (show validE n Ls zs = 4 by unfold validE; rw [if_pos (.inr (by omega))])
  have c2' : (128 : Int) < (sn : Int) := by omega
  clear hsn hvn
  go_enter Try.func12, Try.ntmps12
  go_wp2_with fail
  go_ret
  exact ⟨by rw [HV.out]; rfl, (by repeat (first | exact Ext.refl _ | assumption | refine Ext.setCell ?_ (by first | (simp; done) | (simp; omega) | omega) _ | refine Ext.alloc ?_ _ | refine Ext.drew ?_ | refine Ext.trans ?_ (by assumption)))⟩
 by_cases c3 : n < 0
 ·have HV := Lib.hid (show validE n Ls zs = 1 by unfold validE; rw [if_neg (by omega), if_pos (.inl c3)])
  have c2' : ¬ (128 : Int) < (sn : Int) := by omega
  clear hsn hvn
  go_enter Try.func12, Try.ntmps12
  go_wp2_with fail
  go_ret
  exact ⟨by rw [HV.out]; rfl, (by repeat (first | exact Ext.refl _ | assumption | refine Ext.setCell ?_ (by first | (simp; done) | (simp; omega) | omega) _ | refine Ext.alloc ?_ _ | refine Ext.drew ?_ | refine Ext.trans ?_ (by assumption)))⟩
 have HC1 := Lib.hid (And.intro c1 c3)
 by_cases c4 : vn = sn
 ·subst c4
  have c2' : ¬ (128 : Int) < (vn : Int) := by omega
  go_enter Try.func12, Try.ntmps12
  go_upto_region 5 with (fail)
  refine wp_gen (fun W => Ext w W ∧ Blk W B #[.int .i64 n, .slice sa vn sc, .slice va vn vc] 31) ⟨(by repeat (first | exact Ext.refl _ | assumption | refine Ext.setCell ?_ (by first | (simp; done) | (simp; omega) | omega) _ | refine Ext.alloc ?_ _ | refine Ext.drew ?_ | refine Ext.trans ?_ (by assumption))), Blk.at _ 31 hB.symm⟩ ?_
  rintro V ⟨E0, B0⟩
  have HB := Lib.hid B0
  have HC := Lib.hid (And.intro (show ¬ 128 < Ls.length by omega) (And.intro (show zs.length = Ls.length by omega) (show Ls.length = vn by omega)))
  have HE := Lib.hid E0
  have x1 : V.cell? ⟨B, 1, none⟩ = some (.slice sa vn sc) := B0.cell 1
  clear hsn hvn E0 B0
  go_upto_region 6 with (fail)
  clear x1
  go_loopw [31] (fun iv ws => ∃ i : Nat, i ≤ vn ∧ iv = .int .i64 (i : Int) ∧ (∀ j, j < i → itemBad n Ls zs j = false) ∧ Ext V ws) (fun iv _ => vn - (intOf iv).toNat)
  case atStart => exact ⟨0, by omega, rfl, fun j hj => absurd hj (by omega), Ext.refl V⟩
  case round =>
   obtain ⟨i, hi, rfl, hz, hE⟩ := hrel
   have HZ := Lib.hid hz
   clear hz
   by_cases hlt : i < vn
   ·have hEw := HE.out.trans hE
    obtain ⟨gb, go, rfl, hgb, hgc⟩ := (H.out.grps.ext hEw).at i hlt
    obtain ⟨vb, vo, rfl, hvb, hvc⟩ := (H.out.vals.keep hEw.ik).at i hlt
    have HI := Lib.hid (H.out.grps.2.2.2.2 i hlt)
    have hln := (H.out.grps.2.2.2.2 i hlt).1
    have hlm := H.out.len i
    generalize hsg : gs.getD i sl0 = sg at HI hgc hln
    obtain ⟨ga, gn, gc⟩ := sg
    simp only at HI hgc hln
    simp only [Sl.v] at hgc
    have hBr := HB.out.ext hE
    have y0 : wr.cell? ⟨B, 0, none⟩ = some (.int .i64 n) := hBr.cell 0
    have y2 : wr.cell? ⟨B, 2, none⟩ = some (.slice (some ⟨vb, vo, none⟩) vn vc) := hBr.cell 2
    have HEw := Lib.hid hEw
    have HER := Lib.hid hE
    have i0 : (0 : Int) ≤ (i : Int) := by omega
    have i1 : (i : Int) < (vn : Int) := by omega
    clear hEw hE hBr hsg
    by_cases d1 : gn = 0
    ·have HV := Lib.hid (validE_bad (n := n) (zs := zs) (by have := HC1.out.1; omega) HC.out.1 (by rw [HC.out.2.2]; exact hlt) (show itemBad n Ls zs i = true by
      unfold itemBad
      rw [List.isEmpty_iff.2 (List.eq_nil_of_length_eq_zero (by omega))]; rfl))
     have d1' : ((gn : Int) == 0) = true := by rw [d1]; rfl
     clear hln hlm d1
     go_wp2_with fail
     go_ret
     exact ⟨by rw [HV.out]; rfl, HEw.out⟩
    have d1' : ((gn : Int) == 0) = false := by rw [beq_eq_false_iff_ne]; omega
    obtain ⟨z, hzz⟩ : ∃ z, zs.getD i 0 = z := ⟨_, rfl⟩
    rw [hzz] at hvc
    have HZZ := Lib.hid hzz
    clear hzz
    by_cases d2 : z < 0
    ·have HV := Lib.hid (validE_bad (n := n) (zs := zs) (by have := HC1.out.1; omega) HC.out.1 (by rw [HC.out.2.2]; exact hlt) (show itemBad n Ls zs i = true by
      unfold itemBad
      rw [HZZ.out, decide_eq_true d2]; simp))
     clear hln hlm d1
     go_wp2_with fail
     go_ret
     exact ⟨by rw [HV.out]; rfl, HEw.out⟩
    by_cases d3 : 1099511627776 < z
    ·have HV := Lib.hid (validE_bad (n := n) (zs := zs) (by have := HC1.out.1; omega) HC.out.1 (by rw [HC.out.2.2]; exact hlt) (show itemBad n Ls zs i = true by
      unfold itemBad
      rw [HZZ.out, decide_eq_true d3]; simp))
     clear hln hlm d1
     go_wp2_with fail
     go_ret
     exact ⟨by rw [HV.out]; rfl, HEw.out⟩
    obtain ⟨l, hl⟩ : ∃ l, Ls.getD i [] = l := ⟨_, rfl⟩
    rw [hl] at HI hln hlm
    have HLL := Lib.hid hl
    clear hl
    have glm : (gn : Int) ≤ 1000 := by omega
    have HD := Lib.hid (And.intro hln (And.intro d1 (And.intro d2 d3)))
    clear hln d1
    go_upto_region 11 with (fail)
    clear hgc hvc y0 y2 d1' d2 d3
    obtain ⟨wo, hwo⟩ : ∃ wo : World, wo = wr := ⟨_, rfl⟩
    subst hwo
    go_loopw [57] (fun kv ws => ∃ k : Nat, k ≤ gn ∧ kv = .int .i64 (k : Int) ∧ (∀ j, j < k → badC n l j = false) ∧ Ext wo ws) (fun kv _ => gn - (intOf kv).toNat)
    case atStart => exact ⟨0, by omega, rfl, fun j hj => absurd hj (by omega), Ext.refl wo⟩
    case round =>
     obtain ⟨k, hk, rfl, hz, hE⟩ := hrel
     have HZK := Lib.hid hz
     clear hz
     by_cases hlk : k < gn
     ·have hEw := HEw.out.trans hE
      have hin := HI.out.keep hEw.ik
      obtain ⟨lb, lo, rfl, hlb, hlc⟩ := hin.at k hlk
      have y0 : wr.cell? ⟨B, 0, none⟩ = some (.int .i64 n) := (HB.out.ext (HER.out.trans hE)).cell 0
      have HE2 := Lib.hid hE
      have HEw2 := Lib.hid hEw
      have HIN := Lib.hid hin
      have k0 : (0 : Int) ≤ (k : Int) := by omega
      have k1 : (k : Int) < (gn : Int) := by omega
      obtain ⟨c, hcc⟩ : ∃ c, l.getD k 0 = c := ⟨_, rfl⟩
      rw [hcc] at hlc
      have HCC := Lib.hid hcc
      clear hE hEw hin hcc
      by_cases f1 : c < 0
      ·have HV := Lib.hid (validE_bad (n := n) (zs := zs) (by have := HC1.out.1; omega) HC.out.1 (by rw [HC.out.2.2]; exact hlt) (itemBad_cell (zs := zs) (k := k) (by rw [HLL.out, HD.out.1]; exact hlk) (by rw [HLL.out]; exact badC_neg (by rw [HCC.out]; omega))))
       go_wp2_with fail
       go_ret
       exact ⟨by rw [HV.out]; rfl, HEw2.out⟩
      by_cases f2 : n ≤ c
      ·have HV := Lib.hid (validE_bad (n := n) (zs := zs) (by have := HC1.out.1; omega) HC.out.1 (by rw [HC.out.2.2]; exact hlt) (itemBad_cell (zs := zs) (k := k) (by rw [HLL.out, HD.out.1]; exact hlk) (by rw [HLL.out]; exact badC_ge (by rw [HCC.out]; omega))))
       go_wp2_with fail
       go_ret
       exact ⟨by rw [HV.out]; rfl, HEw2.out⟩
      by_cases f3 : 0 < k
      ·obtain ⟨j, hj⟩ : ∃ j : Nat, (k : Int) - 1 = (j : Int) := ⟨k - 1, by omega⟩
       have hjk : j = k - 1 := by omega
       obtain ⟨lb', lo', e1, _, hld⟩ := HIN.out.at j (by omega)
       injection e1 with e1
       injection e1 with e1 e2
       subst e1; subst e2
       obtain ⟨d, hdd⟩ : ∃ d, l.getD j 0 = d := ⟨_, rfl⟩
       rw [hdd] at hld
       have HDD := Lib.hid hdd
       have HJK := Lib.hid hjk
       have f3' : (0 : Int) < (k : Int) := by omega
       have j0 : (0 : Int) ≤ (j : Int) := by omega
       have j1 : (j : Int) < (gn : Int) := by omega
       clear hdd hjk
       by_cases f4 : c ≤ d
       ·have HV := Lib.hid (validE_bad (n := n) (zs := zs) (by have := HC1.out.1; omega) HC.out.1 (by rw [HC.out.2.2]; exact hlt) (itemBad_cell (zs := zs) (k := k) (by rw [HLL.out, HD.out.1]; exact hlk) (by rw [HLL.out]; exact badC_le f3 (by rw [HCC.out, ← HJK.out, HDD.out]; omega))))
        go_wp2_with fail
        go_ret
        exact ⟨by rw [HV.out]; rfl, HEw2.out⟩
       ·have HN := Lib.hid (badC_no (n := n) (l := l) (k := k) (by rw [HCC.out]; omega) (by rw [HCC.out]; omega) (fun _ => by rw [HCC.out, ← HJK.out, HDD.out]; omega))
        have f5 : decide (c ≤ d) = false := by rw [decide_eq_false_iff_not]; omega
        clear f4
        go_wp2_with fail
        go_roundw
        case rel => exact ⟨k + 1, by omega, by go_num, fun j hj => by
         by_cases e : j = k
         ·rw [e]; exact HN.out
         ·exact HZK.out j (by omega), HE2.out⟩
        case measure => simp [intOf]; omega
      ·have HN := Lib.hid (badC_no (n := n) (l := l) (k := k) (by rw [HCC.out]; omega) (by rw [HCC.out]; omega) (fun h => absurd h (by omega)))
       have f3' : ¬ (0 : Int) < (k : Int) := by omega
       go_wp2_with fail
       go_roundw
       case rel => exact ⟨k + 1, by omega, by go_num, fun j hj => by
        by_cases e : j = k
        ·rw [e]; exact HN.out
        ·exact HZK.out j (by omega), HE2.out⟩
       case measure => simp [intOf]; omega
     ·obtain rfl : gn = k := by omega
      have HN := Lib.hid (itemBad_no (n := n) (Ls := Ls) (zs := zs) (i := i) (by rw [HLL.out, HD.out.1]; exact HD.out.2.1) (by rw [HZZ.out]; have := HD.out.2.2.1; omega) (by rw [HZZ.out]; have := HD.out.2.2.2; omega) (fun k hk => by rw [HLL.out, HD.out.1] at hk; rw [HLL.out]; exact HZK.out k hk))
      have HEF := Lib.hid (HER.out.trans hE)
      clear hE
      go_wp2_with fail
      go_roundw
      case rel => exact ⟨i + 1, by omega, by go_num, fun j hj => by
       by_cases e : j = i
       ·rw [e]; exact HN.out
       ·exact HZ.out j (by omega), HEF.out⟩
      case measure => simp [intOf]; omega
   ·obtain rfl : vn = i := by omega
    have HV := Lib.hid (validE_ok (n := n) (by have := HC1.out.1; omega) HC.out.1 (by have := HC1.out.2; omega) HC.out.2.1 (fun j hj => HZ.out j (by rw [HC.out.2.2] at hj; exact hj)))
    go_wp2_with fail
    go_ret
    exact ⟨by rw [HV.out]; rfl, HE.out.trans hE⟩
 ·have HV := Lib.hid (show validE n Ls zs = 1 by unfold validE; rw [if_neg (by omega), if_pos (.inr (by omega))])
  have c2' : ¬ (128 : Int) < (sn : Int) := by omega
  have c4' : ((vn : Int) == (sn : Int)) = false := by rw [beq_eq_false_iff_ne]; omega
  clear hsn hvn c4
  go_enter Try.func12, Try.ntmps12
  go_wp2_with fail
  go_ret
  exact ⟨by rw [HV.out]; rfl, (by repeat (first | exact Ext.refl _ | assumption | refine Ext.setCell ?_ (by first | (simp; done) | (simp; omega) | omega) _ | refine Ext.alloc ?_ _ | refine Ext.drew ?_ | refine Ext.trans ?_ (by assumption)))⟩
end Go.Proofs.Ytkoidookanmknaa
namespace Go.Proofs.Ytkoidookanmknaa
set_option linter.unusedSimpArgs false
set_option linter.unusedVariables false
open Go.RowKit

/-- The error of a sheet, hidden sets and a set. -/
def checkE (n : Int) (Ls : List (List Int)) (zs : List Int) (m : Nat) (set : Int) : Int :=
 if validE n Ls zs ≠ 0 then validE n Ls zs else if m ≠ Ls.length then 1 else if set < 0 ∨ (Ls.length : Int) ≤ set then 7 else 0
theorem checkE_ok {n : Int} {Ls : List (List Int)} {zs : List Int} {m : Nat} {set : Int} (h : checkE n Ls zs m set = 0) : validE n Ls zs = 0 ∧ m = Ls.length ∧ 0 ≤ set ∧ set < Ls.length := by
 unfold checkE at h
 split at h
 ·rename_i h1; exact absurd h h1
 ·rename_i h1
  split at h
  ·omega
  ·rename_i h2
   split at h
   ·omega
   ·exact ⟨by omega, by omega, by omega, by omega⟩
set_option maxRecDepth 100000 in
set_option maxHeartbeats 4000000 in
theorem shcheck_c (n : Int) (ss vs : Sl) (gs : List Sl) (Ls : List (List Int)) (zs : List Int) (ha : Option Addr) (m hc : Nat) (set : Int) (w : World) (h : ShIn w n ss vs gs Ls zs) (hm : m ≤ 1000000) :
  Calls Try.prog 34 #[.agg #[.int .i64 n, ss.v, vs.v], .slice ha m hc, .int .i64 set] w fun e w' => e = .returned (.int .i64 (checkE n Ls zs m set)) ∧ Ext w w' := by
 have H := Lib.hid h
 have hsn := h.grps.2.1
 have hs1 := h.grps.2.2.1
 clear h
 obtain ⟨v, hv⟩ : ∃ v, validE n Ls zs = v := ⟨_, rfl⟩
 have hC : checkE n Ls zs m set = if v ≠ 0 then v else if m ≠ ss.n then 1 else if set < 0 ∨ (ss.n : Int) ≤ set then 7 else 0 := by unfold checkE; rw [hv, hsn]
 have HC := Lib.hid hC
 have HV := Lib.hid hv
 obtain ⟨sa, sn, sc⟩ := ss
 obtain ⟨va, vn, vc⟩ := vs
 simp only at HC hs1
 simp only [Sl.v]
 obtain ⟨B, hB⟩ : ∃ B, w.heap.size = B := ⟨_, rfl⟩
 clear hC hv hsn
 by_cases c1 : v = 0
 ·by_cases c2 : m = sn
  ·obtain rfl := c2.symm
   by_cases c3 : set < 0
   ·have HR := Lib.hid (show checkE n Ls zs sn set = 7 by rw [HC.out, if_neg (by omega), if_neg (by omega), if_pos (.inl c3)])
    subst c1
    go_enter Try.func34, Try.ntmps34; go_upto_region 1 with (fail); refine wp_gen (fun W => Ext w W ∧ Blk W B #[.int .i64 n, .slice sa sn sc, .slice va vn vc] 31) ⟨(by repeat (first | exact Ext.refl _ | assumption | refine Ext.setCell ?_ (by first | (simp; done) | (simp; omega) | omega) _ | refine Ext.alloc ?_ _ | refine Ext.drew ?_ | refine Ext.trans ?_ (by assumption))), Blk.at _ 31 hB.symm⟩ ?_; rintro V ⟨E0, B0⟩; have HB := Lib.hid (And.intro E0 B0); have x0 : V.cell? ⟨B, 0, none⟩ = some (.int .i64 n) := B0.cell 0; have x1 : V.cell? ⟨B, 1, none⟩ = some (.slice sa sn sc) := B0.cell 1; have x2 : V.cell? ⟨B, 2, none⟩ = some (.slice va vn vc) := B0.cell 2; clear E0 B0; go_wp2_with fail; refine (Valid_c n ⟨sa, sn, sc⟩ ⟨va, vn, vc⟩ gs Ls zs _ (H.out.ext HB.out.1)).mono ?_; rw [HV.out]; rintro e w2 ⟨rfl, hx2⟩; have HX := Lib.hid (HB.out.1.trans hx2); have y1 : w2.cell? ⟨B, 1, none⟩ = some (.slice sa sn sc) := hx2.cell x1; clear x0 x1 x2 hx2; go_wp2_with fail; go_ret
    exact ⟨by rw [HR.out]; rfl, HX.out⟩
   ·by_cases c4 : (sn : Int) ≤ set
    ·have HR := Lib.hid (show checkE n Ls zs sn set = 7 by rw [HC.out, if_neg (by omega), if_neg (by omega), if_pos (.inr c4)])
     subst c1
     go_enter Try.func34, Try.ntmps34; go_upto_region 1 with (fail); refine wp_gen (fun W => Ext w W ∧ Blk W B #[.int .i64 n, .slice sa sn sc, .slice va vn vc] 31) ⟨(by repeat (first | exact Ext.refl _ | assumption | refine Ext.setCell ?_ (by first | (simp; done) | (simp; omega) | omega) _ | refine Ext.alloc ?_ _ | refine Ext.drew ?_ | refine Ext.trans ?_ (by assumption))), Blk.at _ 31 hB.symm⟩ ?_; rintro V ⟨E0, B0⟩; have HB := Lib.hid (And.intro E0 B0); have x0 : V.cell? ⟨B, 0, none⟩ = some (.int .i64 n) := B0.cell 0; have x1 : V.cell? ⟨B, 1, none⟩ = some (.slice sa sn sc) := B0.cell 1; have x2 : V.cell? ⟨B, 2, none⟩ = some (.slice va vn vc) := B0.cell 2; clear E0 B0; go_wp2_with fail; refine (Valid_c n ⟨sa, sn, sc⟩ ⟨va, vn, vc⟩ gs Ls zs _ (H.out.ext HB.out.1)).mono ?_; rw [HV.out]; rintro e w2 ⟨rfl, hx2⟩; have HX := Lib.hid (HB.out.1.trans hx2); have y1 : w2.cell? ⟨B, 1, none⟩ = some (.slice sa sn sc) := hx2.cell x1; clear x0 x1 x2 hx2; go_wp2_with fail; go_ret
     exact ⟨by rw [HR.out]; rfl, HX.out⟩
    ·have HR := Lib.hid (show checkE n Ls zs sn set = 0 by rw [HC.out, if_neg (by omega), if_neg (by omega), if_neg (by omega)])
     subst c1
     go_enter Try.func34, Try.ntmps34; go_upto_region 1 with (fail); refine wp_gen (fun W => Ext w W ∧ Blk W B #[.int .i64 n, .slice sa sn sc, .slice va vn vc] 31) ⟨(by repeat (first | exact Ext.refl _ | assumption | refine Ext.setCell ?_ (by first | (simp; done) | (simp; omega) | omega) _ | refine Ext.alloc ?_ _ | refine Ext.drew ?_ | refine Ext.trans ?_ (by assumption))), Blk.at _ 31 hB.symm⟩ ?_; rintro V ⟨E0, B0⟩; have HB := Lib.hid (And.intro E0 B0); have x0 : V.cell? ⟨B, 0, none⟩ = some (.int .i64 n) := B0.cell 0; have x1 : V.cell? ⟨B, 1, none⟩ = some (.slice sa sn sc) := B0.cell 1; have x2 : V.cell? ⟨B, 2, none⟩ = some (.slice va vn vc) := B0.cell 2; clear E0 B0; go_wp2_with fail; refine (Valid_c n ⟨sa, sn, sc⟩ ⟨va, vn, vc⟩ gs Ls zs _ (H.out.ext HB.out.1)).mono ?_; rw [HV.out]; rintro e w2 ⟨rfl, hx2⟩; have HX := Lib.hid (HB.out.1.trans hx2); have y1 : w2.cell? ⟨B, 1, none⟩ = some (.slice sa sn sc) := hx2.cell x1; clear x0 x1 x2 hx2; go_wp2_with fail; go_ret
     exact ⟨by rw [HR.out]; rfl, HX.out⟩
  ·have HR := Lib.hid (show checkE n Ls zs m set = 1 by rw [HC.out, if_neg (by omega), if_pos c2])
   have c2' : ((m : Int) == (sn : Int)) = false := by rw [beq_eq_false_iff_ne]; omega
   subst c1
   clear c2
   go_enter Try.func34, Try.ntmps34; go_upto_region 1 with (fail); refine wp_gen (fun W => Ext w W ∧ Blk W B #[.int .i64 n, .slice sa sn sc, .slice va vn vc] 31) ⟨(by repeat (first | exact Ext.refl _ | assumption | refine Ext.setCell ?_ (by first | (simp; done) | (simp; omega) | omega) _ | refine Ext.alloc ?_ _ | refine Ext.drew ?_ | refine Ext.trans ?_ (by assumption))), Blk.at _ 31 hB.symm⟩ ?_; rintro V ⟨E0, B0⟩; have HB := Lib.hid (And.intro E0 B0); have x0 : V.cell? ⟨B, 0, none⟩ = some (.int .i64 n) := B0.cell 0; have x1 : V.cell? ⟨B, 1, none⟩ = some (.slice sa sn sc) := B0.cell 1; have x2 : V.cell? ⟨B, 2, none⟩ = some (.slice va vn vc) := B0.cell 2; clear E0 B0; go_wp2_with fail; refine (Valid_c n ⟨sa, sn, sc⟩ ⟨va, vn, vc⟩ gs Ls zs _ (H.out.ext HB.out.1)).mono ?_; rw [HV.out]; rintro e w2 ⟨rfl, hx2⟩; have HX := Lib.hid (HB.out.1.trans hx2); have y1 : w2.cell? ⟨B, 1, none⟩ = some (.slice sa sn sc) := hx2.cell x1; clear x0 x1 x2 hx2; go_wp2_with fail; go_ret
   exact ⟨by rw [HR.out]; rfl, HX.out⟩
 ·have HR := Lib.hid (show checkE n Ls zs m set = v by rw [HC.out, if_pos c1])
  have c1' : (v == 0) = false := by rw [beq_eq_false_iff_ne]; exact c1
  clear c1
  go_enter Try.func34, Try.ntmps34; go_upto_region 1 with (fail); refine wp_gen (fun W => Ext w W ∧ Blk W B #[.int .i64 n, .slice sa sn sc, .slice va vn vc] 31) ⟨(by repeat (first | exact Ext.refl _ | assumption | refine Ext.setCell ?_ (by first | (simp; done) | (simp; omega) | omega) _ | refine Ext.alloc ?_ _ | refine Ext.drew ?_ | refine Ext.trans ?_ (by assumption))), Blk.at _ 31 hB.symm⟩ ?_; rintro V ⟨E0, B0⟩; have HB := Lib.hid (And.intro E0 B0); have x0 : V.cell? ⟨B, 0, none⟩ = some (.int .i64 n) := B0.cell 0; have x1 : V.cell? ⟨B, 1, none⟩ = some (.slice sa sn sc) := B0.cell 1; have x2 : V.cell? ⟨B, 2, none⟩ = some (.slice va vn vc) := B0.cell 2; clear E0 B0; go_wp2_with fail; refine (Valid_c n ⟨sa, sn, sc⟩ ⟨va, vn, vc⟩ gs Ls zs _ (H.out.ext HB.out.1)).mono ?_; rw [HV.out]; rintro e w2 ⟨rfl, hx2⟩; have HX := Lib.hid (HB.out.1.trans hx2); have y1 : w2.cell? ⟨B, 1, none⟩ = some (.slice sa sn sc) := hx2.cell x1; clear x0 x1 x2 hx2; go_wp2_with fail; go_ret
  exact ⟨by rw [HR.out]; rfl, HX.out⟩
/-- Whether a set is determined. -/
noncomputable def dB (Ls : List (List Int)) (hs : List Bool) (k : Nat) : Bool := @decide (Det Ls hs k) (Classical.propDecidable _)
theorem dB_iff (Ls : List (List Int)) (hs : List Bool) (k : Nat) : dB Ls hs k = true ↔ Det Ls hs k := by unfold dB; exact @decide_eq_true_iff _ (Classical.propDecidable _)
theorem dB_of {Ls : List (List Int)} {hs : List Bool} {k : Nat} {b : Bool} (h : b = true ↔ Det Ls hs k) : b = dB Ls hs k := by
 rw [Bool.eq_iff_iff, h, dB_iff]
set_option maxRecDepth 100000 in
set_option maxHeartbeats 4000000 in
theorem Determined_c (n : Int) (ss vs : Sl) (gs : List Sl) (Ls : List (List Int)) (zs : List Int) (ha : Option Addr) (m hc : Nat) (hs : List Bool) (set : Int) (w : World) (h : ShIn w n ss vs gs Ls zs) (hH : Bls w ha m hs) (hm : m ≤ 1000000) (hf : checkE n Ls zs m set = 0 → FewOK Ls) :
  Calls Try.prog 17 #[.agg #[.int .i64 n, ss.v, vs.v], .slice ha m hc, .int .i64 set] w fun e w' => e = .returned (.tuple #[.bool (if checkE n Ls zs m set = 0 then dB Ls hs set.toNat else false), .int .i64 (checkE n Ls zs m set)]) ∧ Ext w w' := by
 have H := Lib.hid (And.intro h (And.intro hH hf))
 clear h hH hf
 obtain ⟨v, hv⟩ : ∃ v, checkE n Ls zs m set = v := ⟨_, rfl⟩
 have HV := Lib.hid hv
 rw [hv]
 obtain ⟨sa, sn, sc⟩ := ss
 obtain ⟨va, vn, vc⟩ := vs
 obtain ⟨B, hB⟩ : ∃ B, w.heap.size = B := ⟨_, rfl⟩
 simp only [Sl.v]
 by_cases c1 : v = 0
 ·rw [if_pos c1]
  rw [c1] at hv
  obtain ⟨v1, v2, v3, v4⟩ := checkE_ok hv
  obtain ⟨u1, u2, u3, _, _⟩ := validE_of v1
  obtain ⟨N, rfl⟩ : ∃ N : Nat, n = (N : Int) := ⟨n.toNat, by omega⟩
  obtain ⟨k, rfl⟩ : ∃ k : Nat, set = (k : Int) := ⟨set.toNat, by omega⟩
  have hG := H.out.1.sheet v1
  have hfo := H.out.2.2 hv
  have hks : k < sn := by have := H.out.1.grps.2.1; simp only at this; omega
  have HG := Lib.hid (And.intro hG (And.intro hfo v2))
  have HDI := Lib.hid (det_iff (n := N) hs hfo (fun k x hx => (hG.cell k x hx).2) k)
  have hok := solve_ok hs hfo (fun k x hx => (hG.cell k x hx).2) Ls.length (Nat.le_refl _)
  have HOK := Lib.hid hok
  have hN : N ≤ 1000 := by omega
  simp only [Int.toNat_natCast]
  clear hv v1 v2 v3 v4 u1 u2 u3 hG hfo hok
  subst c1
  go_enter Try.func17, Try.ntmps17; go_upto_region 1 with (fail); refine wp_gen (fun W => Ext w W ∧ Blk W B #[.int .i64 (N : Int), .slice sa sn sc, .slice va vn vc] 31) ⟨(by repeat (first | exact Ext.refl _ | assumption | refine Ext.setCell ?_ (by first | (simp; done) | (simp; omega) | omega) _ | refine Ext.alloc ?_ _ | refine Ext.drew ?_ | refine Ext.trans ?_ (by assumption))), Blk.at _ 31 hB.symm⟩ ?_; rintro V ⟨E0, B0⟩; have HB := Lib.hid (And.intro E0 B0); have x0 : V.cell? ⟨B, 0, none⟩ = some (.int .i64 (N : Int)) := B0.cell 0; have x1 : V.cell? ⟨B, 1, none⟩ = some (.slice sa sn sc) := B0.cell 1; have x2 : V.cell? ⟨B, 2, none⟩ = some (.slice va vn vc) := B0.cell 2; clear E0 B0; go_wp2_with fail; refine (shcheck_c (N : Int) ⟨sa, sn, sc⟩ ⟨va, vn, vc⟩ gs Ls zs ha m hc _ _ (H.out.1.ext HB.out.1) hm).mono ?_; rw [HV.out]; rintro e w2 ⟨rfl, hx2⟩; have HX := Lib.hid (HB.out.1.trans hx2); have y0 : w2.cell? ⟨B, 0, none⟩ = some (.int .i64 (N : Int)) := hx2.cell x0; have y1 : w2.cell? ⟨B, 1, none⟩ = some (.slice sa sn sc) := hx2.cell x1; have y2 : w2.cell? ⟨B, 2, none⟩ = some (.slice va vn vc) := hx2.cell x2; clear x0 x1 x2 hx2; go_wp2_with fail
  refine (solve_c N m ⟨sa, sn, sc⟩ ⟨va, vn, vc⟩ gs Ls ha hc hs _ (HG.out.1.ext HX.out) HG.out.2.2.symm HG.out.2.1 hN (H.out.2.1.ext HX.out)).mono ?_
  rintro e w3 ⟨xb, rv, lv, bs, rfl, hS, hx3⟩
  have HS := Lib.hid (And.intro hS (HX.out.trans hx3))
  clear hS hx3 y0 y1 y2
  go_wp2_with fail
  refine (det_c _ xb N (solveR N Ls hs Ls.length).length k ⟨sa, sn, sc⟩ ⟨va, vn, vc⟩ rv lv (solveR N Ls hs m) bs gs Ls _ HS.out.1 (HG.out.1.ext HS.out.2) hks hN (by rw [HG.out.2.2]; exact HOK.out.sol) HOK.out.le12).mono ?_
  rw [HG.out.2.2, dB_of HDI.out]
  rintro e w4 ⟨rfl, hx4⟩
  go_wp2_with fail
  go_ret2
  exact ⟨rfl, HS.out.2.trans hx4⟩
 ·rw [if_neg c1]
  have c1' : (v == 0) = false := by rw [beq_eq_false_iff_ne]; exact c1
  clear c1 hv
  go_enter Try.func17, Try.ntmps17; go_upto_region 1 with (fail); refine wp_gen (fun W => Ext w W ∧ Blk W B #[.int .i64 n, .slice sa sn sc, .slice va vn vc] 31) ⟨(by repeat (first | exact Ext.refl _ | assumption | refine Ext.setCell ?_ (by first | (simp; done) | (simp; omega) | omega) _ | refine Ext.alloc ?_ _ | refine Ext.drew ?_ | refine Ext.trans ?_ (by assumption))), Blk.at _ 31 hB.symm⟩ ?_; rintro V ⟨E0, B0⟩; have HB := Lib.hid (And.intro E0 B0); have x0 : V.cell? ⟨B, 0, none⟩ = some (.int .i64 n) := B0.cell 0; have x1 : V.cell? ⟨B, 1, none⟩ = some (.slice sa sn sc) := B0.cell 1; have x2 : V.cell? ⟨B, 2, none⟩ = some (.slice va vn vc) := B0.cell 2; clear E0 B0; go_wp2_with fail; refine (shcheck_c n ⟨sa, sn, sc⟩ ⟨va, vn, vc⟩ gs Ls zs ha m hc _ _ (H.out.1.ext HB.out.1) hm).mono ?_; rw [HV.out]; rintro e w2 ⟨rfl, hx2⟩; have HX := Lib.hid (HB.out.1.trans hx2); have y0 : w2.cell? ⟨B, 0, none⟩ = some (.int .i64 n) := hx2.cell x0; have y1 : w2.cell? ⟨B, 1, none⟩ = some (.slice sa sn sc) := hx2.cell x1; have y2 : w2.cell? ⟨B, 2, none⟩ = some (.slice va vn vc) := hx2.cell x2; clear x0 x1 x2 hx2; go_wp2_with fail
  go_ret2
  exact ⟨rfl, HX.out⟩
end Go.Proofs.Ytkoidookanmknaa
namespace Go.Proofs.Ytkoidookanmknaa
set_option linter.unusedSimpArgs false
set_option linter.unusedVariables false
open Go.RowKit

theorem boolInfo : (Try.prog.info? 4).map (fun i => (i.zero, i.size, i.bytes)) = some (some (.bool false), 1, 1) := by kernel_rfl
def bvals (l : List Bool) : List Value := l.map Value.bool
theorem bls_news {w : World} {b off n : Nat} {l : List Bool} (h : Bls w (some ⟨b, off, none⟩) n l) (h0 : 0 < n) : ∀ (j : Nat) (u : Value), (bvals l)[j]? = some u → w.cell? ((⟨b, off, none⟩ : Addr).add j) = some u := fun j u hu => by
 rw [addr_add]
 have hj : j < l.length := by
  rcases Nat.lt_or_ge j (bvals l).length with h | h
  ·simpa [bvals] using h
  ·rw [List.getElem?_eq_none h] at hu; cases hu
 obtain ⟨b', off', he, _, hc⟩ := h.at j (by rw [← h.1]; exact hj)
 injection he with he; injection he with e1 e2
 subst e1; subst e2
 rw [hc, ← hu]; simp [bvals, hj]
theorem bvals_one (l : List Bool) : ∀ u ∈ bvals l, u.oneCell' = true := by
 intro u hu
 obtain ⟨b, _, rfl⟩ := List.mem_map.1 hu
 rfl
/-- A slice of bools of the call's own. -/
theorem owns_bls {w : World} {base g n cap : Nat} {l : List Bool} (h : w.ownsRow base 4 1 (.slice (some ⟨g, 0, none⟩) n cap) n (bvals l)) (hl : l.length = n) (h0 : 0 < n) : Bls w (some ⟨g, 0, none⟩) n l ∧ base ≤ g ∧ ∀ o, w.frozen? ⟨g, o, none⟩ = false := by
 obtain ⟨a, c, e, h1⟩ := owns_sl h rfl
 injection e with e1 e2 e3
 subst e1
 obtain ⟨g', e4, hg, ⟨cs, hcs⟩, hc⟩ := h1.resolve_left (by omega)
 injection e4 with e4
 injection e4 with e4
 subst e4
 refine ⟨⟨hl, .inr ⟨g, 0, rfl, hg, fun i hi => ?_⟩⟩, (gowns_lt h (by rfl)).1, fun o => ?_⟩
 ·rw [Nat.zero_add]
  exact hc i _ (by simp [bvals, show i < l.length by omega]) hi
 ·simp [World.frozen?, hcs]
theorem Bls.set {w : World} {b n k : Nat} {l : List Bool} {x : Bool} (h : Bls w (some ⟨b, 0, none⟩) n l) (hk : k < n) : Bls (w.setCell ⟨b, k, none⟩ (.bool x)) (some ⟨b, 0, none⟩) n (l.set k x) := by
 have hat := fun i hi => h.at i hi
 obtain ⟨h1, h2⟩ := h
 refine ⟨by rw [List.length_set]; exact h1, .inr ⟨b, 0, rfl, ?_, fun i hi => ?_⟩⟩
 ·obtain ⟨b', o', e, hb, _⟩ := hat k hk
  injection e with e; injection e with e1 e2
  subst e1
  simpa using hb
 ·obtain ⟨b', o', e, hb, hc⟩ := hat i hi
  injection e with e; injection e with e1 e2
  subst e1; subst e2
  rw [Nat.zero_add] at hc ⊢
  by_cases hki : k = i
  ·subst hki
   rw [World.cell?_setCell_same _ _ _ hc]
   simp [show k < l.length by omega]
  ·rw [World.cell?_setCell_other _ _ _ _ (by intro e; injection e with _ e2; exact hki e2), hc]
   simp [List.getD_eq_getElem?_getD, List.getElem?_set_ne hki]
set_option maxRecDepth 100000 in
set_option maxHeartbeats 4000000 in
theorem cloneB_c (ha : Option Addr) (m hc : Nat) (hs : List Bool) (w : World) (h : Bls w ha m hs) (h0 : 0 < m) (hm : m ≤ 1000000) :
  Calls Try.prog 68 #[.slice ha m hc] w fun e w' => ∃ g cap, e = .returned (.slice (some ⟨g, 0, none⟩) m cap) ∧ w'.ownsRow w.heap.size 4 1 (.slice (some ⟨g, 0, none⟩) m cap) m (bvals hs) ∧ Ext w w' := by
 obtain ⟨i0, hi0, hz0, hz1, hz2⟩ := info_parts boolInfo
 obtain ⟨b, off, rfl, hb, _⟩ := h.at 0 h0
 have hl := h.1
 have H := Lib.hid h
 clear h
 have HL := Lib.hid hl
 clear hl
 have hnil := fun (W : World) => Lib.run_eql_slice_nil (P := Try.prog) W 34 4 (some ⟨b, off, none⟩) m hc 0 0 Try.underlying34
 go_enter Try.func68, Try.ntmps68
 go_wp2_with (refine wpList_append_lies _ rfl _ _ _ rfl w.heap.size 4 i0 _ 1 1 Try.underlying34 hi0 hz0 hz1 hz2 rfl (by omega) _ 0 [] rfl (⟨rfl, .inr ⟨w.heap.size, 0, #[], rfl, Nat.le_refl _, Blk.at _ _ rfl, Nat.le_refl _, by rw [maxLen]; omega, rfl, rfl⟩⟩) ⟨b, off, none⟩ m hc (bvals hs) rfl (by simp [bvals, HL.out]) (bls_news (H.out.ext ((Ext.refl w).alloc _)) h0) (bvals_one _) h0 (by rw [maxLen]; omega) (by omega) (by simp) _ rfl ?_)
 intro g cap w1 hown hgrow hat hlt
 have hE := ext_grown ((Ext.refl w).alloc _) hgrow (fun g hg => by simp [Value.ownBlock] at hg; omega)
 have HF := Lib.hid (And.intro hown hE)
 clear hown hgrow hat hE
 go_wp2_with fail
 go_ret
 exact ⟨g, cap, rfl, by simpa using HF.out.1, HF.out.2⟩
set_option maxRecDepth 100000 in
set_option maxHeartbeats 4000000 in
theorem with_c (ha : Option Addr) (m hc k : Nat) (hs : List Bool) (w : World) (h : Bls w ha m hs) (hk : k < m) (hm : m ≤ 1000000) :
  Calls Try.prog 41 #[.slice ha m hc, .int .i64 (k : Int)] w fun e w' => ∃ g cap, e = .returned (.slice (some ⟨g, 0, none⟩) m cap) ∧ Bls w' (some ⟨g, 0, none⟩) m (hs.set k true) ∧ Ext w w' := by
 have hl := h.1
 have H := Lib.hid h
 clear h
 have k0 : (0 : Int) ≤ (k : Int) := by omega
 have k1 : (k : Int) < (m : Int) := by omega
 have HL := Lib.hid hl
 clear hl
 go_enter Try.func41, Try.ntmps41
 go_wp2_with fail
 refine (cloneB_c ha m hc hs _ H.out (by omega) hm).mono ?_
 rintro e w2 ⟨g, cap, rfl, hown, hx⟩
 obtain ⟨hB, hg, hfr⟩ := owns_bls hown HL.out (by omega)
 obtain ⟨b', o', e, hb, hc'⟩ := hB.at k hk
 injection e with e; injection e with e1 e2
 subst e1; subst e2
 rw [Nat.zero_add] at hc'
 have HF := Lib.hid (And.intro hB (And.intro hx hg))
 clear hown hB hx hg
 go_wp2_with fail
 go_ret
 exact ⟨g, cap, rfl, HF.out.1.set hk, HF.out.2.1.setCell HF.out.2.2 _⟩
end Go.Proofs.Ytkoidookanmknaa
