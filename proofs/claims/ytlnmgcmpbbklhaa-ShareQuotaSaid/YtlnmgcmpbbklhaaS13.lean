/- meresmanlaw27: units; lists that are copied. -/
import Derived.Test.YtlnmgcmpbbklhaaL27m
namespace Go.Proofs.Ytlnmgcmpbbklhaa
set_option linter.unusedSimpArgs false
set_option linter.unusedVariables false
open Go.RowKit

def unitsF (n : Int) : List Int := [aroundF n 60, aroundF n 1099511627777, n, 4096, 4097]
theorem unitsF_int {n : Int} (h : Int64 n) : ∀ i, i < 5 → Int64 ((unitsF n).getD i 0) := fun i hi => by
  have h1 := aroundF_bd n 60 (by omega)
  have h2 := aroundF_bd n 1099511627777 (by omega)
  match i, hi with
  | 0, _ => exact ⟨by show _ ≤ aroundF n 60; omega, by show aroundF n 60 ≤ _; omega⟩
  | 1, _ => exact ⟨by show _ ≤ aroundF n 1099511627777; omega, by show aroundF n 1099511627777 ≤ _; omega⟩
  | 2, _ => exact h
  | 3, _ => exact ⟨by show (_ : Int) ≤ 4096; omega, by show (4096 : Int) ≤ _; omega⟩
  | 4, _ => exact ⟨by show (_ : Int) ≤ 4097; omega, by show (4097 : Int) ≤ _; omega⟩
set_option maxHeartbeats 1000000 in
theorem units_c (n : Int) (w : World) (h : Int64 n) : Calls Try.prog 12 #[.int .i64 n] w fun e w' => ∃ g, e = .returned (.slice (some ⟨g, 0, none⟩) 5 5) ∧ w.heap.size ≤ g ∧ IRow w' g (unitsF n) ∧ Ext w w' := by
  have H := Lib.hid h; clear h
  go_enter Try.func12, Try.ntmps12
  go_wp2_with fail
  refine (around_c n 60 _ (by omega) (by omega) H.out).mono ?_
  rintro e w1 ⟨rfl, rfl⟩
  go_wp2_with fail
  refine (around_c n 1099511627777 _ (by omega) (by omega) H.out).mono ?_
  rintro e w1 ⟨rfl, rfl⟩
  go_wp2_with fail
  go_ret
  exact ⟨_, rfl, Nat.le_refl _, Blk.at _ _ rfl, (by repeat (first | exact Ext.refl _ | assumption | refine Ext.setCell ?_ (by first | (simp; done) | (simp; omega) | omega) _ | refine Ext.alloc ?_ _ | refine Ext.drew ?_ | refine Ext.trans ?_ (by assumption)))⟩
theorem VRow.empty {w : World} {base b : Nat} (hb : base ≤ b) (h : Blk w b #[] 3) : VRow w base (.slice (some ⟨b, 0, none⟩) 0 0) [] :=
  ⟨rfl, .inr ⟨b, 0, #[], rfl, hb, h, Nat.le_refl _, by rw [maxLen]; omega, rfl, rfl⟩⟩
theorem Grps.four {w : World} {b : Nat} {s1 s2 s3 s4 : Sl} {l1 l2 l3 l4 : List Int} (hb : At w b #[s1.v, s2.v, s3.v, s4.v]) (h1 : Ints w s1.a s1.n l1) (h2 : Ints w s2.a s2.n l2) (h3 : Ints w s3.a s3.n l3) (h4 : Ints w s4.a s4.n l4) :
    Grps w (some ⟨b, 0, none⟩) 4 [s1, s2, s3, s4] [l1, l2, l3, l4] := by
  refine ⟨rfl, rfl, by omega, .inr ⟨b, 0, rfl, hb.lt (by simp), fun i hi => ?_⟩, fun i hi => ?_⟩
  · match i, hi with
    | 0, _ => exact hb 0 (by simp)
    | 1, _ => exact hb 1 (by simp)
    | 2, _ => exact hb 2 (by simp)
    | 3, _ => exact hb 3 (by simp)
  · match i, hi with
    | 0, _ => exact h1
    | 1, _ => exact h2
    | 2, _ => exact h3
    | 3, _ => exact h4
/-- The list with one weight replaced. -/
def bentL (P : List Int) (at' by' : Int) : List Int := if P.length = 0 then P else P.set (aroundF at' P.length).toNat by'
theorem bentL_length (P : List Int) (at' by' : Int) : (bentL P at' by').length = P.length := by
  unfold bentL; split <;> simp
theorem bentL_int {P : List Int} {at' by' : Int} (h : ∀ x, x ∈ P → 0 ≤ x ∧ x ≤ 1048576) (hb : Int64 by') : ∀ i, i < P.length → Int64 ((bentL P at' by').getD i 0) := fun i hi => by
  have hp := h _ (getD_mem hi)
  unfold bentL
  rw [if_neg (by omega)]
  by_cases hj : (aroundF at' P.length).toNat = i
  · rw [hj, getD_set_eq _ _ _ hi]; exact hb
  · rw [getD_set_ne _ _ _ _ hj]; exact ⟨by omega, by omega⟩
/-- The four lists of the law. -/
def fourL (P : List Int) (at' by' : Int) : List (List Int) := [P, bentL P at' by', [], [0, 0]]
theorem fourL_len {P : List Int} (at' by' : Int) (h : P.length ≤ 12) : ∀ i, i < 4 → ((fourL P at' by').getD i []).length ≤ 12 := fun i hi => by
  match i, hi with
  | 0, _ => exact h
  | 1, _ => show (bentL P at' by').length ≤ 12; rw [bentL_length]; exact h
  | 2, _ => show ([] : List Int).length ≤ 12; simp
  | 3, _ => show ([0, 0] : List Int).length ≤ 12; simp
theorem lgF_bd {n : Int} {l : List Int} (h : errF n l 1 = 0) (i : Nat) : 0 ≤ (largestF n l).getD i 0 ∧ (largestF n l).getD i 0 ≤ n := by
  have hok := errF_ok h
  have hg := good_of_any hok.2.2.1
  have hw : ∀ x, x ∈ l → 0 ≤ x := fun x hx => (hg x hx).1
  have h1 := largestF_nonneg (w := l) hok.1 hw
  refine ⟨h1 i, ?_⟩
  by_cases hi : i < (largestF n l).length
  · have h2 := mem_le_sum (l := largestF n l) (fun x hx => by obtain ⟨k, _, rfl⟩ := mem_getD hx; exact h1 k) (getD_mem hi)
    rw [largestF_sum hw (fun hn => by have := hok.2.2.2.1 hn; have := (sum_bd l hg).1; omega)] at h2; exact h2
  · rw [List.getD_eq_getElem?_getD, List.getElem?_eq_none (by omega)]; simpa using hok.1
theorem highErr_bad {n : Int} {l : List Int} {er : Int} (h : errF n l 1 = er) (h0 : er ≠ 0) : highErr n l = er := by
  unfold highErr; rw [h, if_pos h0]
theorem highErr_great {n : Int} {l : List Int} (h : errF n l 1 = 0) (h0 : 4096 < n) : highErr n l = 4 := by
  unfold highErr; rw [h, if_neg (by simp), if_pos h0]
theorem highErr_good {n : Int} {l : List Int} (h : errF n l 1 = 0) (h0 : ¬ 4096 < n) : highErr n l = 0 := by
  unfold highErr; rw [h, if_neg (by simp), if_neg h0]
end Go.Proofs.Ytlnmgcmpbbklhaa
