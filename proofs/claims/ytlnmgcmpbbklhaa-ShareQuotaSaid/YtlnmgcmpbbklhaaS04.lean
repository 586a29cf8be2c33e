/- share: check; meresmanref27: Sum, Error. -/
import Derived.Test.YtlnmgcmpbbklhaaS03
namespace Go.Proofs.Ytlnmgcmpbbklhaa
set_option linter.unusedSimpArgs false
set_option linter.unusedVariables false
open Go.RowKit

theorem mem_getD {l : List Int} {x : Int} (h : x ∈ l) : ∃ i, i < l.length ∧ l.getD i 0 = x := by
  obtain ⟨i, hi, rfl⟩ := List.getElem_of_mem h
  exact ⟨i, hi, by simp [List.getD_eq_getElem?_getD, hi]⟩
theorem getD_mem {l : List Int} {i : Nat} (h : i < l.length) : l.getD i 0 ∈ l := by
  rw [List.getD_eq_getElem?_getD, List.getElem?_eq_getElem h]; exact List.getElem_mem _
theorem Grps.int64 {w : World} {ga : Option Addr} {m : Nat} {gs : List Sl} {Ls : List (List Int)} (h : Grps w ga m gs Ls) : ∀ x, x ∈ Ls.flatten → Int64 x := fun x hx => by
  obtain ⟨l, hl, hx⟩ := List.mem_flatten.1 hx
  obtain ⟨i, hi, rfl⟩ := List.getElem_of_mem hl
  obtain ⟨j, hj, rfl⟩ := mem_getD hx
  have hin := h.2.2.2.2 i (by rw [← h.2.1]; exact hi)
  have e : Ls.getD i [] = Ls[i] := by simp [List.getD_eq_getElem?_getD, hi]
  rw [e] at hin
  exact hin.2.2.1 j (by rw [← hin.1]; exact hj)
theorem sum_bd (l : List Int) (h : ∀ x, x ∈ l → 0 ≤ x ∧ x ≤ 1048576) : 0 ≤ sumI l ∧ sumI l ≤ 1048576 * l.length := by
  induction l with
  | nil => simp [sumI]
  | cons x l ih =>
    have h1 := h x (by simp)
    have h2 := ih fun y hy => h y (by simp [hy])
    simp only [sumI, List.length_cons]; omega
theorem good_of_any {l : List Int} (h : l.any badF = false) : ∀ x, x ∈ l → 0 ≤ x ∧ x ≤ 1048576 := fun x hx => by
  have := List.any_eq_false.1 h x hx
  unfold badF at this
  simp at this
  omega
theorem parts_bd {l : List Int} (h : ∀ x, x ∈ l → 0 ≤ x ∧ x ≤ 1048576) (hl : l.length ≤ 100000) (i : Nat) : Int64 (sumI (l.take i)) := by
  have := sum_bd (l.take i) fun x hx => h x (List.mem_of_mem_take hx)
  have h2 : (l.take i).length ≤ l.length := by rw [List.length_take]; omega
  exact ⟨by omega, by omega⟩
/-- The error of units and weights. -/
def errF (n : Int) (l : List Int) (m : Nat) : Int :=
  if 4096 < l.length ∨ 4096 < m then 4 else if n < 0 ∨ 1099511627776 < n ∨ l.any badF = true then 1 else if 0 < n ∧ sumI l = 0 then 25 else 0
theorem errF_cases (n : Int) (l : List Int) (m : Nat) :
    (4096 < (l.length : Int) ∧ errF n l m = 4) ∨ (¬ 4096 < (l.length : Int) ∧ 4096 < (m : Int) ∧ errF n l m = 4) ∨
    (¬ 4096 < (l.length : Int) ∧ ¬ 4096 < (m : Int) ∧ n < 0 ∧ errF n l m = 1) ∨ (¬ 4096 < (l.length : Int) ∧ ¬ 4096 < (m : Int) ∧ ¬ n < 0 ∧ 1099511627776 < n ∧ errF n l m = 1) ∨
    (¬ 4096 < (l.length : Int) ∧ ¬ 4096 < (m : Int) ∧ ¬ n < 0 ∧ ¬ 1099511627776 < n ∧ l.any badF = true ∧ errF n l m = 1) ∨
    (¬ 4096 < (l.length : Int) ∧ ¬ 4096 < (m : Int) ∧ 0 < n ∧ ¬ 1099511627776 < n ∧ l.any badF = false ∧ sumI l = 0 ∧ errF n l m = 25) ∨
    (¬ 4096 < (l.length : Int) ∧ ¬ 4096 < (m : Int) ∧ 0 < n ∧ ¬ 1099511627776 < n ∧ l.any badF = false ∧ (sumI l == 0) = false ∧ errF n l m = 0) ∨
    (¬ 4096 < (l.length : Int) ∧ ¬ 4096 < (m : Int) ∧ n = 0 ∧ l.any badF = false ∧ errF n l m = 0) := by
  unfold errF
  by_cases h1 : 4096 < l.length
  · left; exact ⟨by omega, by rw [if_pos (.inl h1)]⟩
  · right
    by_cases h2 : 4096 < m
    · left; exact ⟨by omega, by omega, by rw [if_pos (.inr h2)]⟩
    · right
      rw [if_neg (by omega)]
      by_cases h3 : n < 0
      · left; exact ⟨by omega, by omega, h3, by rw [if_pos (.inl h3)]⟩
      · right
        by_cases h4 : 1099511627776 < n
        · left; exact ⟨by omega, by omega, h3, h4, by rw [if_pos (.inr (.inl h4))]⟩
        · right
          cases h5 : l.any badF
          · right
            rw [if_neg (by simp; omega)]
            by_cases h6 : n = 0
            · right; right; exact ⟨by omega, by omega, h6, rfl, by rw [if_neg (by omega)]⟩
            · by_cases h7 : sumI l = 0
              · left; exact ⟨by omega, by omega, by omega, h4, rfl, h7, by rw [if_pos ⟨by omega, h7⟩]⟩
              · right; left; exact ⟨by omega, by omega, by omega, h4, rfl, by rw [beq_eq_false_iff_ne]; exact h7, by rw [if_neg (fun h => h7 h.2)]⟩
          · left; exact ⟨by omega, by omega, h3, h4, rfl, by rw [if_pos (.inr (.inr rfl))]⟩

set_option maxHeartbeats 2000000 in
theorem check_c (n : Int) (ga : Option Addr) (m c : Nat) (gs : List Sl) (Ls : List (List Int)) (w : World) (h : Grps w ga m gs Ls) (hT : lens Ls ≤ 100000) :
    Calls Try.prog 33 #[.int .i64 n, .slice ga m c] w fun e w' => e = .returned (.int .i64 (errF n Ls.flatten m)) ∧ Ext w w' := by
  have H := Lib.hid h; have HL := Lib.hid hT
  have h64 := h.int64
  have hfl := flat_length Ls
  have hc := errF_cases n Ls.flatten m
  clear h
  generalize hFl : Ls.flatten = l at hfl h64 hc ⊢
  have HFL := Lib.hid hFl; clear hFl
  go_enter Try.func33, Try.ntmps33
  go_wp2_with fail
  refine (concat_c ga m c gs Ls _ H.out HL.out).mono ?_
  rintro e w2 ⟨v, rfl, hV, hE⟩
  rw [HFL.out] at hV
  obtain ⟨a, c2, rfl, hI⟩ := hV.ints (by omega) fun i hi => h64 _ (getD_mem hi)
  clear hV
  have hlen : l.length ≤ 100000 := by omega
  clear HL H hT hfl h64
  generalize hl : l.length = T at *
  have HLN := Lib.hid hl
  have HI := Lib.hid hI; have HE := Lib.hid hE; clear hI hE hl
  rcases hc with ⟨k1, hf⟩ | ⟨k1, k2, hf⟩ | ⟨k1, k2, k3, hf⟩ | ⟨k1, k2, k3, k4, hf⟩ | ⟨k1, k2, k3, k4, k5, hf⟩ | ⟨k1, k2, k3, k4, k5, k6, hf⟩ | ⟨k1, k2, k3, k4, k5, k6, hf⟩ | ⟨k1, k2, rfl, k5, hf⟩
  · have HF := Lib.hid hf; clear hf
    go_wp2_with fail
    go_ret
    exact ⟨by rw [HF.out]; rfl, HE.out⟩
  · have HF := Lib.hid hf; clear hf
    go_wp2_with fail
    go_ret
    exact ⟨by rw [HF.out]; rfl, HE.out⟩
  · have HF := Lib.hid hf; clear hf
    go_wp2_with fail
    go_ret
    exact ⟨by rw [HF.out]; rfl, HE.out⟩
  · have HF := Lib.hid hf; clear hf
    go_wp2_with fail
    go_ret
    exact ⟨by rw [HF.out]; rfl, HE.out⟩
  · have HF := Lib.hid hf; have H5 := Lib.hid k5; clear hf k5
    go_wp2_with fail
    refine (contains_c a T c2 l _ HI.out).mono ?_
    rw [H5.out]
    rintro e w3 ⟨rfl, hx⟩
    have HE3 := Lib.hid (HE.out.trans hx); clear hx
    go_wp2_with fail
    go_ret
    exact ⟨by rw [HF.out]; rfl, HE3.out⟩
  · have HF := Lib.hid hf; have H5 := Lib.hid k5; have H6 := Lib.hid k6; clear hf k5 k6
    go_wp2_with fail
    refine (contains_c a T c2 l _ HI.out).mono ?_
    rw [H5.out]
    rintro e w3 ⟨rfl, hx⟩
    have HI3 := Lib.hid (HI.out.keep hx.ik)
    have HE3 := Lib.hid (HE.out.trans hx); clear hx
    go_wp2_with fail
    refine (ssum_c a T c2 l _ HI3.out (parts_bd (good_of_any H5.out) (by rw [HLN.out]; exact hlen))).mono ?_
    rw [H6.out]
    rintro e w4 ⟨rfl, hx⟩
    have HE4 := Lib.hid (HE3.out.trans hx); clear hx
    go_wp2_with fail
    go_ret
    exact ⟨by rw [HF.out]; rfl, HE4.out⟩
  · have HF := Lib.hid hf; have H5 := Lib.hid k5; clear hf k5
    go_wp2_with fail
    refine (contains_c a T c2 l _ HI.out).mono ?_
    rw [H5.out]
    rintro e w3 ⟨rfl, hx⟩
    have HI3 := Lib.hid (HI.out.keep hx.ik)
    have HE3 := Lib.hid (HE.out.trans hx); clear hx
    go_wp2_with fail
    refine (ssum_c a T c2 l _ HI3.out (parts_bd (good_of_any H5.out) (by rw [HLN.out]; exact hlen))).mono ?_
    rintro e w4 ⟨rfl, hx⟩
    have HE4 := Lib.hid (HE3.out.trans hx); clear hx
    go_wp2_with fail
    go_ret
    exact ⟨by rw [HF.out]; rfl, HE4.out⟩
  · have HF := Lib.hid hf; have H5 := Lib.hid k5; clear hf k5
    go_wp2_with fail
    refine (contains_c a T c2 l _ HI.out).mono ?_
    rw [H5.out]
    rintro e w3 ⟨rfl, hx⟩
    have HE3 := Lib.hid (HE.out.trans hx); clear hx
    go_wp2_with fail
    go_ret
    exact ⟨by rw [HF.out]; rfl, HE3.out⟩
end Go.Proofs.Ytlnmgcmpbbklhaa
