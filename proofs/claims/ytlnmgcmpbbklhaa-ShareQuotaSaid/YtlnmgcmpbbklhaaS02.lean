/- share: check. -/
import Derived.Test.YtlnmgcmpbbklhaaS01
import Derived.Lib.AppendZerosOnto
namespace Go.Proofs.Ytlnmgcmpbbklhaa
set_option linter.unusedSimpArgs false
set_option linter.unusedVariables false
open Go.RowKit

def badF (x : Int) : Bool := decide (x < 0 ∨ 1048576 < x)
theorem bad_c (x : Int) (w : World) : Calls Try.prog 52 #[.int .i64 x] w fun e w' => e = .returned (.bool (badF x)) ∧ Ext w w' := by
  have hk : (x < 0 ∧ badF x = true) ∨ (¬ x < 0 ∧ 1048576 < x ∧ badF x = true) ∨ (¬ x < 0 ∧ ¬ 1048576 < x ∧ badF x = false) := by
    unfold badF
    by_cases h1 : x < 0
    · left; exact ⟨h1, by simp [h1]⟩
    · by_cases h2 : 1048576 < x
      · right; left; exact ⟨h1, h2, by simp [h2]⟩
      · right; right; exact ⟨h1, h2, by simp; omega⟩
  rcases hk with ⟨k1, hf⟩ | ⟨k1, k2, hf⟩ | ⟨k1, k2, hf⟩
  all_goals
    have HF := Lib.hid hf; clear hf
    go_enter Try.func52, Try.ntmps52
    go_wp2
    go_ret
    exact ⟨by rw [HF.out]; rfl, (by repeat (first | exact Ext.refl _ | assumption | refine Ext.setCell ?_ (by first | (simp; done) | (simp; omega) | omega) _ | refine Ext.alloc ?_ _ | refine Ext.drew ?_ | refine Ext.trans ?_ (by assumption)))⟩

/-- Whether one of the numbers is bad. -/
def anyF (p : Int → Bool) (l : List Int) : Bool := l.any p
set_option maxHeartbeats 1000000 in
theorem index_c (a : Option Addr) (n c : Nat) (zs : List Int) (w : World) (h : Ints w a n zs) :
    Calls Try.prog 55 #[.slice a n c, .func (.func 52) #[] #[]] w fun e w' => ∃ r : Int, e = .returned (.int .i64 r) ∧ -1 ≤ r ∧ r ≤ n ∧ decide (0 ≤ r) = zs.any badF ∧ Ext w w' := by
  have H := Lib.hid h; have hn := h.2.1; clear h
  go_enter Try.func55, Try.ntmps55
  go_wp2_with fail
  go_loopw [8] (fun v ws => ∃ i : Nat, i ≤ n ∧ v = .int .i64 (i : Int) ∧ (zs.take i).any badF = false ∧ Ext w ws) (fun v _ => n - (intOf v).toNat)
  case atStart => exact ⟨0, by omega, rfl, by simp, Ext.refl w⟩
  case round =>
    obtain ⟨i, hi, rfl, hz, hE⟩ := hrel
    have HE := Lib.hid hE; clear hE
    by_cases hlt : i < n
    · obtain ⟨b, off, rfl, hbl, hc⟩ := Ints.at (H.out.keep HE.out.ik) i hlt
      have htk : zs.take (i + 1) = zs.take i ++ [zs.getD i 0] := by
        rw [List.take_succ_eq_append_getElem (by rw [H.out.1]; exact hlt)]
        simp [List.getD_eq_getElem?_getD, show i < zs.length by rw [H.out.1]; exact hlt]
      have hmem : zs.getD i 0 ∈ zs := by
        rw [List.getD_eq_getElem?_getD, List.getElem?_eq_getElem (by rw [H.out.1]; exact hlt)]; exact List.getElem_mem _
      generalize zs.getD i 0 = z at *
      have HZ := Lib.hid hz; have HTK := Lib.hid htk; have HM := Lib.hid hmem; clear hz htk hmem
      have t0 : (i : Int) < (n : Int) := by omega
      obtain ⟨bz, hbz⟩ : ∃ x, badF z = x := ⟨_, rfl⟩
      have HB := Lib.hid hbz; clear hbz
      cases bz
      · go_wp2_with fail
        refine (bad_c z _).mono ?_
        rw [HB.out]
        rintro e w2 ⟨rfl, hx2⟩
        have HE2 := Lib.hid (HE.out.trans hx2); clear hx2
        go_wp2_with fail
        go_roundw
        case rel => exact ⟨i + 1, by omega, by go_num, by rw [HTK.out, List.any_append, HZ.out]; simp [HB.out], HE2.out⟩
        case measure => simp [intOf]; omega
      · go_wp2_with fail
        refine (bad_c z _).mono ?_
        rw [HB.out]
        rintro e w2 ⟨rfl, hx2⟩
        have HE2 := Lib.hid (HE.out.trans hx2); clear hx2
        go_wp2_with fail
        go_ret
        refine ⟨(i : Int), rfl, by omega, by omega, ?_, HE2.out⟩
        have : zs.any badF = true := List.any_eq_true.2 ⟨z, HM.out, HB.out⟩
        rw [this]; simp
    · obtain rfl : i = n := by omega
      rw [List.take_of_length_le (by rw [H.out.1]; exact Nat.le_refl _)] at hz
      have HZ := Lib.hid hz; clear hz
      go_wp2_with fail
      go_ret
      exact ⟨-1, rfl, by omega, by omega, by rw [HZ.out]; rfl, HE.out⟩
theorem contains_c (a : Option Addr) (n c : Nat) (zs : List Int) (w : World) (h : Ints w a n zs) :
    Calls Try.prog 37 #[.slice a n c, .func (.func 52) #[] #[]] w fun e w' => e = .returned (.bool (zs.any badF)) ∧ Ext w w' := by
  have H := Lib.hid h; clear h
  go_enter Try.func37, Try.ntmps37
  go_wp2_with fail
  refine (index_c a n c zs _ H.out).mono ?_
  rintro e w2 ⟨r, rfl, h1, h2, h3, hx2⟩
  have H3 := Lib.hid h3; clear h3
  go_wp2_with fail
  go_ret
  exact ⟨by rw [← H3.out]; rfl, hx2⟩

/-- 'slices.Grow' of nil. -/
def GrowR (n : Nat) (w : World) (e : Ending) (w' : World) : Prop :=
  (n = 0 ∧ e = .returned (.slice none 0 0) ∧ w = w') ∨ (0 < n ∧ ∃ cap, n ≤ cap ∧ e = .returned (.slice (some ⟨w.heap.size, 0, none⟩) 0 cap) ∧ w'.ownsRow w.heap.size 3 1 (.slice (some ⟨w.heap.size, 0, none⟩) 0 cap) 0 [] ∧ Ext w w')
set_option maxRecDepth 100000 in
set_option maxHeartbeats 1000000 in
theorem grow_c (n : Nat) (w : World) (hn : n ≤ 1000000) : Calls Try.prog 65 #[.slice none 0 0, .int .i64 (n : Int)] w (GrowR n w) := by
  obtain ⟨i0, hi, hz0, hz1, hz2⟩ := info_parts intInfo
  by_cases h0 : n = 0
  · subst h0
    go_enter Try.func65, Try.ntmps65
    go_wp2_with fail
    go_ret
    exact .inl ⟨rfl, rfl, rfl⟩
  · have hold : (Builtin.firstCells i0.size 0 (.slice none 0 0)).run Try.prog w.drew = .ok ([] : List Value).toArray w.drew := run_firstCells_none w.drew i0.size 0 0 0
    have h1 : 0 < n := by omega
    obtain ⟨G, C, hrz, hG, hG63, hC⟩ : ∃ (G : Nat) (C : Array Value), (∀ ty, (Builtin.append_ #[22, 3] ty #[.slice none 0 0, .int .i64 (n : Int)]).run Try.prog w = .ok (.slice (some ⟨w.heap.size, 0, none⟩) n G) (w.drew.alloc (.cells C 3))) ∧ n ≤ G ∧ G ≤ maxLen ∧ C.size = G := by
      have hge := grownCap_ge w n 0 3
      have hle := grownCap_le_maxLen w n 0 3 (by unfold maxLen; omega)
      refine ⟨grownCap w n 0 3, ([] : List Value).toArray ++ Builtin.zeroCells (Value.int .i64 0).cells n ++ Builtin.zeroCells (Value.int .i64 0).cells (grownCap w n 0 3 - n), fun ty => ?_, hge, hle, ?_⟩
      · have h := Lib.run_append_grow_zeros (P := Try.prog) w 22 3 ty 3 i0 (.int .i64 0) .i64 .i64 Try.underlying22 Try.underlying3 hi hz0 none 0 0 [] hold n h1 (by omega) (by omega) (by omega) (by rw [hz2]; omega) (growslice_fits (by omega) (by rw [hz2]; omega))
        rw [Nat.zero_add] at h
        exact h
      · simp only [Array.size_append, size_zeroCells]
        rw [show (Value.cells (.int .i64 0)) = #[.int .i64 0] from rfl]
        simp; omega
    have hG2 : G ≤ 9223372036854775807 := by unfold maxLen at hG63; omega
    have HG := Lib.hid hG63; clear hold hG63
    go_enter Try.func65, Try.ntmps65
    go_wp2_with (at_builtin; refine Lib.wpList_append_run _ rfl _ _ _ _ rfl _ _ rfl rfl _ _ (hrz _) ?_)
    go_ret
    refine .inr ⟨h1, G, hG, rfl, ⟨rfl, .inr ⟨w.heap.size, G, C, rfl, Nat.le_refl _, heap_alloc_new w.drew _, Nat.zero_le _, HG.out, by rw [hC, Nat.mul_one], rfl⟩⟩, (by repeat (first | exact Ext.refl _ | assumption | refine Ext.setCell ?_ (by first | (simp; done) | (simp; omega) | omega) _ | refine Ext.alloc ?_ _ | refine Ext.drew ?_ | refine Ext.trans ?_ (by assumption)))⟩
end Go.Proofs.Ytlnmgcmpbbklhaa
