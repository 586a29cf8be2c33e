/- meresmanref27: Join, Same of equal lists. -/
import Derived.Test.YtlnmgcmpbbklhaaS15
namespace Go.Proofs.Ytlnmgcmpbbklhaa
set_option linter.unusedSimpArgs false
set_option linter.unusedVariables false
open Go.RowKit

set_option maxRecDepth 100000 in
set_option maxHeartbeats 2000000 in
theorem join_c (ga : Option Addr) (m c : Nat) (gs : List Sl) (Ls : List (List Int)) (w : World) (h : Grps w ga m gs Ls) (hT : lens Ls ≤ 100000) :
    Calls Try.prog 24 #[.slice ga m c] w fun e w' => ∃ v, e = .returned v ∧ VRow w' w.heap.size v Ls.flatten ∧ Ext w w' := by
  obtain ⟨i0, hi0, hz0, hz1, hz2⟩ := info_parts intInfo
  have H := Lib.hid h; have HL := Lib.hid hT; clear h hT
  have hm := H.out.2.2.1
  go_enter Try.func24, Try.ntmps24
  go_wp2_with fail
  go_loopw [3, 4] (fun v6 v ws => ∃ k : Nat, k ≤ m ∧ v = .int .i64 (k : Int) ∧ VRow ws w.heap.size v6 (Ls.take k).flatten ∧ Ext w ws) (fun _ v _ => m - (intOf v).toNat)
  case atStart => exact ⟨0, by omega, rfl, VRow.nil _ _, Ext.refl w⟩
  case round =>
    obtain ⟨k, hk, rfl, hV, hE⟩ := hrel
    have HV := Lib.hid hV; have HE := Lib.hid hE
    by_cases hlt2 : k < m
    · obtain ⟨b, off, rfl, hb, hc⟩ := (H.out.ext hE).at k hlt2
      have hin := (H.out.2.2.2.2 k hlt2).keep hE.ik
      generalize gs.getD k sl0 = g at *
      have hfl := flat_next Ls k (by rw [H.out.2.1]; exact hlt2)
      have hsz := hE.size
      have hll := lens_take Ls (k + 1)
      have hl := HL.out
      rw [← flat_length, ← flat_length, hfl, List.length_append] at hll
      rw [← flat_length] at hl
      generalize Ls.getD k [] = l at *
      have hln := hin.1
      obtain ⟨ga, gn, gc⟩ := g
      simp only at hin hln hc
      have t0 : (k : Int) < (m : Int) := by omega
      by_cases h0 : gn = 0
      · subst h0
        have hl0 : l = [] := List.eq_nil_of_length_eq_zero hln
        subst hl0
        have hra := fun ty => run_append_none HV.out ty ga gc
        clear hE hV hin hll
        go_wp2_with (at_builtin; refine Lib.wpList_append_run _ rfl _ _ _ _ rfl _ _ rfl rfl _ _ (hra _) ?_)
        go_roundw
        case rel => exact ⟨k + 1, by omega, by go_num, by rw [hfl]; simpa using HV.out, HE.out⟩
        case measure => simp [intOf]; omega
      · obtain ⟨b2, o2, rfl, hb2, _⟩ := hin.at 0 (by omega)
        have HI := Lib.hid hin
        have HFL := Lib.hid hfl
        clear hE hV hin hfl
        generalize (Ls.take k).flatten = F at *
        go_wp2_with (refine wpList_append_lies _ rfl _ _ _ rfl w.heap.size 3 i0 _ 1 8 Try.underlying22 hi0 hz0 hz1 hz2 rfl (by omega) _ _ _ rfl HV.out ⟨b2, o2, none⟩ gn gc (ivals l) rfl (by simp [ivals, hln]) (ints_news HI.out (by omega)) (ivals_one _) (by omega) (by rw [maxLen]; omega) (by omega) (by omega) _ rfl ?_)
        intro g2 cap w1 hown hgrow hat hlt1
        have HR := Lib.hid (show VRow w1 w.heap.size (.slice (some ⟨g2, 0, none⟩) (F.length + gn) cap) (Ls.take (k + 1)).flatten ∧ Ext w w1 from
          ⟨by rw [HFL.out]; exact VRow.app hln hown, ext_grown HE.out hgrow (fun g hg => (owns_lt HV.out hg).1)⟩)
        clear hown hgrow hat
        go_wp2_with fail
        go_roundw
        case rel => exact ⟨k + 1, by omega, by go_num, HR.out.1, HR.out.2⟩
        case measure => simp [intOf]; omega
    · obtain rfl : k = m := by omega
      rw [List.take_of_length_le (by rw [H.out.2.1]; exact Nat.le_refl _)] at hV
      go_wp2_with fail
      go_ret
      exact ⟨_, rfl, hV, HE.out⟩
set_option maxRecDepth 100000 in
set_option maxHeartbeats 2000000 in
theorem same2_c (ga gb : Option Addr) (m c d : Nat) (gs hs : List Sl) (Ls : List (List Int)) (w : World) (h : Grps w ga m gs Ls) (h2 : Grps w gb m hs Ls) :
    Calls Try.prog 23 #[.slice ga m c, .slice gb m d] w fun e w' => e = .returned (.bool true) ∧ Ext w w' := by
  have H := Lib.hid h; have H2 := Lib.hid h2; clear h h2
  have hm := H.out.2.2.1
  go_enter Try.func23, Try.ntmps23
  go_wp2_with fail
  go_loopw [5] (fun v ws => ∃ i : Nat, i ≤ m ∧ v = .int .i64 (i : Int) ∧ Ext w ws) (fun v _ => m - (intOf v).toNat)
  case atStart => exact ⟨0, by omega, rfl, Ext.refl w⟩
  case round =>
    obtain ⟨i, hi, rfl, hE⟩ := hrel
    have HE := Lib.hid hE
    by_cases hlt : i < m
    · have t0 : (i : Int) < (m : Int) := by omega
      have t1 : (0 : Int) ≤ (i : Int) := by omega
      obtain ⟨b, off, rfl, hb, hc⟩ := (H.out.ext hE).at i hlt
      obtain ⟨b2, off2, rfl, hb2, hc2⟩ := (H2.out.ext hE).at i hlt
      have hin := (H.out.2.2.2.2 i hlt).keep hE.ik
      have hin2 := (H2.out.2.2.2.2 i hlt).keep hE.ik
      generalize gs.getD i sl0 = g at *
      generalize hs.getD i sl0 = g2 at *
      generalize Ls.getD i [] = L at *
      obtain ⟨sa, sn, sc⟩ := g
      obtain ⟨ta, tn, tc⟩ := g2
      simp only at hin hin2 hc hc2
      obtain rfl : sn = tn := by rw [← hin.1, ← hin2.1]
      have HIN := Lib.hid hin; have HIN2 := Lib.hid hin2
      have E0 : Ext wr wr := Ext.refl wr
      clear hin hin2 hE
      go_upto_region 6 with (fail)
      go_region_held3 (fun w' => Ext wr w' ∧ w'.cell? ⟨b, off + i, none⟩ = some (.slice sa sn sc) ∧ w'.cell? ⟨b2, off2 + i, none⟩ = some (.slice ta sn tc)) (first | exact ⟨E0.drew, hc, hc2⟩ | (go_split_ands; repeat' (first | with_reducible assumption | with_reducible apply And.intro | with_reducible exact Ext.refl _ | with_reducible refine Ext.setCell ?_ (by simp; omega) _ | with_reducible refine Ext.setCell ?_ (by simp) _ | with_reducible refine At.set ?_ (by omega) | with_reducible refine own1_set ?_ | with_reducible refine own2_set ?_ | with_reducible refine own3_set ?_ (by simp) | with_reducible refine Ext.drew ?_ | with_reducible refine At.drew ?_ | with_reducible refine own1_drew ?_ | with_reducible refine Ext.alloc ?_ _ | with_reducible refine At.alloc ?_ (by simp) | with_reducible refine own1_alloc ?_ | with_reducible refine cell_alloc ?_ | with_reducible refine cell_drew ?_ | with_reducible refine own2_drew ?_ | with_reducible refine own3_drew ?_ | with_reducible refine own2_alloc (by first | omega | (simp; omega)) ?_ | with_reducible refine own3_alloc (by first | omega | (simp; omega)) ?_ | with_reducible refine cell_set ?_ (by omega) | with_reducible exact Ext.trans' (by assumption) (by assumption) | with_reducible exact At.ext (by assumption) (by assumption) (by simp) | with_reducible exact Ext.cell (by assumption) (by assumption) | exact (Own.ext (by assumption) ⟨by assumption, by assumption, by assumption⟩ (by simp)).1 | exact (Own.ext (by assumption) ⟨by assumption, by assumption, by assumption⟩ (by simp)).2.1 | exact (Own.ext (by assumption) ⟨by assumption, by assumption, by assumption⟩ (by simp)).2.2))) ((go_at_call 16; refine (same_c _ _ sn sc tc L _ (HIN.out.keep (Ext.ik (And.left (by assumption)))) (HIN2.out.keep (Ext.ik (And.left (by assumption))))).mono ?_; rintro e w5 ⟨rfl, hx5⟩))
      obtain ⟨E5, hc5, hc6⟩ : Ext wr w5 ∧ w5.cell? ⟨b, off + i, none⟩ = some (.slice sa sn sc) ∧ w5.cell? ⟨b2, off2 + i, none⟩ = some (.slice ta sn tc) := (by assumption)
      have HE5 := Lib.hid (HE.out.trans E5)
      clear E5 hc5 hc6 E0 hx5
      go_wp2_with fail
      go_roundw
      case rel => exact ⟨i + 1, by omega, by go_num, HE5.out⟩
      case measure => simp [intOf]; omega
    · obtain rfl : i = m := by omega
      go_wp2_with fail
      go_ret
      exact ⟨rfl, HE.out⟩
end Go.Proofs.Ytlnmgcmpbbklhaa
