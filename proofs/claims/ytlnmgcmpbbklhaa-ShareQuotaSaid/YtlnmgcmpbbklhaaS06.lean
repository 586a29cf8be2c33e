/- share: firsts. -/
import Derived.Test.YtlnmgcmpbbklhaaS05
namespace Go.Proofs.Ytlnmgcmpbbklhaa
set_option linter.unusedSimpArgs false
set_option linter.unusedVariables false
open Go.RowKit

set_option maxHeartbeats 2000000 in
theorem stable_c (b n c2 kb rb rr c : Nat) (R : List Int) (w : World) (hR : R.length = n) (hn : n ≤ 19) (h : IRow w b (castL (List.range n))) (hk : Keys w kb rb rr c R) (n1 : kb ≠ b) (n2 : rb ≠ b) (n3 : rr ≠ b) :
    Calls Try.prog 76 #[.slice (some ⟨b, 0, none⟩) n c2, .int .i64 (n : Int), .func (.func 67) #[] #[.pointer (some ⟨kb, 0, none⟩)]] w fun e w' => ∃ v, e = .returned v ∧ (∃ S, SortedBy R n S ∧ IRow w' b (castL S)) ∧ w.grownBy w' (some b) := by
  have H := Lib.hid h; have HK := Lib.hid hk; have HR := Lib.hid hR; clear h hk hR
  have t0 : (n : Int) < 20 := by omega
  go_enter Try.func76, Try.ntmps76
  go_wp2_with fail
  go_loopw [7, 8] (fun a v ws => a = .int .i64 0 ∧ v = .int .i64 20 ∧ IRow ws b (castL (List.range n)) ∧ Keys ws kb rb rr c R ∧ w.grownBy ws (some b)) (fun _ _ _ => 0)
  case atStart => exact ⟨rfl, rfl, H.out, HK.out, grown_refl w _⟩
  case round =>
    obtain ⟨rfl, rfl, hr, hk, hg⟩ := hrel
    have H2 := Lib.hid hr; have HK2 := Lib.hid hk; have HG2 := Lib.hid hg; clear hr hk hg
    go_wp2_with fail
    refine (ins_c b n c2 kb rb rr c R _ HR.out (by omega) H2.out HK2.out n1 n2 n3).mono ?_
    rintro e w2 ⟨v, rfl, hS, hg⟩
    have HS := Lib.hid (show (∃ S, SortedBy R n S ∧ IRow w2 b (castL S)) ∧ w.grownBy w2 (some b) from ⟨hS, grown_trans HG2.out hg⟩)
    clear hS hg
    go_wp2_with fail
    go_loopw [6] (fun v ws => v = .int .i64 20 ∧ (∃ S, SortedBy R n S ∧ IRow ws b (castL S)) ∧ w.grownBy ws (some b)) (fun _ _ => 0)
    case atStart => exact ⟨rfl, HS.out⟩
    case round =>
      obtain ⟨rfl, hS⟩ := hrel
      go_wp2_with fail
      go_end0
      exact ⟨_, rfl, hS⟩
set_option maxHeartbeats 2000000 in
theorem sort_c (b n c2 kb rb rr c : Nat) (R : List Int) (w : World) (hR : R.length = n) (hn : n ≤ 19) (h : IRow w b (castL (List.range n))) (hk : Keys w kb rb rr c R) (n1 : kb ≠ b) (n2 : rb ≠ b) (n3 : rr ≠ b) :
    Calls Try.prog 66 #[.slice (some ⟨b, 0, none⟩) n c2, .func (.func 67) #[] #[.pointer (some ⟨kb, 0, none⟩)]] w fun e w' => ∃ v, e = .returned v ∧ (∃ S, SortedBy R n S ∧ IRow w' b (castL S)) ∧ w.grownBy w' (some b) := by
  have H := Lib.hid h; have HK := Lib.hid hk; have HR := Lib.hid hR; clear h hk hR
  go_enter Try.func66, Try.ntmps66
  go_wp2_with fail
  refine (stable_c b n c2 kb rb rr c R _ HR.out hn H.out HK.out n1 n2 n3).mono ?_
  rintro e w2 ⟨v, rfl, hS⟩
  go_wp2_with fail
  go_end0
  exact ⟨_, rfl, hS⟩

theorem fill_set (n i : Nat) (hi : i < n) : (castL (List.range i) ++ List.replicate (n - i) 0).set i (i : Int) = castL (List.range (i + 1)) ++ List.replicate (n - (i + 1)) 0 := by
  have e : n - i = (n - (i + 1)) + 1 := by omega
  have el : (castL (List.range i)).length = i := by rw [castL_length, List.length_range]
  rw [List.set_append_right _ _ (by omega), el, Nat.sub_self, e, List.replicate_succ, List.set_cons_zero, List.range_succ, castL_append]
  simp [castL]
set_option maxRecDepth 100000 in
set_option maxHeartbeats 2000000 in
theorem firsts_c (n rb rr c : Nat) (R : List Int) (w : World) (hR : R.length = n) (hn : n ≤ 19) (h1 : Blk w rb #[.slice (some ⟨rr, 0, none⟩) R.length c] 22) (h2 : IRow w rr R) :
    Calls Try.prog 53 #[.int .i64 (n : Int), .func (.func 54) #[] #[.pointer (some ⟨rb, 0, none⟩)]] w fun e w' => ∃ g, e = .returned (.slice (some ⟨g, 0, none⟩) n n) ∧ w.heap.size ≤ g ∧ (∃ S, SortedBy R n S ∧ IRow w' g (castL S)) ∧ Ext w w' := by
  have HB := Lib.hid h1; have HR2 := Lib.hid h2; have HR := Lib.hid hR
  have lrb := h1.lt
  have lrr := h2.lt
  clear h1 h2 hR
  have hmk := make_ints n (n : Int) (n : Int) rfl rfl (by omega)
  go_enter Try.func53, Try.ntmps53
  go_wp2_with fail
  clear hmk
  go_loopw [11] (fun v ws => ∃ i : Nat, i ≤ n ∧ v = .int .i64 (i : Int) ∧ IRow ws (w.heap.size + 1) (castL (List.range i) ++ List.replicate (n - i) 0) ∧ Keys ws w.heap.size rb rr c R ∧ Ext w ws) (fun v _ => n - (intOf v).toNat)
  case atStart => exact ⟨0, by omega, rfl, by rw [show castL (List.range 0) ++ List.replicate (n - 0) 0 = List.replicate n 0 by simp [castL]]; exact Blk.at _ _ (by simp), ⟨(Blk.at _ _ rfl).alloc _, (HB.out.alloc _).alloc _, (Blk.alloc (Blk.alloc HR2.out _) _)⟩, (by repeat (first | exact Ext.refl _ | assumption | refine Ext.setCell ?_ (by first | (simp; done) | (simp; omega) | omega) _ | refine Ext.alloc ?_ _ | refine Ext.drew ?_ | refine Ext.trans ?_ (by assumption)))⟩
  case round =>
    obtain ⟨i, hi, rfl, hr, hk, hE⟩ := hrel
    have hbl := hr.lt
    have H := Lib.hid hr; have HK := Lib.hid hk; have HE := Lib.hid hE; clear hr hk hE
    by_cases hlt : i < n
    · have c0 := IRow.cell H.out i (by simp [castL]; omega)
      have f0 := IRow.free H.out i
      have t0 : (i : Int) < (n : Int) := by omega
      generalize (castL (List.range i) ++ List.replicate (n - i) 0).getD i 0 = z at c0
      go_wp2_with fail
      go_roundw
      case rel =>
        refine ⟨i + 1, by omega, by go_num, ?_, HK.out.grown (grown_setCell _ _ _ _) (by omega) (by omega) (by omega), HE.out.setCell (show w.heap.size ≤ w.heap.size + 1 by omega) _⟩
        rw [← fill_set n i hlt]; exact H.out.set i _
      case measure => simp [intOf]; omega
    · obtain rfl : i = n := by omega
      have hrow : IRow wr (w.heap.size + 1) (castL (List.range i)) := by have := H.out; simpa using this
      have HROW := Lib.hid hrow; clear hrow
      go_wp2_with fail
      refine (sort_c (w.heap.size + 1) i i w.heap.size rb rr c R _ HR.out hn HROW.out HK.out (by omega) (by omega) (by omega)).mono ?_
      rintro e w2 ⟨v, rfl, hS, hg⟩
      have HE2 := Lib.hid (ext_grown HE.out hg (fun g hg => by injection hg with hg; omega))
      have HS := Lib.hid hS
      clear hS hg
      go_wp2_with fail
      go_ret
      exact ⟨_, rfl, by omega, HS.out, HE2.out⟩
end Go.Proofs.Ytlnmgcmpbbklhaa
