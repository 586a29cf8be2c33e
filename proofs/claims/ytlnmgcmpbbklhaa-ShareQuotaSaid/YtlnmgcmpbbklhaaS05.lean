/- share: the stable sort of indices. -/
import Derived.Test.YtlnmgcmpbbklhaaS04
namespace Go.Proofs.Ytlnmgcmpbbklhaa
set_option linter.unusedSimpArgs false
set_option linter.unusedVariables false
open Go.RowKit

def castL (S : List Nat) : List Int := S.map fun (k : Nat) => (k : Int)
theorem castL_length (S : List Nat) : (castL S).length = S.length := by simp [castL]
theorem castL_at (S : List Nat) (i : Nat) (hi : i < S.length) : (castL S).getD i 0 = ((S.getD i 0 : Nat) : Int) := by simp [castL, hi]
theorem set_swap {α : Type} (A B : List α) (s x : α) : ((A ++ s :: x :: B).set (A.length + 1) s).set A.length x = A ++ x :: s :: B := by
  induction A with
  | nil => simp
  | cons a A ih => simp
theorem getD_mid {α : Type} (A B : List α) (s x d : α) : (A ++ s :: x :: B).getD A.length d = s ∧ (A ++ s :: x :: B).getD (A.length + 1) d = x := by
  simp [List.getD_eq_getElem?_getD]

/-- What the sort's comparison reads. -/
def Keys (W : World) (kb rb rr : Nat) (c : Nat) (R : List Int) : Prop :=
  Blk W kb #[.func (.func 54) #[] #[.pointer (some ⟨rb, 0, none⟩)]] 79 ∧ Blk W rb #[.slice (some ⟨rr, 0, none⟩) R.length c] 22 ∧ IRow W rr R
theorem Keys.ext {W W' : World} {kb rb rr c : Nat} {R : List Int} (k : Ext W W') (h : Keys W kb rb rr c R) : Keys W' kb rb rr c R := ⟨h.1.ext k, h.2.1.ext k, Blk.ext h.2.2 k⟩
theorem Keys.drewN {W : World} {kb rb rr c : Nat} {R : List Int} (h : Keys W kb rb rr c R) (n : Nat) : Keys (W.drewN n) kb rb rr c R := h
theorem Keys.grown {W W' : World} {kb rb rr c b : Nat} {R : List Int} (k : W.grownBy W' (some b)) (h : Keys W kb rb rr c R) (h1 : kb ≠ b) (h2 : rb ≠ b) (h3 : rr ≠ b) : Keys W' kb rb rr c R :=
  ⟨h.1.grown k h1, h.2.1.grown k h2, Blk.grown h.2.2 k h3⟩

theorem key_c (i : Nat) (rb rr c : Nat) (R : List Int) (W : World) (h1 : Blk W rb #[.slice (some ⟨rr, 0, none⟩) R.length c] 22) (h2 : IRow W rr R) (hi : i < R.length) (hR : R.length ≤ 1000) :
    Calls Try.prog 54 #[.int .i64 (i : Int), .pointer (some ⟨rb, 0, none⟩)] W fun e w' => e = .returned (.int .i64 (R.getD i 0)) ∧ W = w' := by
  have c0 := h1.cell 0
  have c1 := h2.cell i hi
  have l0 := h1.lt
  have l1 := h2.lt
  have t0 : (i : Int) < (R.length : Int) := by omega
  have t1 : (0 : Int) ≤ (i : Int) := by omega
  clear h1 h2
  generalize R.length = m at *
  generalize R.getD i 0 = x at *
  go_enter Try.func54, Try.ntmps54
  go_wp2_with fail
  go_ret
  exact ⟨rfl, rfl⟩
set_option maxHeartbeats 1000000 in
theorem cmp_c (x y : Nat) (kb rb rr c : Nat) (R : List Int) (W : World) (h : Keys W kb rb rr c R) (hx : x < R.length) (hy : y < R.length) (hR : R.length ≤ 1000) :
    Calls Try.prog 67 #[.int .i64 (x : Int), .int .i64 (y : Int), .pointer (some ⟨kb, 0, none⟩)] W fun e w' => e = .returned (.int .i64 (cmpI (R.getD y 0) (R.getD x 0))) ∧ Dr W w' := by
  have c0 := h.1.cell 0
  have l0 := h.1.lt
  have HH := Lib.hid h; clear h
  go_enter Try.func67, Try.ntmps67
  go_upto_region 1 with (fail)
  go_quiet (first | (go_at_call 54; go_loud (exact Calls.quiet_of_same ((key_c _ rb rr c R _ (Blk.drewN HH.out.2.1 _) (Blk.drewN HH.out.2.2 _) (by assumption) hR).mono fun _ _ h => ⟨h.1, h.2.symm⟩))) | (go_at_call 68; exact Calls.quiet_of_same ((cmpInt_c _ _ _).mono fun _ _ h => ⟨h.1, h.2.symm⟩)))
  go_wp2_with fail
  go_ret
  exact ⟨by simp [List.getD_eq_getElem?_getD, hx, hy], (Dr.refl W).drewN _⟩

theorem grown_drewN {w w' : World} {r : Option Nat} (h : w.grownBy w' r) (n : Nat) : w.grownBy (w'.drewN n) r := ⟨h.os, h.tape, h.output, h.size, h.block⟩
theorem grown_drew {w w' : World} {r : Option Nat} (h : w.grownBy w' r) : w.grownBy w'.drew r := ⟨h.os, h.tape, h.output, h.size, h.block⟩
theorem grown_refl (w : World) (r : Option Nat) : w.grownBy w r := ⟨rfl, rfl, rfl, Nat.le_refl _, fun _ _ _ => rfl⟩
/-- The keys fall along a sorted list. -/
theorem sorted_fall {R : List Int} {m : Nat} {S : List Nat} (h : SortedBy R m S) {j k : Nat} (hk : k ≤ j) (hj : j < S.length) : R.getD (S.getD j 0) 0 ≤ R.getD (S.getD k 0) 0 := by
  rcases Nat.lt_or_eq_of_le hk with hlt | rfl
  · have hp := List.pairwise_iff_getElem.1 h.2 k j (by omega) hj hlt
    have e1 : S.getD k 0 = S[k] := by simp [List.getD_eq_getElem?_getD, show k < S.length by omega]
    have e2 : S.getD j 0 = S[j] := by simp [List.getD_eq_getElem?_getD, hj]
    rw [e1, e2]
    rcases hp with hp | hp
    · omega
    · omega
  · exact Int.le_refl _
/-- The row in the midst of the sort. -/
def midL (S : List Nat) (i j n : Nat) : List Nat := S.take j ++ i :: S.drop j ++ List.range' (i + 1) (n - i - 1)
theorem midL_length {S : List Nat} {i j n : Nat} (hS : S.length = i) (hj : j ≤ i) (hi : i < n) : (midL S i j n).length = n := by
  simp [midL]; omega
theorem midL_start {S : List Nat} {i n : Nat} (hS : S.length = i) (hi : i < n) : midL S i i n = S ++ List.range' i (n - i) := by
  unfold midL
  rw [List.take_of_length_le (by omega), List.drop_of_length_le (by omega)]
  rw [show n - i = (n - i - 1) + 1 by omega, List.range'_succ]
  simp
theorem midL_end {S : List Nat} {i j n : Nat} : midL S i j n = (S.take j ++ i :: S.drop j) ++ List.range' (i + 1) (n - (i + 1)) := by
  unfold midL; rw [Nat.sub_sub]
/-- The two neighbours. -/
theorem midL_split {S : List Nat} {i j n : Nat} (hj : j < S.length) : midL S i (j + 1) n = S.take j ++ S.getD j 0 :: i :: (S.drop (j + 1) ++ List.range' (i + 1) (n - i - 1)) ∧
    midL S i j n = S.take j ++ i :: S.getD j 0 :: (S.drop (j + 1) ++ List.range' (i + 1) (n - i - 1)) := by
  have e1 : S.getD j 0 = S[j] := by simp [List.getD_eq_getElem?_getD, hj]
  unfold midL
  rw [e1]
  constructor
  · rw [List.take_succ_eq_append_getElem hj]; simp only [List.append_assoc, List.cons_append, List.nil_append]
  · rw [← List.getElem_cons_drop hj]; simp only [List.append_assoc, List.cons_append, List.nil_append]
theorem castL_append (A B : List Nat) : castL (A ++ B) = castL A ++ castL B := by simp [castL]
theorem castL_cons (x : Nat) (B : List Nat) : castL (x :: B) = (x : Int) :: castL B := by simp [castL]

set_option maxRecDepth 100000 in
set_option maxHeartbeats 4000000 in
theorem ins_c (b n c2 kb rb rr c : Nat) (R : List Int) (w : World) (hR : R.length = n) (hn : n ≤ 100) (h : IRow w b (castL (List.range n))) (hk : Keys w kb rb rr c R) (n1 : kb ≠ b) (n2 : rb ≠ b) (n3 : rr ≠ b) :
    Calls Try.prog 81 #[.slice (some ⟨b, 0, none⟩) n c2, .int .i64 0, .int .i64 (n : Int), .func (.func 67) #[] #[.pointer (some ⟨kb, 0, none⟩)]] w fun e w' => ∃ v, e = .returned v ∧ (∃ S, SortedBy R n S ∧ IRow w' b (castL S)) ∧ w.grownBy w' (some b) := by
  have H := Lib.hid h; have HK := Lib.hid hk; have HR := Lib.hid hR; clear h hk hR
  by_cases h0 : n = 0
  · subst h0
    go_enter Try.func81, Try.ntmps81
    go_wp2_with fail
    go_loopw [8] (fun v ws => v = .int .i64 1 ∧ Ext w ws ∧ IRow ws b (castL (List.range 0)) ∧ w.grownBy ws (some b)) (fun _ _ => 0)
    case atStart => exact ⟨rfl, Ext.refl w, H.out, grown_refl w _⟩
    case round =>
      obtain ⟨rfl, _, hr0, hg0⟩ := hrel
      go_wp2_with fail
      go_end0
      exact ⟨_, rfl, ⟨[], ⟨List.Perm.refl _, List.Pairwise.nil⟩, hr0⟩, hg0⟩
  · go_enter Try.func81, Try.ntmps81
    go_wp2_with fail
    go_loopw [8] (fun v ws => ∃ (i : Nat) (S : List Nat), 1 ≤ i ∧ i ≤ n ∧ v = .int .i64 (i : Int) ∧ SortedBy R i S ∧ IRow ws b (castL (S ++ List.range' i (n - i))) ∧ w.grownBy ws (some b)) (fun v _ => n - (intOf v).toNat)
    case atStart =>
      refine ⟨1, [0], by omega, by omega, rfl, ⟨List.Perm.refl _, List.pairwise_singleton _ _⟩, ?_, grown_refl w _⟩
      have e : [0] ++ List.range' 1 (n - 1) = List.range n := by
        rw [List.range_eq_range', show n = (n - 1) + 1 by omega, List.range'_succ]; simp
      rw [e]; exact H.out
    case round =>
      obtain ⟨i, S, h1, hi, rfl, hS, hrow, hg⟩ := hrel
      have HS := Lib.hid hS; have HROW := Lib.hid hrow; have HG := Lib.hid hg; clear hS hrow hg
      have hSl : S.length = i := by rw [HS.out.1.length_eq, List.length_range]
      by_cases hlt : i < n
      · go_wp2_with fail
        go_loopw [9] (fun v ws => ∃ j : Nat, j ≤ i ∧ v = .int .i64 (j : Int) ∧ (∀ y, y ∈ S.drop j → R.getD y 0 < R.getD i 0) ∧ IRow ws b (castL (midL S i j n)) ∧ w.grownBy ws (some b)) (fun v _ => (intOf v).toNat)
        case atStart => exact ⟨i, Nat.le_refl _, rfl, fun y hy => by rw [List.drop_of_length_le (by omega)] at hy; simp at hy, by rw [midL_start hSl hlt]; exact HROW.out, HG.out⟩
        case round =>
          obtain ⟨j, hj, rfl, hdr, hrow, hg⟩ := hrel
          have HDR := Lib.hid hdr; have HRW := Lib.hid hrow; have HGG := Lib.hid hg; clear hdr hrow hg
          have hml := midL_length (n := n) hSl hj hlt
          have hsz := HRW.out.lt
          by_cases hj0 : j = 0
          · subst hj0
            have hfin : SortedBy R (i + 1) (S.take 0 ++ i :: S.drop 0) := insert_sorted HS.out (by omega) HDR.out (fun k hk => absurd hk (by omega))
            have HF := Lib.hid hfin; clear hfin hml
            go_wp2_with fail
            go_quiet (fail)
            go_wp2_with fail
            go_roundw
            case rel => exact ⟨i + 1, _, by omega, by omega, by go_num, HF.out, by have := HRW.out; rw [midL_end] at this; exact this, grown_drewN HGG.out _⟩
            case measure => simp [intOf]; omega
          · obtain ⟨jp, rfl⟩ : ∃ jp, j = jp + 1 := ⟨j - 1, by omega⟩
            obtain ⟨m1, m2⟩ := midL_split (S := S) (i := i) (j := jp) (n := n) (by omega)
            have hsmem : S.getD jp 0 < i := by
              refine (mem_of_sorted HS.out _).1 ?_
              rw [List.getD_eq_getElem?_getD, List.getElem?_eq_getElem (by omega)]; exact List.getElem_mem _
            have htl : (S.take jp).length = jp := by rw [List.length_take]; omega
            have hrow2 := HRW.out
            rw [m1] at hrow2
            have g1 := IRow.cell hrow2 jp (by rw [← m1, castL_length]; omega)
            have g2 := IRow.cell hrow2 (jp + 1) (by rw [← m1, castL_length]; omega)
            rw [castL_at _ _ (by rw [← m1]; omega)] at g1 g2
            have q1 := (getD_mid (S.take jp) (S.drop (jp + 1) ++ List.range' (i + 1) (n - i - 1)) (S.getD jp 0) i 0)
            rw [htl] at q1
            rw [q1.1] at g1
            rw [q1.2] at g2
            obtain ⟨s, hs⟩ : ∃ s, S.getD jp 0 = s := ⟨_, rfl⟩
            rw [hs] at g1 hsmem hrow2
            have f1 := IRow.free HRW.out jp
            have f2 := IRow.free HRW.out (jp + 1)
            have HS1 := Lib.hid hs
            have HM := Lib.hid (show midL S i (jp + 1) n = _ ∧ midL S i jp n = _ from ⟨m1, m2⟩)
            have HR2 := Lib.hid hrow2
            have HKW := Lib.hid (HK.out.grown HGG.out n1 n2 n3)
            clear m1 m2 q1 hs hrow2
            have t0 : (0 : Int) < (jp : Int) + 1 := by omega
            have t1 : (jp : Int) + 1 < (n : Int) := by omega
            have t2 : (jp : Int) < (n : Int) := by omega
            have t3 : (0 : Int) ≤ (jp : Int) := by omega
            by_cases hlv : R.getD s 0 < R.getD i 0
            · have hcmp : cmpI (R.getD s 0) (R.getD i 0) = -1 := by unfold cmpI; rw [if_pos hlv]
              have HC := Lib.hid hcmp; have HLV := Lib.hid hlv; clear hcmp hlv
              go_wp2_with fail
              go_quiet ((go_at_call 67; go_loud (exact Calls.quiet_of ((cmp_c i s kb rb rr c R _ (Keys.drewN HKW.out _) (by rw [HR.out]; exact hlt) (by rw [HR.out]; omega) (by rw [HR.out]; omega)).mono fun _ _ h => ⟨(show _ = Ending.returned (.int .i64 (-1)) by rw [h.1, HC.out]), h.2⟩))))
              go_upto_region 6 with (fail)
              refine wp_gen (fun W => W.cell? ⟨b, jp, none⟩ = some (.int .i64 (s : Int)) ∧ W.cell? ⟨b, jp + 1, none⟩ = some (.int .i64 (i : Int)) ∧ W.frozen? ⟨b, jp, none⟩ = false ∧ W.frozen? ⟨b, jp + 1, none⟩ = false ∧ IRow W b (castL (S.take jp ++ s :: i :: (S.drop (jp + 1) ++ List.range' (i + 1) (n - i - 1)))) ∧ w.grownBy W (some b))
                ⟨g1, g2, f1, f2, HR2.out, grown_drewN HGG.out _⟩ ?_
              clear g1 g2 f1 f2
              rintro W ⟨g1, g2, f1, f2, R1, G1⟩
              have HR1 := Lib.hid R1; have HG1 := Lib.hid G1; clear R1 G1
              go_region
              all_goals
                go_wp2_with fail
                go_roundw
                case rel =>
                  have e0 : (castL (S.take jp)).length = jp := by rw [castL_length]; exact htl
                  have e1 := set_swap (castL (S.take jp)) (castL (S.drop (jp + 1) ++ List.range' (i + 1) (n - i - 1))) (s : Int) (i : Int)
                  rw [e0] at e1
                  refine ⟨jp, by omega, by go_num, fun y hy => ?_, ?_, ?_⟩
                  · rw [← List.getElem_cons_drop (show jp < S.length by omega), List.mem_cons] at hy
                    rcases hy with rfl | hy
                    · have e2 : S.getD jp 0 = S[jp] := by simp [List.getD_eq_getElem?_getD, show jp < S.length by omega]
                      rw [← e2, HS1.out]; exact HLV.out
                    · exact HDR.out y hy
                  · rw [HM.out.2, HS1.out, castL_append, castL_cons, castL_cons, ← e1]
                    have := HR1.out
                    rw [castL_append, castL_cons, castL_cons] at this
                    exact (this.set (jp + 1) _).set jp _
                  · exact grown_drew (grown_trans HG1.out (grown_trans (grown_setCell _ _ _ _) (grown_setCell _ _ _ _)))
                case measure => first | (simp [intOf]; done) | (simp [intOf]; omega)
            · have hcmp : (cmpI (R.getD s 0) (R.getD i 0) = 0 ∨ cmpI (R.getD s 0) (R.getD i 0) = 1) := by
                unfold cmpI; rw [if_neg hlv]; split
                · right; rfl
                · left; rfl
              obtain ⟨cv, hcv⟩ : ∃ v, cmpI (R.getD s 0) (R.getD i 0) = v := ⟨_, rfl⟩
              rw [hcv] at hcmp
              have hcv0 : ¬ cv < 0 := by omega
              have hfin : SortedBy R (i + 1) (S.take (jp + 1) ++ i :: S.drop (jp + 1)) := insert_sorted HS.out (by omega) HDR.out (fun k hk => by
                have := sorted_fall HS.out (j := jp) (k := k) (by omega) (by omega)
                rw [HS1.out] at this; omega)
              have HF := Lib.hid hfin; have HC := Lib.hid hcv; clear hcv hcmp hfin hlv
              go_wp2_with fail
              go_quiet ((go_at_call 67; go_loud (exact Calls.quiet_of ((cmp_c i s kb rb rr c R _ (Keys.drewN HKW.out _) (by rw [HR.out]; exact hlt) (by rw [HR.out]; omega) (by rw [HR.out]; omega)).mono fun _ _ h => ⟨(show _ = Ending.returned (.int .i64 cv) by rw [h.1, HC.out]), h.2⟩))))
              go_wp2_with fail
              go_roundw
              case rel => exact ⟨i + 1, _, by omega, by omega, by go_num, HF.out, by have := HRW.out; rw [midL_end] at this; exact this, grown_drewN HGG.out _⟩
              case measure => simp [intOf]; omega
      · obtain rfl : i = n := by omega
        go_wp2_with fail
        go_end0
        refine ⟨_, rfl, ⟨S, HS.out, ?_⟩, HG.out⟩
        have := HROW.out
        simpa using this
end Go.Proofs.Ytlnmgcmpbbklhaa
