/- meresmanref27: Largest, Highest. -/
import Derived.Test.YtlnmgcmpbbklhaaS10
namespace Go.Proofs.Ytlnmgcmpbbklhaa
set_option linter.unusedSimpArgs false
set_option linter.unusedVariables false
open Go.RowKit

theorem pickN_le (m t : Nat) (s : List Int × List Int) (i : Nat) : (pickN m t s).1.getD i 0 ≤ s.1.getD i 0 + t := by
  induction t with
  | zero => simp [pickN]
  | succ t ih =>
    rw [pickN, pick1]
    simp only
    by_cases hi : i < (pickN m t s).1.length
    · rw [bump_at _ _ _ hi]; split <;> omega
    · rw [List.getD_eq_getElem?_getD, List.getElem?_eq_none (by rw [bump_length]; omega)]
      rw [List.getD_eq_getElem?_getD, List.getElem?_eq_none (by omega)] at ih
      simp only [Option.getD_none] at ih ⊢; omega
set_option maxRecDepth 100000 in
set_option maxHeartbeats 4000000 in
theorem rlargest_c (n : Int) (a : Option Addr) (m c : Nat) (l : List Int) (w : World) (h : Ints w a m l) (h1 : 0 ≤ n) (h2 : n ≤ 1099511627776) (hw : ∀ x, x ∈ l → 0 ≤ x ∧ x ≤ 4294967296) (hS : sumI l ≤ 8589934592) (hm : m ≤ 19) :
    Calls Try.prog 17 #[.int .i64 n, .slice a m c] w fun e w' => ∃ g, e = .returned (.slice (some ⟨g, 0, none⟩) m m) ∧ w.heap.size ≤ g ∧ IRow w' g (largestF n l) ∧ Ext w w' := by
  have H := Lib.hid h; have HW := Lib.hid hw
  have hlen := h.1
  have hsum := sum_bdB l hw
  rw [hlen] at hsum
  have hmk := make_ints m (m : Int) (m : Int) rfl rfl (by omega)
  have hF := largestF.eq_1 n l
  rw [hlen] at hF
  clear h hw
  go_enter Try.func17, Try.ntmps17
  go_wp2_with fail
  refine (rsum_c a m c l _ (H.out.keep ((Ext.refl w).alloc _).ik) (parts_bdB HW.out (by omega))).mono ?_
  rintro e w2 ⟨rfl, hx⟩
  have hrow : IRow w2 w.heap.size (List.replicate m 0) := IRow.ext (Blk.new _ _ _) hx
  have hE : Ext w w2 := ((Ext.refl w).alloc _).trans hx
  obtain ⟨all, hall⟩ : ∃ x, sumI l = x := ⟨_, rfl⟩
  rw [hall] at hsum hF hS
  have HALL := Lib.hid hall
  rw [hall]
  clear hx hall
  by_cases h0 : n = 0 ∨ all = 0
  · rw [if_pos h0] at hF
    have HF := Lib.hid hF; have HROW := Lib.hid hrow; have HE := Lib.hid hE; clear hF hrow hE hmk
    by_cases hn0 : n = 0
    · subst hn0
      go_wp2_with fail
      go_ret
      exact ⟨_, rfl, Nat.le_refl _, by rw [HF.out]; exact HROW.out, HE.out⟩
    · have : all = 0 := by omega
      subst this
      have hn' : (n == 0) = false := by rw [beq_eq_false_iff_ne]; exact hn0
      go_wp2_with fail
      go_ret
      exact ⟨_, rfl, Nat.le_refl _, by rw [HF.out]; exact HROW.out, HE.out⟩
  · rw [if_neg h0] at hF
    have hn' : (n == 0) = false := by rw [beq_eq_false_iff_ne]; omega
    have ha' : (all == 0) = false := by rw [beq_eq_false_iff_ne]; omega
    have hap : 1 ≤ all := by omega
    have hm0 : 0 < m := by
      rcases Nat.eq_zero_or_pos m with h | h
      · have h3 := HALL.out
        rw [List.eq_nil_of_length_eq_zero (by omega : l.length = 0)] at h3
        simp [sumI] at h3; omega
      · exact h
    have HF := Lib.hid hF; have HROW := Lib.hid hrow; have HE := Lib.hid hE; clear hF hrow hE h0
    go_upto_region 7 with (fail)
    obtain ⟨rr, hrr⟩ : ∃ r, r = w2.heap.size := ⟨_, rfl⟩
    rw [← hrr]
    have hlw := HROW.out.lt
    have hsw := HE.out.size
    refine wp_gen (fun W => Ext w W ∧ IRow W w.heap.size (List.replicate m 0) ∧ IRow W rr (List.replicate m 0))
      ⟨HE.out.alloc _, Blk.alloc HROW.out _, by rw [hrr]; exact Blk.new _ _ _⟩ ?_
    have hb1 : w.heap.size < rr := by omega
    clear HROW HE hrr hlw hsw hmk
    rintro W ⟨E0, R0, R1⟩
    have hql : (quos n l).length = m := by simp [quos, hlen]
    have hrl : (rems n l).length = m := by simp [rems, hlen]
    have hqa : ∀ i, i < m → (quos n l).getD i 0 = n * l.getD i 0 / all := fun i hi => by unfold quos; rw [getD_map _ _ _ (by omega), HALL.out]
    have hra : ∀ i, i < m → (rems n l).getD i 0 = n * l.getD i 0 % all := fun i hi => by unfold rems; rw [getD_map _ _ _ (by omega), HALL.out]
    have hleft : leftF n l = n - sumI (quos n l) := rfl
    have hlb := left_bd (n := n) (w := l) (by rw [HALL.out]; omega)
    rw [hlen] at hlb
    generalize quos n l = qs at *
    generalize rems n l = rs at *
    rw [← hql] at R0
    have HST := Lib.hid (show Ext w W ∧ IRow W w.heap.size (fillL qs 0) ∧ IRow W rr (fillL rs 0) from ⟨E0, by rw [fillL_zero]; exact R0, by rw [fillL_zero, hrl]; exact R1⟩)
    have HQB := Lib.hid (show (∀ x, x ∈ qs → 0 ≤ x ∧ x ≤ 1099511627776) from fun y hy => by
      obtain ⟨i, hi, rfl⟩ := mem_getD hy
      rw [hqa i (by omega)]
      have hx := HW.out _ (getD_mem (l := l) (i := i) (by omega))
      have := quo_bd (n := n) (x := l.getD i 0) (all := all) h1 hx.1 (by rw [← HALL.out]; exact mem_le_sum (fun x hx => (HW.out x hx).1) (getD_mem (by omega))) hap
      omega)
    have HQA := Lib.hid hqa; have HRA := Lib.hid hra; have HLF := Lib.hid hleft; have HLB := Lib.hid hlb; have HQL := Lib.hid hql; have HRL := Lib.hid hrl
    clear E0 R0 R1 hqa hra hleft hlb hql hrl
    go_wp2_with fail
    go_loopw [8, 9] (fun lv v ws => ∃ i : Nat, i ≤ m ∧ v = .int .i64 (i : Int) ∧ lv = .int .i64 (n - sumI (qs.take i)) ∧ Ext w ws ∧ IRow ws w.heap.size (fillL qs i) ∧ IRow ws rr (fillL rs i)) (fun _ v _ => m - (intOf v).toNat)
    case atStart => exact ⟨0, by omega, rfl, by simp [sumI], HST.out⟩
    case round =>
      obtain ⟨i, hi, rfl, rfl, hE, hA, hB⟩ := hrel
      have HE := Lib.hid hE; have HA := Lib.hid hA; have HB := Lib.hid hB; clear hE hA hB HST
      by_cases hlt : i < m
      · obtain ⟨b, off, rfl, hbl, hcc⟩ := Ints.at (H.out.keep HE.out.ik) i hlt
        have hx := HW.out _ (getD_mem (l := l) (i := i) (by omega))
        have hq := HQA.out i hlt
        have hr := HRA.out i hlt
        have hxs : l.getD i 0 ≤ all := by rw [← HALL.out]; exact mem_le_sum (fun x hx => (HW.out x hx).1) (getD_mem (by omega))
        generalize l.getD i 0 = x at *
        obtain ⟨x0, x1⟩ := hx
        have HQ := Lib.hid hq; have HR := Lib.hid hr; clear hq hr
        have t0 : (i : Int) < (m : Int) := by omega
        have t1 : (0 : Int) ≤ (i : Int) := by omega
        have hqb := quo_bd (n := n) (x := x) (all := all) h1 x0 hxs hap
        have hpt := sum_bdB (B := 1099511627776) (qs.take i) (fun x hx => HQB.out x (List.mem_of_mem_take hx))
        have hpl : (qs.take i).length ≤ 19 := by rw [List.length_take]; omega
        have hnx := sumI_next qs i (by rw [HQL.out]; exact hlt)
        rw [HQ.out] at hnx
        have e1 : IntKind.i64.wrap (n - sumI (qs.take i) - n * x / all) = n - sumI (qs.take (i + 1)) := by rw [hnx, ← Int.sub_sub]; exact IntWalk.i64_in _ (by omega)
        generalize n - sumI (qs.take i) = lf at *
        obtain ⟨q, hqq⟩ : ∃ q, n * x / all = q := ⟨_, rfl⟩
        obtain ⟨r, hrr⟩ : ∃ r, n * x % all = r := ⟨_, rfl⟩
        rw [hqq] at hqb e1
        have HQQ := Lib.hid hqq; have HRR := Lib.hid hrr
        clear hpt hpl hnx hqq hrr
        generalize hlf : n - sumI (qs.take (i + 1)) = lf' at *
        have HLF' := Lib.hid hlf; clear hlf
        go_wp2_with fail
        refine (rquota_c n x all _ h1 h2 x0 hap (by omega) hxs).mono ?_
        rw [HQQ.out, HRR.out]
        rintro e w7 ⟨rfl, hx7⟩
        have hA7 := IRow.ext HA.out hx7
        have hB7 := IRow.ext HB.out hx7
        have HE7 := Lib.hid (HE.out.trans hx7)
        have c1 := IRow.cell hA7 i (by rw [fillL_length _ _ (by rw [HQL.out]; omega), HQL.out]; exact hlt)
        have c2 := IRow.cell hB7 i (by rw [fillL_length _ _ (by rw [HRL.out]; omega), HRL.out]; exact hlt)
        have f1 := hA7.free i
        have f2 := hB7.free i
        have l1 := hA7.lt
        have l2 := hB7.lt
        have HA7 := Lib.hid hA7; have HB7 := Lib.hid hB7
        clear hA7 hB7 hx7
        generalize (fillL qs i).getD i 0 = z1 at c1
        generalize (fillL rs i).getD i 0 = z2 at c2
        go_wp2_with fail
        go_roundw
        case rel =>
          refine ⟨i + 1, by omega, by go_num, by rw [HLF'.out], (HE7.out.setCell (Nat.le_refl _) _).setCell (show w.heap.size ≤ rr by omega) _, ?_, ?_⟩
          · rw [← fillL_set _ _ (by rw [HQL.out]; exact hlt), HQ.out, HQQ.out]
            exact (HA7.out.set i _).other (by omega) _
          · rw [← fillL_set _ _ (by rw [HRL.out]; exact hlt), HR.out, HRR.out]
            exact (HB7.out.other (by omega) _).set i _
        case measure => simp [intOf]; omega
      · obtain rfl : i = m := by omega
        rw [List.take_of_length_le (by rw [HQL.out]; exact Nat.le_refl _), ← HLF.out]
        have hqf : fillL qs i = qs := by have := fillL_all qs; rw [HQL.out] at this; exact this
        have hrf : fillL rs i = rs := by have := fillL_all rs; rw [HRL.out] at this; exact this
        rw [hqf] at HA
        rw [hrf] at HB
        obtain ⟨lb1, lb2, lb3⟩ := HLB.out
        obtain ⟨T, ht⟩ : ∃ t : Nat, leftF n l = (t : Int) := ⟨(leftF n l).toNat, by omega⟩
        rw [ht]
        have HLT := Lib.hid ht
        rw [ht] at lb3
        clear lb1 lb2 hqf hrf ht
        have hti : T ≤ i := by omega
        have HST2 := Lib.hid (show Ext w wr ∧ IRow wr w.heap.size qs ∧ IRow wr rr rs from ⟨HE.out, HA.out, HB.out⟩)
        have hF1 : largestF n l = (pickN i T (qs, rs)).1 := by rw [HF.out, HLT.out, Int.toNat_natCast]
        have HF1 := Lib.hid hF1
        have hne : w.heap.size ≠ rr := by omega
        have hne2 : rr ≠ w.heap.size := by omega
        clear hF1 HA HB HE
        go_upto_region 12 with (fail)
        go_loopw [8] (fun lv ws => ∃ t : Nat, t ≤ T ∧ lv = .int .i64 (((T - t : Nat) : Int)) ∧ Ext w ws ∧ IRow ws w.heap.size (pickN i t (qs, rs)).1 ∧ IRow ws rr (pickN i t (qs, rs)).2) (fun lv _ => (intOf lv).toNat)
        case atStart => exact ⟨0, by omega, rfl, HST2.out⟩
        case round =>
          obtain ⟨t, htT, rfl, hE, hA, hB⟩ := hrel
          have HE := Lib.hid hE; have HA := Lib.hid hA; have HB := Lib.hid hB; clear hE hA hB
          by_cases hlt : t < T
          · obtain ⟨l1, l2⟩ := pickN_length i t (qs, rs)
            simp only at l1 l2
            rw [HQL.out] at l1
            rw [HRL.out] at l2
            have hle := fun j => pickN_le i t (qs, rs) j
            have hge := fun j => pickN_ge i t (qs, rs) j
            simp only at hle hge
            have hqn : ∀ j, 0 ≤ qs.getD j 0 ∧ qs.getD j 0 ≤ 1099511627776 := fun j => by
              by_cases hj : j < qs.length
              · exact HQB.out _ (getD_mem hj)
              · rw [List.getD_eq_getElem?_getD, List.getElem?_eq_none (by omega)]; simp
            have hob : ∀ j, 0 ≤ (pickN i t (qs, rs)).1.getD j 0 ∧ (pickN i t (qs, rs)).1.getD j 0 ≤ 1099511627795 := fun j => by
              have := hle j; have := hge j; have := hqn j; omega
            have hnx : pickN i (t + 1) (qs, rs) = (bump (pickN i t (qs, rs)).1 (argmaxF (fun k => (pickN i t (qs, rs)).2.getD k 0) i), (pickN i t (qs, rs)).2.set (argmaxF (fun k => (pickN i t (qs, rs)).2.getD k 0) i) (-1)) := rfl
            have HNX := Lib.hid hnx; have HOB := Lib.hid hob
            clear hle hge hqn hob hnx HST2
            generalize pickN i t (qs, rs) = s at *
            obtain ⟨o, r⟩ := s
            simp only at l1 l2 HA HB HNX HOB
            have HL1 := Lib.hid l1; have HL2 := Lib.hid l2; clear l1 l2
            obtain ⟨D, hD⟩ : ∃ D : Int, ((T - t : Nat) : Int) = D := ⟨_, rfl⟩
            rw [hD]
            have p0 : 0 < D := by omega
            have p1 : D ≤ 19 := by omega
            have HD2 := Lib.hid (show D - 1 = ((T - (t + 1) : Nat) : Int) by omega)
            clear hD
            go_wp2_with fail
            go_loopw [10, 11] (fun bv v ws => ∃ k : Nat, k ≤ i ∧ v = .int .i64 (k : Int) ∧ bv = .int .i64 ((argmaxF (fun j => r.getD j 0) k : Nat) : Int) ∧ Ext w ws ∧ IRow ws w.heap.size o ∧ IRow ws rr r) (fun _ v _ => i - (intOf v).toNat)
            case atStart => exact ⟨0, by omega, rfl, rfl, HE.out, HA.out, HB.out⟩
            case round =>
              obtain ⟨k, hk, rfl, rfl, hE, hA, hB⟩ := hrel
              have hbl : argmaxF (fun j => r.getD j 0) k < i := by
                rcases Nat.eq_zero_or_pos k with h | h
                · subst h; exact hm0
                · have := (argmax_spec (fun j => r.getD j 0) k).1 h; omega
              by_cases hlt2 : k < i
              · have hnb : argmaxF (fun j => r.getD j 0) (k + 1) = if r.getD (argmaxF (fun j => r.getD j 0) k) 0 < r.getD k 0 then k else argmaxF (fun j => r.getD j 0) k := rfl
                have o1 := IRow.cell hB k (by rw [HL2.out]; exact hlt2)
                have o2 := IRow.cell hB (argmaxF (fun j => r.getD j 0) k) (by rw [HL2.out]; exact hbl)
                have lo := hB.lt
                have HA3 := Lib.hid hA; have HB3 := Lib.hid hB; have HE3 := Lib.hid hE; clear hA hB hE
                obtain ⟨bb, hbb⟩ : ∃ b, argmaxF (fun j => r.getD j 0) k = b := ⟨_, rfl⟩
                obtain ⟨bn, hbn⟩ : ∃ b, argmaxF (fun j => r.getD j 0) (k + 1) = b := ⟨_, rfl⟩
                rw [hbb] at hnb hbl o2 ⊢
                rw [hbn] at hnb
                have HBN := Lib.hid hbn; clear hbn hbb
                generalize r.getD k 0 = x at *
                generalize r.getD bb 0 = y at *
                have t0 : (k : Int) < (i : Int) := by omega
                have t1 : (bb : Int) < (i : Int) := by omega
                have t2 : (0 : Int) ≤ (bb : Int) := by omega
                have t3 : (0 : Int) ≤ (k : Int) := by omega
                by_cases hc : y < x
                · rw [if_pos hc] at hnb
                  have HNB := Lib.hid hnb; clear hnb
                  go_wp2_with fail
                  go_quiet (fail)
                  go_wp2_with fail
                  go_roundw
                  case rel => exact ⟨k + 1, by omega, by go_num, by rw [HBN.out, HNB.out], HE3.out.drewN _, Blk.drewN HA3.out _, Blk.drewN HB3.out _⟩
                  case measure => simp [intOf]; omega
                · rw [if_neg hc] at hnb
                  have HNB := Lib.hid hnb; clear hnb
                  go_wp2_with fail
                  go_quiet (fail)
                  go_wp2_with fail
                  go_roundw
                  case rel => exact ⟨k + 1, by omega, by go_num, by rw [HBN.out, HNB.out], HE3.out.drewN _, Blk.drewN HA3.out _, Blk.drewN HB3.out _⟩
                  case measure => simp [intOf]; omega
              · obtain rfl : k = i := by omega
                obtain ⟨bb, hbb⟩ : ∃ b, argmaxF (fun j => r.getD j 0) k = b := ⟨_, rfl⟩
                rw [hbb] at HNX hbl ⊢
                clear hbb
                have c1 := IRow.cell hA bb (by rw [HL1.out]; exact hbl)
                have c2 := IRow.cell hB bb (by rw [HL2.out]; exact hbl)
                have f1 := hA.free bb
                have f2 := hB.free bb
                have q1 := HOB.out bb
                have ll1 := hA.lt
                have ll2 := hB.lt
                have HA3 := Lib.hid hA; have HB3 := Lib.hid hB; have HE3 := Lib.hid hE; clear hA hB hE
                obtain ⟨y, hy⟩ : ∃ y, o.getD bb 0 = y := ⟨_, rfl⟩
                rw [hy] at c1 q1
                generalize r.getD bb 0 = z at c2
                have HY := Lib.hid hy; clear hy
                have t1 : (bb : Int) < (k : Int) := by omega
                have t2 : (0 : Int) ≤ (bb : Int) := by omega
                go_wp2_with fail
                go_roundw
                case rel =>
                  refine ⟨t + 1, by omega, by rw [HD2.out], (HE3.out.setCell (Nat.le_refl _) _).setCell (show w.heap.size ≤ rr by omega) _, ?_, ?_⟩
                  · rw [HNX.out]; unfold bump; rw [HY.out]
                    exact (HA3.out.set bb _).other (by omega) _
                  · rw [HNX.out]
                    exact (HB3.out.other (by omega) _).set bb _
                case measure => first | (simp [intOf]; done) | (simp [intOf]; omega)
          · obtain rfl : t = T := by omega
            rw [Nat.sub_self]
            go_wp2_with fail
            go_ret
            exact ⟨_, rfl, Nat.le_refl _, by rw [HF1.out]; exact HA.out, HE.out⟩
set_option maxRecDepth 100000 in
set_option maxHeartbeats 4000000 in
theorem rhighest_c (N : Nat) (a : Option Addr) (m c : Nat) (l : List Int) (w : World) (h : Ints w a m l) (hm4 : m ≤ 4096) (hgood : ∀ x, x ∈ l → 0 ≤ x ∧ x ≤ 1048576) (hN : N ≤ 4096) (hpos : 0 < N → 0 < m) :
    Calls Try.prog 18 #[.int .i64 (N : Int), .slice a m c] w fun e w' => ∃ g, e = .returned (.slice (some ⟨g, 0, none⟩) m m) ∧ w.heap.size ≤ g ∧ IRow w' g (highN l N) ∧ Ext w w' := by
  have H := Lib.hid h
  have hlen := h.1
  have hmk := make_ints m (m : Int) (m : Int) rfl rfl (by omega)
  have HG := Lib.hid hgood; have HPOS := Lib.hid hpos
  clear h hgood hpos
  go_enter Try.func18, Try.ntmps18
  go_wp2_with fail
  have hrow : IRow (w.alloc (.cells (icells (List.replicate m 0)) 3)) w.heap.size (highN l 0) := by rw [highN, hlen]; exact Blk.new _ _ _
  have HR0 := Lib.hid hrow; clear hrow hmk
  obtain ⟨ob, hob⟩ : ∃ b, b = w.heap.size := ⟨_, rfl⟩
  rw [← hob]
  have hsw : w.heap.size ≤ ob := by omega
  rw [← hob] at HR0
  clear hob
  go_loopw [6] (fun v ws => ∃ k : Nat, k ≤ N ∧ v = .int .i64 (k : Int) ∧ IRow ws ob (highN l k) ∧ Ext w ws) (fun v _ => N - (intOf v).toNat)
  case atStart => exact ⟨0, by omega, rfl, HR0.out, (Ext.refl w).alloc _⟩
  case round =>
    obtain ⟨k, hk, rfl, hr, hE2⟩ := hrel
    have HR := Lib.hid hr; have HE2 := Lib.hid hE2; clear hr hE2 HR0
    by_cases hlt : k < N
    · have hm0 := HPOS.out (by omega)
      have hhl := highN_length l k
      have hhb := fun i => high_bd l (by omega) k i
      have hnx : highN l (k + 1) = bump (highN l k) (bestF l (highN l k) l.length) := rfl
      rw [hlen] at hhl hnx
      have HHB := Lib.hid hhb; have HNX := Lib.hid hnx; have HHL := Lib.hid hhl
      clear hhb hnx hhl
      generalize highN l k = o at *
      have hb1 : bestF l o 1 = 0 := by rw [bestF_succ]; split <;> rfl
      have HB1 := Lib.hid hb1; clear hb1
      go_wp2_with fail
      go_loopw [7, 8] (fun bv v ws => ∃ i : Nat, 1 ≤ i ∧ i ≤ m ∧ v = .int .i64 (i : Int) ∧ bv = .int .i64 ((bestF l o i : Nat) : Int) ∧ IRow ws ob o ∧ Ext w ws) (fun _ v _ => m - (intOf v).toNat)
      case atStart => exact ⟨1, by omega, by omega, rfl, by rw [HB1.out]; rfl, HR.out, HE2.out⟩
      case round =>
        obtain ⟨i, hi1, hi, rfl, rfl, hr, hE3⟩ := hrel
        have hbl : bestF l o i < m := by
          rcases Nat.eq_zero_or_pos i with h | h
          · omega
          · have := bestF_lt l o i h; omega
        by_cases hlt2 : i < m
        · have hnb := bestF_succ l o i
          have hin := H.out.keep hE3.ik
          obtain ⟨b, off, rfl, hbb, hci⟩ := Ints.at hin i hlt2
          obtain ⟨b', off', he, _, hcb⟩ := Ints.at hin (bestF l o i) hbl
          injection he with he; injection he with e1 e2
          subst e1; subst e2
          have o1 := IRow.cell hr i (by rw [HHL.out]; exact hlt2)
          have o2 := IRow.cell hr (bestF l o i) (by rw [HHL.out]; exact hbl)
          have g1 := HG.out _ (getD_mem (l := l) (i := i) (by omega))
          have g2 := HG.out _ (getD_mem (l := l) (i := bestF l o i) (by omega))
          have g3 := HHB.out i
          have g4 := HHB.out (bestF l o i)
          have lo := hr.lt
          have HR3 := Lib.hid hr; have HE3 := Lib.hid hE3; clear hr hE3 hin
          generalize bestF l o i = bb at *
          generalize l.getD i 0 = x at *
          generalize l.getD bb 0 = y at *
          generalize o.getD i 0 = p at *
          generalize o.getD bb 0 = q at *
          have p1 := part_bd g1.1 g1.2 g4.1 (by omega)
          have p2 := part_bd g2.1 g2.2 g3.1 (by omega)
          have t0 : (i : Int) < (m : Int) := by omega
          have t1 : (bb : Int) < (m : Int) := by omega
          have t2 : (0 : Int) ≤ (bb : Int) := by omega
          by_cases hc : y * (2 * p + 1) < x * (2 * q + 1)
          · rw [if_pos hc] at hnb
            have HNB := Lib.hid hnb; clear hnb
            go_wp2_with fail
            go_quiet (fail)
            go_wp2_with fail
            go_roundw
            case rel => exact ⟨i + 1, by omega, by omega, by go_num, by rw [HNB.out], Blk.drewN HR3.out _, HE3.out.drewN _⟩
            case measure => simp [intOf]; omega
          · rw [if_neg hc] at hnb
            have HNB := Lib.hid hnb; clear hnb
            go_wp2_with fail
            go_quiet (fail)
            go_wp2_with fail
            go_roundw
            case rel => exact ⟨i + 1, by omega, by omega, by go_num, by rw [HNB.out], Blk.drewN HR3.out _, HE3.out.drewN _⟩
            case measure => simp [intOf]; omega
        · obtain rfl : i = m := by omega
          have o2 := IRow.cell hr (bestF l o i) (by rw [HHL.out]; exact hbl)
          have f2 := IRow.free hr (bestF l o i)
          have g4 := HHB.out (bestF l o i)
          have lo := hr.lt
          have hset := IRow.set hr (bestF l o i) (o.getD (bestF l o i) 0 + 1)
          have hset' : IRow _ ob (bump o (bestF l o i)) := hset
          rw [← HNX.out] at hset'
          have HS := Lib.hid hset'; have HE3 := Lib.hid hE3; clear hr hE3 hset hset'
          generalize bestF l o i = bb at *
          generalize o.getD bb 0 = q at *
          have t1 : (bb : Int) < (i : Int) := by omega
          have t2 : (0 : Int) ≤ (bb : Int) := by omega
          go_wp2_with fail
          go_roundw
          case rel => exact ⟨k + 1, by omega, by go_num, HS.out, HE3.out.setCell hsw _⟩
          case measure => simp [intOf]; omega
    · obtain rfl : k = N := by omega
      go_wp2_with fail
      go_ret
      exact ⟨ob, rfl, hsw, HR.out, HE2.out⟩
end Go.Proofs.Ytlnmgcmpbbklhaa
