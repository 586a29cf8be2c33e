/- share: largest. -/
import Derived.Test.YtlnmgcmpbbklhaaS06
namespace Go.Proofs.Ytlnmgcmpbbklhaa
set_option linter.unusedSimpArgs false
set_option linter.unusedVariables false
open Go.RowKit

theorem own1_ext {w w' : World} {b n : Nat} (k : Ext w w') (hb : b < w.heap.size) (h : ∀ o, o < n → w.cell? ⟨b, o, none⟩ = some (cellAt w ⟨b, o, none⟩)) (o : Nat) (ho : o < n) : w'.cell? ⟨b, o, none⟩ = some (cellAt w' ⟨b, o, none⟩) := by
  have := k.cell (h o ho)
  unfold cellAt; rw [this]; rfl
theorem own2_ext {w w' : World} {b : Nat} (k : Ext w w') (hb : b < w.heap.size) (h : ∀ o, w.frozen? ⟨b, o, none⟩ = false) (o : Nat) : w'.frozen? ⟨b, o, none⟩ = false := by
  rw [k.see.2.1 b o hb]; exact h o
theorem IRow.own1 {w : World} {b n : Nat} {l : List Int} (h : IRow w b l) (hn : l.length = n) : ∀ o, o < n → w.cell? ⟨b, o, none⟩ = some (cellAt w ⟨b, o, none⟩) := fun o ho => by
  have := h.cell o (by omega)
  unfold cellAt; rw [this]; rfl
/-- The first i numbers of l, then zeros. -/
def fillL (l : List Int) (i : Nat) : List Int := l.take i ++ List.replicate (l.length - i) 0
theorem fillL_length (l : List Int) (i : Nat) (hi : i ≤ l.length) : (fillL l i).length = l.length := by simp [fillL]; omega
theorem fillL_set (l : List Int) (i : Nat) (hi : i < l.length) : (fillL l i).set i (l.getD i 0) = fillL l (i + 1) := by
  unfold fillL
  have e : l.length - i = (l.length - (i + 1)) + 1 := by omega
  have el : (l.take i).length = i := by rw [List.length_take]; omega
  have e1 : l.getD i 0 = l[i] := by simp [List.getD_eq_getElem?_getD, hi]
  rw [List.set_append_right _ _ (by omega), el, Nat.sub_self, e, List.replicate_succ, List.set_cons_zero, List.take_succ_eq_append_getElem hi, e1]
  simp only [List.append_assoc, List.cons_append, List.nil_append]
theorem fillL_at (l : List Int) (i : Nat) (hi : i < l.length) : (fillL l (i + 1)).getD i 0 = l.getD i 0 := by
  rw [← fillL_set l i hi, getD_set_eq _ _ _ (by rw [fillL_length _ _ (by omega)]; exact hi)]
theorem fillL_zero (l : List Int) : fillL l 0 = List.replicate l.length 0 := by simp [fillL]
theorem fillL_all (l : List Int) : fillL l l.length = l := by simp [fillL]

theorem mem_le_sum {l : List Int} (h : ∀ x, x ∈ l → 0 ≤ x) {x : Int} (hx : x ∈ l) : x ≤ sumI l := by
  induction l with
  | nil => simp at hx
  | cons y l ih =>
    have hn : ∀ k : List Int, (∀ x, x ∈ k → 0 ≤ x) → 0 ≤ sumI k := fun k hk => by
      induction k with
      | nil => simp [sumI]
      | cons z k ih => have := hk z (by simp); have := ih fun u hu => hk u (by simp [hu]); simp only [sumI]; omega
    have h1 := hn l fun u hu => h u (by simp [hu])
    have h2 := h y (by simp)
    rw [List.mem_cons] at hx
    simp only [sumI]
    rcases hx with rfl | hx
    · omega
    · have := ih (fun u hu => h u (by simp [hu])) hx; omega
theorem sum_bdB {B : Int} (l : List Int) (h : ∀ x, x ∈ l → 0 ≤ x ∧ x ≤ B) : 0 ≤ sumI l ∧ sumI l ≤ B * l.length := by
  induction l with
  | nil => simp [sumI]
  | cons x l ih =>
    have h1 := h x (by simp)
    have h2 := ih fun y hy => h y (by simp [hy])
    simp only [sumI, List.length_cons, Int.natCast_add, Int.mul_add]; omega
theorem parts_bdB {l : List Int} (h : ∀ x, x ∈ l → 0 ≤ x ∧ x ≤ 4294967296) (hl : l.length ≤ 100000) (i : Nat) : Int64 (sumI (l.take i)) := by
  have := sum_bdB (l.take i) fun x hx => h x (List.mem_of_mem_take hx)
  have h2 : (l.take i).length ≤ l.length := by rw [List.length_take]; omega
  exact ⟨by omega, by omega⟩
theorem quo_bd {n x all : Int} (h1 : 0 ≤ n) (h3 : 0 ≤ x) (h7 : x ≤ all) (h5 : 1 ≤ all) : 0 ≤ n * x / all ∧ n * x / all ≤ n := by
  refine ⟨Int.ediv_nonneg (Int.mul_nonneg h1 h3) (by omega), ?_⟩
  have h8 : n * x ≤ n * all := Int.mul_le_mul_of_nonneg_left h7 h1
  have := Int.ediv_le_ediv (show 0 < all by omega) h8
  rw [Int.mul_ediv_cancel _ (by omega)] at this
  exact this
theorem bumps_snoc (o : List Int) (l : List Nat) (x : Nat) : bumps o (l ++ [x]) = bump (bumps o l) x := by simp [bumps]
theorem bumps_bd {B : Int} (l : List Nat) : ∀ o : List Int, (∀ j, 0 ≤ o.getD j 0 ∧ o.getD j 0 ≤ B) → ∀ j, 0 ≤ (bumps o l).getD j 0 ∧ (bumps o l).getD j 0 ≤ B + l.length := by
  induction l generalizing B with
  | nil => intro o h j; have := h j; simp only [bumps, List.foldl_nil, List.length_nil]; omega
  | cons x l ih =>
    intro o h j
    have hb : ∀ j, 0 ≤ (bump o x).getD j 0 ∧ (bump o x).getD j 0 ≤ B + 1 := fun j => by
      have := h j
      by_cases hj : j < o.length
      · rw [bump_at _ _ _ hj]; split <;> omega
      · have h0 := h x
        rw [List.getD_eq_getElem?_getD, List.getElem?_eq_none (by rw [bump_length]; omega)]; simp; omega
    have := ih (B := B + 1) (bump o x) hb j
    simp only [bumps, List.foldl_cons, List.length_cons] at this ⊢
    omega
set_option maxRecDepth 100000 in
set_option maxHeartbeats 4000000 in
theorem largest0_c (n : Int) (a : Option Addr) (m c : Nat) (l : List Int) (w : World) (h : Ints w a m l) (h1 : 0 ≤ n) (h2 : n ≤ 1099511627776) (hw : ∀ x, x ∈ l → 0 ≤ x ∧ x ≤ 4294967296) (hS : sumI l ≤ 8589934592) (hm : m ≤ 19) :
    Calls Try.prog 34 #[.int .i64 n, .slice a m c] w fun e w' => ∃ g, e = .returned (.slice (some ⟨g, 0, none⟩) m m) ∧ w.heap.size ≤ g ∧ IRow w' g (largestF n l) ∧ Ext w w' := by
  have H := Lib.hid h; have HW := Lib.hid hw
  have hlen := h.1
  have hsum := sum_bdB l hw
  rw [hlen] at hsum
  have hmk := make_ints m (m : Int) (m : Int) rfl rfl (by omega)
  have hF := largestF.eq_1 n l
  rw [hlen] at hF
  clear h hw
  have HMK := Lib.hid hmk
  go_enter Try.func34, Try.ntmps34
  go_wp2_with fail
  refine (ssum_c a m c l _ (H.out.keep ((Ext.refl w).alloc _).ik) (parts_bdB HW.out (by omega))).mono ?_
  rintro e w2 ⟨rfl, hx⟩
  have hrow : IRow w2 w.heap.size (List.replicate m 0) := IRow.ext (Blk.new _ _ _) hx
  have hE : Ext w w2 := ((Ext.refl w).alloc _).trans hx
  obtain ⟨all, hall⟩ : ∃ x, sumI l = x := ⟨_, rfl⟩
  rw [hall] at hsum hF hS
  have HALL := Lib.hid hall
  rw [hall]
  clear hx hall
  by_cases h0 : n = 0 ∨ all = 0
  · rw [if_pos h0] at hF
    have HF := Lib.hid hF; have HROW := Lib.hid hrow; have HE := Lib.hid hE; clear hF hrow hE hmk
    by_cases hn0 : n = 0
    · subst hn0
      go_wp2_with fail
      go_ret
      exact ⟨_, rfl, Nat.le_refl _, by rw [HF.out]; exact HROW.out, HE.out⟩
    · have : all = 0 := by omega
      subst this
      have hn' : (n == 0) = false := by rw [beq_eq_false_iff_ne]; exact hn0
      go_wp2_with fail
      go_ret
      exact ⟨_, rfl, Nat.le_refl _, by rw [HF.out]; exact HROW.out, HE.out⟩
  · rw [if_neg h0] at hF
    have hn' : (n == 0) = false := by rw [beq_eq_false_iff_ne]; omega
    have ha' : (all == 0) = false := by rw [beq_eq_false_iff_ne]; omega
    have hap : 1 ≤ all := by omega
    have HF := Lib.hid hF; have HROW := Lib.hid hrow; have HE := Lib.hid hE; clear hF hrow hE h0
    go_upto_region 7 with (fail)
    obtain ⟨rr, hrr⟩ : ∃ r, r = w2.heap.size := ⟨_, rfl⟩
    obtain ⟨rb, hrb⟩ : ∃ r, r = w2.heap.size + 1 := ⟨_, rfl⟩
    rw [← hrb, ← hrr]
    have hlw := HROW.out.lt
    have hsw := HE.out.size
    refine wp_gen (fun W => Ext w W ∧ IRow W w.heap.size (List.replicate m 0) ∧ IRow W rr (List.replicate m 0) ∧ Blk W rb #[.slice (some ⟨rr, 0, none⟩) m m] 22)
      ⟨(HE.out.alloc _).alloc _, Blk.alloc (Blk.alloc HROW.out _) _, by rw [hrr]; exact Blk.alloc (Blk.new _ _ _) _, by rw [hrb, hrr]; exact Blk.at _ _ (by simp)⟩ ?_
    have hb1 : w.heap.size < rr := by omega
    have hb2 : rr < rb := by omega
    clear HROW HE hrr hrb hlw hsw
    rintro W ⟨E0, R0, R1, B0⟩
    have hql : (quos n l).length = m := by simp [quos, hlen]
    have hrl : (rems n l).length = m := by simp [rems, hlen]
    have hqa : ∀ i, i < m → (quos n l).getD i 0 = n * l.getD i 0 / all := fun i hi => by unfold quos; rw [getD_map _ _ _ (by omega), HALL.out]
    have hra : ∀ i, i < m → (rems n l).getD i 0 = n * l.getD i 0 % all := fun i hi => by unfold rems; rw [getD_map _ _ _ (by omega), HALL.out]
    have hleft : leftF n l = n - sumI (quos n l) := rfl
    have hlb := left_bd (n := n) (w := l) (by rw [HALL.out]; omega)
    have hr0 : ∀ x, x ∈ rems n l → 0 ≤ x ∧ x < sumI l := rems_bd (by rw [HALL.out]; omega)
    rw [hlen] at hlb
    generalize quos n l = qs at *
    generalize rems n l = rs at *
    rw [← hql] at R0
    have HST := Lib.hid (show Ext w W ∧ IRow W w.heap.size (fillL qs 0) ∧ IRow W rr (fillL rs 0) ∧ Blk W rb #[.slice (some ⟨rr, 0, none⟩) m m] 22 from ⟨E0, by rw [fillL_zero]; exact R0, by rw [fillL_zero, hrl]; exact R1, B0⟩)
    have HQB := Lib.hid (show (∀ x, x ∈ qs → 0 ≤ x ∧ x ≤ 1099511627776) from fun y hy => by
      obtain ⟨i, hi, rfl⟩ := mem_getD hy
      rw [hqa i (by omega)]
      have hx := HW.out _ (getD_mem (l := l) (i := i) (by omega))
      have := quo_bd (n := n) (x := l.getD i 0) (all := all) h1 hx.1 (by rw [← HALL.out]; exact mem_le_sum (fun x hx => (HW.out x hx).1) (getD_mem (by omega))) hap
      omega)
    have HQA := Lib.hid hqa; have HRA := Lib.hid hra; have HLF := Lib.hid hleft; have HLB := Lib.hid hlb; have HR0 := Lib.hid hr0; have HQL := Lib.hid hql; have HRL := Lib.hid hrl
    clear E0 R0 R1 B0 hqa hra hleft hlb hr0 hql hrl
    go_wp2_with fail
    go_loopw [7, 31] (fun lv v ws => ∃ i : Nat, i ≤ m ∧ v = .int .i64 (i : Int) ∧ lv = .int .i64 (n - sumI (qs.take i)) ∧ Ext w ws ∧ IRow ws w.heap.size (fillL qs i) ∧ IRow ws rr (fillL rs i) ∧ Blk ws rb #[.slice (some ⟨rr, 0, none⟩) m m] 22) (fun _ v _ => m - (intOf v).toNat)
    case atStart => exact ⟨0, by omega, rfl, by simp [sumI], HST.out⟩
    case round =>
      obtain ⟨i, hi, rfl, rfl, hE, hA, hB, hC⟩ := hrel
      have HE := Lib.hid hE; have HA := Lib.hid hA; have HB := Lib.hid hB; have HC := Lib.hid hC; clear hE hA hB hC HST
      by_cases hlt : i < m
      · obtain ⟨b, off, rfl, hbl, hcc⟩ := Ints.at (H.out.keep HE.out.ik) i hlt
        have hx := HW.out _ (getD_mem (l := l) (i := i) (by omega))
        have hq := HQA.out i hlt
        have hr := HRA.out i hlt
        have hxs : l.getD i 0 ≤ all := by rw [← HALL.out]; exact mem_le_sum (fun x hx => (HW.out x hx).1) (getD_mem (by omega))
        generalize l.getD i 0 = x at *
        obtain ⟨x0, x1⟩ := hx
        have HQ := Lib.hid hq; have HR := Lib.hid hr; clear hq hr
        have t0 : (i : Int) < (m : Int) := by omega
        have t1 : (0 : Int) ≤ (i : Int) := by omega
        have hqb := quo_bd (n := n) (x := x) (all := all) h1 x0 hxs hap
        have hpt := sum_bdB (B := 1099511627776) (qs.take i) (fun x hx => HQB.out x (List.mem_of_mem_take hx))
        have hpl : (qs.take i).length ≤ 19 := by rw [List.length_take]; omega
        have hnx := sumI_next qs i (by rw [HQL.out]; exact hlt)
        rw [HQ.out] at hnx
        have e1 : IntKind.i64.wrap (n - sumI (qs.take i) - n * x / all) = n - sumI (qs.take (i + 1)) := by rw [hnx, ← Int.sub_sub]; exact IntWalk.i64_in _ (by omega)
        have HE1 := Lib.hid e1
        have hlA := HA.out.lt
        have hlB := HB.out.lt
        have hlC := HC.out.lt
        have oA := HA.out.own1 (n := m) (by rw [fillL_length _ _ (by rw [HQL.out]; omega), HQL.out])
        have oA' := HA.out.free
        have oB := HB.out.own1 (n := m) (by rw [fillL_length _ _ (by rw [HRL.out]; omega), HRL.out])
        have oB' := HB.out.free
        have oC := HC.out.at'
        have hE := HE.out
        generalize n - sumI (qs.take i) = lf at *
        obtain ⟨q, hqq⟩ : ∃ q, n * x / all = q := ⟨_, rfl⟩
        obtain ⟨r, hrr⟩ : ∃ r, n * x % all = r := ⟨_, rfl⟩
        rw [hqq] at hqb e1
        have HQQ := Lib.hid hqq; have HRR := Lib.hid hrr
        clear hpt hpl hnx hqq hrr
        generalize hlf : n - sumI (qs.take (i + 1)) = lf' at *
        have HLF' := Lib.hid hlf; clear hlf
        go_upto_region 10 with (fail)
        go_region_held3 (fun w' => Ext w w' ∧ At w' rb #[.slice (some ⟨rr, 0, none⟩) m m] ∧ (∀ o, o < m → w'.cell? ⟨w.heap.size, o, none⟩ = some (cellAt w' ⟨w.heap.size, o, none⟩)) ∧ (∀ o, w'.frozen? ⟨w.heap.size, o, none⟩ = false) ∧ (∀ o, o < m → w'.cell? ⟨rr, o, none⟩ = some (cellAt w' ⟨rr, o, none⟩)) ∧ (∀ o, w'.frozen? ⟨rr, o, none⟩ = false))
          (first | exact ⟨hE.drew, oC, oA, oA', oB, oB'⟩ | (go_split_ands; repeat' (first | with_reducible assumption | with_reducible apply And.intro | with_reducible refine Ext.setCell ?_ (by simp; omega) _ | with_reducible refine Ext.setCell ?_ (by simp) _ | with_reducible refine At.set ?_ (by omega) | with_reducible refine own1_set ?_ | with_reducible refine own2_set ?_ | with_reducible refine Ext.drew ?_ | with_reducible refine At.drew ?_ | with_reducible refine own1_drew ?_ | with_reducible refine own2_drew ?_ | with_reducible exact Ext.trans' (by assumption) (by assumption) | with_reducible exact At.ext (by assumption) (by assumption) (by simp) | exact own1_ext (by assumption) (by first | assumption | (simp; omega)) (by assumption) | exact own2_ext (by assumption) (by first | assumption | (simp; omega)) (by assumption))))
          ((go_at_call 39; refine (quota_c n x all _ h1 h2 x0 (by omega) hap (by omega) hxs).mono ?_; rw [HQQ.out, HRR.out]; rintro e w7 ⟨rfl, hd⟩; have hx7 := hd.ext))
        all_goals
          have hx8 := Ext.trans ((Ext.refl wr).drew) hx7
          have HA7 := Lib.hid (IRow.ext HA.out hx8); have HB7 := Lib.hid (IRow.ext HB.out hx8); have HC7 := Lib.hid (Blk.ext HC.out hx8); clear hx7 hx8 hd oA oA' oB oB' oC
          go_upto_region 11 with (fail)
          refine wp_gen (fun W => Ext w W ∧ IRow W w.heap.size (fillL qs (i + 1)) ∧ IRow W rr (fillL rs (i + 1)) ∧ Blk W rb #[.slice (some ⟨rr, 0, none⟩) m m] 22) ⟨And.left (by assumption), ?_, ?_, ?_⟩ ?_
          · rw [← fillL_set _ _ (by rw [HQL.out]; exact hlt), HQ.out, HQQ.out]
            exact (HA7.out.set i _).other (by omega) _
          · rw [← fillL_set _ _ (by rw [HRL.out]; exact hlt), HR.out, HRR.out]
            exact (HB7.out.other (by omega) _).set i _
          · exact (HC7.out.setOther (by simp; omega) _).setOther (by simp; omega) _
          · rintro V ⟨EV, AV, BV, CV⟩
            have cq := IRow.cell AV i (by rw [fillL_length _ _ (by rw [HQL.out]; omega), HQL.out]; exact hlt)
            rw [fillL_at _ _ (by rw [HQL.out]; exact hlt), HQ.out, HQQ.out] at cq
            have lv := AV.lt
            have HV := Lib.hid (show Ext w V ∧ IRow V w.heap.size (fillL qs (i + 1)) ∧ IRow V rr (fillL rs (i + 1)) ∧ Blk V rb #[.slice (some ⟨rr, 0, none⟩) m m] 22 from ⟨EV, AV, BV, CV⟩)
            clear EV AV BV CV
            go_wp2_with fail
            go_roundw
            case rel => exact ⟨i + 1, by omega, by go_num, by rw [HLF'.out], HV.out⟩
            case measure => simp [intOf]; omega
      · obtain rfl : i = m := by omega
        rw [List.take_of_length_le (by rw [HQL.out]; exact Nat.le_refl _), ← HLF.out]
        have hqf : fillL qs i = qs := by have := fillL_all qs; rw [HQL.out] at this; exact this
        have hrf : fillL rs i = rs := by have := fillL_all rs; rw [HRL.out] at this; exact this
        rw [hqf] at HA
        rw [hrf] at HB
        obtain ⟨lb1, lb2, lb3⟩ := HLB.out
        obtain ⟨t, ht⟩ : ∃ t : Nat, leftF n l = (t : Int) := ⟨(leftF n l).toNat, by omega⟩
        rw [ht]
        have HLT := Lib.hid ht
        rw [ht] at lb3
        clear lb1 lb2 hqf hrf ht
        have hti : t ≤ i := by omega
        have hbt := Blk.lt HC.out
        have hct := HC.out.cell 0
        go_wp2_with fail
        refine (firsts_c i rb rr i rs _ HRL.out hm (by rw [HRL.out]; exact HC.out) HB.out).mono ?_
        rintro e w5 ⟨g, rfl, hgl, ⟨S, hS, hrow⟩, hx5⟩
        have HSS := Lib.hid (show SortedBy rs i S ∧ IRow w5 g (castL S) ∧ Ext w w5 ∧ IRow w5 w.heap.size qs from ⟨hS, hrow, HE.out.trans hx5, IRow.ext HA.out hx5⟩)
        have hgw := HE.out.size
        have hg1 : w.heap.size < g := by have := HA.out.lt; omega
        clear hS hrow hx5 hgl hgw
        go_wp2_with fail
        have hF1 : largestF n l = bumps qs (S.take t) := by
          rw [HF.out, HLT.out, Int.toNat_natCast, pickN_eq HRL.out HSS.out.1 (fun j => ?_) t hti]
          by_cases hj : j < rs.length
          · exact (HR0.out _ (getD_mem hj)).1
          · rw [List.getD_eq_getElem?_getD, List.getElem?_eq_none (by omega)]; simp
        have hqn : ∀ j, 0 ≤ qs.getD j 0 ∧ qs.getD j 0 ≤ 1099511627776 := fun j => by
          by_cases hj : j < qs.length
          · exact HQB.out _ (getD_mem hj)
          · rw [List.getD_eq_getElem?_getD, List.getElem?_eq_none (by omega)]; simp
        have HF1 := Lib.hid hF1; have HQN := Lib.hid hqn
        have hSl : S.length = i := by rw [HSS.out.1.1.length_eq, List.length_range]
        clear hF1 hqn hct HA HB HC HE
        go_loopw [63] (fun v ws => ∃ k : Nat, k ≤ t ∧ v = .int .i64 (k : Int) ∧ IRow ws w.heap.size (bumps qs (S.take k)) ∧ IRow ws g (castL S) ∧ Ext w ws) (fun v _ => t - (intOf v).toNat)
        case atStart => exact ⟨0, by omega, rfl, HSS.out.2.2.2, HSS.out.2.1, HSS.out.2.2.1⟩
        case round =>
          obtain ⟨k, hk, rfl, hA, hB, hE⟩ := hrel
          have HA := Lib.hid hA; have HB := Lib.hid hB; have HE := Lib.hid hE; clear hA hB hE
          by_cases hlt : k < t
          · have hsm : S.getD k 0 < i := by
              refine (mem_of_sorted HSS.out.1 _).1 ?_
              rw [List.getD_eq_getElem?_getD, List.getElem?_eq_getElem (by omega)]; exact List.getElem_mem _
            have cg := IRow.cell HB.out k (by rw [castL_length]; omega)
            rw [castL_at _ _ (by omega)] at cg
            have hsp := (take_split (S := S) (t := k) (by omega)).2
            have hnb := bumps_snoc qs (S.take k) (S.getD k 0)
            rw [← hsp] at hnb
            have hbd := bumps_bd (B := 1099511627776) (S.take k) qs HQN.out (S.getD k 0)
            have hbl : (bumps qs (S.take k)).length = i := by rw [bumps_length, HQL.out]
            have ca := IRow.cell HA.out (S.getD k 0) (by rw [hbl]; exact hsm)
            have fa := IRow.free HA.out (S.getD k 0)
            have hkl : (S.take k).length ≤ 19 := by rw [List.length_take]; omega
            obtain ⟨s, hs⟩ : ∃ s, S.getD k 0 = s := ⟨_, rfl⟩
            rw [hs] at cg hsm hnb hbd ca fa
            obtain ⟨y, hy⟩ : ∃ y, (bumps qs (S.take k)).getD s 0 = y := ⟨_, rfl⟩
            rw [hy] at ca hbd
            have hy2 : 0 ≤ y ∧ y ≤ 1099511627795 := by omega
            have HY := Lib.hid hy; have HNB := Lib.hid hnb
            clear hsp hs hy hnb hbd hbl hkl
            have t0 : (k : Int) < (t : Int) := by omega
            have t1 : (0 : Int) ≤ (s : Int) := by omega
            have t2 : (s : Int) < (i : Int) := by omega
            have l0 := HA.out.lt
            have l1 := HB.out.lt
            go_wp2_with fail
            go_roundw
            case rel =>
              refine ⟨k + 1, by omega, by go_num, ?_, HB.out.other (by omega) _, HE.out.setCell (Nat.le_refl _) _⟩
              rw [HNB.out]; unfold bump; rw [HY.out]
              exact HA.out.set s _
            case measure => simp [intOf]; omega
          · obtain rfl : k = t := by omega
            go_wp2_with fail
            go_ret
            exact ⟨_, rfl, Nat.le_refl _, by rw [HF1.out]; exact HA.out, HE.out⟩
end Go.Proofs.Ytlnmgcmpbbklhaa
