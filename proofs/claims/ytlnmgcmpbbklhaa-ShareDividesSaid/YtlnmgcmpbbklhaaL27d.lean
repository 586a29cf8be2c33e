/- meresmanlaw27: ShareDivides: the walk. -/
import Derived.Test.YtlnmgcmpbbklhaaS13
import Derived.Test.YtlnmgcmpbbklhaaWSkip
namespace Go.Proofs.Ytlnmgcmpbbklhaa
open Go.RowKit

theorem DivR.bad {err : Int} {F : List Int} {m : Nat} {w w' : World} {e : Ending} (h : DivR err F m w e w') (h0 : err ≠ 0) : Ext w w' ∧ e = .returned (.tuple #[.slice none 0 0, .int .i64 err]) := by
  obtain ⟨hx, ⟨_, h1⟩ | ⟨h1, _⟩⟩ := h
  · exact ⟨hx, h1⟩
  · exact absurd h1 h0
/-- 'append([]int{}, w...)'. -/
theorem copy_run {w : World} {b c n : Nat} {a : Option Addr} {P : List Int} (hb : Blk w b #[] 3) (h : Ints w a n P) (hn : n ≤ 100000) :
    ∃ g cap w', (Builtin.append_ #[22, 22] 22 #[.slice (some ⟨b, 0, none⟩) 0 0, .slice a n c]).run Try.prog w = .ok (.slice (some ⟨g, 0, none⟩) n cap) w' ∧ VRow w' b (.slice (some ⟨g, 0, none⟩) n cap) P ∧ w.grownBy w' (some b) := by
  obtain ⟨i0, hi0, hz0, hz1, hz2⟩ := info_parts intInfo
  by_cases h0 : n = 0
  · subst h0
    have hP : P = [] := List.eq_nil_of_length_eq_zero h.1
    subst hP
    exact ⟨b, 0, w, run_append_none (VRow.empty (Nat.le_refl b) hb) _ a c, VRow.empty (Nat.le_refl b) hb, grown_refl w _⟩
  · obtain ⟨b2, o2, rfl, _, _⟩ := h.at 0 (by omega)
    obtain ⟨g, cap, w', hr, hown, hg, _, _⟩ := run_append_lies (P := Try.prog) w 22 22 b 3 i0 (.int .i64 0) 1 8 Try.underlying22 hi0 hz0 hz1 hz2 rfl (by omega) (.slice (some ⟨b, 0, none⟩) 0 0) 0 [] (VRow.empty (Nat.le_refl b) hb) ⟨b2, o2, none⟩ n c (ivals P) (by simp [ivals, h.1]) (ints_news h (by omega)) (ivals_one _) (by omega) (by rw [maxLen]; omega) (by omega) (Nat.le_of_lt hb.lt) _ rfl
    rw [Nat.zero_add, List.nil_append] at hown
    rw [Nat.zero_add] at hr
    refine ⟨g, cap, w', hr, ?_, hg⟩
    unfold VRow; rw [h.1]; exact hown
theorem VRow.put {w : World} {base g n cap j : Nat} {l : List Int} {y : Int} (h : VRow w base (.slice (some ⟨g, 0, none⟩) n cap) l) (hn : l.length = n) (hj : j < n) : ∀ i, i < n → (w.setCell ⟨g, j, none⟩ (.int .i64 y)).cell? ⟨g, i, none⟩ = some (.int .i64 ((l.set j y).getD i 0)) := fun i hi => by
  by_cases hji : j = i
  · subst hji
    rw [getD_set_eq _ _ _ (by omega)]
    exact World.cell?_setCell_same' _ _ _ (by rw [h.cells j (by omega)]; rfl)
  · rw [getD_set_ne _ _ _ _ hji, World.cell?_setCell_other _ _ _ _ (by first | (simp; done) | (simp; omega))]
    exact h.cells i (by omega)
theorem VRow.free {w : World} {base g n cap : Nat} {l : List Int} (h : VRow w base (.slice (some ⟨g, 0, none⟩) n cap) l) (o : Nat) : w.frozen? ⟨g, o, none⟩ = false := by
  obtain ⟨h0, ⟨hv, _⟩ | ⟨g', cap', cur, hv, hb, hh, _⟩⟩ := h
  · simp at hv
  · simp at hv
    obtain ⟨rfl, rfl, rfl⟩ := hv
    simp [World.frozen?, hh]
theorem highN_bd (l : List Int) (k : Nat) : ∀ i, (highN l k).getD i 0 ≤ k := by
  induction k with
  | zero => intro i; unfold highN; by_cases h : i < l.length <;> simp [List.getD_eq_getElem?_getD, List.getElem?_replicate, h]
  | succ k ih =>
    intro i
    rw [highN]
    by_cases hi : i < (highN l k).length
    · rw [bump_at _ _ _ hi]; have := ih i; split <;> omega
    · rw [List.getD_eq_getElem?_getD, List.getElem?_eq_none (by rw [bump_length]; omega)]; simp; omega
theorem rhighest_z (n : Int) (a : Option Addr) (m c : Nat) (l : List Int) (w : World) (h : Ints w a m l) (h0 : errF n l 1 = 0) (h4 : ¬ 4096 < n) :
    Calls Try.prog 18 #[.int .i64 n, .slice a m c] w fun e w' => ∃ g, e = .returned (.slice (some ⟨g, 0, none⟩) m m) ∧ w.heap.size ≤ g ∧ IRow w' g (highN l n.toNat) ∧ Ext w w' := by
  have hok := errF_ok h0
  obtain ⟨N, rfl⟩ := Int.eq_ofNat_of_zero_le hok.1
  rw [Int.toNat_natCast]
  refine rhighest_c N a m c l w h (by rw [← h.1]; exact hok.2.2.2.2) (good_of_any hok.2.2.1) (by omega) (fun hN => ?_)
  have := hok.2.2.2.1 (by omega)
  rw [← h.1]
  by_cases hl : l = []
  · subst hl; exact absurd rfl this
  · exact List.length_pos_iff.2 hl
set_option maxRecDepth 100000 in
set_option maxHeartbeats 8000000 in
theorem walkDivides (a0 : Option Addr) (n c : Nat) (zs : List Int) (a1 a2 a3 : Int) (w : World) (h0 : Ints w a0 n zs) (h1 : Int64 a1) (h2 : Int64 a2) (h3 : Int64 a3) :
    Calls Try.prog 3 #[.slice a0 n c, .int .i64 a1, .int .i64 a2, .int .i64 a3] w fun e w' => e = .returned (.bool true) ∧ Ext w w' := by
  have H0 := Lib.hid h0; have H1 := Lib.hid h1; have H2 := Lib.hid h2; have H3 := Lib.hid h3; clear h0 h1 h2 h3
  go_enter Try.func3, Try.ntmps3
  go_wp2_with fail
  refine (weights_c a0 n c zs 12 _ H0.out (by omega)).mono ?_
  rintro e w1 ⟨v, rfl, hV, hE⟩
  have hwl := weightsF_length zs 12
  have hbd := weightsF_bd zs 12
  obtain ⟨a9, c9, rfl, hin⟩ := hV.ints (by omega) (fun i hi => by have := hbd _ (getD_mem hi); exact ⟨by omega, by omega⟩)
  obtain ⟨tl, htl⟩ : ∃ tl, (weightsF zs 12).length = tl := ⟨_, rfl⟩
  rw [htl] at hwl hin ⊢
  have htl2 : tl ≤ 12 := by omega
  generalize weightsF zs 12 = P at *
  have hcr := copy_run (c := c9) (Blk.at (w := w1) #[] 3 rfl) (hin.keep ((Ext.refl w1).alloc _).ik) (by omega)
  obtain ⟨g, cap, w2, hrun, hR, hG⟩ := hcr
  have hE2 : Ext w w2 := ext_grown (hE.alloc _) hG (fun g hg => by injection hg with hg; have := hE.size; omega)
  have hE12 : Ext w1 w2 := ext_grown ((Ext.refl w1).alloc _) hG (fun g hg => by injection hg with hg; omega)
  have hI2 : Ints w2 a9 tl P := hin.keep hE12.ik
  have hg1 : w1.heap.size ≤ g := (owns_lt hR rfl).1
  have HE12 := Lib.hid hE12; have HI1 := Lib.hid hin
  clear hE12
  have hgl : w.heap.size ≤ g := by have h5 := (owns_lt hR rfl).1; have := hE.size; omega
  have HTL := Lib.hid htl; have HBD := Lib.hid hbd; have HR := Lib.hid hR; have HE2 := Lib.hid hE2; have HI2 := Lib.hid hI2
  clear hV hE hbd hin htl hR hG hE2 hI2 hwl
  go_upto_if 27 with (at_builtin; refine Lib.wpList_append_run _ rfl _ _ _ _ rfl _ _ rfl rfl _ _ hrun ?_)
  clear hrun
  go_cut [10] (fun s wx => s = .slice (some ⟨g, 0, none⟩) tl cap ∧ Ext w wx ∧ Ints wx a9 tl P ∧ Ints wx (some ⟨g, 0, none⟩) tl (bentL P a2 a3))
  case first =>
    by_cases h0 : tl = 0
    · have hPe : P = [] := List.eq_nil_of_length_eq_zero (by rw [HTL.out]; exact h0)
      subst h0
      have HP := Lib.hid hPe; clear hPe
      go_wp2_with fail
      go_meet
      exact ⟨rfl, HE2.out, HI2.out, by rw [HP.out]; exact ⟨rfl, by omega, fun i hi => absurd hi (by omega), .inl rfl⟩⟩
    · have hj := aroundF_bd a2 tl (by omega)
      obtain ⟨j, hjj⟩ : ∃ j : Nat, aroundF a2 tl = j := ⟨(aroundF a2 tl).toNat, by omega⟩
      rw [hjj] at hj
      have hjl : j < tl := by omega
      have cj := HR.out.cells j (by rw [HTL.out]; exact hjl)
      have fj := HR.out.free j
      have lg := lt_of_cell cj
      generalize P.getD j 0 = z at cj
      have HJ := Lib.hid hjj; clear hjj
      have p0 : (0 : Int) < (tl : Int) := by omega
      have hbe : bentL P a2 a3 = P.set j a3 := by unfold bentL; rw [if_neg (by rw [HTL.out]; exact h0), HTL.out, HJ.out, Int.toNat_natCast]
      have HBE := Lib.hid hbe; clear hbe
      go_wp2_with fail
      refine (around_c a2 tl _ (by omega) (by omega) H2.out).mono ?_
      rw [HJ.out]
      rintro e w3 ⟨rfl, rfl⟩
      go_wp2_with fail
      go_meet
      have hE3 : Ext w (w2.setCell ⟨g, j, none⟩ (.int .i64 a3)) := HE2.out.setCell hgl _
      refine ⟨rfl, hE3, ?_, ?_⟩
      · exact HI1.out.keep (Ext.ik (HE12.out.setCell hg1 _))
      · rw [HBE.out]
        refine ⟨by rw [List.length_set]; exact HTL.out, by omega, fun i hi => ?_, .inr ⟨g, 0, rfl, ?_, fun i hi => ?_⟩⟩
        · have := bentL_int (at' := a2) HBD.out H3.out i (by rw [HTL.out]; exact hi)
          rw [HBE.out] at this; exact this
        · simpa using lg
        · rw [Nat.zero_add]; exact HR.out.put HTL.out hjl i hi
  case rest =>
    obtain ⟨rfl, hE3, hI3, hB3⟩ := hcut
    have HW := Lib.hid (And.intro hE3 (And.intro hI3 hB3))
    clear hE3 hI3 hB3 HR HE2 HI2 HE12 HI1
    obtain ⟨lb, hlb⟩ : ∃ b, b = wc.heap.size + 1 := ⟨_, rfl⟩
    have hG4 : Grps ((wc.alloc (.cells #[.int .i64 0, .int .i64 0] 3)).alloc (.cells #[.slice a9 tl c9, .slice (some ⟨g, 0, none⟩) tl cap, .slice none 0 0, .slice (some ⟨wc.heap.size, 0, none⟩) 2 2] 22)) (some ⟨lb, 0, none⟩) 4
        [⟨a9, tl, c9⟩, ⟨some ⟨g, 0, none⟩, tl, cap⟩, ⟨none, 0, 0⟩, ⟨some ⟨wc.heap.size, 0, none⟩, 2, 2⟩] (fourL P a2 a3) :=
      Grps.four (Blk.at _ _ (by rw [hlb]; simp)).at' (HW.out.2.1.keep (((Ext.refl wc).alloc _).alloc _).ik) (HW.out.2.2.keep (((Ext.refl wc).alloc _).alloc _).ik)
        ⟨rfl, Nat.zero_le _, fun i hi => absurd hi (Nat.not_lt_zero _), .inl rfl⟩ (Ints.keep (lit_ints (n := 2) [0, 0] rfl rfl (by decide) (by omega) rfl) ((Ext.refl _).alloc _).ik)
    have hfl := fourL_len a2 a3 (P := P) (by rw [HTL.out]; omega)
    generalize hFs : fourL P a2 a3 = Fs at *
    clear hFs
    generalize hgs : ([⟨a9, tl, c9⟩, ⟨some ⟨g, 0, none⟩, tl, cap⟩, ⟨none, 0, 0⟩, ⟨some ⟨wc.heap.size, 0, none⟩, 2, 2⟩] : List Sl) = gs at *
    clear hgs
    have HG4 := Lib.hid hG4; have HFL := Lib.hid hfl
    clear hG4 hfl
    go_wp2_with fail
    rw [← hlb]
    refine (units_c a1 _ H1.out).mono ?_
    rintro e w4 ⟨ub, rfl, hub, hur, hx⟩
    have HST := Lib.hid (And.intro (((HW.out.1.alloc _).alloc _).trans hx) (And.intro (HG4.out.ext hx) hur))
    have hui := unitsF_int H1.out
    have HUI := Lib.hid hui
    have hul : (unitsF a1).length = 5 := rfl
    have HUL := Lib.hid hul
    clear hx hur hui hul HG4 HW hlb hub
    generalize unitsF a1 = U at *
    go_upto_region 8 with (fail)
    go_loopw [13] (fun v ws => ∃ i : Nat, i ≤ 4 ∧ v = .int .i64 (i : Int) ∧ Ext w ws ∧ Grps ws (some ⟨lb, 0, none⟩) 4 gs Fs ∧ IRow ws ub U) (fun v _ => 4 - (intOf v).toNat)
    case atStart => exact ⟨0, by omega, rfl, HST.out⟩
    case round =>
      obtain ⟨i, hi, rfl, hS⟩ := hrel
      have HS := Lib.hid hS; clear hS HST
      by_cases hlt : i < 4
      · have t0 : (i : Int) < 4 := by omega
        have t1 : (0 : Int) ≤ (i : Int) := by omega
        go_upto_region 11 with (fail)
        go_loopw [14] (fun v ws => ∃ k : Nat, k ≤ 5 ∧ v = .int .i64 (k : Int) ∧ Ext w ws ∧ Grps ws (some ⟨lb, 0, none⟩) 4 gs Fs ∧ IRow ws ub U) (fun v _ => 5 - (intOf v).toNat)
        case atStart => exact ⟨0, by omega, rfl, HS.out⟩
        case round =>
          obtain ⟨k, hk, rfl, hE, hGr, hU⟩ := hrel
          by_cases hlt2 : k < 5
          · have t2 : (k : Int) < 5 := by omega
            have t3 : (0 : Int) ≤ (k : Int) := by omega
            obtain ⟨b, off, he, hb, hc⟩ := hGr.at i hlt
            injection he with he; injection he with e1 e2
            subst e1; subst e2
            rw [Nat.zero_add] at hc
            have hin := hGr.2.2.2.2 i hlt
            have hll := HFL.out i hlt
            have cu := IRow.cell hU k (by rw [HUL.out]; exact hlt2)
            have h64 := HUI.out k hlt2
            have lu := hU.lt
            generalize gs.getD i sl0 = sg at *
            generalize Fs.getD i [] = L at *
            generalize U.getD k 0 = nk at *
            obtain ⟨la, ln, lc⟩ := sg
            simp only at hin hc
            have hln := hin.1
            rw [hln] at hll
            have HIN := Lib.hid hin; have HK := Lib.hid (And.intro hE (And.intro hGr hU)); have H64 := Lib.hid h64
            clear hin hE hGr hU h64
            obtain ⟨er, her⟩ : ∃ x, errF nk L 1 = x := ⟨_, rfl⟩
            have HER := Lib.hid her
            clear her
            have hln3 : ln ≤ 12 := by omega
            have E0 : Ext wr wr := Ext.refl wr
            clear hln hll
            by_cases h0 : er = 0
            · subst h0
              have hok := errF_ok HER.out
              have hg := good_of_any hok.2.2.1
              have hsb := sum_bd L hg
              rw [HIN.out.1] at hsb
              have HOK := Lib.hid hok; have HG := Lib.hid hg; have HSB := Lib.hid hsb
              have hn0 := hok.1
              have hn1 := hok.2.1
              clear hok hg hsb
              go_upto_region 13 with (fail)
              go_region_held3 (fun w' => Ext wr w' ∧ w'.cell? ⟨ub, k, none⟩ = some (.int .i64 nk) ∧ w'.cell? ⟨lb, i, none⟩ = some (.slice la ln lc)) (first | exact ⟨E0.drew, cu, hc⟩ | (go_split_ands; repeat' (first | with_reducible assumption | with_reducible apply And.intro | with_reducible exact Ext.refl _ | with_reducible refine Ext.setCell ?_ (by simp; omega) _ | with_reducible refine Ext.setCell ?_ (by simp) _ | with_reducible refine At.set ?_ (by omega) | with_reducible refine own1_set ?_ | with_reducible refine own2_set ?_ | with_reducible refine own3_set ?_ (by simp) | with_reducible refine Ext.drew ?_ | with_reducible refine At.drew ?_ | with_reducible refine own1_drew ?_ | with_reducible refine Ext.alloc ?_ _ | with_reducible refine At.alloc ?_ (by simp) | with_reducible refine own1_alloc ?_ | with_reducible refine cell_alloc ?_ | with_reducible refine cell_drew ?_ | with_reducible refine own2_drew ?_ | with_reducible refine own3_drew ?_ | with_reducible refine own2_alloc (by first | omega | (simp; omega)) ?_ | with_reducible refine own3_alloc (by first | omega | (simp; omega)) ?_ | with_reducible refine cell_set ?_ (by omega) | with_reducible exact Ext.trans' (by assumption) (by assumption) | with_reducible exact At.ext (by assumption) (by assumption) (by simp) | with_reducible exact Ext.cell (by assumption) (by assumption) | exact (Own.ext (by assumption) ⟨by assumption, by assumption, by assumption⟩ (by simp)).1 | exact (Own.ext (by assumption) ⟨by assumption, by assumption, by assumption⟩ (by simp)).2.1 | exact (Own.ext (by assumption) ⟨by assumption, by assumption, by assumption⟩ (by simp)).2.2))) ((go_at_call 13; refine (rerror_c nk la ln lc L 1 _ (HIN.out.keep (Ext.ik (And.left (by assumption)))) (by omega)).mono ?_; rw [HER.out]; rintro e w5 ⟨rfl, hx5⟩)); clear E0 cu hc; obtain ⟨E0, cu, hc⟩ : Ext wr w5 ∧ w5.cell? ⟨ub, k, none⟩ = some (.int .i64 nk) ∧ w5.cell? ⟨lb, i, none⟩ = some (.slice la ln lc) := (by assumption); clear hx5
              have hll2 := largestF_length nk L
              rw [HIN.out.1] at hll2
              have hl64 : ∀ i, i < ln → Int64 ((largestF nk L).getD i 0) := fun i _ => by have := lgF_bd HER.out i; exact ⟨by omega, by omega⟩
              have HLL := Lib.hid hll2; have HL64 := Lib.hid hl64
              clear hll2 hl64
              by_cases hnk : 4096 < nk
              · have HHE := Lib.hid (highErr_great HER.out hnk)
                go_upto_region 14 with (fail)
                go_region_held3 (fun w' => Ext wr w' ∧ w'.cell? ⟨ub, k, none⟩ = some (.int .i64 nk) ∧ w'.cell? ⟨lb, i, none⟩ = some (.slice la ln lc)) (first | exact ⟨E0.drew, cu, hc⟩ | (go_split_ands; repeat' (first | with_reducible assumption | with_reducible apply And.intro | with_reducible exact Ext.refl _ | with_reducible refine Ext.setCell ?_ (by simp; omega) _ | with_reducible refine Ext.setCell ?_ (by simp) _ | with_reducible refine At.set ?_ (by omega) | with_reducible refine own1_set ?_ | with_reducible refine own2_set ?_ | with_reducible refine own3_set ?_ (by simp) | with_reducible refine Ext.drew ?_ | with_reducible refine At.drew ?_ | with_reducible refine own1_drew ?_ | with_reducible refine Ext.alloc ?_ _ | with_reducible refine At.alloc ?_ (by simp) | with_reducible refine own1_alloc ?_ | with_reducible refine cell_alloc ?_ | with_reducible refine cell_drew ?_ | with_reducible refine own2_drew ?_ | with_reducible refine own3_drew ?_ | with_reducible refine own2_alloc (by first | omega | (simp; omega)) ?_ | with_reducible refine own3_alloc (by first | omega | (simp; omega)) ?_ | with_reducible refine cell_set ?_ (by omega) | with_reducible exact Ext.trans' (by assumption) (by assumption) | with_reducible exact At.ext (by assumption) (by assumption) (by simp) | with_reducible exact Ext.cell (by assumption) (by assumption) | exact (Own.ext (by assumption) ⟨by assumption, by assumption, by assumption⟩ (by simp)).1 | exact (Own.ext (by assumption) ⟨by assumption, by assumption, by assumption⟩ (by simp)).2.1 | exact (Own.ext (by assumption) ⟨by assumption, by assumption, by assumption⟩ (by simp)).2.2))) ((go_at_call 14; refine (Largest_c nk la ln lc L _ (HIN.out.keep (Ext.ik (And.left (by assumption)))) (.inl (by omega)) (by omega)).mono ?_; rw [HER.out]; intro e w6 hd; (obtain ⟨hx5, g5, rfl, hg5, hr5⟩ := hd.ok rfl; clear hd))); clear E0 cu hc; obtain ⟨E0, cu, hc⟩ : Ext wr w6 ∧ w6.cell? ⟨ub, k, none⟩ = some (.int .i64 nk) ∧ w6.cell? ⟨lb, i, none⟩ = some (.slice la ln lc) := (by assumption); clear hx5
                have E1 : Ext w6 w6 := Ext.refl w6
                go_upto_region 15 with (fail)
                go_region_held3 (fun w' => Ext w6 w' ∧ w'.cell? ⟨ub, k, none⟩ = some (.int .i64 nk) ∧ w'.cell? ⟨lb, i, none⟩ = some (.slice la ln lc)) (first | exact ⟨E1.drew, cu, hc⟩ | (go_split_ands; repeat' (first | with_reducible assumption | with_reducible apply And.intro | with_reducible exact Ext.refl _ | with_reducible refine Ext.setCell ?_ (by simp; omega) _ | with_reducible refine Ext.setCell ?_ (by simp) _ | with_reducible refine At.set ?_ (by omega) | with_reducible refine own1_set ?_ | with_reducible refine own2_set ?_ | with_reducible refine own3_set ?_ (by simp) | with_reducible refine Ext.drew ?_ | with_reducible refine At.drew ?_ | with_reducible refine own1_drew ?_ | with_reducible refine Ext.alloc ?_ _ | with_reducible refine At.alloc ?_ (by simp) | with_reducible refine own1_alloc ?_ | with_reducible refine cell_alloc ?_ | with_reducible refine cell_drew ?_ | with_reducible refine own2_drew ?_ | with_reducible refine own3_drew ?_ | with_reducible refine own2_alloc (by first | omega | (simp; omega)) ?_ | with_reducible refine own3_alloc (by first | omega | (simp; omega)) ?_ | with_reducible refine cell_set ?_ (by omega) | with_reducible exact Ext.trans' (by assumption) (by assumption) | with_reducible exact At.ext (by assumption) (by assumption) (by simp) | with_reducible exact Ext.cell (by assumption) (by assumption) | exact (Own.ext (by assumption) ⟨by assumption, by assumption, by assumption⟩ (by simp)).1 | exact (Own.ext (by assumption) ⟨by assumption, by assumption, by assumption⟩ (by simp)).2.1 | exact (Own.ext (by assumption) ⟨by assumption, by assumption, by assumption⟩ (by simp)).2.2))) ((go_at_call 15; refine (Highest_c nk la ln lc L _ (HIN.out.keep (Ext.ik (Ext.trans E0 (And.left (by assumption))))) (by omega)).mono ?_; rw [HHE.out]; intro e w7 hd; (obtain ⟨hx5, rfl⟩ := hd.bad (by omega); clear hd))); clear E1 cu hc; obtain ⟨E1, cu, hc⟩ : Ext w6 w7 ∧ w7.cell? ⟨ub, k, none⟩ = some (.int .i64 nk) ∧ w7.cell? ⟨lb, i, none⟩ = some (.slice la ln lc) := (by assumption); clear hx5
                have HRA := Lib.hid ((hr5.ext E1).ints HLL.out (by omega) HL64.out)
                have E7 := Lib.hid (E0.trans E1)
                have E2 : Ext w7 w7 := Ext.refl w7
                clear hr5 E1 E0 hg5
                go_upto_region 22 with (fail)
                refine wp_region_held_drew (S := fun w' => Ext w7 w' ∧ w'.cell? ⟨ub, k, none⟩ = some (.int .i64 nk) ∧ w'.cell? ⟨lb, i, none⟩ = some (.slice la ln lc)) (by kernel_rfl) ?_ (fun hHeld => ?_)
                · exact ⟨E2.drew, cu, hc⟩
                refine takeL (i := 0) (v := ?_) rfl (by kernel_rfl) (by kernel_rfl) (by kernel_rfl) (fun _ _ _ h => h) (Or.inl ⟨by rfl, ?_⟩) (by assumption) ?_; rotate_left; (focus (intro wq hSw; (try dsimp only at hSw); go_simp; try with_reducible rfl)); (try simp only [Act.put, List.setIfInBounds_toArray, List.set_cons_zero, List.set_cons_succ])
                refine takeL (i := 1) (v := ?_) rfl (by kernel_rfl) (by kernel_rfl) (by kernel_rfl) (fun _ _ _ h => h) (Or.inl ⟨by rfl, ?_⟩) (by assumption) ?_; rotate_left; (focus (intro wq hSw; (try dsimp only at hSw); go_simp; try with_reducible rfl)); (try simp only [Act.put, List.setIfInBounds_toArray, List.set_cons_zero, List.set_cons_succ])
                refine takeL (i := 2) (v := ?_) rfl (by kernel_rfl) (by kernel_rfl) (by kernel_rfl) (fun _ _ _ h => h) (Or.inl ⟨by rfl, ?_⟩) (by assumption) ?_; rotate_left; (focus (intro wq hSw; (try dsimp only at hSw); go_simp; try with_reducible rfl)); (try simp only [Act.put, List.setIfInBounds_toArray, List.set_cons_zero, List.set_cons_succ])
                refine takeL (i := 3) (v := ?_) rfl (by kernel_rfl) (by kernel_rfl) (by kernel_rfl) (fun _ _ _ h => h) (Or.inl ⟨by rfl, ?_⟩) (by assumption) ?_; rotate_left; (focus (intro wq hSw; (try dsimp only at hSw); go_simp; try with_reducible rfl)); (try simp only [Act.put, List.setIfInBounds_toArray, List.set_cons_zero, List.set_cons_succ])
                refine takeL (i := 4) (v := ?_) rfl (by kernel_rfl) (by kernel_rfl) (by kernel_rfl) (fun _ _ _ h => h) (Or.inl ⟨by rfl, ?_⟩) (by assumption) ?_; rotate_left; (focus (intro wq hSw; (try dsimp only at hSw); go_simp; try with_reducible rfl)); (try simp only [Act.put, List.setIfInBounds_toArray, List.set_cons_zero, List.set_cons_succ])
                refine takeL (i := 5) (v := ?_) rfl (by kernel_rfl) (by kernel_rfl) (by kernel_rfl) (fun _ _ _ h => h) (Or.inl ⟨by rfl, ?_⟩) (by assumption) ?_; rotate_left; (focus (intro wq hSw; (try dsimp only at hSw); go_simp; try with_reducible rfl)); (try simp only [Act.put, List.setIfInBounds_toArray, List.set_cons_zero, List.set_cons_succ])
                refine takeL (i := 6) (v := ?_) rfl (by kernel_rfl) (by kernel_rfl) (by kernel_rfl) (fun _ _ _ h => h) (Or.inl ⟨by rfl, ?_⟩) (by assumption) ?_; rotate_left; (focus (intro wq hSw; (try dsimp only at hSw); go_simp; try with_reducible rfl)); (try simp only [Act.put, List.setIfInBounds_toArray, List.set_cons_zero, List.set_cons_succ])
                refine takeL (i := 7) (v := ?_) rfl (by kernel_rfl) (by kernel_rfl) (by kernel_rfl) (fun _ _ _ h => h) (Or.inl ⟨by rfl, ?_⟩) (by assumption) ?_; rotate_left; (focus (intro wq hSw; (try dsimp only at hSw); go_simp; try with_reducible rfl)); (try simp only [Act.put, List.setIfInBounds_toArray, List.set_cons_zero, List.set_cons_succ])
                refine takeL (i := 8) (v := ?_) rfl (by kernel_rfl) (by kernel_rfl) (by kernel_rfl) (fun _ _ _ h => h) (Or.inl ⟨by rfl, ?_⟩) (by assumption) ?_; rotate_left; (focus (intro wq hSw; (try dsimp only at hSw); go_simp; try with_reducible rfl)); (try simp only [Act.put, List.setIfInBounds_toArray, List.set_cons_zero, List.set_cons_succ])
                refine takeL (i := 9) (v := ?_) rfl (by kernel_rfl) (by kernel_rfl) (by kernel_rfl) (fun _ _ _ h => h) (Or.inl ⟨by rfl, ?_⟩) (by assumption) ?_; rotate_left; (focus (intro wq hSw; (try dsimp only at hSw); go_simp; try with_reducible rfl)); (try simp only [Act.put, List.setIfInBounds_toArray, List.set_cons_zero, List.set_cons_succ])
                refine takeL (i := 10) (v := ?_) rfl (by kernel_rfl) (by kernel_rfl) (by kernel_rfl) (fun _ _ _ h => h) (Or.inl ⟨by rfl, ?_⟩) (by assumption) ?_; rotate_left; (focus (intro wq hSw; (try dsimp only at hSw); go_simp; try with_reducible rfl)); (try simp only [Act.put, List.setIfInBounds_toArray, List.set_cons_zero, List.set_cons_succ])
                refine takeL (i := 11) (v := ?_) rfl (by kernel_rfl) (by kernel_rfl) (by kernel_rfl) (fun _ _ _ h => h) (Or.inl ⟨by rfl, ?_⟩) (by assumption) ?_; rotate_left; (focus (intro wq hSw; (try dsimp only at hSw); go_simp; try with_reducible rfl)); (try simp only [Act.put, List.setIfInBounds_toArray, List.set_cons_zero, List.set_cons_succ])
                refine consL (i := 12) (by kernel_rfl) rfl (fun K hK => ?_); go_simp; go_at_call 17; refine (rlargest_c nk la ln lc L _ (HIN.out.keep (Ext.ik (Ext.trans E7.out (And.left (by assumption))))) hn0 hn1 (fun x hx => by have := HG.out x hx; omega) (by have := HSB.out; omega) (by omega)).mono ?_; rintro e w8 ⟨g8, rfl, hg8, hr8, hx8⟩; go_wp2_with fail; refine hK.out _ _ ?_ (fun hHeld => ?_); (first | done | skip); rotate_left; clear hK K; rotate_right; (try dsimp only); (go_split_ands; repeat' (first | with_reducible assumption | with_reducible apply And.intro | with_reducible exact Ext.refl _ | with_reducible refine Ext.setCell ?_ (by simp; omega) _ | with_reducible refine Ext.setCell ?_ (by simp) _ | with_reducible refine At.set ?_ (by omega) | with_reducible refine own1_set ?_ | with_reducible refine own2_set ?_ | with_reducible refine own3_set ?_ (by simp) | with_reducible refine Ext.drew ?_ | with_reducible refine At.drew ?_ | with_reducible refine own1_drew ?_ | with_reducible refine Ext.alloc ?_ _ | with_reducible refine At.alloc ?_ (by simp) | with_reducible refine own1_alloc ?_ | with_reducible refine cell_alloc ?_ | with_reducible refine cell_drew ?_ | with_reducible refine own2_drew ?_ | with_reducible refine own3_drew ?_ | with_reducible refine own2_alloc (by first | omega | (simp; omega)) ?_ | with_reducible refine own3_alloc (by first | omega | (simp; omega)) ?_ | with_reducible refine cell_set ?_ (by omega) | with_reducible exact Ext.trans' (by assumption) (by assumption) | with_reducible exact At.ext (by assumption) (by assumption) (by simp) | with_reducible exact Ext.cell (by assumption) (by assumption) | exact (Own.ext (by assumption) ⟨by assumption, by assumption, by assumption⟩ (by simp)).1 | exact (Own.ext (by assumption) ⟨by assumption, by assumption, by assumption⟩ (by simp)).2.1 | exact (Own.ext (by assumption) ⟨by assumption, by assumption, by assumption⟩ (by simp)).2.2)); (try simp only [Act.put, List.setIfInBounds_toArray, List.set_cons_zero, List.set_cons_succ])
                refine consL (i := 13) (by kernel_rfl) rfl (fun K hK => ?_); go_simp; go_at_call 16; refine (same_c _ _ ln ln ln (largestF nk L) _ (Ints.keep HRA.out (Ext.ik (And.left (by assumption)))) (Ints.keep (hr8.ints HLL.out (by omega) HL64.out) (by repeat' (first | with_reducible exact IK.refl _ | with_reducible refine IK.setCell ?_ (by intro k n; go_simp) _ | with_reducible refine IK.alloc ?_ _ | with_reducible refine IK.drew ?_ | with_reducible refine IK.trans ?_ (Ext.ik (by assumption)))))).mono ?_; rintro e w9 ⟨rfl, hx9⟩; go_wp2_with fail; refine hK.out _ _ ?_ (fun hHeld => ?_); (first | done | skip); rotate_left; clear hK K; rotate_right; (try dsimp only); (go_split_ands; repeat' (first | with_reducible assumption | with_reducible apply And.intro | with_reducible exact Ext.refl _ | with_reducible refine Ext.setCell ?_ (by simp; omega) _ | with_reducible refine Ext.setCell ?_ (by simp) _ | with_reducible refine At.set ?_ (by omega) | with_reducible refine own1_set ?_ | with_reducible refine own2_set ?_ | with_reducible refine own3_set ?_ (by simp) | with_reducible refine Ext.drew ?_ | with_reducible refine At.drew ?_ | with_reducible refine own1_drew ?_ | with_reducible refine Ext.alloc ?_ _ | with_reducible refine At.alloc ?_ (by simp) | with_reducible refine own1_alloc ?_ | with_reducible refine cell_alloc ?_ | with_reducible refine cell_drew ?_ | with_reducible refine own2_drew ?_ | with_reducible refine own3_drew ?_ | with_reducible refine own2_alloc (by first | omega | (simp; omega)) ?_ | with_reducible refine own3_alloc (by first | omega | (simp; omega)) ?_ | with_reducible refine cell_set ?_ (by omega) | with_reducible exact Ext.trans' (by assumption) (by assumption) | with_reducible exact At.ext (by assumption) (by assumption) (by simp) | with_reducible exact Ext.cell (by assumption) (by assumption) | exact (Own.ext (by assumption) ⟨by assumption, by assumption, by assumption⟩ (by simp)).1 | exact (Own.ext (by assumption) ⟨by assumption, by assumption, by assumption⟩ (by simp)).2.1 | exact (Own.ext (by assumption) ⟨by assumption, by assumption, by assumption⟩ (by simp)).2.2)); (try simp only [Act.put, List.setIfInBounds_toArray, List.set_cons_zero, List.set_cons_succ])
                refine takeL (i := 14) (v := ?_) rfl (by kernel_rfl) (by kernel_rfl) (by kernel_rfl) (fun _ _ _ h => h) (Or.inl ⟨by rfl, ?_⟩) (by assumption) ?_; rotate_left; (focus (intro wq hSw; (try dsimp only at hSw); go_simp; try with_reducible rfl)); (try simp only [Act.put, List.setIfInBounds_toArray, List.set_cons_zero, List.set_cons_succ])
                refine takeL (i := 15) (v := ?_) rfl (by kernel_rfl) (by kernel_rfl) (by kernel_rfl) (fun _ _ _ h => h) (Or.inl ⟨by rfl, ?_⟩) (by assumption) ?_; rotate_left; (focus (intro wq hSw; (try dsimp only at hSw); go_simp; try with_reducible rfl)); (try simp only [Act.put, List.setIfInBounds_toArray, List.set_cons_zero, List.set_cons_succ])
                refine takeL (i := 16) (v := ?_) rfl (by kernel_rfl) (by kernel_rfl) (by kernel_rfl) (fun _ _ _ h => h) (Or.inl ⟨by rfl, ?_⟩) (by assumption) ?_; rotate_left; (focus (intro wq hSw; (try dsimp only at hSw); go_simp; try with_reducible rfl)); (try simp only [Act.put, List.setIfInBounds_toArray, List.set_cons_zero, List.set_cons_succ])
                refine takeL (i := 17) (v := ?_) rfl (by kernel_rfl) (by kernel_rfl) (by kernel_rfl) (fun _ _ _ h => h) (Or.inl ⟨by rfl, ?_⟩) (by assumption) ?_; rotate_left; (focus (intro wq hSw; (try dsimp only at hSw); go_simp; try with_reducible rfl)); (try simp only [Act.put, List.setIfInBounds_toArray, List.set_cons_zero, List.set_cons_succ])
                refine takeL (i := 18) (v := ?_) rfl (by kernel_rfl) (by kernel_rfl) (by kernel_rfl) (fun _ _ _ h => h) (Or.inl ⟨by rfl, ?_⟩) (by assumption) ?_; rotate_left; (focus (intro wq hSw; (try dsimp only at hSw); go_simp; try with_reducible rfl)); (try simp only [Act.put, List.setIfInBounds_toArray, List.set_cons_zero, List.set_cons_succ])
                refine takeL (i := 19) (v := ?_) rfl (by kernel_rfl) (by kernel_rfl) (by kernel_rfl) (fun _ _ _ h => h) (Or.inl ⟨by rfl, ?_⟩) (by assumption) ?_; rotate_left; (focus (intro wq hSw; (try dsimp only at hSw); go_simp; try with_reducible rfl)); (try simp only [Act.put, List.setIfInBounds_toArray, List.set_cons_zero, List.set_cons_succ])
                refine takeL (i := 20) rfl (by kernel_rfl) (by kernel_rfl) (by kernel_rfl) (fun _ _ _ h => h) (Or.inr ⟨by rfl, rfl⟩) (by assumption) ?_; (try simp only [Act.put, List.setIfInBounds_toArray, List.set_cons_zero, List.set_cons_succ])
                refine takeL (i := 21) rfl (by kernel_rfl) (by kernel_rfl) (by kernel_rfl) (fun _ _ _ h => h) (Or.inr ⟨by rfl, rfl⟩) (by assumption) ?_; (try simp only [Act.put, List.setIfInBounds_toArray, List.set_cons_zero, List.set_cons_succ])
                refine takeL (i := 22) rfl (by kernel_rfl) (by kernel_rfl) (by kernel_rfl) (fun _ _ _ h => h) (Or.inr ⟨by rfl, rfl⟩) (by assumption) ?_; (try simp only [Act.put, List.setIfInBounds_toArray, List.set_cons_zero, List.set_cons_succ])
                refine takeL (i := 23) rfl (by kernel_rfl) (by kernel_rfl) (by kernel_rfl) (fun _ _ _ h => h) (Or.inr ⟨by rfl, rfl⟩) (by assumption) ?_; (try simp only [Act.put, List.setIfInBounds_toArray, List.set_cons_zero, List.set_cons_succ])
                refine takeL (i := 24) rfl (by kernel_rfl) (by kernel_rfl) (by kernel_rfl) (fun _ _ _ h => h) (Or.inr ⟨by rfl, rfl⟩) (by assumption) ?_; (try simp only [Act.put, List.setIfInBounds_toArray, List.set_cons_zero, List.set_cons_succ])
                refine takeL (i := 25) rfl (by kernel_rfl) (by kernel_rfl) (by kernel_rfl) (fun _ _ _ h => h) (Or.inr ⟨by rfl, rfl⟩) (by assumption) ?_; (try simp only [Act.put, List.setIfInBounds_toArray, List.set_cons_zero, List.set_cons_succ])
                refine takeL (i := 26) rfl (by kernel_rfl) (by kernel_rfl) (by kernel_rfl) (fun _ _ _ h => h) (Or.inr ⟨by rfl, rfl⟩) (by assumption) ?_; (try simp only [Act.put, List.setIfInBounds_toArray, List.set_cons_zero, List.set_cons_succ])
                refine takeL (i := 27) rfl (by kernel_rfl) (by kernel_rfl) (by kernel_rfl) (fun _ _ _ h => h) (Or.inr ⟨by rfl, rfl⟩) (by assumption) ?_; (try simp only [Act.put, List.setIfInBounds_toArray, List.set_cons_zero, List.set_cons_succ])
                refine takeL (i := 28) rfl (by kernel_rfl) (by kernel_rfl) (by kernel_rfl) (fun _ _ _ h => h) (Or.inr ⟨by rfl, rfl⟩) (by assumption) ?_; (try simp only [Act.put, List.setIfInBounds_toArray, List.set_cons_zero, List.set_cons_succ])
                refine takeL (i := 29) rfl (by kernel_rfl) (by kernel_rfl) (by kernel_rfl) (fun _ _ _ h => h) (Or.inr ⟨by rfl, rfl⟩) (by assumption) ?_; (try simp only [Act.put, List.setIfInBounds_toArray, List.set_cons_zero, List.set_cons_succ])
                refine takeL (i := 30) rfl (by kernel_rfl) (by kernel_rfl) (by kernel_rfl) (fun _ _ _ h => h) (Or.inr ⟨by rfl, rfl⟩) (by assumption) ?_; (try simp only [Act.put, List.setIfInBounds_toArray, List.set_cons_zero, List.set_cons_succ])
                refine takeL (i := 31) rfl (by kernel_rfl) (by kernel_rfl) (by kernel_rfl) (fun _ _ _ h => h) (Or.inr ⟨by rfl, rfl⟩) (by assumption) ?_; (try simp only [Act.put, List.setIfInBounds_toArray, List.set_cons_zero, List.set_cons_succ])
                refine takeL (i := 32) (v := ?_) rfl (by kernel_rfl) (by kernel_rfl) (by kernel_rfl) (fun _ _ _ h => h) (Or.inl ⟨by rfl, ?_⟩) (by assumption) ?_; rotate_left; (focus (intro wq hSw; (try dsimp only at hSw); go_simp; try with_reducible rfl)); (try simp only [Act.put, List.setIfInBounds_toArray, List.set_cons_zero, List.set_cons_succ])
                refine takeL (i := 33) (v := ?_) rfl (by kernel_rfl) (by kernel_rfl) (by kernel_rfl) (fun _ _ _ h => h) (Or.inl ⟨by rfl, ?_⟩) (by assumption) ?_; rotate_left; (focus (intro wq hSw; (try dsimp only at hSw); go_simp; try with_reducible rfl)); (try simp only [Act.put, List.setIfInBounds_toArray, List.set_cons_zero, List.set_cons_succ])
                refine doneL (by kernel_rfl) ?_
                have EE := E7.out.trans (And.left hHeld)
                clear hHeld
                have HEE := Lib.hid EE; clear EE
                go_wp2_with fail
                go_roundw
                case rel => exact ⟨k + 1, by omega, by go_num, HK.out.1.trans (HEE.out), HK.out.2.1.ext (HEE.out), HK.out.2.2.ext (HEE.out)⟩
                case measure => simp [intOf]; omega
              · have HHE := Lib.hid (highErr_good HER.out hnk)
                have hhl := highN_length L nk.toNat
                rw [HIN.out.1] at hhl
                have hh64 : ∀ i, i < ln → Int64 ((highN L nk.toNat).getD i 0) := fun i _ => by have h1 := highN_bd L nk.toNat i; have h2 := highN_nonneg L nk.toNat i; exact ⟨by omega, by omega⟩
                have HHL := Lib.hid hhl; have HH64 := Lib.hid hh64
                clear hhl hh64
                go_upto_region 14 with (fail)
                go_region_held3 (fun w' => Ext wr w' ∧ w'.cell? ⟨ub, k, none⟩ = some (.int .i64 nk) ∧ w'.cell? ⟨lb, i, none⟩ = some (.slice la ln lc)) (first | exact ⟨E0.drew, cu, hc⟩ | (go_split_ands; repeat' (first | with_reducible assumption | with_reducible apply And.intro | with_reducible exact Ext.refl _ | with_reducible refine Ext.setCell ?_ (by simp; omega) _ | with_reducible refine Ext.setCell ?_ (by simp) _ | with_reducible refine At.set ?_ (by omega) | with_reducible refine own1_set ?_ | with_reducible refine own2_set ?_ | with_reducible refine own3_set ?_ (by simp) | with_reducible refine Ext.drew ?_ | with_reducible refine At.drew ?_ | with_reducible refine own1_drew ?_ | with_reducible refine Ext.alloc ?_ _ | with_reducible refine At.alloc ?_ (by simp) | with_reducible refine own1_alloc ?_ | with_reducible refine cell_alloc ?_ | with_reducible refine cell_drew ?_ | with_reducible refine own2_drew ?_ | with_reducible refine own3_drew ?_ | with_reducible refine own2_alloc (by first | omega | (simp; omega)) ?_ | with_reducible refine own3_alloc (by first | omega | (simp; omega)) ?_ | with_reducible refine cell_set ?_ (by omega) | with_reducible exact Ext.trans' (by assumption) (by assumption) | with_reducible exact At.ext (by assumption) (by assumption) (by simp) | with_reducible exact Ext.cell (by assumption) (by assumption) | exact (Own.ext (by assumption) ⟨by assumption, by assumption, by assumption⟩ (by simp)).1 | exact (Own.ext (by assumption) ⟨by assumption, by assumption, by assumption⟩ (by simp)).2.1 | exact (Own.ext (by assumption) ⟨by assumption, by assumption, by assumption⟩ (by simp)).2.2))) ((go_at_call 14; refine (Largest_c nk la ln lc L _ (HIN.out.keep (Ext.ik (And.left (by assumption)))) (.inl (by omega)) (by omega)).mono ?_; rw [HER.out]; intro e w6 hd; (obtain ⟨hx5, g5, rfl, hg5, hr5⟩ := hd.ok rfl; clear hd))); clear E0 cu hc; obtain ⟨E0, cu, hc⟩ : Ext wr w6 ∧ w6.cell? ⟨ub, k, none⟩ = some (.int .i64 nk) ∧ w6.cell? ⟨lb, i, none⟩ = some (.slice la ln lc) := (by assumption); clear hx5
                have E1 : Ext w6 w6 := Ext.refl w6
                go_upto_region 15 with (fail)
                go_region_held3 (fun w' => Ext w6 w' ∧ w'.cell? ⟨ub, k, none⟩ = some (.int .i64 nk) ∧ w'.cell? ⟨lb, i, none⟩ = some (.slice la ln lc)) (first | exact ⟨E1.drew, cu, hc⟩ | (go_split_ands; repeat' (first | with_reducible assumption | with_reducible apply And.intro | with_reducible exact Ext.refl _ | with_reducible refine Ext.setCell ?_ (by simp; omega) _ | with_reducible refine Ext.setCell ?_ (by simp) _ | with_reducible refine At.set ?_ (by omega) | with_reducible refine own1_set ?_ | with_reducible refine own2_set ?_ | with_reducible refine own3_set ?_ (by simp) | with_reducible refine Ext.drew ?_ | with_reducible refine At.drew ?_ | with_reducible refine own1_drew ?_ | with_reducible refine Ext.alloc ?_ _ | with_reducible refine At.alloc ?_ (by simp) | with_reducible refine own1_alloc ?_ | with_reducible refine cell_alloc ?_ | with_reducible refine cell_drew ?_ | with_reducible refine own2_drew ?_ | with_reducible refine own3_drew ?_ | with_reducible refine own2_alloc (by first | omega | (simp; omega)) ?_ | with_reducible refine own3_alloc (by first | omega | (simp; omega)) ?_ | with_reducible refine cell_set ?_ (by omega) | with_reducible exact Ext.trans' (by assumption) (by assumption) | with_reducible exact At.ext (by assumption) (by assumption) (by simp) | with_reducible exact Ext.cell (by assumption) (by assumption) | exact (Own.ext (by assumption) ⟨by assumption, by assumption, by assumption⟩ (by simp)).1 | exact (Own.ext (by assumption) ⟨by assumption, by assumption, by assumption⟩ (by simp)).2.1 | exact (Own.ext (by assumption) ⟨by assumption, by assumption, by assumption⟩ (by simp)).2.2))) ((go_at_call 15; refine (Highest_c nk la ln lc L _ (HIN.out.keep (Ext.ik (Ext.trans E0 (And.left (by assumption))))) (by omega)).mono ?_; rw [HHE.out]; intro e w7 hd; (obtain ⟨hx5, g6, rfl, hg6, hr6⟩ := hd.ok rfl; clear hd))); clear E1 cu hc; obtain ⟨E1, cu, hc⟩ : Ext w6 w7 ∧ w7.cell? ⟨ub, k, none⟩ = some (.int .i64 nk) ∧ w7.cell? ⟨lb, i, none⟩ = some (.slice la ln lc) := (by assumption); clear hx5
                have HRA := Lib.hid ((hr5.ext E1).ints HLL.out (by omega) HL64.out)
                have HRB := Lib.hid (hr6.ints HHL.out (by omega) HH64.out)
                have E7 := Lib.hid (E0.trans E1)
                have E2 : Ext w7 w7 := Ext.refl w7
                clear hr5 hr6 E1 E0 hg5 hg6
                go_upto_region 22 with (fail)
                refine wp_region_held_drew (S := fun w' => Ext w7 w' ∧ w'.cell? ⟨ub, k, none⟩ = some (.int .i64 nk) ∧ w'.cell? ⟨lb, i, none⟩ = some (.slice la ln lc)) (by kernel_rfl) ?_ (fun hHeld => ?_)
                · exact ⟨E2.drew, cu, hc⟩
                refine takeL (i := 0) (v := ?_) rfl (by kernel_rfl) (by kernel_rfl) (by kernel_rfl) (fun _ _ _ h => h) (Or.inl ⟨by rfl, ?_⟩) (by assumption) ?_; rotate_left; (focus (intro wq hSw; (try dsimp only at hSw); go_simp; try with_reducible rfl)); (try simp only [Act.put, List.setIfInBounds_toArray, List.set_cons_zero, List.set_cons_succ])
                refine takeL (i := 1) (v := ?_) rfl (by kernel_rfl) (by kernel_rfl) (by kernel_rfl) (fun _ _ _ h => h) (Or.inl ⟨by rfl, ?_⟩) (by assumption) ?_; rotate_left; (focus (intro wq hSw; (try dsimp only at hSw); go_simp; try with_reducible rfl)); (try simp only [Act.put, List.setIfInBounds_toArray, List.set_cons_zero, List.set_cons_succ])
                refine takeL (i := 2) (v := ?_) rfl (by kernel_rfl) (by kernel_rfl) (by kernel_rfl) (fun _ _ _ h => h) (Or.inl ⟨by rfl, ?_⟩) (by assumption) ?_; rotate_left; (focus (intro wq hSw; (try dsimp only at hSw); go_simp; try with_reducible rfl)); (try simp only [Act.put, List.setIfInBounds_toArray, List.set_cons_zero, List.set_cons_succ])
                refine takeL (i := 3) (v := ?_) rfl (by kernel_rfl) (by kernel_rfl) (by kernel_rfl) (fun _ _ _ h => h) (Or.inl ⟨by rfl, ?_⟩) (by assumption) ?_; rotate_left; (focus (intro wq hSw; (try dsimp only at hSw); go_simp; try with_reducible rfl)); (try simp only [Act.put, List.setIfInBounds_toArray, List.set_cons_zero, List.set_cons_succ])
                refine takeL (i := 4) (v := ?_) rfl (by kernel_rfl) (by kernel_rfl) (by kernel_rfl) (fun _ _ _ h => h) (Or.inl ⟨by rfl, ?_⟩) (by assumption) ?_; rotate_left; (focus (intro wq hSw; (try dsimp only at hSw); go_simp; try with_reducible rfl)); (try simp only [Act.put, List.setIfInBounds_toArray, List.set_cons_zero, List.set_cons_succ])
                refine takeL (i := 5) (v := ?_) rfl (by kernel_rfl) (by kernel_rfl) (by kernel_rfl) (fun _ _ _ h => h) (Or.inl ⟨by rfl, ?_⟩) (by assumption) ?_; rotate_left; (focus (intro wq hSw; (try dsimp only at hSw); go_simp; try with_reducible rfl)); (try simp only [Act.put, List.setIfInBounds_toArray, List.set_cons_zero, List.set_cons_succ])
                refine takeL (i := 6) (v := ?_) rfl (by kernel_rfl) (by kernel_rfl) (by kernel_rfl) (fun _ _ _ h => h) (Or.inl ⟨by rfl, ?_⟩) (by assumption) ?_; rotate_left; (focus (intro wq hSw; (try dsimp only at hSw); go_simp; try with_reducible rfl)); (try simp only [Act.put, List.setIfInBounds_toArray, List.set_cons_zero, List.set_cons_succ])
                refine takeL (i := 7) (v := ?_) rfl (by kernel_rfl) (by kernel_rfl) (by kernel_rfl) (fun _ _ _ h => h) (Or.inl ⟨by rfl, ?_⟩) (by assumption) ?_; rotate_left; (focus (intro wq hSw; (try dsimp only at hSw); go_simp; try with_reducible rfl)); (try simp only [Act.put, List.setIfInBounds_toArray, List.set_cons_zero, List.set_cons_succ])
                refine takeL (i := 8) (v := ?_) rfl (by kernel_rfl) (by kernel_rfl) (by kernel_rfl) (fun _ _ _ h => h) (Or.inl ⟨by rfl, ?_⟩) (by assumption) ?_; rotate_left; (focus (intro wq hSw; (try dsimp only at hSw); go_simp; try with_reducible rfl)); (try simp only [Act.put, List.setIfInBounds_toArray, List.set_cons_zero, List.set_cons_succ])
                refine takeL (i := 9) (v := ?_) rfl (by kernel_rfl) (by kernel_rfl) (by kernel_rfl) (fun _ _ _ h => h) (Or.inl ⟨by rfl, ?_⟩) (by assumption) ?_; rotate_left; (focus (intro wq hSw; (try dsimp only at hSw); go_simp; try with_reducible rfl)); (try simp only [Act.put, List.setIfInBounds_toArray, List.set_cons_zero, List.set_cons_succ])
                refine takeL (i := 10) (v := ?_) rfl (by kernel_rfl) (by kernel_rfl) (by kernel_rfl) (fun _ _ _ h => h) (Or.inl ⟨by rfl, ?_⟩) (by assumption) ?_; rotate_left; (focus (intro wq hSw; (try dsimp only at hSw); go_simp; try with_reducible rfl)); (try simp only [Act.put, List.setIfInBounds_toArray, List.set_cons_zero, List.set_cons_succ])
                refine takeL (i := 11) (v := ?_) rfl (by kernel_rfl) (by kernel_rfl) (by kernel_rfl) (fun _ _ _ h => h) (Or.inl ⟨by rfl, ?_⟩) (by assumption) ?_; rotate_left; (focus (intro wq hSw; (try dsimp only at hSw); go_simp; try with_reducible rfl)); (try simp only [Act.put, List.setIfInBounds_toArray, List.set_cons_zero, List.set_cons_succ])
                refine consL (i := 12) (by kernel_rfl) rfl (fun K hK => ?_); go_simp; go_at_call 17; refine (rlargest_c nk la ln lc L _ (HIN.out.keep (Ext.ik (Ext.trans E7.out (And.left (by assumption))))) hn0 hn1 (fun x hx => by have := HG.out x hx; omega) (by have := HSB.out; omega) (by omega)).mono ?_; rintro e w8 ⟨g8, rfl, hg8, hr8, hx8⟩; go_wp2_with fail; refine hK.out _ _ ?_ (fun hHeld => ?_); (first | done | skip); rotate_left; clear hK K; rotate_right; (try dsimp only); (go_split_ands; repeat' (first | with_reducible assumption | with_reducible apply And.intro | with_reducible exact Ext.refl _ | with_reducible refine Ext.setCell ?_ (by simp; omega) _ | with_reducible refine Ext.setCell ?_ (by simp) _ | with_reducible refine At.set ?_ (by omega) | with_reducible refine own1_set ?_ | with_reducible refine own2_set ?_ | with_reducible refine own3_set ?_ (by simp) | with_reducible refine Ext.drew ?_ | with_reducible refine At.drew ?_ | with_reducible refine own1_drew ?_ | with_reducible refine Ext.alloc ?_ _ | with_reducible refine At.alloc ?_ (by simp) | with_reducible refine own1_alloc ?_ | with_reducible refine cell_alloc ?_ | with_reducible refine cell_drew ?_ | with_reducible refine own2_drew ?_ | with_reducible refine own3_drew ?_ | with_reducible refine own2_alloc (by first | omega | (simp; omega)) ?_ | with_reducible refine own3_alloc (by first | omega | (simp; omega)) ?_ | with_reducible refine cell_set ?_ (by omega) | with_reducible exact Ext.trans' (by assumption) (by assumption) | with_reducible exact At.ext (by assumption) (by assumption) (by simp) | with_reducible exact Ext.cell (by assumption) (by assumption) | exact (Own.ext (by assumption) ⟨by assumption, by assumption, by assumption⟩ (by simp)).1 | exact (Own.ext (by assumption) ⟨by assumption, by assumption, by assumption⟩ (by simp)).2.1 | exact (Own.ext (by assumption) ⟨by assumption, by assumption, by assumption⟩ (by simp)).2.2)); (try simp only [Act.put, List.setIfInBounds_toArray, List.set_cons_zero, List.set_cons_succ])
                refine consL (i := 13) (by kernel_rfl) rfl (fun K hK => ?_); go_simp; go_at_call 16; refine (same_c _ _ ln ln ln (largestF nk L) _ (Ints.keep HRA.out (Ext.ik (And.left (by assumption)))) (Ints.keep (hr8.ints HLL.out (by omega) HL64.out) (by repeat' (first | with_reducible exact IK.refl _ | with_reducible refine IK.setCell ?_ (by intro k n; go_simp) _ | with_reducible refine IK.alloc ?_ _ | with_reducible refine IK.drew ?_ | with_reducible refine IK.trans ?_ (Ext.ik (by assumption)))))).mono ?_; rintro e w9 ⟨rfl, hx9⟩; go_wp2_with fail; refine hK.out _ _ ?_ (fun hHeld => ?_); (first | done | skip); rotate_left; clear hK K; rotate_right; (try dsimp only); (go_split_ands; repeat' (first | with_reducible assumption | with_reducible apply And.intro | with_reducible exact Ext.refl _ | with_reducible refine Ext.setCell ?_ (by simp; omega) _ | with_reducible refine Ext.setCell ?_ (by simp) _ | with_reducible refine At.set ?_ (by omega) | with_reducible refine own1_set ?_ | with_reducible refine own2_set ?_ | with_reducible refine own3_set ?_ (by simp) | with_reducible refine Ext.drew ?_ | with_reducible refine At.drew ?_ | with_reducible refine own1_drew ?_ | with_reducible refine Ext.alloc ?_ _ | with_reducible refine At.alloc ?_ (by simp) | with_reducible refine own1_alloc ?_ | with_reducible refine cell_alloc ?_ | with_reducible refine cell_drew ?_ | with_reducible refine own2_drew ?_ | with_reducible refine own3_drew ?_ | with_reducible refine own2_alloc (by first | omega | (simp; omega)) ?_ | with_reducible refine own3_alloc (by first | omega | (simp; omega)) ?_ | with_reducible refine cell_set ?_ (by omega) | with_reducible exact Ext.trans' (by assumption) (by assumption) | with_reducible exact At.ext (by assumption) (by assumption) (by simp) | with_reducible exact Ext.cell (by assumption) (by assumption) | exact (Own.ext (by assumption) ⟨by assumption, by assumption, by assumption⟩ (by simp)).1 | exact (Own.ext (by assumption) ⟨by assumption, by assumption, by assumption⟩ (by simp)).2.1 | exact (Own.ext (by assumption) ⟨by assumption, by assumption, by assumption⟩ (by simp)).2.2)); (try simp only [Act.put, List.setIfInBounds_toArray, List.set_cons_zero, List.set_cons_succ])
                refine takeL (i := 14) (v := ?_) rfl (by kernel_rfl) (by kernel_rfl) (by kernel_rfl) (fun _ _ _ h => h) (Or.inl ⟨by rfl, ?_⟩) (by assumption) ?_; rotate_left; (focus (intro wq hSw; (try dsimp only at hSw); go_simp; try with_reducible rfl)); (try simp only [Act.put, List.setIfInBounds_toArray, List.set_cons_zero, List.set_cons_succ])
                refine takeL (i := 15) (v := ?_) rfl (by kernel_rfl) (by kernel_rfl) (by kernel_rfl) (fun _ _ _ h => h) (Or.inl ⟨by rfl, ?_⟩) (by assumption) ?_; rotate_left; (focus (intro wq hSw; (try dsimp only at hSw); go_simp; try with_reducible rfl)); (try simp only [Act.put, List.setIfInBounds_toArray, List.set_cons_zero, List.set_cons_succ])
                refine takeL (i := 16) (v := ?_) rfl (by kernel_rfl) (by kernel_rfl) (by kernel_rfl) (fun _ _ _ h => h) (Or.inl ⟨by rfl, ?_⟩) (by assumption) ?_; rotate_left; (focus (intro wq hSw; (try dsimp only at hSw); go_simp; try with_reducible rfl)); (try simp only [Act.put, List.setIfInBounds_toArray, List.set_cons_zero, List.set_cons_succ])
                refine takeL (i := 17) (v := ?_) rfl (by kernel_rfl) (by kernel_rfl) (by kernel_rfl) (fun _ _ _ h => h) (Or.inl ⟨by rfl, ?_⟩) (by assumption) ?_; rotate_left; (focus (intro wq hSw; (try dsimp only at hSw); go_simp; try with_reducible rfl)); (try simp only [Act.put, List.setIfInBounds_toArray, List.set_cons_zero, List.set_cons_succ])
                refine takeL (i := 18) (v := ?_) rfl (by kernel_rfl) (by kernel_rfl) (by kernel_rfl) (fun _ _ _ h => h) (Or.inl ⟨by rfl, ?_⟩) (by assumption) ?_; rotate_left; (focus (intro wq hSw; (try dsimp only at hSw); go_simp; try with_reducible rfl)); (try simp only [Act.put, List.setIfInBounds_toArray, List.set_cons_zero, List.set_cons_succ])
                refine takeL (i := 19) (v := ?_) rfl (by kernel_rfl) (by kernel_rfl) (by kernel_rfl) (fun _ _ _ h => h) (Or.inl ⟨by rfl, ?_⟩) (by assumption) ?_; rotate_left; (focus (intro wq hSw; (try dsimp only at hSw); go_simp; try with_reducible rfl)); (try simp only [Act.put, List.setIfInBounds_toArray, List.set_cons_zero, List.set_cons_succ])
                refine takeL (i := 20) (v := ?_) rfl (by kernel_rfl) (by kernel_rfl) (by kernel_rfl) (fun _ _ _ h => h) (Or.inl ⟨by rfl, ?_⟩) (by assumption) ?_; rotate_left; (focus (intro wq hSw; (try dsimp only at hSw); go_simp; try with_reducible rfl)); (try simp only [Act.put, List.setIfInBounds_toArray, List.set_cons_zero, List.set_cons_succ])
                refine takeL (i := 21) (v := ?_) rfl (by kernel_rfl) (by kernel_rfl) (by kernel_rfl) (fun _ _ _ h => h) (Or.inl ⟨by rfl, ?_⟩) (by assumption) ?_; rotate_left; (focus (intro wq hSw; (try dsimp only at hSw); go_simp; try with_reducible rfl)); (try simp only [Act.put, List.setIfInBounds_toArray, List.set_cons_zero, List.set_cons_succ])
                refine takeL (i := 22) (v := ?_) rfl (by kernel_rfl) (by kernel_rfl) (by kernel_rfl) (fun _ _ _ h => h) (Or.inl ⟨by rfl, ?_⟩) (by assumption) ?_; rotate_left; (focus (intro wq hSw; (try dsimp only at hSw); go_simp; try with_reducible rfl)); (try simp only [Act.put, List.setIfInBounds_toArray, List.set_cons_zero, List.set_cons_succ])
                refine takeL (i := 23) (v := ?_) rfl (by kernel_rfl) (by kernel_rfl) (by kernel_rfl) (fun _ _ _ h => h) (Or.inl ⟨by rfl, ?_⟩) (by assumption) ?_; rotate_left; (focus (intro wq hSw; (try dsimp only at hSw); go_simp; try with_reducible rfl)); (try simp only [Act.put, List.setIfInBounds_toArray, List.set_cons_zero, List.set_cons_succ])
                refine takeL (i := 24) (v := ?_) rfl (by kernel_rfl) (by kernel_rfl) (by kernel_rfl) (fun _ _ _ h => h) (Or.inl ⟨by rfl, ?_⟩) (by assumption) ?_; rotate_left; (focus (intro wq hSw; (try dsimp only at hSw); go_simp; try with_reducible rfl)); (try simp only [Act.put, List.setIfInBounds_toArray, List.set_cons_zero, List.set_cons_succ])
                refine takeL (i := 25) (v := ?_) rfl (by kernel_rfl) (by kernel_rfl) (by kernel_rfl) (fun _ _ _ h => h) (Or.inl ⟨by rfl, ?_⟩) (by assumption) ?_; rotate_left; (focus (intro wq hSw; (try dsimp only at hSw); go_simp; try with_reducible rfl)); (try simp only [Act.put, List.setIfInBounds_toArray, List.set_cons_zero, List.set_cons_succ])
                refine takeL (i := 26) (v := ?_) rfl (by kernel_rfl) (by kernel_rfl) (by kernel_rfl) (fun _ _ _ h => h) (Or.inl ⟨by rfl, ?_⟩) (by assumption) ?_; rotate_left; (focus (intro wq hSw; (try dsimp only at hSw); go_simp; try with_reducible rfl)); (try simp only [Act.put, List.setIfInBounds_toArray, List.set_cons_zero, List.set_cons_succ])
                refine takeL (i := 27) (v := ?_) rfl (by kernel_rfl) (by kernel_rfl) (by kernel_rfl) (fun _ _ _ h => h) (Or.inl ⟨by rfl, ?_⟩) (by assumption) ?_; rotate_left; (focus (intro wq hSw; (try dsimp only at hSw); go_simp; try with_reducible rfl)); (try simp only [Act.put, List.setIfInBounds_toArray, List.set_cons_zero, List.set_cons_succ])
                refine takeL (i := 28) (v := ?_) rfl (by kernel_rfl) (by kernel_rfl) (by kernel_rfl) (fun _ _ _ h => h) (Or.inl ⟨by rfl, ?_⟩) (by assumption) ?_; rotate_left; (focus (intro wq hSw; (try dsimp only at hSw); go_simp; try with_reducible rfl)); (try simp only [Act.put, List.setIfInBounds_toArray, List.set_cons_zero, List.set_cons_succ])
                refine consL (i := 29) (by kernel_rfl) rfl (fun K hK => ?_); go_simp; go_at_call 18; refine (rhighest_z nk la ln lc L _ (HIN.out.keep (Ext.ik (Ext.trans E7.out (And.left (by assumption))))) HER.out (by omega)).mono ?_; rintro e w10 ⟨g10, rfl, hg10, hr10, hx10⟩; go_wp2_with fail; refine hK.out _ _ ?_ (fun hHeld => ?_); (first | done | skip); rotate_left; clear hK K; rotate_right; (try dsimp only); (go_split_ands; repeat' (first | with_reducible assumption | with_reducible apply And.intro | with_reducible exact Ext.refl _ | with_reducible refine Ext.setCell ?_ (by simp; omega) _ | with_reducible refine Ext.setCell ?_ (by simp) _ | with_reducible refine At.set ?_ (by omega) | with_reducible refine own1_set ?_ | with_reducible refine own2_set ?_ | with_reducible refine own3_set ?_ (by simp) | with_reducible refine Ext.drew ?_ | with_reducible refine At.drew ?_ | with_reducible refine own1_drew ?_ | with_reducible refine Ext.alloc ?_ _ | with_reducible refine At.alloc ?_ (by simp) | with_reducible refine own1_alloc ?_ | with_reducible refine cell_alloc ?_ | with_reducible refine cell_drew ?_ | with_reducible refine own2_drew ?_ | with_reducible refine own3_drew ?_ | with_reducible refine own2_alloc (by first | omega | (simp; omega)) ?_ | with_reducible refine own3_alloc (by first | omega | (simp; omega)) ?_ | with_reducible refine cell_set ?_ (by omega) | with_reducible exact Ext.trans' (by assumption) (by assumption) | with_reducible exact At.ext (by assumption) (by assumption) (by simp) | with_reducible exact Ext.cell (by assumption) (by assumption) | exact (Own.ext (by assumption) ⟨by assumption, by assumption, by assumption⟩ (by simp)).1 | exact (Own.ext (by assumption) ⟨by assumption, by assumption, by assumption⟩ (by simp)).2.1 | exact (Own.ext (by assumption) ⟨by assumption, by assumption, by assumption⟩ (by simp)).2.2)); (try simp only [Act.put, List.setIfInBounds_toArray, List.set_cons_zero, List.set_cons_succ])
                refine consL (i := 30) (by kernel_rfl) rfl (fun K hK => ?_); go_simp; go_at_call 16; refine (same_c _ _ ln ln ln (highN L nk.toNat) _ (Ints.keep HRB.out (Ext.ik (And.left (by assumption)))) (Ints.keep (hr10.ints HHL.out (by omega) HH64.out) (by repeat' (first | with_reducible exact IK.refl _ | with_reducible refine IK.setCell ?_ (by intro k n; go_simp) _ | with_reducible refine IK.alloc ?_ _ | with_reducible refine IK.drew ?_ | with_reducible refine IK.trans ?_ (Ext.ik (by assumption)))))).mono ?_; rintro e w11 ⟨rfl, hx11⟩; go_wp2_with fail; refine hK.out _ _ ?_ (fun hHeld => ?_); (first | done | skip); rotate_left; clear hK K; rotate_right; (try dsimp only); (go_split_ands; repeat' (first | with_reducible assumption | with_reducible apply And.intro | with_reducible exact Ext.refl _ | with_reducible refine Ext.setCell ?_ (by simp; omega) _ | with_reducible refine Ext.setCell ?_ (by simp) _ | with_reducible refine At.set ?_ (by omega) | with_reducible refine own1_set ?_ | with_reducible refine own2_set ?_ | with_reducible refine own3_set ?_ (by simp) | with_reducible refine Ext.drew ?_ | with_reducible refine At.drew ?_ | with_reducible refine own1_drew ?_ | with_reducible refine Ext.alloc ?_ _ | with_reducible refine At.alloc ?_ (by simp) | with_reducible refine own1_alloc ?_ | with_reducible refine cell_alloc ?_ | with_reducible refine cell_drew ?_ | with_reducible refine own2_drew ?_ | with_reducible refine own3_drew ?_ | with_reducible refine own2_alloc (by first | omega | (simp; omega)) ?_ | with_reducible refine own3_alloc (by first | omega | (simp; omega)) ?_ | with_reducible refine cell_set ?_ (by omega) | with_reducible exact Ext.trans' (by assumption) (by assumption) | with_reducible exact At.ext (by assumption) (by assumption) (by simp) | with_reducible exact Ext.cell (by assumption) (by assumption) | exact (Own.ext (by assumption) ⟨by assumption, by assumption, by assumption⟩ (by simp)).1 | exact (Own.ext (by assumption) ⟨by assumption, by assumption, by assumption⟩ (by simp)).2.1 | exact (Own.ext (by assumption) ⟨by assumption, by assumption, by assumption⟩ (by simp)).2.2)); (try simp only [Act.put, List.setIfInBounds_toArray, List.set_cons_zero, List.set_cons_succ])
                refine takeL (i := 31) (v := ?_) rfl (by kernel_rfl) (by kernel_rfl) (by kernel_rfl) (fun _ _ _ h => h) (Or.inl ⟨by rfl, ?_⟩) (by assumption) ?_; rotate_left; (focus (intro wq hSw; (try dsimp only at hSw); go_simp; try with_reducible rfl)); (try simp only [Act.put, List.setIfInBounds_toArray, List.set_cons_zero, List.set_cons_succ])
                refine takeL (i := 32) (v := ?_) rfl (by kernel_rfl) (by kernel_rfl) (by kernel_rfl) (fun _ _ _ h => h) (Or.inl ⟨by rfl, ?_⟩) (by assumption) ?_; rotate_left; (focus (intro wq hSw; (try dsimp only at hSw); go_simp; try with_reducible rfl)); (try simp only [Act.put, List.setIfInBounds_toArray, List.set_cons_zero, List.set_cons_succ])
                refine takeL (i := 33) (v := ?_) rfl (by kernel_rfl) (by kernel_rfl) (by kernel_rfl) (fun _ _ _ h => h) (Or.inl ⟨by rfl, ?_⟩) (by assumption) ?_; rotate_left; (focus (intro wq hSw; (try dsimp only at hSw); go_simp; try with_reducible rfl)); (try simp only [Act.put, List.setIfInBounds_toArray, List.set_cons_zero, List.set_cons_succ])
                refine doneL (by kernel_rfl) ?_
                have EE := E7.out.trans (And.left hHeld)
                clear hHeld
                have HEE := Lib.hid EE; clear EE
                go_wp2_with fail
                go_roundw
                case rel => exact ⟨k + 1, by omega, by go_num, HK.out.1.trans (HEE.out), HK.out.2.1.ext (HEE.out), HK.out.2.2.ext (HEE.out)⟩
                case measure => simp [intOf]; omega
            · go_upto_region 13 with (fail)
              go_region_held3 (fun w' => Ext wr w' ∧ w'.cell? ⟨ub, k, none⟩ = some (.int .i64 nk) ∧ w'.cell? ⟨lb, i, none⟩ = some (.slice la ln lc)) (first | exact ⟨E0.drew, cu, hc⟩ | (go_split_ands; repeat' (first | with_reducible assumption | with_reducible apply And.intro | with_reducible exact Ext.refl _ | with_reducible refine Ext.setCell ?_ (by simp; omega) _ | with_reducible refine Ext.setCell ?_ (by simp) _ | with_reducible refine At.set ?_ (by omega) | with_reducible refine own1_set ?_ | with_reducible refine own2_set ?_ | with_reducible refine own3_set ?_ (by simp) | with_reducible refine Ext.drew ?_ | with_reducible refine At.drew ?_ | with_reducible refine own1_drew ?_ | with_reducible refine Ext.alloc ?_ _ | with_reducible refine At.alloc ?_ (by simp) | with_reducible refine own1_alloc ?_ | with_reducible refine cell_alloc ?_ | with_reducible refine cell_drew ?_ | with_reducible refine own2_drew ?_ | with_reducible refine own3_drew ?_ | with_reducible refine own2_alloc (by first | omega | (simp; omega)) ?_ | with_reducible refine own3_alloc (by first | omega | (simp; omega)) ?_ | with_reducible refine cell_set ?_ (by omega) | with_reducible exact Ext.trans' (by assumption) (by assumption) | with_reducible exact At.ext (by assumption) (by assumption) (by simp) | with_reducible exact Ext.cell (by assumption) (by assumption) | exact (Own.ext (by assumption) ⟨by assumption, by assumption, by assumption⟩ (by simp)).1 | exact (Own.ext (by assumption) ⟨by assumption, by assumption, by assumption⟩ (by simp)).2.1 | exact (Own.ext (by assumption) ⟨by assumption, by assumption, by assumption⟩ (by simp)).2.2))) ((go_at_call 13; refine (rerror_c nk la ln lc L 1 _ (HIN.out.keep (Ext.ik (And.left (by assumption)))) (by omega)).mono ?_; rw [HER.out]; rintro e w5 ⟨rfl, hx5⟩)); clear E0 cu hc; obtain ⟨E0, cu, hc⟩ : Ext wr w5 ∧ w5.cell? ⟨ub, k, none⟩ = some (.int .i64 nk) ∧ w5.cell? ⟨lb, i, none⟩ = some (.slice la ln lc) := (by assumption); clear hx5
              have HHE := Lib.hid (highErr_bad HER.out h0)
              go_upto_region 14 with (fail)
              go_region_held3 (fun w' => Ext wr w' ∧ w'.cell? ⟨ub, k, none⟩ = some (.int .i64 nk) ∧ w'.cell? ⟨lb, i, none⟩ = some (.slice la ln lc)) (first | exact ⟨E0.drew, cu, hc⟩ | (go_split_ands; repeat' (first | with_reducible assumption | with_reducible apply And.intro | with_reducible exact Ext.refl _ | with_reducible refine Ext.setCell ?_ (by simp; omega) _ | with_reducible refine Ext.setCell ?_ (by simp) _ | with_reducible refine At.set ?_ (by omega) | with_reducible refine own1_set ?_ | with_reducible refine own2_set ?_ | with_reducible refine own3_set ?_ (by simp) | with_reducible refine Ext.drew ?_ | with_reducible refine At.drew ?_ | with_reducible refine own1_drew ?_ | with_reducible refine Ext.alloc ?_ _ | with_reducible refine At.alloc ?_ (by simp) | with_reducible refine own1_alloc ?_ | with_reducible refine cell_alloc ?_ | with_reducible refine cell_drew ?_ | with_reducible refine own2_drew ?_ | with_reducible refine own3_drew ?_ | with_reducible refine own2_alloc (by first | omega | (simp; omega)) ?_ | with_reducible refine own3_alloc (by first | omega | (simp; omega)) ?_ | with_reducible refine cell_set ?_ (by omega) | with_reducible exact Ext.trans' (by assumption) (by assumption) | with_reducible exact At.ext (by assumption) (by assumption) (by simp) | with_reducible exact Ext.cell (by assumption) (by assumption) | exact (Own.ext (by assumption) ⟨by assumption, by assumption, by assumption⟩ (by simp)).1 | exact (Own.ext (by assumption) ⟨by assumption, by assumption, by assumption⟩ (by simp)).2.1 | exact (Own.ext (by assumption) ⟨by assumption, by assumption, by assumption⟩ (by simp)).2.2))) ((go_at_call 14; refine (Largest_c nk la ln lc L _ (HIN.out.keep (Ext.ik (And.left (by assumption)))) (.inl (by omega)) (by omega)).mono ?_; rw [HER.out]; intro e w6 hd; (obtain ⟨hx5, rfl⟩ := hd.bad h0; clear hd))); clear E0 cu hc; obtain ⟨E0, cu, hc⟩ : Ext wr w6 ∧ w6.cell? ⟨ub, k, none⟩ = some (.int .i64 nk) ∧ w6.cell? ⟨lb, i, none⟩ = some (.slice la ln lc) := (by assumption); clear hx5
              have E1 : Ext w6 w6 := Ext.refl w6
              go_upto_region 15 with (fail)
              go_region_held3 (fun w' => Ext w6 w' ∧ w'.cell? ⟨ub, k, none⟩ = some (.int .i64 nk) ∧ w'.cell? ⟨lb, i, none⟩ = some (.slice la ln lc)) (first | exact ⟨E1.drew, cu, hc⟩ | (go_split_ands; repeat' (first | with_reducible assumption | with_reducible apply And.intro | with_reducible exact Ext.refl _ | with_reducible refine Ext.setCell ?_ (by simp; omega) _ | with_reducible refine Ext.setCell ?_ (by simp) _ | with_reducible refine At.set ?_ (by omega) | with_reducible refine own1_set ?_ | with_reducible refine own2_set ?_ | with_reducible refine own3_set ?_ (by simp) | with_reducible refine Ext.drew ?_ | with_reducible refine At.drew ?_ | with_reducible refine own1_drew ?_ | with_reducible refine Ext.alloc ?_ _ | with_reducible refine At.alloc ?_ (by simp) | with_reducible refine own1_alloc ?_ | with_reducible refine cell_alloc ?_ | with_reducible refine cell_drew ?_ | with_reducible refine own2_drew ?_ | with_reducible refine own3_drew ?_ | with_reducible refine own2_alloc (by first | omega | (simp; omega)) ?_ | with_reducible refine own3_alloc (by first | omega | (simp; omega)) ?_ | with_reducible refine cell_set ?_ (by omega) | with_reducible exact Ext.trans' (by assumption) (by assumption) | with_reducible exact At.ext (by assumption) (by assumption) (by simp) | with_reducible exact Ext.cell (by assumption) (by assumption) | exact (Own.ext (by assumption) ⟨by assumption, by assumption, by assumption⟩ (by simp)).1 | exact (Own.ext (by assumption) ⟨by assumption, by assumption, by assumption⟩ (by simp)).2.1 | exact (Own.ext (by assumption) ⟨by assumption, by assumption, by assumption⟩ (by simp)).2.2))) ((go_at_call 15; refine (Highest_c nk la ln lc L _ (HIN.out.keep (Ext.ik (Ext.trans E0 (And.left (by assumption))))) (by omega)).mono ?_; rw [HHE.out]; intro e w7 hd; (obtain ⟨hx5, rfl⟩ := hd.bad h0; clear hd))); clear E1 cu hc; obtain ⟨E1, cu, hc⟩ : Ext w6 w7 ∧ w7.cell? ⟨ub, k, none⟩ = some (.int .i64 nk) ∧ w7.cell? ⟨lb, i, none⟩ = some (.slice la ln lc) := (by assumption); clear hx5
              have E7 := Lib.hid (E0.trans E1)
              clear E1 E0
              go_upto_region 22 with (fail)
              go_quiet (fail)
              have HEE := Lib.hid (E7.out.drewN nq); clear E7
              go_wp2_with fail
              go_roundw
              case rel => exact ⟨k + 1, by omega, by go_num, HK.out.1.trans (HEE.out), HK.out.2.1.ext (HEE.out), HK.out.2.2.ext (HEE.out)⟩
              case measure => simp [intOf]; omega
          · obtain rfl : k = 5 := by omega
            have HR := Lib.hid (And.intro hE (And.intro hGr hU)); clear hE hGr hU
            go_wp2_with fail
            go_roundw
            case rel => exact ⟨i + 1, by omega, by go_num, HR.out⟩
            case measure => simp [intOf]; omega
      · obtain rfl : i = 4 := by omega
        go_wp2_with fail
        refine (lives27_c _).mono ?_
        rintro e w9 ⟨rfl, hx⟩
        have HX := Lib.hid (HS.out.1.trans hx); clear hx
        go_wp2_with fail
        go_ret
        exact ⟨rfl, HX.out⟩
end Go.Proofs.Ytlnmgcmpbbklhaa
