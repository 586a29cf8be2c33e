/- meresmanref27: Check. -/
import Derived.Test.YtlnmgcmpbbklhaaS18
namespace Go.Proofs.Ytlnmgcmpbbklhaa
set_option linter.unusedSimpArgs false
set_option linter.unusedVariables false
open Go.RowKit

theorem outF_cases (q x : Int) : (x < 0 ∧ outF q x = true) ∨ (¬ x < 0 ∧ q < x ∧ outF q x = true) ∨ (¬ x < 0 ∧ ¬ q < x ∧ outF q x = false) := by
  unfold outF
  by_cases h1 : x < 0
  · left; exact ⟨h1, by simp [h1]⟩
  · by_cases h2 : q < x
    · right; left; exact ⟨h1, h2, by simp [h2]⟩
    · right; right; exact ⟨h1, h2, by simp; omega⟩
theorem offs_zero {l ps : List Int} (h : ∀ x, x ∈ ps → 0 ≤ x ∧ x ≤ (0 : Int)) (i : Nat) (hi : i ≤ ps.length) : offs 0 l ps i = false := by
  unfold offs
  refine List.any_eq_false.2 fun j hj => ?_
  have h1 := h _ (getD_mem (l := ps) (i := j) (by have := List.mem_range.1 hj; omega))
  have h2 : ps.getD j 0 = 0 := by omega
  rw [h2]
  simp [offF]
theorem any_take_succ (p : Int → Bool) (l : List Int) (i : Nat) (hi : i < l.length) : (l.take (i + 1)).any p = ((l.take i).any p || p (l.getD i 0)) := by
  rw [List.take_succ_eq_append_getElem hi, List.any_append]; simp [List.getD_eq_getElem?_getD, hi]
theorem any_take_mono (p : Int → Bool) (l : List Int) (i : Nat) (h : (l.take i).any p = true) : l.any p = true := by
  obtain ⟨x, hx, h2⟩ := List.any_eq_true.1 h
  exact List.any_eq_true.2 ⟨x, List.mem_of_mem_take hx, h2⟩
set_option maxRecDepth 100000 in
set_option maxHeartbeats 4000000 in
theorem rCheck_c (n : Int) (a : Option Addr) (m c : Nat) (l : List Int) (a2 : Option Addr) (m2 d : Nat) (ps : List Int) (w : World) (h : Ints w a m l) (h2 : Ints w a2 m2 ps) (hm : m ≤ 19) :
    Calls Try.prog 26 #[.int .i64 n, .slice a m c, .slice a2 m2 d] w fun e w' => e = .returned (.int .i64 (checkF n l ps)) ∧ Ext w w' := by
  have H := Lib.hid h; have H2 := Lib.hid h2
  have hlen := h.1
  have hlen2 := h2.1
  have HF := Lib.hid (checkF.eq_1 n l ps)
  clear h h2
  go_enter Try.func26, Try.ntmps26
  go_wp2_with fail
  refine (rerror_c n a m c l 1 _ H.out (by omega)).mono ?_
  rintro e w2 ⟨rfl, hx⟩
  have HE := Lib.hid hx; clear hx
  by_cases h0 : errF n l 1 = 0
  · have hok := errF_ok h0
    have hal := al_bd h0 (by omega)
    have hxl := fun x hx => all_lt h0 (x := x) hx
    have hgl := good_of_any hok.2.2.1
    rw [h0] at HF
    have hn0 := hok.1
    have hn1 := hok.2.1
    have hpos := hok.2.2.2.1
    have hsn := sum_bd l hgl
    have HXL := Lib.hid hxl; have HGL := Lib.hid hgl
    rw [h0]
    clear hok hxl hgl
    have hof := offs_succ n l ps
    have hom := offs_mono n l ps
    obtain ⟨s, hs⟩ : ∃ s, sumI l = s := ⟨_, rfl⟩
    rw [hs] at hal hpos hsn
    simp only [hs] at hof
    have hxl2 := HXL.out
    simp only [hs] at hxl2
    have HXL2 := Lib.hid hxl2
    have HOF := Lib.hid hof; have HOM := Lib.hid hom; have HS := Lib.hid hs
    have HPOS := Lib.hid hpos
    clear hof hom hs hxl2 hpos
    rw [if_neg (by simp)] at HF
    by_cases hml : m2 = m
    · subst hml
      rw [if_neg (by omega)] at HF
      go_wp2_with fail
      go_loopw [8] (fun v ws => ∃ i : Nat, i ≤ m2 ∧ v = .int .i64 (i : Int) ∧ (ps.take i).any (outF n) = false ∧ Ext w ws) (fun v _ => m2 - (intOf v).toNat)
      case atStart => exact ⟨0, by omega, rfl, by simp, HE.out⟩
      case round =>
        obtain ⟨i, hi, rfl, hz, hE⟩ := hrel
        have HZ := Lib.hid hz; have HEr := Lib.hid hE
        by_cases hlt : i < m2
        · have t0 : (i : Int) < (m2 : Int) := by omega
          have t1 : (0 : Int) ≤ (i : Int) := by omega
          obtain ⟨b2, off2, rfl, hb2, hc2⟩ := (H2.out.keep hE.ik).at i hlt
          have hts := any_take_succ (outF n) ps i (by omega)
          have hmo := any_take_mono (outF n) ps (i + 1)
          have hca := outF_cases n (ps.getD i 0)
          generalize ps.getD i 0 = p at *
          rw [hz] at hts
          have HTS := Lib.hid hts; have HMO := Lib.hid hmo
          clear hts hmo hz hE
          rcases hca with ⟨k1, hf⟩ | ⟨k1, k2, hf⟩ | ⟨k1, k2, hf⟩
          · rw [if_pos (HMO.out (by rw [HTS.out, hf]; rfl))] at HF
            clear hf
            go_wp2_with fail
            go_ret
            exact ⟨by rw [HF.out]; rfl, HEr.out⟩
          · rw [if_pos (HMO.out (by rw [HTS.out, hf]; rfl))] at HF
            clear hf
            go_wp2_with fail
            go_ret
            exact ⟨by rw [HF.out]; rfl, HEr.out⟩
          · have HGD := Lib.hid (show (ps.take (i + 1)).any (outF n) = false by rw [HTS.out, hf]; rfl)
            clear hf
            go_wp2_with fail
            go_roundw
            case rel => exact ⟨i + 1, by omega, by go_num, HGD.out, HEr.out⟩
            case measure => simp [intOf]; omega
        · obtain rfl : m2 = i := by omega
          rw [List.take_of_length_le (by omega)] at hz
          rw [hz, if_neg (by simp)] at HF
          have hpb := any_bd hz
          have hsm := sum_small hpb hn1 (by omega)
          have HPB := Lib.hid hpb; have HSM := Lib.hid hsm
          obtain ⟨sp, hsp⟩ : ∃ x, sumI ps = x := ⟨_, rfl⟩
          rw [hsp] at HF
          have HSP := Lib.hid hsp
          clear hpb hsm hz hsp HZ
          go_wp2_with fail
          refine (rsum_c a2 m2 d ps _ (H2.out.keep HEr.out.ik) HSM.out).mono ?_
          rw [HSP.out]
          rintro e w4 ⟨rfl, hx4⟩
          have HE4 := Lib.hid (HEr.out.trans hx4)
          clear hx4 hE HEr
          by_cases hsn2 : n = sp
          · subst hsn2
            rw [if_neg (by simp)] at HF
            go_wp2_with fail
            by_cases hnz : n = 0
            · subst hnz
              rw [offs_zero HPB.out l.length (by omega), if_neg (by simp)] at HF
              go_upto_region 14 with (fail)
              go_loopw [9] (fun v ws => v = .int .i64 0 ∧ Ext w ws) (fun v _ => 0)
              case atStart => exact ⟨rfl, HE4.out⟩
              case round =>
                obtain ⟨rfl, hE⟩ := hrel
                have HE5 := Lib.hid hE; clear hE
                go_wp2_with fail
                all_goals
                  go_ret
                  exact ⟨by rw [HF.out]; rfl, HE5.out⟩
            · have hnp : 0 < n := by omega
              have hs1 : 1 < s ∨ s = 1 := by have := HPOS.out hnz; omega
              have hale : (if 1 < s then s else 1) = s := by split <;> omega
              have hxl3 := HXL2.out
              have hof3 := HOF.out
              simp only [hale] at hxl3 hof3
              rw [hale] at hal
              obtain ⟨hal1, hal2⟩ := hal
              have HXL3 := Lib.hid hxl3; have HOF3 := Lib.hid hof3
              clear hale hs1 hxl3 hof3
              go_upto_region 14 with (fail)
              go_loopw [9] (fun v ws => ∃ i : Nat, i ≤ m2 ∧ v = .int .i64 (i : Int) ∧ offs n l ps i = false ∧ Ext w ws) (fun v _ => m2 - (intOf v).toNat)
              case atStart => exact ⟨0, by omega, rfl, rfl, HE4.out⟩
              case round =>
                obtain ⟨i, hi, rfl, hz, hE⟩ := hrel
                have HZ := Lib.hid hz; have HEr := Lib.hid hE
                clear hz
                by_cases hlt : i < m2
                · have t0 : (i : Int) < (m2 : Int) := by omega
                  have t1 : (0 : Int) ≤ (i : Int) := by omega
                  obtain ⟨b, off, rfl, hb, hc⟩ := (H.out.keep hE.ik).at i hlt
                  obtain ⟨b2, off2, rfl, hb2, hc2⟩ := (H2.out.keep hE.ik).at i hlt
                  have hx := HXL3.out _ (getD_mem (l := l) (i := i) (by omega))
                  have hp := HPB.out _ (getD_mem (l := ps) (i := i) (by omega))
                  have hof := HOF3.out i
                  generalize l.getD i 0 = x at *
                  generalize ps.getD i 0 = p at *
                  have hqb := quo_bd (n := n) (x := x) (all := s) hn0 hx.1 hx.2 hal1
                  have hr0 := Int.emod_nonneg (n * x) (show s ≠ 0 by omega)
                  have hr1 := Int.emod_lt_of_pos (n * x) (show 0 < s by omega)
                  obtain ⟨q, hq⟩ : ∃ q, n * x / s = q := ⟨_, rfl⟩
                  obtain ⟨r, hr⟩ : ∃ r, n * x % s = r := ⟨_, rfl⟩
                  have hca := offF_cases n s x p q r hq hr (by omega)
                  rw [hq] at hqb
                  rw [hr] at hr0 hr1
                  have HQ := Lib.hid hq; have HR := Lib.hid hr; have HOF1 := Lib.hid hof; have HC2 := Lib.hid hc2
                  clear hq hr hof hE hc2
                  have E0 : Ext wr wr := Ext.refl _
                  have e1 : IntKind.i64.wrap (q + 1) = q + 1 := IntWalk.i64_in _ (by omega)
                  go_upto_region 16 with (fail)
                  refine wp_region_held_drew (S := fun w' => Ext wr w' ∧ w'.cell? ⟨b, off + i, none⟩ = some (.int .i64 x)) (by kernel_rfl) ?_ (fun hHeld => ?_)
                  · exact ⟨E0.drew, hc⟩
                  refine takeL (i := 0) (v := ?_) rfl (by kernel_rfl) (by kernel_rfl) (by kernel_rfl) (fun _ _ _ h => h) (Or.inl ⟨by rfl, ?_⟩) (by assumption) ?_; rotate_left; (focus (intro wq hSw; (try dsimp only at hSw); go_simp; try with_reducible rfl)); (try simp only [Act.put, List.setIfInBounds_toArray, List.set_cons_zero, List.set_cons_succ])
                  refine takeL (i := 1) (v := ?_) rfl (by kernel_rfl) (by kernel_rfl) (by kernel_rfl) (fun _ _ _ h => h) (Or.inl ⟨by rfl, ?_⟩) (by assumption) ?_; rotate_left; (focus (intro wq hSw; (try dsimp only at hSw); go_simp; try with_reducible rfl)); (try simp only [Act.put, List.setIfInBounds_toArray, List.set_cons_zero, List.set_cons_succ])
                  refine takeL (i := 2) (v := ?_) rfl (by kernel_rfl) (by kernel_rfl) (by kernel_rfl) (fun _ _ _ h => h) (Or.inl ⟨by rfl, ?_⟩) (by assumption) ?_; rotate_left; (focus (intro wq hSw; (try dsimp only at hSw); go_simp; try with_reducible rfl)); (try simp only [Act.put, List.setIfInBounds_toArray, List.set_cons_zero, List.set_cons_succ])
                  refine takeL (i := 3) (v := ?_) rfl (by kernel_rfl) (by kernel_rfl) (by kernel_rfl) (fun _ _ _ h => h) (Or.inl ⟨by rfl, ?_⟩) (by assumption) ?_; rotate_left; (focus (intro wq hSw; (try dsimp only at hSw); go_simp; try with_reducible rfl)); (try simp only [Act.put, List.setIfInBounds_toArray, List.set_cons_zero, List.set_cons_succ])
                  refine takeL (i := 4) (v := ?_) rfl (by kernel_rfl) (by kernel_rfl) (by kernel_rfl) (fun _ _ _ h => h) (Or.inl ⟨by rfl, ?_⟩) (by assumption) ?_; rotate_left; (focus (intro wq hSw; (try dsimp only at hSw); go_simp; try with_reducible rfl)); (try simp only [Act.put, List.setIfInBounds_toArray, List.set_cons_zero, List.set_cons_succ])
                  refine takeL (i := 5) (v := ?_) rfl (by kernel_rfl) (by kernel_rfl) (by kernel_rfl) (fun _ _ _ h => h) (Or.inl ⟨by rfl, ?_⟩) (by assumption) ?_; rotate_left; (focus (intro wq hSw; (try dsimp only at hSw); go_simp; try with_reducible rfl)); (try simp only [Act.put, List.setIfInBounds_toArray, List.set_cons_zero, List.set_cons_succ])
                  refine consL (i := 6) (by kernel_rfl) rfl (fun K hK => ?_); go_simp; go_at_call 21; refine (rsum_c _ m2 c l _ (H.out.keep (Ext.ik (Ext.trans HEr.out (And.left (by assumption))))) (parts_bd HGL.out (by omega))).mono ?_; rw [HS.out]; rintro e w6 ⟨rfl, hx6⟩; go_wp2_with fail; refine hK.out _ _ ?_ (fun hHeld => ?_); rotate_left; clear hK K; rotate_right; (focus (try dsimp only); refine (fun hq => ⟨hq, Ext.cell hq hc⟩ : Ext wr _ → _) ?_; repeat' (first | with_reducible assumption | with_reducible exact And.left (by assumption) | with_reducible refine Ext.drew ?_ | with_reducible refine Ext.alloc ?_ _ | with_reducible exact Ext.trans (And.left (by assumption)) (by assumption))); (try simp only [Act.put, List.setIfInBounds_toArray, List.set_cons_zero, List.set_cons_succ])
                  refine consL (i := 7) (by kernel_rfl) rfl (fun K hK => ?_); go_simp; go_at_call 35; refine (rquota_c n x s _ hn0 hn1 hx.1 hal1 hal2 hx.2).mono ?_; rw [HQ.out, HR.out]; rintro e w7 ⟨rfl, hx7⟩; go_wp2_with fail; refine hK.out _ _ ?_ (fun hHeld => ?_); rotate_left; clear hK K; rotate_right; (focus (try dsimp only); refine (fun hq => ⟨hq, Ext.cell hq hc⟩ : Ext wr _ → _) ?_; repeat' (first | with_reducible assumption | with_reducible exact And.left (by assumption) | with_reducible refine Ext.drew ?_ | with_reducible refine Ext.alloc ?_ _ | with_reducible exact Ext.trans (And.left (by assumption)) (by assumption))); (try simp only [Act.put, List.setIfInBounds_toArray, List.set_cons_zero, List.set_cons_succ])
                  refine takeL (i := 8) (v := ?_) rfl (by kernel_rfl) (by kernel_rfl) (by kernel_rfl) (fun _ _ _ h => h) (Or.inl ⟨by rfl, ?_⟩) (by assumption) ?_; rotate_left; (focus (intro wq hSw; (try dsimp only at hSw); go_simp; try with_reducible rfl)); (try simp only [Act.put, List.setIfInBounds_toArray, List.set_cons_zero, List.set_cons_succ])
                  refine takeL (i := 9) (v := ?_) rfl (by kernel_rfl) (by kernel_rfl) (by kernel_rfl) (fun _ _ _ h => h) (Or.inl ⟨by rfl, ?_⟩) (by assumption) ?_; rotate_left; (focus (intro wq hSw; (try dsimp only at hSw); go_simp; try with_reducible rfl)); (try simp only [Act.put, List.setIfInBounds_toArray, List.set_cons_zero, List.set_cons_succ])
                  refine takeL (i := 10) (v := ?_) rfl (by kernel_rfl) (by kernel_rfl) (by kernel_rfl) (fun _ _ _ h => h) (Or.inl ⟨by rfl, ?_⟩) (by assumption) ?_; rotate_left; (focus (intro wq hSw; (try dsimp only at hSw); go_simp; try with_reducible rfl)); (try simp only [Act.put, List.setIfInBounds_toArray, List.set_cons_zero, List.set_cons_succ])
                  refine consL (i := 11) (by kernel_rfl) rfl (fun K hK => ?_); go_simp; refine hK.out _ _ ?_ (fun hHeld => ?_); rotate_left; clear hK K; rotate_right; (focus (try dsimp only); refine (fun hq => ⟨hq, Ext.cell hq hc⟩ : Ext wr _ → _) ?_; repeat' (first | with_reducible assumption | with_reducible exact And.left (by assumption) | with_reducible refine Ext.drew ?_ | with_reducible refine Ext.alloc ?_ _ | with_reducible exact Ext.trans (And.left (by assumption)) (by assumption))); (try simp only [Act.put, List.setIfInBounds_toArray, List.set_cons_zero, List.set_cons_succ])
                  refine consL (i := 12) (by kernel_rfl) rfl (fun K hK => ?_); go_simp; refine hK.out _ _ ?_ (fun hHeld => ?_); rotate_left; clear hK K; rotate_right; (focus (try dsimp only); refine (fun hq => ⟨hq, Ext.cell hq hc⟩ : Ext wr _ → _) ?_; repeat' (first | with_reducible assumption | with_reducible exact And.left (by assumption) | with_reducible refine Ext.drew ?_ | with_reducible refine Ext.alloc ?_ _ | with_reducible exact Ext.trans (And.left (by assumption)) (by assumption))); (try simp only [Act.put, List.setIfInBounds_toArray, List.set_cons_zero, List.set_cons_succ])
                  refine doneL (by kernel_rfl) ?_
                  have hc26 := (And.left hHeld).cell HC2.out
                  have HE6 := Lib.hid (HEr.out.trans (And.left hHeld))
                  clear hHeld hx6 hx7 E0 hc
                  rcases hca with ⟨k1, hf⟩ | ⟨k1, rfl, k3, hf⟩ | ⟨k1, rfl, k3, hf⟩ | ⟨k1, k2, k3, hf⟩ | ⟨k1, k2, k3, hf⟩
                  · have hbad : offs n l ps l.length = true := HOM.out (i + 1) l.length (by rw [HOF1.out]; rw [hf]; simp) (by omega); rw [if_pos hbad] at HF; clear hbad hf; go_wp2_with fail; go_ret; exact ⟨by rw [HF.out]; rfl, HE6.out⟩
                  · have hbad : offs n l ps l.length = true := HOM.out (i + 1) l.length (by rw [HOF1.out]; rw [hf]; simp) (by omega); rw [if_pos hbad] at HF; clear hbad hf; go_wp2_with fail; go_ret; exact ⟨by rw [HF.out]; rfl, HE6.out⟩
                  · have k4 : ¬ q + 1 < p := by omega
                    have HGD := Lib.hid (show offs n l ps (i + 1) = false by rw [HOF1.out, hf, HZ.out]; rfl); clear hf; go_wp2_with fail; go_roundw; (case rel => exact ⟨i + 1, by omega, by go_num, HGD.out, HE6.out⟩); (case measure => simp [intOf]; omega)
                  · have k4 : ¬ r = 0 := by omega
                    have k5 : q < p := by omega
                    have hbad : offs n l ps l.length = true := HOM.out (i + 1) l.length (by rw [HOF1.out]; rw [hf]; simp) (by omega); rw [if_pos hbad] at HF; clear hbad hf; go_wp2_with fail; go_ret; exact ⟨by rw [HF.out]; rfl, HE6.out⟩
                  · have k4 : (r == 0) = false := by rw [beq_eq_false_iff_ne]; omega
                    by_cases k5 : q < p
                    · have HGD := Lib.hid (show offs n l ps (i + 1) = false by rw [HOF1.out, hf, HZ.out]; rfl); clear hf; go_wp2_with fail; go_roundw; (case rel => exact ⟨i + 1, by omega, by go_num, HGD.out, HE6.out⟩); (case measure => simp [intOf]; omega)
                    · have HGD := Lib.hid (show offs n l ps (i + 1) = false by rw [HOF1.out, hf, HZ.out]; rfl); clear hf; go_wp2_with fail; go_roundw; (case rel => exact ⟨i + 1, by omega, by go_num, HGD.out, HE6.out⟩); (case measure => simp [intOf]; omega)
                · obtain rfl : i = m2 := by omega
                  rw [hlen, HZ.out, if_neg (by simp)] at HF
                  go_wp2_with fail
                  go_ret
                  exact ⟨by rw [HF.out]; rfl, HEr.out⟩
          · rw [if_pos (fun h => hsn2 h.symm)] at HF
            have hsn3 : ¬ sp = n := fun h => hsn2 h.symm
            go_wp2_with fail
            go_ret
            exact ⟨by rw [HF.out]; rfl, HE4.out⟩
    · rw [if_pos (by omega)] at HF
      have hml2 : ¬ ((m2 : Int) = (m : Int)) := by omega
      go_wp2_with fail
      go_ret
      exact ⟨by rw [HF.out]; rfl, HE.out⟩
  · have h0' : (errF n l 1 != 0) = true := by rw [bne_iff_ne]; exact h0
    rw [if_pos h0] at HF
    have H0 := Lib.hid h0; clear h0
    generalize errF n l 1 = er at *
    go_wp2_with fail
    go_ret
    exact ⟨by rw [HF.out]; rfl, HE.out⟩
end Go.Proofs.Ytlnmgcmpbbklhaa
