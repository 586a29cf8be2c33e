/- meresmanref30: Hide. -/
import Derived.Test.YtkoidookanmknaaV50
import Derived.BigQuiet
import Derived.Test.YtkoidookanmknaaV52
namespace Go.Proofs.Ytkoidookanmknaa
set_option linter.unusedSimpArgs false
set_option linter.unusedVariables false
open Go.RowKit

def HidePost (w : World) (n lim : Int) (m : Nat) (Ls : List (List Int)) (zs : List Int) (e : Ending) (w' : World) : Prop :=
  (hideE n Ls zs lim ≠ 0 ∧ e = .returned (.tuple #[.slice none 0 0, .int .i64 (hideE n Ls zs lim)]) ∧ Ext w w') ∨
      (hideE n Ls zs lim = 0 ∧ ∃ a c, e = .returned (.tuple #[.slice a m c, .int .i64 0]) ∧ Bls w' a m (hideF (dB Ls) zs m (m + 1) (hide0 zs lim m)) ∧ Ext w w')
theorem HidePost.no {w : World} {n lim : Int} {m : Nat} {Ls : List (List Int)} {zs : List Int} {e : Ending} {w' : World} (h0 : hideE n Ls zs lim ≠ 0) (h1 : e = .returned (.tuple #[.slice none 0 0, .int .i64 (hideE n Ls zs lim)])) (h2 : Ext w w') : HidePost w n lim m Ls zs e w' := .inl ⟨h0, h1, h2⟩
theorem HidePost.yes {w : World} {n lim : Int} {m : Nat} {Ls : List (List Int)} {zs : List Int} {e : Ending} {w' : World} {a : Option Addr} {c : Nat} (h0 : hideE n Ls zs lim = 0) (h1 : e = .returned (.tuple #[.slice a m c, .int .i64 0])) (h3 : Bls w' a m (hideF (dB Ls) zs m (m + 1) (hide0 zs lim m))) (h2 : Ext w w') : HidePost w n lim m Ls zs e w' := .inr ⟨h0, a, c, h1, h3, h2⟩
theorem bools_of {W : World} {base n : Nat} {v : Value} {l : List Bool} (h : W.ownsRow base 4 1 v n (bvals l)) (hl : l.length = n) : ∃ a c, v = .slice a n c ∧ Bls W a n l := by
  rcases Nat.eq_zero_or_pos n with h0 | h0
  · subst h0
    obtain ⟨_, ⟨hv, _⟩ | ⟨g, cap, cur, hv, _⟩⟩ := h
    · exact ⟨none, 0, hv, hl, .inl rfl⟩
    · exact ⟨_, _, hv, hl, .inl rfl⟩
  · obtain ⟨g, cap, rfl, _⟩ := World.ownsRow.form h h0
    exact ⟨_, _, rfl, (owns_bls h hl h0).1⟩
set_option maxRecDepth 100000 in
set_option maxHeartbeats 8000000 in
theorem rHide_c (n lim : Int) (ss vs : Sl) (gs : List Sl) (Ls : List (List Int)) (zs : List Int) (w : World) (h : ShIn w n ss vs gs Ls zs) (hf : validE n Ls zs = 0 → ∀ k x, x ∈ Ls.getD k [] → x < 6) (hlim : Int64 lim) :
    Calls Try.prog 21 #[.agg #[.int .i64 n, ss.v, vs.v], .int .i64 lim] w fun e w' => HidePost w n lim ss.n Ls zs e w' := by
  obtain ⟨b0, hb0, hv0, hv1, hv2⟩ := info_parts boolInfo
  have H := Lib.hid (And.intro h hf)
  have hsn := h.grps.2.1
  have hs1 := h.grps.2.2.1
  obtain ⟨v, hv⟩ : ∃ v, validE n Ls zs = v := ⟨_, rfl⟩
  have hE : hideE n Ls zs lim = if v ≠ 0 then v else if lim < 0 ∨ 1099511627776 < lim then 1 else 0 := by unfold hideE; rw [hv]
  have HV := Lib.hid hv
  have HL := Lib.hid hsn
  obtain ⟨sa, sn, sc⟩ := ss
  obtain ⟨va, vn, vc⟩ := vs
  simp only at hs1
  simp only [Sl.v]
  obtain ⟨B, hB⟩ : ∃ B, w.heap.size = B := ⟨_, rfl⟩
  clear h hf hsn hlim
  by_cases c1 : v = 0
  · by_cases c2 : lim < 0
    · have HR := Lib.hid (show hideE n Ls zs lim = 1 by rw [hE, if_neg (by omega), if_pos (.inl c2)])
      clear hE hv
      subst c1
      go_enter Try.func21, Try.ntmps21; go_upto_region 1 with (fail); refine wp_gen (fun W => Ext w W ∧ Blk W B #[.int .i64 n, .slice sa sn sc, .slice va vn vc] 25) ⟨(by repeat (first | exact Ext.refl _ | assumption | refine Ext.setCell ?_ (by first | (simp; done) | (simp; omega) | omega) _ | refine Ext.alloc ?_ _ | refine Ext.drew ?_ | refine Ext.trans ?_ (by assumption))), Blk.at _ 25 hB.symm⟩ ?_; rintro V ⟨E0, B0⟩; have HB := Lib.hid (And.intro E0 B0); have x0 : V.cell? ⟨B, 0, none⟩ = some (.int .i64 n) := B0.cell 0; have x1 : V.cell? ⟨B, 1, none⟩ = some (.slice sa sn sc) := B0.cell 1; have x2 : V.cell? ⟨B, 2, none⟩ = some (.slice va vn vc) := B0.cell 2; clear E0 B0; go_wp2_with fail; refine (rvalid_c n ⟨sa, sn, sc⟩ ⟨va, vn, vc⟩ gs Ls zs _ (H.out.1.ext HB.out.1)).mono ?_; rw [HV.out]; rintro e w2 ⟨rfl, hx2⟩; have HX := Lib.hid (And.intro (HB.out.1.trans hx2) (HB.out.2.ext hx2)); clear x0 x1 x2 hx2
      go_wp2_with fail
      go_ret2
      exact HidePost.no (by rw [HR.out]; omega) (by rw [HR.out]; rfl) HX.out.1
    · by_cases c3 : 1099511627776 < lim
      · have HR := Lib.hid (show hideE n Ls zs lim = 1 by rw [hE, if_neg (by omega), if_pos (.inr c3)])
        clear hE hv
        subst c1
        go_enter Try.func21, Try.ntmps21; go_upto_region 1 with (fail); refine wp_gen (fun W => Ext w W ∧ Blk W B #[.int .i64 n, .slice sa sn sc, .slice va vn vc] 25) ⟨(by repeat (first | exact Ext.refl _ | assumption | refine Ext.setCell ?_ (by first | (simp; done) | (simp; omega) | omega) _ | refine Ext.alloc ?_ _ | refine Ext.drew ?_ | refine Ext.trans ?_ (by assumption))), Blk.at _ 25 hB.symm⟩ ?_; rintro V ⟨E0, B0⟩; have HB := Lib.hid (And.intro E0 B0); have x0 : V.cell? ⟨B, 0, none⟩ = some (.int .i64 n) := B0.cell 0; have x1 : V.cell? ⟨B, 1, none⟩ = some (.slice sa sn sc) := B0.cell 1; have x2 : V.cell? ⟨B, 2, none⟩ = some (.slice va vn vc) := B0.cell 2; clear E0 B0; go_wp2_with fail; refine (rvalid_c n ⟨sa, sn, sc⟩ ⟨va, vn, vc⟩ gs Ls zs _ (H.out.1.ext HB.out.1)).mono ?_; rw [HV.out]; rintro e w2 ⟨rfl, hx2⟩; have HX := Lib.hid (And.intro (HB.out.1.trans hx2) (HB.out.2.ext hx2)); clear x0 x1 x2 hx2
        go_wp2_with fail
        go_ret2
        exact HidePost.no (by rw [HR.out]; omega) (by rw [HR.out]; rfl) HX.out.1
      · have HR := Lib.hid (show hideE n Ls zs lim = 0 by rw [hE, if_neg (by omega), if_neg (by omega)])
        rw [c1] at hv
        obtain ⟨u1, u2, u3, u4, u5⟩ := validE_of hv
        obtain ⟨N, rfl⟩ : ∃ N : Nat, n = (N : Int) := ⟨n.toNat, by omega⟩
        have hG := H.out.1.sheet hv
        have h6 := H.out.2 hv
        have hfo : FewOK Ls := .inr fun k x hx => by have := h6 k x hx; omega
        have HLs := HL.out
        simp only at HLs
        have hsn9 : sn ≤ 900 := by omega
        have HU := Lib.hid (And.intro u4 (And.intro u5 (And.intro hG (And.intro hfo h6))))
        have hvn : vn = sn := by have := H.out.1.vals.1; simp only at this; omega
        have hN : N ≤ 1000 := by omega
        have HLN := Lib.hid HLs
        obtain rfl := hvn.symm
        clear hE hv u1 u2 u3 u4 u5 hG hfo HLs h6
        subst c1
        go_enter Try.func21, Try.ntmps21; go_upto_region 1 with (fail); refine wp_gen (fun W => Ext w W ∧ Blk W B #[.int .i64 (N : Int), .slice sa sn sc, .slice va sn vc] 25) ⟨(by repeat (first | exact Ext.refl _ | assumption | refine Ext.setCell ?_ (by first | (simp; done) | (simp; omega) | omega) _ | refine Ext.alloc ?_ _ | refine Ext.drew ?_ | refine Ext.trans ?_ (by assumption))), Blk.at _ 25 hB.symm⟩ ?_; rintro V ⟨E0, B0⟩; have HB := Lib.hid (And.intro E0 B0); have x0 : V.cell? ⟨B, 0, none⟩ = some (.int .i64 (N : Int)) := B0.cell 0; have x1 : V.cell? ⟨B, 1, none⟩ = some (.slice sa sn sc) := B0.cell 1; have x2 : V.cell? ⟨B, 2, none⟩ = some (.slice va sn vc) := B0.cell 2; clear E0 B0; go_wp2_with fail; refine (rvalid_c (N : Int) ⟨sa, sn, sc⟩ ⟨va, sn, vc⟩ gs Ls zs _ (H.out.1.ext HB.out.1)).mono ?_; rw [HV.out]; rintro e w2 ⟨rfl, hx2⟩; have HX := Lib.hid (And.intro (HB.out.1.trans hx2) (HB.out.2.ext hx2)); clear x0 x1 x2 hx2
        obtain ⟨V2, hV2⟩ : ∃ V2, w2 = V2 := ⟨_, rfl⟩
        subst hV2
        go_upto_region 6 with (fail)
        go_wp2_with fail
        go_loopw [7, 8] (fun sv iv ws => ∃ i : Nat, i ≤ sn ∧ iv = .int .i64 (i : Int) ∧ ws.ownsRow w2.heap.size 4 1 sv i (bvals (hide0 zs lim i)) ∧ Ext w2 ws) (fun _ iv _ => sn - (intOf iv).toNat)
        case atStart => exact ⟨0, by omega, rfl, ⟨rfl, .inl ⟨rfl, rfl⟩⟩, Ext.refl _⟩
        case round =>
          obtain ⟨i, hi, rfl, hown, hE⟩ := hrel
          have HW := Lib.hid (And.intro hown hE)
          have hb := HX.out.2.ext hE
          have x1 : wr.cell? ⟨B, 1, none⟩ = some (.slice sa sn sc) := hb.cell 1
          have x2 : wr.cell? ⟨B, 2, none⟩ = some (.slice va sn vc) := hb.cell 2
          have hsz := hE.size
          clear hown hE hb
          by_cases hlt : i < sn
          · obtain ⟨vb, vo, rfl, _, hvc⟩ := (H.out.1.vals.keep (HX.out.1.trans HW.out.2).ik).at i hlt
            obtain ⟨z, hz⟩ : ∃ z, zs.getD i 0 = z := ⟨_, rfl⟩
            rw [hz] at hvc
            have HZ := Lib.hid hz
            have i0 : (0 : Int) ≤ (i : Int) := by omega
            have i1 : (i : Int) < (sn : Int) := by omega
            have hl0 : (hide0 zs lim i).length = i := hide0_len zs lim i
            obtain ⟨HS0, hHS0⟩ : ∃ l, hide0 zs lim i = l := ⟨_, rfl⟩
            rw [hHS0] at HW hl0
            have hbl : (bvals HS0).length = i := by simp [bvals]; exact hl0
            have HH0 := Lib.hid (And.intro hHS0 hl0)
            clear hz hHS0 hl0
            by_cases d1 : 1 ≤ z
            · by_cases d2 : z < lim
              · have hbool : (decide (1 ≤ z) && decide (z < lim)) = true := by rw [decide_eq_true d1, decide_eq_true d2]; rfl
                (have HN := Lib.hid (show hide0 zs lim (i + 1) = HS0 ++ [true] by rw [← HH0.out.1]; exact hide0_succ zs lim i _ (by rw [HZ.out]; exact hbool)); clear hbool; have hnews : ∀ (j : Nat) (u : Value), (bvals [true])[j]? = some u → (wr.alloc (.cells #[.bool true] 4)).cell? ((⟨wr.heap.size, 0, none⟩ : Addr).add j) = some u := bls_news (n := 1) ⟨rfl, .inr ⟨_, 0, rfl, by simp, fun j hj => by obtain rfl : j = 0 := (by omega); exact (Blk.at (w := wr) #[.bool true] 4 rfl).cell 0⟩⟩ (by omega); have HNB := Lib.hid hnews; clear hnews; go_wp2_with (at_builtin; refine wpList_append_lies _ rfl _ _ _ rfl w2.heap.size 4 b0 _ 1 1 Try.underlying34 hb0 hv0 hv1 hv2 rfl (by omega) u7 i (bvals HS0) rfl (gowns_ext ((Ext.refl wr).alloc _) HW.out.1) ⟨wr.heap.size, 0, none⟩ 1 1 (bvals [true]) rfl rfl HNB.out (bvals_one _) (by omega) (by rw [maxLen]; omega) (by omega) (by simp <;> omega) _ rfl ?_); intro g5 cap5 w5 hown hgrow hat hlt1; have HR5 := Lib.hid (show w5.ownsRow w2.heap.size 4 1 (.slice (some ⟨g5, 0, none⟩) (i + 1) cap5) (i + 1) (bvals (hide0 zs lim (i + 1))) ∧ Ext w2 w5 from ⟨by rw [HN.out]; unfold bvals at *; rw [List.map_append]; exact hown, ext_grown (HW.out.2.alloc _) hgrow (fun g hg => (gowns_lt HW.out.1 hg).1)⟩); clear hown hgrow hat; go_wp2_with fail; go_roundw; (case rel => exact ⟨i + 1, by omega, by go_num, HR5.out.1, HR5.out.2⟩); (case measure => simp [intOf]; omega))
              · have hbool : (decide (1 ≤ z) && decide (z < lim)) = false := by rw [decide_eq_true d1, decide_eq_false d2]; rfl
                have d2' : decide (z < lim) = false := decide_eq_false d2
                clear d2
                (have HN := Lib.hid (show hide0 zs lim (i + 1) = HS0 ++ [false] by rw [← HH0.out.1]; exact hide0_succ zs lim i _ (by rw [HZ.out]; exact hbool)); clear hbool; have hnews : ∀ (j : Nat) (u : Value), (bvals [false])[j]? = some u → (wr.alloc (.cells #[.bool false] 4)).cell? ((⟨wr.heap.size, 0, none⟩ : Addr).add j) = some u := bls_news (n := 1) ⟨rfl, .inr ⟨_, 0, rfl, by simp, fun j hj => by obtain rfl : j = 0 := (by omega); exact (Blk.at (w := wr) #[.bool false] 4 rfl).cell 0⟩⟩ (by omega); have HNB := Lib.hid hnews; clear hnews; go_wp2_with (at_builtin; refine wpList_append_lies _ rfl _ _ _ rfl w2.heap.size 4 b0 _ 1 1 Try.underlying34 hb0 hv0 hv1 hv2 rfl (by omega) u7 i (bvals HS0) rfl (gowns_ext ((Ext.refl wr).alloc _) HW.out.1) ⟨wr.heap.size, 0, none⟩ 1 1 (bvals [false]) rfl rfl HNB.out (bvals_one _) (by omega) (by rw [maxLen]; omega) (by omega) (by simp <;> omega) _ rfl ?_); intro g5 cap5 w5 hown hgrow hat hlt1; have HR5 := Lib.hid (show w5.ownsRow w2.heap.size 4 1 (.slice (some ⟨g5, 0, none⟩) (i + 1) cap5) (i + 1) (bvals (hide0 zs lim (i + 1))) ∧ Ext w2 w5 from ⟨by rw [HN.out]; unfold bvals at *; rw [List.map_append]; exact hown, ext_grown (HW.out.2.alloc _) hgrow (fun g hg => (gowns_lt HW.out.1 hg).1)⟩); clear hown hgrow hat; go_wp2_with fail; go_roundw; (case rel => exact ⟨i + 1, by omega, by go_num, HR5.out.1, HR5.out.2⟩); (case measure => simp [intOf]; omega))
            · have hbool : (decide (1 ≤ z) && decide (z < lim)) = false := by rw [decide_eq_false d1]; rfl
              have d1' : decide (1 ≤ z) = false := decide_eq_false d1
              clear d1
              (have HN := Lib.hid (show hide0 zs lim (i + 1) = HS0 ++ [false] by rw [← HH0.out.1]; exact hide0_succ zs lim i _ (by rw [HZ.out]; exact hbool)); clear hbool; have hnews : ∀ (j : Nat) (u : Value), (bvals [false])[j]? = some u → (wr.alloc (.cells #[.bool false] 4)).cell? ((⟨wr.heap.size, 0, none⟩ : Addr).add j) = some u := bls_news (n := 1) ⟨rfl, .inr ⟨_, 0, rfl, by simp, fun j hj => by obtain rfl : j = 0 := (by omega); exact (Blk.at (w := wr) #[.bool false] 4 rfl).cell 0⟩⟩ (by omega); have HNB := Lib.hid hnews; clear hnews; go_wp2_with (at_builtin; refine wpList_append_lies _ rfl _ _ _ rfl w2.heap.size 4 b0 _ 1 1 Try.underlying34 hb0 hv0 hv1 hv2 rfl (by omega) u7 i (bvals HS0) rfl (gowns_ext ((Ext.refl wr).alloc _) HW.out.1) ⟨wr.heap.size, 0, none⟩ 1 1 (bvals [false]) rfl rfl HNB.out (bvals_one _) (by omega) (by rw [maxLen]; omega) (by omega) (by simp <;> omega) _ rfl ?_); intro g5 cap5 w5 hown hgrow hat hlt1; have HR5 := Lib.hid (show w5.ownsRow w2.heap.size 4 1 (.slice (some ⟨g5, 0, none⟩) (i + 1) cap5) (i + 1) (bvals (hide0 zs lim (i + 1))) ∧ Ext w2 w5 from ⟨by rw [HN.out]; unfold bvals at *; rw [List.map_append]; exact hown, ext_grown (HW.out.2.alloc _) hgrow (fun g hg => (gowns_lt HW.out.1 hg).1)⟩); clear hown hgrow hat; go_wp2_with fail; go_roundw; (case rel => exact ⟨i + 1, by omega, by go_num, HR5.out.1, HR5.out.2⟩); (case measure => simp [intOf]; omega))
          · obtain rfl : sn = i := by omega
            obtain ⟨a1, cc1, rfl, hB1⟩ := bools_of HW.out.1 (hide0_len zs lim sn)
            have HB1 := Lib.hid hB1
            clear hB1 hi
            obtain ⟨R, hR⟩ : ∃ R, hideF (dB Ls) zs sn (sn + 1) (hide0 zs lim sn) = R := ⟨_, rfl⟩
            have HRR := Lib.hid hR
            have hp0 : pubN (hide0 zs lim sn) < sn + 1 := by
              have h1 : pubN (hide0 zs lim sn) ≤ (hide0 zs lim sn).length := List.count_le_length
              rw [hide0_len] at h1
              omega
            have HP0 := Lib.hid hp0
            clear hR hp0 x2
            go_upto_region 11 with (fail)
            clear x1
            go_loopg [7] (sn + 1) (fun g mv ws => ∃ (a : Option Addr) (c : Nat) (hs : List Bool), mv = .slice a sn c ∧ Bls ws a sn hs ∧ Ext w2 ws ∧ hideF (dB Ls) zs sn g hs = R ∧ pubN hs < g)
            case atStart => exact ⟨a1, cc1, hide0 zs lim sn, rfl, HB1.out, HW.out.2, HRR.out, HP0.out⟩
            case round =>
              rename World => ws
              obtain ⟨a2, cc2, hs, rfl, hB2, hE2, hH, hP⟩ := hrel
              obtain ⟨f, rfl⟩ : ∃ f, gk = f + 1 := ⟨gk - 1, by omega⟩
              have HHF := Lib.hid (And.intro hH hP)
              have HB2 := Lib.hid (And.intro hB2 hE2)
              have hb := HX.out.2.ext hE2
              have x0 : ws.cell? ⟨B, 0, none⟩ = some (.int .i64 (N : Int)) := hb.cell 0
              have x1 : ws.cell? ⟨B, 1, none⟩ = some (.slice sa sn sc) := hb.cell 1
              have x2 : ws.cell? ⟨B, 2, none⟩ = some (.slice va sn vc) := hb.cell 2
              clear hH hP hB2 hE2 hb
              have HE2 := Lib.hid (HX.out.1.trans HB2.out.2)
              go_wp2_with fail
              refine (rfirst_c N sn ⟨sa, sn, sc⟩ ⟨va, sn, vc⟩ gs Ls a2 cc2 hs _ (HU.out.2.2.1.ext HE2.out) HLN.out HU.out.2.2.2.1 hN hsn9 HU.out.2.2.2.2 HB2.out.1).mono ?_
              rintro e w3 ⟨rfl, hx3⟩
              obtain ⟨nx, hnx⟩ : ∃ nx, nextF (dB Ls) hs sn = nx := ⟨_, rfl⟩
              rw [hnx]
              have HNX := Lib.hid hnx
              have HX3 := Lib.hid (And.intro (HB2.out.1.ext hx3) (And.intro (HB2.out.2.trans hx3) (HE2.out.trans hx3)))
              clear hnx hx3 x0 x1 x2
              by_cases hneg : nx < 0
              · have HFF := Lib.hid (show hideF (dB Ls) zs sn (f + 1) hs = hs by
                  show (if nextF (dB Ls) hs sn < 0 then hs else _) = hs
                  rw [if_pos (by rw [HNX.out]; omega)])
                go_wp2_with fail
                go_ret2
                exact HidePost.yes HR.out rfl (by rw [HRR.out, ← HHF.out.1, HFF.out]; exact HX3.out.1) HX3.out.2.2
              · obtain ⟨h, _, hhs, h3, h4⟩ := firstF_spec _ sn 0 (show 0 ≤ firstF (fun i => hs.getD i false && dB Ls hs i) 0 sn by have := HNX.out; unfold nextF at this; omega)
                have hnx : nextF (dB Ls) hs sn = (h : Int) := h3
                obtain rfl : nx = (h : Int) := by rw [← HNX.out]; exact hnx
                rw [Nat.zero_add] at hhs
                have hDet : Det Ls hs h := (dB_iff Ls hs h).1 (by simp only [Bool.and_eq_true] at h4; exact h4.2)
                have hit := item_cells (HU.out.2.1 h (by rw [HLN.out]; exact hhs))
                have hpub := pub_of_det hDet hit.1 (fun x hx => (HU.out.2.2.1.cell h x hx).1)
                rw [HLN.out] at hpub
                have hmore := more_ok (Ls := Ls) (zs := zs) (h := h) (D := dB Ls) hpub
                obtain ⟨mo, hmo⟩ : ∃ mo : Nat, moreF (dB Ls) zs hs sn h = (mo : Int) := ⟨(moreF (dB Ls) zs hs sn h).toNat, by omega⟩
                rw [hmo] at hmore
                simp only [Int.toNat_natCast] at hmore
                have hmlt : mo < sn := by omega
                have HFF := Lib.hid (show hideF (dB Ls) zs sn (f + 1) hs = hideF (dB Ls) zs sn f (hs.set mo true) by
                  show (if nextF (dB Ls) hs sn < 0 then hs else hideF (dB Ls) zs sn f (hs.set (moreF (dB Ls) zs hs sn (nextF (dB Ls) hs sn).toNat).toNat true)) = _
                  rw [hnx, if_neg (by omega), Int.toNat_natCast, hmo, Int.toNat_natCast])
                have HPN := Lib.hid (pubN_set hs mo (by rw [HX3.out.1.1]; exact hmlt) hmore.2.2)
                have HMO := Lib.hid hmo
                obtain ⟨P, hP⟩ : ∃ P : Nat → Bool, (fun i => !dB Ls (hs.set i true) h) = P := ⟨_, rfl⟩
                have HPP := Lib.hid hP
                have hmd : moreF (dB Ls) zs hs sn h = if bestF zs hs P sn < 0 then bestF zs hs (fun _ => true) sn else bestF zs hs P sn := by rw [← hP]; rfl
                have HMD := Lib.hid hmd
                clear h3 h4 hnx hDet hit hpub hmore hmo hP hmd hneg
                go_wp2_with fail
                go_loopw [10, 11, 12] (fun ov av qv wz => ∃ q : Nat, q ≤ sn ∧ qv = .int .i64 (q : Int) ∧ ov = .int .i64 (bestF zs hs P q) ∧ av = .int .i64 (bestF zs hs (fun _ => true) q) ∧ Ext w3 wz) (fun _ _ qv _ => sn - (intOf qv).toNat)
                case atStart => exact ⟨0, by omega, rfl, rfl, rfl, Ext.refl _⟩
                case round =>
                  rename World => wz
                  obtain ⟨q, hq, rfl, rfl, rfl, hE⟩ := hrel
                  have HQ := Lib.hid (And.intro hE (HX3.out.2.2.trans hE))
                  have hb := HX.out.2.ext (HX3.out.2.1.trans hE)
                  have HS3 := Lib.hid (show ∀ W, Ext wz W → W.cell? ⟨B, 0, none⟩ = some (.int .i64 (N : Int)) ∧ W.cell? ⟨B, 1, none⟩ = some (.slice sa sn sc) ∧ W.cell? ⟨B, 2, none⟩ = some (.slice va sn vc) from fun W e => ⟨e.cell (hb.cell 0), e.cell (hb.cell 1), e.cell (hb.cell 2)⟩)
                  have x1 : wz.cell? ⟨B, 1, none⟩ = some (.slice sa sn sc) := hb.cell 1
                  have hbo := bestF_bd zs hs P q
                  have hba := bestF_bd zs hs (fun _ => true) q
                  have HSO := Lib.hid (show bestF zs hs P (q + 1) = if hs.getD q false = false ∧ (bestF zs hs P q < 0 ∨ zs.getD q 0 < zs.getD (bestF zs hs P q).toNat 0) ∧ P q = true then (q : Int) else bestF zs hs P q from rfl)
                  have HSA := Lib.hid (show bestF zs hs (fun _ => true) (q + 1) = if hs.getD q false = false ∧ (bestF zs hs (fun _ => true) q < 0 ∨ zs.getD q 0 < zs.getD (bestF zs hs (fun _ => true) q).toNat 0) ∧ true = true then (q : Int) else bestF zs hs (fun _ => true) q from rfl)
                  by_cases hqn : q < sn
                  · obtain ⟨o, ho⟩ : ∃ o, bestF zs hs P q = o := ⟨_, rfl⟩
                    obtain ⟨av, hav⟩ : ∃ a, bestF zs hs (fun _ => true) q = a := ⟨_, rfl⟩
                    rw [ho] at hbo HSO ⊢
                    rw [hav] at hba HSA ⊢
                    obtain ⟨hb2, ho2, rfl, _, hcell⟩ := (HX3.out.1.ext hE).at q hqn
                    obtain ⟨y, hy⟩ : ∃ y, hs.getD q false = y := ⟨_, rfl⟩
                    rw [hy] at hcell HSO HSA
                    have q0 : (0 : Int) ≤ (q : Int) := by omega
                    have q1 : (q : Int) < (sn : Int) := by omega
                    clear ho hav hy hb hE
                    cases y with
                    | true =>
                      go_wp2_with fail
                      go_roundw
                      case rel => exact ⟨q + 1, by omega, by go_num, by rw [HSO.out, if_neg (by simp)], by rw [HSA.out, if_neg (by simp)], HQ.out.1⟩
                      case measure => first | (simp [intOf]; done) | (simp [intOf]; omega)
                    | false =>
                      obtain ⟨z, hz⟩ : ∃ z, zs.getD q 0 = z := ⟨_, rfl⟩
                      obtain ⟨zo, hzo⟩ : ∃ z, zs.getD o.toNat 0 = z := ⟨_, rfl⟩
                      obtain ⟨za, hza⟩ : ∃ z, zs.getD av.toNat 0 = z := ⟨_, rfl⟩
                      obtain ⟨st, hst⟩ : ∃ b, dB Ls (hs.set q true) h = b := ⟨_, rfl⟩
                      have hpq : P q = !st := by rw [← HPP.out, ← hst]
                      rw [hz, hzo, hpq] at HSO
                      rw [hz, hza] at HSA
                      have HZZ := Lib.hid (And.intro hz (And.intro hzo (And.intro hza hst)))
                      clear hz hzo hza hst hpq
                      obtain ⟨bA, hbA⟩ : ∃ b, (decide (av < 0) || decide (z < za)) = b := ⟨_, rfl⟩
                      obtain ⟨bB, hbB⟩ : ∃ b, ((!st) && (decide (o < 0) || decide (z < zo))) = b := ⟨_, rfl⟩
                      obtain ⟨a', ha'⟩ : ∃ x, bestF zs hs (fun _ => true) (q + 1) = x := ⟨_, rfl⟩
                      obtain ⟨o', ho'⟩ : ∃ x, bestF zs hs P (q + 1) = x := ⟨_, rfl⟩
                      have HA := Lib.hid (show (bA = true → a' = (q : Int)) ∧ (bA = false → a' = av) from ⟨fun e => by rw [← ha', HSA.out, if_pos]; rw [← hbA] at e; simp only [Bool.or_eq_true, decide_eq_true_eq] at e; exact ⟨rfl, e, rfl⟩, fun e => by rw [← ha', HSA.out, if_neg]; rw [← hbA] at e; simp only [Bool.or_eq_false_iff, decide_eq_false_iff_not] at e; rintro ⟨_, h1, _⟩; exact h1.elim e.1 e.2⟩)
                      have HO := Lib.hid (show (bB = true → o' = (q : Int)) ∧ (bB = false → o' = o) from ⟨fun e => by rw [← ho', HSO.out, if_pos]; rw [← hbB] at e; simp only [Bool.and_eq_true, Bool.or_eq_true, decide_eq_true_eq] at e; exact ⟨rfl, e.2, e.1⟩, fun e => by rw [← ho', HSO.out, if_neg]; rw [← hbB] at e; rintro ⟨_, h1, h2⟩; rw [h2, Bool.true_and, Bool.or_eq_false_iff, decide_eq_false_iff_not, decide_eq_false_iff_not] at e; exact h1.elim e.1 e.2⟩)
                      have HAO := Lib.hid (And.intro ha' ho')
                      have HBA := Lib.hid hbA
                      have HBB := Lib.hid hbB
                      have hvl : zs.length = sn := by have := HU.out.1; have := HLN.out; omega
                      have HVC := Lib.hid (show ∃ vb vo, va = some ⟨vb, vo, none⟩ ∧ ∀ W, Ext wz W → ∀ j, j < sn → W.cell? ⟨vb, vo + j, none⟩ = some (.int .i64 (zs.getD j 0)) from by
                        obtain ⟨vb, vo, e, _, _⟩ := H.out.1.vals.at q hqn
                        refine ⟨vb, vo, e, fun W eW j hj => ?_⟩
                        obtain ⟨_, _, e', _, hc⟩ := H.out.1.vals.at j hj
                        simp only at e e' hc
                        rw [e] at e'
                        injection e' with e'; injection e' with e1 e2
                        subst e1; subst e2
                        exact (HQ.out.2.trans eW).cell hc)
                      obtain ⟨vb, vo, rfl, hvc⟩ := HVC.out
                      have HVC2 := Lib.hid hvc
                      clear HVC hvc ha' ho' hbA hbB HSO HSA hvl
                      go_upto_region 20 with (fail)
                      go_cut [81] (fun tv wx => tv = .bool bA ∧ Ext wz wx)
                      case first =>
                        have x2 := (HS3.out wz (Ext.refl wz)).2.2
                        have z1 := HVC2.out wz (Ext.refl wz) q hqn
                        rw [HZZ.out.1] at z1
                        by_cases ha : av < 0
                        · have ha1 : decide (av < 0) = true := decide_eq_true ha
                          obtain rfl : bA = true := by rw [← HBA.out, ha1]; rfl
                          go_quiet (fail)
                          go_wp2_with fail
                          go_meet
                          case rel => exact ⟨rfl, (Ext.refl wz).drewN nq⟩
                        · have ha1 : decide (av < 0) = false := decide_eq_false ha
                          obtain ⟨A, rfl⟩ : ∃ A : Nat, av = (A : Int) := ⟨av.toNat, by omega⟩
                          have hA : A < sn := by omega
                          have z2 := HVC2.out wz (Ext.refl wz) A hA
                          have hza := HZZ.out.2.2.1
                          rw [Int.toNat_natCast] at hza
                          rw [hza] at z2
                          have A0 : (0 : Int) ≤ (A : Int) := by omega
                          have A1 : (A : Int) < (sn : Int) := by omega
                          clear hza
                          by_cases hzz : z < za
                          · have hz1 : decide (z < za) = true := decide_eq_true hzz
                            obtain rfl : bA = true := by rw [← HBA.out, ha1, hz1]; rfl
                            clear ha
                            go_quiet (fail)
                            go_wp2_with fail
                            go_meet
                            case rel => exact ⟨rfl, (Ext.refl wz).drewN nq⟩
                          · have hz1 : decide (z < za) = false := decide_eq_false hzz
                            obtain rfl : bA = false := by rw [← HBA.out, ha1, hz1]; rfl
                            clear ha hzz
                            go_quiet (fail)
                            go_wp2_with fail
                            go_meet
                            case rel => exact ⟨rfl, (Ext.refl wz).drewN nq⟩
                      case rest =>
                        obtain ⟨rfl, hEc⟩ := hcut
                        have HEc := Lib.hid hEc
                        clear hEc hcell
                        cases bA with
                        | true =>
                          go_upto_region 22 with (fail)
                          refine wp_region_held_drew (S := fun W => Ext wz W) (by kernel_rfl) HEc.out.drew (fun hHeld => ?_)
                          have HE0 := Lib.hid (HEc.out.drew)
                          refine takeL (i := 0) (v := ?_) rfl (by kernel_rfl) (by kernel_rfl) (by kernel_rfl) (fun _ _ _ h => h) (Or.inl ⟨by rfl, ?_⟩) (by assumption) ?_; rotate_left; (focus (intro wq hSw; obtain ⟨hc1, hc2, hc3⟩ := HS3.out wq hSw; clear hSw; go_simp; try with_reducible rfl)); (try simp only [Act.put, List.setIfInBounds_toArray, List.set_cons_zero, List.set_cons_succ])
                          refine takeL (i := 1) (v := ?_) rfl (by kernel_rfl) (by kernel_rfl) (by kernel_rfl) (fun _ _ _ h => h) (Or.inl ⟨by rfl, ?_⟩) (by assumption) ?_; rotate_left; (focus (intro wq hSw; (try dsimp only at hSw); go_simp; try with_reducible rfl)); (try simp only [Act.put, List.setIfInBounds_toArray, List.set_cons_zero, List.set_cons_succ])
                          refine takeL (i := 2) (v := ?_) rfl (by kernel_rfl) (by kernel_rfl) (by kernel_rfl) (fun _ _ _ h => h) (Or.inl ⟨by rfl, ?_⟩) (by assumption) ?_; rotate_left; (focus (intro wq hSw; (try dsimp only at hSw); go_simp; try with_reducible rfl)); (try simp only [Act.put, List.setIfInBounds_toArray, List.set_cons_zero, List.set_cons_succ])
                          refine takeL (i := 4) (v := ?_) rfl (by kernel_rfl) (by kernel_rfl) (by kernel_rfl) (fun _ _ _ h => h) (Or.inl ⟨by rfl, ?_⟩) (by assumption) ?_; rotate_left; (focus (intro wq hSw; (try dsimp only at hSw); go_simp; try with_reducible rfl)); (try simp only [Act.put, List.setIfInBounds_toArray, List.set_cons_zero, List.set_cons_succ])
                          refine consL (i := 3) (by kernel_rfl) rfl (fun K hK => ?_); go_simp
                          go_at_call 44
                          refine (rwith_c _ sn cc2 q hs _ (HX3.out.1.ext (HQ.out.1.trans HE0.out)) hqn (by omega)).mono ?_
                          rintro e b1 ⟨g5, cap5, rfl, hB5, hx⟩
                          have HE1 := Lib.hid (And.intro (HE0.out.trans hx) hB5)
                          clear hx hB5
                          (try go_wp2_with fail); refine hK.out _ _ ?_ (fun hHeld => ?_); rotate_left; clear hK K; rotate_right; (focus (exact HE1.out.1)); (try simp only [Act.put, List.setIfInBounds_toArray, List.set_cons_zero, List.set_cons_succ])
                          refine consL (i := 5) (by kernel_rfl) rfl (fun K hK => ?_); go_simp
                          go_at_call 38
                          refine (rdet_c N sn ⟨sa, sn, sc⟩ ⟨some ⟨vb, vo, none⟩, sn, vc⟩ gs Ls (some ⟨g5, 0, none⟩) cap5 (hs.set q true) h _ (HU.out.2.2.1.ext (HQ.out.2.trans HE1.out.1)) HLN.out HU.out.2.2.2.1 hN hsn9 HU.out.2.2.2.2 HE1.out.2 hhs).mono ?_
                          rintro e b2 ⟨rfl, hx⟩
                          rw [HZZ.out.2.2.2]
                          have HE2 := Lib.hid (HE1.out.1.trans hx)
                          clear hx
                          (try go_wp2_with fail); refine hK.out _ _ ?_ (fun hHeld => ?_); rotate_left; clear hK K; rotate_right; (focus (exact HE2.out)); (try simp only [Act.put, List.setIfInBounds_toArray, List.set_cons_zero, List.set_cons_succ])
                          refine takeL (i := 6) (v := ?_) rfl (by kernel_rfl) (by kernel_rfl) (by kernel_rfl) (fun _ _ _ h => h) (Or.inl ⟨by rfl, ?_⟩) (by assumption) ?_; rotate_left; (focus (intro wq hSw; (try dsimp only at hSw); go_simp; try with_reducible rfl)); (try simp only [Act.put, List.setIfInBounds_toArray, List.set_cons_zero, List.set_cons_succ])
                          refine doneL (by kernel_rfl) ?_
                          go_upto_region 23 with (fail)
                          go_cut [107] (fun tv wx => tv = .bool bB ∧ Ext wz wx)
                          case first =>
                            have x2 := (HS3.out b2 HE2.out).2.2
                            have z1 := HVC2.out b2 HE2.out q hqn
                            rw [HZZ.out.1] at z1
                            cases st with
                            | true =>
                              obtain rfl : bB = false := by rw [← HBB.out]; rfl
                              go_quiet (fail)
                              go_wp2_with fail
                              go_meet
                              case rel => exact ⟨rfl, HE2.out.drewN nq⟩
                            | false =>
                              by_cases ha : o < 0
                              · have ha1 : decide (o < 0) = true := decide_eq_true ha
                                obtain rfl : bB = true := by rw [← HBB.out, ha1]; rfl
                                go_quiet (fail)
                                go_wp2_with fail
                                go_meet
                                case rel => exact ⟨rfl, HE2.out.drewN nq⟩
                              · have ha1 : decide (o < 0) = false := decide_eq_false ha
                                obtain ⟨A, rfl⟩ : ∃ A : Nat, o = (A : Int) := ⟨o.toNat, by omega⟩
                                have hA : A < sn := by omega
                                have z2 := HVC2.out b2 HE2.out A hA
                                have hza := HZZ.out.2.1
                                rw [Int.toNat_natCast] at hza
                                rw [hza] at z2
                                have A0 : (0 : Int) ≤ (A : Int) := by omega
                                have A1 : (A : Int) < (sn : Int) := by omega
                                clear hza
                                by_cases hzz : z < zo
                                · have hz1 : decide (z < zo) = true := decide_eq_true hzz
                                  obtain rfl : bB = true := by rw [← HBB.out, ha1, hz1]; rfl
                                  clear ha
                                  go_quiet (fail)
                                  go_wp2_with fail
                                  go_meet
                                  case rel => exact ⟨rfl, HE2.out.drewN nq⟩
                                · have hz1 : decide (z < zo) = false := decide_eq_false hzz
                                  obtain rfl : bB = false := by rw [← HBB.out, ha1, hz1]; rfl
                                  clear ha hzz
                                  go_quiet (fail)
                                  go_wp2_with fail
                                  go_meet
                                  case rel => exact ⟨rfl, HE2.out.drewN nq⟩
                          case rest =>
                            obtain ⟨rfl, hEd⟩ := hcut
                            have HEd := Lib.hid (HQ.out.1.trans hEd)
                            clear hEd
                            cases bB with
                            | true =>
                              go_wp2_with fail
                              go_roundw
                              case rel => exact ⟨q + 1, by omega, by go_num, by rw [HAO.out.2, HO.out.1 (by trivial)], by rw [HAO.out.1, HA.out.1 (by trivial)], HEd.out⟩
                              case measure => first | (simp [intOf]; done) | (simp [intOf]; omega)
                            | false =>
                              go_wp2_with fail
                              go_roundw
                              case rel => exact ⟨q + 1, by omega, by go_num, by rw [HAO.out.2, HO.out.2 (by trivial)], by rw [HAO.out.1, HA.out.1 (by trivial)], HEd.out⟩
                              case measure => first | (simp [intOf]; done) | (simp [intOf]; omega)
                        | false =>
                          go_upto_region 22 with (fail)
                          refine wp_region_held_drew (S := fun W => Ext wz W) (by kernel_rfl) HEc.out.drew (fun hHeld => ?_)
                          have HE0 := Lib.hid (HEc.out.drew)
                          refine takeL (i := 0) (v := ?_) rfl (by kernel_rfl) (by kernel_rfl) (by kernel_rfl) (fun _ _ _ h => h) (Or.inl ⟨by rfl, ?_⟩) (by assumption) ?_; rotate_left; (focus (intro wq hSw; obtain ⟨hc1, hc2, hc3⟩ := HS3.out wq hSw; clear hSw; go_simp; try with_reducible rfl)); (try simp only [Act.put, List.setIfInBounds_toArray, List.set_cons_zero, List.set_cons_succ])
                          refine takeL (i := 1) (v := ?_) rfl (by kernel_rfl) (by kernel_rfl) (by kernel_rfl) (fun _ _ _ h => h) (Or.inl ⟨by rfl, ?_⟩) (by assumption) ?_; rotate_left; (focus (intro wq hSw; (try dsimp only at hSw); go_simp; try with_reducible rfl)); (try simp only [Act.put, List.setIfInBounds_toArray, List.set_cons_zero, List.set_cons_succ])
                          refine takeL (i := 2) (v := ?_) rfl (by kernel_rfl) (by kernel_rfl) (by kernel_rfl) (fun _ _ _ h => h) (Or.inl ⟨by rfl, ?_⟩) (by assumption) ?_; rotate_left; (focus (intro wq hSw; (try dsimp only at hSw); go_simp; try with_reducible rfl)); (try simp only [Act.put, List.setIfInBounds_toArray, List.set_cons_zero, List.set_cons_succ])
                          refine takeL (i := 4) (v := ?_) rfl (by kernel_rfl) (by kernel_rfl) (by kernel_rfl) (fun _ _ _ h => h) (Or.inl ⟨by rfl, ?_⟩) (by assumption) ?_; rotate_left; (focus (intro wq hSw; (try dsimp only at hSw); go_simp; try with_reducible rfl)); (try simp only [Act.put, List.setIfInBounds_toArray, List.set_cons_zero, List.set_cons_succ])
                          refine consL (i := 3) (by kernel_rfl) rfl (fun K hK => ?_); go_simp
                          go_at_call 44
                          refine (rwith_c _ sn cc2 q hs _ (HX3.out.1.ext (HQ.out.1.trans HE0.out)) hqn (by omega)).mono ?_
                          rintro e b1 ⟨g5, cap5, rfl, hB5, hx⟩
                          have HE1 := Lib.hid (And.intro (HE0.out.trans hx) hB5)
                          clear hx hB5
                          (try go_wp2_with fail); refine hK.out _ _ ?_ (fun hHeld => ?_); rotate_left; clear hK K; rotate_right; (focus (exact HE1.out.1)); (try simp only [Act.put, List.setIfInBounds_toArray, List.set_cons_zero, List.set_cons_succ])
                          refine consL (i := 5) (by kernel_rfl) rfl (fun K hK => ?_); go_simp
                          go_at_call 38
                          refine (rdet_c N sn ⟨sa, sn, sc⟩ ⟨some ⟨vb, vo, none⟩, sn, vc⟩ gs Ls (some ⟨g5, 0, none⟩) cap5 (hs.set q true) h _ (HU.out.2.2.1.ext (HQ.out.2.trans HE1.out.1)) HLN.out HU.out.2.2.2.1 hN hsn9 HU.out.2.2.2.2 HE1.out.2 hhs).mono ?_
                          rintro e b2 ⟨rfl, hx⟩
                          rw [HZZ.out.2.2.2]
                          have HE2 := Lib.hid (HE1.out.1.trans hx)
                          clear hx
                          (try go_wp2_with fail); refine hK.out _ _ ?_ (fun hHeld => ?_); rotate_left; clear hK K; rotate_right; (focus (exact HE2.out)); (try simp only [Act.put, List.setIfInBounds_toArray, List.set_cons_zero, List.set_cons_succ])
                          refine takeL (i := 6) (v := ?_) rfl (by kernel_rfl) (by kernel_rfl) (by kernel_rfl) (fun _ _ _ h => h) (Or.inl ⟨by rfl, ?_⟩) (by assumption) ?_; rotate_left; (focus (intro wq hSw; (try dsimp only at hSw); go_simp; try with_reducible rfl)); (try simp only [Act.put, List.setIfInBounds_toArray, List.set_cons_zero, List.set_cons_succ])
                          refine doneL (by kernel_rfl) ?_
                          go_upto_region 23 with (fail)
                          go_cut [107] (fun tv wx => tv = .bool bB ∧ Ext wz wx)
                          case first =>
                            have x2 := (HS3.out b2 HE2.out).2.2
                            have z1 := HVC2.out b2 HE2.out q hqn
                            rw [HZZ.out.1] at z1
                            cases st with
                            | true =>
                              obtain rfl : bB = false := by rw [← HBB.out]; rfl
                              go_quiet (fail)
                              go_wp2_with fail
                              go_meet
                              case rel => exact ⟨rfl, HE2.out.drewN nq⟩
                            | false =>
                              by_cases ha : o < 0
                              · have ha1 : decide (o < 0) = true := decide_eq_true ha
                                obtain rfl : bB = true := by rw [← HBB.out, ha1]; rfl
                                go_quiet (fail)
                                go_wp2_with fail
                                go_meet
                                case rel => exact ⟨rfl, HE2.out.drewN nq⟩
                              · have ha1 : decide (o < 0) = false := decide_eq_false ha
                                obtain ⟨A, rfl⟩ : ∃ A : Nat, o = (A : Int) := ⟨o.toNat, by omega⟩
                                have hA : A < sn := by omega
                                have z2 := HVC2.out b2 HE2.out A hA
                                have hza := HZZ.out.2.1
                                rw [Int.toNat_natCast] at hza
                                rw [hza] at z2
                                have A0 : (0 : Int) ≤ (A : Int) := by omega
                                have A1 : (A : Int) < (sn : Int) := by omega
                                clear hza
                                by_cases hzz : z < zo
                                · have hz1 : decide (z < zo) = true := decide_eq_true hzz
                                  obtain rfl : bB = true := by rw [← HBB.out, ha1, hz1]; rfl
                                  clear ha
                                  go_quiet (fail)
                                  go_wp2_with fail
                                  go_meet
                                  case rel => exact ⟨rfl, HE2.out.drewN nq⟩
                                · have hz1 : decide (z < zo) = false := decide_eq_false hzz
                                  obtain rfl : bB = false := by rw [← HBB.out, ha1, hz1]; rfl
                                  clear ha hzz
                                  go_quiet (fail)
                                  go_wp2_with fail
                                  go_meet
                                  case rel => exact ⟨rfl, HE2.out.drewN nq⟩
                          case rest =>
                            obtain ⟨rfl, hEd⟩ := hcut
                            have HEd := Lib.hid (HQ.out.1.trans hEd)
                            clear hEd
                            cases bB with
                            | true =>
                              go_wp2_with fail
                              go_roundw
                              case rel => exact ⟨q + 1, by omega, by go_num, by rw [HAO.out.2, HO.out.1 (by trivial)], by rw [HAO.out.1, HA.out.2 (by trivial)], HEd.out⟩
                              case measure => first | (simp [intOf]; done) | (simp [intOf]; omega)
                            | false =>
                              go_wp2_with fail
                              go_roundw
                              case rel => exact ⟨q + 1, by omega, by go_num, by rw [HAO.out.2, HO.out.2 (by trivial)], by rw [HAO.out.1, HA.out.2 (by trivial)], HEd.out⟩
                              case measure => first | (simp [intOf]; done) | (simp [intOf]; omega)
                  · obtain rfl : sn = q := by omega
                    obtain ⟨o, ho⟩ : ∃ o, bestF zs hs P sn = o := ⟨_, rfl⟩
                    obtain ⟨av, hav⟩ : ∃ a, bestF zs hs (fun _ => true) sn = a := ⟨_, rfl⟩
                    have hm := HMD.out
                    rw [HMO.out, ho, hav] at hm
                    rw [ho, hav]
                    have HM := Lib.hid hm
                    have HQE := Lib.hid (HX3.out.2.1.trans HQ.out.1)
                    clear hb hbo hba hm ho hav hE HSO HSA
                    by_cases hon : o < 0
                    · have hmo : (mo : Int) = av := by have := HM.out; rwa [if_pos hon] at this
                      go_upto_region 27 with (fail)
                      rw [← hmo]
                      clear hmo
                      go_wp2_with fail
                      (refine (rwith_c _ sn cc2 mo hs _ (HX3.out.1.ext HQ.out.1) hmlt (by omega)).mono ?_; rintro e b1 ⟨g5, cap5, rfl, hB5, hx⟩; have HE1 := Lib.hid (And.intro (HQE.out.trans hx) hB5); clear hx hB5; go_wp2_with fail; go_roundg f; (case measure => omega); (case rel => exact ⟨_, _, hs.set mo true, rfl, HE1.out.2, HE1.out.1, by rw [← HFF.out]; exact HHF.out.1, by have := HPN.out; have := HHF.out.2; omega⟩))
                    · have hmo : (mo : Int) = o := by have := HM.out; rwa [if_neg hon] at this
                      go_upto_region 27 with (fail)
                      rw [← hmo]
                      clear hmo hon
                      go_wp2_with fail
                      (refine (rwith_c _ sn cc2 mo hs _ (HX3.out.1.ext HQ.out.1) hmlt (by omega)).mono ?_; rintro e b1 ⟨g5, cap5, rfl, hB5, hx⟩; have HE1 := Lib.hid (And.intro (HQE.out.trans hx) hB5); clear hx hB5; go_wp2_with fail; go_roundg f; (case measure => omega); (case rel => exact ⟨_, _, hs.set mo true, rfl, HE1.out.2, HE1.out.1, by rw [← HFF.out]; exact HHF.out.1, by have := HPN.out; have := HHF.out.2; omega⟩))
  · have HR := Lib.hid (show hideE n Ls zs lim = v by rw [hE, if_pos c1])
    have c1' : (v == 0) = false := by rw [beq_eq_false_iff_ne]; exact c1
    have HC1 := Lib.hid c1
    clear c1 hE hv
    go_enter Try.func21, Try.ntmps21; go_upto_region 1 with (fail); refine wp_gen (fun W => Ext w W ∧ Blk W B #[.int .i64 n, .slice sa sn sc, .slice va vn vc] 25) ⟨(by repeat (first | exact Ext.refl _ | assumption | refine Ext.setCell ?_ (by first | (simp; done) | (simp; omega) | omega) _ | refine Ext.alloc ?_ _ | refine Ext.drew ?_ | refine Ext.trans ?_ (by assumption))), Blk.at _ 25 hB.symm⟩ ?_; rintro V ⟨E0, B0⟩; have HB := Lib.hid (And.intro E0 B0); have x0 : V.cell? ⟨B, 0, none⟩ = some (.int .i64 n) := B0.cell 0; have x1 : V.cell? ⟨B, 1, none⟩ = some (.slice sa sn sc) := B0.cell 1; have x2 : V.cell? ⟨B, 2, none⟩ = some (.slice va vn vc) := B0.cell 2; clear E0 B0; go_wp2_with fail; refine (rvalid_c n ⟨sa, sn, sc⟩ ⟨va, vn, vc⟩ gs Ls zs _ (H.out.1.ext HB.out.1)).mono ?_; rw [HV.out]; rintro e w2 ⟨rfl, hx2⟩; have HX := Lib.hid (And.intro (HB.out.1.trans hx2) (HB.out.2.ext hx2)); clear x0 x1 x2 hx2
    go_wp2_with fail
    go_ret2
    exact HidePost.no (by rw [HR.out]; exact HC1.out) (by rw [HR.out]; rfl) HX.out.1
end Go.Proofs.Ytkoidookanmknaa
