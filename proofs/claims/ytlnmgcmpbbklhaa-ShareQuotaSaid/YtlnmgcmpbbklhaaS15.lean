/- meresmanref27: Groups: the walk. -/
import Derived.Test.YtlnmgcmpbbklhaaS14
namespace Go.Proofs.Ytlnmgcmpbbklhaa
set_option linter.unusedSimpArgs false
set_option linter.unusedVariables false
open Go.RowKit

theorem groupsK_next (P zs : List Int) (i m k : Nat) (O : List (List Int)) (R : List Int) (h : groupsK P zs i = (O, R)) (hm : R.length = m) (hk : aroundF (zs.getD i 0) ((m : Int) + 1) = (k : Int)) : groupsK P zs (i + 1) = (O ++ [R.take k], R.drop k) := by
  simp only [groupsK, h, hm, hk, Int.toNat_natCast]
set_option maxRecDepth 100000 in
set_option maxHeartbeats 4000000 in
theorem groups_c (a : Option Addr) (m c : Nat) (P : List Int) (a2 : Option Addr) (n2 c2 : Nat) (zs : List Int) (w : World) (h : Ints w a m P) (hc : m ≤ c) (ha : SlA a c) (h2 : Ints w a2 n2 zs) (hm : m ≤ 1000) :
    Calls Try.prog 20 #[.slice a m c, .slice a2 n2 c2] w fun e w' => ∃ v gs, e = .returned v ∧ GRow w' w.heap.size v gs (groupsF P zs) ∧ Ext w w' := by
  obtain ⟨j0, hj0, hy0, hy1, hy2⟩ := info_parts intsInfo
  have H := Lib.hid h; have H2 := Lib.hid h2
  have hn2 := h2.2.1
  have hl2 := h2.1
  clear h h2
  go_enter Try.func20, Try.ntmps20
  go_wp2_with fail
  go_loopw [0, 5, 6] (fun wv ov v ws => ∃ (i : Nat) (a : Option Addr) (m' c' : Nat) (gs : List Sl) (O : List (List Int)) (R : List Int), i ≤ n2 ∧ i ≤ 6 ∧ v = .int .i64 (i : Int) ∧ wv = .slice a m' c' ∧ m' ≤ c' ∧ SlA a c' ∧ m' ≤ m ∧
    groupsK P zs i = (O, R) ∧ Ints w a m' R ∧ GRow ws w.heap.size ov gs O ∧ Ext w ws) (fun _ _ v _ => 6 - (intOf v).toNat)
  case atStart => exact ⟨0, a, m, c, [], [], P, by omega, by omega, rfl, rfl, hc, ha, by omega, rfl, H.out, GRow.nil _ _, Ext.refl w⟩
  case round =>
    obtain ⟨i, a, m', c', gs, O, R, hi, hi6, rfl, rfl, hmc, hsl, hmm, hgk, hin, hG, hE⟩ := hrel
    have hOl : O.length = i := by have := groupsK_length P zs i; rw [hgk] at this; exact this
    have HOL := Lib.hid hOl
    have how := hG.2.1
    rw [hOl] at how
    obtain ⟨XS, hXS⟩ : ∃ XS, XS = gs.map Sl.v := ⟨_, rfl⟩
    rw [← hXS] at how
    have HXS := Lib.hid hXS; clear hXS hOl
    have HG := Lib.hid hG; have HE := Lib.hid hE; have HI := Lib.hid hin
    have hRl := hin.1
    have HRL := Lib.hid hRl
    have HGK := Lib.hid hgk
    clear hG hE hin hgk hRl
    have hsz := HE.out.size
    by_cases hgo : i < n2 ∧ i < 6
    · obtain ⟨hlt, hlt6⟩ := hgo
      obtain ⟨b2, o2, rfl, hb2, hcell⟩ := (H2.out.keep HE.out.ik).at i hlt
      have h64 := H2.out.2.2.1 i hlt
      have hnx := fun k hk => groupsK_next P zs i m' k O R HGK.out HRL.out hk
      generalize zs.getD i 0 = z at *
      have hab := aroundF_bd z ((m' : Int) + 1) (by omega)
      obtain ⟨k, hk⟩ : ∃ k : Nat, aroundF z ((m' : Int) + 1) = k := ⟨(aroundF z ((m' : Int) + 1)).toNat, by omega⟩
      rw [hk] at hab
      have hnx := hnx k hk
      have HK := Lib.hid hk; have HNX := Lib.hid hnx; have H64 := Lib.hid h64
      clear hk hnx h64
      have e1 : IntKind.i64.wrap ((m' : Int) + 1) = (m' : Int) + 1 := IntWalk.i64_in _ (by omega)
      have t0 : (i : Int) < (n2 : Int) := by omega
      have t1 : (i : Int) < 6 := by omega
      have k0 : (0 : Int) ≤ (k : Int) := by omega
      have k1 : (k : Int) ≤ (m' : Int) := by omega
      have k2 : (k : Int) ≤ (c' : Int) := by omega
      have hcr := copy_run (c := c') (Blk.at (w := wr) #[] 3 rfl) (sl_take k c' a m' R _ (HI.out.keep (HE.out.alloc _).ik) (by omega)) (by omega)
      obtain ⟨g, cap, w2, hrun, hR, hGr⟩ := hcr
      have hE2 : Ext wr w2 := ext_grown ((Ext.refl wr).alloc _) hGr (fun g hg => by injection hg with hg; omega)
      have hsz2 := hE2.size
      have hgb := owns_lt hR (g := g) rfl
      have hin2 : Ints w2 (some ⟨g, 0, none⟩) k (R.take k) := by
        obtain ⟨a9, c9, he, h9⟩ := hR.ints (by rw [List.length_take, HRL.out]; omega) (fun j hj => by
          rw [List.length_take, HRL.out] at hj
          exact (sl_take k c' a m' R _ HI.out (by omega)).2.2.1 j (by omega))
        rw [List.length_take, HRL.out, Nat.min_eq_left (by omega)] at h9 he
        injection he with he1 he2 he3
        rw [he1]; exact h9
      have HOW := Lib.hid (owns_ext (hE2.alloc (.cells #[.slice (some ⟨g, 0, none⟩) k cap] 22)) how)
      have HIN2 := Lib.hid hin2; have HE2 := Lib.hid hE2
      clear hin2 hE2 hGr hR how
      go_wp2_with fail
      refine (around_c z _ _ (by omega) (by omega) H64.out).mono ?_
      rw [HK.out]
      rintro e w3 ⟨rfl, rfl⟩
      have hfin : ∀ (g2 cap2 : Nat) (w1 : World), w1.ownsRow w.heap.size 22 1 (.slice (some ⟨g2, 0, none⟩) (i + 1) cap2) (i + 1) (XS ++ [.slice (some ⟨g, 0, none⟩) k cap]) → (w2.alloc (.cells #[.slice (some ⟨g, 0, none⟩) k cap] 22)).grownBy w1 u5.ownBlock →
          (u5.ownBlock = some g2 ∨ g2 = (w2.alloc (.cells #[.slice (some ⟨g, 0, none⟩) k cap] 22)).heap.size) → GRow w1 w.heap.size (.slice (some ⟨g2, 0, none⟩) (i + 1) cap2) (gs ++ [⟨some ⟨g, 0, none⟩, k, cap⟩]) (O ++ [R.take k]) ∧ Ext w w1 := fun g2 cap2 w1 hown hgrow hat => by
        have hx := (HE2.out.alloc (.cells #[.slice (some ⟨g, 0, none⟩) k cap] 22))
        have hA := GRow.app HG.out hx (HIN2.out.keep ((Ext.refl w2).alloc _).ik) hgb.1 (by simp; omega) (by rw [HOL.out, ← HXS.out]; exact hown) hgrow hat
        rw [HOL.out] at hA
        exact ⟨hA, ext_grown (HE.out.trans hx) hgrow (fun g hg => (owns_lt HG.out.2.1 hg).1)⟩
      have HFIN := Lib.hid hfin
      clear hfin
      rcases hsl with ⟨rfl, rfl⟩ | ⟨b, off, rfl⟩
      · obtain rfl : m' = 0 := by omega
        obtain rfl : k = 0 := by omega
        go_wp2_with (first | (at_builtin; refine Lib.wpList_append_run _ rfl _ _ _ _ rfl _ _ rfl rfl _ _ hrun ?_) | (at_builtin; refine wpList_append_lies _ rfl _ _ _ rfl w.heap.size 22 j0 _ 1 24 Try.underlying25 hj0 hy0 hy1 hy2 rfl (by omega) _ i XS rfl HOW.out ⟨w2.heap.size, 0, none⟩ 1 1 [.slice (some ⟨g, 0, none⟩) 0 cap] rfl rfl (World.news_of_block (cs := #[.slice (some ⟨g, 0, none⟩) 0 cap]) (t := 22) (fr := (0, 0)) (heap_alloc_new w2 _)) (by simp [Value.oneCell']) (by omega) (by rw [maxLen]; omega) (by omega) (by simp; omega) _ rfl ?_))
        intro g2 cap2 w1 hown hgrow hat hlt1
        have HR := Lib.hid (HFIN.out g2 cap2 w1 hown hgrow (hat.imp id fun h => by rw [h]; simp))
        clear hown hgrow hat HFIN
        go_wp2_with fail
        go_roundw
        case rel => exact ⟨i + 1, _, _, _, _, _, _, by omega, by omega, by go_num, rfl, by omega, .inl ⟨rfl, rfl⟩, by omega, HNX.out, by simpa using HI.out, HR.out.1, HR.out.2⟩
        case measure => simp [intOf]; omega
      · by_cases hck : c' = k
        · subst hck
          obtain rfl : m' = c' := by omega
          go_wp2_with (first | (at_builtin; refine Lib.wpList_append_run _ rfl _ _ _ _ rfl _ _ rfl rfl _ _ hrun ?_) | (at_builtin; refine wpList_append_lies _ rfl _ _ _ rfl w.heap.size 22 j0 _ 1 24 Try.underlying25 hj0 hy0 hy1 hy2 rfl (by omega) _ i XS rfl HOW.out ⟨w2.heap.size, 0, none⟩ 1 1 [.slice (some ⟨g, 0, none⟩) m' cap] rfl rfl (World.news_of_block (cs := #[.slice (some ⟨g, 0, none⟩) m' cap]) (t := 22) (fr := (0, 0)) (heap_alloc_new w2 _)) (by simp [Value.oneCell']) (by omega) (by rw [maxLen]; omega) (by omega) (by simp; omega) _ rfl ?_))
          intro g2 cap2 w1 hown hgrow hat hlt1
          have HR := Lib.hid (HFIN.out g2 cap2 w1 hown hgrow (hat.imp id fun h => by rw [h]; simp))
          clear hown hgrow hat HFIN
          go_wp2_with fail
          go_roundw
          case rel => exact ⟨i + 1, some ⟨b, off, none⟩, 0, 0, _, _, _, by omega, by omega, by go_num, by simp, by omega, .inr ⟨_, _, rfl⟩, by omega, HNX.out, by have h9 := sl_drop m' b off m' R w HI.out (by omega); rw [Nat.sub_self] at h9; exact h9.none0, HR.out.1, HR.out.2⟩
          case measure => simp [intOf]; omega
        · have hck2 : k < c' := by omega
          go_wp2_with (first | (at_builtin; refine Lib.wpList_append_run _ rfl _ _ _ _ rfl _ _ rfl rfl _ _ hrun ?_) | (at_builtin; refine wpList_append_lies _ rfl _ _ _ rfl w.heap.size 22 j0 _ 1 24 Try.underlying25 hj0 hy0 hy1 hy2 rfl (by omega) _ i XS rfl HOW.out ⟨w2.heap.size, 0, none⟩ 1 1 [.slice (some ⟨g, 0, none⟩) k cap] rfl rfl (World.news_of_block (cs := #[.slice (some ⟨g, 0, none⟩) k cap]) (t := 22) (fr := (0, 0)) (heap_alloc_new w2 _)) (by simp [Value.oneCell']) (by omega) (by rw [maxLen]; omega) (by omega) (by simp; omega) _ rfl ?_))
          intro g2 cap2 w1 hown hgrow hat hlt1
          have HR := Lib.hid (HFIN.out g2 cap2 w1 hown hgrow (hat.imp id fun h => by rw [h]; simp))
          clear hown hgrow hat HFIN
          go_wp2_with fail
          go_roundw
          case rel => exact ⟨i + 1, some ⟨b, off + k, none⟩, m' - k, c' - k, _, _, _, by omega, by omega, by go_num, by simp [hck], by omega, .inr ⟨_, _, rfl⟩, by omega, HNX.out, sl_drop k b off m' R w HI.out (by omega), HR.out.1, HR.out.2⟩
          case measure => simp [intOf]; omega
    · have hmin : min zs.length 6 = i := by omega
      have hgf : groupsF P zs = O ++ [R] := by unfold groupsF; rw [hmin, HGK.out]
      have hcr := copy_run (c := c') (Blk.at (w := wr) #[] 3 rfl) (HI.out.keep (HE.out.alloc _).ik) (by omega)
      obtain ⟨g, cap, w2, hrun, hR, hGr⟩ := hcr
      have hE2 : Ext wr w2 := ext_grown ((Ext.refl wr).alloc _) hGr (fun g hg => by injection hg with hg; omega)
      have hsz2 := hE2.size
      have hgb := owns_lt hR (g := g) rfl
      have hin2 : Ints w2 (some ⟨g, 0, none⟩) m' R := by
        obtain ⟨a9, c9, he, h9⟩ := hR.ints (by rw [HRL.out]; omega) (fun j hj => by rw [HRL.out] at hj; exact HI.out.2.2.1 j hj)
        rw [HRL.out] at h9 he
        injection he with he1 he2 he3
        rw [he1]; exact h9
      have HOW := Lib.hid (owns_ext (hE2.alloc (.cells #[.slice (some ⟨g, 0, none⟩) m' cap] 22)) how)
      have HIN2 := Lib.hid hin2; have HE2 := Lib.hid hE2; have HGF := Lib.hid hgf
      clear hin2 hE2 hGr hR how hgf
      have hcond : ¬ ((i : Int) < (n2 : Int) ∧ (i : Int) < 6) := by omega
      have hfin : ∀ (g2 cap2 : Nat) (w1 : World), w1.ownsRow w.heap.size 22 1 (.slice (some ⟨g2, 0, none⟩) (i + 1) cap2) (i + 1) (XS ++ [.slice (some ⟨g, 0, none⟩) m' cap]) → (w2.alloc (.cells #[.slice (some ⟨g, 0, none⟩) m' cap] 22)).grownBy w1 u5.ownBlock →
          (u5.ownBlock = some g2 ∨ g2 = (w2.alloc (.cells #[.slice (some ⟨g, 0, none⟩) m' cap] 22)).heap.size) → GRow w1 w.heap.size (.slice (some ⟨g2, 0, none⟩) (i + 1) cap2) (gs ++ [⟨some ⟨g, 0, none⟩, m', cap⟩]) (O ++ [R]) ∧ Ext w w1 := fun g2 cap2 w1 hown hgrow hat => by
        have hx := (HE2.out.alloc (.cells #[.slice (some ⟨g, 0, none⟩) m' cap] 22))
        have hA := GRow.app HG.out hx (HIN2.out.keep ((Ext.refl w2).alloc _).ik) hgb.1 (by simp; omega) (by rw [HOL.out, ← HXS.out]; exact hown) hgrow hat
        rw [HOL.out] at hA
        exact ⟨hA, ext_grown (HE.out.trans hx) hgrow (fun g hg => (owns_lt HG.out.2.1 hg).1)⟩
      have HFIN := Lib.hid hfin
      clear hfin
      by_cases hlt : i < n2
      · obtain rfl : i = 6 := by omega
        have t0 : (6 : Int) < (n2 : Int) := by omega
        go_wp2_with (first | (at_builtin; refine Lib.wpList_append_run _ rfl _ _ _ _ rfl _ _ rfl rfl _ _ hrun ?_) | (at_builtin; refine wpList_append_lies _ rfl _ _ _ rfl w.heap.size 22 j0 _ 1 24 Try.underlying25 hj0 hy0 hy1 hy2 rfl (by omega) _ 6 XS rfl HOW.out ⟨w2.heap.size, 0, none⟩ 1 1 [.slice (some ⟨g, 0, none⟩) m' cap] rfl rfl (World.news_of_block (cs := #[.slice (some ⟨g, 0, none⟩) m' cap]) (t := 22) (fr := (0, 0)) (heap_alloc_new w2 _)) (by simp [Value.oneCell']) (by omega) (by rw [maxLen]; omega) (by omega) (by simp; omega) _ rfl ?_))
        intro g2 cap2 w1 hown hgrow hat hlt1
        have HR := Lib.hid (HFIN.out g2 cap2 w1 hown hgrow (hat.imp id fun h => by rw [h]; simp))
        clear hown hgrow hat HFIN
        go_wp2_with fail
        go_ret
        exact ⟨_, _, rfl, by rw [HGF.out]; exact HR.out.1, HR.out.2⟩
      · obtain rfl : i = n2 := by omega
        go_wp2_with (first | (at_builtin; refine Lib.wpList_append_run _ rfl _ _ _ _ rfl _ _ rfl rfl _ _ hrun ?_) | (at_builtin; refine wpList_append_lies _ rfl _ _ _ rfl w.heap.size 22 j0 _ 1 24 Try.underlying25 hj0 hy0 hy1 hy2 rfl (by omega) _ i XS rfl HOW.out ⟨w2.heap.size, 0, none⟩ 1 1 [.slice (some ⟨g, 0, none⟩) m' cap] rfl rfl (World.news_of_block (cs := #[.slice (some ⟨g, 0, none⟩) m' cap]) (t := 22) (fr := (0, 0)) (heap_alloc_new w2 _)) (by simp [Value.oneCell']) (by omega) (by rw [maxLen]; omega) (by omega) (by simp; omega) _ rfl ?_))
        intro g2 cap2 w1 hown hgrow hat hlt1
        have HR := Lib.hid (HFIN.out g2 cap2 w1 hown hgrow (hat.imp id fun h => by rw [h]; simp))
        clear hown hgrow hat HFIN
        go_wp2_with fail
        go_ret
        exact ⟨_, _, rfl, by rw [HGF.out]; exact HR.out.1, HR.out.2⟩
end Go.Proofs.Ytlnmgcmpbbklhaa
