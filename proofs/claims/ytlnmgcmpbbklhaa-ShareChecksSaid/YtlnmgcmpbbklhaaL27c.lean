/- meresmanlaw27: ShareChecks: the walk. -/
import Derived.Test.YtlnmgcmpbbklhaaS19
import Derived.Test.YtlnmgcmpbbklhaaS16
namespace Go.Proofs.Ytlnmgcmpbbklhaa
open Go.RowKit

/-- Numbers of the call's own, in a block that may be written. -/
structure OwI (w : World) (g n : Nat) (L : List Int) : Prop where
  len : L.length = n
  cells : ∀ i, i < n → w.cell? ⟨g, i, none⟩ = some (.int .i64 (L.getD i 0))
  free : ∀ o, w.frozen? ⟨g, o, none⟩ = false
  lt : g < w.heap.size
theorem VRow.free {w : World} {base g n cap : Nat} {l : List Int} (h : VRow w base (.slice (some ⟨g, 0, none⟩) n cap) l) (o : Nat) : w.frozen? ⟨g, o, none⟩ = false := by
  obtain ⟨h0, ⟨hv, _⟩ | ⟨g', cap', cur, hv, hb, hh, _⟩⟩ := h
  · simp at hv
  · simp at hv
    obtain ⟨rfl, rfl, rfl⟩ := hv
    simp [World.frozen?, hh]
theorem OwI.of {w : World} {base g n cap : Nat} {L : List Int} (h : VRow w base (.slice (some ⟨g, 0, none⟩) n cap) L) (hl : L.length = n) : OwI w g n L :=
  ⟨hl, fun i hi => h.cells i (by omega), VRow.free h, (owns_lt h rfl).2⟩
theorem OwI.set {w : World} {g n j : Nat} {L : List Int} (h : OwI w g n L) (hj : j < n) (y : Int) : OwI (w.setCell ⟨g, j, none⟩ (.int .i64 y)) g n (L.set j y) :=
  ⟨by rw [List.length_set]; exact h.len, fun i hi => by
    by_cases hji : j = i
    · subst hji
      rw [getD_set_eq _ _ _ (by rw [h.len]; exact hj)]
      exact World.cell?_setCell_same' _ _ _ (by rw [h.cells j hj]; rfl)
    · rw [getD_set_ne _ _ _ _ hji, World.cell?_setCell_other _ _ _ _ (by first | (simp; done) | (simp; omega))]
      exact h.cells i hi, fun o => by rw [World.frozen?_setCell]; exact h.free o, by simpa using h.lt⟩
theorem OwI.ints {w : World} {g n : Nat} {L : List Int} (h : OwI w g n L) (hn : n ≤ 1000000) (h64 : ∀ i, i < n → Int64 (L.getD i 0)) : Ints w (some ⟨g, 0, none⟩) n L :=
  ⟨h.len, by omega, h64, .inr ⟨g, 0, rfl, h.lt, fun i hi => by rw [Nat.zero_add]; exact h.cells i hi⟩⟩
theorem bnd_set {L : List Int} {lo hi y : Int} (h : ∀ i, lo ≤ L.getD i 0 ∧ L.getD i 0 ≤ hi) (hy : lo ≤ y ∧ y ≤ hi) (j : Nat) : ∀ i, lo ≤ (L.set j y).getD i 0 ∧ (L.set j y).getD i 0 ≤ hi := fun i => by
  by_cases hji : j = i
  · subst hji
    by_cases hj : j < L.length
    · rw [getD_set_eq _ _ _ hj]; exact hy
    · rw [List.set_eq_of_length_le (by omega)]; exact h j
  · rw [getD_set_ne _ _ _ _ hji]; exact h i
theorem sum_nn {l : List Int} (h : ∀ x, x ∈ l → 0 ≤ x) : 0 ≤ sumI l := by
  induction l with
  | nil => simp [sumI]
  | cons x l ih => have := h x (by simp); have := ih fun y hy => h y (by simp [hy]); simp only [sumI]; omega
theorem lg_bd2 {n : Int} {l : List Int} (h0 : 0 ≤ n) (hw : ∀ x, x ∈ l → 0 ≤ x) (i : Nat) : 0 ≤ (largestF n l).getD i 0 ∧ (largestF n l).getD i 0 ≤ n := by
  have h1 := largestF_nonneg (w := l) h0 hw
  refine ⟨h1 i, ?_⟩
  by_cases hs : n = 0 ∨ sumI l = 0
  · unfold largestF; rw [if_pos hs]
    by_cases hi : i < l.length <;> simp [List.getD_eq_getElem?_getD, List.getElem?_replicate, hi, h0]
  · by_cases hi : i < (largestF n l).length
    · have h2 := mem_le_sum (l := largestF n l) (fun x hx => by obtain ⟨k, _, rfl⟩ := mem_getD hx; exact h1 k) (getD_mem hi)
      have h3 : 0 ≤ sumI l := (sum_nn hw)
      rw [largestF_sum hw (fun _ => by omega)] at h2; exact h2
    · rw [List.getD_eq_getElem?_getD, List.getElem?_eq_none (by omega)]; simpa using h0
theorem Grps.six {w : World} {b : Nat} {s1 s2 s3 s4 s5 s6 : Sl} {l1 l2 l3 l4 l5 l6 : List Int} (hb : At w b #[s1.v, s2.v, s3.v, s4.v, s5.v, s6.v]) (h1 : Ints w s1.a s1.n l1) (h2 : Ints w s2.a s2.n l2) (h3 : Ints w s3.a s3.n l3) (h4 : Ints w s4.a s4.n l4) (h5 : Ints w s5.a s5.n l5) (h6 : Ints w s6.a s6.n l6) :
    Grps w (some ⟨b, 0, none⟩) 6 [s1, s2, s3, s4, s5, s6] [l1, l2, l3, l4, l5, l6] := by
  refine ⟨rfl, rfl, by omega, .inr ⟨b, 0, rfl, hb.lt (by simp), fun i hi => ?_⟩, fun i hi => ?_⟩
  · match i, hi with
    | 0, _ => exact hb 0 (by simp)
    | 1, _ => exact hb 1 (by simp)
    | 2, _ => exact hb 2 (by simp)
    | 3, _ => exact hb 3 (by simp)
    | 4, _ => exact hb 4 (by simp)
    | 5, _ => exact hb 5 (by simp)
  · match i, hi with
    | 0, _ => exact h1
    | 1, _ => exact h2
    | 2, _ => exact h3
    | 3, _ => exact h4
    | 4, _ => exact h5
    | 5, _ => exact h6
theorem clamp_bd (x : Int) : ∃ y z : Int, (if 1099511627776 < x then 1099511627776 else x) = y ∧ (if 0 < y then y else 0) = z ∧ 0 ≤ z ∧ z ≤ 1099511627776 := by
  refine ⟨_, _, rfl, rfl, ?_⟩
  split <;> split <;> omega
set_option maxRecDepth 100000 in
set_option maxHeartbeats 8000000 in
theorem walkChecks (a0 : Option Addr) (n c : Nat) (zs : List Int) (a1 a2 a3 : Int) (a4 : Option Addr) (n4 c4 : Nat) (ys : List Int) (a5 : Int) (w : World) (h0 : Ints w a0 n zs) (h1 : Int64 a1) (h2 : Int64 a2) (h3 : Int64 a3) (h4 : Ints w a4 n4 ys) (h5 : Int64 a5) :
    Calls Try.prog 8 #[.slice a0 n c, .int .i64 a1, .int .i64 a2, .int .i64 a3, .slice a4 n4 c4, .int .i64 a5] w fun e w' => e = .returned (.bool true) ∧ Ext w w' := by
  obtain ⟨i0, hi0, hz0, hz1, hz2⟩ := info_parts intInfo
  have H0 := Lib.hid h0; have H1 := Lib.hid h1; have H2 := Lib.hid h2; have H3 := Lib.hid h3; have H4 := Lib.hid h4; have H5 := Lib.hid h5; clear h0 h1 h2 h3 h4 h5
  go_enter Try.func8, Try.ntmps8
  go_wp2_with fail
  refine (weights_c a0 n c zs 9 _ H0.out (by omega)).mono ?_
  rintro e w1 ⟨v, rfl, hV, hE⟩
  have hwl := weightsF_length zs 9
  have hbd := weightsF_bd zs 9
  obtain ⟨a9, c9, rfl, hin⟩ := hV.ints (by omega) (fun i hi => by have := hbd _ (getD_mem hi); exact ⟨by omega, by omega⟩)
  obtain ⟨tl, htl⟩ : ∃ tl, (weightsF zs 9).length = tl := ⟨_, rfl⟩
  rw [htl] at hwl hin ⊢
  have htl2 : tl ≤ 9 := by omega
  generalize weightsF zs 9 = P at *
  have HIN := Lib.hid hin; have HE := Lib.hid hE; have HBD := Lib.hid hbd; have HTL := Lib.hid htl
  clear hV hin hE hbd hwl htl
  go_wp2_with fail
  refine (units_c a1 _ H1.out).mono ?_
  rintro e w3 ⟨ub, rfl, hub, hur, hx⟩
  have HST := Lib.hid (And.intro (HE.out.trans hx) (And.intro hur (HIN.out.keep hx.ik)))
  have hui := unitsF_int H1.out
  have HUI := Lib.hid hui
  have hul : (unitsF a1).length = 5 := rfl
  have HUL := Lib.hid hul
  clear hx hur hui hul HE HIN hub
  generalize unitsF a1 = U at *
  go_upto_region 4 with (fail)
  go_loopw [15] (fun v ws => ∃ k : Nat, k ≤ 5 ∧ v = .int .i64 (k : Int) ∧ Ext w3 ws) (fun v _ => 5 - (intOf v).toNat)
  case atStart => exact ⟨0, by omega, rfl, Ext.refl _⟩
  case round =>
    obtain ⟨k, hk, rfl, hE⟩ := hrel
    have HE := Lib.hid hE
    by_cases hlt2 : k < 5
    · have t2 : (k : Int) < 5 := by omega
      have t3 : (0 : Int) ≤ (k : Int) := by omega
      have hU := HST.out.2.1.ext hE
      have cu := IRow.cell hU k (by rw [HUL.out]; exact hlt2)
      have h64 := HUI.out k hlt2
      have lu := hU.lt
      have hcu : ∀ W, Ext w3 W → W.cell? ⟨ub, k, none⟩ = some (.int .i64 (U.getD k 0)) := fun W hW => IRow.cell (HST.out.2.1.ext hW) k (by rw [HUL.out]; exact hlt2)
      have HCU := Lib.hid hcu
      clear hcu
      generalize U.getD k 0 = nk at *
      have H64 := Lib.hid h64
      clear hU hE h64
      obtain ⟨k1, k2, hk1, hk2, hk3, hk4⟩ := clamp_bd nk
      go_wp2_with fail
      refine (rlargest_c k2 a9 tl c9 P _ (HST.out.2.2.keep HE.out.ik) hk3 hk4 (fun x hx => by have := HBD.out x hx; omega) (by have := sum_bd P HBD.out; rw [HTL.out] at this; omega) (by omega)).mono ?_
      rintro e w4 ⟨ga, rfl, hga, hrow, hx4⟩
      have hal : (largestF k2 P).length = tl := by rw [largestF_length, HTL.out]
      have hab := lg_bd2 (l := P) hk3 (fun x hx => (HBD.out x hx).1)
      generalize largestF k2 P = A at *
      have hA4 : Ints w4 (some ⟨ga, 0, none⟩) tl A := hrow.ints hal (by omega) (fun i hi => by have := hab i; exact ⟨by omega, by omega⟩)
      have HX4 := Lib.hid (HE.out.trans hx4); have HA4 := Lib.hid hA4; have HAB := Lib.hid hab; have HAL := Lib.hid hal
      clear hk1 hk2 hrow hx4 hA4 hab hal cu hga
      obtain ⟨wk, rfl⟩ : ∃ W, W = wr := ⟨_, rfl⟩
      have hcr := copy_run (c := tl) (Blk.at (w := w4) #[] 3 rfl) (HA4.out.keep ((Ext.refl w4).alloc _).ik) (by omega)
      obtain ⟨gb, capb, w5, hrun, hR, hG⟩ := hcr
      have HE5 := Lib.hid (show Ext w4 w5 from ext_grown ((Ext.refl w4).alloc _) hG (fun g hg => by injection hg with hg; omega))
      have hgb := (owns_lt hR rfl).1
      have HO5 := Lib.hid (OwI.of hR HAL.out)
      clear hR hG
      go_upto_if 42 with (at_builtin; refine Lib.wpList_append_run _ rfl _ _ _ _ rfl _ _ rfl rfl _ _ hrun ?_)
      clear hrun
      go_cut [17] (fun s wx => s = .slice (some ⟨gb, 0, none⟩) tl capb ∧ Ext w4 wx ∧ ∃ B, Ints wx (some ⟨gb, 0, none⟩) tl B)
      case first =>
        by_cases h0 : tl = 0
        · subst h0
          have hA0 : Ints w5 (some ⟨gb, 0, none⟩) 0 A := HO5.out.ints (by omega) (fun i hi => absurd hi (by omega))
          have HA0 := Lib.hid hA0; clear hA0
          go_wp2_with fail
          go_meet
          exact ⟨rfl, HE5.out, A, HA0.out⟩
        · have hj1 := aroundF_bd a2 tl (by omega)
          obtain ⟨j1, hjj1⟩ : ∃ j : Nat, aroundF a2 tl = j := ⟨(aroundF a2 tl).toNat, by omega⟩
          rw [hjj1] at hj1
          have hj1l : j1 < tl := by omega
          have hj2 := aroundF_bd a3 tl (by omega)
          obtain ⟨j2, hjj2⟩ : ∃ j : Nat, aroundF a3 tl = j := ⟨(aroundF a3 tl).toNat, by omega⟩
          rw [hjj2] at hj2
          have hj2l : j2 < tl := by omega
          have cj := HO5.out.cells j1 hj1l
          have fj := HO5.out.free j1
          have lg := HO5.out.lt
          have hz := HAB.out j1
          obtain ⟨z1, hz1⟩ : ∃ z, A.getD j1 0 = z := ⟨_, rfl⟩
          rw [hz1] at cj hz
          have HJ1 := Lib.hid hjj1; have HJ2 := Lib.hid hjj2
          have hb1 := bnd_set (L := A) (lo := -1) (hi := 1099511627776) (y := z1 - 1) (fun i => by have := HAB.out i; omega) (by omega) j1
          have HB1 := Lib.hid hb1
          clear hjj1 hjj2 hz1 hb1
          have p0 : (0 : Int) < (tl : Int) := by omega
          have e1 : IntKind.i64.wrap (z1 - 1) = z1 - 1 := IntWalk.i64_in _ (by omega)
          go_wp2_with fail
          refine (around_c a2 tl _ (by omega) (by omega) H2.out).mono ?_
          rw [HJ1.out]
          rintro e w6 ⟨rfl, rfl⟩
          go_upto_region 10 with (fail)
          refine wp_gen (fun W => Ext w4 W ∧ OwI W gb tl (A.set j1 (z1 - 1))) ⟨HE5.out.setCell hgb _, HO5.out.set hj1l _⟩ ?_
          rintro W ⟨hEW, hOW⟩
          clear cj fj lg e1
          have cj := hOW.cells j2 hj2l
          have fj := hOW.free j2
          have lg := hOW.lt
          have hz := HB1.out j2
          have hb1 := fun y (hy : 0 ≤ y ∧ y ≤ 1099511627777) => bnd_set (L := A.set j1 (z1 - 1)) (lo := -1) (hi := 1099511627777) (y := y) (fun i => by have := HB1.out i; omega) (by omega) j2
          generalize A.set j1 (z1 - 1) = A1 at *
          obtain ⟨z2, hz2⟩ : ∃ z, A1.getD j2 0 = z := ⟨_, rfl⟩
          rw [hz2] at cj hz
          have HB2 := Lib.hid (hb1 (z2 + 1) (by omega))
          have HEW := Lib.hid hEW; have HOW := Lib.hid hOW
          clear hb1 hz2 hEW hOW
          have e1 : IntKind.i64.wrap (z2 + 1) = z2 + 1 := IntWalk.i64_in _ (by omega)
          go_wp2_with fail
          refine (around_c a3 tl _ (by omega) (by omega) H3.out).mono ?_
          rw [HJ2.out]
          rintro e w6 ⟨rfl, rfl⟩
          go_wp2_with fail
          go_meet
          exact ⟨rfl, HEW.out.setCell hgb _, _, (HOW.out.set hj2l _).ints (by omega) (fun i _ => by have := HB2.out i; exact ⟨by omega, by omega⟩)⟩
      case rest =>
        obtain ⟨rfl, hE6, B, hB⟩ := hcut
        obtain ⟨w6, rfl⟩ : ∃ W, W = wc := ⟨_, rfl⟩
        have HE6 := Lib.hid hE6; have HB := Lib.hid hB
        clear hE6 hB HO5 HE5 hgb
        have hcr := copy_run (c := tl) (Blk.at (w := w6) #[] 3 rfl) (HA4.out.keep (HE6.out.alloc _).ik) (by omega)
        obtain ⟨gc, capc, w7, hrun, hR, hG⟩ := hcr
        have HE7 := Lib.hid (show Ext w6 w7 from ext_grown ((Ext.refl w6).alloc _) hG (fun g hg => by injection hg with hg; omega))
        have hgc := (owns_lt hR rfl).1
        have HO7 := Lib.hid (OwI.of hR HAL.out)
        clear hR hG
        go_upto_if 66 with (at_builtin; refine Lib.wpList_append_run _ rfl _ _ _ _ rfl _ _ rfl rfl _ _ hrun ?_)
        clear hrun
        go_cut [18] (fun s wx => s = .slice (some ⟨gc, 0, none⟩) tl capc ∧ Ext w6 wx ∧ ∃ B, Ints wx (some ⟨gc, 0, none⟩) tl B)
        case first =>
          by_cases h0 : tl = 0
          · subst h0
            have hA0 : Ints w7 (some ⟨gc, 0, none⟩) 0 A := HO7.out.ints (by omega) (fun i hi => absurd hi (by omega))
            have HA0 := Lib.hid hA0; clear hA0
            go_wp2_with fail
            go_meet
            exact ⟨rfl, HE7.out, A, HA0.out⟩
          · have hj1 := aroundF_bd a2 tl (by omega)
            obtain ⟨j1, hjj1⟩ : ∃ j : Nat, aroundF a2 tl = j := ⟨(aroundF a2 tl).toNat, by omega⟩
            rw [hjj1] at hj1
            have hj1l : j1 < tl := by omega
            have cj := HO7.out.cells j1 hj1l
            have fj := HO7.out.free j1
            have lg := HO7.out.lt
            generalize A.getD j1 0 = z1 at cj
            have HJ1 := Lib.hid hjj1
            clear hjj1
            have p0 : (0 : Int) < (tl : Int) := by omega
            go_wp2_with fail
            refine (around_c a2 tl _ (by omega) (by omega) H2.out).mono ?_
            rw [HJ1.out]
            rintro e w8 ⟨rfl, rfl⟩
            go_wp2_with fail
            go_meet
            have h5 := H5.out
            obtain ⟨h51, h52⟩ := h5
            exact ⟨rfl, HE7.out.setCell hgc _, _, (HO7.out.set hj1l _).ints (by omega) (fun i _ => by have := bnd_set (L := A) (lo := -9223372036854775808) (hi := 9223372036854775807) (y := a5) (fun i => by have := HAB.out i; omega) (by omega) j1 i; exact ⟨by omega, by omega⟩)⟩
        case rest =>
          obtain ⟨rfl, hE8, C, hC⟩ := hcut
          obtain ⟨w8, rfl⟩ : ∃ W, W = wc := ⟨_, rfl⟩
          have HE8 := Lib.hid hE8; have HC := Lib.hid hC
          clear hE8 hC HO7 HE7 hgc
          have hcr := copy_run (c := tl) (Blk.at (w := w8) #[] 3 rfl) (HA4.out.keep ((HE6.out.trans HE8.out).alloc _).ik) (by omega)
          obtain ⟨gd, capd, w9, hrun, hR, hG⟩ := hcr
          have hE9 : Ext w8 w9 := ext_grown ((Ext.refl w8).alloc _) hG (fun g hg => by injection hg with hg; omega)
          have hs9 := hE9.size
          have HE9 := Lib.hid hE9; have HR9 := Lib.hid hR
          have how := owns_ext ((Ext.refl w9).alloc (.cells #[.int .i64 0] 3)) (show w9.ownsRow w8.heap.size 3 1 (.slice (some ⟨gd, 0, none⟩) tl capd) tl (ivals A) by have h9 := HR9.out; unfold VRow at h9; rw [HAL.out] at h9; exact h9)
          have HOW := Lib.hid how
          have HNW := Lib.hid (ints_news (ints_one w9 0 ⟨by omega, by omega⟩) (by omega))
          clear hR hG hE9 how
          go_wp2_with (first | (at_builtin; refine Lib.wpList_append_run _ rfl _ _ _ _ rfl _ _ rfl rfl _ _ hrun ?_) | (at_builtin; refine wpList_append_lies _ rfl _ _ _ rfl w8.heap.size 3 i0 _ 1 8 Try.underlying22 hi0 hz0 hz1 hz2 rfl (by omega) _ tl _ rfl HOW.out ⟨w9.heap.size, 0, none⟩ 1 1 (ivals [0]) rfl rfl HNW.out (ivals_one _) (by omega) (by rw [maxLen]; omega) (by omega) (by simp; omega) _ rfl ?_))
          intro g2 cap w10 hown hgrow hat hlt1
          rw [← HAL.out] at hown
          have hV : VRow w10 w8.heap.size (.slice (some ⟨g2, 0, none⟩) (tl + 1) cap) (A ++ [0]) := by
            have h9 := VRow.app rfl hown
            rw [HAL.out] at h9
            exact h9
          have hE10 : Ext w8 w10 := ext_grown (HE9.out.alloc _) hgrow (fun g hg => by have h9 := owns_lt HR9.out hg; exact h9.1)
          have hD : Ints w10 (some ⟨g2, 0, none⟩) (tl + 1) (A ++ [0]) := (OwI.of hV (by simp [HAL.out])).ints (by omega) (fun i _ => by
            have h1 := HAB.out i
            have h2 : (A ++ [0]).getD i 0 = A.getD i 0 := by
              rw [List.getD_eq_getElem?_getD, List.getD_eq_getElem?_getD, List.getElem?_append]
              split
              · rfl
              · rename_i hge
                rw [List.getElem?_eq_none (by omega : A.length ≤ i)]
                by_cases h3 : i - A.length = 0
                · rw [h3]; rfl
                · rw [List.getElem?_eq_none (by simp; omega)]
            rw [h2]; exact ⟨by omega, by omega⟩)
          have hE6 := HE6.out
          have hE8 := HE8.out
          have HG6 := Lib.hid (show Ext w3 (w10.alloc (.cells #[.slice (some ⟨ga, 0, none⟩) tl tl, .slice (some ⟨gb, 0, none⟩) tl capb, .slice (some ⟨gc, 0, none⟩) tl capc, .slice a4 n4 c4, .slice (some ⟨g2, 0, none⟩) (tl + 1) cap, .slice none 0 0] 22)) ∧
            Grps (w10.alloc (.cells #[.slice (some ⟨ga, 0, none⟩) tl tl, .slice (some ⟨gb, 0, none⟩) tl capb, .slice (some ⟨gc, 0, none⟩) tl capc, .slice a4 n4 c4, .slice (some ⟨g2, 0, none⟩) (tl + 1) cap, .slice none 0 0] 22)) (some ⟨w10.heap.size, 0, none⟩) 6
              [⟨some ⟨ga, 0, none⟩, tl, tl⟩, ⟨some ⟨gb, 0, none⟩, tl, capb⟩, ⟨some ⟨gc, 0, none⟩, tl, capc⟩, ⟨a4, n4, c4⟩, ⟨some ⟨g2, 0, none⟩, tl + 1, cap⟩, ⟨none, 0, 0⟩] [A, B, C, ys, A ++ [0], []] from
            ⟨(HX4.out.trans (hE6.trans (hE8.trans hE10))).alloc _, Grps.six (Blk.at _ _ rfl).at' (HA4.out.keep ((hE6.trans (hE8.trans hE10)).alloc _).ik) (HB.out.keep ((hE8.trans hE10).alloc _).ik) (HC.out.keep (hE10.alloc _).ik)
              (H4.out.keep ((HST.out.1.trans (HX4.out.trans (hE6.trans (hE8.trans hE10)))).alloc _).ik) (hD.keep ((Ext.refl w10).alloc _).ik) ⟨rfl, Nat.zero_le _, fun i hi => absurd hi (Nat.not_lt_zero _), .inl rfl⟩⟩)
          obtain ⟨lb, hlb⟩ : ∃ b, w10.heap.size = b := ⟨_, rfl⟩
          rw [hlb] at HG6
          generalize hgs : ([⟨some ⟨ga, 0, none⟩, tl, tl⟩, ⟨some ⟨gb, 0, none⟩, tl, capb⟩, ⟨some ⟨gc, 0, none⟩, tl, capc⟩, ⟨a4, n4, c4⟩, ⟨some ⟨g2, 0, none⟩, tl + 1, cap⟩, ⟨none, 0, 0⟩] : List Sl) = gs at *
          generalize hFs : ([A, B, C, ys, A ++ [0], []] : List (List Int)) = Fs at *
          clear hgs hFs hown hgrow hat hV hD hE10 hE6 hE8 HOW HNW HR9 hs9
          go_upto_region 16 with (fail)
          try rw [hlb]
          go_loopw [20] (fun v ws => ∃ i : Nat, i ≤ 6 ∧ v = .int .i64 (i : Int) ∧ Ext w3 ws ∧ Grps ws (some ⟨lb, 0, none⟩) 6 gs Fs) (fun v _ => 6 - (intOf v).toNat)
          case atStart => exact ⟨0, by omega, rfl, HG6.out⟩
          case round =>
            obtain ⟨i, hi, rfl, hE, hGr⟩ := hrel
            by_cases hlt : i < 6
            · have t0 : (i : Int) < 6 := by omega
              have t1 : (0 : Int) ≤ (i : Int) := by omega
              have cu := HCU.out wr hE
              obtain ⟨b, off, he, hb, hc⟩ := hGr.at i hlt
              injection he with he; injection he with e1 e2
              subst e1; subst e2
              rw [Nat.zero_add] at hc
              have hin := hGr.2.2.2.2 i hlt
              generalize gs.getD i sl0 = sg at *
              generalize Fs.getD i [] = L at *
              obtain ⟨la, ln, lc⟩ := sg
              simp only at hin hc
              have HINL := Lib.hid hin; have HK := Lib.hid (And.intro hE hGr); have HP9 := Lib.hid (HST.out.2.2.keep hE.ik)
              obtain ⟨cf, hcf⟩ : ∃ x, checkF nk P L = x := ⟨_, rfl⟩
              have HCF := Lib.hid hcf
              clear hin hE hGr hcf
              have E0 : Ext wr wr := Ext.refl wr
              go_upto_region 18 with (fail)
              refine wp_region_held_drew (S := fun w' => Ext wr w' ∧ w'.cell? ⟨ub, k, none⟩ = some (.int .i64 nk) ∧ w'.cell? ⟨lb, i, none⟩ = some (.slice la ln lc)) (by kernel_rfl) ?_ (fun hHeld => ?_)
              · exact ⟨E0.drew, cu, hc⟩
              refine takeL (i := 0) (v := ?_) rfl (by kernel_rfl) (by kernel_rfl) (by kernel_rfl) (fun _ _ _ h => h) (Or.inl ⟨by rfl, ?_⟩) (by assumption) ?_; rotate_left; (focus (intro wq hSw; (try dsimp only at hSw); go_simp; try with_reducible rfl)); (try simp only [Act.put, List.setIfInBounds_toArray, List.set_cons_zero, List.set_cons_succ])
              refine takeL (i := 1) (v := ?_) rfl (by kernel_rfl) (by kernel_rfl) (by kernel_rfl) (fun _ _ _ h => h) (Or.inl ⟨by rfl, ?_⟩) (by assumption) ?_; rotate_left; (focus (intro wq hSw; (try dsimp only at hSw); go_simp; try with_reducible rfl)); (try simp only [Act.put, List.setIfInBounds_toArray, List.set_cons_zero, List.set_cons_succ])
              refine takeL (i := 2) (v := ?_) rfl (by kernel_rfl) (by kernel_rfl) (by kernel_rfl) (fun _ _ _ h => h) (Or.inl ⟨by rfl, ?_⟩) (by assumption) ?_; rotate_left; (focus (intro wq hSw; (try dsimp only at hSw); go_simp; try with_reducible rfl)); (try simp only [Act.put, List.setIfInBounds_toArray, List.set_cons_zero, List.set_cons_succ])
              refine takeL (i := 3) (v := ?_) rfl (by kernel_rfl) (by kernel_rfl) (by kernel_rfl) (fun _ _ _ h => h) (Or.inl ⟨by rfl, ?_⟩) (by assumption) ?_; rotate_left; (focus (intro wq hSw; (try dsimp only at hSw); go_simp; try with_reducible rfl)); (try simp only [Act.put, List.setIfInBounds_toArray, List.set_cons_zero, List.set_cons_succ])
              refine takeL (i := 4) (v := ?_) rfl (by kernel_rfl) (by kernel_rfl) (by kernel_rfl) (fun _ _ _ h => h) (Or.inl ⟨by rfl, ?_⟩) (by assumption) ?_; rotate_left; (focus (intro wq hSw; (try dsimp only at hSw); go_simp; try with_reducible rfl)); (try simp only [Act.put, List.setIfInBounds_toArray, List.set_cons_zero, List.set_cons_succ])
              refine takeL (i := 5) (v := ?_) rfl (by kernel_rfl) (by kernel_rfl) (by kernel_rfl) (fun _ _ _ h => h) (Or.inl ⟨by rfl, ?_⟩) (by assumption) ?_; rotate_left; (focus (intro wq hSw; (try dsimp only at hSw); go_simp; try with_reducible rfl)); (try simp only [Act.put, List.setIfInBounds_toArray, List.set_cons_zero, List.set_cons_succ])
              refine takeL (i := 6) (v := ?_) rfl (by kernel_rfl) (by kernel_rfl) (by kernel_rfl) (fun _ _ _ h => h) (Or.inl ⟨by rfl, ?_⟩) (by assumption) ?_; rotate_left; (focus (intro wq hSw; (try dsimp only at hSw); go_simp; try with_reducible rfl)); (try simp only [Act.put, List.setIfInBounds_toArray, List.set_cons_zero, List.set_cons_succ])
              refine takeL (i := 7) (v := ?_) rfl (by kernel_rfl) (by kernel_rfl) (by kernel_rfl) (fun _ _ _ h => h) (Or.inl ⟨by rfl, ?_⟩) (by assumption) ?_; rotate_left; (focus (intro wq hSw; (try dsimp only at hSw); go_simp; try with_reducible rfl)); (try simp only [Act.put, List.setIfInBounds_toArray, List.set_cons_zero, List.set_cons_succ])
              refine takeL (i := 8) (v := ?_) rfl (by kernel_rfl) (by kernel_rfl) (by kernel_rfl) (fun _ _ _ h => h) (Or.inl ⟨by rfl, ?_⟩) (by assumption) ?_; rotate_left; (focus (intro wq hSw; (try dsimp only at hSw); go_simp; try with_reducible rfl)); (try simp only [Act.put, List.setIfInBounds_toArray, List.set_cons_zero, List.set_cons_succ])
              refine takeL (i := 10) (v := ?_) rfl (by kernel_rfl) (by kernel_rfl) (by kernel_rfl) (fun _ _ _ h => h) (Or.inl ⟨by rfl, ?_⟩) (by assumption) ?_; rotate_left; (focus (intro wq hSw; (try dsimp only at hSw); go_simp; try with_reducible rfl)); (try simp only [Act.put, List.setIfInBounds_toArray, List.set_cons_zero, List.set_cons_succ])
              refine takeL (i := 11) (v := ?_) rfl (by kernel_rfl) (by kernel_rfl) (by kernel_rfl) (fun _ _ _ h => h) (Or.inl ⟨by rfl, ?_⟩) (by assumption) ?_; rotate_left; (focus (intro wq hSw; (try dsimp only at hSw); go_simp; try with_reducible rfl)); (try simp only [Act.put, List.setIfInBounds_toArray, List.set_cons_zero, List.set_cons_succ])
              refine takeL (i := 12) (v := ?_) rfl (by kernel_rfl) (by kernel_rfl) (by kernel_rfl) (fun _ _ _ h => h) (Or.inl ⟨by rfl, ?_⟩) (by assumption) ?_; rotate_left; (focus (intro wq hSw; (try dsimp only at hSw); go_simp; try with_reducible rfl)); (try simp only [Act.put, List.setIfInBounds_toArray, List.set_cons_zero, List.set_cons_succ])
              refine takeL (i := 13) (v := ?_) rfl (by kernel_rfl) (by kernel_rfl) (by kernel_rfl) (fun _ _ _ h => h) (Or.inl ⟨by rfl, ?_⟩) (by assumption) ?_; rotate_left; (focus (intro wq hSw; (try dsimp only at hSw); go_simp; try with_reducible rfl)); (try simp only [Act.put, List.setIfInBounds_toArray, List.set_cons_zero, List.set_cons_succ])
              refine takeL (i := 14) (v := ?_) rfl (by kernel_rfl) (by kernel_rfl) (by kernel_rfl) (fun _ _ _ h => h) (Or.inl ⟨by rfl, ?_⟩) (by assumption) ?_; rotate_left; (focus (intro wq hSw; (try dsimp only at hSw); go_simp; try with_reducible rfl)); (try simp only [Act.put, List.setIfInBounds_toArray, List.set_cons_zero, List.set_cons_succ])
              refine takeL (i := 15) (v := ?_) rfl (by kernel_rfl) (by kernel_rfl) (by kernel_rfl) (fun _ _ _ h => h) (Or.inl ⟨by rfl, ?_⟩) (by assumption) ?_; rotate_left; (focus (intro wq hSw; (try dsimp only at hSw); go_simp; try with_reducible rfl)); (try simp only [Act.put, List.setIfInBounds_toArray, List.set_cons_zero, List.set_cons_succ])
              refine takeL (i := 16) (v := ?_) rfl (by kernel_rfl) (by kernel_rfl) (by kernel_rfl) (fun _ _ _ h => h) (Or.inl ⟨by rfl, ?_⟩) (by assumption) ?_; rotate_left; (focus (intro wq hSw; (try dsimp only at hSw); go_simp; try with_reducible rfl)); (try simp only [Act.put, List.setIfInBounds_toArray, List.set_cons_zero, List.set_cons_succ])
              refine takeL (i := 17) (v := ?_) rfl (by kernel_rfl) (by kernel_rfl) (by kernel_rfl) (fun _ _ _ h => h) (Or.inl ⟨by rfl, ?_⟩) (by assumption) ?_; rotate_left; (focus (intro wq hSw; (try dsimp only at hSw); go_simp; try with_reducible rfl)); (try simp only [Act.put, List.setIfInBounds_toArray, List.set_cons_zero, List.set_cons_succ])
              refine takeL (i := 18) (v := ?_) rfl (by kernel_rfl) (by kernel_rfl) (by kernel_rfl) (fun _ _ _ h => h) (Or.inl ⟨by rfl, ?_⟩) (by assumption) ?_; rotate_left; (focus (intro wq hSw; (try dsimp only at hSw); go_simp; try with_reducible rfl)); (try simp only [Act.put, List.setIfInBounds_toArray, List.set_cons_zero, List.set_cons_succ])
              refine consL (i := 9) (by kernel_rfl) rfl (fun K hK => ?_); go_simp; go_at_call 25; refine (Check_c nk a9 tl c9 P la ln lc L _ (HP9.out.keep (Ext.ik (And.left (by assumption)))) (HINL.out.keep (Ext.ik (And.left (by assumption)))) (by omega)).mono ?_; rw [HCF.out]; rintro e w11 ⟨rfl, hx11⟩; go_wp2_with fail; refine hK.out _ _ ?_ (fun hHeld => ?_); rotate_left; clear hK K; rotate_right; (focus (try dsimp only); refine (fun hq => ⟨hq, Ext.cell hq cu, Ext.cell hq hc⟩ : Ext wr _ → _) ?_; repeat' (first | with_reducible assumption | with_reducible exact And.left (by assumption) | with_reducible refine Ext.drew ?_ | with_reducible refine Ext.alloc ?_ _ | with_reducible exact Ext.trans (And.left (by assumption)) (by assumption))); (try simp only [Act.put, List.setIfInBounds_toArray, List.set_cons_zero, List.set_cons_succ])
              refine consL (i := 19) (by kernel_rfl) rfl (fun K hK => ?_); go_simp; go_at_call 26; refine (rCheck_c nk a9 tl c9 P la ln lc L _ (HP9.out.keep (Ext.ik (And.left (by assumption)))) (HINL.out.keep (Ext.ik (And.left (by assumption)))) (by omega)).mono ?_; rw [HCF.out]; rintro e w12 ⟨rfl, hx12⟩; go_wp2_with fail; refine hK.out _ _ ?_ (fun hHeld => ?_); rotate_left; clear hK K; rotate_right; (focus (try dsimp only); refine (fun hq => ⟨hq, Ext.cell hq cu, Ext.cell hq hc⟩ : Ext wr _ → _) ?_; repeat' (first | with_reducible assumption | with_reducible exact And.left (by assumption) | with_reducible refine Ext.drew ?_ | with_reducible refine Ext.alloc ?_ _ | with_reducible exact Ext.trans (And.left (by assumption)) (by assumption))); (try simp only [Act.put, List.setIfInBounds_toArray, List.set_cons_zero, List.set_cons_succ])
              refine takeL (i := 20) (v := ?_) rfl (by kernel_rfl) (by kernel_rfl) (by kernel_rfl) (fun _ _ _ h => h) (Or.inl ⟨by rfl, ?_⟩) (by assumption) ?_; rotate_left; (focus (intro wq hSw; (try dsimp only at hSw); go_simp; try with_reducible rfl)); (try simp only [Act.put, List.setIfInBounds_toArray, List.set_cons_zero, List.set_cons_succ])
              refine doneL (by kernel_rfl) ?_
              have HEE := Lib.hid (And.left hHeld)
              clear hHeld
              go_wp2_with fail
              go_roundw
              case rel => exact ⟨i + 1, by omega, by go_num, HK.out.1.trans HEE.out, HK.out.2.ext HEE.out⟩
              case measure => simp [intOf]; omega
            · obtain rfl : i = 6 := by omega
              have HEE := Lib.hid hE; clear hE hGr
              go_wp2_with fail
              go_roundw
              case rel => exact ⟨k + 1, by omega, by go_num, HEE.out⟩
              case measure => simp [intOf]; omega
    · obtain rfl : k = 5 := by omega
      go_wp2_with fail
      refine (lives27_c _).mono ?_
      rintro e w6 ⟨rfl, hx⟩
      have HX := Lib.hid ((HST.out.1.trans HE.out).trans hx); clear hx
      go_wp2_with fail
      go_ret
      exact ⟨rfl, HX.out⟩
end Go.Proofs.Ytlnmgcmpbbklhaa
