/- ExactScaled: the walk. -/
import Derived.Test.YtgmedfloflplgaaE04
import Derived.Test.YtgmedfloflplgaaL06a
import Derived.Test.YtgmedfloflplgaaL06b
import Derived.Test.YtgmedfloflplgaaFPt2
namespace Go.Proofs.Ytgmedfloflplgaa
set_option linter.unusedSimpArgs false
set_option linter.unusedVariables false
open Go.RowKit

def gz (zs : List Int) (i : Nat) : List Pt := (List.range i).map fun k => gridF (pickF zs k 1048576)
theorem gz_succ (zs : List Int) (i : Nat) : gz zs (i + 1) = gz zs i ++ [gridF (pickF zs i 1048576)] := by simp [gz, List.range_succ]
theorem gz_length (zs : List Int) (i : Nat) : (gz zs i).length = i := by simp [gz]
theorem int64_pickz (zs : List Int) (i : Nat) : Int64 (pickF zs i 1048576) := by
  have := pickF_bd zs i 1048576 (by omega)
  exact ⟨by omega, by omega⟩
theorem area_int (a b c : Pt) : cmpI (areaF a.x a.y 1 b.x b.y 1 c.x c.y 1) 0 = sideF a b c := by
  rw [sideF_eq]; unfold areaF S3 S6; simp only [Int.mul_one]
theorem cmpI_lim (x y : Int) : -1 ≤ cmpI x y ∧ cmpI x y ≤ 1 := by unfold cmpI; split <;> (try split) <;> omega
theorem GRow.slot {w : World} {base : Nat} {v : Value} {l : List Pt} (h : GRow encPt 25 w base v l) (hl : 0 < l.length) : ∃ g cap, v = .slice (some ⟨g, 0, none⟩) l.length cap ∧ l.length ≤ cap ∧ cap ≤ maxLen ∧ GAt encPt w g l ∧ base ≤ g ∧ g < w.heap.size := by
  have h' := h
  obtain ⟨h0, ⟨hv, hn⟩ | ⟨g, cap, cur, hv, hb, hh, hle, hc, hsz, htk⟩⟩ := h
  · omega
  · subst hv
    exact ⟨g, cap, rfl, hle, hc, GRow.gat h', hb, lt_of_block hh⟩
/-- The law's three slices. -/
structure Tri3 (w : World) (base : Nat) (vq vs vt : Value) (lq ls lt : List Pt) : Prop where
  q : GRow encPt 25 w base vq lq
  s : GRow encPt 25 w base vs ls
  t : GRow encPt 25 w base vt lt
  qs : Dis vq vs
  qt : Dis vq vt
  st : Dis vs vt
theorem Tri3.ext {w w' : World} {base : Nat} {vq vs vt : Value} {lq ls lt : List Pt} (h : Tri3 w base vq vs vt lq ls lt) (e : Ext w w') : Tri3 w' base vq vs vt lq ls lt := ⟨h.q.ext e, h.s.ext e, h.t.ext e, h.qs, h.qt, h.st⟩
def scS (f : Int) (e : Pt) (l : List Pt) : List Pt := l.map (scP f e)
def swS (f : Int) (e : Pt) (l : List Pt) : List Pt := l.map fun p => swP (scP f e p)
set_option maxRecDepth 100000 in
set_option maxHeartbeats 16000000 in
theorem walkScaled (a0 : Option Addr) (n c : Nat) (zs : List Int) (k x y : Int) (w : World) (h0 : Ints w a0 n zs) (h1 : Int64 k) (h2 : Int64 x) (h3 : Int64 y) :
    Calls Try.prog 5 #[.slice a0 n c, .int .i64 k, .int .i64 x, .int .i64 y] w fun e w' => e = .returned (.bool true) ∧ Ext w w' := by
  have HI := Lib.hid (And.intro h0 (And.intro h1 (And.intro h2 h3)))
  have ha := aroundF_bd k 16777216 (by omega)
  obtain ⟨r, hr⟩ : ∃ r, aroundF k 16777216 = r := ⟨_, rfl⟩
  rw [hr] at ha
  obtain ⟨f, hf⟩ : ∃ f, 1 + r = f := ⟨_, rfl⟩
  have wf : IntKind.i64.wrap (1 + r) = f := by rw [hf]; exact IntWalk.i64_in _ (by omega)
  have HF := Lib.hid (show 1 ≤ f ∧ f ≤ 16777216 by omega)
  have HR := Lib.hid hr
  clear h0 h1 h2 h3 ha hr hf
  obtain ⟨by1, hby1⟩ : ∃ b, boundF x = b := ⟨_, rfl⟩
  obtain ⟨by2, hby2⟩ : ∃ b, boundF y = b := ⟨_, rfl⟩
  obtain ⟨e, he⟩ : ∃ e : Pt, e = ⟨by1, by2⟩ := ⟨_, rfl⟩
  have HB := Lib.hid (And.intro hby1 hby2)
  have HE := Lib.hid (show (-268435456 ≤ e.x ∧ e.x ≤ 268435456) ∧ -268435456 ≤ e.y ∧ e.y ≤ 268435456 by
    rw [he, ← hby1, ← hby2]; exact ⟨boundF_bd x, boundF_bd y⟩)
  have HEE := Lib.hid he
  clear hby1 hby2 he
  go_enter Try.func5, Try.ntmps5
  go_wp2_with fail
  refine (around_c _ _ _ (by omega) (by omega) HI.out.2.1).mono ?_
  rw [HR.out]
  rintro _ w2 ⟨rfl, rfl⟩
  go_wp2_with fail
  refine (bound_c _ _ HI.out.2.2.1).mono ?_
  rw [HB.out.1]
  rintro _ w3 ⟨rfl, rfl⟩
  go_wp2_with fail
  refine (bound_c _ _ HI.out.2.2.2).mono ?_
  rw [HB.out.2]
  rintro _ w4 ⟨rfl, rfl⟩
  obtain ⟨D, hD⟩ : ∃ D, w.heap.size = D := ⟨_, rfl⟩
  go_upto_region 6 with fail
  try rw [hD]
  refine wp_gen (fun W => Ext w W ∧ Blk W D #[.int .i64 e.x, .int .i64 e.y] 25) ⟨(Ext.refl w).alloc _, by rw [HEE.out]; exact Blk.at _ _ hD.symm⟩ ?_
  clear hD HB HEE
  rintro V ⟨EV, BV⟩
  have HV := Lib.hid (And.intro EV BV)
  clear EV BV
  go_wp2_with fail
  go_loopw [9, 10, 11, 14] (fun vq vs vt iv ws => ∃ i : Nat, i ≤ 4 ∧ iv = .int .i64 (i : Int) ∧ Tri3 ws V.heap.size vq vs vt (gz zs i) (scS f e (gz zs i)) (swS f e (gz zs i)) ∧ Ext V ws) (fun _ _ _ v _ => 4 - (intOf v).toNat)
  case atStart => exact ⟨0, by omega, rfl, ⟨GRow.nil _ _ _ _, GRow.nil _ _ _ _, GRow.nil _ _ _ _, Dis.nil _, Dis.nil _, Dis.nil _⟩, Ext.refl V⟩
  case round =>
    obtain ⟨i, hi, rfl, hT, hE⟩ := hrel
    have HT := Lib.hid (And.intro hT hE)
    by_cases hlt : i < 4
    · obtain ⟨p, hp⟩ : ∃ p, gridF (pickF zs i 1048576) = p := ⟨_, rfl⟩
      have HP := Lib.hid (And.intro hp (show Tiny p by rw [← hp]; exact gridF_tiny _))
      have i1 : (i : Int) < 4 := by omega
      have i2 : (0 : Int) ≤ (i : Int) := by omega
      clear hT hE hp
      go_wp2_with fail
      refine (pick_c a0 n c zs _ i _ _ (HI.out.1.keep (HV.out.1.trans HT.out.2).ik) rfl (by omega) (by omega) (by omega)).mono ?_
      rintro _ w2 ⟨rfl, rfl⟩
      go_wp2_with fail
      refine (grid_c _ _ (int64_pickz zs i)).mono ?_
      rintro _ w3 ⟨rfl, hx3⟩
      rw [HP.out.1]
      obtain ⟨b2, hb2⟩ : ∃ b, w3.heap.size = b := ⟨_, rfl⟩
      obtain ⟨w6, hw6⟩ : ∃ w6, w3.alloc (.cells #[.int .i64 p.x, .int .i64 p.y] 25) = w6 := ⟨_, rfl⟩
      have E6 : Ext w3 w6 := by rw [← hw6]; exact (Ext.refl w3).alloc _
      have B6 : Blk w6 b2 #[.int .i64 p.x, .int .i64 p.y] 25 := by rw [← hw6]; exact Blk.at _ _ hb2.symm
      have T6 := HT.out.1.ext (hx3.trans E6)
      have V6 := HT.out.2.trans (hx3.trans E6)
      obtain ⟨v8, w8, hr8, g1, g2, g3, d2, d3, hx8⟩ := app_three V6.size T6.q T6.s T6.t T6.qs T6.qt B6 (by rw [gz_length]; omega) 23
      have HR8 := Lib.hid hr8
      have T8 : Tri3 w8 V.heap.size v8 u10 u11 (gz zs i ++ [p]) (scS f e (gz zs i)) (swS f e (gz zs i)) := ⟨g1, g2, g3, d2, d3, T6.st⟩
      have H8 := Lib.hid (And.intro T8 (hx8 V V6 (Nat.le_refl _)))
      have HW6 := Lib.hid (And.intro hb2 hw6)
      clear hb2 hw6 E6 B6 hr8 g1 g2 g3 d2 d3 hx8 hx3 T6 V6 T8
      go_upto_region 10 with (first | (refine wpList_plain rfl fun _ hK => wp_build1Pt p _ rfl rfl (hK _ _ ?_); rw [HW6.out.1, HW6.out.2]) | (at_builtin; refine wpList_plain rfl fun _ hK => wp_append_runZ _ _ _ _ u9 (.slice (some ⟨b2, 0, none⟩) 1 1) v8 rfl rfl rfl HR8.out (hK _ _ ?_)))
      clear HW6 HR8
      have hl : (gz zs i ++ [p]).length = i + 1 := by rw [List.length_append, gz_length]; rfl
      obtain ⟨m, hm⟩ : ∃ m, i + 1 = m := ⟨_, rfl⟩
      obtain ⟨gq, cq, rfl, hq1, hq2, hq3, hq4, hq5⟩ := H8.out.1.q.slot (by omega)
      rw [hl, hm] at H8 ⊢
      have hget : (gz zs i ++ [p])[i]? = some p := by rw [List.getElem?_append_right (by rw [gz_length]; omega), gz_length]; simp
      have HQC := Lib.hid (hq3.pts2 hget)
      have HC := Lib.hid (fun W (a : Ext V W ∧ W.cell? ⟨gq, i * 2, none⟩ = some (.int .i64 p.x) ∧ W.cell? ⟨gq, i * 2 + 1, none⟩ = some (.int .i64 p.y)) => (show (W.cell? ⟨gq, i * 2, none⟩ = some (.int .i64 p.x) ∧ W.cell? ⟨gq, i * 2 + 1, none⟩ = some (.int .i64 p.y)) ∧ W.cell? ⟨D, 0, none⟩ = some (.int .i64 e.x) ∧ W.cell? ⟨D, 1, none⟩ = some (.int .i64 e.y) from ⟨a.2, (HV.out.2.ext a.1).cell 0, (HV.out.2.ext a.1).cell 1⟩))
      have j1 : (i : Int) < (m : Int) := by omega
      have HM := Lib.hid (And.intro hm hl)
      clear hq1 hq2 hq3 hq4 hq5 hget hm hl
      refine wp_region_held_drew (S := fun W => Ext V W ∧ W.cell? ⟨gq, i * 2, none⟩ = some (.int .i64 p.x) ∧ W.cell? ⟨gq, i * 2 + 1, none⟩ = some (.int .i64 p.y)) (by kernel_rfl) ⟨H8.out.2.drew, HQC.out⟩ (fun hHeld => ?_)
      refine tkW (i := 0) (h := ?_)
      refine tkW (i := 1) (h := ?_)
      refine tkW (i := 2) (h := ?_)
      refine tkW (i := 3) (h := ?_)
      refine tkL (i := 4) (H := HC) (h := ?_)
      refine tkW (i := 5) (h := ?_)
      refine tkL (i := 6) (H := HC) (h := ?_)
      refine ckL (i := 7) (h := fun K hK => ?_)
      go_simp
      go_at_call 26
      refine (rScaled_c p f e _ HP.out.2 HF.out HE.out).mono ?_
      rintro _ v5 ⟨rfl, hx5⟩
      go_wp2_with fail
      have HX5 := Lib.hid (show Ext w8 v5 from (Ext.refl w8).drew.trans hx5)
      refine hK.out _ _ ⟨hHeld.1.trans hx5, HX5.out.cell HQC.out.1, HX5.out.cell HQC.out.2⟩ ?_
      clear hK K hx5
      intro hHeld
      (try simp only [Act.put, List.setIfInBounds_toArray, List.set_cons_zero, List.set_cons_succ])
      obtain ⟨s1, hs1⟩ : ∃ s1, scP f e p = s1 := ⟨_, rfl⟩
      have HS1 := Lib.hid hs1
      rw [hs1]
      clear hs1
      refine ckL (i := 8) (h := fun K hK => ?_)
      rw [if_pos (show Region.wanted _ _ = true by rfl)]
      refine wp_build1Pt s1 _ rfl rfl ?_
      obtain ⟨b3, hb3⟩ : ∃ b, v5.heap.size = b := ⟨_, rfl⟩
      have HB3 := Lib.hid (Blk.at #[.int .i64 s1.x, .int .i64 s1.y] 25 hb3.symm)
      have HY3 := Lib.hid ((Ext.refl v5).alloc (.cells #[.int .i64 s1.x, .int .i64 s1.y] 25))
      rw [hb3]
      clear hb3
      generalize v5.alloc (.cells #[.int .i64 s1.x, .int .i64 s1.y] 25) = v6 at *
      refine hK.out _ _ ⟨hHeld.1.trans HY3.out, HY3.out.cell hHeld.2.1, HY3.out.cell hHeld.2.2⟩ ?_
      clear hK K
      intro hHeld
      (try simp only [Act.put, List.setIfInBounds_toArray, List.set_cons_zero, List.set_cons_succ])
      have T := H8.out.1.ext (HX5.out.trans HY3.out)
      obtain ⟨v9, w9, hr9, g1, g2, g3, d2, d3, hx9⟩ := app_three hHeld.1.size T.s T.q T.t T.qs.symm T.st HB3.out (by unfold scS; rw [List.length_map, gz_length]; omega) 23
      have T9 : Tri3 w9 V.heap.size (.slice (some ⟨gq, 0, none⟩) m cq) v9 u11 (gz zs i ++ [p]) (scS f e (gz zs i) ++ [s1]) (swS f e (gz zs i)) := ⟨g2, g1, g3, d2.symm, T.qt, d3⟩
      have E9 : Ext V w9 := hx9 V hHeld.1 (Nat.le_refl _)
      have H9 := Lib.hid (And.intro T9 E9)
      have hc9 := (GRow.gat g2).pts2 (show (gz zs i ++ [p])[i]? = some p by rw [List.getElem?_append_right (by rw [gz_length]; omega), gz_length]; simp)
      refine ckL (i := 9) (h := fun K hK => ?_)
      rw [if_pos (show Region.wanted _ _ = true by rfl)]
      refine wp_append_runZ _ _ _ _ u10 (.slice (some ⟨b3, 0, none⟩) 1 1) v9 rfl rfl rfl hr9 ?_
      clear hr9 g1 g2 g3 d2 d3 hx9 T9 T
      refine hK.out _ _ ⟨E9, hc9⟩ ?_
      clear hK K hHeld E9 hc9
      intro hHeld
      (try simp only [Act.put, List.setIfInBounds_toArray, List.set_cons_zero, List.set_cons_succ])
      refine tkW (i := 10) (h := ?_)
      refine doneL (by kernel_rfl) ?_
      clear hHeld HB3 HY3 HX5 HC HQC
      have hl : (scS f e (gz zs i) ++ [s1]).length = i + 1 := by unfold scS; rw [List.length_append, List.length_map, gz_length]; rfl
      obtain ⟨gs, cs, rfl, hq1, hq2, hq3, hq4, hq5⟩ := H9.out.1.s.slot (by omega)
      rw [hl, HM.out.1] at H9 ⊢
      have hget : (scS f e (gz zs i) ++ [s1])[i]? = some s1 := by unfold scS; rw [List.getElem?_append_right (by rw [List.length_map, gz_length]; omega), List.length_map, gz_length]; simp
      have HQC := Lib.hid (hq3.pts2 hget)
      have HC := Lib.hid (fun W (a : Ext V W ∧ W.cell? ⟨gs, i * 2, none⟩ = some (.int .i64 s1.x) ∧ W.cell? ⟨gs, i * 2 + 1, none⟩ = some (.int .i64 s1.y)) => (show (W.cell? ⟨gs, i * 2, none⟩ = some (.int .i64 s1.x) ∧ W.cell? ⟨gs, i * 2 + 1, none⟩ = some (.int .i64 s1.y)) from a.2))
      clear hq1 hq2 hq3 hq4 hq5 hget hl
      go_upto_region 11 with fail
      refine wp_region_held_drew (S := fun W => Ext V W ∧ W.cell? ⟨gs, i * 2, none⟩ = some (.int .i64 s1.x) ∧ W.cell? ⟨gs, i * 2 + 1, none⟩ = some (.int .i64 s1.y)) (by kernel_rfl) ⟨H9.out.2.drew, HQC.out⟩ (fun hHeld => ?_)
      refine tkW (i := 0) (h := ?_)
      refine tkW (i := 1) (h := ?_)
      refine tkW (i := 2) (h := ?_)
      refine tkW (i := 3) (h := ?_)
      refine tkW (i := 4) (h := ?_)
      refine tkL (i := 5) (H := HC) (h := ?_)
      refine tkW (i := 6) (h := ?_)
      refine tkW (i := 7) (h := ?_)
      refine tkW (i := 8) (h := ?_)
      refine tkW (i := 9) (h := ?_)
      refine tkL (i := 10) (H := HC) (h := ?_)
      refine tkW (i := 11) (h := ?_)
      obtain ⟨t1, ht1⟩ : ∃ t1, swP s1 = t1 := ⟨_, rfl⟩
      have HT1 := Lib.hid ht1
      clear ht1
      refine ckL (i := 12) (h := fun K hK => ?_)
      rw [if_pos (show Region.wanted _ _ = true by rfl)]
      refine wp_build1Pt t1 _ rfl (by rw [← HT1.out]; rfl) ?_
      obtain ⟨b4, hb4⟩ : ∃ b, w9.drew.heap.size = b := ⟨_, rfl⟩
      have HB4 := Lib.hid (Blk.at #[.int .i64 t1.x, .int .i64 t1.y] 25 hb4.symm)
      have HY4 := Lib.hid ((Ext.refl w9).drew.alloc (.cells #[.int .i64 t1.x, .int .i64 t1.y] 25))
      rw [hb4]
      clear hb4
      generalize w9.drew.alloc (.cells #[.int .i64 t1.x, .int .i64 t1.y] 25) = v10 at *
      refine hK.out _ _ ⟨H9.out.2.trans HY4.out, HY4.out.cell HQC.out.1, HY4.out.cell HQC.out.2⟩ ?_
      clear hK K hHeld
      intro hHeld
      (try simp only [Act.put, List.setIfInBounds_toArray, List.set_cons_zero, List.set_cons_succ])
      have T := H9.out.1.ext HY4.out
      obtain ⟨v11, w11, hr11, g1, g2, g3, d2, d3, hx11⟩ := app_three hHeld.1.size T.t T.q T.s T.qt.symm T.st.symm HB4.out (by unfold swS; rw [List.length_map, gz_length]; omega) 23
      have T11 : Tri3 w11 V.heap.size (.slice (some ⟨gq, 0, none⟩) m cq) (.slice (some ⟨gs, 0, none⟩) m cs) v11 (gz zs i ++ [p]) (scS f e (gz zs i) ++ [s1]) (swS f e (gz zs i) ++ [t1]) := ⟨g2, g3, g1, T.qs, d2.symm, d3.symm⟩
      have E11 : Ext V w11 := hx11 V hHeld.1 (Nat.le_refl _)
      have H11 := Lib.hid (And.intro T11 E11)
      have hc11 := (GRow.gat g3).pts2 (show (scS f e (gz zs i) ++ [s1])[i]? = some s1 by unfold scS; rw [List.getElem?_append_right (by rw [List.length_map, gz_length]; omega), List.length_map, gz_length]; simp)
      refine ckL (i := 13) (h := fun K hK => ?_)
      rw [if_pos (show Region.wanted _ _ = true by rfl)]
      refine wp_append_runZ _ _ _ _ u11 (.slice (some ⟨b4, 0, none⟩) 1 1) v11 rfl rfl rfl hr11 ?_
      clear hr11 g1 g2 g3 d2 d3 hx11 T11 T
      refine hK.out _ _ ⟨E11, hc11⟩ ?_
      clear hK K hHeld E11 hc11
      intro hHeld
      (try simp only [Act.put, List.setIfInBounds_toArray, List.set_cons_zero, List.set_cons_succ])
      refine tkW (i := 14) (h := ?_)
      refine doneL (by kernel_rfl) ?_
      clear hHeld HB4 HY4 HC HQC
      go_wp2_with fail
      go_roundw
      case rel =>
        have e1 : gz zs (i + 1) = gz zs i ++ [p] := by rw [gz_succ, HP.out.1]
        have e2 : scS f e (gz zs (i + 1)) = scS f e (gz zs i) ++ [s1] := by rw [e1, ← HS1.out]; unfold scS; rw [List.map_append]; rfl
        have e3 : swS f e (gz zs (i + 1)) = swS f e (gz zs i) ++ [t1] := by rw [e1, ← HT1.out, ← HS1.out]; unfold swS; rw [List.map_append]; rfl
        exact ⟨i + 1, by omega, by go_num, by rw [e2, e3, e1]; exact H11.out.1, H11.out.2⟩
      case measure => simp [intOf]; omega
    · obtain rfl : i = 4 := by omega
      obtain ⟨q0, q1, q2, q3, hL⟩ := four_of (gz_length zs 4)
      have hti : ∀ p ∈ gz zs 4, Tiny p := fun p hp => by simp [gz] at hp; obtain ⟨k, _, rfl⟩ := hp; exact gridF_tiny _
      rw [hL] at hT hti
      have Q0 := hti q0 (by simp)
      have Q1 := hti q1 (by simp)
      have Q2 := hti q2 (by simp)
      have Q3 := hti q3 (by simp)
      have hlaw := scaled_law HF.out HE.out Q0 Q1 Q2 Q3
      have b0 := sc_valid HF.out HE.out Q0
      have b1 := sc_valid HF.out HE.out Q1
      have b2 := sc_valid HF.out HE.out Q2
      obtain ⟨s0, hs0⟩ : ∃ s, scP f e q0 = s := ⟨_, rfl⟩
      obtain ⟨s1, hs1⟩ : ∃ s, scP f e q1 = s := ⟨_, rfl⟩
      obtain ⟨s2, hs2⟩ : ∃ s, scP f e q2 = s := ⟨_, rfl⟩
      obtain ⟨s3, hs3⟩ : ∃ s, scP f e q3 = s := ⟨_, rfl⟩
      obtain ⟨t0, ht0⟩ : ∃ s, swP s0 = s := ⟨_, rfl⟩
      obtain ⟨t1, ht1⟩ : ∃ s, swP s1 = s := ⟨_, rfl⟩
      obtain ⟨t2, ht2⟩ : ∃ s, swP s2 = s := ⟨_, rfl⟩
      obtain ⟨t3, ht3⟩ : ∃ s, swP s3 = s := ⟨_, rfl⟩
      have eS : scS f e [q0, q1, q2, q3] = [s0, s1, s2, s3] := by rw [← hs0, ← hs1, ← hs2, ← hs3]; rfl
      have eT : swS f e [q0, q1, q2, q3] = [t0, t1, t2, t3] := by rw [← ht0, ← ht1, ← ht2, ← ht3, ← hs0, ← hs1, ← hs2, ← hs3]; rfl
      have hsd : sideF s0 s1 s2 = sideF q0 q1 q2 := by rw [← hs0, ← hs1, ← hs2]; exact sideF_sc (by have := HF.out.1; omega) _ _ _ _
      rw [eS, eT] at hT
      rw [hs0, hs1, hs2, hs3, ht0, ht1, ht2, ht3] at hlaw
      rw [hs0] at b0; rw [hs1] at b1; rw [hs2] at b2
      have hzb := cmpI_lim (S3 q0 q1 q2) 0
      rw [← sideF_eq] at hzb
      obtain ⟨z, hz⟩ : ∃ z, sideF q0 q1 q2 = z := ⟨_, rfl⟩
      obtain ⟨U, I, hUI⟩ : ∃ U I, circK q0 q1 q2 q3 = (U, I) := ⟨_, _, rfl⟩
      rw [hz] at hlaw hsd hzb
      rw [hUI] at hlaw
      have HR0 := Lib.hid (show ∀ w, Calls Try.prog 27 #[q0.v, q1.v, q2.v] w fun e w' => e = .returned (.tuple #[.int .i64 z, .int .i64 0]) ∧ Ext w w' from fun w => by rw [← hz]; exact rsideOf_c q0 q1 q2 w Q0 Q1 Q2)
      have HS1 := Lib.hid (show ∀ w, Calls Try.prog 16 #[q0.v, q1.v, q2.v] w fun e w' => e = .returned (.tuple #[.int .i64 z, .int .i64 0]) ∧ Ext w w' from fun w => by have h := SideOf_c q0 q1 q2 w; rw [hlaw.1] at h; exact h)
      have HS2 := Lib.hid (show ∀ w, Calls Try.prog 16 #[s0.v, s1.v, s2.v] w fun e w' => e = .returned (.tuple #[.int .i64 z, .int .i64 0]) ∧ Ext w w' from fun w => by have h := SideOf_c s0 s1 s2 w; rw [hlaw.2.1] at h; exact h)
      have HS3 := Lib.hid (show ∀ w, Calls Try.prog 16 #[t0.v, t1.v, t2.v] w fun e w' => e = .returned (.tuple #[.int .i64 (-z), .int .i64 0]) ∧ Ext w w' from fun w => by have h := SideOf_c t0 t1 t2 w; rw [hlaw.2.2.1] at h; exact h)
      have HK1 := Lib.hid (show ∀ w, Calls Try.prog 15 #[q0.v, q1.v, q2.v, q3.v] w fun e w' => e = .returned (.tuple #[.int .i64 U, .int .i64 I]) ∧ Ext w w' from fun w => by have h := Circle_c q0 q1 q2 q3 w; rw [hlaw.2.2.2.1] at h; exact h)
      have HK2 := Lib.hid (show ∀ w, Calls Try.prog 15 #[s0.v, s1.v, s2.v, s3.v] w fun e w' => e = .returned (.tuple #[.int .i64 U, .int .i64 I]) ∧ Ext w w' from fun w => by have h := Circle_c s0 s1 s2 s3 w; rw [hlaw.2.2.2.2.1] at h; exact h)
      have HK3 := Lib.hid (show ∀ w, Calls Try.prog 15 #[t0.v, t1.v, t2.v, t3.v] w fun e w' => e = .returned (.tuple #[.int .i64 U, .int .i64 I]) ∧ Ext w w' from fun w => by have h := Circle_c t0 t1 t2 t3 w; rw [hlaw.2.2.2.2.2.1] at h; exact h)
      have HIF := Lib.hid (show I = 1 ↔ z = 0 from hlaw.2.2.2.2.2.2)
      have HSD := Lib.hid (show cmpI (areaF s0.x s0.y 1 s1.x s1.y 1 s2.x s2.y 1) 0 = z by rw [area_int, hsd])
      have HBD := Lib.hid (And.intro b0 (And.intro b1 b2))
      have wz : IntKind.i64.wrap (-z) = -z := IntWalk.i64_in _ (by omega)
      obtain ⟨gq, cq, rfl, x1, x2, xq, x3, x4⟩ := hT.q.slot (by simp)
      obtain ⟨gs, cs, rfl, y1, y2, xs, y3, y4⟩ := hT.s.slot (by simp)
      obtain ⟨gt, ct, rfl, z1, z2, xt, z3, z4⟩ := hT.t.slot (by simp)
      have HQ := Lib.hid (fun W (a : Ext wr W) => (show W.cell? ⟨gq, 0, none⟩ = some (.int .i64 q0.x) ∧ W.cell? ⟨gq, 1, none⟩ = some (.int .i64 q0.y) ∧ W.cell? ⟨gq, 2, none⟩ = some (.int .i64 q1.x) ∧ W.cell? ⟨gq, 3, none⟩ = some (.int .i64 q1.y) ∧ W.cell? ⟨gq, 4, none⟩ = some (.int .i64 q2.x) ∧ W.cell? ⟨gq, 5, none⟩ = some (.int .i64 q2.y) ∧ W.cell? ⟨gq, 6, none⟩ = some (.int .i64 q3.x) ∧ W.cell? ⟨gq, 7, none⟩ = some (.int .i64 q3.y) from ⟨((xq.ext a).pts2 (i := 0) rfl).1, ((xq.ext a).pts2 (i := 0) rfl).2, ((xq.ext a).pts2 (i := 1) rfl).1, ((xq.ext a).pts2 (i := 1) rfl).2, ((xq.ext a).pts2 (i := 2) rfl).1, ((xq.ext a).pts2 (i := 2) rfl).2, ((xq.ext a).pts2 (i := 3) rfl).1, ((xq.ext a).pts2 (i := 3) rfl).2⟩))
      have HS := Lib.hid (fun W (a : Ext wr W) => (show W.cell? ⟨gs, 0, none⟩ = some (.int .i64 s0.x) ∧ W.cell? ⟨gs, 1, none⟩ = some (.int .i64 s0.y) ∧ W.cell? ⟨gs, 2, none⟩ = some (.int .i64 s1.x) ∧ W.cell? ⟨gs, 3, none⟩ = some (.int .i64 s1.y) ∧ W.cell? ⟨gs, 4, none⟩ = some (.int .i64 s2.x) ∧ W.cell? ⟨gs, 5, none⟩ = some (.int .i64 s2.y) ∧ W.cell? ⟨gs, 6, none⟩ = some (.int .i64 s3.x) ∧ W.cell? ⟨gs, 7, none⟩ = some (.int .i64 s3.y) from ⟨((xs.ext a).pts2 (i := 0) rfl).1, ((xs.ext a).pts2 (i := 0) rfl).2, ((xs.ext a).pts2 (i := 1) rfl).1, ((xs.ext a).pts2 (i := 1) rfl).2, ((xs.ext a).pts2 (i := 2) rfl).1, ((xs.ext a).pts2 (i := 2) rfl).2, ((xs.ext a).pts2 (i := 3) rfl).1, ((xs.ext a).pts2 (i := 3) rfl).2⟩))
      have HTT := Lib.hid (fun W (a : Ext wr W) => (show W.cell? ⟨gt, 0, none⟩ = some (.int .i64 t0.x) ∧ W.cell? ⟨gt, 1, none⟩ = some (.int .i64 t0.y) ∧ W.cell? ⟨gt, 2, none⟩ = some (.int .i64 t1.x) ∧ W.cell? ⟨gt, 3, none⟩ = some (.int .i64 t1.y) ∧ W.cell? ⟨gt, 4, none⟩ = some (.int .i64 t2.x) ∧ W.cell? ⟨gt, 5, none⟩ = some (.int .i64 t2.y) ∧ W.cell? ⟨gt, 6, none⟩ = some (.int .i64 t3.x) ∧ W.cell? ⟨gt, 7, none⟩ = some (.int .i64 t3.y) from ⟨((xt.ext a).pts2 (i := 0) rfl).1, ((xt.ext a).pts2 (i := 0) rfl).2, ((xt.ext a).pts2 (i := 1) rfl).1, ((xt.ext a).pts2 (i := 1) rfl).2, ((xt.ext a).pts2 (i := 2) rfl).1, ((xt.ext a).pts2 (i := 2) rfl).2, ((xt.ext a).pts2 (i := 3) rfl).1, ((xt.ext a).pts2 (i := 3) rfl).2⟩))
      have HEW := Lib.hid (HV.out.1.trans hE)
      clear x1 x2 xq x3 x4 y1 y2 xs y3 y4 z1 z2 xt z3 z4 hT hE HT hlaw hsd hzb hz hUI hs0 hs1 hs2 hs3 ht0 ht1 ht2 ht3 eS eT b0 b1 b2 Q0 Q1 Q2 Q3 hti hL HE HF
      simp only [List.length_cons, List.length_nil]
      go_upto_region 12 with fail
      refine wp_region_held_drew (S := fun W => Ext wr W) (by kernel_rfl) ((Ext.refl wr).drew) (fun hHeld => ?_)
      refine tkW (i := 0) (h := ?_)
      refine tkW (i := 1) (h := ?_)
      refine tkL (i := 2) (H := HQ) (h := ?_)
      refine tkW (i := 3) (h := ?_)
      refine tkW (i := 4) (h := ?_)
      refine tkL (i := 5) (H := HQ) (h := ?_)
      refine tkW (i := 6) (h := ?_)
      refine tkW (i := 7) (h := ?_)
      refine tkL (i := 8) (H := HQ) (h := ?_)
      refine ckL (i := 9) (h := fun K hK => ?_); go_simp; go_at_call 27; refine (HR0.out _).mono ?_; rintro _ v12 ⟨rfl, hx12⟩; go_wp2_with fail; refine shG hK (h := ?_); clear hK K; intro hHeld
      have HX12 := Lib.hid hHeld
      clear hx12
      refine tkW (i := 10) (h := ?_)
      refine tkW (i := 11) (h := ?_)
      refine tkW (i := 12) (h := ?_)
      refine tkW (i := 13) (h := ?_)
      refine tkW (i := 14) (h := ?_)
      refine doneL (by kernel_rfl) ?_
      clear hHeld
      go_upto_region 13 with fail
      refine wp_region_held_drew (S := fun W => Ext wr W) (by kernel_rfl) (HX12.out.drew) (fun hHeld => ?_)
      refine tkW (i := 0) (h := ?_)
      refine tkW (i := 1) (h := ?_)
      refine tkL (i := 2) (H := HQ) (h := ?_)
      refine tkW (i := 3) (h := ?_)
      refine tkW (i := 4) (h := ?_)
      refine tkL (i := 5) (H := HQ) (h := ?_)
      refine tkW (i := 6) (h := ?_)
      refine tkW (i := 7) (h := ?_)
      refine tkL (i := 8) (H := HQ) (h := ?_)
      refine ckL (i := 9) (h := fun K hK => ?_); go_simp; go_at_call 16; refine (HS1.out _).mono ?_; rintro _ v13 ⟨rfl, hx13⟩; go_wp2_with fail; refine shG hK (h := ?_); clear hK K; intro hHeld
      have HX13 := Lib.hid hHeld
      clear hx13
      refine tkW (i := 10) (h := ?_)
      refine tkW (i := 11) (h := ?_)
      refine tkW (i := 12) (h := ?_)
      refine tkW (i := 13) (h := ?_)
      refine tkW (i := 14) (h := ?_)
      refine doneL (by kernel_rfl) ?_
      clear hHeld
      go_upto_region 14 with fail
      refine wp_region_held_drew (S := fun W => Ext wr W) (by kernel_rfl) (HX13.out.drew) (fun hHeld => ?_)
      refine tkW (i := 0) (h := ?_)
      refine tkW (i := 1) (h := ?_)
      refine tkL (i := 2) (H := HS) (h := ?_)
      refine tkW (i := 3) (h := ?_)
      refine tkW (i := 4) (h := ?_)
      refine tkL (i := 5) (H := HS) (h := ?_)
      refine tkW (i := 6) (h := ?_)
      refine tkW (i := 7) (h := ?_)
      refine tkL (i := 8) (H := HS) (h := ?_)
      refine ckL (i := 9) (h := fun K hK => ?_); go_simp; go_at_call 16; refine (HS2.out _).mono ?_; rintro _ v14 ⟨rfl, hx14⟩; go_wp2_with fail; refine shG hK (h := ?_); clear hK K; intro hHeld
      have HX14 := Lib.hid hHeld
      clear hx14
      refine tkW (i := 10) (h := ?_)
      refine tkW (i := 11) (h := ?_)
      refine tkW (i := 12) (h := ?_)
      refine tkW (i := 13) (h := ?_)
      refine tkW (i := 14) (h := ?_)
      refine doneL (by kernel_rfl) ?_
      clear hHeld
      go_upto_region 15 with fail
      refine wp_region_held_drew (S := fun W => Ext wr W) (by kernel_rfl) (HX14.out.drew) (fun hHeld => ?_)
      refine tkW (i := 0) (h := ?_)
      refine tkW (i := 1) (h := ?_)
      refine tkL (i := 2) (H := HTT) (h := ?_)
      refine tkW (i := 3) (h := ?_)
      refine tkW (i := 4) (h := ?_)
      refine tkL (i := 5) (H := HTT) (h := ?_)
      refine tkW (i := 6) (h := ?_)
      refine tkW (i := 7) (h := ?_)
      refine tkL (i := 8) (H := HTT) (h := ?_)
      refine ckL (i := 9) (h := fun K hK => ?_); go_simp; go_at_call 16; refine (HS3.out _).mono ?_; rintro _ v15 ⟨rfl, hx15⟩; go_wp2_with fail; refine shG hK (h := ?_); clear hK K; intro hHeld
      have HX15 := Lib.hid hHeld
      clear hx15
      refine tkW (i := 10) (h := ?_)
      refine tkW (i := 11) (h := ?_)
      refine tkW (i := 12) (h := ?_)
      refine tkW (i := 13) (h := ?_)
      refine tkW (i := 14) (h := ?_)
      refine doneL (by kernel_rfl) ?_
      clear hHeld
      go_upto_region 16 with fail
      refine wp_region_held_drew (S := fun W => Ext wr W) (by kernel_rfl) (HX15.out.drew) (fun hHeld => ?_)
      refine tkW (i := 0) (h := ?_)
      refine tkW (i := 1) (h := ?_)
      refine tkL (i := 2) (H := HS) (h := ?_)
      refine tkW (i := 4) (h := ?_)
      refine tkW (i := 5) (h := ?_)
      refine tkL (i := 6) (H := HS) (h := ?_)
      refine tkW (i := 8) (h := ?_)
      refine tkW (i := 9) (h := ?_)
      refine tkL (i := 10) (H := HS) (h := ?_)
      refine ckL (i := 3) (h := fun K hK => ?_); go_simp; go_at_call 29; refine (pOf_c s0.x s0.y 31 _ (by have := HBD.out.1; omega) (by have := HBD.out.1; omega) (by have := HBD.out.1; omega) (by have := HBD.out.1; omega) (by omega) (by have := HBD.out.1; show _ < 2147483648; omega) (by have := HBD.out.1; show _ < 2147483648; omega)).mono ?_; rintro _ w3 ⟨p0, rfl, hp0, hxp0⟩; go_wp2_with fail; refine shG hK (h := ?_); clear hK K; intro hHeld
      refine ckL (i := 7) (h := fun K hK => ?_); go_simp; go_at_call 29; refine (pOf_c s1.x s1.y 31 _ (by have := HBD.out.2.1; omega) (by have := HBD.out.2.1; omega) (by have := HBD.out.2.1; omega) (by have := HBD.out.2.1; omega) (by omega) (by have := HBD.out.2.1; show _ < 2147483648; omega) (by have := HBD.out.2.1; show _ < 2147483648; omega)).mono ?_; rintro _ w4 ⟨p1, rfl, hp1, hxp1⟩; go_wp2_with fail; refine shG hK (h := ?_); clear hK K; intro hHeld
      refine ckL (i := 11) (h := fun K hK => ?_); go_simp; go_at_call 29; refine (pOf_c s2.x s2.y 31 _ (by have := HBD.out.2.2; omega) (by have := HBD.out.2.2; omega) (by have := HBD.out.2.2; omega) (by have := HBD.out.2.2; omega) (by omega) (by have := HBD.out.2.2; show _ < 2147483648; omega) (by have := HBD.out.2.2; show _ < 2147483648; omega)).mono ?_; rintro _ w5 ⟨p2, rfl, hp2, hxp2⟩; go_wp2_with fail; refine shG hK (h := ?_); clear hK K; intro hHeld
      refine ckL (i := 12) (h := fun K hK => ?_)
      go_simp
      go_at_call 28
      refine (Side_c p0 p1 p2 s0.x s0.y 1 s1.x s1.y 1 s2.x s2.y 1 31 _ ((hp0.keep hxp1.ik).keep hxp2.ik) (hp1.keep hxp2.ik) hp2 (by omega)).mono ?_
      rw [HSD.out]
      rintro _ w6 ⟨rfl, hx16⟩
      go_wp2_with fail
      refine shG hK (h := ?_)
      clear hK K hp0 hp1 hp2 hxp0 hxp1 hxp2
      intro hHeld
      have HX16 := Lib.hid hHeld
      clear hx16
      refine tkW (i := 13) (h := ?_)
      refine tkW (i := 14) (h := ?_)
      refine tkW (i := 15) (h := ?_)
      refine tkW (i := 16) (h := ?_)
      refine tkW (i := 17) (h := ?_)
      refine doneL (by kernel_rfl) ?_
      clear hHeld
      go_upto_region 19 with fail
      refine wp_region_held_drew (S := fun W => Ext wr W) (by kernel_rfl) (HX16.out.drew) (fun hHeld => ?_)
      refine tkW (i := 0) (h := ?_)
      refine tkW (i := 1) (h := ?_)
      refine tkL (i := 2) (H := HQ) (h := ?_)
      refine tkW (i := 3) (h := ?_)
      refine tkW (i := 4) (h := ?_)
      refine tkL (i := 5) (H := HQ) (h := ?_)
      refine tkW (i := 6) (h := ?_)
      refine tkW (i := 7) (h := ?_)
      refine tkL (i := 8) (H := HQ) (h := ?_)
      refine tkW (i := 9) (h := ?_)
      refine tkW (i := 10) (h := ?_)
      refine tkL (i := 11) (H := HQ) (h := ?_)
      refine ckL (i := 12) (h := fun K hK => ?_); go_simp; go_at_call 15; refine (HK1.out _).mono ?_; rintro _ v19 ⟨rfl, hx19⟩; go_wp2_with fail; refine shG hK (h := ?_); clear hK K; intro hHeld
      have HX19 := Lib.hid hHeld
      clear hx19
      refine tkW (i := 13) (h := ?_)
      refine tkW (i := 14) (h := ?_)
      refine tkW (i := 15) (h := ?_)
      refine tkW (i := 16) (h := ?_)
      refine tkW (i := 17) (h := ?_)
      refine doneL (by kernel_rfl) ?_
      clear hHeld
      go_upto_region 20 with fail
      refine wp_region_held_drew (S := fun W => Ext wr W) (by kernel_rfl) (HX19.out.drew) (fun hHeld => ?_)
      refine tkW (i := 0) (h := ?_)
      refine tkW (i := 1) (h := ?_)
      refine tkL (i := 2) (H := HS) (h := ?_)
      refine tkW (i := 3) (h := ?_)
      refine tkW (i := 4) (h := ?_)
      refine tkL (i := 5) (H := HS) (h := ?_)
      refine tkW (i := 6) (h := ?_)
      refine tkW (i := 7) (h := ?_)
      refine tkL (i := 8) (H := HS) (h := ?_)
      refine tkW (i := 9) (h := ?_)
      refine tkW (i := 10) (h := ?_)
      refine tkL (i := 11) (H := HS) (h := ?_)
      refine ckL (i := 12) (h := fun K hK => ?_); go_simp; go_at_call 15; refine (HK2.out _).mono ?_; rintro _ v20 ⟨rfl, hx20⟩; go_wp2_with fail; refine shG hK (h := ?_); clear hK K; intro hHeld
      have HX20 := Lib.hid hHeld
      clear hx20
      refine tkW (i := 13) (h := ?_)
      refine tkW (i := 14) (h := ?_)
      refine tkW (i := 15) (h := ?_)
      refine tkW (i := 16) (h := ?_)
      refine tkW (i := 17) (h := ?_)
      refine doneL (by kernel_rfl) ?_
      clear hHeld
      go_upto_region 21 with fail
      refine wp_region_held_drew (S := fun W => Ext wr W) (by kernel_rfl) (HX20.out.drew) (fun hHeld => ?_)
      refine tkW (i := 0) (h := ?_)
      refine tkW (i := 1) (h := ?_)
      refine tkL (i := 2) (H := HTT) (h := ?_)
      refine tkW (i := 3) (h := ?_)
      refine tkW (i := 4) (h := ?_)
      refine tkL (i := 5) (H := HTT) (h := ?_)
      refine tkW (i := 6) (h := ?_)
      refine tkW (i := 7) (h := ?_)
      refine tkL (i := 8) (H := HTT) (h := ?_)
      refine tkW (i := 9) (h := ?_)
      refine tkW (i := 10) (h := ?_)
      refine tkL (i := 11) (H := HTT) (h := ?_)
      refine ckL (i := 12) (h := fun K hK => ?_); go_simp; go_at_call 15; refine (HK3.out _).mono ?_; rintro _ v21 ⟨rfl, hx21⟩; go_wp2_with fail; refine shG hK (h := ?_); clear hK K; intro hHeld
      have HX21 := Lib.hid hHeld
      clear hx21
      refine tkW (i := 13) (h := ?_)
      refine tkW (i := 14) (h := ?_)
      refine tkW (i := 15) (h := ?_)
      refine tkW (i := 16) (h := ?_)
      refine tkW (i := 17) (h := ?_)
      refine doneL (by kernel_rfl) ?_
      clear hHeld
      rcases Classical.em (z = 0) with hz | hz
      · have hI := HIF.out.2 hz
        subst hz; subst hI
        go_wp2_with fail
        refine (lives_c _).mono ?_
        rintro _ w9 ⟨rfl, hx9⟩
        have HX9 := Lib.hid hx9
        clear hx9
        go_wp2_with fail
        go_ret
        exact ⟨rfl, HEW.out.trans (HX21.out.trans HX9.out)⟩
      · have c1 : (I == 1) = false := beq_eq_false_iff_ne.2 fun h => hz (HIF.out.1 h)
        have c2 : (z == 0) = false := beq_eq_false_iff_ne.2 hz
        clear hz
        go_wp2_with fail
        refine (lives_c _).mono ?_
        rintro _ w9 ⟨rfl, hx9⟩
        have HX9 := Lib.hid hx9
        clear hx9
        go_wp2_with fail
        go_ret
        exact ⟨rfl, HEW.out.trans (HX21.out.trans HX9.out)⟩
end Go.Proofs.Ytgmedfloflplgaa
