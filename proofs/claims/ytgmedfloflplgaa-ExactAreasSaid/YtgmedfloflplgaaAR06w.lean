/- meresmanref06: Points, its walk. -/
import Derived.Test.YtgmedfloflplgaaWT
import Derived.Test.YtgmedfloflplgaaAR06r
import Derived.Test.YtgmedfloflplgaaWS
namespace Go.Proofs.Ytgmedfloflplgaa
set_option linter.unusedSimpArgs false
set_option linter.unusedVariables false
open Go.RowKit

/-- Four points are returned, in a slice of the call's own. -/
def RetPts (l : List RP) (w : World) (e : Ending) (w' : World) : Prop := ∃ g cap, e = .returned (.slice (some ⟨g, 0, none⟩) 4 cap) ∧ GAt encRP w' g l ∧ (∀ o, w'.frozen? ⟨g, o, none⟩ = false) ∧ w.heap.size ≤ g ∧ g < w'.heap.size ∧ Ext w w'
theorem int64_pk (zs : List Int) (i : Nat) : Int64 (pickF zs i 1048576) := by
 have := pickF_bd zs i 1048576 (by omega)
 exact ⟨by omega, by omega⟩
theorem gfree_ext {w w' : World} (h : Ext w w') {b o : Nat} (hb : b < w.heap.size) (hf : w.frozen? ⟨b, o, none⟩ = false) : w'.frozen? ⟨b, o, none⟩ = false := by rw [h.see.2.1 b o hb]; exact hf
theorem At.off {w : World} {b o : Nat} {u : Value} {cs : Array Value} (h : At w b cs) (ho : cs.size ≤ o) : At (w.setCell ⟨b, o, none⟩ u) b cs := fun i hi => by
 rw [World.cell?_setCell_other _ _ _ _ (by intro e; injection e with _ e2; omega)]; exact h i hi
theorem mid12_c (a b : RP) (w : World) (ha : RIn a 12) (hb : RIn b 12) : Calls Try.prog 40 #[a.v, b.v] w fun e w' => e = .returned (midF a b).v ∧ Ext w w' := by
 have p := den_mul ha.d1 ha.dm hb.d1 hb.dm
 have x1 := box_mul ha.x1 ha.x2 hb.d1
 have x2 := box_mul hb.x1 hb.x2 ha.d1
 have y1 := box_mul ha.y1 ha.y2 hb.d1
 have y2 := box_mul hb.y1 hb.y2 ha.d1
 rw [Int.mul_comm b.d a.d] at x2 y2
 have hd := ha.dm
 refine mid5_c a b w ⟨by omega, by omega⟩ ⟨by omega, by omega⟩ ⟨by omega, by omega⟩ ⟨by omega, by omega⟩ ?_ ha.d1 hb.d1 (by omega)
 rw [Int.mul_assoc]
 exact ⟨by omega, by omega⟩
set_option maxRecDepth 100000 in
set_option maxHeartbeats 8000000 in
theorem points_c (a : Option Addr) (n c : Nat) (zs : List Int) (w : World) (h0 : Ints w a n zs) : Calls Try.prog 31 #[.slice a n c] w (RetPts (pointsF zs) w) := by
 obtain ⟨i0, hi0, hz0, hz1, hz2⟩ := info_parts rpInfo
 have H0 := Lib.hid h0; clear h0
 go_enter Try.func31, Try.ntmps31
 go_wp2_with fail
 go_loopw [3, 4] (fun qv iv ws => ∃ i : Nat, i ≤ 4 ∧ iv = .int .i64 (i : Int) ∧ GRow encRP 68 ws w.heap.size qv (someL zs i) ∧ Ext w ws) (fun _ v _ => 4 - (intOf v).toNat)
 case atStart => exact ⟨0, by omega, rfl, GRow.nil encRP 68 w _, Ext.refl w⟩
 case round =>
  obtain ⟨i, hi, rfl, hP, hE⟩ := hrel
  have HP := Lib.hid hP; have HE := Lib.hid hE; clear hP
  have hsz := hE.size
  by_cases hlt : i < 4
  ·clear hE
   go_wp2_with fail
   refine (pick_c a n c zs _ i _ _ (H0.out.keep HE.out.ik) rfl (by omega) (by omega) (by omega)).mono ?_
   rintro e w2 ⟨rfl, rfl⟩
   go_wp2_with fail
   refine (some_c _ _ (int64_pk zs i)).mono ?_
   rintro e w3 ⟨rfl, hx3⟩
   have hE3 := HE.out.trans hx3
   have hs3 := hE3.size
   have hP3 := Lib.hid (HP.out.ext hx3)
   have HE3 := Lib.hid hE3
   clear hx3 hE3
   obtain ⟨p, hp⟩ : ∃ p, someF (pickF zs i 1048576) = p := ⟨_, rfl⟩
   rw [hp]
   have HV := Lib.hid (show someL zs (i + 1) = someL zs i ++ [p] by rw [← hp]; rfl)
   clear hp
   have hnw := Lib.hid (gAt_one (F := encRP) (a := p) (w := w3.alloc (.cells #[.int .i64 p.x, .int .i64 p.y, .int .i64 p.d] 68)) (b := w3.heap.size) (fun j hj => by
    have hj3 : j < 3 := hj
    rw [Blk.cell (Blk.at _ 68 rfl)]
    rcases (show j = 0 ∨ j = 1 ∨ j = 2 by omega) with rfl | rfl | rfl <;> rfl))
   go_wp2_with (refine wpList_append_lies _ rfl _ _ _ rfl w.heap.size 68 i0 _ 3 24 Try.underlying56 hi0 hz0 hz1 hz2 rfl (by omega) _ _ _ rfl (hP3.out.ext (by repeat (first | exact Ext.refl _ | assumption | refine Ext.setCell ?_ (by first | (simp; done) | (simp; omega) | omega) _ | refine Ext.alloc ?_ _ | refine Ext.drew ?_ | refine Ext.trans ?_ (by assumption)))) ⟨w3.heap.size, 0, none⟩ 1 1 (gcells encRP [p]) rfl rfl (gnews_at hnw.out) (gcells_one _ _) (by omega) (by rw [someL_length, maxLen]; omega) (by rw [someL_length]; omega) (by simp; omega) _ rfl ?_)
   intro g cap w1 hown hgrow hat hlt1
   have hR := Lib.hid (show GRow encRP 68 w1 w.heap.size (.slice (some ⟨g, 0, none⟩) ((someL zs i).length + 1) cap) (someL zs (i + 1)) ∧ Ext w w1 from
    ⟨by rw [HV.out]; exact GRow.app hown rfl, gext_grown (HE3.out.alloc _) hgrow (fun g hg => (gowns_lt HP.out hg).1)⟩)
   clear hown hgrow hat
   go_wp2_with fail
   go_roundw
   case rel => exact ⟨i + 1, by omega, by go_num, hR.out.1, hR.out.2⟩
   case measure => simp [intOf]; omega
  ·obtain rfl : i = 4 := by omega
   obtain ⟨g, cap, rfl, hgb, hgl⟩ := World.ownsRow.form HP.out (by rw [someL_length]; omega)
   rw [someL_length]
   have hq : GAt encRP wr g [someF (pickF zs 0 1048576), someF (pickF zs 1 1048576), someF (pickF zs 2 1048576), someF (pickF zs 3 1048576)] := HP.out.gat
   have HFR := Lib.hid HP.out.free
   have hi0 := someF_in (pickF zs 0 1048576)
   have hi1 := someF_in (pickF zs 1 1048576)
   have hv := pointsF.eq_1 zs
   have k4 := pickF_bd zs 4 5 (by omega)
   have k5 := pickF_bd zs 5 4 (by omega)
   have k6 := pickF_bd zs 6 4 (by omega)
   clear HP hE
   generalize someF (pickF zs 0 1048576) = r0 at *
   generalize someF (pickF zs 1 1048576) = r1 at *
   generalize someF (pickF zs 2 1048576) = r2 at *
   generalize someF (pickF zs 3 1048576) = r3 at *
   obtain ⟨m, hm⟩ : ∃ m, midF r0 r1 = m := ⟨_, rfl⟩
   rw [hm] at hv
   have HM := Lib.hid hm
   have HA := Lib.hid hq.four
   have HQ := Lib.hid hq
   have HR := Lib.hid (And.intro hi0 hi1)
   clear hm hq hi0 hi1
   generalize hk4 : pickF zs 4 5 = x4 at k4 hv
   generalize hk5 : pickF zs 5 4 = x5 at k5 hv
   generalize hk6 : pickF zs 6 4 = x6 at k6 hv
   have HK := Lib.hid (And.intro hk4 (And.intro hk5 hk6))
   clear hk4 hk5 hk6
   rcases (show x4 = 0 ∨ x4 = 1 ∨ x4 = 2 ∨ x4 = 3 ∨ x4 = 4 by omega) with rfl | rfl | rfl | rfl | rfl
   ·rw [if_pos rfl] at hv
    have HV := Lib.hid hv
    clear hv k4 k5 k6
    go_wp2_with fail
    refine (pick_c a n c zs _ 4 _ _ (H0.out.keep HE.out.ik) rfl (by omega) (by omega) (by omega)).mono ?_
    rw [HK.out.1]
    rintro e w2 ⟨rfl, rfl⟩
    go_upto_region 8 with (fail)
    refine wp_region_held_drew (S := fun W => Ext w W ∧ At W g #[.int .i64 r0.x, .int .i64 r0.y, .int .i64 r0.d, .int .i64 r1.x, .int .i64 r1.y, .int .i64 r1.d]) (by kernel_rfl) ⟨HE.out.drew, fun o ho => (by have := HA.out o (by simp at ho ⊢; omega); match o, ho with | 0, _ => exact this | 1, _ => exact this | 2, _ => exact this | 3, _ => exact this | 4, _ => exact this | 5, _ => exact this | o + 6, ho => simp at ho; omega)⟩ (fun hHeld => ?_); refine tkW (i := 0) (h := ?_); refine tkW (i := 1) (h := ?_); refine tkW (i := 2) (h := ?_); refine tkW (i := 3) (h := ?_); refine tkW (i := 4) (h := ?_); refine tkW (i := 5) (h := ?_); refine tkW (i := 6) (h := ?_); refine consL (i := 7) (by kernel_rfl) rfl (fun K hK => ?_); go_simp; go_at_call 40; refine (mid12_c r0 r1 _ HR.out.1 HR.out.2).mono ?_; rw [HM.out]; rintro e w5 ⟨rfl, hx5⟩; go_wp2_with fail; refine hK.out _ _ ?_ (fun hHeld => ?_); rotate_left; clear hK K; rotate_right; (focus ((try dsimp only); exact kept)); (try simp only [Act.put, List.setIfInBounds_toArray, List.set_cons_zero, List.set_cons_succ]); refine tkW (i := 8) (h := ?_); have hA5 := At.ext hx5 (HA.out.drew) (by simp); have hQ5 := Lib.hid (GAt.ext hx5 (HQ.out)); have hF5 : ∀ o, w5.frozen? ⟨g, o, none⟩ = false := (fun o => gfree_ext hx5 hgl (HFR.out o)); have o0 := hA5 9 (by simp); have o1 := hA5 10 (by simp); have o2 := hA5 11 (by simp); (simp at o0 o1 o2); have hE5 := Lib.hid hHeld.1; have hS5 : wr.heap.size ≤ w5.heap.size := hx5.size; have hD5 := Lib.hid hA5; clear hA5; refine consL (i := 9) (by kernel_rfl) rfl (fun K hK => ?_); go_simp; refine hK.out _ _ ?_ (fun hHeld => ?_); rotate_left; clear hK K; rotate_right; (focus (exact ⟨((hE5.out.setCell hgb _).setCell hgb _).setCell hgb _, ((hHeld.2.off (by simp)).off (by simp)).off (by simp)⟩)); (try simp only [Act.put, List.setIfInBounds_toArray, List.set_cons_zero, List.set_cons_succ]); refine doneL (by kernel_rfl) ?_; go_wp2_with fail; go_ret; exact ⟨g, cap, rfl, by rw [HV.out]; exact GAt.put (k := 3) hQ5.out, fun o => free_set (free_set (free_set hF5)) o, hgb, by simp; omega, ((hE5.out.setCell hgb _).setCell hgb _).setCell hgb _⟩
   ·rw [if_neg (by omega), if_pos rfl] at hv
    have HV := Lib.hid hv
    clear hv k4 k5 k6
    go_wp2_with fail
    refine (pick_c a n c zs _ 4 _ _ (H0.out.keep HE.out.ik) rfl (by omega) (by omega) (by omega)).mono ?_
    rw [HK.out.1]
    rintro e w2 ⟨rfl, rfl⟩
    go_upto_region 10 with (fail)
    refine wp_region_held_drew (S := fun W => Ext w W ∧ At W g #[.int .i64 r0.x, .int .i64 r0.y, .int .i64 r0.d, .int .i64 r1.x, .int .i64 r1.y, .int .i64 r1.d]) (by kernel_rfl) ⟨HE.out.drew, fun o ho => (by have := HA.out o (by simp at ho ⊢; omega); match o, ho with | 0, _ => exact this | 1, _ => exact this | 2, _ => exact this | 3, _ => exact this | 4, _ => exact this | 5, _ => exact this | o + 6, ho => simp at ho; omega)⟩ (fun hHeld => ?_); refine tkW (i := 0) (h := ?_); refine tkW (i := 1) (h := ?_); refine tkW (i := 2) (h := ?_); refine tkW (i := 3) (h := ?_); refine tkW (i := 4) (h := ?_); refine tkW (i := 5) (h := ?_); refine tkW (i := 6) (h := ?_); refine consL (i := 7) (by kernel_rfl) rfl (fun K hK => ?_); go_simp; go_at_call 40; refine (mid12_c r0 r1 _ HR.out.1 HR.out.2).mono ?_; rw [HM.out]; rintro e w5 ⟨rfl, hx5⟩; go_wp2_with fail; refine hK.out _ _ ?_ (fun hHeld => ?_); rotate_left; clear hK K; rotate_right; (focus ((try dsimp only); exact kept)); (try simp only [Act.put, List.setIfInBounds_toArray, List.set_cons_zero, List.set_cons_succ]); refine tkW (i := 8) (h := ?_); have hA5 := At.ext hx5 (HA.out.drew) (by simp); have hQ5 := Lib.hid (GAt.ext hx5 (HQ.out)); have hF5 : ∀ o, w5.frozen? ⟨g, o, none⟩ = false := (fun o => gfree_ext hx5 hgl (HFR.out o)); have o0 := hA5 6 (by simp); have o1 := hA5 7 (by simp); have o2 := hA5 8 (by simp); (simp at o0 o1 o2); have hE5 := Lib.hid hHeld.1; have hS5 : wr.heap.size ≤ w5.heap.size := hx5.size; have hD5 := Lib.hid hA5; clear hA5; refine consL (i := 9) (by kernel_rfl) rfl (fun K hK => ?_); go_simp; refine hK.out _ _ ?_ (fun hHeld => ?_); rotate_left; clear hK K; rotate_right; (focus (exact ⟨((hE5.out.setCell hgb _).setCell hgb _).setCell hgb _, ((hHeld.2.off (by simp)).off (by simp)).off (by simp)⟩)); (try simp only [Act.put, List.setIfInBounds_toArray, List.set_cons_zero, List.set_cons_succ]); refine doneL (by kernel_rfl) ?_; go_wp2_with fail; go_ret; exact ⟨g, cap, rfl, by rw [HV.out]; exact GAt.put (k := 2) hQ5.out, fun o => free_set (free_set (free_set hF5)) o, hgb, by simp; omega, ((hE5.out.setCell hgb _).setCell hgb _).setCell hgb _⟩
   ·rw [if_neg (by omega), if_neg (by omega), if_pos rfl] at hv
    obtain ⟨i5, h5⟩ : ∃ i : Nat, x5 = (i : Int) := ⟨x5.toNat, by omega⟩
    obtain ⟨i6, h6⟩ : ∃ i : Nat, x6 = (i : Int) := ⟨x6.toNat, by omega⟩
    subst h5; subst h6
    have l5 : i5 < 4 := by omega
    have l6 : i6 < 4 := by omega
    rw [Int.toNat_natCast, Int.toNat_natCast] at hv
    have hl5 : i5 < ([r0, r1, r2, r3] : List RP).length := by simpa using l5
    have hl6 : i6 < ([r0, r1, r2, r3] : List RP).length := by simpa using l6
    obtain ⟨q, hq⟩ : ∃ q, ([r0, r1, r2, r3] : List RP).getD i6 r0 = q := ⟨_, rfl⟩
    rw [hq] at hv
    have hq6 : ([r0, r1, r2, r3] : List RP)[i6]? = some q := by rw [List.getElem?_eq_getElem hl6, ← hq]; simp [List.getD_eq_getElem?_getD, List.getElem?_eq_getElem hl6]
    have hq5 := List.getElem?_eq_getElem hl5
    have a0 : wr.cell? ⟨g, i6 * 3, none⟩ = some (.int .i64 q.x) := HQ.out i6 q hq6 0 (by decide)
    have a1 : wr.cell? ⟨g, i6 * 3 + 1, none⟩ = some (.int .i64 q.y) := HQ.out i6 q hq6 1 (by decide)
    have a2 : wr.cell? ⟨g, i6 * 3 + 2, none⟩ = some (.int .i64 q.d) := HQ.out i6 q hq6 2 (by decide)
    obtain ⟨z0, b0⟩ : ∃ z, wr.cell? ⟨g, i5 * 3, none⟩ = some z := ⟨_, HQ.out i5 _ hq5 0 (by decide)⟩
    obtain ⟨z1, b1⟩ : ∃ z, wr.cell? ⟨g, i5 * 3 + 1, none⟩ = some z := ⟨_, HQ.out i5 _ hq5 1 (by decide)⟩
    obtain ⟨z2, b2⟩ : ∃ z, wr.cell? ⟨g, i5 * 3 + 2, none⟩ = some z := ⟨_, HQ.out i5 _ hq5 2 (by decide)⟩
    have hfr : ∀ o, wr.frozen? ⟨g, o, none⟩ = false := HFR.out
    have HV := Lib.hid hv
    clear hv k4 k5 k6 hl5 hl6 hq hq6 hq5
    go_wp2_with fail
    refine (pick_c a n c zs _ 4 _ _ (H0.out.keep HE.out.ik) rfl (by omega) (by omega) (by omega)).mono ?_
    rw [HK.out.1]
    rintro e w2 ⟨rfl, rfl⟩
    go_wp2_with fail
    refine (pick_c a n c zs _ 5 _ _ (H0.out.keep HE.out.ik) rfl (by omega) (by omega) (by omega)).mono ?_
    rw [HK.out.2.1]
    rintro e w2 ⟨rfl, rfl⟩
    go_wp2_with fail
    refine (pick_c a n c zs _ 6 _ _ (H0.out.keep HE.out.ik) rfl (by omega) (by omega) (by omega)).mono ?_
    rw [HK.out.2.2]
    rintro e w2 ⟨rfl, rfl⟩
    go_wp2_with fail
    go_ret
    exact ⟨g, cap, rfl, by rw [HV.out]; exact GAt.put (k := i5) HQ.out, fun o => free_set (free_set (free_set HFR.out)) o, hgb, by simp; omega, ((HE.out.setCell hgb _).setCell hgb _).setCell hgb _⟩
   ·rw [if_neg (by omega), if_neg (by omega), if_neg (by omega)] at hv
    have HV := Lib.hid hv
    clear hv k4 k5 k6
    go_wp2_with fail
    refine (pick_c a n c zs _ 4 _ _ (H0.out.keep HE.out.ik) rfl (by omega) (by omega) (by omega)).mono ?_
    rw [HK.out.1]
    rintro e w2 ⟨rfl, rfl⟩
    go_wp2_with fail
    go_ret
    exact ⟨g, cap, rfl, by rw [HV.out]; exact HQ.out, HFR.out, hgb, hgl, HE.out⟩
   ·rw [if_neg (by omega), if_neg (by omega), if_neg (by omega)] at hv
    have HV := Lib.hid hv
    clear hv k4 k5 k6
    go_wp2_with fail
    refine (pick_c a n c zs _ 4 _ _ (H0.out.keep HE.out.ik) rfl (by omega) (by omega) (by omega)).mono ?_
    rw [HK.out.1]
    rintro e w2 ⟨rfl, rfl⟩
    go_wp2_with fail
    go_ret
    exact ⟨g, cap, rfl, by rw [HV.out]; exact HQ.out, HFR.out, hgb, hgl, HE.out⟩
end Go.Proofs.Ytgmedfloflplgaa
