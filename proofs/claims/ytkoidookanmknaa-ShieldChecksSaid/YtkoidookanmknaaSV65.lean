/- shield.Check, where the second addition fails. -/
import Derived.Test.YtkoidookanmknaaSV60
namespace Go.Proofs.Ytkoidookanmknaa
set_option linter.unusedSimpArgs false
set_option linter.unusedVariables false
open Go.RowKit

set_option maxRecDepth 100000 in
set_option maxHeartbeats 4000000 in
theorem CheckLim_c (ss vs : Sl) (gs : List Sl) (zs : List Int) (ha : Option Addr) (hc cb co cc : Nat) (w : World) (h : ShIn w 2 ss vs gs [[0, 1]] zs) (hH : Bls w ha 1 [true]) (h6 : checkE 2 [[0, 1]] zs 1 0 = 0) (a b : FV) (hcb : cb < w.heap.size) (ha0 : Quad w cb co a) (hb0 : Quad w cb (co + 4) b) (P : World → FV → Prop) (hP : ∀ W W' f, P W f → IK W W' → P W' f)
  (hA1 : ∀ W z, Ext w W → IsQ W z 0 → Calls Try.prog 31 #[z.v, a.v] W fun e w' => ∃ f : FV, e = .returned (.tuple #[f.v, .int .i64 0]) ∧ P w' f ∧ Ext W w')
  (hA2 : ∀ W z, Ext w W → P W z → Calls Try.prog 31 #[z.v, b.v] W fun e w' => ∃ f : FV, e = .returned (.tuple #[f.v, .int .i64 4]) ∧ Ext W w') :
  Calls Try.prog 25 #[.agg #[.int .i64 2, ss.v, vs.v], .slice ha 1 hc, .int .i64 0, .slice (some ⟨cb, co, none⟩) 2 cc] w fun e w' => e = .returned (.int .i64 4) ∧ Ext w w' := by
 obtain ⟨i0, hi0, hz0, hz1, hz2⟩ := info_parts intInfo
 have H := Lib.hid (And.intro h (And.intro hH (And.intro ha0 hb0)))
 have HA := Lib.hid (And.intro hP (And.intro hA1 hA2))
 have HQ := Lib.hid h6
 obtain ⟨sa, sn, sc⟩ := ss
 obtain ⟨va, vn, vc⟩ := vs
 obtain ⟨B, hBw⟩ : ∃ B, w.heap.size = B := ⟨_, rfl⟩
 simp only [Sl.v]
 clear h hH ha0 hb0 h6 hP hA1 hA2
 have hsn : sn = 1 := by have := H.out.1.grps.2.1; simp only [List.length_cons, List.length_nil] at this; omega
 subst hsn
 obtain ⟨hbb, hbo, rfl, _, _⟩ := H.out.2.1.at 0 (by omega)
 go_enter Try.func25, Try.ntmps25; go_upto_region 1 with (fail); refine wp_gen (fun W => Ext w W ∧ Blk W B #[.int .i64 2, .slice sa 1 sc, .slice va vn vc] 31) ⟨(by repeat (first | exact Ext.refl _ | assumption | refine Ext.setCell ?_ (by first | (simp; done) | (simp; omega) | omega) _ | refine Ext.alloc ?_ _ | refine Ext.drew ?_ | refine Ext.trans ?_ (by assumption))), Blk.at _ 31 hBw.symm⟩ ?_; rintro V ⟨E0, B0⟩; have HB := Lib.hid (And.intro E0 B0); have x0 : V.cell? ⟨B, 0, none⟩ = some (.int .i64 2) := B0.cell 0; have x1 : V.cell? ⟨B, 1, none⟩ = some (.slice sa 1 sc) := B0.cell 1; have x2 : V.cell? ⟨B, 2, none⟩ = some (.slice va vn vc) := B0.cell 2; clear E0 B0; go_step3; go_wp2_with fail; refine (shcheck_c 2 ⟨sa, 1, sc⟩ ⟨va, vn, vc⟩ gs [[0, 1]] zs _ _ hc _ _ (H.out.1.ext HB.out.1) (by omega)).mono ?_; rw [HQ.out]; rintro e w2 ⟨rfl, hx2⟩; have HX := Lib.hid (And.intro (HB.out.1.trans hx2) (HB.out.2.ext hx2)); have y0 : w2.cell? ⟨B, 0, none⟩ = some (.int .i64 2) := hx2.cell x0; have y1 : w2.cell? ⟨B, 1, none⟩ = some (.slice sa 1 sc) := hx2.cell x1; clear x0 x1 x2 hx2
 obtain ⟨_, _, e, _, hcell⟩ := (H.out.2.1.ext HX.out.1).at 0 (by omega)
 injection e with e; injection e with e1 e2
 subst e1; subst e2
 replace hcell : w2.cell? ⟨hbb, hbo, none⟩ = some (.bool true) := hcell
 obtain ⟨G, hG⟩ : ∃ G, w2.heap.size = G := ⟨_, rfl⟩
 have hrow0 : VRow (w2.alloc (.cells #[] 3)) G (.slice (some ⟨G, 0, none⟩) 0 0) [] := ⟨rfl, .inr ⟨G, 0, #[], rfl, Nat.le_refl _, Blk.at _ _ hG.symm, Nat.le_refl _, by rw [maxLen]; omega, rfl, rfl⟩⟩
 have HR0 := Lib.hid hrow0
 clear hrow0
 go_upto_region 10 with (fail)
 refine wp_gen (fun W => Ext w2 W ∧ VRow W G (.slice (some ⟨G, 0, none⟩) 0 0) []) ⟨(Ext.refl _).alloc _, HR0.out⟩ ?_
 rintro W ⟨hEW, hVW⟩
 have HR0 := Lib.hid (And.intro hVW hEW)
 have y1 : W.cell? ⟨B, 1, none⟩ = some (.slice sa 1 sc) := hEW.cell y1
 clear hVW hEW
 go_wp2_with fail
 go_loopw [11, 40] (fun ov iv ws => ∃ i : Nat, i ≤ 1 ∧ iv = .int .i64 (i : Int) ∧ VRow ws G ov [] ∧ Ext w2 ws) (fun _ iv _ => 1 - (intOf iv).toNat)
 case atStart => exact ⟨0, by omega, rfl, HR0.out.1, HR0.out.2⟩
 case round =>
  rename World => ws
  obtain ⟨i, hi, rfl, hV, hE⟩ := hrel
  have HV := Lib.hid (And.intro hV hE)
  have hsz := hE.size
  by_cases hlt : i < 1
  ·obtain rfl : i = 0 := by omega
   replace hcell := hE.cell hcell
   clear hV hE
   rw [show ((0 : Nat) : Int) = 0 from rfl]
   go_wp2_with fail
   go_roundw
   case rel => exact ⟨1, by omega, rfl, HV.out.1, HV.out.2⟩
   case measure => simp [intOf]
  ·have hin : ¬ (i : Int) < 1 := by omega
   have h64 : Int64 0 := ⟨by omega, by omega⟩
   have HNW := Lib.hid (ints_news (ints_one ws 0 h64) (by omega))
   clear h64 hV hE
   go_wp2_with fail
   go_step3
   go_wp2_with (at_builtin; refine wpList_append_lies _ rfl _ _ _ rfl G 3 i0 _ 1 8 Try.underlying22 hi0 hz0 hz1 hz2 rfl (by omega) u11 0 (ivals []) rfl (VRow.ext ((Ext.refl ws).alloc _) HV.out.1) ⟨ws.heap.size, 0, none⟩ 1 1 (ivals [(0 : Int)]) rfl rfl HNW.out (ivals_one _) (by omega) (by rw [maxLen]; omega) (by omega) (by simp; omega) _ rfl ?_)
   intro g cap w5 hown hgrow hat hlt5
   have hV5 : VRow w5 G (.slice (some ⟨g, 0, none⟩) 1 cap) [0] := VRow.app (l := []) rfl hown
   have hE5 : Ext w2 w5 := ext_grown (HV.out.2.alloc _) hgrow (fun g hg => by have := (owns_lt HV.out.1 hg).1; omega)
   have hI5 : Ints w5 (some ⟨g, 0, none⟩) 1 [0] := by
    obtain ⟨a, c, e, hI⟩ := hV5.ints (by simp) (fun k hk => by rcases (show k = 0 by simpa using hk) with rfl; exact ⟨by simp, by simp⟩)
    injection e with e1 e2 e3
    rw [← e1] at hI
    exact hI
   have HL := Lib.hid (And.intro hI5 (HX.out.1.trans hE5))
   have HBY := Lib.hid (HX.out.2.ext hE5)
   clear hown hgrow hat hV5 hE5 hI5 HV HR0 y1 HNW hcell
   go_wp2_with fail
   have y5 : w5.cell? ⟨B, 1, none⟩ = some (.slice sa 1 sc) := HBY.out.cell 1
   go_loopw [10, 58] (fun ov iv ws => iv = .int .i64 0 ∧ ov = .int .i64 0 ∧ Ext w5 ws) (fun _ _ _ => 0)
   case atStart => exact ⟨rfl, rfl, Ext.refl _⟩
   case round =>
    rename World => wr
    obtain ⟨rfl, rfl, hE⟩ := hrel
    have HE := Lib.hid hE
    obtain ⟨_, _, e, _, hcell⟩ := (HL.out.1.keep hE.ik).at 0 (by omega)
    injection e with e; injection e with e1 e2
    subst e1; subst e2
    replace hcell : wr.cell? ⟨g, 0, none⟩ = some (.int .i64 0) := hcell
    clear hE
    go_wp2_with fail
    refine (number_c 0 wr (by omega) (by omega)).mono ?_
    rintro e w6 ⟨f, rfl, hf, hx6⟩
    have H6 := Lib.hid (And.intro hf hx6)
    clear hf hx6 hcell
    go_upto_region 20 with (fail)
    obtain ⟨zb, hzb⟩ : ∃ b, w6.heap.size = b := ⟨_, rfl⟩
    rw [hzb]
    obtain ⟨xs, xo, exs, _, hset⟩ := (H.out.1.ext ((HL.out.2).trans HE.out)).grps.at 0 (by simp)
    simp only at exs
    subst exs
    have hI := (H.out.1.ext ((HL.out.2).trans HE.out)).grps.2.2.2.2 0 (by simp)
    obtain ⟨⟨ga, gn, gc⟩, hg⟩ : ∃ s, gs.getD 0 sl0 = s := ⟨_, rfl⟩
    rw [hg] at hset hI
    replace hI : Ints wr ga gn [0, 1] := hI
    replace hset : wr.cell? ⟨xs, xo, none⟩ = some (.slice ga gn gc) := hset
    have hgn : gn = 2 := hI.1.symm
    subst hgn
    have HI := Lib.hid hI
    have y6 : wr.cell? ⟨B, 1, none⟩ = some (.slice (some ⟨xs, xo, none⟩) 1 sc) := HE.out.cell y5
    refine wp_gen (fun W => Ext wr W ∧ Own W zb 4 ∧ Quad0 W zb f ∧ IsQ W f 0) ⟨H6.out.2.alloc _, (Blk.at _ 58 hzb.symm).own _ (by simp) (noIntF _ _ _ _ _ _ _ _), Blk.quad0 (Blk.at _ 58 hzb.symm), H6.out.1.keep ((Ext.refl _).alloc _).ik⟩ ?_
    rintro W ⟨hx7, ho7, hq7, hf7⟩
    have y7 : W.cell? ⟨B, 1, none⟩ = some (.slice (some ⟨xs, xo, none⟩) 1 sc) := hx7.cell y6
    have hset7 := hx7.cell hset
    have H7 := Lib.hid (And.intro hx7 (And.intro ho7 (And.intro hq7 hf7)))
    have hzs : wr.heap.size ≤ zb := by rw [← hzb]; exact H6.out.2.size
    clear hx7 ho7 hq7 hf7 hset y6 hI hzb
    go_wp2_with fail
    go_loopw [10, 69] (fun ov qv wz => ∃ (j : Nat) (fs : FV), j ≤ 1 ∧ ov = .int .i64 0 ∧ qv = .int .i64 (j : Int) ∧ Ext wr wz ∧ Own wz zb 4 ∧ Quad0 wz zb fs ∧ (j = 0 → IsQ wz fs 0) ∧ (j = 1 → P wz fs)) (fun _ qv _ => 2 - (intOf qv).toNat)
    case atStart => exact ⟨0, f, by omega, rfl, rfl, H7.out.1, H7.out.2.1, H7.out.2.2.1, fun _ => H7.out.2.2.2, fun h => absurd h (by omega)⟩
    case round =>
     rename World => wz
     obtain ⟨j, fs, hj, rfl, rfl, hxz, hoz, hqz, hf0, hf1⟩ := hrel
     have HJ := Lib.hid (And.intro hxz (And.intro hoz (And.intro hqz (And.intro hf0 hf1))))
     have HW := Lib.hid ((HL.out.2.trans HE.out).trans hxz)
     obtain ⟨lb, lo, e, _, hcell⟩ := (HI.out.keep hxz.ik).at j (by omega)
     subst e
     rcases (show j = 0 ∨ j = 1 by omega) with rfl | rfl
     ·replace hcell := show wz.cell? ⟨lb, lo, none⟩ = some (.int .i64 0) from hcell
      have hSt : Quad0 wz zb fs ∧ Quad wz cb co a := ⟨hqz, H.out.2.2.1.ext HW.out⟩
      have HSt := Lib.hid hSt
      clear hxz hoz hqz hf0 hf1
      rw [show ((0 : Nat) : Int) = 0 from rfl]
      go_upto_region 24 with (fail)
      refine wp_region_E (fun W => Quad0 W zb fs ∧ Quad W cb co a) [9] (by kernel_rfl) hSt (fun hSd => ?_)
      refine takeE (i := 0) (v := ?_) rfl (by kernel_rfl) (by kernel_rfl) (by kernel_rfl) (fun _ _ _ h => h) (by kernel_rfl) (by kernel_rfl) (Or.inl ⟨by rfl, ?_⟩) (by assumption) ?_; rotate_left; (focus (intro wq hSw; obtain ⟨⟨q1, q2, q3, q4⟩, ⟨p1, p2, p3, p4⟩⟩ := hSw; go_simp; try with_reducible rfl)); (try simp only [Act.put, List.setIfInBounds_toArray, List.set_cons_zero, List.set_cons_succ])
      refine takeP (i := 1) (v := ?_) rfl (by kernel_rfl) (by kernel_rfl) (by kernel_rfl) (fun _ _ _ h => h) (Or.inl ⟨by rfl, ?_⟩) ?_; rotate_left; (focus (intro wq hSw; clear hSw; go_simp; try with_reducible rfl)); (try simp only [Act.put, List.setIfInBounds_toArray, List.set_cons_zero, List.set_cons_succ])
      refine takeP (i := 2) (v := ?_) rfl (by kernel_rfl) (by kernel_rfl) (by kernel_rfl) (fun _ _ _ h => h) (Or.inl ⟨by rfl, ?_⟩) ?_; rotate_left; (focus (intro wq hSw; clear hSw; go_simp; try with_reducible rfl)); (try simp only [Act.put, List.setIfInBounds_toArray, List.set_cons_zero, List.set_cons_succ])
      refine takeP (i := 3) (v := ?_) rfl (by kernel_rfl) (by kernel_rfl) (by kernel_rfl) (fun _ _ _ h => h) (Or.inl ⟨by rfl, ?_⟩) ?_; rotate_left; (focus (intro wq hSw; clear hSw; go_simp; try with_reducible rfl)); (try simp only [Act.put, List.setIfInBounds_toArray, List.set_cons_zero, List.set_cons_succ])
      refine takeE (i := 4) (v := ?_) rfl (by kernel_rfl) (by kernel_rfl) (by kernel_rfl) (fun _ _ _ h => h) (by kernel_rfl) (by kernel_rfl) (Or.inl ⟨by rfl, ?_⟩) (by assumption) ?_; rotate_left; (focus (intro wq hSw; obtain ⟨⟨q1, q2, q3, q4⟩, ⟨p1, p2, p3, p4⟩⟩ := hSw; go_simp; try with_reducible rfl)); (try simp only [Act.put, List.setIfInBounds_toArray, List.set_cons_zero, List.set_cons_succ])
      refine consE (i := 5) (by kernel_rfl) rfl (fun K hK => ?_)
      go_simp
      go_at_call 31
      refine (HA.out.2.1 _ fs (HW.out.trans (Ext.refl wz).drew) ((HJ.out.2.2.2.1 rfl).keep ((Ext.refl wz).drew.ik))).mono ?_
      rintro e w8 ⟨r, rfl, hr, hx8⟩
      go_wp2_with fail
      have hx8' : Ext wz w8 := (Ext.refl wz).drew.trans hx8
      refine hK.out _ _ ?_ (fun _ => ?_); rotate_left; clear hK K; rotate_right; (focus (exact .inr (.inl ⟨HSt.out.1.ext hx8', HSt.out.2.ext hx8'⟩))); (try simp only [Act.put, List.setIfInBounds_toArray, List.set_cons_zero, List.set_cons_succ])
      have H8 := Lib.hid (And.intro hr hx8')
      clear hr hx8 hx8'
      refine takeP (i := 6) (v := ?_) rfl (by kernel_rfl) (by kernel_rfl) (by kernel_rfl) (fun _ _ _ h => h) (Or.inl ⟨by rfl, ?_⟩) ?_; rotate_left; (focus (intro wq hSw; clear hSw; go_simp; try with_reducible rfl)); (try simp only [Act.put, List.setIfInBounds_toArray, List.set_cons_zero, List.set_cons_succ])
      refine takeP (i := 7) (v := ?_) rfl (by kernel_rfl) (by kernel_rfl) (by kernel_rfl) (fun _ _ _ h => h) (Or.inl ⟨by rfl, ?_⟩) ?_; rotate_left; (focus (intro wq hSw; clear hSw; go_simp; try with_reducible rfl)); (try simp only [Act.put, List.setIfInBounds_toArray, List.set_cons_zero, List.set_cons_succ])
      refine takeP (i := 8) (v := ?_) rfl (by kernel_rfl) (by kernel_rfl) (by kernel_rfl) (fun _ _ _ h => h) (Or.inl ⟨by rfl, ?_⟩) ?_; rotate_left; (focus (intro wq hSw; clear hSw; go_simp; try with_reducible rfl)); (try simp only [Act.put, List.setIfInBounds_toArray, List.set_cons_zero, List.set_cons_succ])
      have ho8 : Own w8 zb 4 := Own.ext H8.out.2 HJ.out.2.1 (by omega)
      have q0 := ho8.1 0 (by omega)
      have q1 := ho8.1 1 (by omega)
      have q2 := ho8.1 2 (by omega)
      have q3 := ho8.1 3 (by omega)
      have qf := ho8.2.1
      refine consE (i := 9) (by kernel_rfl) rfl (fun K hK => ?_)
      go_simp
      refine hK.out _ _ ?_ (fun _ => ?_); rotate_left; clear hK K; rotate_right; (focus (exact .inl (by simp))); (try simp only [Act.put, List.setIfInBounds_toArray, List.set_cons_zero, List.set_cons_succ])
      refine takeP (i := 10) (v := ?_) rfl (by kernel_rfl) (by kernel_rfl) (by kernel_rfl) (fun _ _ _ h => h) (Or.inl ⟨by rfl, ?_⟩) ?_; rotate_left; (focus (intro wq hSw; clear hSw; go_simp; try with_reducible rfl)); (try simp only [Act.put, List.setIfInBounds_toArray, List.set_cons_zero, List.set_cons_succ])
      refine doneE (by kernel_rfl) ?_ _
      go_wp2_with fail
      go_roundw
      case rel => exact ⟨1, r, by omega, rfl, rfl, ext_putF (HJ.out.1.trans H8.out.2) hzs r, own_putF ho8 r, Quad0.putF ho8 r, fun h => absurd h (by omega), fun _ => HA.out.1 _ _ _ H8.out.1 (IK.putF ho8 r)⟩
      case measure => simp [intOf]
     ·replace hcell := show wz.cell? ⟨lb, lo + 1, none⟩ = some (.int .i64 1) from hcell
      have hSt : Quad0 wz zb fs ∧ Quad wz cb (co + 4) b := ⟨hqz, H.out.2.2.2.ext HW.out⟩
      have HSt := Lib.hid hSt
      clear hxz hoz hqz hf0 hf1
      rw [show ((1 : Nat) : Int) = 1 from rfl]
      go_upto_region 24 with (fail)
      refine wp_region_E (fun W => Quad0 W zb fs ∧ Quad W cb (co + 4) b) [9] (by kernel_rfl) hSt (fun hSd => ?_)
      refine takeE (i := 0) (v := ?_) rfl (by kernel_rfl) (by kernel_rfl) (by kernel_rfl) (fun _ _ _ h => h) (by kernel_rfl) (by kernel_rfl) (Or.inl ⟨by rfl, ?_⟩) (by assumption) ?_; rotate_left; (focus (intro wq hSw; obtain ⟨⟨q1, q2, q3, q4⟩, ⟨p1, p2, p3, p4⟩⟩ := hSw; go_simp; try with_reducible rfl)); (try simp only [Act.put, List.setIfInBounds_toArray, List.set_cons_zero, List.set_cons_succ])
      refine takeP (i := 1) (v := ?_) rfl (by kernel_rfl) (by kernel_rfl) (by kernel_rfl) (fun _ _ _ h => h) (Or.inl ⟨by rfl, ?_⟩) ?_; rotate_left; (focus (intro wq hSw; clear hSw; go_simp; try with_reducible rfl)); (try simp only [Act.put, List.setIfInBounds_toArray, List.set_cons_zero, List.set_cons_succ])
      refine takeP (i := 2) (v := ?_) rfl (by kernel_rfl) (by kernel_rfl) (by kernel_rfl) (fun _ _ _ h => h) (Or.inl ⟨by rfl, ?_⟩) ?_; rotate_left; (focus (intro wq hSw; clear hSw; go_simp; try with_reducible rfl)); (try simp only [Act.put, List.setIfInBounds_toArray, List.set_cons_zero, List.set_cons_succ])
      refine takeP (i := 3) (v := ?_) rfl (by kernel_rfl) (by kernel_rfl) (by kernel_rfl) (fun _ _ _ h => h) (Or.inl ⟨by rfl, ?_⟩) ?_; rotate_left; (focus (intro wq hSw; clear hSw; go_simp; try with_reducible rfl)); (try simp only [Act.put, List.setIfInBounds_toArray, List.set_cons_zero, List.set_cons_succ])
      refine takeE (i := 4) (v := ?_) rfl (by kernel_rfl) (by kernel_rfl) (by kernel_rfl) (fun _ _ _ h => h) (by kernel_rfl) (by kernel_rfl) (Or.inl ⟨by rfl, ?_⟩) (by assumption) ?_; rotate_left; (focus (intro wq hSw; obtain ⟨⟨q1, q2, q3, q4⟩, ⟨p1, p2, p3, p4⟩⟩ := hSw; go_simp; try with_reducible rfl)); (try simp only [Act.put, List.setIfInBounds_toArray, List.set_cons_zero, List.set_cons_succ])
      refine consE (i := 5) (by kernel_rfl) rfl (fun K hK => ?_)
      go_simp
      go_at_call 31
      refine (HA.out.2.2 _ fs (HW.out.trans (Ext.refl wz).drew) (HA.out.1 _ _ _ (HJ.out.2.2.2.2 rfl) ((Ext.refl wz).drew.ik))).mono ?_
      rintro e w8 ⟨r, rfl, hx8⟩
      go_wp2_with fail
      have hx8' : Ext wz w8 := (Ext.refl wz).drew.trans hx8
      refine hK.out _ _ ?_ (fun _ => ?_); rotate_left; clear hK K; rotate_right; (focus (exact .inr (.inl ⟨HSt.out.1.ext hx8', HSt.out.2.ext hx8'⟩))); (try simp only [Act.put, List.setIfInBounds_toArray, List.set_cons_zero, List.set_cons_succ])
      have H8 := Lib.hid hx8'
      clear hx8 hx8'
      refine takeP (i := 6) (v := ?_) rfl (by kernel_rfl) (by kernel_rfl) (by kernel_rfl) (fun _ _ _ h => h) (Or.inl ⟨by rfl, ?_⟩) ?_; rotate_left; (focus (intro wq hSw; clear hSw; go_simp; try with_reducible rfl)); (try simp only [Act.put, List.setIfInBounds_toArray, List.set_cons_zero, List.set_cons_succ])
      refine takeP (i := 7) (v := ?_) rfl (by kernel_rfl) (by kernel_rfl) (by kernel_rfl) (fun _ _ _ h => h) (Or.inl ⟨by rfl, ?_⟩) ?_; rotate_left; (focus (intro wq hSw; clear hSw; go_simp; try with_reducible rfl)); (try simp only [Act.put, List.setIfInBounds_toArray, List.set_cons_zero, List.set_cons_succ])
      refine takeP (i := 8) (v := ?_) rfl (by kernel_rfl) (by kernel_rfl) (by kernel_rfl) (fun _ _ _ h => h) (Or.inl ⟨by rfl, ?_⟩) ?_; rotate_left; (focus (intro wq hSw; clear hSw; go_simp; try with_reducible rfl)); (try simp only [Act.put, List.setIfInBounds_toArray, List.set_cons_zero, List.set_cons_succ])
      have ho8 : Own w8 zb 4 := Own.ext H8.out HJ.out.2.1 (by omega)
      have q0 := ho8.1 0 (by omega)
      have q1 := ho8.1 1 (by omega)
      have q2 := ho8.1 2 (by omega)
      have q3 := ho8.1 3 (by omega)
      have qf := ho8.2.1
      refine consE (i := 9) (by kernel_rfl) rfl (fun K hK => ?_)
      go_simp
      refine hK.out _ _ ?_ (fun _ => ?_); rotate_left; clear hK K; rotate_right; (focus (exact .inl (by simp))); (try simp only [Act.put, List.setIfInBounds_toArray, List.set_cons_zero, List.set_cons_succ])
      refine takeP (i := 10) (v := ?_) rfl (by kernel_rfl) (by kernel_rfl) (by kernel_rfl) (fun _ _ _ h => h) (Or.inl ⟨by rfl, ?_⟩) ?_; rotate_left; (focus (intro wq hSw; clear hSw; go_simp; try with_reducible rfl)); (try simp only [Act.put, List.setIfInBounds_toArray, List.set_cons_zero, List.set_cons_succ])
      refine doneE (by kernel_rfl) ?_ _
      go_wp2_with fail
      rw [Exit.noGoto_ret]
      go_ret
      exact ⟨rfl, (HL.out.2.trans HE.out).trans (ext_putF (HJ.out.1.trans H8.out) hzs r)⟩
end Go.Proofs.Ytkoidookanmknaa
