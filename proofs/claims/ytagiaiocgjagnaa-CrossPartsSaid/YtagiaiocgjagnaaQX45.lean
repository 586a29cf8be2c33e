/- The walk of CrossParts: long lists, and all. -/
import Derived.Test.YtagiaiocgjagnaaQX44
namespace Go.Proofs.Ytagiaiocgjagnaa
set_option linter.unusedSimpArgs false
set_option linter.unusedVariables false
open Go.RowKit

set_option maxRecDepth 100000 in
set_option maxHeartbeats 32000000 in
theorem walkParts_l (n m : Int) (a0 : Option Addr) (n0 c0 : Nat) (zs : List Int) (a3 : Option Addr) (n3 c3 : Nat) (ys : List Int) (w : World) (hn : Int64 n) (hm : Int64 m) (h0 : Ints w a0 n0 zs) (h3 : Ints w a3 n3 ys) (hN : 13 < n0) :
  Calls Try.prog 9 #[.int .i64 n, .int .i64 m, .slice a0 n0 c0, .slice a3 n3 c3] w fun e w' => e = .returned (.bool true) ∧ Ext w w' := by
 have HI := Lib.hid (And.intro hn (And.intro hm (And.intro h0 h3)))
 have hn0 := h0.2.1
 have hn3 := h3.2.1
 clear hn hm h0 h3
 go_enter Try.func9, Try.ntmps9
 go_wp2_with fail
 refine (rSeg_c n m _ HI.out.1 HI.out.2.1).mono ?_
 rintro e w1 ⟨s, rfl, hs, hx1⟩
 have HS := Lib.hid (hs.mono (lo' := -33) (hi' := 67) (by omega) (by omega))
 have HX1 := Lib.hid hx1
 clear hs hx1
 obtain ⟨G, hG⟩ : ∃ G, w1.heap.size = G := ⟨_, rfl⟩
 go_upto_region 5 with fail
 try rw [hG]
 refine wp_gen (fun W => Ext w W ∧ Blk W G s.cs 25) ⟨HX1.out.alloc _, Blk.at s.cs 25 hG.symm⟩ ?_
 clear hG HX1
 rintro V ⟨EV, SV⟩
 have HV := Lib.hid (And.intro EV SV)
 clear EV SV
 go_loopw [10, 12] (fun ov iv ws => ∃ (i : Nat) (os : List Sg), i ≤ 13 ∧ iv = .int .i64 (i : Int) ∧ os.length = i ∧ Hid (i % 2 = 0) ∧ GRow encSg 25 ws V.heap.size ov os ∧ Hid (∀ t ∈ os, SegIn t (-33) 67) ∧ Ext V ws) (fun _ iv _ => 14 - (intOf iv).toNat)
 case atStart => exact ⟨0, [], by omega, rfl, rfl, Lib.hid (by omega), GRow.nil _ _ _ _, Lib.hid (fun t h => by cases h), Ext.refl V⟩
 case round =>
  obtain ⟨i, os, hi, rfl, hol, HP2, hr, HOS, hE⟩ := hrel
  have HR := Lib.hid (And.intro hr (And.intro hE hol))
  have w1 : IntKind.i64.wrap ((i : Int) + 1) = (i : Int) + 1 := IntWalk.i64_in _ (by omega)
  by_cases hlt : i + 1 < n0 ∧ i < 12
  ·obtain ⟨hl1, hl2⟩ := hlt
   have l1 : (i : Int) + 1 < (n0 : Int) := by omega
   have l2 : (i : Int) < 12 := by omega
   have l3 : (0 : Int) ≤ (i : Int) := by omega
   have l4 : (i : Int) < (n0 : Int) := by omega
   have l5 : (0 : Int) ≤ (i : Int) + 1 := by omega
   have l6 : ((i : Int) + 1).toNat = i + 1 := by omega
   obtain ⟨b, off, rfl, hb, hc1⟩ := HI.out.2.2.1.at i (by omega)
   obtain ⟨b', off', hbb, _, hc2⟩ := HI.out.2.2.1.at (i + 1) (by omega)
   injection hbb with hbb; injection hbb with hb1 hb2
   subst hb1; subst hb2
   have hz1 := HI.out.2.2.1.2.2.1 i (by omega)
   have hz2 := HI.out.2.2.1.2.2.1 (i + 1) (by omega)
   obtain ⟨z1, hz1'⟩ : ∃ z, zs.getD i 0 = z := ⟨_, rfl⟩
   obtain ⟨z2, hz2'⟩ : ∃ z, zs.getD (i + 1) 0 = z := ⟨_, rfl⟩
   rw [hz1'] at hc1 hz1
   rw [hz2'] at hc2 hz2
   have HZZ := Lib.hid (And.intro hz1 (And.intro hz2 (And.intro hc1 hc2)))
   have c1 : wr.cell? ⟨b, off + i, none⟩ = some (.int .i64 z1) := (HV.out.1.trans hE).cell hc1
   clear hr hE hol hz1 hz2 hc1 hc2 hz1' hz2'
   go_wp2_with fail
   refine (rPair_c n m z1 _ HI.out.1 HI.out.2.1 HZZ.out.1).mono ?_
   rintro e w5 ⟨s', t, rfl, -, ht, hx5⟩
   obtain ⟨Bt, hBt⟩ : ∃ Bt, w5.heap.size = Bt := ⟨_, rfl⟩
   have HT := Lib.hid ht
   have HX5 := Lib.hid hx5
   clear ht hx5 c1
   go_upto_region 8 with fail
   try rw [hBt]
   refine wp_gen (fun W => Ext wr W ∧ Blk W (Bt + 1) t.cs 25) ⟨(HX5.out.alloc _).alloc _, Blk.at t.cs 25 (by simp [hBt])⟩ ?_
   rintro W6 ⟨E6, B6⟩
   have HE6 := Lib.hid (And.intro E6 (And.intro (HR.out.2.1.trans E6) (HR.out.1.ext E6)))
   have HBT := Lib.hid (show u10.ownBlock ≠ some (Bt + 1) from fun he => by
    have h1 := (gowns_lt HR.out.1 he).2
    have h2 := HX5.out.size
    omega)
   have HL := Lib.hid (fun W (e : Ext V W ∧ Blk W (Bt + 1) t.cs 25) => (show W.cell? ⟨b, off + i, none⟩ = some (.int .i64 z1) ∧ W.cell? ⟨b, off + (i + 1), none⟩ = some (.int .i64 z2) from ⟨(HV.out.1.trans e.1).cell HZZ.out.2.2.1, (HV.out.1.trans e.1).cell HZZ.out.2.2.2⟩))
   have HTC := Lib.hid (fun W (e : Ext V W ∧ Blk W (Bt + 1) t.cs 25) => (show W.cell? ⟨(Bt + 1), 0, none⟩ = some (.int .i64 t.a.x) ∧ W.cell? ⟨(Bt + 1), 1, none⟩ = some (.int .i64 t.a.y) ∧ W.cell? ⟨(Bt + 1), 2, none⟩ = some (.int .i64 t.b.x) ∧ W.cell? ⟨(Bt + 1), 3, none⟩ = some (.int .i64 t.b.y) from ⟨e.2.cell 0, e.2.cell 1, e.2.cell 2, e.2.cell 3⟩))
   refine wp_region_held_drew (S := fun W => Ext V W ∧ Blk W (Bt + 1) t.cs 25) (by kernel_rfl) ⟨HE6.out.2.1.drew, B6.drew⟩ (fun hHeld => ?_)
   clear E6 B6 hBt
   refine tkW (i := 0) (h := ?_)
   refine tkL (i := 1) (H := HTC) (h := ?_)
   refine tkW (i := 2) (h := ?_)
   refine tkW (i := 3) (h := ?_)
   refine tkW (i := 4) (h := ?_)
   refine tkL (i := 5) (H := HL) (h := ?_)
   refine tkW (i := 6) (h := ?_)
   refine tkW (i := 7) (h := ?_)
   refine tkW (i := 8) (h := ?_)
   refine tkW (i := 9) (h := ?_)
   refine tkL (i := 10) (H := HL) (h := ?_)
   refine ckL (i := 11) (h := fun K hK => ?_)
   go_simp
   go_at_call 22
   refine (rSeg_c z1 z2 _ HZZ.out.1 HZZ.out.2.1).mono ?_
   rintro e v5 ⟨u, rfl, hu, hx5⟩
   go_wp2_with fail
   have HU := Lib.hid (And.intro hu ((Ext.refl W6).drew.trans hx5))
   refine hK.out _ _ ⟨hHeld.1.trans hx5, hHeld.2.ext hx5⟩ ?_
   clear hK K hu hx5
   intro hHeld
   (try simp only [Act.put, List.setIfInBounds_toArray, List.set_cons_zero, List.set_cons_succ])
   refine ckL (i := 12) (h := fun K hK => ?_)
   rw [if_pos (show Region.wanted _ _ = true by rfl)]
   refine wp_build2S t u _ _ rfl rfl rfl ?_
   obtain ⟨b2, hb2⟩ : ∃ b, v5.heap.size = b := ⟨_, rfl⟩
   have HB2 := Lib.hid (Blk.at (t.cs ++ u.cs) 25 hb2.symm)
   have HY2 := Lib.hid ((Ext.refl v5).alloc (.cells (t.cs ++ u.cs) 25))
   rw [hb2]
   clear hb2
   generalize v5.alloc (.cells (t.cs ++ u.cs) 25) = v6 at *
   refine hK.out _ _ ⟨hHeld.1.trans HY2.out, hHeld.2.ext HY2.out⟩ ?_
   clear hK K
   intro hHeld
   (try simp only [Act.put, List.setIfInBounds_toArray, List.set_cons_zero, List.set_cons_succ])
   have HG6 := Lib.hid (HE6.out.2.2.ext (HU.out.2.trans HY2.out))
   obtain ⟨v8, w8, hr8, hg8, hx8, ho8⟩ := app_gen2 (S := 29) Try.underlying29 sgInfo rfl (by decide) (show V.heap.size ≤ v6.heap.size from hHeld.1.size) HG6.out (show [t, u].length = 2 from rfl) (by omega) (gnews_at HB2.out.two4) (by have := HR.out.2.2; omega) 2 29
   refine ckL (i := 13) (h := fun K hK => ?_)
   rw [if_pos (show Region.wanted _ _ = true by rfl)]
   refine wp_append_runZ _ _ _ _ u10 (.slice (some ⟨b2, 0, none⟩) 2 2) v8 rfl rfl rfl hr8 ?_
   have E8 : Ext V w8 := hx8 V hHeld.1 (Nat.le_refl _)
   have HG8 := Lib.hid (And.intro hg8 E8)
   have B8 : Blk w8 (Bt + 1) t.cs 25 := (ho8 _ hHeld.2.lt HBT.out).trans hHeld.2
   clear hx8 ho8 hr8 hg8
   refine hK.out _ _ ⟨E8, B8⟩ ?_
   clear hK K hHeld E8 B8
   intro hHeld
   (try simp only [Act.put, List.setIfInBounds_toArray, List.set_cons_zero, List.set_cons_succ])
   refine tkW (i := 14) (h := ?_)
   refine doneL (by kernel_rfl) ?_
   clear hHeld
   go_wp2_with fail
   go_roundw
   case rel =>
    refine ⟨i + 2, os ++ [t, u], by omega, by go_num, by have := HR.out.2.2; simp; omega, Lib.hid (by have := HP2.out; omega), HG8.out.1, Lib.hid (fun x hx => ?_), HG8.out.2⟩
    rcases List.mem_append.1 hx with h | h
    ·exact HOS.out x h
    ·rcases List.mem_cons.1 h with h | h
     ·rw [h]; exact HT.out
     ·rw [List.mem_singleton] at h; rw [h]; exact HU.out.1.mono (by omega) (by omega)
   case measure => simp [intOf]; omega
  ·have hpar := HP2.out
   have hx1 : (i : Int) + 1 < (n0 : Int) := by omega
   have hx2 : ¬ (i : Int) < 12 := by omega
   clear hpar
   obtain ⟨a1, c1, rfl, hgs⟩ := hr.gsl
   have HGS := Lib.hid hgs
   obtain ⟨M, hM⟩ : ∃ M, os.length = M := ⟨_, rfl⟩
   have HOL := Lib.hid hM
   rw [hM] at HGS hr hgs hol ⊢
   have hM20 : M ≤ 13 := by omega
   have HEV := Lib.hid hE
   clear hr hgs hol hE HR hM
   all_goals
    go_wp2_with fail
    go_loopw [11, 15] (fun pv iv ws => ∃ (k : Nat) (ps : List Pt), k ≤ 6 ∧ iv = .int .i64 (k : Int) ∧ ps.length = k ∧ GRow encPt 23 ws wr.heap.size pv ps ∧ Hid (∀ p ∈ ps, Tiny p) ∧ Ext wr ws) (fun _ iv _ => 7 - (intOf iv).toNat)
    case atStart => exact ⟨0, [], by omega, rfl, rfl, GRow.nil _ _ _ _, Lib.hid (fun t h => by cases h), Ext.refl wr⟩
    case round =>
     rename World => wy
     rename_i hrel
     obtain ⟨k, ps, hk, rfl, hpl, hr, HPT, hE⟩ := hrel
     have HR := Lib.hid (And.intro hr (And.intro hE hpl))
     by_cases hlt3 : k < n3 ∧ k < 6
     ·obtain ⟨hl1, hl2⟩ := hlt3
      obtain ⟨b, off, rfl, hb, hc1⟩ := HI.out.2.2.2.at k (by omega)
      have hz1 := HI.out.2.2.2.2.2.1 k (by omega)
      obtain ⟨z1, hz1'⟩ : ∃ z, ys.getD k 0 = z := ⟨_, rfl⟩
      rw [hz1'] at hc1 hz1
      have HZZ := Lib.hid hz1
      have k1 : (k : Int) < (n3 : Int) := by omega
      have k2 : (k : Int) < 6 := by omega
      have k3 : (0 : Int) ≤ (k : Int) := by omega
      have x1 : wy.cell? ⟨b, off + k, none⟩ = some (.int .i64 z1) := (HV.out.1.trans (HEV.out.trans hE)).cell hc1
      clear hr hE hpl hz1 hc1 hz1'
      go_wp2_with fail
      refine (grid_c z1 _ HZZ.out).mono ?_
      rintro e w5 ⟨rfl, hx5⟩
      obtain ⟨p, hp⟩ : ∃ p, gridF z1 = p := ⟨_, rfl⟩
      have hpt : Tiny p := by rw [← hp]; exact gridF_tiny z1
      rw [hp]
      have HT := Lib.hid hpt
      obtain ⟨b2, hb2⟩ : ∃ b, w5.heap.size = b := ⟨_, rfl⟩
      obtain ⟨w6, hw6⟩ : ∃ w6, w5.alloc (.cells #[.int .i64 p.x, .int .i64 p.y] 23) = w6 := ⟨_, rfl⟩
      have E6 : Ext w5 w6 := by rw [← hw6]; exact (Ext.refl w5).alloc _
      have B6 : Blk w6 b2 #[.int .i64 p.x, .int .i64 p.y] 23 := by rw [← hw6]; exact Blk.at _ _ hb2.symm
      obtain ⟨v8, w8, hr8, hg8, hx8, -⟩ := app_gen2 (S := 30) Try.underlying30 ptInfo rfl (by decide) (show wr.heap.size ≤ w6.heap.size from (HR.out.2.1.trans (hx5.trans E6)).size) (HR.out.1.ext (hx5.trans E6)) (show [p].length = 1 from rfl) (by omega) (gnews_at B6.onePt) (by have := HR.out.2.2; omega) 1 30
      have HR8 := Lib.hid hr8
      have H8 := Lib.hid (And.intro hg8 (hx8 wr (HR.out.2.1.trans (hx5.trans E6)) (Nat.le_refl _)))
      have HW6 := Lib.hid (And.intro hb2 hw6)
      clear hp hpt hb2 hw6 E6 B6 hr8 hg8 hx8 hx5 x1
      go_wp2_with (first | (refine wpList_plain rfl fun _ hK => wp_build1Pt p _ rfl rfl (hK _ _ ?_); rw [HW6.out.1, HW6.out.2]) | (at_builtin; refine wpList_plain rfl fun _ hK => wp_append_runZ _ _ _ _ u11 (.slice (some ⟨b2, 0, none⟩) 1 1) v8 rfl rfl rfl HR8.out (hK _ _ ?_)))
      go_roundw
      case rel =>
       refine ⟨k + 1, ps ++ [p], by omega, by go_num, by have := HR.out.2.2; simp; omega, H8.out.1, Lib.hid (fun x hx => ?_), H8.out.2⟩
       rcases List.mem_append.1 hx with h | h
       ·exact HPT.out x h
       ·rw [List.mem_singleton] at h; rw [h]; exact HT.out
      case measure => simp [intOf]; omega
     ·have hex2 : ¬ (k : Int) < (n3 : Int) ∨ ((k : Int) < (n3 : Int) ∧ ¬ (k : Int) < 6) := by omega
      obtain ⟨a2, c2, rfl, hgs2⟩ := hr.gsl
      have HG2 := Lib.hid hgs2
      obtain ⟨M2, hM2⟩ : ∃ M2, ps.length = M2 := ⟨_, rfl⟩
      have HPL := Lib.hid hM2
      rw [hM2] at HG2 hr hgs2 hpl ⊢
      have hM26 : M2 ≤ 6 := by omega
      have HE2 := Lib.hid (And.intro (HV.out.1.trans (HEV.out.trans hE)) (And.intro (HV.out.2.ext (HEV.out.trans hE)) (HGS.out.ext hE)))
      have hc2 := HG2.out.cap
      have hc1 := HGS.out.cap
      have hok := HS.out.ok (by omega) (by omega)
      have HOK := Lib.hid (And.intro hok (And.intro (fun t (ht : t ∈ os) => (HOS.out t ht).ok (by omega) (by omega)) (fun p (hp : p ∈ ps) => (HPT.out p hp).good)))
      have HPN := Lib.hid (fun p (hp : p ∈ ps) => (ofR_in (by have := HPT.out p hp; unfold Tiny at this; omega) (by have := HPT.out p hp; unfold Tiny at this; omega) : PIn (ofR p) 4000000))
      clear hr hgs2 hpl hE HR hM2 hok
      rcases hex2 with hx3 | ⟨hx3, hx4⟩
      all_goals
       go_wp2_with fail
       go_loopw [16, 17] (fun bv iv ws => ∃ (q : Nat) (ba : Option Addr) (bc : Nat) (bl : List RP), q ≤ M + 1 ∧ iv = .int .i64 (q : Int) ∧ bv = .slice ba bl.length bc ∧ RPs ws ba bl.length bc bl ∧ Hid (bl.length ≤ 100 ∧ ∀ r ∈ bl, PIn r 4000000 ∧ r.q ∈ partsQ s (os.take q) (ps.take q)) ∧ Ext wy ws) (fun _ iv _ => M + 2 - (intOf iv).toNat)
       case atStart => exact ⟨0, none, 0, [], by omega, rfl, rfl, RPs.nil _, Lib.hid ⟨by simp, fun r h => by cases h⟩, Ext.refl wy⟩
       case round =>
        rename World => wz
        rename_i hrel
        obtain ⟨q, ba, bc, bl, hq, rfl, rfl, hbr, HBL, hE3⟩ := hrel
        obtain ⟨Nb, hNb⟩ : ∃ Nb, bl.length = Nb := ⟨_, rfl⟩
        rw [hNb]
        have HB := Lib.hid (And.intro hbr (And.intro hE3 hNb))
        clear hbr hE3 hNb
        by_cases hqM : q ≤ M
        ·obtain ⟨mi, hmi⟩ : ∃ mi : Nat, min q M2 = mi := ⟨_, rfl⟩
         have hmin : min (q : Int) (M2 : Int) = (mi : Int) := by omega
         have hml : mi ≤ M2 := by omega
         have HTK := Lib.hid (show ps.take q = ps.take mi by
          rcases Nat.le_total q M2 with h | h
          ·rw [← hmi, Nat.min_eq_left h]
          ·rw [← hmi, Nat.min_eq_right h, List.take_of_length_le (by rw [HPL.out]; exact h), List.take_of_length_le (by rw [HPL.out]; exact Nat.le_refl _)])
         have l1 : (q : Int) ≤ (M : Int) := by omega
         have l2 : (0 : Int) ≤ (mi : Int) := by omega
         have l3 : (mi : Int) ≤ (c2 : Int) := by omega
         have l4 : (0 : Int) ≤ (q : Int) := by omega
         have l5 : (q : Int) ≤ (c1 : Int) := by omega
         clear hmi
         obtain ⟨L, hL⟩ : ∃ L, partsQ s (os.take q) (ps.take mi) = L := ⟨_, rfl⟩
         obtain ⟨R, hR⟩ : ∃ R, partsR s (os.take q) (ps.take mi) = R := ⟨_, rfl⟩
         have hrep : RepP R L := by rw [← hL, ← hR]; exact rep_parts (HS.out.mono (by omega) (by omega)) (fun t h => (HOS.out t (List.mem_of_mem_take h)).mono (by omega) (by omega)) (fun p h => HPN.out p (List.mem_of_mem_take h))
         obtain ⟨N, hN⟩ : ∃ N, L.length = N := ⟨_, rfl⟩
         have hRN : R.length = N := by rw [hrep.len, hN]
         have hNs : N ≤ 100 := by
          have h1 := partsQ_len s (os.take q) (ps.take mi)
          have h2 := List.length_take_le' q os
          have h3 := List.length_take_le' mi ps
          rw [hL, hN] at h1
          have h4 := HOL.out
          have h5 := HPL.out
          omega
         have hN0 : 2 ≤ N := by rw [← hN, ← hL]; exact parts_two s _ _ HOK.out.1
         have HLR := Lib.hid (show partsQ s (os.take q) (ps.take mi) = L ∧ partsR s (os.take q) (ps.take mi) = R ∧ RepP R L ∧ L.length = N ∧ R.length = N ∧ SrtQ L from ⟨hL, hR, hrep, hN, hRN, by rw [← hL]; exact partsQ_srt _ _ _⟩)
         have HC := Lib.hid (fun W (e : Ext wz W) => (show W.cell? ⟨G, 0, none⟩ = some (.int .i64 s.a.x) ∧ W.cell? ⟨G, 1, none⟩ = some (.int .i64 s.a.y) ∧ W.cell? ⟨G, 2, none⟩ = some (.int .i64 s.b.x) ∧ W.cell? ⟨G, 3, none⟩ = some (.int .i64 s.b.y) from ⟨((HE2.out.2.1.ext HB.out.2.1).ext e).cell 0, ((HE2.out.2.1.ext HB.out.2.1).ext e).cell 1, ((HE2.out.2.1.ext HB.out.2.1).ext e).cell 2, ((HE2.out.2.1.ext HB.out.2.1).ext e).cell 3⟩))
         have hqi : q ≤ M := hqM
         clear hL hR hrep hN hRN
         go_upto_region 18 with fail
         refine wp_region_held_drew (S := fun W => Ext wz W) (by kernel_rfl) ((Ext.refl wz).drew) (fun hHeld => ?_)
         refine tkL (i := 0) (H := HC) (h := ?_)
         refine tkW (i := 1) (h := ?_)
         refine tkW (i := 2) (h := ?_)
         refine tkW (i := 3) (h := ?_)
         refine tkW (i := 4) (h := ?_)
         refine ckL (i := 5) (h := fun K hK => ?_)
         go_simp
         go_at_call 20
         refine (Parts_ok s a1 q c1 (os.take q) a2 mi c2 (ps.take mi) _ (((HE2.out.2.2.ext HB.out.2.1).take hqi).ext (by assumption)) (((HG2.out.ext HB.out.2.1).take hml).ext (by assumption)) (by omega) (by omega) (partsE_ok HOK.out.1 (fun t h => HOK.out.2.1 t (List.mem_of_mem_take h)) (fun p h => HOK.out.2.2 p (List.mem_of_mem_take h)))).mono ?_
         rintro e w5 ⟨g, cc, qs, rfl, hg, hql, hst, hx5⟩
         rw [HLR.out.1] at hql hst ⊢
         rw [HLR.out.2.2.2.1] at hql ⊢
         go_wp2_with fail
         have H5 := Lib.hid (And.intro hg (And.intro hql (And.intro hst (hHeld.trans hx5))))
         refine shG hK (h := ?_)
         clear hK K hg hql hst hx5
         intro hHeld
         refine tkW (i := 6) (h := ?_)
         refine tkW (i := 7) (h := ?_)
         refine tkW (i := 8) (h := ?_)
         refine tkW (i := 9) (h := ?_)
         refine tkW (i := 10) (h := ?_)
         refine doneL (by kernel_rfl) ?_
         clear hHeld
         go_upto_region 19 with fail
         refine wp_region_held_drew (S := fun W => Ext wz W) (by kernel_rfl) (H5.out.2.2.2.drew) (fun hHeld => ?_)
         refine tkL (i := 0) (H := HC) (h := ?_)
         refine tkW (i := 1) (h := ?_)
         refine tkW (i := 2) (h := ?_)
         refine tkW (i := 3) (h := ?_)
         refine tkW (i := 4) (h := ?_)
         refine ckL (i := 5) (h := fun K hK => ?_)
         go_simp
         go_at_call 39
         refine (rParts_c s a1 q c1 (os.take q) a2 mi c2 (ps.take mi) _ (((HE2.out.2.2.ext HB.out.2.1).take hqi).ext (by assumption)) (((HG2.out.ext HB.out.2.1).take hml).ext (by assumption)) (by omega) (by omega) (HS.out.mono (by omega) (by omega)) (fun t h => (HOS.out t (List.mem_of_mem_take h)).mono (by omega) (by omega)) (fun p h => HPN.out p (List.mem_of_mem_take h))).mono ?_
         rintro e w7 ⟨ra, rc, rfl, hr, hx7⟩
         rw [HLR.out.2.1] at hr ⊢
         rw [HLR.out.2.2.2.2.1] at hr ⊢
         go_wp2_with fail
         have H7 := Lib.hid (And.intro hr (And.intro (hHeld.trans hx7) ((Ext.refl w5).drew.trans hx7)))
         refine shG hK (h := ?_)
         clear hK K hr hx7
         intro hHeld
         refine tkW (i := 6) (h := ?_)
         refine doneL (by kernel_rfl) ?_
         clear hHeld
         obtain ⟨gr, rfl, hgr⟩ := H7.out.1.r3 (by omega)
         have HGR := Lib.hid hgr
         clear hgr
         have n1 : ¬ ((N : Int) ≠ (N : Int)) := fun h => h rfl
         go_wp2_with fail
         go_loopw [22] (fun v ws => ∃ k : Nat, k ≤ N ∧ v = .int .i64 (k : Int) ∧ Ext w7 ws) (fun v _ => N - (intOf v).toNat)
         case atStart => exact ⟨0, by omega, rfl, Ext.refl w7⟩
         case round =>
          rename World => wk
          rename_i hrel
          obtain ⟨k, hk, rfl, hE⟩ := hrel
          have HY := Lib.hid hE
          by_cases hkN : k < N
          ·obtain ⟨f0, hf0⟩ : ∃ f, qs[k]? = some f := ⟨_, List.getElem?_eq_getElem (by rw [H5.out.2.1]; omega)⟩
           obtain ⟨y, hy⟩ : ∃ y, R[k]? = some y := ⟨_, List.getElem?_eq_getElem (by rw [HLR.out.2.2.2.2.1]; omega)⟩
           have hp := HLR.out.2.2.1.get hy
           have HX := Lib.hid (And.intro hf0 (And.intro hy hp))
           have HF := Lib.hid (show IsPQ wk f0 y.q ∧ RB64 y ∧ ownQ y = y.q from ⟨(H5.out.2.2.1 k f0 y.q hf0 hp).keep (H7.out.2.2.trans hE).ik, (HLR.out.2.2.1.b y (List.mem_of_getElem? hy)).rb (by omega), ownQ_pos (HLR.out.2.2.1.b y (List.mem_of_getElem? hy)).d1⟩)
           have HCp := Lib.hid (fun W (e : Ext wk W) => (show (W.cell? ⟨g, k * 8, none⟩ = some (.bool f0.x.n.neg) ∧ W.cell? ⟨g, k * 8 + 1, none⟩ = some (.slice f0.x.n.a f0.x.n.n f0.x.n.c) ∧ W.cell? ⟨g, k * 8 + 2, none⟩ = some (.bool f0.x.d.neg) ∧ W.cell? ⟨g, k * 8 + 3, none⟩ = some (.slice f0.x.d.a f0.x.d.n f0.x.d.c) ∧ W.cell? ⟨g, k * 8 + 4, none⟩ = some (.bool f0.y.n.neg) ∧ W.cell? ⟨g, k * 8 + 5, none⟩ = some (.slice f0.y.n.a f0.y.n.n f0.y.n.c) ∧ W.cell? ⟨g, k * 8 + 6, none⟩ = some (.bool f0.y.d.neg) ∧ W.cell? ⟨g, k * 8 + 7, none⟩ = some (.slice f0.y.d.a f0.y.d.n f0.y.d.c)) from (H5.out.1.ext ((H7.out.2.2.trans hE).trans e)).p8 hf0))
           have HCr := Lib.hid (fun W (e : Ext wk W) => (show W.cell? ⟨gr, k * 3, none⟩ = some (.int .i64 y.x) ∧ W.cell? ⟨gr, k * 3 + 1, none⟩ = some (.int .i64 y.y) ∧ W.cell? ⟨gr, k * 3 + 2, none⟩ = some (.int .i64 y.d) from ⟨(hE.trans e).cell (HGR.out k y hy).1, (hE.trans e).cell (HGR.out k y hy).2.1, (hE.trans e).cell (HGR.out k y hy).2.2⟩))
           have k1 : (0 : Int) ≤ (k : Int) := by omega
           have k2 : (k : Int) < (N : Int) := by omega
           clear hf0 hy hp hE
           rcases Nat.eq_zero_or_pos k with hk0 | hk0
           ·have HK0 := Lib.hid hk0
            clear hk0
            go_upto_region 25 with fail
            refine wp_region_held_drew (S := fun W => Ext wk W) (by kernel_rfl) ((Ext.refl wk).drew) (fun hHeld => ?_)
            refine tkW (i := 0) (h := ?_)
            refine tkW (i := 1) (h := ?_)
            refine tkW (i := 2) (h := ?_)
            refine tkL (i := 3) (H := HCp) (h := ?_)
            refine tkW (i := 4) (h := ?_)
            refine tkW (i := 5) (h := ?_)
            refine tkW (i := 6) (h := ?_)
            refine tkL (i := 7) (H := HCr) (h := ?_)
            refine ckL (i := 8) (h := fun K hK => ?_); go_simp; go_at_call 36; refine (lown_c y _ HF.out.2.1).mono ?_; rw [HF.out.2.2]; rintro e v5 ⟨d5, rfl, hd5, hx5⟩; go_wp2_with fail; refine shG hK (h := ?_); clear hK K; intro hHeld
            refine ckL (i := 9) (h := fun K hK => ?_)
            go_simp
            go_at_call 24
            refine (pCompare_c f0 d5 y.q y.q _ (HF.out.1.keep (Ext.ik (by assumption))) hd5).mono ?_
            rw [cmpP_self]
            rintro e v6 ⟨rfl, hx6⟩
            go_wp2_with fail
            refine shG hK (h := ?_)
            clear hK K hd5 hx5 hx6
            intro hHeld
            have HX6 := Lib.hid hHeld
            refine tkW (i := 10) (h := ?_)
            refine tkW (i := 11) (h := ?_)
            refine tkW (i := 12) (h := ?_)
            refine tkW (i := 13) (v := .bool false) (hy := ?_) (h := ?_)
            ·intro wq _
             have hk0 : k = 0 := HK0.out
             subst hk0
             rfl
            refine tkW (i := 14) (h := ?_)
            refine tkN (i := 15) (h := ?_)
            refine tkN (i := 16) (h := ?_)
            refine tkN (i := 17) (h := ?_)
            refine tkN (i := 18) (h := ?_)
            refine tkN (i := 19) (h := ?_)
            refine tkN (i := 20) (h := ?_)
            refine tkN (i := 21) (h := ?_)
            refine tkN (i := 22) (h := ?_)
            refine tkN (i := 23) (h := ?_)
            refine ckL (i := 24) (h := fun K hK => ?_)
            refine ite_no (hc := by rfl) ?_
            refine hK.out _ _ hHeld ?_
            clear hK K hHeld
            intro hHeld
            (try simp only [Act.put, List.setIfInBounds_toArray, List.set_cons_zero, List.set_cons_succ])
            refine tkN (i := 25) (h := ?_)
            refine tkW (i := 26) (h := ?_)
            refine tkW (i := 27) (h := ?_)
            refine doneL (by kernel_rfl) ?_
            clear hHeld
            go_wp2_with fail
            go_roundw
            case rel => exact ⟨k + 1, by omega, by go_num, HY.out.trans HX6.out⟩
            case measure => simp [intOf]; omega
           ·obtain ⟨j, hj⟩ : ∃ j : Nat, k = j + 1 := ⟨k - 1, by omega⟩
            have HK0 := Lib.hid (show (0 : Int) < (k : Int) by omega)
            have hji : (k : Int) - 1 = (j : Int) := by omega
            have k4 : IntKind.i64.wrap ((k : Int) - 1) = (j : Int) := by rw [hji]; exact IntWalk.i64_in _ (by omega)
            have k5 : (0 : Int) ≤ (j : Int) := by omega
            have k6 : (j : Int) < (N : Int) := by omega
            obtain ⟨f9, hf9⟩ : ∃ f, qs[j]? = some f := ⟨_, List.getElem?_eq_getElem (by rw [H5.out.2.1]; omega)⟩
            obtain ⟨q9, hq9⟩ : ∃ y, L[j]? = some y := ⟨_, List.getElem?_eq_getElem (by rw [HLR.out.2.2.2.1]; omega)⟩
            obtain ⟨z9, hz9⟩ : ∃ z, cmpP q9 y.q = z := ⟨_, rfl⟩
            have hz0 : z9 < 0 := by rw [← hz9]; exact cmpP_lt.2 (srt_before HLR.out.2.2.2.2.2 (by omega : j < k) hq9 HX.out.2.2)
            have k7 : ¬ (0 : Int) ≤ z9 := by omega
            have H9 := Lib.hid (show IsPQ wk f9 q9 ∧ cmpP q9 y.q = z9 from ⟨(H5.out.2.2.1 j f9 q9 hf9 hq9).keep (H7.out.2.2.trans HY.out).ik, hz9⟩)
            have HC9 := Lib.hid (fun W (e : Ext wk W) => (show (W.cell? ⟨g, j * 8, none⟩ = some (.bool f9.x.n.neg) ∧ W.cell? ⟨g, j * 8 + 1, none⟩ = some (.slice f9.x.n.a f9.x.n.n f9.x.n.c) ∧ W.cell? ⟨g, j * 8 + 2, none⟩ = some (.bool f9.x.d.neg) ∧ W.cell? ⟨g, j * 8 + 3, none⟩ = some (.slice f9.x.d.a f9.x.d.n f9.x.d.c) ∧ W.cell? ⟨g, j * 8 + 4, none⟩ = some (.bool f9.y.n.neg) ∧ W.cell? ⟨g, j * 8 + 5, none⟩ = some (.slice f9.y.n.a f9.y.n.n f9.y.n.c) ∧ W.cell? ⟨g, j * 8 + 6, none⟩ = some (.bool f9.y.d.neg) ∧ W.cell? ⟨g, j * 8 + 7, none⟩ = some (.slice f9.y.d.a f9.y.d.n f9.y.d.c)) from (H5.out.1.ext ((H7.out.2.2.trans HY.out).trans e)).p8 hf9))
            clear hk0 hj hji hf9 hq9 hz9 hz0
            go_upto_region 25 with fail
            refine wp_region_held_drew (S := fun W => Ext wk W) (by kernel_rfl) ((Ext.refl wk).drew) (fun hHeld => ?_)
            refine tkW (i := 0) (h := ?_)
            refine tkW (i := 1) (h := ?_)
            refine tkW (i := 2) (h := ?_)
            refine tkL (i := 3) (H := HCp) (h := ?_)
            refine tkW (i := 4) (h := ?_)
            refine tkW (i := 5) (h := ?_)
            refine tkW (i := 6) (h := ?_)
            refine tkL (i := 7) (H := HCr) (h := ?_)
            refine ckL (i := 8) (h := fun K hK => ?_); go_simp; go_at_call 36; refine (lown_c y _ HF.out.2.1).mono ?_; rw [HF.out.2.2]; rintro e v5 ⟨d5, rfl, hd5, hx5⟩; go_wp2_with fail; refine shG hK (h := ?_); clear hK K; intro hHeld
            refine ckL (i := 9) (h := fun K hK => ?_)
            go_simp
            go_at_call 24
            refine (pCompare_c f0 d5 y.q y.q _ (HF.out.1.keep (Ext.ik (by assumption))) hd5).mono ?_
            rw [cmpP_self]
            rintro e v6 ⟨rfl, hx6⟩
            go_wp2_with fail
            refine shG hK (h := ?_)
            clear hK K hd5 hx5 hx6
            intro hHeld
            refine tkW (i := 10) (h := ?_)
            refine tkW (i := 11) (h := ?_)
            refine tkW (i := 12) (h := ?_)
            refine tkW (i := 13) (v := .bool true) (hy := ?_) (h := ?_)
            ·intro wq _
             refine Eq.trans (b := .ok (.value (.bool (decide ((0 : Int) < (k : Int))))) wq) rfl ?_
             rw [decide_eq_true HK0.out]
            refine tkW (i := 14) (h := ?_)
            refine tkW (i := 15) (h := ?_)
            refine tkW (i := 16) (h := ?_)
            refine tkW (i := 17) (h := ?_)
            refine tkW (i := 18) (h := ?_)
            refine tkL (i := 19) (H := HC9) (h := ?_)
            refine tkW (i := 20) (h := ?_)
            refine tkW (i := 21) (h := ?_)
            refine tkW (i := 22) (h := ?_)
            refine tkL (i := 23) (H := HCp) (h := ?_)
            refine ckL (i := 24) (h := fun K hK => ?_)
            rw [if_pos (show Region.wanted _ _ = true by rfl)]
            go_simp
            go_at_call 24
            refine (pCompare_c f9 f0 q9 y.q _ (H9.out.1.keep (Ext.ik (by assumption))) (HF.out.1.keep (Ext.ik (by assumption)))).mono ?_
            rw [H9.out.2]
            rintro e v7 ⟨rfl, hx7⟩
            go_wp2_with fail
            refine shG hK (h := ?_)
            clear hK K hx7
            intro hHeld
            have HX7 := Lib.hid hHeld
            refine tkW (i := 25) (h := ?_)
            refine tkW (i := 26) (h := ?_)
            refine tkW (i := 27) (h := ?_)
            refine doneL (by kernel_rfl) ?_
            clear hHeld
            go_wp2_with fail
            go_roundw
            case rel => exact ⟨k + 1, by omega, by go_num, HY.out.trans HX7.out⟩
            case measure => simp [intOf]; omega
          ·have hkN2 : ¬ (k : Int) < (N : Int) := by omega
           clear hE
           have hbr := HB.out.1
           obtain ⟨Bg, hBg⟩ : ∃ Bg : Nat, 0 < Nb → ba = some ⟨Bg, 0, none⟩ ∧ ∀ i p, bl[i]? = some p → wz.cell? ⟨Bg, i * 3, none⟩ = some (.int .i64 p.x) ∧ wz.cell? ⟨Bg, i * 3 + 1, none⟩ = some (.int .i64 p.y) ∧ wz.cell? ⟨Bg, i * 3 + 2, none⟩ = some (.int .i64 p.d) := by
            rcases Nat.eq_zero_or_pos Nb with h | h
            ·exact ⟨0, fun h' => by omega⟩
            ·obtain ⟨b, h1, h2⟩ := hbr.r3 (by rw [HB.out.2.2]; exact h)
             exact ⟨b, fun _ => ⟨h1, h2⟩⟩
           have HBG := Lib.hid hBg
           have HWK := Lib.hid (H7.out.2.2.trans HY.out)
           have HWZ := Lib.hid (H7.out.2.1.trans HY.out)
           have hNb : Nb ≤ 100 := by have := HBL.out.1; rw [HB.out.2.2] at this; exact this
           clear hbr hBg
           go_wp2_with fail
           go_loopw [23] (fun v ws => ∃ i : Nat, i ≤ Nb ∧ v = .int .i64 (i : Int) ∧ Ext wk ws) (fun v _ => Nb - (intOf v).toNat)
           case atStart => exact ⟨0, by omega, rfl, Ext.refl wk⟩
           case round =>
            rename World => wm
            rename_i hrel
            obtain ⟨i, hi, rfl, hE⟩ := hrel
            have HM := Lib.hid hE
            clear hE
            by_cases hiN : i < Nb
            ·obtain ⟨rfl, hbc⟩ := HBG.out (by omega)
             obtain ⟨r, hr⟩ : ∃ r, bl[i]? = some r := ⟨_, List.getElem?_eq_getElem (by rw [HB.out.2.2]; exact hiN)⟩
             have hrm := List.mem_of_getElem? hr
             have hrq : r.q ∈ L := by
              have h := (HBL.out.2 r hrm).2
              rw [HTK.out, HLR.out.1] at h
              exact h
             obtain ⟨j0, hj0, hj1⟩ := List.getElem_of_mem hrq
             have hj2 : L[j0]? = some r.q := by rw [List.getElem?_eq_getElem hj0, hj1]
             rw [HLR.out.2.2.2.1] at hj0
             have HJ0 := Lib.hid (And.intro hj0 hj2)
             have HRR := Lib.hid (show RB64 r ∧ ownQ r = r.q from ⟨(HBL.out.2 r hrm).1.rb (by omega), ownQ_pos (HBL.out.2 r hrm).1.d1⟩)
             have HCr := Lib.hid (fun W (e : Ext wm W) => (show W.cell? ⟨Bg, i * 3, none⟩ = some (.int .i64 r.x) ∧ W.cell? ⟨Bg, i * 3 + 1, none⟩ = some (.int .i64 r.y) ∧ W.cell? ⟨Bg, i * 3 + 2, none⟩ = some (.int .i64 r.d) from ⟨((HWZ.out.trans HM.out).trans e).cell (hbc i r hr).1, ((HWZ.out.trans HM.out).trans e).cell (hbc i r hr).2.1, ((HWZ.out.trans HM.out).trans e).cell (hbc i r hr).2.2⟩))
             have i1 : (0 : Int) ≤ (i : Int) := by omega
             have i2 : (i : Int) < (Nb : Int) := by omega
             clear hbc hr hrm hrq hj0 hj1 hj2
             go_wp2_with fail
             go_loopw [24, 25] (fun bv jv ws => ∃ (j : Nat) (b : Bool), j ≤ N ∧ jv = .int .i64 (j : Int) ∧ bv = .bool b ∧ Hid (b = true ↔ ∃ j', j' < j ∧ L[j']? = some r.q) ∧ Ext wm ws) (fun _ v _ => N - (intOf v).toNat)
             case atStart => exact ⟨0, false, by omega, rfl, rfl, Lib.hid ⟨fun h => (by cases h), fun ⟨_, h, _⟩ => (by omega)⟩, Ext.refl wm⟩
             case round =>
              rename World => wo
              rename_i hrel
              obtain ⟨j, b, hj, rfl, rfl, HBB, hE⟩ := hrel
              have HO := Lib.hid hE
              clear hE
              by_cases hjN : j < N
              ·obtain ⟨f0, hf0⟩ : ∃ f, qs[j]? = some f := ⟨_, List.getElem?_eq_getElem (by rw [H5.out.2.1]; omega)⟩
               obtain ⟨p0, hp0⟩ : ∃ p, L[j]? = some p := ⟨_, List.getElem?_eq_getElem (by rw [HLR.out.2.2.2.1]; omega)⟩
               have HX := Lib.hid hp0
               have HF := Lib.hid (show IsPQ wo f0 p0 from (H5.out.2.2.1 j f0 p0 hf0 hp0).keep (HWK.out.trans (HM.out.trans HO.out)).ik)
               have HCp := Lib.hid (fun W (e : Ext wo W) => (show (W.cell? ⟨g, j * 8, none⟩ = some (.bool f0.x.n.neg) ∧ W.cell? ⟨g, j * 8 + 1, none⟩ = some (.slice f0.x.n.a f0.x.n.n f0.x.n.c) ∧ W.cell? ⟨g, j * 8 + 2, none⟩ = some (.bool f0.x.d.neg) ∧ W.cell? ⟨g, j * 8 + 3, none⟩ = some (.slice f0.x.d.a f0.x.d.n f0.x.d.c) ∧ W.cell? ⟨g, j * 8 + 4, none⟩ = some (.bool f0.y.n.neg) ∧ W.cell? ⟨g, j * 8 + 5, none⟩ = some (.slice f0.y.n.a f0.y.n.n f0.y.n.c) ∧ W.cell? ⟨g, j * 8 + 6, none⟩ = some (.bool f0.y.d.neg) ∧ W.cell? ⟨g, j * 8 + 7, none⟩ = some (.slice f0.y.d.a f0.y.d.n f0.y.d.c)) from (H5.out.1.ext (HWK.out.trans (HM.out.trans (HO.out.trans e)))).p8 hf0))
               have HCb := Lib.hid (fun W (e : Ext wo W) => HCr.out W (HO.out.trans e))
               have j1 : (0 : Int) ≤ (j : Int) := by omega
               have j2 : (j : Int) < (N : Int) := by omega
               clear hf0 hp0
               go_upto_region 34 with fail
               cases b with
               | true =>
                refine wp_region_held_drew (S := fun W => Ext wo W) (by kernel_rfl) ((Ext.refl wo).drew) (fun hHeld => ?_)
                refine tkW (i := 0) (h := ?_)
                refine tkW (i := 1) (h := ?_)
                refine tkN (i := 2) (h := ?_)
                refine tkN (i := 3) (h := ?_)
                refine tkN (i := 4) (h := ?_)
                refine tkN (i := 5) (h := ?_)
                refine tkN (i := 7) (h := ?_)
                refine tkN (i := 8) (h := ?_)
                refine tkN (i := 9) (h := ?_)
                refine tkN (i := 10) (h := ?_)
                refine ckL (i := 6) (h := fun K hK => ?_)
                refine ite_no (hc := by rfl) ?_
                refine hK.out _ _ hHeld ?_
                clear hK K hHeld
                intro hHeld
                (try simp only [Act.put, List.setIfInBounds_toArray, List.set_cons_zero, List.set_cons_succ])
                refine ckL (i := 11) (h := fun K hK => ?_)
                refine ite_no (hc := by rfl) ?_
                refine hK.out _ _ hHeld ?_
                clear hK K hHeld
                intro hHeld
                (try simp only [Act.put, List.setIfInBounds_toArray, List.set_cons_zero, List.set_cons_succ])
                refine tkN (i := 12) (h := ?_)
                refine tkW (i := 13) (h := ?_)
                refine tkW (i := 14) (h := ?_)
                refine doneL (by kernel_rfl) ?_
                clear hHeld
                go_wp2_with fail
                go_roundw
                case rel =>
                 refine ⟨j + 1, true, by omega, by go_num, rfl, Lib.hid ⟨fun _ => ?_, fun _ => rfl⟩, HO.out.drew⟩
                 obtain ⟨j', h1, h2⟩ := HBB.out.1 rfl
                 exact ⟨j', by omega, h2⟩
                case measure => simp [intOf]; omega
               | false =>
                refine wp_region_held_drew (S := fun W => Ext wo W) (by kernel_rfl) ((Ext.refl wo).drew) (fun hHeld => ?_)
                refine tkW (i := 0) (h := ?_)
                refine tkW (i := 1) (h := ?_)
                refine tkW (i := 2) (h := ?_)
                refine tkW (i := 3) (h := ?_)
                refine tkW (i := 4) (h := ?_)
                refine tkL (i := 5) (H := HCb) (h := ?_)
                refine tkW (i := 7) (h := ?_)
                refine tkW (i := 8) (h := ?_)
                refine tkW (i := 9) (h := ?_)
                refine tkL (i := 10) (H := HCp) (h := ?_)
                refine ckL (i := 6) (h := fun K hK => ?_)
                rw [if_pos (show Region.wanted _ _ = true by rfl)]
                go_simp
                go_at_call 36
                refine (lown_c r _ HRR.out.1).mono ?_
                rw [HRR.out.2]
                rintro e v5 ⟨d5, rfl, hd5, hx5⟩
                go_wp2_with fail
                refine shG hK (h := ?_)
                clear hK K
                intro hHeld
                refine ckL (i := 11) (h := fun K hK => ?_)
                rw [if_pos (show Region.wanted _ _ = true by rfl)]
                go_simp
                go_at_call 24
                refine (pCompare_c d5 f0 r.q p0 _ hd5 (HF.out.keep (Ext.ik (by assumption)))).mono ?_
                rintro e v6 ⟨rfl, hx6⟩
                by_cases hz : cmpP r.q p0 = 0
                ·rw [hz]
                 have HZ := Lib.hid (cmpP_zero.1 hz)
                 clear hz
                 go_wp2_with fail
                 refine shG hK (h := ?_)
                 clear hK K hd5 hx5 hx6
                 intro hHeld
                 have HX6 := Lib.hid hHeld
                 refine tkW (i := 12) (h := ?_)
                 refine tkW (i := 13) (h := ?_)
                 refine tkW (i := 14) (h := ?_)
                 refine doneL (by kernel_rfl) ?_
                 clear hHeld
                 go_wp2_with fail
                 go_roundw
                 case rel => exact ⟨j + 1, true, by omega, by go_num, rfl, Lib.hid ⟨fun _ => ⟨j, by omega, by rw [HZ.out]; exact HX.out⟩, fun _ => rfl⟩, HO.out.trans HX6.out⟩
                 case measure => simp [intOf]; omega
                ·obtain ⟨z, hzz⟩ : ∃ z, cmpP r.q p0 = z := ⟨_, rfl⟩
                 rw [hzz] at hz ⊢
                 have HZ0 := Lib.hid (show (z == 0) = false by simpa using hz)
                 have HZ := Lib.hid (show ¬ r.q = p0 from fun h => hz (by rw [← hzz]; exact cmpP_zero.2 h))
                 clear hzz
                 go_wp2_with fail
                 refine shG hK (h := ?_)
                 clear hK K hd5 hx5 hx6
                 intro hHeld
                 have HX6 := Lib.hid hHeld
                 refine tkW (i := 12) (h := ?_)
                 refine tkW (i := 13) (h := ?_)
                 refine tkW (i := 14) (h := ?_)
                 refine doneL (by kernel_rfl) ?_
                 clear hHeld
                 go_wp2_with fail
                 go_roundw
                 case rel =>
                  refine ⟨j + 1, false, by omega, by go_num, by rw [HZ0.out], Lib.hid ⟨fun h => (by cases h), fun ⟨j', h1, h2⟩ => ?_⟩, HO.out.trans HX6.out⟩
                  rcases Nat.lt_or_ge j' j with h3 | h3
                  ·exact HBB.out.2 ⟨j', h3, h2⟩
                  ·obtain rfl : j' = j := by omega
                   rw [HX.out] at h2
                   injection h2 with h2
                   exact absurd h2.symm HZ.out
                 case measure => simp [intOf]; omega
              ·have HB1 := Lib.hid (show b = true from HBB.out.2 ⟨j0, by have := HJ0.out.1; omega, HJ0.out.2⟩)
               have hbt : b = true := HB1.out
               subst hbt
               have hjN2 : ¬ (j : Int) < (N : Int) := by omega
               go_wp2_with fail
               go_roundw
               case rel => exact ⟨i + 1, by omega, by go_num, HM.out.trans HO.out⟩
               case measure => simp [intOf]; omega
            ·have hiN2 : ¬ (i : Int) < (Nb : Int) := by omega
             have HNEW := Lib.hid (show R.length ≤ 100 ∧ ∀ r ∈ R, PIn r 4000000 ∧ r.q ∈ partsQ s (os.take (q + 1)) (ps.take (q + 1)) from by
              refine ⟨by rw [HLR.out.2.2.2.2.1]; exact hNs, fun r hr => ⟨HLR.out.2.2.1.b r hr, ?_⟩⟩
              obtain ⟨jr, hjr, hjr1⟩ := List.getElem_of_mem hr
              have h1 := HLR.out.2.2.1.get (show R[jr]? = some r by rw [List.getElem?_eq_getElem hjr, hjr1])
              have h2 := List.mem_of_getElem? h1
              rw [← HLR.out.1, ← HTK.out] at h2
              exact partsQ_more (fun t ht => (List.take_subset_take_left os (Nat.le_succ q)) ht) (fun t ht => (List.take_subset_take_left ps (Nat.le_succ q)) ht) h2)
             go_wp2_with fail
             go_roundw
             case rel => exact ⟨q + 1, _, rc, R, by omega, by go_num, by rw [HLR.out.2.2.2.2.1], by rw [HLR.out.2.2.2.2.1]; exact H7.out.1.ext ((HY.out).trans HM.out), HNEW, HB.out.2.1.trans (HWZ.out.trans HM.out)⟩
             case measure => simp [intOf]; omega
        ·have hqn : ¬ (q : Int) ≤ (M : Int) := by omega
         go_wp2_with fail
         refine (llives_c _).mono ?_
         rintro e w9 ⟨rfl, hx9⟩
         have HX9 := Lib.hid hx9
         clear hx9
         go_wp2_with fail
         go_ret
         exact ⟨rfl, HE2.out.1.trans (HB.out.2.1.trans HX9.out)⟩
theorem walkParts (n m : Int) (a0 : Option Addr) (n0 c0 : Nat) (zs : List Int) (a3 : Option Addr) (n3 c3 : Nat) (ys : List Int) (w : World) (hn : Int64 n) (hm : Int64 m) (h0 : Ints w a0 n0 zs) (h3 : Ints w a3 n3 ys) :
  Calls Try.prog 9 #[.int .i64 n, .int .i64 m, .slice a0 n0 c0, .slice a3 n3 c3] w fun e w' => e = .returned (.bool true) ∧ Ext w w' := by
 rcases Nat.lt_or_ge 13 n0 with h | h
 ·exact walkParts_l n m a0 n0 c0 zs a3 n3 c3 ys w hn hm h0 h3 h
 ·exact walkParts_s n m a0 n0 c0 zs a3 n3 c3 ys w hn hm h0 h3 h
theorem int64_of_wf {n : Int} (h : (Lit.int .i64 n).wf = true) : Int64 n := by
  simp [Lit.wf, IntKind.min, IntKind.max, IntKind.signed, IntKind.bits] at h
  unfold Int64; omega
theorem ints_of_row {w : World} {a : Option Addr} {len cap : Nat} {zs : List Int}
    (h : (a = none ∧ len = 0 ∧ cap = 0 ∧ zs = []) ∨ ∃ x, a = some x ∧ len ≤ cap ∧ cap ≤ maxLen ∧ zs.length = cap ∧ (∀ i, i < zs.length → w.cell? (x.add i) = some (.int .i64 (zs.getD i 0))) ∧ ∀ n ∈ zs, (Lit.int .i64 n).wf = true) :
    Ints w a len (zs.take len) := by
  rcases h with ⟨rfl, rfl, rfl, rfl⟩ | ⟨x, rfl, hl, hm, hz, hc, hw⟩
  · exact ⟨rfl, by omega, fun i hi => absurd hi (by omega), .inl rfl⟩
  · have hg : ∀ i, i < len → (zs.take len).getD i 0 = zs.getD i 0 := fun i hi => by
      simp [List.getD_eq_getElem?_getD, List.getElem?_take, hi]
    refine ⟨by simp; omega, ?_, fun i hi => ?_, ?_⟩
    · rw [maxLen] at hm; omega
    · rw [hg i hi]
      have : zs.getD i 0 ∈ zs := by
        rw [List.getD_eq_getElem?_getD, List.getElem?_eq_getElem (by omega)]; exact List.getElem_mem _
      exact int64_of_wf (hw _ this)
    · by_cases h0 : len = 0
      · exact .inl h0
      · have c0 := hc 0 (by omega)
        obtain ⟨b, off, sp⟩ := x
        cases sp with
        | some s =>
          exfalso
          rw [show (⟨b, off, some s⟩ : Addr).add 0 = ⟨b, off, some s⟩ by simp [Addr.add]] at c0
          unfold World.cell? at c0
          split at c0 <;> simp at c0
        | none =>
          refine .inr ⟨b, off, rfl, ?_, fun i hi => ?_⟩
          · rw [show (⟨b, off, none⟩ : Addr).add 0 = ⟨b, off, none⟩ by simp [Addr.add]] at c0
            exact lt_of_cell c0
          · rw [hg i hi, ← hc i (by omega)]
            congr 1
            unfold Addr.add; split <;> simp_all
end Go.Proofs.Ytagiaiocgjagnaa
