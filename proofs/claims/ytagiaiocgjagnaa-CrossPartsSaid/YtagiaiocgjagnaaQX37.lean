/- X36 X37: several texts of this proof in one. -/
import Derived.Test.YtagiaiocgjagnaaQWT
import Derived.Test.YtagiaiocgjagnaaQX35
import Derived.Test.YtagiaiocgjagnaaQX08
import Derived.Test.YtagiaiocgjagnaaQX09
import Derived.Test.YtagiaiocgjagnaaQX13
import Derived.Test.YtagiaiocgjagnaaQX15
namespace Go.Proofs.Ytagiaiocgjagnaa
set_option linter.unusedSimpArgs false
set_option linter.unusedVariables false
open Go.RowKit

/-- The error of Parts. -/
def partsE (s : Sg) (os : List Sg) (ps : List Pt) : Int := if firstS (s :: os) = 0 then firstE validE ps else firstS (s :: os)
/-- What Parts leaves. -/
def PartsPost (s : Sg) (os : List Sg) (ps : List Pt) (w : World) (e : Ending) (w' : World) : Prop :=
 ∃ (a : Option Addr) (n c : Nat), e = .returned (.tuple #[.slice a n c, .int .i64 (partsE s os ps)]) ∧ Ext w w' ∧ (partsE s os ps ≠ 0 → n = 0) ∧
  (partsE s os ps = 0 → n = (partsQ s os ps).length ∧ ∃ qs, GSl encPV w' a n c qs ∧ StdQ w' qs (partsQ s os ps))
set_option maxRecDepth 100000 in
set_option maxHeartbeats 16000000 in
theorem Parts_c (s : Sg) (a1 : Option Addr) (n1 c1 : Nat) (os : List Sg) (a2 : Option Addr) (n2 c2 : Nat) (ps : List Pt) (w : World) (h1 : SgS w a1 n1 c1 os) (h2 : PtS w a2 n2 c2 ps) (hn1 : n1 ≤ 300) (hn2 : n2 ≤ 100) :
  Calls Try.prog 20 #[s.v, .slice a1 n1 c1, .slice a2 n2 c2] w (PartsPost s os ps w) := by
 have H1 := Lib.hid h1
 have H2 := Lib.hid h2
 have hl1 := h1.len
 have HPP := Lib.hid (PartsPost.eq_1 s os ps w)
 clear h1 h2
 obtain ⟨B, hB⟩ : ∃ B, w.heap.size = B := ⟨_, rfl⟩
 obtain ⟨v, hv⟩ : ∃ v, firstS (s :: os) = v := ⟨_, rfl⟩
 have HV := Lib.hid hv
 clear hv
 go_enter Try.func20, Try.ntmps20
 go_upto_region 1 with fail
 refine wp_gen (fun W => Ext w W ∧ Blk W B s.cs 25) ⟨(by repeat (first | exact Ext.refl _ | assumption | refine Ext.setCell ?_ (by first | (simp; done) | (simp; omega) | omega) _ | refine Ext.alloc ?_ _ | refine Ext.drew ?_ | refine Ext.trans ?_ (by assumption))), Blk.at s.cs 25 hB.symm⟩ ?_
 rintro V ⟨EV, BV⟩
 obtain ⟨D, hD⟩ : ∃ D, V.heap.size = D := ⟨_, rfl⟩
 obtain ⟨V2, hV2⟩ : ∃ V2, V.alloc (.cells s.cs 25) = V2 := ⟨_, rfl⟩
 have E2 : Ext V V2 := by rw [← hV2]; exact (Ext.refl V).alloc _
 have D2 : Blk V2 D s.cs 25 := by rw [← hV2]; exact Blk.at s.cs 25 hD.symm
 obtain ⟨v', w3, hr, hg3, hx3⟩ := app_gen (S := 29) Try.underlying29 sgInfo rfl (by decide) (Nat.le_of_lt D2.lt) D2.sg1 (H1.out.ext (EV.trans E2)).src (by show 1 + n1 ≤ 1000000; omega) c1 29
 have E3 : Ext V w3 := hx3 V E2 (by rw [← hD]; exact Nat.le_refl _)
 obtain ⟨a', c', rfl, hs3⟩ := hg3.gsl
 obtain ⟨g', rfl, hg', hlg⟩ := hs3.at'.resolve_left (fun h => by have := h.2.1; simp at this)
 have HS3 := Lib.hid (And.intro (show ([s] ++ os).length = n1 + 1 by simp [hl1]) (And.intro hg' (And.intro (EV.trans E3) (BV.ext E3))))
 obtain ⟨m, hm⟩ : ∃ m, ([s] ++ os).length = m := ⟨_, rfl⟩
 have hm1 : m = n1 + 1 := by rw [← hm]; exact HS3.out.1
 have hc' := hs3.cap
 rw [hm] at hr hc'
 have HR := Lib.hid hr
 have HD := Lib.hid (And.intro hD hV2)
 have c4 := BV.sgB (s := s)
 obtain ⟨y0, y1, y2, y3⟩ := c4
 clear hr hg3 hs3 hx3 E3 E2 EV D2 hg' hlg hm hD BV hV2
 go_wp2_with (first | (refine wpList_plain rfl fun _ hK => wp_buildS s _ rfl rfl (hK _ _ ?_); rw [HD.out.1, HD.out.2]) | (at_builtin; refine wpList_plain rfl fun _ hK => wp_append_runZ _ _ _ _ (.slice (some ⟨D, 0, none⟩) 1 1) (.slice a1 n1 c1) _ rfl rfl rfl HR.out (hK _ _ ?_)))
 subst hm1
 refine (cvalid2_c g' (n1 + 1) c' (s :: os) w3 (by have := HS3.out.1; simp only [List.length_cons, List.length_append, List.length_nil] at this ⊢; omega) hc' (by omega) (GAt.sgs HS3.out.2.1)).mono ?_
 rw [HV.out]
 rintro e w4 ⟨rfl, hx4⟩
 have H4 := Lib.hid (And.intro (HS3.out.2.2.1.trans hx4) (HS3.out.2.2.2.ext hx4))
 clear hx4 y0 y1 y2 y3 HR
 by_cases hv0 : v = 0
 ·subst hv0
  have HE := Lib.hid (show partsE s os ps = firstE validE ps by unfold partsE; rw [if_pos HV.out])
  have hos : ∀ t ∈ s :: os, OKs t := fun t ht => segE_ok.1 (firstS_zero HV.out t ht)
  have HOS := Lib.hid hos
  clear hos
  go_wp2_with fail
  go_loopw [29] (fun v ws => ∃ i : Nat, i ≤ n2 ∧ v = .int .i64 (i : Int) ∧ Hid (∀ j, j < i → validE (ps.getD j ⟨0, 0⟩) = 0) ∧ Ext w4 ws) (fun v _ => n2 - (intOf v).toNat)
  case atStart => exact ⟨0, by omega, rfl, Lib.hid (fun j hj => absurd hj (by omega)), Ext.refl w4⟩
  case round =>
   obtain ⟨i, hi, rfl, HZ, hE⟩ := hrel
   have HW := Lib.hid hE
   by_cases hlt : i < n2
   ·obtain ⟨g2, rfl, hg2, _⟩ := (H2.out.ext (H4.out.1.trans hE)).at'.resolve_left (fun h => by omega)
    obtain ⟨p, hp⟩ : ∃ p, ps[i]? = some p := ⟨_, List.getElem?_eq_getElem (by rw [H2.out.len]; exact hlt)⟩
    have HP := Lib.hid (show ps.getD i ⟨0, 0⟩ = p by rw [List.getD_eq_getElem?_getD, hp]; rfl)
    obtain ⟨c0, c1⟩ := hg2.pts2 hp
    clear hg2 hp hE
    by_cases hv : validE p = 0
    ·have HPV := Lib.hid hv
     clear hv
     go_wp2_with fail
     refine (pValid_c p _).mono ?_
     rintro e w5 ⟨rfl, hx5⟩
     rw [HPV.out]
     have HX := Lib.hid ((HW.out.alloc _).trans hx5)
     clear hx5 c0 c1
     go_wp2_with fail
     go_roundw
     case rel =>
      refine ⟨i + 1, by omega, by go_num, Lib.hid (fun j hj => ?_), HX.out⟩
      by_cases hji : j < i
      ·exact HZ.out j hji
      ·obtain rfl : j = i := by omega
       rw [HP.out]; exact HPV.out
     case measure => simp [intOf]; omega
    ·have hfin : firstE validE ps = validE p := by rw [firstE_at i (by rw [H2.out.len]; exact hlt) HZ.out (by rw [HP.out]; exact hv), HP.out]
     have hv' : (validE p != 0) = true := by rw [bne_iff_ne]; exact hv
     have HF := Lib.hid (And.intro hfin hv)
     clear hfin hv
     go_wp2_with fail
     refine (pValid_c p _).mono ?_
     rintro e w5 ⟨rfl, hx5⟩
     have HX := Lib.hid ((HW.out.alloc _).trans hx5)
     clear hx5 c0 c1
     generalize validE p = q at *
     go_wp2_with fail
     go_ret2
     exact ⟨none, 0, 0, by rw [HE.out, HF.out.1]; rfl, H4.out.1.trans HX.out, fun _ => rfl, fun h => absurd (HF.out.1.symm.trans (HE.out.symm.trans h)) HF.out.2⟩
   ·obtain rfl : i = n2 := by omega
    have hfin : firstE validE ps = 0 := firstE_none (by rw [H2.out.len]; exact HZ.out)
    have HF := Lib.hid (And.intro (HE.out.trans hfin) (fun p (hp : p ∈ ps) => firstE_zero hfin p hp))
    have hB6 := (H4.out.2.ext hE)
    have HX6 := Lib.hid (H4.out.1.trans hE)
    obtain ⟨O, hO⟩ : ∃ O, wr.heap.size = O := ⟨_, rfl⟩
    have hBO : B < O := by rw [← hO]; exact hB6.lt
    clear hfin hE
    go_upto_region 13 with fail
    try rw [hO]
    refine wp_gen (fun W => NoteS wr W O [] ∧ Blk W B s.cs 25) ⟨⟨⟨.slice none 0 0, [], (Blk.at #[.slice none 0 0] 51 hO.symm).var, GRow.nil encPV 43 _ _, NIv.nil _, rfl, fun j q y h => by simp at h⟩, List.Pairwise.nil, (Ext.refl wr).alloc _, by omega⟩, hB6.alloc _⟩ ?_
    rintro W6 ⟨N6, B6⟩
    have HN6 := Lib.hid N6
    obtain ⟨y0, y1, y2, y3⟩ := B6.sgB (s := s)
    have hok := HOS.out s List.mem_cons_self
    have HOK := Lib.hid hok
    obtain ⟨⟨a1', a2', a3', a4'⟩, ⟨b1', b2', b3', b4'⟩, _⟩ := hok
    have HG := Lib.hid (And.intro (And.intro a1' (And.intro a2' (And.intro a3' a4'))) (And.intro b1' (And.intro b2' (And.intro b3' b4'))))
    have HB6 := Lib.hid hB6
    clear N6 B6 hB6 a1' a2' a3' a4' b1' b2' b3' b4'
    go_wp2_with fail
    refine (pOf_q s.a _ (by have := HG.out.1.1; omega) (by have := HG.out.1.2.1; omega) (by have := HG.out.1.2.2.1; omega) (by have := HG.out.1.2.2.2; omega)).mono ?_
    rintro e w7 ⟨p1, rfl, hp1, hx7⟩
    have HP1 := Lib.hid (And.intro hp1 (HN6.out.more hx7))
    clear hp1 hx7 y0 y1 y2 y3
    go_wp2_with fail
    refine (note_c O [] p1 s.a.q wr w7 HP1.out.2 HP1.out.1 (by simp)).mono ?_
    rintro e w8 ⟨rfl, hn8, -, -, -⟩
    have HN8 := Lib.hid hn8
    obtain ⟨y0, y1, y2, y3⟩ := (HB6.out.ext hn8.ext).sgB (s := s)
    clear hn8
    go_wp2_with fail
    refine (pOf_q s.b _ (by have := HG.out.2.1; omega) (by have := HG.out.2.2.1; omega) (by have := HG.out.2.2.2.1; omega) (by have := HG.out.2.2.2.2; omega)).mono ?_
    rintro e w9 ⟨p2, rfl, hp2, hx9⟩
    have HP2 := Lib.hid (And.intro hp2 (HN8.out.more hx9))
    clear hp2 hx9 y0 y1 y2 y3
    go_wp2_with fail
    refine (note_c O (insQ [] s.a.q) p2 s.b.q wr w9 HP2.out.2 HP2.out.1 (by have := insQ_len [] s.a.q; simp at this; omega)).mono ?_
    rintro e w10 ⟨rfl, hn10, -, -, -⟩
    have HN10 := Lib.hid (show NoteS wr w10 O (midQ s (os.take 0)) from hn10)
    clear hn10 HP1 HP2 HN8 HN6
    go_wp2_with fail
    go_loopw [52] (fun v ws => ∃ k : Nat, k ≤ n1 ∧ v = .int .i64 (k : Int) ∧ NoteS wr ws O (midQ s (os.take k))) (fun v _ => n1 - (intOf v).toNat)
    case atStart => exact ⟨0, by omega, rfl, HN10.out⟩
    case round =>
     rename World => wq
     obtain ⟨k, hk, rfl, hN⟩ := hrel
     have HN := Lib.hid hN
     by_cases hkl : k < n1
     ·obtain ⟨g1, rfl, hg1, _⟩ := (H1.out.ext (HX6.out.trans hN.ext)).at'.resolve_left (fun h => by omega)
      obtain ⟨t, ht⟩ : ∃ t, os[k]? = some t := ⟨_, List.getElem?_eq_getElem (by rw [H1.out.len]; exact hkl)⟩
      have HT := Lib.hid (And.intro ht (HOS.out t (List.mem_cons_of_mem _ (List.mem_of_getElem? ht))))
      obtain ⟨t0, t1, t2, t3⟩ := hg1.sg4 ht
      obtain ⟨y0, y1, y2, y3⟩ := (HB6.out.ext hN.ext).sgB (s := s)
      have HOQ := Lib.hid hN.lt
      have j0 : (0 : Int) ≤ (k : Int) := by omega
      have j1 : (k : Int) < (n1 : Int) := by omega
      clear hg1 ht hN
      obtain ⟨Bt, hBt⟩ : ∃ Bt, wq.heap.size = Bt := ⟨_, rfl⟩
      go_upto_region 18 with fail
      try rw [hBt]
      refine wp_gen (fun W => Ext wq W ∧ Blk W Bt t.cs 25) ⟨(by repeat (first | exact Ext.refl _ | assumption | refine Ext.setCell ?_ (by first | (simp; done) | (simp; omega) | omega) _ | refine Ext.alloc ?_ _ | refine Ext.drew ?_ | refine Ext.trans ?_ (by assumption))), Blk.at t.cs 25 hBt.symm⟩ ?_
      rintro W7 ⟨E7, B7⟩
      have HE7 := Lib.hid E7
      obtain ⟨t0, t1, t2, t3⟩ := B7.sgB (s := t)
      obtain ⟨y0, y1, y2, y3⟩ := ((HB6.out.ext HN.out.ext).ext E7).sgB (s := s)
      clear E7 B7
      go_wp2_with fail
      refine (meet_c s t _ HOK.out HT.out.2).mono ?_
      rintro e wm ⟨c, rfl, hc, hxm⟩
      obtain ⟨K, hK⟩ : ∃ K, wm.heap.size = K := ⟨_, rfl⟩
      have hEm : Ext wq wm := HE7.out.trans hxm
      have hKO : O < K := by have := HOQ.out; have := hEm.size; omega
      go_upto_region 19 with fail
      try rw [hK]
      refine wp_gen (fun W => Blk W K c.cs 47 ∧ IsC W c (meetF s t) ∧ NoteS wr W O (midQ s (os.take k))) ⟨Blk.at c.cs 47 hK.symm, hc.keep ((Ext.refl wm).alloc _).iu, HN.out.more (hEm.alloc _)⟩ ?_
      rintro W9 ⟨RB, RC, RN⟩
      have H9 := Lib.hid (And.intro RB (And.intro RC RN))
      have hkind := (meetF_meet HOK.out HT.out.2).kind
      have HTK := Lib.hid (show os.take (k + 1) = os.take k ++ [t] by rw [List.take_add_one, HT.out.1]; rfl)
      have HLN := Lib.hid (show (midQ s (os.take k)).length ≤ 602 by have := midQ_len s (os.take k); have := List.length_take_le k os; omega)
      obtain ⟨m, hm⟩ : ∃ m, meetF s t = m := ⟨_, rfl⟩
      rw [hm] at hkind H9
      have HM := Lib.hid hm
      have hck := H9.out.2.1.k
      obtain ⟨ck, cA, cT⟩ := c
      simp only at hck
      have k0 : W9.cell? ⟨K, 0, none⟩ = some (.int .i64 ck) := RB.cell 0
      clear hc hxm RB RC RN hm t0 t1 t2 t3 y0 y1 y2 y3 hK
      have hck3 : ck = 0 ∨ ck = 1 ∨ ck = 2 := by omega
      have HCK := Lib.hid hck
      clear hck hkind
      rcases hck3 with rfl | rfl | rfl
      ·go_wp2_with fail
       go_roundw
       case rel => exact ⟨k + 1, by omega, by go_num, by rw [HTK.out, midQ_snoc, HM.out]; unfold addM; rw [if_neg (by rw [← HCK.out]; omega), if_pos HCK.out.symm]; exact H9.out.2.2⟩
       case measure => simp [intOf]; omega
      ·have HBK := Lib.hid H9.out.1
       obtain ⟨q0, q1, q2, q3, q4, q5, q6, q7⟩ : W9.cell? ⟨K, 1, none⟩ = some (.bool cA.x.n.neg) ∧ W9.cell? ⟨K, 2, none⟩ = some (.slice cA.x.n.a cA.x.n.n cA.x.n.c) ∧ W9.cell? ⟨K, 3, none⟩ = some (.bool cA.x.d.neg) ∧ W9.cell? ⟨K, 4, none⟩ = some (.slice cA.x.d.a cA.x.d.n cA.x.d.c) ∧ W9.cell? ⟨K, 5, none⟩ = some (.bool cA.y.n.neg) ∧ W9.cell? ⟨K, 6, none⟩ = some (.slice cA.y.n.a cA.y.n.n cA.y.n.c) ∧ W9.cell? ⟨K, 7, none⟩ = some (.bool cA.y.d.neg) ∧ W9.cell? ⟨K, 8, none⟩ = some (.slice cA.y.d.a cA.y.d.n cA.y.d.c) := ⟨HBK.out.cell 1, HBK.out.cell 2, HBK.out.cell 3, HBK.out.cell 4, HBK.out.cell 5, HBK.out.cell 6, HBK.out.cell 7, HBK.out.cell 8⟩
       go_wp2_with fail
       refine (note_c O (midQ s (os.take k)) cA m.2.1 wr W9 H9.out.2.2 H9.out.2.1.A (by have := HLN.out; omega)).mono ?_
       rintro e w11 ⟨rfl, hn11, -, -, hk11⟩
       have HN11 := Lib.hid hn11
       have k1 : w11.cell? ⟨K, 0, none⟩ = some (.int .i64 1) := (hk11 K _ _ HBK.out (by decide) (by omega)).cell 0
       clear hn11 hk11 q0 q1 q2 q3 q4 q5 q6 q7 k0
       go_wp2_with fail
       go_roundw
       case rel => exact ⟨k + 1, by omega, by go_num, by rw [HTK.out, midQ_snoc, HM.out]; unfold addM; rw [if_neg (by rw [← HCK.out]; omega), if_neg (by rw [← HCK.out]; omega)]; exact HN11.out⟩
       case measure => simp [intOf]; omega
      ·have HBK := Lib.hid H9.out.1
       obtain ⟨q0, q1, q2, q3, q4, q5, q6, q7⟩ : W9.cell? ⟨K, 1, none⟩ = some (.bool cA.x.n.neg) ∧ W9.cell? ⟨K, 2, none⟩ = some (.slice cA.x.n.a cA.x.n.n cA.x.n.c) ∧ W9.cell? ⟨K, 3, none⟩ = some (.bool cA.x.d.neg) ∧ W9.cell? ⟨K, 4, none⟩ = some (.slice cA.x.d.a cA.x.d.n cA.x.d.c) ∧ W9.cell? ⟨K, 5, none⟩ = some (.bool cA.y.n.neg) ∧ W9.cell? ⟨K, 6, none⟩ = some (.slice cA.y.n.a cA.y.n.n cA.y.n.c) ∧ W9.cell? ⟨K, 7, none⟩ = some (.bool cA.y.d.neg) ∧ W9.cell? ⟨K, 8, none⟩ = some (.slice cA.y.d.a cA.y.d.n cA.y.d.c) := ⟨HBK.out.cell 1, HBK.out.cell 2, HBK.out.cell 3, HBK.out.cell 4, HBK.out.cell 5, HBK.out.cell 6, HBK.out.cell 7, HBK.out.cell 8⟩
       go_wp2_with fail
       refine (note_c O (midQ s (os.take k)) cA m.2.1 wr W9 H9.out.2.2 H9.out.2.1.A (by have := HLN.out; omega)).mono ?_
       rintro e w11 ⟨rfl, hn11, hik11, -, hk11⟩
       have HN11 := Lib.hid (And.intro hn11 (H9.out.2.1.T.keep hik11))
       have BK11 := hk11 K _ _ HBK.out (by decide) (by omega)
       have k1 : w11.cell? ⟨K, 0, none⟩ = some (.int .i64 2) := BK11.cell 0
       obtain ⟨r0, r1, r2, r3, r4, r5, r6, r7⟩ : w11.cell? ⟨K, 9, none⟩ = some (.bool cT.x.n.neg) ∧ w11.cell? ⟨K, 10, none⟩ = some (.slice cT.x.n.a cT.x.n.n cT.x.n.c) ∧ w11.cell? ⟨K, 11, none⟩ = some (.bool cT.x.d.neg) ∧ w11.cell? ⟨K, 12, none⟩ = some (.slice cT.x.d.a cT.x.d.n cT.x.d.c) ∧ w11.cell? ⟨K, 13, none⟩ = some (.bool cT.y.n.neg) ∧ w11.cell? ⟨K, 14, none⟩ = some (.slice cT.y.n.a cT.y.n.n cT.y.n.c) ∧ w11.cell? ⟨K, 15, none⟩ = some (.bool cT.y.d.neg) ∧ w11.cell? ⟨K, 16, none⟩ = some (.slice cT.y.d.a cT.y.d.n cT.y.d.c) := ⟨BK11.cell 9, BK11.cell 10, BK11.cell 11, BK11.cell 12, BK11.cell 13, BK11.cell 14, BK11.cell 15, BK11.cell 16⟩
       clear hn11 hk11 hik11 BK11 q0 q1 q2 q3 q4 q5 q6 q7 k0
       go_wp2_with fail
       refine (note_c O (insQ (midQ s (os.take k)) m.2.1) cT m.2.2 wr w11 HN11.out.1 HN11.out.2 (by have := HLN.out; have := insQ_len (midQ s (os.take k)) m.2.1; omega)).mono ?_
       rintro e w12 ⟨rfl, hn12, -, -, -⟩
       have HN12 := Lib.hid hn12
       clear hn12 r0 r1 r2 r3 r4 r5 r6 r7 k1
       go_wp2_with fail
       go_roundw
       case rel => exact ⟨k + 1, by omega, by go_num, by rw [HTK.out, midQ_snoc, HM.out]; unfold addM; rw [if_pos HCK.out.symm, if_neg (by rw [← HCK.out]; omega)]; exact HN12.out⟩
       case measure => simp [intOf]; omega
     ·obtain rfl : k = n1 := by omega
      have hos : os.take k = os := List.take_of_length_le (by rw [H1.out.len]; exact Nat.le_refl _)
      rw [hos] at hN
      have HN13 := Lib.hid (show NoteS wr wq O (partsQ s os (ps.take 0)) from hN)
      clear hN HN hos
      go_wp2_with fail
      go_loopw [76] (fun v ws => ∃ j : Nat, j ≤ i ∧ v = .int .i64 (j : Int) ∧ NoteS wr ws O (partsQ s os (ps.take j))) (fun v _ => i - (intOf v).toNat)
      case atStart => exact ⟨0, by omega, rfl, HN13.out⟩
      case round =>
       rename World => wz
       obtain ⟨j, hj, rfl, hN⟩ := hrel
       have HN := Lib.hid hN
       by_cases hjl : j < i
       ·obtain ⟨g2, rfl, hg2, _⟩ := (H2.out.ext (HX6.out.trans hN.ext)).at'.resolve_left (fun h => by omega)
        obtain ⟨p, hp⟩ : ∃ p, ps[j]? = some p := ⟨_, List.getElem?_eq_getElem (by rw [H2.out.len]; exact hjl)⟩
        have HPG := Lib.hid (good_of_validE (HF.out.2 p (List.mem_of_getElem? hp)))
        have HTK := Lib.hid (show partsQ s os (ps.take (j + 1)) = addP s (partsQ s os (ps.take j)) p by rw [List.take_add_one, hp]; exact partsQ_snoc s os _ p)
        have HLN := Lib.hid (show (partsQ s os (ps.take j)).length ≤ 800 by have := partsQ_len s os (ps.take j); have := List.length_take_le j ps; have := H1.out.len; omega)
        obtain ⟨c0, c1⟩ := hg2.pts2 hp
        have HOQ := Lib.hid hN.lt
        have j0 : (0 : Int) ≤ (j : Int) := by omega
        have j1 : (j : Int) < (i : Int) := by omega
        clear hg2 hp hN
        obtain ⟨Bp, hBp⟩ : ∃ Bp, wz.heap.size = Bp := ⟨_, rfl⟩
        go_upto_region 27 with fail
        try rw [hBp]
        refine wp_gen (fun W => Ext wz W ∧ Blk W Bp #[.int .i64 p.x, .int .i64 p.y] 23) ⟨(by repeat (first | exact Ext.refl _ | assumption | refine Ext.setCell ?_ (by first | (simp; done) | (simp; omega) | omega) _ | refine Ext.alloc ?_ _ | refine Ext.drew ?_ | refine Ext.trans ?_ (by assumption))), Blk.at _ 23 hBp.symm⟩ ?_
        rintro W7 ⟨E7, B7⟩
        have HE7 := Lib.hid E7
        have hbs := (HB6.out.ext HN.out.ext).ext E7
        have HC7 := Lib.hid (fun W (e : Ext W7 W) => (show W.cell? ⟨Bp, 0, none⟩ = some (.int .i64 p.x) ∧ W.cell? ⟨Bp, 1, none⟩ = some (.int .i64 p.y) ∧ (W.cell? ⟨B, 0, none⟩ = some (.int .i64 s.a.x) ∧ W.cell? ⟨B, 1, none⟩ = some (.int .i64 s.a.y) ∧ W.cell? ⟨B, 2, none⟩ = some (.int .i64 s.b.x) ∧ W.cell? ⟨B, 3, none⟩ = some (.int .i64 s.b.y)) from ⟨(B7.ext e).cell 0, (B7.ext e).cell 1, (hbs.ext e).cell 0, (hbs.ext e).cell 1, (hbs.ext e).cell 2, (hbs.ext e).cell 3⟩))
        have hgp := HPG.out
        obtain ⟨p1', p2', p3', p4'⟩ := hgp
        have HPB := Lib.hid (And.intro p1' (And.intro p2' (And.intro p3' p4')))
        have HBK := Lib.hid (bx_ok HOK.out)
        obtain ⟨z1, hz1⟩ : ∃ z, inB s.bx p.q = z := ⟨_, rfl⟩
        obtain ⟨z2, hz2⟩ : ∃ z, sideF s.a s.b p = z := ⟨_, rfl⟩
        have HON := Lib.hid (show onB s p.q = (z1 && (z2 == 0)) by rw [onB_grid, hz1, hz2])
        have HZ1 := Lib.hid hz1
        have HZ2 := Lib.hid hz2
        clear E7 B7 hbs c0 c1 hz1 hz2 p1' p2' p3' p4'
        refine wp_region_held_drew (S := fun W => Ext W7 W) (by kernel_rfl) ((Ext.refl W7).drew) (fun hHeld => ?_)
        refine tkL (i := 0) (H := HC7) (h := ?_)
        refine tkL (i := 2) (H := HC7) (h := ?_)
        refine ckL (i := 1) (h := fun K hK => ?_); go_simp; go_at_call 52; refine (box_c s _).mono ?_; rintro e w5 ⟨rfl, hx5⟩; go_wp2_with fail; refine shG hK (h := ?_); clear hK K; intro hHeld
        refine ckL (i := 3) (h := fun K hK => ?_); go_simp; go_at_call 15; refine (pOf_q p _ (by have := HPB.out.1; omega) (by have := HPB.out.2.1; omega) (by have := HPB.out.2.2.1; omega) (by have := HPB.out.2.2.2; omega)).mono ?_; rintro e w8 ⟨f, rfl, hf, hx8⟩; go_wp2_with fail; refine shG hK (h := ?_); clear hK K; intro hHeld
        refine ckL (i := 4) (h := fun K hK => ?_); go_simp; go_at_call 51; refine (pIn_c s.bx f p.q _ HBK.out hf).mono ?_; rw [HZ1.out]; rintro e w9 ⟨rfl, hx9⟩; go_wp2_with fail; refine shG hK (h := ?_); clear hK K; intro hHeld
        have HX9 := Lib.hid (show Ext W7 w9 by assumption)
        clear hx5 hx8 hx9 hf
        cases z1 with
        | false =>
         refine tkW (i := 5) (h := ?_)
         refine tkN (i := 6) (h := ?_)
         refine tkN (i := 7) (h := ?_)
         refine tkN (i := 8) (h := ?_)
         refine tkN (i := 9) (h := ?_)
         refine tkW (i := 10) (h := ?_)
         refine doneL (by kernel_rfl) ?_
         clear hHeld
         go_wp2_with fail
         go_roundw
         case rel => exact ⟨j + 1, by omega, by go_num, by rw [HTK.out]; unfold addP; rw [HON.out, if_neg (by simp)]; exact HN.out.more (HE7.out.trans HX9.out)⟩
         case measure => simp [intOf]; omega
        | true =>
         refine tkW (i := 5) (h := ?_)
         refine tkL (i := 6) (H := HC7) (h := ?_)
         refine tkL (i := 7) (H := HC7) (h := ?_)
         refine ckL (i := 8) (h := fun K hK => ?_); go_simp; go_at_call 53; refine (cside_c s p _ HOK.out.ga HOK.out.gb HPG.out).mono ?_; rw [HZ2.out]; rintro e w10 ⟨rfl, hx10⟩; go_wp2_with fail; refine shG hK (h := ?_); clear hK K; intro hHeld
         have HX10 := Lib.hid (show Ext W7 w10 by assumption)
         clear hx10
         by_cases hz0 : z2 = 0
         ·subst hz0
          refine tkW (i := 9) (h := ?_)
          refine tkW (i := 10) (h := ?_)
          refine doneL (by kernel_rfl) ?_
          clear hHeld
          obtain ⟨c0, c1, _⟩ := HC7.out w10 HX10.out
          go_wp2_with fail
          refine (pOf_q p _ (by have := HPB.out.1; omega) (by have := HPB.out.2.1; omega) (by have := HPB.out.2.2.1; omega) (by have := HPB.out.2.2.2; omega)).mono ?_
          rintro e w11 ⟨f, rfl, hf, hx11⟩
          have HF11 := Lib.hid (And.intro hf (HN.out.more ((HE7.out.trans HX10.out).trans hx11)))
          clear hf hx11 c0 c1
          go_wp2_with fail
          refine (note_c O (partsQ s os (ps.take j)) f p.q wr w11 HF11.out.2 HF11.out.1 (by have := HLN.out; omega)).mono ?_
          rintro e w12 ⟨rfl, hn12, -, -, -⟩
          have HN12 := Lib.hid hn12
          clear hn12
          go_wp2_with fail
          go_roundw
          case rel => exact ⟨j + 1, by omega, by go_num, by rw [HTK.out]; unfold addP; rw [HON.out, if_pos (by simp)]; exact HN12.out⟩
          case measure => simp [intOf]; omega
         ·have hz0' : (z2 == 0) = false := by rw [beq_eq_false_iff_ne]; exact hz0
          clear hz0
          refine tkW (i := 9) (h := ?_)
          refine tkW (i := 10) (h := ?_)
          refine doneL (by kernel_rfl) ?_
          clear hHeld
          go_wp2_with fail
          go_roundw
          case rel => exact ⟨j + 1, by omega, by go_num, by rw [HTK.out]; unfold addP; rw [HON.out, hz0', if_neg (by simp)]; exact HN.out.more (HE7.out.trans HX10.out)⟩
          case measure => simp [intOf]; omega
       ·obtain rfl : j = i := by omega
        have hps : ps.take j = ps := List.take_of_length_le (by rw [H2.out.len]; exact Nat.le_refl _)
        rw [hps] at hN
        obtain ⟨⟨vv, qs, hv1, hv2, hv3, hv4, hv5⟩, hsr, hex, hle⟩ := hN
        obtain ⟨aa, cc, rfl, hgs⟩ := hv2.gsl
        have v0 := hv1.1
        have HG := Lib.hid (And.intro hgs (And.intro hv4 (And.intro hv5 (HX6.out.trans hex))))
        clear hv1 hv2 hv3 hsr hex hle hgs hv4 hv5
        obtain ⟨nn, hnn⟩ : ∃ nn, qs.length = nn := ⟨_, rfl⟩
        rw [hnn] at v0 HG
        clear hnn
        go_wp2_with fail
        go_ret2
        exact ⟨aa, nn, cc, by rw [HF.out.1]; rfl, HG.out.2.2.2, fun h => absurd HF.out.1 h, fun _ => ⟨HG.out.2.1, qs, HG.out.1, HG.out.2.2.1⟩⟩
 ·have HE := Lib.hid (show partsE s os ps = v by unfold partsE; rw [if_neg (by rw [HV.out]; exact hv0), HV.out])
  have hv1 : (v != 0) = true := by rw [bne_iff_ne]; exact hv0
  have HV0 := Lib.hid hv0
  clear hv0
  go_wp2_with fail
  go_ret2
  exact ⟨none, 0, 0, by rw [HE.out]; rfl, H4.out.1, fun _ => rfl, fun h => absurd (HE.out.symm.trans h) HV0.out⟩
end Go.Proofs.Ytagiaiocgjagnaa
namespace Go.Proofs.Ytagiaiocgjagnaa
set_option linter.unusedSimpArgs false
set_option linter.unusedVariables false
open Go.RowKit

theorem partsE_ok {s : Sg} {os : List Sg} {ps : List Pt} (hs : OKs s) (ho : ∀ t ∈ os, OKs t) (hp : ∀ p ∈ ps, Good p) : partsE s os ps = 0 := by
 unfold partsE
 have h1 : firstS (s :: os) = 0 := by
  refine firstS_none fun i hi => ?_
  have hm : (s :: os).getD i zSg ∈ s :: os := by
   rw [List.getD_eq_getElem?_getD, List.getElem?_eq_getElem hi]
   exact List.getElem_mem hi
  rcases List.mem_cons.1 hm with h | h
  ·rw [h]; exact segE_ok.2 hs
  ·exact segE_ok.2 (ho _ h)
 rw [if_pos h1]
 refine firstE_none fun i hi => ?_
 have hm : ps.getD i ⟨0, 0⟩ ∈ ps := by
  rw [List.getD_eq_getElem?_getD, List.getElem?_eq_getElem hi]
  exact List.getElem_mem hi
 exact if_pos (hp _ hm)
/-- What Parts leaves where there is no error. -/
def PartsOk (s : Sg) (os : List Sg) (ps : List Pt) (w : World) (e : Ending) (w' : World) : Prop :=
 ∃ (g c : Nat) (qs : List PV), e = .returned (.tuple #[.slice (some ⟨g, 0, none⟩) (partsQ s os ps).length c, .int .i64 0]) ∧ GAt encPV w' g qs ∧ qs.length = (partsQ s os ps).length ∧ StdQ w' qs (partsQ s os ps) ∧ Ext w w'
theorem Parts_ok (s : Sg) (a1 : Option Addr) (n1 c1 : Nat) (os : List Sg) (a2 : Option Addr) (n2 c2 : Nat) (ps : List Pt) (w : World) (h1 : SgS w a1 n1 c1 os) (h2 : PtS w a2 n2 c2 ps) (hn1 : n1 ≤ 300) (hn2 : n2 ≤ 100) (hok : partsE s os ps = 0) :
  Calls Try.prog 20 #[s.v, .slice a1 n1 c1, .slice a2 n2 c2] w (PartsOk s os ps w) := by
 refine (Parts_c s a1 n1 c1 os a2 n2 c2 ps w h1 h2 hn1 hn2).mono ?_
 rintro e w' ⟨a, n, c, rfl, hx, _, hp⟩
 obtain ⟨rfl, qs, hg, hs⟩ := hp hok
 have h0 : (partsQ s os ps).length ≠ 0 := fun h => by
  have := List.eq_nil_of_length_eq_zero h
  have hm : s.a.q ∈ partsQ s os ps := partsQ_mem.2 (.inl (.inl (.inl rfl)))
  rw [this] at hm; cases hm
 obtain ⟨g, rfl, hgg, _⟩ := hg.at'.resolve_left (fun h => h0 h.2.1)
 exact ⟨g, c, qs, by rw [hok], hgg, hg.len, hs, hx⟩
end Go.Proofs.Ytagiaiocgjagnaa
