/- meresmanref07.Meet: the walk. -/
import Derived.Test.YtagiaiocgjagnaaQWT
import Derived.Test.YtagiaiocgjagnaaQX24
namespace Go.Proofs.Ytagiaiocgjagnaa
set_option linter.unusedSimpArgs false
set_option linter.unusedVariables false
open Go.RowKit

abbrev frC (s t : Sg) : Array Value := #[.int .i64 s.a.x, .int .i64 s.a.y, .int .i64 s.b.x, .int .i64 s.b.y, .int .i64 t.a.x, .int .i64 t.a.y, .int .i64 t.b.x, .int .i64 t.b.y]
theorem fr_at {w : World} {b : Nat} {s t : Sg} {ty : TypeId} (h : Blk w b (frC s t) ty) {i : Nat} (hi : i < 4) : ∃ p : Pt, (four s t)[i]? = some (ofR p) ∧ w.cell? ⟨b, i * 2, none⟩ = some (.int .i64 p.x) ∧ w.cell? ⟨b, i * 2 + 1, none⟩ = some (.int .i64 p.y) := by
 rcases i with _ | _ | _ | _ | i
 ·exact ⟨s.a, rfl, h.cell 0, h.cell 1⟩
 ·exact ⟨s.b, rfl, h.cell 2, h.cell 3⟩
 ·exact ⟨t.a, rfl, h.cell 4, h.cell 5⟩
 ·exact ⟨t.b, rfl, h.cell 6, h.cell 7⟩
 ·omega
theorem row_rc {w0 w : World} {b : Nat} {t : TypeId} {d : RC} (hE : Ext w0 w) (h : Blk w b d.cs t) (hb : w0.heap.size ≤ b) (c : RC) : Blk (w.setRow b c.cs) b c.cs t ∧ Ext w0 (w.setRow b c.cs) := ⟨Blk.setRow h, Ext.setRow hE hb⟩
theorem RPs.r3 {w : World} {a : Option Addr} {n c : Nat} {l : List RP} (h : RPs w a n c l) (hn : 0 < n) : ∃ g, a = some ⟨g, 0, none⟩ ∧ ∀ i p, l[i]? = some p → w.cell? ⟨g, i * 3, none⟩ = some (.int .i64 p.x) ∧ w.cell? ⟨g, i * 3 + 1, none⟩ = some (.int .i64 p.y) ∧ w.cell? ⟨g, i * 3 + 2, none⟩ = some (.int .i64 p.d) := by
 obtain ⟨h1, h2, h3, ⟨_, h4, _⟩ | ⟨g, rfl, h4, h5, h6⟩⟩ := h
 ·omega
 ·exact ⟨g, rfl, fun i p hp => GAt.r3 h5 hp⟩
/-- Two points of a block. -/
def CC2 (W : World) (g k : Nat) (p q : RP) : Prop := (W.cell? ⟨g, 0, none⟩ = some (.int .i64 p.x) ∧ W.cell? ⟨g, 0 + 1, none⟩ = some (.int .i64 p.y) ∧ W.cell? ⟨g, 0 + 2, none⟩ = some (.int .i64 p.d)) ∧ (W.cell? ⟨g, k * 3, none⟩ = some (.int .i64 q.x) ∧ W.cell? ⟨g, k * 3 + 1, none⟩ = some (.int .i64 q.y) ∧ W.cell? ⟨g, k * 3 + 2, none⟩ = some (.int .i64 q.d))
theorem CC2.setRow {W : World} {g k b : Nat} {p q : RP} (h : CC2 W g k p q) (hb : g ≠ b) (cs : Array Value) : CC2 (W.setRow b cs) g k p q := by
 unfold CC2
 simp only [cell_setRow_other W b cs ⟨g, _, none⟩ hb]
 exact h
theorem rcOf_1 {l : List RP} {p : RP} (h : l.length = 1) (hp : l[0]? = some p) : rcOf l = ⟨1, p, zRP⟩ := by
 unfold rcOf; rw [if_neg (by omega), if_pos h, hp]; rfl
theorem rcOf_2 {l : List RP} {p q : RP} {k : Nat} (h : l.length = k + 1) (hk : 0 < k) (hp : l[0]? = some p) (hq : l[k]? = some q) : rcOf l = ⟨2, p, q⟩ := by
 unfold rcOf; rw [if_neg (by omega), if_neg (by omega), hp, h, Nat.add_sub_cancel, hq]; rfl
set_option maxRecDepth 100000 in
set_option maxHeartbeats 40000000 in
theorem rMeet_c (s t : Sg) (w : World) (hs : SegIn s (-33) 67) (ht : SegIn t (-33) 67) :
  Calls Try.prog 30 #[s.v, t.v] w fun e w' => e = .returned (rcOf (allF s t)).v ∧ Ext w w' := by
 obtain ⟨B, hB⟩ : ∃ B, w.heap.size = B := ⟨_, rfl⟩
 have HS := Lib.hid (And.intro hs ht)
 clear hs ht
 go_enter Try.func30, Try.ntmps30
 go_upto_region 3 with fail
 refine wp_gen (fun W => Ext w W ∧ (Blk W B s.cs 25 ∧ Blk W (B + 1) t.cs 25) ∧ Blk W (B + 1 + 1) (RC.cs ⟨0, zRP, zRP⟩) 74 ∧ Blk W (B + 1 + 1 + 1) (frC s t) 23) ⟨(by repeat (first | exact Ext.refl _ | assumption | refine Ext.setCell ?_ (by first | (simp; done) | (simp; omega) | omega) _ | refine Ext.alloc ?_ _ | refine Ext.drew ?_ | refine Ext.trans ?_ (by assumption))), ⟨(((Blk.at s.cs 25 hB.symm).alloc _).alloc _).alloc _, ((Blk.at (b := B + 1) t.cs 25 (w := w.alloc (.cells s.cs 25)) (by simp [hB])).alloc _).alloc _⟩, (Blk.at (b := B + 1 + 1) (RC.cs ⟨0, zRP, zRP⟩) 74 (w := (w.alloc (.cells s.cs 25)).alloc (.cells t.cs 25)) (by simp [hB])).alloc _, Blk.at _ 23 (by simp [hB])⟩ ?_
 rintro V ⟨E0, B0, B1, B2⟩
 have HE := Lib.hid E0
 have HB := Lib.hid (And.intro B0 (And.intro B1 B2))
 clear E0 B0 B1 B2
 go_upto_region 4 with fail
 go_loopw [5, 7] (fun lv iv ws => ∃ (i : Nat) (a : Option Addr) (c : Nat), i ≤ 4 ∧ iv = .int .i64 (i : Int) ∧ lv = .slice a (preF s t i).length c ∧ RPs ws a (preF s t i).length c (preF s t i) ∧ Ext V ws) (fun _ v _ => 4 - (intOf v).toNat)
 case atStart => exact ⟨0, none, 0, by omega, rfl, rfl, RPs.nil V, Ext.refl V⟩
 case round =>
  obtain ⟨i, a, c, hi, rfl, rfl, hR, hE⟩ := hrel
  have HR := Lib.hid hR
  have HW := Lib.hid hE
  clear hR
  by_cases hlt : i < 4
  ·obtain ⟨p, hp, c1, c2⟩ := fr_at (HB.out.2.2.ext hE) hlt
   have HP := Lib.hid hp
   have HC6 := Lib.hid (fun W (e : Ext wr W) => (show (((W.cell? ⟨B, 0, none⟩ = some (.int .i64 s.a.x) ∧ W.cell? ⟨B, 1, none⟩ = some (.int .i64 s.a.y) ∧ W.cell? ⟨B, 2, none⟩ = some (.int .i64 s.b.x) ∧ W.cell? ⟨B, 3, none⟩ = some (.int .i64 s.b.y)) ∧ (W.cell? ⟨B + 1, 0, none⟩ = some (.int .i64 t.a.x) ∧ W.cell? ⟨B + 1, 1, none⟩ = some (.int .i64 t.a.y) ∧ W.cell? ⟨B + 1, 2, none⟩ = some (.int .i64 t.b.x) ∧ W.cell? ⟨B + 1, 3, none⟩ = some (.int .i64 t.b.y))) ∧ (W.cell? ⟨B + 1 + 1 + 1, i * 2, none⟩ = some (.int .i64 p.x) ∧ W.cell? ⟨B + 1 + 1 + 1, i * 2 + 1, none⟩ = some (.int .i64 p.y))) from
    ⟨⟨((HB.out.1.1.ext hE).ext e).c4, ((HB.out.1.2.ext hE).ext e).c4⟩, e.cell c1, e.cell c2⟩))
   have l0 : (0 : Int) ≤ (i : Int) := by omega
   have l1 : (i : Int) < 4 := by omega
   have l2 : ¬ (i : Int) < 0 := by omega
   clear hp c1 c2 hE
   go_upto_region 6 with fail
   refine wp_region_held_drew (S := fun W => Ext wr W) (by kernel_rfl) ((Ext.refl wr).drew) (fun hHeld => ?_)
   refine tkW (i := 0) (h := ?_)
   refine takeL (i := 1) (v := ?_) rfl (by kernel_rfl) (by kernel_rfl) (by kernel_rfl) (fun _ _ _ h => h) (Or.inl ⟨by rfl, ?_⟩) (by assumption) ?_; rotate_left; (focus (intro wq hSw; have hcc := HC6.out wq hSw; clear hSw; go_split_ands; go_simp; try with_reducible rfl)); (try simp only [Act.put, List.setIfInBounds_toArray, List.set_cons_zero, List.set_cons_succ])
   refine takeL (i := 2) (v := ?_) rfl (by kernel_rfl) (by kernel_rfl) (by kernel_rfl) (fun _ _ _ h => h) (Or.inl ⟨by rfl, ?_⟩) (by assumption) ?_; rotate_left; (focus (intro wq hSw; have hcc := HC6.out wq hSw; clear hSw; go_split_ands; go_simp; try with_reducible rfl)); (try simp only [Act.put, List.setIfInBounds_toArray, List.set_cons_zero, List.set_cons_succ])
   refine tkW (i := 3) (h := ?_)
   refine tkW (i := 4) (h := ?_)
   refine tkW (i := 5) (h := ?_)
   refine takeL (i := 6) (v := ?_) rfl (by kernel_rfl) (by kernel_rfl) (by kernel_rfl) (fun _ _ _ h => h) (Or.inl ⟨by rfl, ?_⟩) (by assumption) ?_; rotate_left; (focus (intro wq hSw; have hcc := HC6.out wq hSw; clear hSw; go_split_ands; go_simp; try with_reducible rfl)); (try simp only [Act.put, List.setIfInBounds_toArray, List.set_cons_zero, List.set_cons_succ])
   refine consL (i := 7) (by kernel_rfl) rfl (fun K hK => ?_); go_simp; go_at_call 32; refine (of5_c p.x p.y _).mono ?_; rintro e w5 ⟨rfl, hx5⟩; go_wp2_with fail; refine hK.out _ _ ?_ ?_; rotate_left; clear hK K; intro hHeld; rotate_right; (focus (refine Ext.trans ?_ (by assumption); assumption)); (try simp only [Act.put, List.setIfInBounds_toArray, List.set_cons_zero, List.set_cons_succ])
   have HX5 := Lib.hid (show Ext wr w5 by assumption)
   clear hx5
   refine consL (i := 8) (by kernel_rfl) rfl (fun K hK => ?_); go_simp; go_at_call 62; refine (rCommon_c a _ c (preF s t i) s t (ofR p) _ (HR.out.ext HX5.out) (preF_in HS.out.1 HS.out.2 i) (four_in HS.out.1 HS.out.2 _ (List.mem_of_getElem? HP.out)) (by have := preF_len s t i; omega) (HS.out.1.mono (by omega) (by omega)) (HS.out.2.mono (by omega) (by omega))).mono ?_; rintro e w6 ⟨a', c', rfl, hr6, hx6⟩; have HR6 := Lib.hid hr6; clear hr6; go_wp2_with fail; refine hK.out _ _ ?_ ?_; rotate_left; clear hK K; intro hHeld; rotate_right; (focus (refine Ext.trans ?_ (by assumption); assumption)); (try simp only [Act.put, List.setIfInBounds_toArray, List.set_cons_zero, List.set_cons_succ])
   have HX6 := Lib.hid (show Ext wr w6 by assumption)
   clear hx6
   refine tkW (i := 9) (h := ?_)
   refine doneL (by kernel_rfl) ?_
   clear hHeld
   go_wp2_with fail
   go_roundw
   case rel => exact ⟨i + 1, a', c', by omega, by go_num, by rw [preF_succ HP.out], by rw [preF_succ HP.out]; exact HR6.out, HW.out.trans HX6.out⟩
   case measure => simp [intOf]; omega
  ·obtain rfl : i = 4 := by omega
   obtain ⟨x0, x1, x2, x3⟩ := (HB.out.1.1.ext HW.out).c4
   obtain ⟨y0, y1, y2, y3⟩ := (HB.out.1.2.ext HW.out).c4
   obtain ⟨E, hE'⟩ : ∃ E, wr.heap.size = E := ⟨_, rfl⟩
   obtain ⟨d1, d2⟩ := cr_bd HS.out.1 HS.out.2
   have hbd := crX_bd HS.out.1 HS.out.2
   obtain ⟨a1, a2, a3, a4, _⟩ := HS.out.1
   obtain ⟨b1, b2, b3, b4, _⟩ := HS.out.2
   obtain ⟨U, hU⟩ : ∃ U, s.b.x - s.a.x = U := ⟨_, rfl⟩
   obtain ⟨T, hT⟩ : ∃ T, s.b.y - s.a.y = T := ⟨_, rfl⟩
   obtain ⟨X, hX⟩ : ∃ X, t.b.x - t.a.x = X := ⟨_, rfl⟩
   obtain ⟨Y, hY⟩ : ∃ Y, t.b.y - t.a.y = Y := ⟨_, rfl⟩
   have w1 : IntKind.i64.wrap (s.b.x - s.a.x) = U := by rw [hU]; exact IntWalk.i64_in _ (by omega)
   have w2 : IntKind.i64.wrap (s.b.y - s.a.y) = T := by rw [hT]; exact IntWalk.i64_in _ (by omega)
   have w3 : IntKind.i64.wrap (t.b.x - t.a.x) = X := by rw [hX]; exact IntWalk.i64_in _ (by omega)
   have w4 : IntKind.i64.wrap (t.b.y - t.a.y) = Y := by rw [hY]; exact IntWalk.i64_in _ (by omega)
   go_upto_region 8 with fail
   refine wp_gen (fun W => Ext wr W ∧ Blk W E #[.int .i64 U, .int .i64 T] 23) ⟨(by repeat (first | exact Ext.refl _ | assumption | refine Ext.setCell ?_ (by first | (simp; done) | (simp; omega) | omega) _ | refine Ext.alloc ?_ _ | refine Ext.drew ?_ | refine Ext.trans ?_ (by assumption))), Blk.at _ 23 hE'.symm⟩ ?_
   rintro W1 ⟨E1, B1⟩
   have HE1 := Lib.hid E1
   have HB1 := Lib.hid B1
   clear x0 x1 x2 x3 y0 y1 y2 y3 hE' E1 B1
   obtain ⟨y0, y1, y2, y3⟩ := ((HB.out.1.2.ext HW.out).ext HE1.out).c4
   obtain ⟨F, hF⟩ : ∃ F, W1.heap.size = F := ⟨_, rfl⟩
   go_upto_region 9 with fail
   refine wp_gen (fun W => Ext W1 W ∧ Blk W F #[.int .i64 X, .int .i64 Y] 23) ⟨(by repeat (first | exact Ext.refl _ | assumption | refine Ext.setCell ?_ (by first | (simp; done) | (simp; omega) | omega) _ | refine Ext.alloc ?_ _ | refine Ext.drew ?_ | refine Ext.trans ?_ (by assumption))), Blk.at _ 23 hF.symm⟩ ?_
   rintro W2 ⟨E2, B2⟩
   have HE2 := Lib.hid (HE1.out.trans E2)
   have HB2 := Lib.hid (And.intro (HB1.out.ext E2) B2)
   clear y0 y1 y2 y3 hF E2 B2
   obtain ⟨x0, x1, x2, x3⟩ := ((HB.out.1.1.ext HW.out).ext HE2.out).c4
   obtain ⟨y0, y1, y2, y3⟩ := ((HB.out.1.2.ext HW.out).ext HE2.out).c4
   obtain ⟨u0, u1⟩ : W2.cell? ⟨E, 0, none⟩ = some (.int .i64 U) ∧ W2.cell? ⟨E, 1, none⟩ = some (.int .i64 T) := ⟨HB2.out.1.cell 0, HB2.out.1.cell 1⟩
   obtain ⟨v0, v1⟩ : W2.cell? ⟨F, 0, none⟩ = some (.int .i64 X) ∧ W2.cell? ⟨F, 1, none⟩ = some (.int .i64 Y) := ⟨HB2.out.2.cell 0, HB2.out.2.cell 1⟩
   obtain ⟨D, hD⟩ : ∃ D, crD s t = D := ⟨_, rfl⟩
   obtain ⟨N, hN⟩ : ∃ N, crN s t = N := ⟨_, rfl⟩
   have hD' : U * Y - T * X = D := by rw [← hD, ← hU, ← hT, ← hX, ← hY]; rfl
   have hN' : (t.a.x - s.a.x) * Y - (t.a.y - s.a.y) * X = N := by rw [← hN, ← hX, ← hY]; rfl
   rw [hD] at d1
   rw [hN] at d2
   have bd : ∀ (c z : Int), -100 ≤ c → c ≤ 100 → -100 ≤ z → z ≤ 100 → -10000 ≤ c * z ∧ c * z ≤ 10000 := fun c z h1 h2 h3 h4 => by
    have := abs_mul_le (x := c) (y := z) (m := 100) (n := 100) (by omega) (by omega)
    omega
   have g1 := bd U Y (by omega) (by omega) (by omega) (by omega)
   have g2 := bd T X (by omega) (by omega) (by omega) (by omega)
   have g3 := bd (t.a.x - s.a.x) Y (by omega) (by omega) (by omega) (by omega)
   have g4 := bd (t.a.y - s.a.y) X (by omega) (by omega) (by omega) (by omega)
   have w5 : IntKind.i64.wrap (U * Y) = U * Y := IntWalk.i64_in _ (by omega)
   have w6 : IntKind.i64.wrap (T * X) = T * X := IntWalk.i64_in _ (by omega)
   have w7 : IntKind.i64.wrap (U * Y - T * X) = D := by rw [hD']; exact IntWalk.i64_in _ (by omega)
   have w8 : IntKind.i64.wrap (t.a.x - s.a.x) = t.a.x - s.a.x := IntWalk.i64_in _ (by omega)
   have w9 : IntKind.i64.wrap (t.a.y - s.a.y) = t.a.y - s.a.y := IntWalk.i64_in _ (by omega)
   have w10 : IntKind.i64.wrap ((t.a.x - s.a.x) * Y) = (t.a.x - s.a.x) * Y := IntWalk.i64_in _ (by omega)
   have w11 : IntKind.i64.wrap ((t.a.y - s.a.y) * X) = (t.a.y - s.a.y) * X := IntWalk.i64_in _ (by omega)
   have w12 : IntKind.i64.wrap ((t.a.x - s.a.x) * Y - (t.a.y - s.a.y) * X) = N := by rw [hN']; exact IntWalk.i64_in _ (by omega)
   have HD := Lib.hid (And.intro hD hN)
   have HU := Lib.hid (And.intro hU hT)
   rw [hD, hN, hU, hT] at hbd
   have w13 : IntKind.i64.wrap (s.a.x * D) = s.a.x * D := IntWalk.i64_in _ (by omega)
   have w14 : IntKind.i64.wrap (s.a.y * D) = s.a.y * D := IntWalk.i64_in _ (by omega)
   have w15 : IntKind.i64.wrap (U * N) = U * N := IntWalk.i64_in _ (by omega)
   have w16 : IntKind.i64.wrap (T * N) = T * N := IntWalk.i64_in _ (by omega)
   have w17 : IntKind.i64.wrap (s.a.x * D + U * N) = s.a.x * D + U * N := IntWalk.i64_in _ (by omega)
   have w18 : IntKind.i64.wrap (s.a.y * D + T * N) = s.a.y * D + T * N := IntWalk.i64_in _ (by omega)
   have HBD := Lib.hid (And.intro hbd d1)
   clear hbd d1 d2 g1 g2 g3 g4 bd hD hN hU hT hX hY hD' hN' a1 a2 a3 a4 b1 b2 b3 b4
   clear w1 w2 w3 w4
   by_cases h0 : D = 0
   ·subst h0
    have HV := Lib.hid (show allF s t = preF s t 4 by rw [preF_all, if_pos HD.out.1])
    go_upto_region 13 with fail
    have HX3 := Lib.hid (HW.out.trans HE2.out)
    have HR3 := Lib.hid (HR.out.ext HE2.out)
    clear x0 x1 x2 x3 y0 y1 y2 y3 u0 u1 v0 v1 w5 w6 w7 w8 w9 w10 w11 w12 w13 w14 w15 w16 w17 w18
    have HZ := Lib.hid (HB.out.2.1.ext HX3.out)
    have HWX := Lib.hid (HE.out.trans HX3.out)
    have hb := HE.out.size
    obtain ⟨L, hL⟩ : ∃ L, preF s t 4 = L := ⟨_, rfl⟩
    rw [hL] at HV HR3 ⊢
    clear hL
    obtain ⟨m, hm⟩ : ∃ m, L.length = m := ⟨_, rfl⟩
    have HM := Lib.hid hm
    rw [hm] at HR3 ⊢
    clear hm
    have hs0 : w.heap.size ≤ B + 1 + 1 := by omega
    by_cases m0 : m = 0
    ·have q0 : ((m : Int) == 0) = true := by simp [m0]
     have HC := Lib.hid (show rcOf (allF s t) = ⟨0, zRP, zRP⟩ by rw [HV.out]; unfold rcOf; rw [if_pos (by rw [HM.out]; exact m0)])
     obtain ⟨RB, RX⟩ := row_rc HWX.out HZ.out hs0 ⟨0, zRP, zRP⟩
     have HRB := Lib.hid (And.intro RB RX)
     clear RB RX m0
     go_wp2_with (refine wpList_store_row rfl 74 _ _ rfl (B + 1 + 1) _ rfl rfl 74 _ HZ.out (by kernel_rfl) rfl (all_one _ rfl) ?_)
     refine bodyPost_ret (v := RC.v ⟨0, zRP, zRP⟩) (results_cell_row Try.results30 _ _ (B + 1 + 1) 74 _ (0, 0) _ rfl HRB.out.1 Try.underlying74 rfl (by kernel_rfl)) rfl ?_
     exact ⟨by rw [HC.out], HRB.out.2⟩
    ·have q0 : ((m : Int) == 0) = false := by simp [m0]
     obtain ⟨g, rfl, hg⟩ := HR3.out.r3 (by omega)
     obtain ⟨p0, hp0⟩ : ∃ p, L[0]? = some p := ⟨_, List.getElem?_eq_getElem (by rw [HM.out]; omega)⟩
     have z0 := hg 0 p0 hp0
     rw [Nat.zero_mul] at z0
     obtain ⟨z0, z1, z2⟩ := z0
     have HP0 := Lib.hid hp0
     by_cases m1 : m = 1
     ·have q1 : ((m : Int) == 1) = true := by simp [m1]
      have HC := Lib.hid (show rcOf (allF s t) = ⟨1, p0, zRP⟩ by rw [HV.out]; exact rcOf_1 (by rw [HM.out]; exact m1) HP0.out)
      obtain ⟨RB, RX⟩ := row_rc HWX.out HZ.out hs0 ⟨1, p0, zRP⟩
      have HRB := Lib.hid (And.intro RB RX)
      have l1 : (0 : Int) < (m : Int) := by omega
      clear RB RX m0 m1 hp0 hg
      go_wp2_with (refine wpList_store_row rfl 74 _ _ rfl (B + 1 + 1) _ rfl rfl 74 _ HZ.out (by kernel_rfl) rfl (all_one _ rfl) ?_)
      refine bodyPost_ret (v := RC.v ⟨1, p0, zRP⟩) (results_cell_row Try.results30 _ _ (B + 1 + 1) 74 _ (0, 0) _ rfl HRB.out.1 Try.underlying74 rfl (by kernel_rfl)) rfl ?_
      exact ⟨by rw [HC.out], HRB.out.2⟩
     ·have q1 : ((m : Int) == 1) = false := by simp; omega
      obtain ⟨k, hk⟩ : ∃ k, m = k + 1 := ⟨m - 1, by omega⟩
      obtain ⟨p1, hp1⟩ : ∃ p, L[k]? = some p := ⟨_, List.getElem?_eq_getElem (by rw [HM.out]; omega)⟩
      obtain ⟨y0, y1, y2⟩ := hg k p1 hp1
      have HC := Lib.hid (show rcOf (allF s t) = ⟨2, p0, p1⟩ by rw [HV.out]; exact rcOf_2 (by rw [HM.out]; exact hk) (by omega) HP0.out hp1)
      have hmax : m ≤ 9223372036854775807 := by
       have h1 := HR3.out.cap
       have h2 := HR3.out.most
       rw [maxLen] at h2
       omega
      have wk : IntKind.i64.wrap ((m : Int) - 1) = (k : Int) := by rw [show (m : Int) - 1 = (k : Int) by omega]; exact IntWalk.i64_in _ (by omega)
      have l1 : (0 : Int) < (m : Int) := by omega
      have l2 : (k : Int) < (m : Int) := by omega
      have n1 : 0 < m := by omega
      have n2 : k < m := by omega
      have l3 : (0 : Int) ≤ (k : Int) := by omega
      have l4 : ¬ (k : Int) < 0 := by omega
      have hpd : 1 ≤ p0.d := by
       have := foldF_in (s := s) (t := t) _ [] (fun q hq => by cases hq) (cand_in HS.out.1 HS.out.2) p0 (by
        have h1 := List.mem_of_getElem? HP0.out
        rw [← HV.out] at h1
        exact h1)
       exact this.d1
      have HNE := Lib.hid (show g ≠ B + 1 + 1 from fun e => by
       have h1 := HZ.out.cell 2
       rw [← e] at h1
       rw [z2] at h1
       have h2 : p0.d = 0 := by simpa [zRP] using h1
       omega)
      have HCC := Lib.hid (And.intro (And.intro z0 (And.intro z1 z2)) (And.intro y0 (And.intro y1 y2)))
      clear hp1 hp0 hg hmax hk m0 m1 hpd
      go_upto_region 17 with fail
      clear z0 z1 z2 y0 y1 y2
      have H2 := Lib.hid (show CC2 W2 g k p0 p1 from HCC.out)
      have HCC6 := Lib.hid (fun W (e : Ext w W ∧ CC2 W g k p0 p1) => (show (W.cell? ⟨g, 0, none⟩ = some (.int .i64 p0.x) ∧ W.cell? ⟨g, 0 + 1, none⟩ = some (.int .i64 p0.y) ∧ W.cell? ⟨g, 0 + 2, none⟩ = some (.int .i64 p0.d)) ∧ (W.cell? ⟨g, k * 3, none⟩ = some (.int .i64 p1.x) ∧ W.cell? ⟨g, k * 3 + 1, none⟩ = some (.int .i64 p1.y) ∧ W.cell? ⟨g, k * 3 + 2, none⟩ = some (.int .i64 p1.d)) from e.2))
      obtain ⟨RB, RX⟩ := row_rc HWX.out.drew HZ.out.drew hs0 ⟨2, p0, p1⟩
      have HRB := Lib.hid (And.intro RB RX)
      have HZD := Lib.hid HZ.out.drew
      clear RB RX
      refine wp_region_held_drew (S := fun W => Ext w W ∧ CC2 W g k p0 p1) (by kernel_rfl) ⟨HWX.out.drew, H2.out⟩ (fun hHeld => ?_)
      refine tkW (i := 0) (h := ?_)
      refine tkW (i := 1) (h := ?_)
      refine takeL (i := 2) (v := ?_) rfl (by kernel_rfl) (by kernel_rfl) (by kernel_rfl) (fun _ _ _ h => h) (Or.inl ⟨by rfl, ?_⟩) (by assumption) ?_; rotate_left; (focus (intro wq hSw; have hcc := HCC6.out wq hSw; clear hSw; go_split_ands; go_simp; try with_reducible rfl)); (try simp only [Act.put, List.setIfInBounds_toArray, List.set_cons_zero, List.set_cons_succ])
      refine tkW (i := 3) (h := ?_)
      refine tkW (i := 4) (h := ?_)
      refine tkW (i := 5) (h := ?_)
      refine tkW (i := 6) (h := ?_)
      refine tkW (i := 7) (h := ?_)
      refine takeL (i := 8) (v := ?_) rfl (by kernel_rfl) (by kernel_rfl) (by kernel_rfl) (fun _ _ _ h => h) (Or.inl ⟨by rfl, ?_⟩) (by assumption) ?_; rotate_left; (focus (intro wq hSw; have hcc := HCC6.out wq hSw; clear hSw; go_split_ands; go_simp; try with_reducible rfl)); (try simp only [Act.put, List.setIfInBounds_toArray, List.set_cons_zero, List.set_cons_succ])
      refine tkW (i := 9) (h := ?_)
      refine consL (i := 10) (by kernel_rfl) rfl (fun K hK => ?_); rw [if_pos (show Region.wanted _ _ = true by rfl)]; refine wp_store_row _ _ _ rfl (B + 1 + 1) (RC.cs ⟨2, p0, p1⟩) rfl rfl 74 _ HZD.out (by kernel_rfl) rfl (all_one _ rfl) ?_; refine hK.out _ _ ?_ ?_; rotate_left; clear hK K; intro hHeld; rotate_right; (focus exact ⟨HRB.out.2, CC2.setRow H2.out HNE.out _⟩); (try simp only [Act.put, List.setIfInBounds_toArray, List.set_cons_zero, List.set_cons_succ])
      refine doneL (by kernel_rfl) ?_
      clear hHeld
      go_wp2_with fail
      refine bodyPost_ret (v := RC.v ⟨2, p0, p1⟩) (results_cell_row Try.results30 _ _ (B + 1 + 1) 74 _ (0, 0) _ rfl HRB.out.1 Try.underlying74 rfl (by kernel_rfl)) rfl ?_
      exact ⟨by rw [HC.out], HRB.out.2⟩
   ·have h0' : (D != 0) = true := by rw [bne_iff_ne]; exact h0
    have HV := Lib.hid (show allF s t = comF s t (preF s t 4) (crP s t) by rw [preF_all, if_neg (by rw [HD.out.1]; exact h0)])
    have HCP := Lib.hid (show crP s t = makeF (s.a.x * D + U * N) (s.a.y * D + T * N) D by unfold crP; rw [HD.out.1, HD.out.2, HU.out.1, HU.out.2])
    have HPI := Lib.hid (crP_in HS.out.1 HS.out.2 (by rw [HD.out.1]; exact h0))
    have HC12 := Lib.hid (fun W (e : Ext W2 W) => (show (((W.cell? ⟨B, 0, none⟩ = some (.int .i64 s.a.x) ∧ W.cell? ⟨B, 1, none⟩ = some (.int .i64 s.a.y) ∧ W.cell? ⟨B, 2, none⟩ = some (.int .i64 s.b.x) ∧ W.cell? ⟨B, 3, none⟩ = some (.int .i64 s.b.y)) ∧ (W.cell? ⟨B + 1, 0, none⟩ = some (.int .i64 t.a.x) ∧ W.cell? ⟨B + 1, 1, none⟩ = some (.int .i64 t.a.y) ∧ W.cell? ⟨B + 1, 2, none⟩ = some (.int .i64 t.b.x) ∧ W.cell? ⟨B + 1, 3, none⟩ = some (.int .i64 t.b.y))) ∧ (W.cell? ⟨E, 0, none⟩ = some (.int .i64 U) ∧ W.cell? ⟨E, 1, none⟩ = some (.int .i64 T))) from
     ⟨⟨(((HB.out.1.1.ext HW.out).ext HE2.out).ext e).c4, (((HB.out.1.2.ext HW.out).ext HE2.out).ext e).c4⟩, (HB2.out.1.ext e).cell 0, (HB2.out.1.ext e).cell 1⟩))
    go_upto_region 12 with fail
    clear x0 x1 x2 x3 y0 y1 y2 y3 u0 u1 v0 v1
    have hnd := h0
    clear h0 h0'
    refine wp_region_held_drew (S := fun W => Ext W2 W) (by kernel_rfl) ((Ext.refl W2).drew) (fun hHeld => ?_)
    refine tkW (i := 0) (h := ?_)
    refine takeL (i := 1) (v := ?_) rfl (by kernel_rfl) (by kernel_rfl) (by kernel_rfl) (fun _ _ _ h => h) (Or.inl ⟨by rfl, ?_⟩) (by assumption) ?_; rotate_left; (focus (intro wq hSw; have hcc := HC12.out wq hSw; clear hSw; go_split_ands; go_simp; try with_reducible rfl)); (try simp only [Act.put, List.setIfInBounds_toArray, List.set_cons_zero, List.set_cons_succ])
    refine takeL (i := 2) (v := ?_) rfl (by kernel_rfl) (by kernel_rfl) (by kernel_rfl) (fun _ _ _ h => h) (Or.inl ⟨by rfl, ?_⟩) (by assumption) ?_; rotate_left; (focus (intro wq hSw; have hcc := HC12.out wq hSw; clear hSw; go_split_ands; go_simp; try with_reducible rfl)); (try simp only [Act.put, List.setIfInBounds_toArray, List.set_cons_zero, List.set_cons_succ])
    refine tkW (i := 3) (h := ?_)
    refine tkW (i := 4) (h := ?_)
    refine takeL (i := 5) (v := ?_) rfl (by kernel_rfl) (by kernel_rfl) (by kernel_rfl) (fun _ _ _ h => h) (Or.inl ⟨by rfl, ?_⟩) (by assumption) ?_; rotate_left; (focus (intro wq hSw; have hcc := HC12.out wq hSw; clear hSw; go_split_ands; go_simp; try with_reducible rfl)); (try simp only [Act.put, List.setIfInBounds_toArray, List.set_cons_zero, List.set_cons_succ])
    refine tkW (i := 6) (h := ?_)
    refine tkW (i := 7) (h := ?_)
    refine tkW (i := 8) (h := ?_)
    refine takeL (i := 9) (v := ?_) rfl (by kernel_rfl) (by kernel_rfl) (by kernel_rfl) (fun _ _ _ h => h) (Or.inl ⟨by rfl, ?_⟩) (by assumption) ?_; rotate_left; (focus (intro wq hSw; have hcc := HC12.out wq hSw; clear hSw; go_split_ands; go_simp; try with_reducible rfl)); (try simp only [Act.put, List.setIfInBounds_toArray, List.set_cons_zero, List.set_cons_succ])
    refine tkW (i := 10) (h := ?_)
    refine tkW (i := 11) (h := ?_)
    refine tkW (i := 12) (h := ?_)
    refine tkW (i := 13) (h := ?_)
    refine tkW (i := 14) (h := ?_)
    refine takeL (i := 15) (v := ?_) rfl (by kernel_rfl) (by kernel_rfl) (by kernel_rfl) (fun _ _ _ h => h) (Or.inl ⟨by rfl, ?_⟩) (by assumption) ?_; rotate_left; (focus (intro wq hSw; have hcc := HC12.out wq hSw; clear hSw; go_split_ands; go_simp; try with_reducible rfl)); (try simp only [Act.put, List.setIfInBounds_toArray, List.set_cons_zero, List.set_cons_succ])
    refine tkW (i := 16) (h := ?_)
    refine tkW (i := 17) (h := ?_)
    refine tkW (i := 18) (h := ?_)
    refine takeL (i := 19) (v := ?_) rfl (by kernel_rfl) (by kernel_rfl) (by kernel_rfl) (fun _ _ _ h => h) (Or.inl ⟨by rfl, ?_⟩) (by assumption) ?_; rotate_left; (focus (intro wq hSw; have hcc := HC12.out wq hSw; clear hSw; go_split_ands; go_simp; try with_reducible rfl)); (try simp only [Act.put, List.setIfInBounds_toArray, List.set_cons_zero, List.set_cons_succ])
    refine tkW (i := 20) (h := ?_)
    refine tkW (i := 21) (h := ?_)
    refine tkW (i := 22) (h := ?_)
    refine tkW (i := 23) (h := ?_)
    refine consL (i := 24) (by kernel_rfl) rfl (fun K hK => ?_); go_simp; go_at_call 35; refine (make_c (s.a.x * D + U * N) (s.a.y * D + T * N) D _ (by have := HBD.out; omega) (by have := HBD.out; omega) (by have := HBD.out; omega) (by have := HBD.out; omega) (by have := HBD.out; omega) (by have := HBD.out; omega) hnd).mono ?_; rw [← HCP.out]; rintro e z5 ⟨rfl, hx5⟩; go_wp2_with fail; refine hK.out _ _ ?_ ?_; rotate_left; clear hK K; intro hHeld; rotate_right; (focus (refine Ext.trans ?_ (by assumption); assumption)); (try simp only [Act.put, List.setIfInBounds_toArray, List.set_cons_zero, List.set_cons_succ])
    have HX5 := Lib.hid (show Ext W2 z5 by assumption)
    clear hx5
    refine consL (i := 25) (by kernel_rfl) rfl (fun K hK => ?_); go_simp; go_at_call 62; refine (rCommon_c a _ c (preF s t 4) s t (crP s t) _ (HR.out.ext (HE2.out.trans HX5.out)) (preF_in HS.out.1 HS.out.2 4) HPI.out (by have := preF_len s t 4; omega) (HS.out.1.mono (by omega) (by omega)) (HS.out.2.mono (by omega) (by omega))).mono ?_; rintro e z6 ⟨a', c', rfl, hr6, hx6⟩; have HR3 := Lib.hid hr6; clear hr6; go_wp2_with fail; refine hK.out _ _ ?_ ?_; rotate_left; clear hK K; intro hHeld; rotate_right; (focus (refine Ext.trans ?_ (by assumption); assumption)); (try simp only [Act.put, List.setIfInBounds_toArray, List.set_cons_zero, List.set_cons_succ])
    have HX6 := Lib.hid (show Ext W2 z6 by assumption)
    clear hx6
    refine tkW (i := 26) (h := ?_)
    refine doneL (by kernel_rfl) ?_
    clear hHeld hnd
    go_upto_region 13 with fail
    have HX3 := Lib.hid (HW.out.trans (HE2.out.trans HX6.out))
    have HZ := Lib.hid (HB.out.2.1.ext HX3.out)
    have HWX := Lib.hid (HE.out.trans HX3.out)
    have hb := HE.out.size
    obtain ⟨L, hL⟩ : ∃ L, comF s t (preF s t 4) (crP s t) = L := ⟨_, rfl⟩
    rw [hL] at HV HR3 ⊢
    clear hL
    obtain ⟨m, hm⟩ : ∃ m, L.length = m := ⟨_, rfl⟩
    have HM := Lib.hid hm
    rw [hm] at HR3 ⊢
    clear hm
    have hs0 : w.heap.size ≤ B + 1 + 1 := by omega
    by_cases m0 : m = 0
    ·have q0 : ((m : Int) == 0) = true := by simp [m0]
     have HC := Lib.hid (show rcOf (allF s t) = ⟨0, zRP, zRP⟩ by rw [HV.out]; unfold rcOf; rw [if_pos (by rw [HM.out]; exact m0)])
     obtain ⟨RB, RX⟩ := row_rc HWX.out HZ.out hs0 ⟨0, zRP, zRP⟩
     have HRB := Lib.hid (And.intro RB RX)
     clear RB RX m0
     go_wp2_with (refine wpList_store_row rfl 74 _ _ rfl (B + 1 + 1) _ rfl rfl 74 _ HZ.out (by kernel_rfl) rfl (all_one _ rfl) ?_)
     refine bodyPost_ret (v := RC.v ⟨0, zRP, zRP⟩) (results_cell_row Try.results30 _ _ (B + 1 + 1) 74 _ (0, 0) _ rfl HRB.out.1 Try.underlying74 rfl (by kernel_rfl)) rfl ?_
     exact ⟨by rw [HC.out], HRB.out.2⟩
    ·have q0 : ((m : Int) == 0) = false := by simp [m0]
     obtain ⟨g, rfl, hg⟩ := HR3.out.r3 (by omega)
     obtain ⟨p0, hp0⟩ : ∃ p, L[0]? = some p := ⟨_, List.getElem?_eq_getElem (by rw [HM.out]; omega)⟩
     have z0 := hg 0 p0 hp0
     rw [Nat.zero_mul] at z0
     obtain ⟨z0, z1, z2⟩ := z0
     have HP0 := Lib.hid hp0
     by_cases m1 : m = 1
     ·have q1 : ((m : Int) == 1) = true := by simp [m1]
      have HC := Lib.hid (show rcOf (allF s t) = ⟨1, p0, zRP⟩ by rw [HV.out]; exact rcOf_1 (by rw [HM.out]; exact m1) HP0.out)
      obtain ⟨RB, RX⟩ := row_rc HWX.out HZ.out hs0 ⟨1, p0, zRP⟩
      have HRB := Lib.hid (And.intro RB RX)
      have l1 : (0 : Int) < (m : Int) := by omega
      clear RB RX m0 m1 hp0 hg
      go_wp2_with (refine wpList_store_row rfl 74 _ _ rfl (B + 1 + 1) _ rfl rfl 74 _ HZ.out (by kernel_rfl) rfl (all_one _ rfl) ?_)
      refine bodyPost_ret (v := RC.v ⟨1, p0, zRP⟩) (results_cell_row Try.results30 _ _ (B + 1 + 1) 74 _ (0, 0) _ rfl HRB.out.1 Try.underlying74 rfl (by kernel_rfl)) rfl ?_
      exact ⟨by rw [HC.out], HRB.out.2⟩
     ·have q1 : ((m : Int) == 1) = false := by simp; omega
      obtain ⟨k, hk⟩ : ∃ k, m = k + 1 := ⟨m - 1, by omega⟩
      obtain ⟨p1, hp1⟩ : ∃ p, L[k]? = some p := ⟨_, List.getElem?_eq_getElem (by rw [HM.out]; omega)⟩
      obtain ⟨y0, y1, y2⟩ := hg k p1 hp1
      have HC := Lib.hid (show rcOf (allF s t) = ⟨2, p0, p1⟩ by rw [HV.out]; exact rcOf_2 (by rw [HM.out]; exact hk) (by omega) HP0.out hp1)
      have hmax : m ≤ 9223372036854775807 := by
       have h1 := HR3.out.cap
       have h2 := HR3.out.most
       rw [maxLen] at h2
       omega
      have wk : IntKind.i64.wrap ((m : Int) - 1) = (k : Int) := by rw [show (m : Int) - 1 = (k : Int) by omega]; exact IntWalk.i64_in _ (by omega)
      have l1 : (0 : Int) < (m : Int) := by omega
      have l2 : (k : Int) < (m : Int) := by omega
      have n1 : 0 < m := by omega
      have n2 : k < m := by omega
      have l3 : (0 : Int) ≤ (k : Int) := by omega
      have l4 : ¬ (k : Int) < 0 := by omega
      have hpd : 1 ≤ p0.d := by
       have := foldF_in (s := s) (t := t) _ [] (fun q hq => by cases hq) (cand_in HS.out.1 HS.out.2) p0 (by
        have h1 := List.mem_of_getElem? HP0.out
        rw [← HV.out] at h1
        exact h1)
       exact this.d1
      have HNE := Lib.hid (show g ≠ B + 1 + 1 from fun e => by
       have h1 := HZ.out.cell 2
       rw [← e] at h1
       rw [z2] at h1
       have h2 : p0.d = 0 := by simpa [zRP] using h1
       omega)
      have HCC := Lib.hid (And.intro (And.intro z0 (And.intro z1 z2)) (And.intro y0 (And.intro y1 y2)))
      clear hp1 hp0 hg hmax hk m0 m1 hpd
      go_upto_region 17 with fail
      clear z0 z1 z2 y0 y1 y2
      have H2 := Lib.hid (show CC2 z6 g k p0 p1 from HCC.out)
      have HCC6 := Lib.hid (fun W (e : Ext w W ∧ CC2 W g k p0 p1) => (show (W.cell? ⟨g, 0, none⟩ = some (.int .i64 p0.x) ∧ W.cell? ⟨g, 0 + 1, none⟩ = some (.int .i64 p0.y) ∧ W.cell? ⟨g, 0 + 2, none⟩ = some (.int .i64 p0.d)) ∧ (W.cell? ⟨g, k * 3, none⟩ = some (.int .i64 p1.x) ∧ W.cell? ⟨g, k * 3 + 1, none⟩ = some (.int .i64 p1.y) ∧ W.cell? ⟨g, k * 3 + 2, none⟩ = some (.int .i64 p1.d)) from e.2))
      obtain ⟨RB, RX⟩ := row_rc HWX.out.drew HZ.out.drew hs0 ⟨2, p0, p1⟩
      have HRB := Lib.hid (And.intro RB RX)
      have HZD := Lib.hid HZ.out.drew
      clear RB RX
      refine wp_region_held_drew (S := fun W => Ext w W ∧ CC2 W g k p0 p1) (by kernel_rfl) ⟨HWX.out.drew, H2.out⟩ (fun hHeld => ?_)
      refine tkW (i := 0) (h := ?_)
      refine tkW (i := 1) (h := ?_)
      refine takeL (i := 2) (v := ?_) rfl (by kernel_rfl) (by kernel_rfl) (by kernel_rfl) (fun _ _ _ h => h) (Or.inl ⟨by rfl, ?_⟩) (by assumption) ?_; rotate_left; (focus (intro wq hSw; have hcc := HCC6.out wq hSw; clear hSw; go_split_ands; go_simp; try with_reducible rfl)); (try simp only [Act.put, List.setIfInBounds_toArray, List.set_cons_zero, List.set_cons_succ])
      refine tkW (i := 3) (h := ?_)
      refine tkW (i := 4) (h := ?_)
      refine tkW (i := 5) (h := ?_)
      refine tkW (i := 6) (h := ?_)
      refine tkW (i := 7) (h := ?_)
      refine takeL (i := 8) (v := ?_) rfl (by kernel_rfl) (by kernel_rfl) (by kernel_rfl) (fun _ _ _ h => h) (Or.inl ⟨by rfl, ?_⟩) (by assumption) ?_; rotate_left; (focus (intro wq hSw; have hcc := HCC6.out wq hSw; clear hSw; go_split_ands; go_simp; try with_reducible rfl)); (try simp only [Act.put, List.setIfInBounds_toArray, List.set_cons_zero, List.set_cons_succ])
      refine tkW (i := 9) (h := ?_)
      refine consL (i := 10) (by kernel_rfl) rfl (fun K hK => ?_); rw [if_pos (show Region.wanted _ _ = true by rfl)]; refine wp_store_row _ _ _ rfl (B + 1 + 1) (RC.cs ⟨2, p0, p1⟩) rfl rfl 74 _ HZD.out (by kernel_rfl) rfl (all_one _ rfl) ?_; refine hK.out _ _ ?_ ?_; rotate_left; clear hK K; intro hHeld; rotate_right; (focus exact ⟨HRB.out.2, CC2.setRow H2.out HNE.out _⟩); (try simp only [Act.put, List.setIfInBounds_toArray, List.set_cons_zero, List.set_cons_succ])
      refine doneL (by kernel_rfl) ?_
      clear hHeld
      go_wp2_with fail
      refine bodyPost_ret (v := RC.v ⟨2, p0, p1⟩) (results_cell_row Try.results30 _ _ (B + 1 + 1) 74 _ (0, 0) _ rfl HRB.out.1 Try.underlying74 rfl (by kernel_rfl)) rfl ?_
      exact ⟨by rw [HC.out], HRB.out.2⟩
end Go.Proofs.Ytagiaiocgjagnaa
