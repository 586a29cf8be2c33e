/- point: Mid (07). -/
import Derived.Test.YtagiaiocgjagnaaWT
import Derived.Test.YtagiaiocgjagnaaMFX
import Derived.Test.YtagiaiocgjagnaaMFDv
namespace Go.Proofs.Ytagiaiocgjagnaa
set_option linter.unusedSimpArgs false
set_option linter.unusedVariables false
open Go.RowKit

theorem Own.putF4 {w : World} {b b' n : Nat} (h : Own w b n) (f : FV) : Own (putF w b' f) b n :=
  ⟨own1_set (own1_set (own1_set (own1_set h.1))), own2_set (own2_set (own2_set (own2_set h.2.1))), own3_set (own3_set (own3_set (own3_set h.2.2 (by simp)) (by simp)) (by simp)) (by simp)⟩
theorem Var.putF4 {w : World} {b b' : Nat} {v : Value} (h : Var w b v) (hne : b ≠ b') (f : FV) : Var (putF w b' f) b v :=
  ⟨cell_set (cell_set (cell_set (cell_set h.1 hne) hne) hne) hne, own2_set (own2_set (own2_set (own2_set h.2)))⟩
set_option maxRecDepth 100000 in
set_option maxHeartbeats 4000000 in
theorem mhalf_c (a b : FV) (x y u v : Int) (k eb : Nat) (w : World) (ha : IsR w a x y k) (hb : IsR w b u v k) (hE : Var w eb (.int .i64 0)) (hk : 4 * k + 2 ≤ 16384) (hk1 : 1 ≤ k) :
    Calls Try.prog 55 #[a.v, b.v, .pointer (some ⟨eb, 0, none⟩)] w fun e w' => ∃ f : FV, e = .returned f.v ∧ IsR w' f ((x * v + u * y) * (1 * 1)) (y * v * (1 * 2)) (2 * (2 * k + 1)) ∧ Ext w w' := by
  have HA := Lib.hid (And.intro ha hb)
  have h2 : Hid ((2 : Int).natAbs < 2 ^ (2 * k + 1)) := Lib.hid (by have := Nat.pow_le_pow_right (show 0 < 2 by decide) (show 2 ≤ 2 * k + 1 by omega); simp; omega)
  have hl := lt_of_cell hE.1
  have HE := Lib.hid hE
  have e0 := hE.1
  have ef := hE.2
  clear ha hb hE
  obtain ⟨B, hB⟩ : ∃ B, w.heap.size = B := ⟨_, rfl⟩
  have hne3 : eb ≠ B + 1 + 1 + 1 := by omega
  have hlB : eb < B := by omega
  go_enter Try.func55, Try.ntmps55
  clear e0 ef
  go_upto_region 2 with (fail)
  refine wp_gen (fun W => Ext w W ∧ At W B #[.bool a.n.neg, .slice a.n.a a.n.n a.n.c, .bool a.d.neg, .slice a.d.a a.d.n a.d.c] ∧ At W (B + 1) #[.bool b.n.neg, .slice b.n.a b.n.n b.n.c, .bool b.d.neg, .slice b.d.a b.d.n b.d.c] ∧ Own W (B + 1 + 1) 4 ∧ Own W (B + 1 + 1 + 1) 4 ∧ Var W eb (.int .i64 0)) ?_ ?_
  · refine ⟨(by repeat (first | exact Ext.refl _ | assumption | refine Ext.setCell ?_ (by first | (simp; done) | (simp; omega) | omega) _ | refine Ext.alloc ?_ _ | refine Ext.drew ?_ | refine Ext.trans ?_ (by assumption))), ((((Blk.at _ 41 hB.symm).alloc _).alloc _).alloc _).at', (((Blk.at _ 41 (by simp [hB])).alloc _).alloc _).at', ((Blk.at #[.bool false, .slice none 0 0, .bool false, .slice none 0 0] 41 (by simp [hB])).alloc _).own _ (by simp) (noIntF _ _ _ _ _ _ _ _), (Blk.at #[.bool false, .slice none 0 0, .bool false, .slice none 0 0] 41 (by simp [hB])).own _ (by simp) (noIntF _ _ _ _ _ _ _ _), Var.ext (by repeat (first | exact Ext.refl _ | assumption | refine Ext.setCell ?_ (by first | (simp; done) | (simp; omega) | omega) _ | refine Ext.alloc ?_ _ | refine Ext.drew ?_ | refine Ext.trans ?_ (by assumption))) HE.out⟩
  try rw [hB]
  rintro V ⟨E0, A0, A1, O2, O3, V0⟩
  have HS := Lib.hid (And.intro E0 (And.intro O2 (And.intro O3 V0)))
  have a0 := A0 0 (by simp); have a1 := A0 1 (by simp); have a2 := A0 2 (by simp); have a3 := A0 3 (by simp)
  have b0 := A1 0 (by simp); have b1 := A1 1 (by simp); have b2 := A1 2 (by simp); have b3 := A1 3 (by simp)
  simp only [List.getElem?_toArray, List.getElem?_cons_zero, List.getElem?_cons_succ] at a0 a1 a2 a3 b0 b1 b2 b3
  have e0 := V0.1
  clear E0 O2 O3 V0 A0 A1
  go_wp2_with fail
  refine (addN_c a b x y u v k _ (HA.out.1.keep HS.out.1.ik) (HA.out.2.keep HS.out.1.ik) (by omega)).mono ?_
  rintro e w2 ⟨f, rfl, hf, hx2⟩
  have O3 := HS.out.2.2.1.ext hx2 (by omega)
  have O2 := HS.out.2.1.ext hx2 (by omega)
  have V2 : Var w2 eb (.int .i64 0) := Var.ext hx2 HS.out.2.2.2
  have HG := Lib.hid (And.intro hf (HS.out.1.trans hx2))
  have HO := Lib.hid (And.intro O3 (And.intro O2 V2))
  have o0 := O3.1 0 (by omega); have o1 := O3.1 1 (by omega); have o2 := O3.1 2 (by omega); have o3 := O3.1 3 (by omega); have of := O3.2.1
  have e2 := V2.1; have ef2 := V2.2
  clear hf hx2 O3 O2 V2 e0 a0 a1 a2 a3 b0 b1 b2 b3
  go_upto_region 4 with (fail)
  have hid2 := setCell_id (w := putF w2 (B + 1 + 1 + 1) f) (b := eb) (o := 0) (v := .int .i64 0) (cell_set (cell_set (cell_set (cell_set e2 hne3) hne3) hne3) hne3)
  refine wp_gen (fun W => (Ext w W ∧ Own W (B + 1 + 1 + 1) 4 ∧ Own W (B + 1 + 1) 4 ∧ Var W eb (.int .i64 0)) ∧ At W (B + 1 + 1 + 1) #[.bool f.n.neg, .slice f.n.a f.n.n f.n.c, .bool f.d.neg, .slice f.d.a f.d.n f.d.c] ∧ IsR W f (x * v + u * y) (y * v) (2 * k + 1)) ?_ ?_
  · rw [hid2]
    exact ⟨⟨ext_putF HG.out.2 (by omega) f, Own.putF4 HO.out.1 f, Own.putF4 HO.out.2.1 f, Var.putF4 HO.out.2.2 hne3 f⟩, At.putF' HO.out.1 f, HG.out.1.keep (IK.putF HO.out.1 f)⟩
  clear hid2 o0 o1 o2 o3 of e2 ef2 HG HO
  rintro V4 ⟨⟨E4, O3, O2, V4v⟩, A3, hf⟩
  have HF := Lib.hid hf
  have e0 := V4v.1
  have f0 := A3 0 (by simp); have f1 := A3 1 (by simp); have f2 := A3 2 (by simp); have f3 := A3 3 (by simp); simp only [List.getElem?_toArray, List.getElem?_cons_zero, List.getElem?_cons_succ] at f0 f1 f2 f3
  clear hf
  go_upto_region 5 with (fail)
  clear e0
  refine wp_region_held_drew (S := fun W => Ext w W ∧ Own W (B + 1 + 1 + 1) 4 ∧ Own W (B + 1 + 1) 4 ∧ Var W eb (.int .i64 0)) (by kernel_rfl) ⟨E4.drew, O3, O2, V4v⟩ (fun hHeld => ?_)
  clear E4 O3 O2 V4v
  refine cons2L (i := 0) (j := 1) (by kernel_rfl) rfl rfl (fun K hK => ?_) (fun K hK => ?_)
  · have hhid := Lib.hid hHeld; clear hHeld; go_simp; refine hK.out _ _ ?_ (fun hHeld => ?_); rotate_left; clear hK K; rotate_right; (focus exact hhid.out); (try simp only [Act.put, List.setIfInBounds_toArray, List.set_cons_zero, List.set_cons_succ]); clear hhid
    clear f0 f1 f2 f3
    refine consL (i := 1) (by kernel_rfl) rfl (fun K hK => ?_); go_simp; go_at_call 43; refine (whole_c 2 (2 * k + 1) _ (by omega) (by omega) (by omega) h2.out).mono ?_; rintro e w5 ⟨t, rfl, ht, hx5⟩; go_wp2_with fail; refine hK.out _ _ ?_ (fun hHeld => ?_); rotate_left; clear hK K; rotate_right; (focus ((try dsimp only); exact kept2)); (try simp only [Act.put, List.setIfInBounds_toArray, List.set_cons_zero, List.set_cons_succ])
    refine consL (i := 2) (by kernel_rfl) rfl (fun K hK => ?_); go_simp; go_at_call 57; have h1 := divN_c f t (x * v + u * y) (y * v) 2 1 1 (2 * k + 1) w5 (HF.out.keep (Ext.ik ((Ext.refl V4).drew.trans hx5))) ht (.inl rfl) (by omega) (by omega); refine h1.mono ?_; clear h1; rintro e w6 ⟨h, rfl, hh, hx6⟩; go_wp2_with fail; refine hK.out _ _ ?_ (fun hHeld => ?_); rotate_left; clear hK K; rotate_right; (focus ((try dsimp only); exact kept2)); (try simp only [Act.put, List.setIfInBounds_toArray, List.set_cons_zero, List.set_cons_succ])
    have O6 := hHeld.2.1; have R6 := hHeld.2.2.1; have V6 := hHeld.2.2.2; have E6 := hHeld.1; refine tkW (i := 3) (h := ?_); refine tkW (i := 4) (h := ?_); refine tkW (i := 5) (h := ?_); have o0 := O6.1 0 (by omega); have o1 := O6.1 1 (by omega); have o2 := O6.1 2 (by omega); have o3 := O6.1 3 (by omega); have of := O6.2.1; have e0 := V6.1; have ef := V6.2; have hid6 := setCell_id (w := putF w6 (B + 1 + 1 + 1) h) (b := eb) (o := 0) (v := .int .i64 0) (cell_set (cell_set (cell_set (cell_set e0 hne3) hne3) hne3) hne3); refine consL (i := 6) (by kernel_rfl) rfl (fun K hK => ?_); go_simp; refine hK.out _ _ ?_ (fun hHeld => ?_); rotate_left; clear hK K; rotate_right; (focus ((try dsimp only); exact kept2)); (try simp only [Act.put, List.setIfInBounds_toArray, List.set_cons_zero, List.set_cons_succ]); have hH7 := hHeld; refine consL (i := 7) (by kernel_rfl) rfl (fun K hK => ?_); go_simp; refine hK.out _ _ ?_ (fun _ => ?_); rotate_left; clear hK K; rotate_right; (focus exact hH7); (try simp only [Act.put, List.setIfInBounds_toArray, List.set_cons_zero, List.set_cons_succ]); refine doneL (by kernel_rfl) ?_; go_upto_region 6 with (fail); refine wp_gen (fun W => Ext w W ∧ At W (B + 1 + 1 + 1) #[.bool h.n.neg, .slice h.n.a h.n.n h.n.c, .bool h.d.neg, .slice h.d.a h.d.n h.d.c] ∧ Own W (B + 1 + 1) 4 ∧ IsR W h ((x * v + u * y) * (1 * 1)) (y * v * (1 * 2)) (2 * (2 * k + 1))) ?_ ?_
    · exact ⟨ext_putF E6 (by omega) h, At.putF' O6 h, Own.putF4 R6 h, hh.keep (IK.putF O6 h)⟩
    · clear o0 o1 o2 o3 of e0 ef hid6 O6 R6 V6 E6 hHeld hH7
      rintro W8 ⟨E8, A8, O8, hh8⟩; have H8 := Lib.hid (And.intro E8 (And.intro O8 hh8)); have f0 := A8 0 (by simp); have f1 := A8 1 (by simp); have f2 := A8 2 (by simp); have f3 := A8 3 (by simp); simp only [List.getElem?_toArray, List.getElem?_cons_zero, List.getElem?_cons_succ] at f0 f1 f2 f3; have q0 := O8.1 0 (by omega); have q1 := O8.1 1 (by omega); have q2 := O8.1 2 (by omega); have q3 := O8.1 3 (by omega); have qf := O8.2.1; obtain ⟨z0, z1, z2, z3⟩ := putF_cells O8 h; clear E8 A8 O8 hh8; go_wp2_with fail; refine bodyPost_ret (v := h.v) (by simp [results, Try.results55, go_sem, z0, z1, z2, z3]) rfl ?_; exact ⟨h, rfl, H8.out.2.2.keep (IK.putF H8.out.2.1 h), ext_putF H8.out.1 (by omega) h⟩
  · clear f0 f1 f2 f3
    go_simp; go_at_call 43; refine (whole_c 2 (2 * k + 1) _ (by omega) (by omega) (by omega) h2.out).mono ?_; rintro e w5 ⟨t, rfl, ht, hx5⟩; go_wp2_with fail; refine hK.out _ _ ?_ (fun hHeld => ?_); rotate_left; clear hK K; rotate_right; (focus ((try dsimp only); exact kept2)); (try simp only [Act.put, List.setIfInBounds_toArray, List.set_cons_zero, List.set_cons_succ])
    have A5 := A3.drew.ext hx5 (by simp)
    have f0 := A5 0 (by simp); have f1 := A5 1 (by simp); have f2 := A5 2 (by simp); have f3 := A5 3 (by simp); simp only [List.getElem?_toArray, List.getElem?_cons_zero, List.getElem?_cons_succ] at f0 f1 f2 f3
    refine consL (i := 0) (by kernel_rfl) rfl (fun K hK => ?_)
    have hhid := Lib.hid hHeld; clear hHeld; go_simp; refine hK.out _ _ ?_ (fun hHeld => ?_); rotate_left; clear hK K; rotate_right; (focus exact hhid.out); (try simp only [Act.put, List.setIfInBounds_toArray, List.set_cons_zero, List.set_cons_succ]); clear hhid
    clear f0 f1 f2 f3 A5
    refine consL (i := 2) (by kernel_rfl) rfl (fun K hK => ?_); go_simp; go_at_call 57; have h1 := divN_c f t (x * v + u * y) (y * v) 2 1 1 (2 * k + 1) w5 (HF.out.keep (Ext.ik ((Ext.refl V4).drew.trans hx5))) ht (.inl rfl) (by omega) (by omega); refine h1.mono ?_; clear h1; rintro e w6 ⟨h, rfl, hh, hx6⟩; go_wp2_with fail; refine hK.out _ _ ?_ (fun hHeld => ?_); rotate_left; clear hK K; rotate_right; (focus ((try dsimp only); exact kept2)); (try simp only [Act.put, List.setIfInBounds_toArray, List.set_cons_zero, List.set_cons_succ])
    have O6 := hHeld.2.1; have R6 := hHeld.2.2.1; have V6 := hHeld.2.2.2; have E6 := hHeld.1; refine tkW (i := 3) (h := ?_); refine tkW (i := 4) (h := ?_); refine tkW (i := 5) (h := ?_); have o0 := O6.1 0 (by omega); have o1 := O6.1 1 (by omega); have o2 := O6.1 2 (by omega); have o3 := O6.1 3 (by omega); have of := O6.2.1; have e0 := V6.1; have ef := V6.2; have hid6 := setCell_id (w := putF w6 (B + 1 + 1 + 1) h) (b := eb) (o := 0) (v := .int .i64 0) (cell_set (cell_set (cell_set (cell_set e0 hne3) hne3) hne3) hne3); refine consL (i := 6) (by kernel_rfl) rfl (fun K hK => ?_); go_simp; refine hK.out _ _ ?_ (fun hHeld => ?_); rotate_left; clear hK K; rotate_right; (focus ((try dsimp only); exact kept2)); (try simp only [Act.put, List.setIfInBounds_toArray, List.set_cons_zero, List.set_cons_succ]); have hH7 := hHeld; refine consL (i := 7) (by kernel_rfl) rfl (fun K hK => ?_); go_simp; refine hK.out _ _ ?_ (fun _ => ?_); rotate_left; clear hK K; rotate_right; (focus exact hH7); (try simp only [Act.put, List.setIfInBounds_toArray, List.set_cons_zero, List.set_cons_succ]); refine doneL (by kernel_rfl) ?_; go_upto_region 6 with (fail); refine wp_gen (fun W => Ext w W ∧ At W (B + 1 + 1 + 1) #[.bool h.n.neg, .slice h.n.a h.n.n h.n.c, .bool h.d.neg, .slice h.d.a h.d.n h.d.c] ∧ Own W (B + 1 + 1) 4 ∧ IsR W h ((x * v + u * y) * (1 * 1)) (y * v * (1 * 2)) (2 * (2 * k + 1))) ?_ ?_
    · exact ⟨ext_putF E6 (by omega) h, At.putF' O6 h, Own.putF4 R6 h, hh.keep (IK.putF O6 h)⟩
    · clear o0 o1 o2 o3 of e0 ef hid6 O6 R6 V6 E6 hHeld hH7
      rintro W8 ⟨E8, A8, O8, hh8⟩; have H8 := Lib.hid (And.intro E8 (And.intro O8 hh8)); have f0 := A8 0 (by simp); have f1 := A8 1 (by simp); have f2 := A8 2 (by simp); have f3 := A8 3 (by simp); simp only [List.getElem?_toArray, List.getElem?_cons_zero, List.getElem?_cons_succ] at f0 f1 f2 f3; have q0 := O8.1 0 (by omega); have q1 := O8.1 1 (by omega); have q2 := O8.1 2 (by omega); have q3 := O8.1 3 (by omega); have qf := O8.2.1; obtain ⟨z0, z1, z2, z3⟩ := putF_cells O8 h; clear E8 A8 O8 hh8; go_wp2_with fail; refine bodyPost_ret (v := h.v) (by simp [results, Try.results55, go_sem, z0, z1, z2, z3]) rfl ?_; exact ⟨h, rfl, H8.out.2.2.keep (IK.putF H8.out.2.1 h), ext_putF H8.out.1 (by omega) h⟩
end Go.Proofs.Ytagiaiocgjagnaa
namespace Go.Proofs.Ytagiaiocgjagnaa
set_option linter.unusedSimpArgs false
set_option linter.unusedVariables false
open Go.RowKit

theorem At.putP' {w : World} {b : Nat} (h : Own w b 8) (p : PV) : At (putP w b p) b p.cs := fun o ho => by
  obtain ⟨p0, p1, p2, p3, p4, p5, p6, p7⟩ := putP_cells h p
  match o, ho with
  | 0, _ => exact p0
  | 1, _ => exact p1
  | 2, _ => exact p2
  | 3, _ => exact p3
  | 4, _ => exact p4
  | 5, _ => exact p5
  | 6, _ => exact p6
  | 7, _ => exact p7
  | o + 8, ho => simp at ho; omega
/-- The point in the middle. -/
def IsMid (w : World) (p : PV) (x xd y yd u ud v vd : Int) (k : Nat) : Prop := IsPt w p ((x * ud + u * xd) * (1 * 1)) (xd * ud * (1 * 2)) ((y * vd + v * yd) * (1 * 1)) (yd * vd * (1 * 2)) (2 * (2 * k + 1))
set_option maxRecDepth 100000 in
set_option maxHeartbeats 8000000 in
theorem Mid_c (a b : PV) (x xd y yd u ud v vd : Int) (k : Nat) (w : World) (ha : IsPt w a x xd y yd k) (hb : IsPt w b u ud v vd k) (hk : 4 * k + 2 ≤ 16384) (hk1 : 1 ≤ k) :
    Calls Try.prog 23 #[a.v, b.v] w fun e w' => ∃ p : PV, e = .returned (.tuple #[p.v, .int .i64 0]) ∧ IsMid w' p x xd y yd u ud v vd k ∧ Ext w w' := by
  have HA := Lib.hid (And.intro ha hb)
  clear ha hb
  obtain ⟨B, hB⟩ : ∃ B, w.heap.size = B := ⟨_, rfl⟩
  go_enter Try.func23, Try.ntmps23
  go_upto_region 3 with (fail)
  refine wp_gen (fun W => Ext w W ∧ At W B a.cs ∧ At W (B + 1) b.cs ∧ Own W (B + 1 + 1) 8 ∧ Var W (B + 1 + 1 + 1) (.int .i64 0)) ⟨(by repeat (first | exact Ext.refl _ | assumption | refine Ext.setCell ?_ (by first | (simp; done) | (simp; omega) | omega) _ | refine Ext.alloc ?_ _ | refine Ext.drew ?_ | refine Ext.trans ?_ (by assumption))), ((((Blk.at a.cs 43 hB.symm).alloc _).alloc _).alloc _).at', (((Blk.at b.cs 43 (by simp [hB])).alloc _).alloc _).at', ((Blk.at zeroP 43 (by simp [hB])).alloc _).own _ (by simp) noInt8, (Blk.at #[.int .i64 0] 32 (by simp [hB])).var⟩ ?_
  try rw [hB]
  rintro V ⟨E0, A0, A1, O2, V3⟩
  have lv := O2.lt (by omega)
  have lv3 := lt_of_cell V3.1
  go_cut [8] (fun s8 wx => ∃ (G : Nat) (p : PV), s8 = .pointer (some ⟨G, 0, none⟩) ∧ (Ext w wx ∧ At wx B a.cs ∧ At wx (B + 1) b.cs ∧ Own wx (B + 1 + 1) 8 ∧ Var wx (B + 1 + 1 + 1) (.int .i64 0)) ∧ At wx G p.cs ∧ IsMid wx p x xd y yd u ud v vd k)
  case first =>
    refine wp_region_held_drew (S := fun W => Ext w W ∧ At W B a.cs ∧ At W (B + 1) b.cs ∧ Own W (B + 1 + 1) 8 ∧ Var W (B + 1 + 1 + 1) (.int .i64 0)) (by kernel_rfl) ⟨E0.drew, A0, A1, O2, V3⟩ (fun hHeld => ?_)
    refine tkW (i := 0) (h := ?_)
    refine tkW (i := 1) (h := ?_)
    refine tkW (i := 2) (h := ?_)
    refine tkW (i := 3) (h := ?_)
    refine tkW (i := 4) (h := ?_)
    refine tkW (i := 6) (h := ?_)
    refine tkW (i := 7) (h := ?_)
    refine tkW (i := 8) (h := ?_)
    refine tkW (i := 9) (h := ?_)
    refine tkW (i := 10) (h := ?_)
    refine cons2L (i := 5) (j := 13) (by kernel_rfl) rfl rfl (fun K hK => ?_) (fun K hK => ?_)
    · go_simp; go_at_call 55; refine (mhalf_c a.x b.x x xd u ud k (B + 1 + 1 + 1) _ (HA.out.1.fx.keep (Ext.ik (And.left (by assumption)))) (HA.out.2.fx.keep (Ext.ik (And.left (by assumption)))) (And.right (And.right (And.right (And.right (by assumption))))) hk hk1).mono ?_; rintro e w5 ⟨f, rfl, hf, hx5⟩; have sz := Ext.size hx5; (try simp only [World.size_alloc, World.size_drew] at sz); (first | (have OG := Own.ext hx5 ((Blk.at zeroP 43 rfl).own 8 (by simp) noInt8) (by omega)) | (have OG := Own.ext hx5 OG (by omega)) | skip); (try simp only [World.size_alloc] at OG); go_wp2_with fail; refine hK.out _ _ ?_ (fun hHeld => ?_); rotate_left; clear hK K; rotate_right; (focus ((try dsimp only); exact kept2)); (try simp only [Act.put, List.setIfInBounds_toArray, List.set_cons_zero, List.set_cons_succ])
      refine cons2L (i := 11) (j := 13) (by kernel_rfl) rfl rfl (fun K hK => ?_) (fun K hK => ?_)
      · go_simp; go_at_call 55; refine (mhalf_c a.y b.y y yd v vd k (B + 1 + 1 + 1) _ (HA.out.1.fy.keep (Ext.ik (And.left (by assumption)))) (HA.out.2.fy.keep (Ext.ik (And.left (by assumption)))) (And.right (And.right (And.right (And.right (by assumption))))) hk hk1).mono ?_; rintro e w6 ⟨g, rfl, hg, hx6⟩; have sz := Ext.size hx6; (try simp only [World.size_alloc, World.size_drew] at sz); (first | (have OG := Own.ext hx6 ((Blk.at zeroP 43 rfl).own 8 (by simp) noInt8) (by omega)) | (have OG := Own.ext hx6 OG (by omega)) | skip); (try simp only [World.size_alloc] at OG); go_wp2_with fail; refine hK.out _ _ ?_ (fun hHeld => ?_); rotate_left; clear hK K; rotate_right; (focus ((try dsimp only); exact kept2)); (try simp only [Act.put, List.setIfInBounds_toArray, List.set_cons_zero, List.set_cons_succ])
        refine tkW (i := 12) (h := ?_)
        refine consL (i := 13) (by kernel_rfl) rfl (fun K hK => ?_); go_simp; refine hK.out _ _ ?_ (fun hHeld => ?_); rotate_left; clear hK K; rotate_right; (focus ((try dsimp only); exact kept2)); (try simp only [Act.put, List.setIfInBounds_toArray, List.set_cons_zero, List.set_cons_succ])
        refine consL (i := 14) (by kernel_rfl) rfl (fun K hK => ?_); go_simp; refine hK.out _ _ ?_ (fun hHeld => ?_); rotate_left; clear hK K; rotate_right; (focus ((try dsimp only); exact kept2)); (try simp only [Act.put, List.setIfInBounds_toArray, List.set_cons_zero, List.set_cons_succ])
        refine doneL (by kernel_rfl) ?_; go_wp2_with fail; go_meet; refine ⟨_, ⟨f, g⟩, rfl, hHeld, ?_, ?_⟩; (focus (first | exact At.putP' OG ⟨f, g⟩ | exact (Blk.at _ 43 rfl).at')); (focus (first | exact IsPt.keep (p := ⟨f, g⟩) ⟨hf.keep hx6.ik, hg⟩ (IK.putP OG ⟨f, g⟩) | exact IsPt.keep (p := ⟨f, g⟩) ⟨hf.keep hx6.ik, hg⟩ ((Ext.refl _).alloc _).ik))
      · go_simp; refine hK.out _ _ ?_ (fun hHeld => ?_); rotate_left; clear hK K; rotate_right; (focus ((try dsimp only); exact kept2)); (try simp only [Act.put, List.setIfInBounds_toArray, List.set_cons_zero, List.set_cons_succ])
        refine consL (i := 11) (by kernel_rfl) rfl (fun K hK => ?_)
        go_simp; go_at_call 55; refine (mhalf_c a.y b.y y yd v vd k (B + 1 + 1 + 1) _ (HA.out.1.fy.keep (Ext.ik (And.left (by assumption)))) (HA.out.2.fy.keep (Ext.ik (And.left (by assumption)))) (And.right (And.right (And.right (And.right (by assumption))))) hk hk1).mono ?_; rintro e w6 ⟨g, rfl, hg, hx6⟩; have sz := Ext.size hx6; (try simp only [World.size_alloc, World.size_drew] at sz); (first | (have OG := Own.ext hx6 ((Blk.at zeroP 43 rfl).own 8 (by simp) noInt8) (by omega)) | (have OG := Own.ext hx6 OG (by omega)) | skip); (try simp only [World.size_alloc] at OG); go_wp2_with fail; refine hK.out _ _ ?_ (fun hHeld => ?_); rotate_left; clear hK K; rotate_right; (focus ((try dsimp only); exact kept2)); (try simp only [Act.put, List.setIfInBounds_toArray, List.set_cons_zero, List.set_cons_succ])
        refine tkW (i := 12) (h := ?_)
        refine consL (i := 14) (by kernel_rfl) rfl (fun K hK => ?_); go_simp; refine hK.out _ _ ?_ (fun hHeld => ?_); rotate_left; clear hK K; rotate_right; (focus ((try dsimp only); exact kept2)); (try simp only [Act.put, List.setIfInBounds_toArray, List.set_cons_zero, List.set_cons_succ])
        refine doneL (by kernel_rfl) ?_; go_wp2_with fail; go_meet; refine ⟨_, ⟨f, g⟩, rfl, hHeld, ?_, ?_⟩; (focus (first | exact At.putP' OG ⟨f, g⟩ | exact (Blk.at _ 43 rfl).at')); (focus (first | exact IsPt.keep (p := ⟨f, g⟩) ⟨hf.keep ((Ext.refl _).alloc _ |>.trans hx6).ik, hg⟩ (IK.putP OG ⟨f, g⟩) | exact IsPt.keep (p := ⟨f, g⟩) ⟨hf.keep ((Ext.refl _).alloc _ |>.trans hx6).ik, hg⟩ ((Ext.refl _).alloc _).ik))
    · go_simp; refine hK.out _ _ ?_ (fun hHeld => ?_); rotate_left; clear hK K; rotate_right; (focus ((try dsimp only); exact kept2)); (try simp only [Act.put, List.setIfInBounds_toArray, List.set_cons_zero, List.set_cons_succ])
      refine consL (i := 5) (by kernel_rfl) rfl (fun K hK => ?_)
      go_simp; go_at_call 55; refine (mhalf_c a.x b.x x xd u ud k (B + 1 + 1 + 1) _ (HA.out.1.fx.keep (Ext.ik (And.left (by assumption)))) (HA.out.2.fx.keep (Ext.ik (And.left (by assumption)))) (And.right (And.right (And.right (And.right (by assumption))))) hk hk1).mono ?_; rintro e w5 ⟨f, rfl, hf, hx5⟩; have sz := Ext.size hx5; (try simp only [World.size_alloc, World.size_drew] at sz); (first | (have OG := Own.ext hx5 ((Blk.at zeroP 43 rfl).own 8 (by simp) noInt8) (by omega)) | (have OG := Own.ext hx5 OG (by omega)) | skip); (try simp only [World.size_alloc] at OG); go_wp2_with fail; refine hK.out _ _ ?_ (fun hHeld => ?_); rotate_left; clear hK K; rotate_right; (focus ((try dsimp only); exact kept2)); (try simp only [Act.put, List.setIfInBounds_toArray, List.set_cons_zero, List.set_cons_succ])
      refine consL (i := 11) (by kernel_rfl) rfl (fun K hK => ?_)
      go_simp; go_at_call 55; refine (mhalf_c a.y b.y y yd v vd k (B + 1 + 1 + 1) _ (HA.out.1.fy.keep (Ext.ik (And.left (by assumption)))) (HA.out.2.fy.keep (Ext.ik (And.left (by assumption)))) (And.right (And.right (And.right (And.right (by assumption))))) hk hk1).mono ?_; rintro e w6 ⟨g, rfl, hg, hx6⟩; have sz := Ext.size hx6; (try simp only [World.size_alloc, World.size_drew] at sz); (first | (have OG := Own.ext hx6 ((Blk.at zeroP 43 rfl).own 8 (by simp) noInt8) (by omega)) | (have OG := Own.ext hx6 OG (by omega)) | skip); (try simp only [World.size_alloc] at OG); go_wp2_with fail; refine hK.out _ _ ?_ (fun hHeld => ?_); rotate_left; clear hK K; rotate_right; (focus ((try dsimp only); exact kept2)); (try simp only [Act.put, List.setIfInBounds_toArray, List.set_cons_zero, List.set_cons_succ])
      refine tkW (i := 12) (h := ?_)
      refine consL (i := 14) (by kernel_rfl) rfl (fun K hK => ?_); go_simp; refine hK.out _ _ ?_ (fun hHeld => ?_); rotate_left; clear hK K; rotate_right; (focus ((try dsimp only); exact kept2)); (try simp only [Act.put, List.setIfInBounds_toArray, List.set_cons_zero, List.set_cons_succ])
      refine doneL (by kernel_rfl) ?_; go_wp2_with fail; go_meet; refine ⟨_, ⟨f, g⟩, rfl, hHeld, ?_, ?_⟩; (focus (first | exact At.putP' OG ⟨f, g⟩ | exact (Blk.at _ 43 rfl).at')); (focus (first | exact IsPt.keep (p := ⟨f, g⟩) ⟨hf.keep hx6.ik, hg⟩ (IK.putP OG ⟨f, g⟩) | exact IsPt.keep (p := ⟨f, g⟩) ⟨hf.keep hx6.ik, hg⟩ ((Ext.refl _).alloc _).ik))
  case rest =>
    obtain ⟨G, p, rfl, ⟨E1, A0', A1', O2', V3'⟩, AG, hm⟩ := hcut
    have g0 := AG 0 (by simp); have g1 := AG 1 (by simp); have g2 := AG 2 (by simp); have g3 := AG 3 (by simp); have g4 := AG 4 (by simp); have g5 := AG 5 (by simp); have g6 := AG 6 (by simp); have g7 := AG 7 (by simp)
    simp only [List.getElem?_toArray, List.getElem?_cons_zero, List.getElem?_cons_succ] at g0 g1 g2 g3 g4 g5 g6 g7
    have e0 := V3'.1
    have HM := Lib.hid (And.intro E1 (And.intro O2' hm))
    have o0 := O2'.1 0 (by omega); have o1 := O2'.1 1 (by omega); have o2 := O2'.1 2 (by omega); have o3 := O2'.1 3 (by omega); have o4 := O2'.1 4 (by omega); have o5 := O2'.1 5 (by omega); have o6 := O2'.1 6 (by omega); have o7 := O2'.1 7 (by omega); have of := O2'.2.1
    obtain ⟨p0, p1, p2, p3, p4, p5, p6, p7⟩ := putP_cells O2' p
    clear E1 A0' A1' O2' V3' AG hm A0 A1 O2 V3
    go_wp2_with fail
    refine bodyPost_ret (v := .tuple #[p.v, .int .i64 0]) (by simp [results, Try.results23, go_sem, p0, p1, p2, p3, p4, p5, p6, p7]) rfl ?_
    exact ⟨p, rfl, IsPt.keep HM.out.2.2 (IK.putP HM.out.2.1 p), ext_putP HM.out.1 (by omega) p⟩
end Go.Proofs.Ytagiaiocgjagnaa
