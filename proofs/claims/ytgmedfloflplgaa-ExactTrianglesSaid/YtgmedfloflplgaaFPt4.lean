/- point: Mid. -/
import Derived.Test.YtgmedfloflplgaaFPt3
namespace Go.Proofs.Ytgmedfloflplgaa
set_option linter.unusedSimpArgs false
set_option linter.unusedVariables false
open Go.RowKit

theorem At.putP' {w : World} {b : Nat} (h : Own w b 8) (p : PV) : At (putP w b p) b p.cs := fun o ho => by
  obtain ⟨p0, p1, p2, p3, p4, p5, p6, p7⟩ := putP_cells h p
  match o, ho with
  | 0, _ => exact p0
  | 1, _ => exact p1
  | 2, _ => exact p2
  | 3, _ => exact p3
  | 4, _ => exact p4
  | 5, _ => exact p5
  | 6, _ => exact p6
  | 7, _ => exact p7
  | o + 8, ho => simp at ho; omega
/-- The point in the middle. -/
def IsMid (w : World) (p : PV) (x xd y yd u ud v vd : Int) (k : Nat) : Prop := IsPt w p ((x * ud + u * xd) * (1 * 1)) (xd * ud * (1 * 2)) ((y * vd + v * yd) * (1 * 1)) (yd * vd * (1 * 2)) (2 * (2 * k + 1))
set_option maxRecDepth 100000 in
set_option maxHeartbeats 8000000 in
theorem Mid_c (a b : PV) (x xd y yd u ud v vd : Int) (k : Nat) (w : World) (ha : IsPt w a x xd y yd k) (hb : IsPt w b u ud v vd k) (hk : 4 * k + 2 ≤ 16384) (hk1 : 1 ≤ k) :
    Calls Try.prog 50 #[a.v, b.v] w fun e w' => ∃ p : PV, e = .returned (.tuple #[p.v, .int .i64 0]) ∧ IsMid w' p x xd y yd u ud v vd k ∧ Ext w w' := by
  have HA := Lib.hid (And.intro ha hb)
  clear ha hb
  obtain ⟨B, hB⟩ : ∃ B, w.heap.size = B := ⟨_, rfl⟩
  go_enter Try.func50, Try.ntmps50
  go_upto_region 3 with (fail)
  refine wp_gen (fun W => Ext w W ∧ At W B a.cs ∧ At W (B + 1) b.cs ∧ Own W (B + 1 + 1) 8 ∧ Var W (B + 1 + 1 + 1) (.int .i64 0)) ⟨(by repeat (first | exact Ext.refl _ | assumption | refine Ext.setCell ?_ (by first | (simp; done) | (simp; omega) | omega) _ | refine Ext.alloc ?_ _ | refine Ext.drew ?_ | refine Ext.trans ?_ (by assumption))), ((((Blk.at a.cs 51 hB.symm).alloc _).alloc _).alloc _).at', (((Blk.at b.cs 51 (by simp [hB])).alloc _).alloc _).at', ((Blk.at zeroP 51 (by simp [hB])).alloc _).own _ (by simp) noInt8, (Blk.at #[.int .i64 0] 32 (by simp [hB])).var⟩ ?_
  try rw [hB]
  rintro V ⟨E0, A0, A1, O2, V3⟩
  have lv := O2.lt (by omega)
  have lv3 := lt_of_cell V3.1
  go_cut [8] (fun s8 wx => ∃ (G : Nat) (p : PV), s8 = .pointer (some ⟨G, 0, none⟩) ∧ (Ext w wx ∧ At wx B a.cs ∧ At wx (B + 1) b.cs ∧ Own wx (B + 1 + 1) 8 ∧ Var wx (B + 1 + 1 + 1) (.int .i64 0)) ∧ At wx G p.cs ∧ IsMid wx p x xd y yd u ud v vd k)
  case first =>
    refine wp_region_held_drew (S := fun W => Ext w W ∧ At W B a.cs ∧ At W (B + 1) b.cs ∧ Own W (B + 1 + 1) 8 ∧ Var W (B + 1 + 1 + 1) (.int .i64 0)) (by kernel_rfl) ⟨E0.drew, A0, A1, O2, V3⟩ (fun hHeld => ?_)
    refine takeL (i := 0) (v := ?_) rfl (by kernel_rfl) (by kernel_rfl) (by kernel_rfl) (fun _ _ _ h => h) (Or.inl ⟨by rfl, ?_⟩) (by assumption) ?_; rotate_left; (focus (intro wq hSw; (try dsimp only at hSw); go_simp; try with_reducible rfl)); (try simp only [Act.put, List.setIfInBounds_toArray, List.set_cons_zero, List.set_cons_succ])
    refine takeL (i := 1) (v := ?_) rfl (by kernel_rfl) (by kernel_rfl) (by kernel_rfl) (fun _ _ _ h => h) (Or.inl ⟨by rfl, ?_⟩) (by assumption) ?_; rotate_left; (focus (intro wq hSw; (try dsimp only at hSw); go_simp; try with_reducible rfl)); (try simp only [Act.put, List.setIfInBounds_toArray, List.set_cons_zero, List.set_cons_succ])
    refine takeL (i := 2) (v := ?_) rfl (by kernel_rfl) (by kernel_rfl) (by kernel_rfl) (fun _ _ _ h => h) (Or.inl ⟨by rfl, ?_⟩) (by assumption) ?_; rotate_left; (focus (intro wq hSw; (try dsimp only at hSw); go_simp; try with_reducible rfl)); (try simp only [Act.put, List.setIfInBounds_toArray, List.set_cons_zero, List.set_cons_succ])
    refine takeL (i := 3) (v := ?_) rfl (by kernel_rfl) (by kernel_rfl) (by kernel_rfl) (fun _ _ _ h => h) (Or.inl ⟨by rfl, ?_⟩) (by assumption) ?_; rotate_left; (focus (intro wq hSw; (try dsimp only at hSw); go_simp; try with_reducible rfl)); (try simp only [Act.put, List.setIfInBounds_toArray, List.set_cons_zero, List.set_cons_succ])
    refine takeL (i := 4) (v := ?_) rfl (by kernel_rfl) (by kernel_rfl) (by kernel_rfl) (fun _ _ _ h => h) (Or.inl ⟨by rfl, ?_⟩) (by assumption) ?_; rotate_left; (focus (intro wq hSw; (try dsimp only at hSw); go_simp; try with_reducible rfl)); (try simp only [Act.put, List.setIfInBounds_toArray, List.set_cons_zero, List.set_cons_succ])
    refine takeL (i := 6) (v := ?_) rfl (by kernel_rfl) (by kernel_rfl) (by kernel_rfl) (fun _ _ _ h => h) (Or.inl ⟨by rfl, ?_⟩) (by assumption) ?_; rotate_left; (focus (intro wq hSw; (try dsimp only at hSw); go_simp; try with_reducible rfl)); (try simp only [Act.put, List.setIfInBounds_toArray, List.set_cons_zero, List.set_cons_succ])
    refine takeL (i := 7) (v := ?_) rfl (by kernel_rfl) (by kernel_rfl) (by kernel_rfl) (fun _ _ _ h => h) (Or.inl ⟨by rfl, ?_⟩) (by assumption) ?_; rotate_left; (focus (intro wq hSw; (try dsimp only at hSw); go_simp; try with_reducible rfl)); (try simp only [Act.put, List.setIfInBounds_toArray, List.set_cons_zero, List.set_cons_succ])
    refine takeL (i := 8) (v := ?_) rfl (by kernel_rfl) (by kernel_rfl) (by kernel_rfl) (fun _ _ _ h => h) (Or.inl ⟨by rfl, ?_⟩) (by assumption) ?_; rotate_left; (focus (intro wq hSw; (try dsimp only at hSw); go_simp; try with_reducible rfl)); (try simp only [Act.put, List.setIfInBounds_toArray, List.set_cons_zero, List.set_cons_succ])
    refine takeL (i := 9) (v := ?_) rfl (by kernel_rfl) (by kernel_rfl) (by kernel_rfl) (fun _ _ _ h => h) (Or.inl ⟨by rfl, ?_⟩) (by assumption) ?_; rotate_left; (focus (intro wq hSw; (try dsimp only at hSw); go_simp; try with_reducible rfl)); (try simp only [Act.put, List.setIfInBounds_toArray, List.set_cons_zero, List.set_cons_succ])
    refine takeL (i := 10) (v := ?_) rfl (by kernel_rfl) (by kernel_rfl) (by kernel_rfl) (fun _ _ _ h => h) (Or.inl ⟨by rfl, ?_⟩) (by assumption) ?_; rotate_left; (focus (intro wq hSw; (try dsimp only at hSw); go_simp; try with_reducible rfl)); (try simp only [Act.put, List.setIfInBounds_toArray, List.set_cons_zero, List.set_cons_succ])
    refine cons2L (i := 5) (j := 13) (by kernel_rfl) rfl rfl (fun K hK => ?_) (fun K hK => ?_)
    · go_simp; go_at_call 82; refine (mhalf_c a.x b.x x xd u ud k (B + 1 + 1 + 1) _ (HA.out.1.fx.keep (Ext.ik (And.left (by assumption)))) (HA.out.2.fx.keep (Ext.ik (And.left (by assumption)))) (And.right (And.right (And.right (And.right (by assumption))))) hk hk1).mono ?_; rintro e w5 ⟨f, rfl, hf, hx5⟩; have sz := Ext.size hx5; (try simp only [World.size_alloc, World.size_drew] at sz); (first | (have OG := Own.ext hx5 ((Blk.at zeroP 51 rfl).own 8 (by simp) noInt8) (by omega)) | (have OG := Own.ext hx5 OG (by omega)) | skip); (try simp only [World.size_alloc] at OG); go_wp2_with fail; refine hK.out _ _ ?_ (fun hHeld => ?_); rotate_left; clear hK K; rotate_right; (focus ((try dsimp only); exact kept2)); (try simp only [Act.put, List.setIfInBounds_toArray, List.set_cons_zero, List.set_cons_succ])
      refine cons2L (i := 11) (j := 13) (by kernel_rfl) rfl rfl (fun K hK => ?_) (fun K hK => ?_)
      · go_simp; go_at_call 82; refine (mhalf_c a.y b.y y yd v vd k (B + 1 + 1 + 1) _ (HA.out.1.fy.keep (Ext.ik (And.left (by assumption)))) (HA.out.2.fy.keep (Ext.ik (And.left (by assumption)))) (And.right (And.right (And.right (And.right (by assumption))))) hk hk1).mono ?_; rintro e w6 ⟨g, rfl, hg, hx6⟩; have sz := Ext.size hx6; (try simp only [World.size_alloc, World.size_drew] at sz); (first | (have OG := Own.ext hx6 ((Blk.at zeroP 51 rfl).own 8 (by simp) noInt8) (by omega)) | (have OG := Own.ext hx6 OG (by omega)) | skip); (try simp only [World.size_alloc] at OG); go_wp2_with fail; refine hK.out _ _ ?_ (fun hHeld => ?_); rotate_left; clear hK K; rotate_right; (focus ((try dsimp only); exact kept2)); (try simp only [Act.put, List.setIfInBounds_toArray, List.set_cons_zero, List.set_cons_succ])
        refine takeL (i := 12) (v := ?_) rfl (by kernel_rfl) (by kernel_rfl) (by kernel_rfl) (fun _ _ _ h => h) (Or.inl ⟨by rfl, ?_⟩) (by assumption) ?_; rotate_left; (focus (intro wq hSw; (try dsimp only at hSw); go_simp; try with_reducible rfl)); (try simp only [Act.put, List.setIfInBounds_toArray, List.set_cons_zero, List.set_cons_succ])
        refine consL (i := 13) (by kernel_rfl) rfl (fun K hK => ?_); go_simp; refine hK.out _ _ ?_ (fun hHeld => ?_); rotate_left; clear hK K; rotate_right; (focus ((try dsimp only); exact kept2)); (try simp only [Act.put, List.setIfInBounds_toArray, List.set_cons_zero, List.set_cons_succ])
        refine consL (i := 14) (by kernel_rfl) rfl (fun K hK => ?_); go_simp; refine hK.out _ _ ?_ (fun hHeld => ?_); rotate_left; clear hK K; rotate_right; (focus ((try dsimp only); exact kept2)); (try simp only [Act.put, List.setIfInBounds_toArray, List.set_cons_zero, List.set_cons_succ])
        refine doneL (by kernel_rfl) ?_; go_wp2_with fail; go_meet; refine ⟨_, ⟨f, g⟩, rfl, hHeld, ?_, ?_⟩; (focus (first | exact At.putP' OG ⟨f, g⟩ | exact (Blk.at _ 51 rfl).at')); (focus (first | exact IsPt.keep (p := ⟨f, g⟩) ⟨hf.keep hx6.ik, hg⟩ (IK.putP OG ⟨f, g⟩) | exact IsPt.keep (p := ⟨f, g⟩) ⟨hf.keep hx6.ik, hg⟩ ((Ext.refl _).alloc _).ik))
      · go_simp; refine hK.out _ _ ?_ (fun hHeld => ?_); rotate_left; clear hK K; rotate_right; (focus ((try dsimp only); exact kept2)); (try simp only [Act.put, List.setIfInBounds_toArray, List.set_cons_zero, List.set_cons_succ])
        refine consL (i := 11) (by kernel_rfl) rfl (fun K hK => ?_)
        go_simp; go_at_call 82; refine (mhalf_c a.y b.y y yd v vd k (B + 1 + 1 + 1) _ (HA.out.1.fy.keep (Ext.ik (And.left (by assumption)))) (HA.out.2.fy.keep (Ext.ik (And.left (by assumption)))) (And.right (And.right (And.right (And.right (by assumption))))) hk hk1).mono ?_; rintro e w6 ⟨g, rfl, hg, hx6⟩; have sz := Ext.size hx6; (try simp only [World.size_alloc, World.size_drew] at sz); (first | (have OG := Own.ext hx6 ((Blk.at zeroP 51 rfl).own 8 (by simp) noInt8) (by omega)) | (have OG := Own.ext hx6 OG (by omega)) | skip); (try simp only [World.size_alloc] at OG); go_wp2_with fail; refine hK.out _ _ ?_ (fun hHeld => ?_); rotate_left; clear hK K; rotate_right; (focus ((try dsimp only); exact kept2)); (try simp only [Act.put, List.setIfInBounds_toArray, List.set_cons_zero, List.set_cons_succ])
        refine takeL (i := 12) (v := ?_) rfl (by kernel_rfl) (by kernel_rfl) (by kernel_rfl) (fun _ _ _ h => h) (Or.inl ⟨by rfl, ?_⟩) (by assumption) ?_; rotate_left; (focus (intro wq hSw; (try dsimp only at hSw); go_simp; try with_reducible rfl)); (try simp only [Act.put, List.setIfInBounds_toArray, List.set_cons_zero, List.set_cons_succ])
        refine consL (i := 14) (by kernel_rfl) rfl (fun K hK => ?_); go_simp; refine hK.out _ _ ?_ (fun hHeld => ?_); rotate_left; clear hK K; rotate_right; (focus ((try dsimp only); exact kept2)); (try simp only [Act.put, List.setIfInBounds_toArray, List.set_cons_zero, List.set_cons_succ])
        refine doneL (by kernel_rfl) ?_; go_wp2_with fail; go_meet; refine ⟨_, ⟨f, g⟩, rfl, hHeld, ?_, ?_⟩; (focus (first | exact At.putP' OG ⟨f, g⟩ | exact (Blk.at _ 51 rfl).at')); (focus (first | exact IsPt.keep (p := ⟨f, g⟩) ⟨hf.keep ((Ext.refl _).alloc _ |>.trans hx6).ik, hg⟩ (IK.putP OG ⟨f, g⟩) | exact IsPt.keep (p := ⟨f, g⟩) ⟨hf.keep ((Ext.refl _).alloc _ |>.trans hx6).ik, hg⟩ ((Ext.refl _).alloc _).ik))
    · go_simp; refine hK.out _ _ ?_ (fun hHeld => ?_); rotate_left; clear hK K; rotate_right; (focus ((try dsimp only); exact kept2)); (try simp only [Act.put, List.setIfInBounds_toArray, List.set_cons_zero, List.set_cons_succ])
      refine consL (i := 5) (by kernel_rfl) rfl (fun K hK => ?_)
      go_simp; go_at_call 82; refine (mhalf_c a.x b.x x xd u ud k (B + 1 + 1 + 1) _ (HA.out.1.fx.keep (Ext.ik (And.left (by assumption)))) (HA.out.2.fx.keep (Ext.ik (And.left (by assumption)))) (And.right (And.right (And.right (And.right (by assumption))))) hk hk1).mono ?_; rintro e w5 ⟨f, rfl, hf, hx5⟩; have sz := Ext.size hx5; (try simp only [World.size_alloc, World.size_drew] at sz); (first | (have OG := Own.ext hx5 ((Blk.at zeroP 51 rfl).own 8 (by simp) noInt8) (by omega)) | (have OG := Own.ext hx5 OG (by omega)) | skip); (try simp only [World.size_alloc] at OG); go_wp2_with fail; refine hK.out _ _ ?_ (fun hHeld => ?_); rotate_left; clear hK K; rotate_right; (focus ((try dsimp only); exact kept2)); (try simp only [Act.put, List.setIfInBounds_toArray, List.set_cons_zero, List.set_cons_succ])
      refine consL (i := 11) (by kernel_rfl) rfl (fun K hK => ?_)
      go_simp; go_at_call 82; refine (mhalf_c a.y b.y y yd v vd k (B + 1 + 1 + 1) _ (HA.out.1.fy.keep (Ext.ik (And.left (by assumption)))) (HA.out.2.fy.keep (Ext.ik (And.left (by assumption)))) (And.right (And.right (And.right (And.right (by assumption))))) hk hk1).mono ?_; rintro e w6 ⟨g, rfl, hg, hx6⟩; have sz := Ext.size hx6; (try simp only [World.size_alloc, World.size_drew] at sz); (first | (have OG := Own.ext hx6 ((Blk.at zeroP 51 rfl).own 8 (by simp) noInt8) (by omega)) | (have OG := Own.ext hx6 OG (by omega)) | skip); (try simp only [World.size_alloc] at OG); go_wp2_with fail; refine hK.out _ _ ?_ (fun hHeld => ?_); rotate_left; clear hK K; rotate_right; (focus ((try dsimp only); exact kept2)); (try simp only [Act.put, List.setIfInBounds_toArray, List.set_cons_zero, List.set_cons_succ])
      refine takeL (i := 12) (v := ?_) rfl (by kernel_rfl) (by kernel_rfl) (by kernel_rfl) (fun _ _ _ h => h) (Or.inl ⟨by rfl, ?_⟩) (by assumption) ?_; rotate_left; (focus (intro wq hSw; (try dsimp only at hSw); go_simp; try with_reducible rfl)); (try simp only [Act.put, List.setIfInBounds_toArray, List.set_cons_zero, List.set_cons_succ])
      refine consL (i := 14) (by kernel_rfl) rfl (fun K hK => ?_); go_simp; refine hK.out _ _ ?_ (fun hHeld => ?_); rotate_left; clear hK K; rotate_right; (focus ((try dsimp only); exact kept2)); (try simp only [Act.put, List.setIfInBounds_toArray, List.set_cons_zero, List.set_cons_succ])
      refine doneL (by kernel_rfl) ?_; go_wp2_with fail; go_meet; refine ⟨_, ⟨f, g⟩, rfl, hHeld, ?_, ?_⟩; (focus (first | exact At.putP' OG ⟨f, g⟩ | exact (Blk.at _ 51 rfl).at')); (focus (first | exact IsPt.keep (p := ⟨f, g⟩) ⟨hf.keep hx6.ik, hg⟩ (IK.putP OG ⟨f, g⟩) | exact IsPt.keep (p := ⟨f, g⟩) ⟨hf.keep hx6.ik, hg⟩ ((Ext.refl _).alloc _).ik))
  case rest =>
    obtain ⟨G, p, rfl, ⟨E1, A0', A1', O2', V3'⟩, AG, hm⟩ := hcut
    have g0 := AG 0 (by simp); have g1 := AG 1 (by simp); have g2 := AG 2 (by simp); have g3 := AG 3 (by simp); have g4 := AG 4 (by simp); have g5 := AG 5 (by simp); have g6 := AG 6 (by simp); have g7 := AG 7 (by simp)
    simp only [List.getElem?_toArray, List.getElem?_cons_zero, List.getElem?_cons_succ] at g0 g1 g2 g3 g4 g5 g6 g7
    have e0 := V3'.1
    have HM := Lib.hid (And.intro E1 (And.intro O2' hm))
    have o0 := O2'.1 0 (by omega); have o1 := O2'.1 1 (by omega); have o2 := O2'.1 2 (by omega); have o3 := O2'.1 3 (by omega); have o4 := O2'.1 4 (by omega); have o5 := O2'.1 5 (by omega); have o6 := O2'.1 6 (by omega); have o7 := O2'.1 7 (by omega); have of := O2'.2.1
    obtain ⟨p0, p1, p2, p3, p4, p5, p6, p7⟩ := putP_cells O2' p
    clear E1 A0' A1' O2' V3' AG hm A0 A1 O2 V3
    go_wp2_with fail
    refine bodyPost_ret (v := .tuple #[p.v, .int .i64 0]) (by simp [results, Try.results50, go_sem, p0, p1, p2, p3, p4, p5, p6, p7]) rfl ?_
    exact ⟨p, rfl, IsPt.keep HM.out.2.2 (IK.putP HM.out.2.1 p), ext_putP HM.out.1 (by omega) p⟩
end Go.Proofs.Ytgmedfloflplgaa
