/- The walk of CrossScaled. -/
import Derived.Test.YtagiaiocgjagnaaX13
import Derived.Test.YtagiaiocgjagnaaX15
import Derived.Test.YtagiaiocgjagnaaX19
namespace Go.Proofs.Ytagiaiocgjagnaa
set_option linter.unusedSimpArgs false
set_option linter.unusedVariables false
open Go.RowKit

/-- The call's variables. -/
structure TurnW (w W : World) (G H : Nat) (s t : Sg) : Prop where
  ext : Ext w W
  bs : Blk W G s.cs 25
  bt : Blk W H t.cs 25
theorem scP_q (f : Int) (d p : Pt) : (scP f d p).q = scQ (f : Rat) (d.x : Rat) (d.y : Rat) p.q := by
  unfold scP scQ
  refine QP.ext' ?_ ?_
  · simp only; rw [Rat.intCast_add, Rat.intCast_mul]; grind
  · simp only; rw [Rat.intCast_add, Rat.intCast_mul]; grind
def scS (f : Int) (d : Pt) (s : Sg) : Sg := ⟨scP f d s.a, scP f d s.b⟩
/-- What both pairs of segments have in common. -/
theorem scS_meet {f : Int} {d : Pt} {s t : Sg} (hf : 1 ≤ f) (hs : OKs s) (ht : OKs t) (hu : OKs (scS f d s)) (hv : OKs (scS f d t)) :
    (meetF s t).1 = (meetF (scS f d s) (scS f d t)).1 ∧ ((meetF s t).1 ≠ 0 → scQ (f : Rat) (d.x : Rat) (d.y : Rat) (meetF s t).2.1 = (meetF (scS f d s) (scS f d t)).2.1) ∧ ((meetF s t).1 = 2 → scQ (f : Rat) (d.x : Rat) (d.y : Rat) (meetF s t).2.2 = (meetF (scS f d s) (scS f d t)).2.2) := by
  have h1 := meetF_meet hs ht
  have h2 := meetF_meet hu hv
  refine sc_meet (f := (f : Rat)) (u := (d.x : Rat)) (v := (d.y : Rat)) (dcast_pos hf) (a := s.a.q) (b := s.b.q) (c := t.a.q) (d := t.b.q) h1 ?_
  rw [← scP_q, ← scP_q, ← scP_q, ← scP_q]
  exact h2
abbrev Pt.cs2 (p : Pt) : Array Value := #[.int .i64 p.x, .int .i64 p.y]
set_option maxRecDepth 100000 in
set_option maxHeartbeats 40000000 in
theorem walkCScaled (n m k fa x y : Int) (w : World) (hn : Int64 n) (hm : Int64 m) (hk : Int64 k) (hfa : Int64 fa) (hx : Int64 x) (hy : Int64 y) :
    Calls Try.prog 6 #[.int .i64 n, .int .i64 m, .int .i64 k, .int .i64 fa, .int .i64 x, .int .i64 y] w fun e w' => e = .returned (.bool true) ∧ Ext w w' := by
  have HI := Lib.hid (And.intro hn (And.intro hm (And.intro hk (And.intro hfa (And.intro hx hy)))))
  clear hn hm hk hfa hx hy
  go_enter Try.func6, Try.ntmps6
  go_wp2_with fail
  refine (rPair_c n m k _ HI.out.1 HI.out.2.1 HI.out.2.2.1).mono ?_
  rintro e w1 ⟨s, t, rfl, hs, ht, hx1⟩
  have HS := Lib.hid (And.intro hs ht)
  have HO := Lib.hid (And.intro (hs.ok (by omega) (by omega)) (ht.ok (by omega) (by omega)))
  have HX1 := Lib.hid hx1
  clear hs ht hx1
  have HR := Lib.hid (meetR_ok HO.out.1 HO.out.2)
  obtain ⟨G, hG⟩ : ∃ G, w1.heap.size = G := ⟨_, rfl⟩
  go_upto_region 2 with fail
  try rw [hG]
  refine wp_gen (fun W => TurnW w W G (G + 1) s t) ⟨(HX1.out.alloc _).alloc _, (Blk.at s.cs 25 hG.symm).alloc _, Blk.at t.cs 25 (by simp [hG])⟩ ?_
  clear HX1 hG
  rintro W1 v1
  have HV := Lib.hid v1
  clear v1
  have hfb := aroundF_bd fa 4194304 (by omega)
  obtain ⟨f0, hf0⟩ : ∃ f, aroundF fa 4194304 = f := ⟨_, rfl⟩
  rw [hf0] at hfb
  have HF0 := Lib.hid hf0
  clear hf0
  have wf : IntKind.i64.wrap (1 + f0) = 1 + f0 := IntWalk.i64_in _ (by omega)
  go_wp2_with fail
  refine (around_c _ _ _ (by omega) (by omega) HI.out.2.2.2.1).mono ?_
  rintro e w2 ⟨rfl, rfl⟩
  rw [HF0.out]
  go_upto_region 3 with fail
  obtain ⟨f, hf⟩ : ∃ f, 1 + f0 = f := ⟨_, rfl⟩
  rw [hf]
  have HF := Lib.hid (show 1 ≤ f ∧ f ≤ 4194304 by omega)
  have hf96 : IntKind.i64.wrap (96 * f) = 96 * f := IntWalk.i64_in _ (by omega)
  have hfm : IntKind.i64.wrap (1073741824 - 96 * f) = 1073741824 - 96 * f := IntWalk.i64_in _ (by omega)
  have hfp : IntKind.i64.wrap (-1073741824 + 96 * f) = -1073741824 + 96 * f := IntWalk.i64_in _ (by omega)
  clear hf hfb wf HF0
  obtain ⟨b1, hb1⟩ : ∃ v, boundF x = v := ⟨_, rfl⟩
  obtain ⟨b2, hb2⟩ : ∃ v, boundF y = v := ⟨_, rfl⟩
  have bb1 := boundF_bd x
  have bb2 := boundF_bd y
  rw [hb1] at bb1; rw [hb2] at bb2
  have HBB := Lib.hid (And.intro hb1 (And.intro hb2 (And.intro bb1 bb2)))
  clear hb1 hb2 bb1 bb2
  go_wp2_with fail
  refine (bound_c x _ HI.out.2.2.2.2.1).mono ?_
  rintro e w2 ⟨rfl, rfl⟩
  rw [HBB.out.1]
  go_wp2_with fail
  refine (bound_c y _ HI.out.2.2.2.2.2).mono ?_
  rintro e w2 ⟨rfl, rfl⟩
  rw [HBB.out.2.1]
  obtain ⟨D, hD⟩ : ∃ D, W1.heap.size = D := ⟨_, rfl⟩
  go_upto_if 44 with fail
  try rw [hD]
  refine wp_gen (fun W => Ext W1 W ∧ Blk W D (Pt.cs2 ⟨b1, b2⟩) 23) ⟨(Ext.refl W1).alloc _, Blk.at _ 23 hD.symm⟩ ?_
  rintro W2 ⟨E2, B2⟩
  have hDW : W1.heap.size ≤ D := by omega
  clear hD
  have H2 := Lib.hid (And.intro E2 B2)
  have z0 := B2.cell 0; have z1 := B2.cell 1; have zf := B2.free
  simp only [List.getElem?_toArray, List.getElem?_cons_zero, List.getElem?_cons_succ] at z0 z1
  clear E2 B2
  obtain ⟨c1, hc1⟩ : ∃ c, (x.tmod 3 == 0) = c := ⟨_, rfl⟩
  obtain ⟨c2, hc2⟩ : ∃ c, (y.tmod 3 == 0) = c := ⟨_, rfl⟩
  go_cut [16] (fun s16 wx => ∃ d1 : Int, s16 = .pointer (some ⟨D, 0, none⟩) ∧ Ext W1 wx ∧ Blk wx D (Pt.cs2 ⟨d1, b2⟩) 23 ∧ (-2147483648 ≤ d1 ∧ d1 ≤ 2147483648))
  case first =>
    have hfb := HF.out
    have hbb := HBB.out.2.2.1
    cases c1
    · go_wp2_with fail
      go_meet
      exact ⟨b1, rfl, H2.out.1, H2.out.2, by omega⟩
    · go_wp2_with fail
      go_meet
      exact ⟨1073741824 - 96 * f, rfl, H2.out.1.setCell hDW _, H2.out.2.set 0 _, by omega⟩
  case rest =>
    obtain ⟨d1, rfl, E3, B3, hd1⟩ := hcut
    clear z0 z1 zf H2
    have H3 := Lib.hid (And.intro E3 B3)
    have HD1 := Lib.hid hd1
    have z0 := B3.cell 0; have z1 := B3.cell 1; have zf := B3.free
    simp only [List.getElem?_toArray, List.getElem?_cons_zero, List.getElem?_cons_succ] at z0 z1
    clear E3 B3 hd1 hc1
    go_upto_if 51 with fail
    go_cut [16] (fun s16 wx => ∃ d : Pt, s16 = .pointer (some ⟨D, 0, none⟩) ∧ Ext W1 wx ∧ Blk wx D d.cs2 23 ∧ ((-2147483648 ≤ d.x ∧ d.x ≤ 2147483648) ∧ -2147483648 ≤ d.y ∧ d.y ≤ 2147483648))
    case first =>
      have hfb := HF.out
      have hbb := HBB.out.2.2.2
      have hdd := HD1.out
      cases c2
      · go_wp2_with fail
        go_meet
        exact ⟨⟨d1, b2⟩, rfl, H3.out.1, H3.out.2, ⟨by simp only; omega, by simp only; omega⟩⟩
      · go_wp2_with fail
        go_meet
        exact ⟨⟨d1, -1073741824 + 96 * f⟩, rfl, H3.out.1.setCell hDW _, H3.out.2.set 1 _, ⟨by simp only; omega, by simp only; omega⟩⟩
    case rest =>
      obtain ⟨d, rfl, E4, B4, hd⟩ := hcut
      obtain ⟨V, hVV⟩ : ∃ V, V = wc := ⟨_, rfl⟩
      rw [← hVV] at E4 B4 ⊢
      clear hVV
      have HD := Lib.hid hd
      have HV4 := Lib.hid (show TurnW w V G (G + 1) s t from ⟨HV.out.ext.trans E4, HV.out.bs.ext E4, HV.out.bt.ext E4⟩)
      have HA := Lib.hid (fun W (e : Ext V W) => (show (W.cell? ⟨G, 0, none⟩ = some (.int .i64 s.a.x) ∧ W.cell? ⟨G, 1, none⟩ = some (.int .i64 s.a.y) ∧ W.cell? ⟨G, 2, none⟩ = some (.int .i64 s.b.x) ∧ W.cell? ⟨G, 3, none⟩ = some (.int .i64 s.b.y)) ∧ (W.cell? ⟨G + 1, 0, none⟩ = some (.int .i64 t.a.x) ∧ W.cell? ⟨G + 1, 1, none⟩ = some (.int .i64 t.a.y) ∧ W.cell? ⟨G + 1, 2, none⟩ = some (.int .i64 t.b.x) ∧ W.cell? ⟨G + 1, 3, none⟩ = some (.int .i64 t.b.y)) ∧ W.cell? ⟨D, 0, none⟩ = some (.int .i64 d.x) ∧ W.cell? ⟨D, 1, none⟩ = some (.int .i64 d.y) from ⟨(HV4.out.bs.ext e).sgB, (HV4.out.bt.ext e).sgB, (B4.ext e).cell 0, (B4.ext e).cell 1⟩))
      clear E4 B4 hd z0 z1 zf H3 HD1 hDW
      have HSB := Lib.hid (show ((-100 ≤ s.a.x ∧ s.a.x ≤ 100) ∧ -100 ≤ s.a.y ∧ s.a.y ≤ 100) ∧ ((-100 ≤ s.b.x ∧ s.b.x ≤ 100) ∧ -100 ≤ s.b.y ∧ s.b.y ≤ 100) ∧ ((-100 ≤ t.a.x ∧ t.a.x ≤ 100) ∧ -100 ≤ t.a.y ∧ t.a.y ≤ 100) ∧ ((-100 ≤ t.b.x ∧ t.b.x ≤ 100) ∧ -100 ≤ t.b.y ∧ t.b.y ≤ 100) by
        obtain ⟨⟨q1, q2, q3, q4, _⟩, r1, r2, r3, r4, _⟩ := HS.out
        omega)
      obtain ⟨u, hu⟩ : ∃ u, scS f d s = u := ⟨_, rfl⟩
      obtain ⟨v, hv⟩ : ∃ u, scS f d t = u := ⟨_, rfl⟩
      have HU := Lib.hid (show (scP f d s.a = u.a ∧ scP f d s.b = u.b) ∧ scP f d t.a = v.a ∧ scP f d t.b = v.b by rw [← hu, ← hv]; exact ⟨⟨rfl, rfl⟩, rfl, rfl⟩)
      have HUV := Lib.hid (And.intro hu hv)
      clear hu hv
      go_upto_region 8 with fail
      go_cut [17] (fun sv wx => ∃ J, sv = .pointer (some ⟨J, 0, none⟩) ∧ Ext V wx ∧ Blk wx J u.cs 25)
      case first =>
        refine wp_region_held_drew (S := fun W => Ext V W) (by kernel_rfl) ((Ext.refl V).drew) (fun hHeld => ?_)
        refine takeL (i := 0) (v := ?_) rfl (by kernel_rfl) (by kernel_rfl) (by kernel_rfl) (fun _ _ _ h => h) (Or.inl ⟨by rfl, ?_⟩) (by assumption) ?_; rotate_left; (focus (intro wq hSw; (try dsimp only at hSw); go_simp; try with_reducible rfl)); (try simp only [Act.put, List.setIfInBounds_toArray, List.set_cons_zero, List.set_cons_succ])
        refine takeL (i := 1) (v := ?_) rfl (by kernel_rfl) (by kernel_rfl) (by kernel_rfl) (fun _ _ _ h => h) (Or.inl ⟨by rfl, ?_⟩) (by assumption) ?_; rotate_left; (focus (intro wq hSw; have hcc := HA.out wq hSw; clear hSw; go_split_ands; go_simp; try with_reducible rfl)); (try simp only [Act.put, List.setIfInBounds_toArray, List.set_cons_zero, List.set_cons_succ])
        refine takeL (i := 2) (v := ?_) rfl (by kernel_rfl) (by kernel_rfl) (by kernel_rfl) (fun _ _ _ h => h) (Or.inl ⟨by rfl, ?_⟩) (by assumption) ?_; rotate_left; (focus (intro wq hSw; (try dsimp only at hSw); go_simp; try with_reducible rfl)); (try simp only [Act.put, List.setIfInBounds_toArray, List.set_cons_zero, List.set_cons_succ])
        refine takeL (i := 3) (v := ?_) rfl (by kernel_rfl) (by kernel_rfl) (by kernel_rfl) (fun _ _ _ h => h) (Or.inl ⟨by rfl, ?_⟩) (by assumption) ?_; rotate_left; (focus (intro wq hSw; have hcc := HA.out wq hSw; clear hSw; go_split_ands; go_simp; try with_reducible rfl)); (try simp only [Act.put, List.setIfInBounds_toArray, List.set_cons_zero, List.set_cons_succ])
        refine takeL (i := 5) (v := ?_) rfl (by kernel_rfl) (by kernel_rfl) (by kernel_rfl) (fun _ _ _ h => h) (Or.inl ⟨by rfl, ?_⟩) (by assumption) ?_; rotate_left; (focus (intro wq hSw; (try dsimp only at hSw); go_simp; try with_reducible rfl)); (try simp only [Act.put, List.setIfInBounds_toArray, List.set_cons_zero, List.set_cons_succ])
        refine takeL (i := 6) (v := ?_) rfl (by kernel_rfl) (by kernel_rfl) (by kernel_rfl) (fun _ _ _ h => h) (Or.inl ⟨by rfl, ?_⟩) (by assumption) ?_; rotate_left; (focus (intro wq hSw; have hcc := HA.out wq hSw; clear hSw; go_split_ands; go_simp; try with_reducible rfl)); (try simp only [Act.put, List.setIfInBounds_toArray, List.set_cons_zero, List.set_cons_succ])
        refine takeL (i := 7) (v := ?_) rfl (by kernel_rfl) (by kernel_rfl) (by kernel_rfl) (fun _ _ _ h => h) (Or.inl ⟨by rfl, ?_⟩) (by assumption) ?_; rotate_left; (focus (intro wq hSw; (try dsimp only at hSw); go_simp; try with_reducible rfl)); (try simp only [Act.put, List.setIfInBounds_toArray, List.set_cons_zero, List.set_cons_succ])
        refine takeL (i := 8) (v := ?_) rfl (by kernel_rfl) (by kernel_rfl) (by kernel_rfl) (fun _ _ _ h => h) (Or.inl ⟨by rfl, ?_⟩) (by assumption) ?_; rotate_left; (focus (intro wq hSw; have hcc := HA.out wq hSw; clear hSw; go_split_ands; go_simp; try with_reducible rfl)); (try simp only [Act.put, List.setIfInBounds_toArray, List.set_cons_zero, List.set_cons_succ])
        refine cons2L (i := 4) (j := 11) (by kernel_rfl) rfl rfl (fun K hK => ?_) (fun K hK => ?_)
        · go_simp; go_at_call 27; refine (rScaled_c s.a f d _ HSB.out.1 HF.out HD.out).mono ?_; rw [HU.out.1.1]; rintro e w5 ⟨rfl, hx5⟩
          have hE5 : Ext V w5 := (Ext.refl V).drew.trans hx5
          go_wp2_with fail
          refine hK.out _ _ ?_ ?_; rotate_left; clear hK K; intro hHeld; rotate_right; (focus exact hE5); (try simp only [Act.put, List.setIfInBounds_toArray, List.set_cons_zero, List.set_cons_succ])
          refine cons2L (i := 9) (j := 11) (by kernel_rfl) rfl rfl (fun K hK => ?_) (fun K hK => ?_)
          · go_simp; go_at_call 27; refine (rScaled_c s.b f d _ HSB.out.2.1 HF.out HD.out).mono ?_; rw [HU.out.1.2]; rintro e w6 ⟨rfl, hx6⟩
            have hE6 := hE5.trans hx6
            go_wp2_with fail
            refine hK.out _ _ ?_ ?_; rotate_left; clear hK K; intro hHeld; rotate_right; (focus exact hE6); (try simp only [Act.put, List.setIfInBounds_toArray, List.set_cons_zero, List.set_cons_succ])
            refine takeL (i := 10) (v := ?_) rfl (by kernel_rfl) (by kernel_rfl) (by kernel_rfl) (fun _ _ _ h => h) (Or.inl ⟨by rfl, ?_⟩) (by assumption) ?_; rotate_left; (focus (intro wq hSw; (try dsimp only at hSw); go_simp; try with_reducible rfl)); (try simp only [Act.put, List.setIfInBounds_toArray, List.set_cons_zero, List.set_cons_succ])
            obtain ⟨J, hJ⟩ : ∃ J, w6.heap.size = J := ⟨_, rfl⟩
            refine consL (i := 11) (by kernel_rfl) rfl (fun K hK => ?_); go_simp; refine hK.out _ _ ?_ ?_; rotate_left; clear hK K; intro hHeld; rotate_right; (focus exact hE6.alloc _); (try simp only [Act.put, List.setIfInBounds_toArray, List.set_cons_zero, List.set_cons_succ])
            refine consL (i := 12) (by kernel_rfl) rfl (fun K hK => ?_); go_simp; refine hK.out _ _ ?_ ?_; rotate_left; clear hK K; intro hHeld; rotate_right; (focus exact hE6.alloc _); (try simp only [Act.put, List.setIfInBounds_toArray, List.set_cons_zero, List.set_cons_succ])
            refine doneL (by kernel_rfl) ?_
            go_wp2_with fail
            go_meet
            exact ⟨J, by rw [← hJ], hE6.alloc _, Blk.at u.cs 25 hJ.symm⟩
          · obtain ⟨J, hJ⟩ : ∃ J, w5.heap.size = J := ⟨_, rfl⟩
            have hJb : V.heap.size ≤ J := by have := hE5.size; omega
            have B0 : Blk (w5.alloc (.cells zSg.cs 25)) J zSg.cs 25 := Blk.at _ 25 hJ.symm
            go_simp; refine hK.out _ _ ?_ ?_; rotate_left; clear hK K; intro hHeld; rotate_right; (focus exact hE5.alloc _); (try simp only [Act.put, List.setIfInBounds_toArray, List.set_cons_zero, List.set_cons_succ])
            refine consL (i := 9) (by kernel_rfl) rfl (fun K hK => ?_)
            go_simp; go_at_call 27; refine (rScaled_c s.b f d _ HSB.out.2.1 HF.out HD.out).mono ?_; rw [HU.out.1.2]; rintro e w6 ⟨rfl, hx6⟩
            have hE6 := (hE5.alloc (.cells zSg.cs 25)).trans hx6
            go_wp2_with fail
            refine hK.out _ _ ?_ ?_; rotate_left; clear hK K; intro hHeld; rotate_right; (focus exact hE6); (try simp only [Act.put, List.setIfInBounds_toArray, List.set_cons_zero, List.set_cons_succ])
            refine takeL (i := 10) (v := ?_) rfl (by kernel_rfl) (by kernel_rfl) (by kernel_rfl) (fun _ _ _ h => h) (Or.inl ⟨by rfl, ?_⟩) (by assumption) ?_; rotate_left; (focus (intro wq hSw; (try dsimp only at hSw); go_simp; try with_reducible rfl)); (try simp only [Act.put, List.setIfInBounds_toArray, List.set_cons_zero, List.set_cons_succ])
            have B6 : Blk w6 J zSg.cs 25 := B0.ext hx6
            have HB6 := Lib.hid B6
            have g0 := B6.cell 0; have g1 := B6.cell 1; have g2 := B6.cell 2; have g3 := B6.cell 3; have gf := B6.free
            simp only [List.getElem?_toArray, List.getElem?_cons_zero, List.getElem?_cons_succ] at g0 g1 g2 g3
            clear B6
            have hEP := ext_put4 hE6 hJb u
            refine consL (i := 12) (by kernel_rfl) rfl (fun K hK => ?_); go_simp; refine hK.out _ _ ?_ ?_; rotate_left; clear hK K; intro hHeld; rotate_right; (focus exact hEP); (try simp only [Act.put, List.setIfInBounds_toArray, List.set_cons_zero, List.set_cons_succ])
            refine doneL (by kernel_rfl) ?_
            go_wp2_with fail
            go_meet
            exact ⟨J, rfl, hEP, HB6.out.put4 u⟩
        · obtain ⟨J, hJ⟩ : ∃ J, V.heap.size = J := ⟨_, rfl⟩
          have hJb : V.heap.size ≤ J := by omega
          have B0 : Blk (V.drew.alloc (.cells zSg.cs 25)) J zSg.cs 25 := Blk.at _ 25 hJ.symm
          go_simp; refine hK.out _ _ ?_ ?_; rotate_left; clear hK K; intro hHeld; rotate_right; (focus exact (Ext.refl V).drew.alloc _); (try simp only [Act.put, List.setIfInBounds_toArray, List.set_cons_zero, List.set_cons_succ])
          refine consL (i := 4) (by kernel_rfl) rfl (fun K hK => ?_)
          go_simp; go_at_call 27; refine (rScaled_c s.a f d _ HSB.out.1 HF.out HD.out).mono ?_; rw [HU.out.1.1]; rintro e w5 ⟨rfl, hx5⟩
          have hE5 := ((Ext.refl V).drew.alloc (.cells zSg.cs 25)).trans hx5
          go_wp2_with fail
          refine hK.out _ _ ?_ ?_; rotate_left; clear hK K; intro hHeld; rotate_right; (focus exact hE5); (try simp only [Act.put, List.setIfInBounds_toArray, List.set_cons_zero, List.set_cons_succ])
          refine consL (i := 9) (by kernel_rfl) rfl (fun K hK => ?_)
          go_simp; go_at_call 27; refine (rScaled_c s.b f d _ HSB.out.2.1 HF.out HD.out).mono ?_; rw [HU.out.1.2]; rintro e w6 ⟨rfl, hx6⟩
          have hE6 := hE5.trans hx6
          go_wp2_with fail
          refine hK.out _ _ ?_ ?_; rotate_left; clear hK K; intro hHeld; rotate_right; (focus exact hE6); (try simp only [Act.put, List.setIfInBounds_toArray, List.set_cons_zero, List.set_cons_succ])
          refine takeL (i := 10) (v := ?_) rfl (by kernel_rfl) (by kernel_rfl) (by kernel_rfl) (fun _ _ _ h => h) (Or.inl ⟨by rfl, ?_⟩) (by assumption) ?_; rotate_left; (focus (intro wq hSw; (try dsimp only at hSw); go_simp; try with_reducible rfl)); (try simp only [Act.put, List.setIfInBounds_toArray, List.set_cons_zero, List.set_cons_succ])
          have B6 : Blk w6 J zSg.cs 25 := (B0.ext hx5).ext hx6
          have HB6 := Lib.hid B6
          have g0 := B6.cell 0; have g1 := B6.cell 1; have g2 := B6.cell 2; have g3 := B6.cell 3; have gf := B6.free
          simp only [List.getElem?_toArray, List.getElem?_cons_zero, List.getElem?_cons_succ] at g0 g1 g2 g3
          clear B6
          have hEP := ext_put4 hE6 hJb u
          refine consL (i := 12) (by kernel_rfl) rfl (fun K hK => ?_); go_simp; refine hK.out _ _ ?_ ?_; rotate_left; clear hK K; intro hHeld; rotate_right; (focus exact hEP); (try simp only [Act.put, List.setIfInBounds_toArray, List.set_cons_zero, List.set_cons_succ])
          refine doneL (by kernel_rfl) ?_
          go_wp2_with fail
          go_meet
          exact ⟨J, rfl, hEP, HB6.out.put4 u⟩
      case rest =>
        obtain ⟨J1, rfl, E5, B5⟩ := hcut
        have H5 := Lib.hid (And.intro E5 B5)
        have HA5 := Lib.hid (fun W (e : Ext wc W) => HA.out W (H5.out.1.trans e))
        clear E5 B5
        go_upto_region 9 with fail
        go_cut [18] (fun sv wy => ∃ J, sv = .pointer (some ⟨J, 0, none⟩) ∧ Ext wc wy ∧ Blk wy J v.cs 25)
        case first =>
          refine wp_region_held_drew (S := fun W => Ext wc W) (by kernel_rfl) ((Ext.refl wc).drew) (fun hHeld => ?_)
          refine takeL (i := 0) (v := ?_) rfl (by kernel_rfl) (by kernel_rfl) (by kernel_rfl) (fun _ _ _ h => h) (Or.inl ⟨by rfl, ?_⟩) (by assumption) ?_; rotate_left; (focus (intro wq hSw; (try dsimp only at hSw); go_simp; try with_reducible rfl)); (try simp only [Act.put, List.setIfInBounds_toArray, List.set_cons_zero, List.set_cons_succ])
          refine takeL (i := 1) (v := ?_) rfl (by kernel_rfl) (by kernel_rfl) (by kernel_rfl) (fun _ _ _ h => h) (Or.inl ⟨by rfl, ?_⟩) (by assumption) ?_; rotate_left; (focus (intro wq hSw; have hcc := HA5.out wq hSw; clear hSw; go_split_ands; go_simp; try with_reducible rfl)); (try simp only [Act.put, List.setIfInBounds_toArray, List.set_cons_zero, List.set_cons_succ])
          refine takeL (i := 2) (v := ?_) rfl (by kernel_rfl) (by kernel_rfl) (by kernel_rfl) (fun _ _ _ h => h) (Or.inl ⟨by rfl, ?_⟩) (by assumption) ?_; rotate_left; (focus (intro wq hSw; (try dsimp only at hSw); go_simp; try with_reducible rfl)); (try simp only [Act.put, List.setIfInBounds_toArray, List.set_cons_zero, List.set_cons_succ])
          refine takeL (i := 3) (v := ?_) rfl (by kernel_rfl) (by kernel_rfl) (by kernel_rfl) (fun _ _ _ h => h) (Or.inl ⟨by rfl, ?_⟩) (by assumption) ?_; rotate_left; (focus (intro wq hSw; have hcc := HA5.out wq hSw; clear hSw; go_split_ands; go_simp; try with_reducible rfl)); (try simp only [Act.put, List.setIfInBounds_toArray, List.set_cons_zero, List.set_cons_succ])
          refine takeL (i := 5) (v := ?_) rfl (by kernel_rfl) (by kernel_rfl) (by kernel_rfl) (fun _ _ _ h => h) (Or.inl ⟨by rfl, ?_⟩) (by assumption) ?_; rotate_left; (focus (intro wq hSw; (try dsimp only at hSw); go_simp; try with_reducible rfl)); (try simp only [Act.put, List.setIfInBounds_toArray, List.set_cons_zero, List.set_cons_succ])
          refine takeL (i := 6) (v := ?_) rfl (by kernel_rfl) (by kernel_rfl) (by kernel_rfl) (fun _ _ _ h => h) (Or.inl ⟨by rfl, ?_⟩) (by assumption) ?_; rotate_left; (focus (intro wq hSw; have hcc := HA5.out wq hSw; clear hSw; go_split_ands; go_simp; try with_reducible rfl)); (try simp only [Act.put, List.setIfInBounds_toArray, List.set_cons_zero, List.set_cons_succ])
          refine takeL (i := 7) (v := ?_) rfl (by kernel_rfl) (by kernel_rfl) (by kernel_rfl) (fun _ _ _ h => h) (Or.inl ⟨by rfl, ?_⟩) (by assumption) ?_; rotate_left; (focus (intro wq hSw; (try dsimp only at hSw); go_simp; try with_reducible rfl)); (try simp only [Act.put, List.setIfInBounds_toArray, List.set_cons_zero, List.set_cons_succ])
          refine takeL (i := 8) (v := ?_) rfl (by kernel_rfl) (by kernel_rfl) (by kernel_rfl) (fun _ _ _ h => h) (Or.inl ⟨by rfl, ?_⟩) (by assumption) ?_; rotate_left; (focus (intro wq hSw; have hcc := HA5.out wq hSw; clear hSw; go_split_ands; go_simp; try with_reducible rfl)); (try simp only [Act.put, List.setIfInBounds_toArray, List.set_cons_zero, List.set_cons_succ])
          refine cons2L (i := 4) (j := 11) (by kernel_rfl) rfl rfl (fun K hK => ?_) (fun K hK => ?_)
          · go_simp; go_at_call 27; refine (rScaled_c t.a f d _ HSB.out.2.2.1 HF.out HD.out).mono ?_; rw [HU.out.2.1]; rintro e w5 ⟨rfl, hx5⟩
            have hE5 : Ext wc w5 := (Ext.refl wc).drew.trans hx5
            go_wp2_with fail
            refine hK.out _ _ ?_ ?_; rotate_left; clear hK K; intro hHeld; rotate_right; (focus exact hE5); (try simp only [Act.put, List.setIfInBounds_toArray, List.set_cons_zero, List.set_cons_succ])
            refine cons2L (i := 9) (j := 11) (by kernel_rfl) rfl rfl (fun K hK => ?_) (fun K hK => ?_)
            · go_simp; go_at_call 27; refine (rScaled_c t.b f d _ HSB.out.2.2.2 HF.out HD.out).mono ?_; rw [HU.out.2.2]; rintro e w6 ⟨rfl, hx6⟩
              have hE6 := hE5.trans hx6
              go_wp2_with fail
              refine hK.out _ _ ?_ ?_; rotate_left; clear hK K; intro hHeld; rotate_right; (focus exact hE6); (try simp only [Act.put, List.setIfInBounds_toArray, List.set_cons_zero, List.set_cons_succ])
              refine takeL (i := 10) (v := ?_) rfl (by kernel_rfl) (by kernel_rfl) (by kernel_rfl) (fun _ _ _ h => h) (Or.inl ⟨by rfl, ?_⟩) (by assumption) ?_; rotate_left; (focus (intro wq hSw; (try dsimp only at hSw); go_simp; try with_reducible rfl)); (try simp only [Act.put, List.setIfInBounds_toArray, List.set_cons_zero, List.set_cons_succ])
              obtain ⟨J, hJ⟩ : ∃ J, w6.heap.size = J := ⟨_, rfl⟩
              refine consL (i := 11) (by kernel_rfl) rfl (fun K hK => ?_); go_simp; refine hK.out _ _ ?_ ?_; rotate_left; clear hK K; intro hHeld; rotate_right; (focus exact hE6.alloc _); (try simp only [Act.put, List.setIfInBounds_toArray, List.set_cons_zero, List.set_cons_succ])
              refine consL (i := 12) (by kernel_rfl) rfl (fun K hK => ?_); go_simp; refine hK.out _ _ ?_ ?_; rotate_left; clear hK K; intro hHeld; rotate_right; (focus exact hE6.alloc _); (try simp only [Act.put, List.setIfInBounds_toArray, List.set_cons_zero, List.set_cons_succ])
              refine doneL (by kernel_rfl) ?_
              go_wp2_with fail
              go_meet
              exact ⟨J, by rw [← hJ], hE6.alloc _, Blk.at v.cs 25 hJ.symm⟩
            · obtain ⟨J, hJ⟩ : ∃ J, w5.heap.size = J := ⟨_, rfl⟩
              have hJb : wc.heap.size ≤ J := by have := hE5.size; omega
              have B0 : Blk (w5.alloc (.cells zSg.cs 25)) J zSg.cs 25 := Blk.at _ 25 hJ.symm
              go_simp; refine hK.out _ _ ?_ ?_; rotate_left; clear hK K; intro hHeld; rotate_right; (focus exact hE5.alloc _); (try simp only [Act.put, List.setIfInBounds_toArray, List.set_cons_zero, List.set_cons_succ])
              refine consL (i := 9) (by kernel_rfl) rfl (fun K hK => ?_)
              go_simp; go_at_call 27; refine (rScaled_c t.b f d _ HSB.out.2.2.2 HF.out HD.out).mono ?_; rw [HU.out.2.2]; rintro e w6 ⟨rfl, hx6⟩
              have hE6 := (hE5.alloc (.cells zSg.cs 25)).trans hx6
              go_wp2_with fail
              refine hK.out _ _ ?_ ?_; rotate_left; clear hK K; intro hHeld; rotate_right; (focus exact hE6); (try simp only [Act.put, List.setIfInBounds_toArray, List.set_cons_zero, List.set_cons_succ])
              refine takeL (i := 10) (v := ?_) rfl (by kernel_rfl) (by kernel_rfl) (by kernel_rfl) (fun _ _ _ h => h) (Or.inl ⟨by rfl, ?_⟩) (by assumption) ?_; rotate_left; (focus (intro wq hSw; (try dsimp only at hSw); go_simp; try with_reducible rfl)); (try simp only [Act.put, List.setIfInBounds_toArray, List.set_cons_zero, List.set_cons_succ])
              have B6 : Blk w6 J zSg.cs 25 := B0.ext hx6
              have HB6 := Lib.hid B6
              have g0 := B6.cell 0; have g1 := B6.cell 1; have g2 := B6.cell 2; have g3 := B6.cell 3; have gf := B6.free
              simp only [List.getElem?_toArray, List.getElem?_cons_zero, List.getElem?_cons_succ] at g0 g1 g2 g3
              clear B6
              have hEP := ext_put4 hE6 hJb v
              refine consL (i := 12) (by kernel_rfl) rfl (fun K hK => ?_); go_simp; refine hK.out _ _ ?_ ?_; rotate_left; clear hK K; intro hHeld; rotate_right; (focus exact hEP); (try simp only [Act.put, List.setIfInBounds_toArray, List.set_cons_zero, List.set_cons_succ])
              refine doneL (by kernel_rfl) ?_
              go_wp2_with fail
              go_meet
              exact ⟨J, rfl, hEP, HB6.out.put4 v⟩
          · obtain ⟨J, hJ⟩ : ∃ J, wc.heap.size = J := ⟨_, rfl⟩
            have hJb : wc.heap.size ≤ J := by omega
            have B0 : Blk (wc.drew.alloc (.cells zSg.cs 25)) J zSg.cs 25 := Blk.at _ 25 hJ.symm
            go_simp; refine hK.out _ _ ?_ ?_; rotate_left; clear hK K; intro hHeld; rotate_right; (focus exact (Ext.refl wc).drew.alloc _); (try simp only [Act.put, List.setIfInBounds_toArray, List.set_cons_zero, List.set_cons_succ])
            refine consL (i := 4) (by kernel_rfl) rfl (fun K hK => ?_)
            go_simp; go_at_call 27; refine (rScaled_c t.a f d _ HSB.out.2.2.1 HF.out HD.out).mono ?_; rw [HU.out.2.1]; rintro e w5 ⟨rfl, hx5⟩
            have hE5 := ((Ext.refl wc).drew.alloc (.cells zSg.cs 25)).trans hx5
            go_wp2_with fail
            refine hK.out _ _ ?_ ?_; rotate_left; clear hK K; intro hHeld; rotate_right; (focus exact hE5); (try simp only [Act.put, List.setIfInBounds_toArray, List.set_cons_zero, List.set_cons_succ])
            refine consL (i := 9) (by kernel_rfl) rfl (fun K hK => ?_)
            go_simp; go_at_call 27; refine (rScaled_c t.b f d _ HSB.out.2.2.2 HF.out HD.out).mono ?_; rw [HU.out.2.2]; rintro e w6 ⟨rfl, hx6⟩
            have hE6 := hE5.trans hx6
            go_wp2_with fail
            refine hK.out _ _ ?_ ?_; rotate_left; clear hK K; intro hHeld; rotate_right; (focus exact hE6); (try simp only [Act.put, List.setIfInBounds_toArray, List.set_cons_zero, List.set_cons_succ])
            refine takeL (i := 10) (v := ?_) rfl (by kernel_rfl) (by kernel_rfl) (by kernel_rfl) (fun _ _ _ h => h) (Or.inl ⟨by rfl, ?_⟩) (by assumption) ?_; rotate_left; (focus (intro wq hSw; (try dsimp only at hSw); go_simp; try with_reducible rfl)); (try simp only [Act.put, List.setIfInBounds_toArray, List.set_cons_zero, List.set_cons_succ])
            have B6 : Blk w6 J zSg.cs 25 := (B0.ext hx5).ext hx6
            have HB6 := Lib.hid B6
            have g0 := B6.cell 0; have g1 := B6.cell 1; have g2 := B6.cell 2; have g3 := B6.cell 3; have gf := B6.free
            simp only [List.getElem?_toArray, List.getElem?_cons_zero, List.getElem?_cons_succ] at g0 g1 g2 g3
            clear B6
            have hEP := ext_put4 hE6 hJb v
            refine consL (i := 12) (by kernel_rfl) rfl (fun K hK => ?_); go_simp; refine hK.out _ _ ?_ ?_; rotate_left; clear hK K; intro hHeld; rotate_right; (focus exact hEP); (try simp only [Act.put, List.setIfInBounds_toArray, List.set_cons_zero, List.set_cons_succ])
            refine doneL (by kernel_rfl) ?_
            go_wp2_with fail
            go_meet
            exact ⟨J, rfl, hEP, HB6.out.put4 v⟩
        case rest =>
          obtain ⟨J2, rfl, E6, B6⟩ := hcut
          obtain ⟨wd, hwd⟩ : ∃ V, V = wc := ⟨_, rfl⟩
          rw [← hwd] at E6 B6 ⊢
          clear hwd
          have H6 := Lib.hid (And.intro (H5.out.1.trans E6) (And.intro (H5.out.2.ext E6) B6))
          obtain ⟨x0, x1, x2, x3⟩ := H6.out.2.1.sgB
          clear E6 B6 HA5
          obtain ⟨ue, hue⟩ : ∃ e, segE u = e := ⟨_, rfl⟩
          obtain ⟨ve, hve⟩ : ∃ e, segE v = e := ⟨_, rfl⟩
          have HUE := Lib.hid (And.intro hue hve)
          clear hue hve
          go_wp2_with fail
          refine (rValid_c u _).mono ?_
          rw [HUE.out.1]
          rintro e w7 ⟨rfl, hx7⟩
          have HX7 := Lib.hid (H6.out.1.trans hx7)
          clear x0 x1 x2 x3
          obtain ⟨x0, x1, x2, x3⟩ := (H6.out.2.2.ext hx7).sgB
          have HB7 := Lib.hid (And.intro (H6.out.2.1.ext hx7) (H6.out.2.2.ext hx7))
          clear hx7
          by_cases hu0 : ue = 0
          · subst hu0
            go_wp2_with fail
            refine (rValid_c v _).mono ?_
            rw [HUE.out.2]
            rintro e w8 ⟨rfl, hx8⟩
            have HX8 := Lib.hid (HX7.out.trans hx8)
            have HB8 := Lib.hid (And.intro (HB7.out.1.ext hx8) (HB7.out.2.ext hx8))
            clear x0 x1 x2 x3 hx8
            by_cases hv0 : ve = 0
            · subst hv0
              have HOU := Lib.hid (And.intro (segE_ok.1 HUE.out.1) (segE_ok.1 HUE.out.2))
              have HR2 := Lib.hid (meetR_ok HOU.out.1 HOU.out.2)
              have hmm := scS_meet (f := f) (d := d) HF.out.1 HO.out.1 HO.out.2 (by rw [HUV.out.1]; exact HOU.out.1) (by rw [HUV.out.2]; exact HOU.out.2)
              rw [HUV.out.1, HUV.out.2] at hmm
              have HMM := Lib.hid hmm
              have HSM := Lib.hid (meetF_sm HO.out.1 HO.out.2)
              have HKD := Lib.hid (meetF_meet HO.out.1 HO.out.2).kind
              obtain ⟨M, hM⟩ : ∃ M, meetF s t = M := ⟨_, rfl⟩
              obtain ⟨M2, hM2⟩ : ∃ M, meetF u v = M := ⟨_, rfl⟩
              rw [hM] at HR HMM HSM HKD
              rw [hM2] at HR2 HMM
              clear hM hM2 hmm
              obtain ⟨⟨x0, x1, x2, x3⟩, ⟨y0, y1, y2, y3⟩, _⟩ := HA.out w8 HX8.out
              go_wp2_with fail
              refine (cMeet_c s t _).mono ?_
              rw [HR.out]
              rintro e w10 ⟨c, rfl, hc, hx10⟩
              obtain ⟨Ka, hKa⟩ : ∃ K, w10.heap.size = K := ⟨_, rfl⟩
              have B1 := boxC_new hx10 hc
              rw [hKa] at B1
              have HB := Lib.hid (show Blk (w10.alloc (.cells zCV.cs 47)) Ka zCV.cs 47 from Blk.at zCV.cs 47 hKa.symm)
              clear x0 x1 x2 x3 y0 y1 y2 y3 hc hx10
              go_upto_region 13 with (refine wpList_store_row rfl 47 _ _ rfl Ka _ rfl rfl 47 _ HB.out (by kernel_rfl) rfl (all_one _ rfl) ?_)
              try rw [hKa]
              refine wp_gen (fun W => BoxC w8 W Ka c M) B1 ?_
              clear B1 HB hKa
              rintro W11 b11
              have HC := Lib.hid b11
              obtain ⟨x0, x1, x2, x3⟩ := (HB8.out.1.ext b11.ext).sgB
              obtain ⟨y0, y1, y2, y3⟩ := (HB8.out.2.ext b11.ext).sgB
              clear b11
              go_wp2_with fail
              refine (cMeet_c u v _).mono ?_
              rw [HR2.out]
              rintro e w12 ⟨c', rfl, hc, hx12⟩
              obtain ⟨Kb, hKb⟩ : ∃ K, w12.heap.size = K := ⟨_, rfl⟩
              have B1 := boxC_new hx12 hc
              rw [hKb] at B1
              have HB := Lib.hid (show Blk (w12.alloc (.cells zCV.cs 47)) Kb zCV.cs 47 from Blk.at zCV.cs 47 hKb.symm)
              clear x0 x1 x2 x3 y0 y1 y2 y3 hc hx12
              go_upto_region 14 with (refine wpList_store_row rfl 47 _ _ rfl Kb _ rfl rfl 47 _ HB.out (by kernel_rfl) rfl (all_one _ rfl) ?_)
              try rw [hKb]
              refine wp_gen (fun W => BoxC W11 W Kb c' M2) B1 ?_
              clear B1 HB hKb
              rintro W13 b13
              have HC2 := Lib.hid b13
              have HC1 := Lib.hid (HC.out.trans b13.ext)
              have HV13 := Lib.hid (HX8.out.trans (HC.out.ext.trans b13.ext))
              obtain ⟨a0, ⟨a1, a2, a3, a4, a5, a6, a7, a8⟩, _⟩ := HC1.out.box.cutB
              have d0 := b13.box.cutB.1
              obtain ⟨_, _, z0, z1⟩ := HA.out W13 HV13.out
              have kk : (c.k != c'.k) = false := by rw [HC1.out.is.k, b13.is.k, HMM.out.1]; simp
              clear b13
              go_wp2_with fail
              refine (scaled_c c.A M.2.1 f d _ HC1.out.is.A HSM.out.1 HF.out HD.out).mono ?_
              rintro e w14 ⟨r1, rfl, hr1, hx14⟩
              obtain ⟨R1, hR1⟩ : ∃ K, w14.heap.size = K := ⟨_, rfl⟩
              have E14 := hx14.alloc (.cells r1.cs 43)
              have P14 := Lib.hid (And.intro E14 (And.intro (Blk.at r1.cs 43 hR1.symm) (hr1.keep ((Ext.refl w14).alloc (.cells r1.cs 43)).ik)))
              clear a0 a1 a2 a3 a4 a5 a6 a7 a8 d0 z0 z1 kk hr1 hx14 E14
              go_upto_region 17 with fail
              try rw [hR1]
              refine wp_gen (fun W => Ext W13 W ∧ Blk W R1 r1.cs 43 ∧ IsPQ W r1 (scQ (f : Rat) (d.x : Rat) (d.y : Rat) M.2.1)) P14.out ?_
              clear P14 hR1
              rintro W15 v15
              have H15 := Lib.hid v15
              obtain ⟨_, _, a1, a2, a3, a4, a5, a6, a7, a8⟩ := (HC1.out.trans v15.1).box.cutB
              obtain ⟨_, _, z0, z1⟩ := HA.out W15 (HV13.out.trans v15.1)
              clear v15
              go_wp2_with fail
              refine (scaled_c c.T M.2.2 f d _ (HC1.out.trans H15.out.1).is.T HSM.out.2 HF.out HD.out).mono ?_
              rintro e w16 ⟨r2, rfl, hr2, hx16⟩
              obtain ⟨R2, hR2⟩ : ∃ K, w16.heap.size = K := ⟨_, rfl⟩
              have E16 := hx16.alloc (.cells r2.cs 43)
              have P16 := Lib.hid (And.intro (H15.out.1.trans E16) (And.intro (And.intro (H15.out.2.1.ext E16) (H15.out.2.2.keep E16.ik)) (And.intro (Blk.at r2.cs 43 hR2.symm) (hr2.keep ((Ext.refl w16).alloc (.cells r2.cs 43)).ik))))
              clear a1 a2 a3 a4 a5 a6 a7 a8 z0 z1 hr2 hx16 E16
              go_upto_region 18 with fail
              try rw [hR2]
              refine wp_gen (fun W => Ext W13 W ∧ (Blk W R1 r1.cs 43 ∧ IsPQ W r1 (scQ (f : Rat) (d.x : Rat) (d.y : Rat) M.2.1)) ∧ Blk W R2 r2.cs 43 ∧ IsPQ W r2 (scQ (f : Rat) (d.x : Rat) (d.y : Rat) M.2.2)) P16.out ?_
              clear P16 hR2 H15
              rintro W17 v17
              have H17 := Lib.hid v17
              have HE17 := Lib.hid (HV4.out.ext.trans (HV13.out.trans v17.1))
              have HQ1 := Lib.hid (HC1.out.trans v17.1)
              have HQ2 := Lib.hid (HC2.out.trans v17.1)
              obtain ⟨a0, _⟩ := HQ1.out.box.cutB
              have hck := HQ1.out.is.k
              have hkd := HKD.out
              rcases (show M.1 = 0 ∨ M.1 = 1 ∨ M.1 = 2 by omega) with hk0 | hk0 | hk0
              · rw [hck, hk0] at a0
                clear v17 hck hkd
                go_wp2_with fail
                refine (llives_c _).mono ?_
                rintro e w9 ⟨rfl, hx9⟩
                go_wp2_with fail
                go_ret
                exact ⟨rfl, HE17.out.trans hx9⟩
              · rw [hck, hk0] at a0
                have e1 := HMM.out.2.1 (by rw [hk0]; decide)
                obtain ⟨p0, p1, p2, p3, p4, p5, p6, p7⟩ := v17.2.1.1.at'.ptB
                obtain ⟨_, ⟨b1', b2', b3', b4', b5', b6', b7', b8'⟩, _⟩ := HQ2.out.box.cutB
                have HE1 := Lib.hid e1
                clear v17 hck hkd e1
                go_wp2_with fail
                refine (pCompare_c r1 c'.A _ _ _ H17.out.2.1.2 HQ2.out.is.A).mono ?_
                rw [HE1.out, cmpP_self]
                rintro e w18 ⟨rfl, hx18⟩
                have HE18 := Lib.hid (HE17.out.trans hx18)
                have a0' := hx18.cell a0
                clear hx18 a0 p0 p1 p2 p3 p4 p5 p6 p7 b1' b2' b3' b4' b5' b6' b7' b8'
                go_wp2_with fail
                refine (llives_c _).mono ?_
                rintro e w9 ⟨rfl, hx9⟩
                go_wp2_with fail
                go_ret
                exact ⟨rfl, HE18.out.trans hx9⟩
              · rw [hck, hk0] at a0
                have e1 := HMM.out.2.1 (by rw [hk0]; decide)
                have e2 := HMM.out.2.2 hk0
                obtain ⟨p0, p1, p2, p3, p4, p5, p6, p7⟩ := v17.2.1.1.at'.ptB
                obtain ⟨_, ⟨b1', b2', b3', b4', b5', b6', b7', b8'⟩, _⟩ := HQ2.out.box.cutB
                have HE1 := Lib.hid (And.intro e1 e2)
                clear v17 hck hkd e1 e2
                go_wp2_with fail
                refine (pCompare_c r1 c'.A _ _ _ H17.out.2.1.2 HQ2.out.is.A).mono ?_
                rw [HE1.out.1, cmpP_self]
                rintro e w18 ⟨rfl, hx18⟩
                have HX18 := Lib.hid hx18
                have a0' := hx18.cell a0
                clear a0 p0 p1 p2 p3 p4 p5 p6 p7 b1' b2' b3' b4' b5' b6' b7' b8'
                obtain ⟨p0, p1, p2, p3, p4, p5, p6, p7⟩ := (H17.out.2.2.1.ext hx18).at'.ptB
                obtain ⟨_, _, b1', b2', b3', b4', b5', b6', b7', b8'⟩ := (HQ2.out.box.ext hx18).cutB
                clear hx18
                go_wp2_with fail
                refine (pCompare_c r2 c'.T _ _ _ (H17.out.2.2.2.keep HX18.out.ik) (HQ2.out.is.T.keep HX18.out.ik)).mono ?_
                rw [HE1.out.2, cmpP_self]
                rintro e w19 ⟨rfl, hx19⟩
                have HE18 := Lib.hid (HE17.out.trans (HX18.out.trans hx19))
                clear hx19 a0' p0 p1 p2 p3 p4 p5 p6 p7 b1' b2' b3' b4' b5' b6' b7' b8'
                go_wp2_with fail
                refine (llives_c _).mono ?_
                rintro e w9 ⟨rfl, hx9⟩
                go_wp2_with fail
                go_ret
                exact ⟨rfl, HE18.out.trans hx9⟩
            · have hv' : (ve != 0) = true := by rw [bne_iff_ne]; exact hv0
              clear hv0
              go_wp2_with fail
              refine (llives_c _).mono ?_
              rintro e w9 ⟨rfl, hx9⟩
              go_wp2_with fail
              go_ret
              exact ⟨rfl, (HV4.out.ext.trans HX8.out).trans hx9⟩
          · have hu' : (ue != 0) = true := by rw [bne_iff_ne]; exact hu0
            clear hu0 x0 x1 x2 x3
            go_wp2_with fail
            refine (llives_c _).mono ?_
            rintro e w9 ⟨rfl, hx9⟩
            go_wp2_with fail
            go_ret
            exact ⟨rfl, (HV4.out.ext.trans HX7.out).trans hx9⟩
end Go.Proofs.Ytagiaiocgjagnaa
