/- The walk of CrossTurned. -/
import Derived.Test.YtagiaiocgjagnaaX13
import Derived.Test.YtagiaiocgjagnaaX15
namespace Go.Proofs.Ytagiaiocgjagnaa
set_option linter.unusedSimpArgs false
set_option linter.unusedVariables false
open Go.RowKit

/-- Six pairs of segments. -/
def turnP (s t : Sg) (i : Nat) : Sg × Sg := match i with
  | 0 => (t, s) | 1 => (⟨s.b, s.a⟩, t) | 2 => (s, ⟨t.b, t.a⟩) | 3 => (⟨s.b, s.a⟩, ⟨t.b, t.a⟩) | 4 => (⟨t.b, t.a⟩, s) | _ => (⟨t.b, t.a⟩, ⟨s.b, s.a⟩)
theorem OKs.swap {s : Sg} (h : OKs s) : OKs ⟨s.b, s.a⟩ := ⟨h.gb, h.ga, fun e => h.ne e.symm⟩
theorem turnP_ok {s t : Sg} (hs : OKs s) (ht : OKs t) (i : Nat) : OKs (turnP s t i).1 ∧ OKs (turnP s t i).2 := by
  unfold turnP
  split
  · exact ⟨ht, hs⟩
  · exact ⟨hs.swap, ht⟩
  · exact ⟨hs, ht.swap⟩
  · exact ⟨hs.swap, ht.swap⟩
  · exact ⟨ht.swap, hs⟩
  · exact ⟨ht.swap, hs.swap⟩
theorem turnP_on {s t : Sg} (i : Nat) (p : QP) : (OnQ (turnP s t i).1.q p ∧ OnQ (turnP s t i).2.q p) ↔ (OnQ s.q p ∧ OnQ t.q p) := by
  have e1 : OnQ (Sg.q ⟨s.b, s.a⟩) p ↔ OnQ s.q p := on_swap
  have e2 : OnQ (Sg.q ⟨t.b, t.a⟩) p ↔ OnQ t.q p := on_swap
  unfold turnP
  split <;> simp only [e1, e2] <;> first | exact Iff.rfl | exact And.comm
theorem turn_meet {s t : Sg} (hs : OKs s) (ht : OKs t) (i : Nat) : meetF (turnP s t i).1 (turnP s t i).2 = meetF s t := by
  obtain ⟨h1, h2⟩ := turnP_ok hs ht i
  obtain ⟨e1, e2, e3⟩ := (meetF_meet h1 h2).uniq (meetF_meet hs ht) fun p => turnP_on i p
  exact Prod.ext e1 (Prod.ext e2 e3)
/-- The cells of six pairs. -/
abbrev sixC (s t : Sg) : Array Value := #[.int .i64 t.a.x, .int .i64 t.a.y, .int .i64 t.b.x, .int .i64 t.b.y, .int .i64 s.a.x, .int .i64 s.a.y, .int .i64 s.b.x, .int .i64 s.b.y,
    .int .i64 s.b.x, .int .i64 s.b.y, .int .i64 s.a.x, .int .i64 s.a.y, .int .i64 t.a.x, .int .i64 t.a.y, .int .i64 t.b.x, .int .i64 t.b.y,
    .int .i64 s.a.x, .int .i64 s.a.y, .int .i64 s.b.x, .int .i64 s.b.y, .int .i64 t.b.x, .int .i64 t.b.y, .int .i64 t.a.x, .int .i64 t.a.y,
    .int .i64 s.b.x, .int .i64 s.b.y, .int .i64 s.a.x, .int .i64 s.a.y, .int .i64 t.b.x, .int .i64 t.b.y, .int .i64 t.a.x, .int .i64 t.a.y,
    .int .i64 t.b.x, .int .i64 t.b.y, .int .i64 t.a.x, .int .i64 t.a.y, .int .i64 s.a.x, .int .i64 s.a.y, .int .i64 s.b.x, .int .i64 s.b.y,
    .int .i64 t.b.x, .int .i64 t.b.y, .int .i64 t.a.x, .int .i64 t.a.y, .int .i64 s.b.x, .int .i64 s.b.y, .int .i64 s.a.x, .int .i64 s.a.y]
theorem six_at {w : World} {b : Nat} {s t : Sg} {T : TypeId} (h : Blk w b (sixC s t) T) (i : Nat) (hi : i < 6) :
    (w.cell? ⟨b, i * 8, none⟩ = some (.int .i64 (turnP s t i).1.a.x) ∧ w.cell? ⟨b, i * 8 + 1, none⟩ = some (.int .i64 (turnP s t i).1.a.y) ∧ w.cell? ⟨b, i * 8 + 2, none⟩ = some (.int .i64 (turnP s t i).1.b.x) ∧ w.cell? ⟨b, i * 8 + 3, none⟩ = some (.int .i64 (turnP s t i).1.b.y)) ∧
    (w.cell? ⟨b, i * 8 + 4, none⟩ = some (.int .i64 (turnP s t i).2.a.x) ∧ w.cell? ⟨b, i * 8 + 5, none⟩ = some (.int .i64 (turnP s t i).2.a.y) ∧ w.cell? ⟨b, i * 8 + 6, none⟩ = some (.int .i64 (turnP s t i).2.b.x) ∧ w.cell? ⟨b, i * 8 + 7, none⟩ = some (.int .i64 (turnP s t i).2.b.y)) := by
  match i, hi with
  | 0, _ => exact ⟨⟨h.cell 0, h.cell 1, h.cell 2, h.cell 3⟩, h.cell 4, h.cell 5, h.cell 6, h.cell 7⟩
  | 1, _ => exact ⟨⟨h.cell 8, h.cell 9, h.cell 10, h.cell 11⟩, h.cell 12, h.cell 13, h.cell 14, h.cell 15⟩
  | 2, _ => exact ⟨⟨h.cell 16, h.cell 17, h.cell 18, h.cell 19⟩, h.cell 20, h.cell 21, h.cell 22, h.cell 23⟩
  | 3, _ => exact ⟨⟨h.cell 24, h.cell 25, h.cell 26, h.cell 27⟩, h.cell 28, h.cell 29, h.cell 30, h.cell 31⟩
  | 4, _ => exact ⟨⟨h.cell 32, h.cell 33, h.cell 34, h.cell 35⟩, h.cell 36, h.cell 37, h.cell 38, h.cell 39⟩
  | 5, _ => exact ⟨⟨h.cell 40, h.cell 41, h.cell 42, h.cell 43⟩, h.cell 44, h.cell 45, h.cell 46, h.cell 47⟩
theorem boxC_put {V w : World} {G : Nat} {c : CV} {m : Int × QP × QP} (hE : Ext V w) (h : Blk w G zCV.cs 47) (hG : V.heap.size ≤ G) (hc : IsC w c m) : BoxC V (w.setRow G c.cs) G c m := by
  have h := row_cut hE h hG c
  exact ⟨h.2.2, h.1, hc.keep h.2.1⟩
/-- The call's variables. -/
structure TurnV (w W : World) (G H : Nat) (s t : Sg) : Prop where
  ext : Ext w W
  bs : Blk W G s.cs 25
  bt : Blk W H t.cs 25
set_option maxRecDepth 100000 in
set_option maxHeartbeats 16000000 in
theorem walkTurned (n m k : Int) (w : World) (hn : Int64 n) (hm : Int64 m) (hk : Int64 k) :
    Calls Try.prog 5 #[.int .i64 n, .int .i64 m, .int .i64 k] w fun e w' => e = .returned (.bool true) ∧ Ext w w' := by
  have HI := Lib.hid (And.intro hn (And.intro hm hk))
  clear hn hm hk
  go_enter Try.func5, Try.ntmps5
  go_wp2_with fail
  refine (rPair_c n m k _ HI.out.1 HI.out.2.1 HI.out.2.2).mono ?_
  rintro e w1 ⟨s, t, rfl, hs, ht, hx1⟩
  have HO := Lib.hid (And.intro (hs.ok (by omega) (by omega)) (ht.ok (by omega) (by omega)))
  have HX1 := Lib.hid hx1
  clear hs ht hx1
  have HR := Lib.hid (meetR_ok HO.out.1 HO.out.2)
  obtain ⟨G, hG⟩ : ∃ G, w1.heap.size = G := ⟨_, rfl⟩
  go_upto_region 2 with fail
  try rw [hG]
  refine wp_gen (fun W => TurnV w W G (G + 1) s t) ⟨(HX1.out.alloc _).alloc _, (Blk.at s.cs 25 hG.symm).alloc _, Blk.at t.cs 25 (by simp [hG])⟩ ?_
  clear HX1 hG
  rintro W1 v1
  have HV := Lib.hid v1
  clear v1
  obtain ⟨x0, x1, x2, x3⟩ := HV.out.bs.sgB
  obtain ⟨y0, y1, y2, y3⟩ := HV.out.bt.sgB
  go_wp2_with fail
  refine (cMeet_c s t _).mono ?_
  rw [HR.out]
  rintro e w2 ⟨c, rfl, hc, hx2⟩
  obtain ⟨Kb, hKb⟩ : ∃ K, w2.heap.size = K := ⟨_, rfl⟩
  have B1 := boxC_new hx2 hc
  rw [hKb] at B1
  have HB := Lib.hid (show Blk (w2.alloc (.cells zCV.cs 47)) Kb zCV.cs 47 from Blk.at zCV.cs 47 hKb.symm)
  clear x0 x1 x2 x3 y0 y1 y2 y3 hc hx2
  go_upto_region 3 with (refine wpList_store_row rfl 47 _ _ rfl Kb _ rfl rfl 47 _ HB.out (by kernel_rfl) rfl (all_one _ rfl) ?_)
  try rw [hKb]
  refine wp_gen (fun W => BoxC W1 W Kb c (meetF s t)) B1 ?_
  clear B1 HB hKb
  rintro W2 b2
  have HC := Lib.hid b2
  obtain ⟨x0, x1, x2, x3⟩ := (HV.out.bs.ext b2.ext).sgB
  obtain ⟨y0, y1, y2, y3⟩ := (HV.out.bt.ext b2.ext).sgB
  have lG := (HV.out.bs.ext b2.ext).lt
  have lH := (HV.out.bt.ext b2.ext).lt
  clear b2
  obtain ⟨D, hD⟩ : ∃ D, W2.heap.size = D := ⟨_, rfl⟩
  rw [hD] at lG lH
  go_upto_region 8 with fail
  refine wp_gen (fun W => Ext W2 W ∧ Blk W (D + 1 + 1) (sixC s t) 61) ⟨(((Ext.refl W2).alloc _).alloc _).alloc _, Blk.at (sixC s t) 61 (by simp [hD])⟩ ?_
  clear x0 x1 x2 x3 y0 y1 y2 y3 lG lH hD
  rintro W3 ⟨E3, B3⟩
  have HE3 := Lib.hid E3
  have H6 := Lib.hid B3
  have l3 := B3.lt
  clear E3 B3
  obtain ⟨b, hb⟩ : ∃ b, D + 1 + 1 = b := ⟨_, rfl⟩
  rw [hb] at H6 l3 ⊢
  clear hb
  go_upto_region 9 with fail
  go_loopw [14] (fun v ws => ∃ i : Nat, i ≤ 6 ∧ v = .int .i64 (i : Int) ∧ Ext W3 ws) (fun v _ => 6 - (intOf v).toNat)
  case atStart => exact ⟨0, by omega, rfl, Ext.refl W3⟩
  case round =>
    obtain ⟨i, hi, rfl, hE⟩ := hrel
    have HW := Lib.hid hE
    by_cases hlt : i < 6
    · have hsix := six_at H6.out i hlt
      obtain ⟨hP1, hP2⟩ := turnP_ok HO.out.1 HO.out.2 i
      have hM := turn_meet HO.out.1 HO.out.2 i
      obtain ⟨⟨p, q⟩, hpq⟩ : ∃ pq, turnP s t i = pq := ⟨_, rfl⟩
      rw [hpq] at hsix hP1 hP2 hM
      simp only at hsix hP1 hP2 hM
      have HMR := Lib.hid (show meetR p q = (meetF s t, 0) by rw [meetR_ok hP1 hP2, hM])
      have HC6 := Lib.hid (fun W (e : Ext wr W) => (show ((W.cell? ⟨b, i * 8, none⟩ = some (.int .i64 p.a.x) ∧ W.cell? ⟨b, i * 8 + 1, none⟩ = some (.int .i64 p.a.y) ∧ W.cell? ⟨b, i * 8 + 2, none⟩ = some (.int .i64 p.b.x) ∧ W.cell? ⟨b, i * 8 + 3, none⟩ = some (.int .i64 p.b.y)) ∧ W.cell? ⟨b, i * 8 + 4, none⟩ = some (.int .i64 q.a.x) ∧ W.cell? ⟨b, i * 8 + 5, none⟩ = some (.int .i64 q.a.y) ∧ W.cell? ⟨b, i * 8 + 6, none⟩ = some (.int .i64 q.b.x) ∧ W.cell? ⟨b, i * 8 + 7, none⟩ = some (.int .i64 q.b.y)) by
        obtain ⟨⟨a1, a2, a3, a4⟩, a5, a6, a7, a8⟩ := hsix
        have e' := hE.trans e
        exact ⟨⟨e'.cell a1, e'.cell a2, e'.cell a3, e'.cell a4⟩, e'.cell a5, e'.cell a6, e'.cell a7, e'.cell a8⟩))
      have l0 : (0 : Int) ≤ (i : Int) := by omega
      have l1 : (i : Int) < 6 := by omega
      have l2 : ¬ (i : Int) < 0 := by omega
      clear hsix hP1 hP2 hM hpq hE
      go_upto_region 11 with fail
      go_cut [15, 16] (fun s15 s16 wx => ∃ (J : Nat) (d : CV), s15 = .pointer (some ⟨J, 0, none⟩) ∧ s16 = .int .i64 0 ∧ BoxC wr wx J d (meetF s t))
      case first =>
        refine wp_region_held_drew (S := fun W => Ext wr W) (by kernel_rfl) ((Ext.refl wr).drew) (fun hHeld => ?_)
        refine takeL (i := 0) (v := ?_) rfl (by kernel_rfl) (by kernel_rfl) (by kernel_rfl) (fun _ _ _ h => h) (Or.inl ⟨by rfl, ?_⟩) (by assumption) ?_; rotate_left; (focus (intro wq hSw; (try dsimp only at hSw); go_simp; try with_reducible rfl)); (try simp only [Act.put, List.setIfInBounds_toArray, List.set_cons_zero, List.set_cons_succ])
        refine takeL (i := 1) (v := ?_) rfl (by kernel_rfl) (by kernel_rfl) (by kernel_rfl) (fun _ _ _ h => h) (Or.inl ⟨by rfl, ?_⟩) (by assumption) ?_; rotate_left; (focus (intro wq hSw; (try dsimp only at hSw); go_simp; try with_reducible rfl)); (try simp only [Act.put, List.setIfInBounds_toArray, List.set_cons_zero, List.set_cons_succ])
        refine takeL (i := 2) (v := ?_) rfl (by kernel_rfl) (by kernel_rfl) (by kernel_rfl) (fun _ _ _ h => h) (Or.inl ⟨by rfl, ?_⟩) (by assumption) ?_; rotate_left; (focus (intro wq hSw; (try dsimp only at hSw); go_simp; try with_reducible rfl)); (try simp only [Act.put, List.setIfInBounds_toArray, List.set_cons_zero, List.set_cons_succ])
        refine takeL (i := 3) (v := ?_) rfl (by kernel_rfl) (by kernel_rfl) (by kernel_rfl) (fun _ _ _ h => h) (Or.inl ⟨by rfl, ?_⟩) (by assumption) ?_; rotate_left; (focus (intro wq hSw; (try dsimp only at hSw); go_simp; try with_reducible rfl)); (try simp only [Act.put, List.setIfInBounds_toArray, List.set_cons_zero, List.set_cons_succ])
        refine takeL (i := 4) (v := ?_) rfl (by kernel_rfl) (by kernel_rfl) (by kernel_rfl) (fun _ _ _ h => h) (Or.inl ⟨by rfl, ?_⟩) (by assumption) ?_; rotate_left; (focus (intro wq hSw; have hcc := HC6.out wq hSw; clear hSw; go_split_ands; go_simp; try with_reducible rfl)); (try simp only [Act.put, List.setIfInBounds_toArray, List.set_cons_zero, List.set_cons_succ])
        refine takeL (i := 5) (v := ?_) rfl (by kernel_rfl) (by kernel_rfl) (by kernel_rfl) (fun _ _ _ h => h) (Or.inl ⟨by rfl, ?_⟩) (by assumption) ?_; rotate_left; (focus (intro wq hSw; (try dsimp only at hSw); go_simp; try with_reducible rfl)); (try simp only [Act.put, List.setIfInBounds_toArray, List.set_cons_zero, List.set_cons_succ])
        refine takeL (i := 6) (v := ?_) rfl (by kernel_rfl) (by kernel_rfl) (by kernel_rfl) (fun _ _ _ h => h) (Or.inl ⟨by rfl, ?_⟩) (by assumption) ?_; rotate_left; (focus (intro wq hSw; (try dsimp only at hSw); go_simp; try with_reducible rfl)); (try simp only [Act.put, List.setIfInBounds_toArray, List.set_cons_zero, List.set_cons_succ])
        refine takeL (i := 7) (v := ?_) rfl (by kernel_rfl) (by kernel_rfl) (by kernel_rfl) (fun _ _ _ h => h) (Or.inl ⟨by rfl, ?_⟩) (by assumption) ?_; rotate_left; (focus (intro wq hSw; (try dsimp only at hSw); go_simp; try with_reducible rfl)); (try simp only [Act.put, List.setIfInBounds_toArray, List.set_cons_zero, List.set_cons_succ])
        refine takeL (i := 8) (v := ?_) rfl (by kernel_rfl) (by kernel_rfl) (by kernel_rfl) (fun _ _ _ h => h) (Or.inl ⟨by rfl, ?_⟩) (by assumption) ?_; rotate_left; (focus (intro wq hSw; (try dsimp only at hSw); go_simp; try with_reducible rfl)); (try simp only [Act.put, List.setIfInBounds_toArray, List.set_cons_zero, List.set_cons_succ])
        refine takeL (i := 9) (v := ?_) rfl (by kernel_rfl) (by kernel_rfl) (by kernel_rfl) (fun _ _ _ h => h) (Or.inl ⟨by rfl, ?_⟩) (by assumption) ?_; rotate_left; (focus (intro wq hSw; have hcc := HC6.out wq hSw; clear hSw; go_split_ands; go_simp; try with_reducible rfl)); (try simp only [Act.put, List.setIfInBounds_toArray, List.set_cons_zero, List.set_cons_succ])
        refine cons2L (i := 10) (j := 14) (by kernel_rfl) rfl rfl (fun K hK => ?_) (fun K hK => ?_)
        · go_simp; go_at_call 18; refine (cMeet_c p q _).mono ?_; rw [HMR.out]; rintro e w5 ⟨d, rfl, hd, hx5⟩
          have hE5 : Ext wr w5 := (Ext.refl wr).drew.trans hx5
          go_wp2_with fail
          refine hK.out _ _ ?_ ?_; rotate_left; clear hK K; intro hHeld; rotate_right; (focus exact hE5); (try simp only [Act.put, List.setIfInBounds_toArray, List.set_cons_zero, List.set_cons_succ])
          refine takeL (i := 11) (v := ?_) rfl (by kernel_rfl) (by kernel_rfl) (by kernel_rfl) (fun _ _ _ h => h) (Or.inl ⟨by rfl, ?_⟩) (by assumption) ?_; rotate_left; (focus (intro wq hSw; (try dsimp only at hSw); go_simp; try with_reducible rfl)); (try simp only [Act.put, List.setIfInBounds_toArray, List.set_cons_zero, List.set_cons_succ])
          refine takeL (i := 12) (v := ?_) rfl (by kernel_rfl) (by kernel_rfl) (by kernel_rfl) (fun _ _ _ h => h) (Or.inl ⟨by rfl, ?_⟩) (by assumption) ?_; rotate_left; (focus (intro wq hSw; (try dsimp only at hSw); go_simp; try with_reducible rfl)); (try simp only [Act.put, List.setIfInBounds_toArray, List.set_cons_zero, List.set_cons_succ])
          refine takeL (i := 13) (v := ?_) rfl (by kernel_rfl) (by kernel_rfl) (by kernel_rfl) (fun _ _ _ h => h) (Or.inl ⟨by rfl, ?_⟩) (by assumption) ?_; rotate_left; (focus (intro wq hSw; (try dsimp only at hSw); go_simp; try with_reducible rfl)); (try simp only [Act.put, List.setIfInBounds_toArray, List.set_cons_zero, List.set_cons_succ])
          have B1 := boxC_new hE5 hd
          obtain ⟨J, hJ⟩ : ∃ J, w5.heap.size = J := ⟨_, rfl⟩
          rw [hJ] at B1
          have HB := Lib.hid (show Blk (w5.alloc (.cells zCV.cs 47)) J zCV.cs 47 from Blk.at zCV.cs 47 hJ.symm)
          refine consL (i := 14) (by kernel_rfl) rfl (fun K hK => ?_); go_simp; refine hK.out _ _ ?_ ?_; rotate_left; clear hK K; intro hHeld; rotate_right; (focus exact hE5.alloc _); (try simp only [Act.put, List.setIfInBounds_toArray, List.set_cons_zero, List.set_cons_succ])
          refine consL (i := 15) (by kernel_rfl) rfl (fun K hK => ?_); rw [if_pos (show Region.wanted _ _ = true by rfl)]; refine wp_store_row _ _ _ rfl J d.cs rfl rfl 47 _ HB.out (by kernel_rfl) rfl (all_one _ rfl) ?_; refine hK.out _ _ ?_ ?_; rotate_left; clear hK K; intro hHeld; rotate_right; (focus exact B1.ext); (try simp only [Act.put, List.setIfInBounds_toArray, List.set_cons_zero, List.set_cons_succ])
          refine takeL (i := 16) (v := ?_) rfl (by kernel_rfl) (by kernel_rfl) (by kernel_rfl) (fun _ _ _ h => h) (Or.inl ⟨by rfl, ?_⟩) (by assumption) ?_; rotate_left; (focus (intro wq hSw; (try dsimp only at hSw); go_simp; try with_reducible rfl)); (try simp only [Act.put, List.setIfInBounds_toArray, List.set_cons_zero, List.set_cons_succ])
          refine doneL (by kernel_rfl) ?_
          go_wp2_with fail
          go_meet
          exact ⟨J, d, rfl, rfl, B1⟩
        · obtain ⟨J, hJ⟩ : ∃ J, wr.heap.size = J := ⟨_, rfl⟩
          go_simp; refine hK.out _ _ ?_ ?_; rotate_left; clear hK K; intro hHeld; rotate_right; (focus exact (Ext.refl wr).drew.alloc _); (try simp only [Act.put, List.setIfInBounds_toArray, List.set_cons_zero, List.set_cons_succ])
          have B0 : Blk (wr.drew.alloc (.cells zCV.cs 47)) J zCV.cs 47 := Blk.at zCV.cs 47 hJ.symm
          refine consL (i := 10) (by kernel_rfl) rfl (fun K hK => ?_)
          go_simp; go_at_call 18; refine (cMeet_c p q _).mono ?_; rw [HMR.out]; rintro e w5 ⟨d, rfl, hd, hx5⟩
          have hE5 : Ext wr w5 := ((Ext.refl wr).drew.alloc _).trans hx5
          have HB := Lib.hid (show Blk w5 J zCV.cs 47 from B0.ext hx5)
          have B1 := boxC_put hE5 HB.out (by omega) hd
          go_wp2_with fail
          refine hK.out _ _ ?_ ?_; rotate_left; clear hK K; intro hHeld; rotate_right; (focus exact hE5); (try simp only [Act.put, List.setIfInBounds_toArray, List.set_cons_zero, List.set_cons_succ])
          refine takeL (i := 11) (v := ?_) rfl (by kernel_rfl) (by kernel_rfl) (by kernel_rfl) (fun _ _ _ h => h) (Or.inl ⟨by rfl, ?_⟩) (by assumption) ?_; rotate_left; (focus (intro wq hSw; (try dsimp only at hSw); go_simp; try with_reducible rfl)); (try simp only [Act.put, List.setIfInBounds_toArray, List.set_cons_zero, List.set_cons_succ])
          refine takeL (i := 12) (v := ?_) rfl (by kernel_rfl) (by kernel_rfl) (by kernel_rfl) (fun _ _ _ h => h) (Or.inl ⟨by rfl, ?_⟩) (by assumption) ?_; rotate_left; (focus (intro wq hSw; (try dsimp only at hSw); go_simp; try with_reducible rfl)); (try simp only [Act.put, List.setIfInBounds_toArray, List.set_cons_zero, List.set_cons_succ])
          refine takeL (i := 13) (v := ?_) rfl (by kernel_rfl) (by kernel_rfl) (by kernel_rfl) (fun _ _ _ h => h) (Or.inl ⟨by rfl, ?_⟩) (by assumption) ?_; rotate_left; (focus (intro wq hSw; (try dsimp only at hSw); go_simp; try with_reducible rfl)); (try simp only [Act.put, List.setIfInBounds_toArray, List.set_cons_zero, List.set_cons_succ])
          refine consL (i := 15) (by kernel_rfl) rfl (fun K hK => ?_); rw [if_pos (show Region.wanted _ _ = true by rfl)]; refine wp_store_row _ _ _ rfl J d.cs rfl rfl 47 _ HB.out (by kernel_rfl) rfl (all_one _ rfl) ?_; refine hK.out _ _ ?_ ?_; rotate_left; clear hK K; intro hHeld; rotate_right; (focus exact B1.ext); (try simp only [Act.put, List.setIfInBounds_toArray, List.set_cons_zero, List.set_cons_succ])
          refine takeL (i := 16) (v := ?_) rfl (by kernel_rfl) (by kernel_rfl) (by kernel_rfl) (fun _ _ _ h => h) (Or.inl ⟨by rfl, ?_⟩) (by assumption) ?_; rotate_left; (focus (intro wq hSw; (try dsimp only at hSw); go_simp; try with_reducible rfl)); (try simp only [Act.put, List.setIfInBounds_toArray, List.set_cons_zero, List.set_cons_succ])
          refine doneL (by kernel_rfl) ?_
          go_wp2_with fail
          go_meet
          exact ⟨J, d, rfl, rfl, B1⟩
      case rest =>
        obtain ⟨J, d, rfl, rfl, hB⟩ := hcut
        have HD := Lib.hid hB
        have HCW := Lib.hid (HC.out.trans (HE3.out.trans (HW.out.trans hB.ext)))
        clear hB
        have kk : (c.k != d.k) = false := by rw [HCW.out.is.k, HD.out.is.k]; simp
        obtain ⟨a0, ⟨a1, a2, a3, a4, a5, a6, a7, a8⟩, _⟩ := HCW.out.box.cutB
        obtain ⟨d0, ⟨d1, d2, d3, d4, d5, d6, d7, d8⟩, _⟩ := HD.out.box.cutB
        go_wp2_with fail
        refine (pCompare_c c.A d.A _ _ _ HCW.out.is.A HD.out.is.A).mono ?_
        rw [cmpP_self]
        rintro e w6 ⟨rfl, hx6⟩
        have HX6 := Lib.hid hx6
        clear hx6 a0 a1 a2 a3 a4 a5 a6 a7 a8 d0 d1 d2 d3 d4 d5 d6 d7 d8
        obtain ⟨a0, _, a1, a2, a3, a4, a5, a6, a7, a8⟩ := (HCW.out.box.ext HX6.out).cutB
        obtain ⟨d0, _, d1, d2, d3, d4, d5, d6, d7, d8⟩ := (HD.out.box.ext HX6.out).cutB
        go_wp2_with fail
        refine (pCompare_c c.T d.T _ _ _ (HCW.out.is.T.keep HX6.out.ik) (HD.out.is.T.keep HX6.out.ik)).mono ?_
        rw [cmpP_self]
        rintro e w7 ⟨rfl, hx7⟩
        have HX7 := Lib.hid (HW.out.trans (HD.out.ext.trans (HX6.out.trans hx7)))
        clear hx7 a0 a1 a2 a3 a4 a5 a6 a7 a8 d0 d1 d2 d3 d4 d5 d6 d7 d8
        go_wp2_with fail
        go_roundw
        case rel => exact ⟨i + 1, by omega, by go_num, HX7.out⟩
        case measure => simp [intOf]; omega
    · obtain rfl : i = 6 := by omega
      clear hE
      go_wp2_with fail
      refine (llives_c _).mono ?_
      rintro e w9 ⟨rfl, hx9⟩
      go_wp2_with fail
      go_ret
      exact ⟨rfl, HV.out.ext.trans (HC.out.ext.trans (HE3.out.trans (HW.out.trans hx9)))⟩
end Go.Proofs.Ytagiaiocgjagnaa
