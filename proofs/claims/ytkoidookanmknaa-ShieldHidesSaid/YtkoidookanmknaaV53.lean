/- meresmanlaw30: ShieldHides, the walk. -/
import Derived.Test.YtkoidookanmknaaV49
import Derived.Test.YtkoidookanmknaaV51
import Derived.Test.YtkoidookanmknaaV52
import Derived.Test.YtkoidookanmknaaV23
namespace Go.Proofs.Ytkoidookanmknaa
set_option linter.unusedSimpArgs false
set_option linter.unusedVariables false
open Go.RowKit

set_option maxRecDepth 100000 in
set_option maxHeartbeats 4000000 in
theorem walkHides (a0 : Option Addr) (n c : Nat) (xs : List Int) (a1 a2 a3 a4 : Int) (w : World) (h0 : Ints w a0 n xs) (h1 : Int64 a1) (h2 : Int64 a2) (h3 : Int64 a3) (h4 : Int64 a4) :
    Calls Try.prog 4 #[.slice a0 n c, .int .i64 a1, .int .i64 a2, .int .i64 a3, .int .i64 a4] w fun e w' => e = .returned (.bool true) ∧ Ext w w' := by
  have H0 := Lib.hid h0; have H1 := Lib.hid h1; have H2 := Lib.hid h2; have H3 := Lib.hid h3; have H4 := Lib.hid h4
  clear h0 h1 h2 h3 h4
  go_enter Try.func4, Try.ntmps4
  go_wp2_with fail
  refine (Some_c a0 n c xs _ H0.out).mono ?_
  rintro e w1 ⟨hE1, N, ss, vs, gs, Ls, zs, rfl, hSh, hV, hN1, hN6, hL1, hL9⟩
  obtain ⟨sa, sn, sc⟩ := ss
  obtain ⟨va, vn, vc⟩ := vs
  simp only [Sl.v]
  obtain ⟨X, hX⟩ : ∃ X, w1.heap.size = X := ⟨_, rfl⟩
  have hsn : sn = Ls.length := hSh.grps.2.1.symm
  have HS := Lib.hid (And.intro hE1 hSh)
  have HV := Lib.hid (And.intro hV hsn)
  have hs1 : 1 ≤ sn := by omega
  have hs9 : sn ≤ 9 := by omega
  clear hE1 hSh hV hsn
  go_upto_region 2 with (fail)
  refine wp_gen (fun W => Ext w W ∧ ShIn W N ⟨sa, sn, sc⟩ ⟨va, vn, vc⟩ gs Ls zs ∧ Blk W X #[.int .i64 (N : Int), .slice sa sn sc, .slice va vn vc] 25) ⟨HS.out.1.alloc _, HS.out.2.ext ((Ext.refl w1).alloc _), Blk.at _ _ hX.symm⟩ ?_
  clear hX HS
  intro W0 hS
  have hSt : W0.cell? ⟨X, 0, none⟩ = some (.int .i64 (N : Int)) ∧ W0.cell? ⟨X, 1, none⟩ = some (.slice sa sn sc) ∧ W0.cell? ⟨X, 2, none⟩ = some (.slice va vn vc) := ⟨hS.2.2.cell 0, hS.2.2.cell 1, hS.2.2.cell 2⟩
  have HS := Lib.hid hS
  have HSt := Lib.hid hSt
  clear hS
  refine wp_region_E (fun W => W.cell? ⟨X, 0, none⟩ = some (.int .i64 (N : Int)) ∧ W.cell? ⟨X, 1, none⟩ = some (.slice sa sn sc) ∧ W.cell? ⟨X, 2, none⟩ = some (.slice va vn vc)) [] (by kernel_rfl) hSt (fun _ => ?_)
  have hSt' : W0.drew.cell? ⟨X, 0, none⟩ = some (.int .i64 (N : Int)) ∧ W0.drew.cell? ⟨X, 1, none⟩ = some (.slice sa sn sc) ∧ W0.drew.cell? ⟨X, 2, none⟩ = some (.slice va vn vc) := hSt
  refine takeE (i := 0) (v := ?_) rfl (by kernel_rfl) (by kernel_rfl) (by kernel_rfl) (fun _ _ _ h => h) (by kernel_rfl) (by kernel_rfl) (Or.inl ⟨by rfl, ?_⟩) (by assumption) ?_; rotate_left; (focus (intro wq hSw; obtain ⟨hSa, hSb, hSc⟩ := hSw; go_simp; try with_reducible rfl)); (try simp only [Act.put, List.setIfInBounds_toArray, List.set_cons_zero, List.set_cons_succ])
  refine takeE (i := 1) (v := ?_) rfl (by kernel_rfl) (by kernel_rfl) (by kernel_rfl) (fun _ _ _ h => h) (by kernel_rfl) (by kernel_rfl) (Or.inl ⟨by rfl, ?_⟩) (by assumption) ?_; rotate_left; (focus (intro wq hSw; obtain ⟨hSa, hSb, hSc⟩ := hSw; go_simp; try with_reducible rfl)); (try simp only [Act.put, List.setIfInBounds_toArray, List.set_cons_zero, List.set_cons_succ])
  refine takeP (i := 2) (v := ?_) rfl (by kernel_rfl) (by kernel_rfl) (by kernel_rfl) (fun _ _ _ h => h) (Or.inl ⟨by rfl, ?_⟩) ?_; rotate_left; (focus (intro wq hSw; clear hSw; go_simp; try with_reducible rfl)); (try simp only [Act.put, List.setIfInBounds_toArray, List.set_cons_zero, List.set_cons_succ])
  refine takeP (i := 3) (v := ?_) rfl (by kernel_rfl) (by kernel_rfl) (by kernel_rfl) (fun _ _ _ h => h) (Or.inl ⟨by rfl, ?_⟩) ?_; rotate_left; (focus (intro wq hSw; clear hSw; go_simp; try with_reducible rfl)); (try simp only [Act.put, List.setIfInBounds_toArray, List.set_cons_zero, List.set_cons_succ])
  refine takeP (i := 4) (v := ?_) rfl (by kernel_rfl) (by kernel_rfl) (by kernel_rfl) (fun _ _ _ h => h) (Or.inl ⟨by rfl, ?_⟩) ?_; rotate_left; (focus (intro wq hSw; clear hSw; go_simp; try with_reducible rfl)); (try simp only [Act.put, List.setIfInBounds_toArray, List.set_cons_zero, List.set_cons_succ])
  refine takeP (i := 5) (v := ?_) rfl (by kernel_rfl) (by kernel_rfl) (by kernel_rfl) (fun _ _ _ h => h) (Or.inl ⟨by rfl, ?_⟩) ?_; rotate_left; (focus (intro wq hSw; clear hSw; go_simp; try with_reducible rfl)); (try simp only [Act.put, List.setIfInBounds_toArray, List.set_cons_zero, List.set_cons_succ])
  obtain ⟨r5, hr5⟩ : ∃ r, a2.tmod 5 = r := ⟨_, rfl⟩
  have hr64 : Int64 r5 := by
    have h1 := Int.tmod_lt_of_pos a2 (b := 5) (by omega)
    have h2 := Int.lt_tmod_of_pos a2 (b := 5) (by omega)
    exact ⟨by omega, by omega⟩
  rw [hr5]
  have HR5 := Lib.hid hr64
  clear hr5 hr64
  refine consE (i := 6) (by kernel_rfl) rfl (fun K hK => ?_)
  go_simp
  go_at_call 11
  refine (Spoilt_c N ⟨sa, sn, sc⟩ ⟨va, vn, vc⟩ gs Ls zs a1 r5 a3 _ (HS.out.2.1.ext (Ext.refl W0).drew) HV.out.1 hN1 hN6 hL1 hL9 H1.out HR5.out H3.out).mono ?_
  rintro e w2 ⟨hx2, n2, ⟨s2a, s2n, s2c⟩, ⟨v2a, v2n, v2c⟩, gs2, Ls2, zs2, rfl, hSh2, hn2, hor, hl2⟩
  have hE2 : Ext W0 w2 := (Ext.refl W0).drew.trans hx2
  have HS2 := Lib.hid (And.intro hE2 (And.intro hSh2 (And.intro hn2 (And.intro hor hl2))))
  clear hx2 hE2 hSh2 hn2 hor
  simp only [Sl.v]
  go_wp2_with fail
  refine hK.out _ _ ?_ (fun _ => ?_); rotate_left; clear hK K; rotate_right; (focus (exact .inr (.inl ⟨HS2.out.1.cell HSt.out.1, HS2.out.1.cell HSt.out.2.1, HS2.out.1.cell HSt.out.2.2⟩))); (try simp only [Act.put, List.setIfInBounds_toArray, List.set_cons_zero, List.set_cons_succ])
  refine consE (i := 7) (by kernel_rfl) rfl (fun K hK => ?_)
  go_simp
  refine hK.out _ _ ?_ (fun _ => ?_); rotate_left; clear hK K; rotate_right; (focus (exact .inr (.inl ⟨(HS2.out.1.alloc _).cell HSt.out.1, (HS2.out.1.alloc _).cell HSt.out.2.1, (HS2.out.1.alloc _).cell HSt.out.2.2⟩))); (try simp only [Act.put, List.setIfInBounds_toArray, List.set_cons_zero, List.set_cons_succ])
  refine takeP (i := 8) (v := ?_) rfl (by kernel_rfl) (by kernel_rfl) (by kernel_rfl) (fun _ _ _ h => h) (Or.inl ⟨by rfl, ?_⟩) ?_; rotate_left; (focus (intro wq hSw; clear hSw; go_simp; try with_reducible rfl)); (try simp only [Act.put, List.setIfInBounds_toArray, List.set_cons_zero, List.set_cons_succ])
  refine doneE (by kernel_rfl) ?_ _
  go_upto_region 3 with (fail)
  obtain ⟨A, hA⟩ : ∃ A, w2.heap.size = A := ⟨_, rfl⟩
  have hbA := Blk.at (w := w2) #[.int .i64 (N : Int), .slice sa sn sc, .slice va vn vc, .int .i64 n2, .slice s2a s2n s2c, .slice v2a v2n v2c] 25 hA.symm
  have hEA : Ext W0 (w2.alloc (.cells #[.int .i64 (N : Int), .slice sa sn sc, .slice va vn vc, .int .i64 n2, .slice s2a s2n s2c, .slice v2a v2n v2c] 25)) := HS2.out.1.alloc _
  rw [hA]
  refine wp_gen (fun W => DtI w W X A N ⟨sa, sn, sc⟩ ⟨va, vn, vc⟩ gs Ls zs n2 ⟨s2a, s2n, s2c⟩ ⟨v2a, v2n, v2c⟩ gs2 Ls2 zs2)
    ⟨HS.out.1.trans hEA, HS.out.2.2.ext hEA, ⟨hbA.cell 0, hbA.cell 1, hbA.cell 2, HS.out.2.1.ext hEA⟩, ⟨hbA.cell 3, hbA.cell 4, hbA.cell 5, HS2.out.2.1.ext ((Ext.refl w2).alloc _)⟩⟩ ?_
  have HO := Lib.hid (And.intro HS2.out.2.2.1 (And.intro HS2.out.2.2.2.1 HS2.out.2.2.2.2))
  clear HS HS2 HSt hSt hSt' hbA hEA hA hl2
  intro W1 hD
  have HD1 := Lib.hid hD
  clear hD
  go_wp2_with fail
  refine (around_c _ _ _ (by omega) (by omega) H4.out).mono ?_
  rintro e b9 ⟨rfl, rfl⟩
  have hx5 := aroundF_bd a4 14 (by omega)
  obtain ⟨x5, hx5e⟩ : ∃ x, aroundF a4 14 = x := ⟨_, rfl⟩
  rw [hx5e] at hx5 ⊢
  clear hx5e
  go_upto_region 4 with (fail)
  obtain ⟨C, hC⟩ : ∃ C, W1.heap.size = C := ⟨_, rfl⟩
  rw [hC]
  have hEC : Ext W1 (W1.alloc (.cells #[.int .i64 x5, .int .i64 a4] 3)) := (Ext.refl W1).alloc _
  refine wp_gen (fun W => DtI w W X A N ⟨sa, sn, sc⟩ ⟨va, vn, vc⟩ gs Ls zs n2 ⟨s2a, s2n, s2c⟩ ⟨v2a, v2n, v2c⟩ gs2 Ls2 zs2 ∧ Blk W C #[.int .i64 x5, .int .i64 a4] 3) ⟨HD1.out.keep hEC, Blk.at _ _ hC.symm⟩ ?_
  clear hEC hC HD1
  intro W2 hD
  have HD := Lib.hid hD
  clear hD
  go_wp2_with fail
  go_loopw [14] (fun iv ws => ∃ i : Nat, i ≤ 2 ∧ iv = .int .i64 (i : Int) ∧ Ext W2 ws) (fun iv _ => 2 - (intOf iv).toNat)
  case atStart => exact ⟨0, by omega, rfl, Ext.refl _⟩
  case round =>
    obtain ⟨i, hi, rfl, hE⟩ := hrel
    have HI := Lib.hid (And.intro (HD.out.1.keep hE) hE)
    clear hE
    by_cases hlt : i < 2
    · obtain ⟨n1, ⟨s1a, s1n, s1c⟩, ⟨v1a, v1n, v1c⟩, gs1, Ls1, zs1, hP, h61, hl1⟩ := HI.out.1.pick HV.out.1 hN6 HO.out.2.1 hL9 HO.out.2.2 i hlt
      have HP := Lib.hid hP
      have H6 := Lib.hid h61
      simp only at hl1
      clear h61
      have HX1 := Lib.hid (show ∀ W, Ext wr W → W.cell? ⟨A, i * 3, none⟩ = some (.int .i64 n1) ∧ W.cell? ⟨A, i * 3 + 1, none⟩ = some (.slice s1a s1n s1c) ∧ W.cell? ⟨A, i * 3 + 2, none⟩ = some (.slice v1a v1n v1c) from fun W e => ⟨e.cell HP.out.c0, e.cell HP.out.c1, e.cell HP.out.c2⟩)
      clear hP
      have i0 : (0 : Int) ≤ (i : Int) := by omega
      have i1 : (i : Int) < 2 := by omega
      go_wp2_with fail
      go_loopw [15] (fun kv ws => ∃ k : Nat, k ≤ 2 ∧ kv = .int .i64 (k : Int) ∧ Ext wr ws) (fun kv _ => 2 - (intOf kv).toNat)
      case atStart => exact ⟨0, by omega, rfl, Ext.refl _⟩
      case round =>
        rename World => ws
        obtain ⟨k, hk, rfl, hE⟩ := hrel
        have HK := Lib.hid hE
        clear hE
        by_cases hkl : k < 2
        · have hpick : ∃ x : Int, ws.cell? ⟨C, k, none⟩ = some (.int .i64 x) ∧ Int64 x := by
            have hb := HD.out.2.ext (HI.out.2.trans HK.out)
            have h3 : k = 0 ∨ k = 1 := by omega
            rcases h3 with rfl | rfl
            · exact ⟨_, hb.cell 0, by omega, by omega⟩
            · exact ⟨_, hb.cell 1, H4.out⟩
          obtain ⟨x, hxc, hx64⟩ := hpick
          have HX64 := Lib.hid hx64
          have HX5 := Lib.hid (show ∀ W, Ext ws W → W.cell? ⟨C, k, none⟩ = some (.int .i64 x) from fun W e => e.cell hxc)
          have HY1 := Lib.hid (show ∀ W, Ext ws W → W.cell? ⟨A, i * 3, none⟩ = some (.int .i64 n1) ∧ W.cell? ⟨A, i * 3 + 1, none⟩ = some (.slice s1a s1n s1c) ∧ W.cell? ⟨A, i * 3 + 2, none⟩ = some (.slice v1a v1n v1c) from fun W e => HX1.out W (HK.out.trans e))
          have HSH := Lib.hid (HP.out.sh.ext HK.out)
          clear hxc hx64
          have k0 : (0 : Int) ≤ (k : Int) := by omega
          have k1 : (k : Int) < 2 := by omega
          have hE0 : Ext ws ws.drew := (Ext.refl ws).drew
          have HE0 := Lib.hid hE0
          clear hE0
          obtain ⟨q, hq⟩ : ∃ q, hideE n1 Ls1 zs1 x = q := ⟨_, rfl⟩
          have HQ := Lib.hid hq
          clear hq
          by_cases hq0 : q = 0
          · subst hq0
            (go_upto_region 10 with (fail); refine wp_region_held_drew (S := fun W => Ext ws W) (by kernel_rfl) (Ext.refl ws).drew (fun hHeld => ?_); (refine takeL (i := 0) (v := ?_) rfl (by kernel_rfl) (by kernel_rfl) (by kernel_rfl) (fun _ _ _ h => h) (Or.inl ⟨by rfl, ?_⟩) (by assumption) ?_; rotate_left; (focus (intro wq hSw; (try dsimp only at hSw); go_simp; try with_reducible rfl)); (try simp only [Act.put, List.setIfInBounds_toArray, List.set_cons_zero, List.set_cons_succ])); (refine takeL (i := 1) (v := ?_) rfl (by kernel_rfl) (by kernel_rfl) (by kernel_rfl) (fun _ _ _ h => h) (Or.inl ⟨by rfl, ?_⟩) (by assumption) ?_; rotate_left; (focus (intro wq hSw; (try dsimp only at hSw); go_simp; try with_reducible rfl)); (try simp only [Act.put, List.setIfInBounds_toArray, List.set_cons_zero, List.set_cons_succ])); (refine takeL (i := 2) (v := ?_) rfl (by kernel_rfl) (by kernel_rfl) (by kernel_rfl) (fun _ _ _ h => h) (Or.inl ⟨by rfl, ?_⟩) (by assumption) ?_; rotate_left; (focus (intro wq hSw; (try dsimp only at hSw); go_simp; try with_reducible rfl)); (try simp only [Act.put, List.setIfInBounds_toArray, List.set_cons_zero, List.set_cons_succ])); (refine takeL (i := 3) (v := ?_) rfl (by kernel_rfl) (by kernel_rfl) (by kernel_rfl) (fun _ _ _ h => h) (Or.inl ⟨by rfl, ?_⟩) (by assumption) ?_; rotate_left; (focus (intro wq hSw; obtain ⟨hc1, hc2, hc3⟩ := HY1.out wq hSw; clear hSw; go_simp; try with_reducible rfl)); (try simp only [Act.put, List.setIfInBounds_toArray, List.set_cons_zero, List.set_cons_succ])); (refine takeL (i := 5) (v := ?_) rfl (by kernel_rfl) (by kernel_rfl) (by kernel_rfl) (fun _ _ _ h => h) (Or.inl ⟨by rfl, ?_⟩) (by assumption) ?_; rotate_left; (focus (intro wq hSw; (try dsimp only at hSw); go_simp; try with_reducible rfl)); (try simp only [Act.put, List.setIfInBounds_toArray, List.set_cons_zero, List.set_cons_succ])); (refine takeL (i := 6) (v := ?_) rfl (by kernel_rfl) (by kernel_rfl) (by kernel_rfl) (fun _ _ _ h => h) (Or.inl ⟨by rfl, ?_⟩) (by assumption) ?_; rotate_left; (focus (intro wq hSw; (try dsimp only at hSw); go_simp; try with_reducible rfl)); (try simp only [Act.put, List.setIfInBounds_toArray, List.set_cons_zero, List.set_cons_succ])); (refine takeL (i := 7) (v := ?_) rfl (by kernel_rfl) (by kernel_rfl) (by kernel_rfl) (fun _ _ _ h => h) (Or.inl ⟨by rfl, ?_⟩) (by assumption) ?_; rotate_left; (focus (intro wq hSw; (try dsimp only at hSw); go_simp; try with_reducible rfl)); (try simp only [Act.put, List.setIfInBounds_toArray, List.set_cons_zero, List.set_cons_succ])); (refine takeL (i := 8) (v := ?_) rfl (by kernel_rfl) (by kernel_rfl) (by kernel_rfl) (fun _ _ _ h => h) (Or.inl ⟨by rfl, ?_⟩) (by assumption) ?_; rotate_left; (focus (intro wq hSw; have hcc := HX5.out wq hSw; clear hSw; go_simp; try with_reducible rfl)); (try simp only [Act.put, List.setIfInBounds_toArray, List.set_cons_zero, List.set_cons_succ])); (refine consL (i := 4) (by kernel_rfl) rfl (fun K hK => ?_); go_simp); go_at_call 13; refine (own_c n1 ⟨s1a, s1n, s1c⟩ ⟨v1a, v1n, v1c⟩ _).mono ?_; rintro e b1 ⟨rfl, hx⟩; have HE1 := Lib.hid (HE0.out.trans hx); clear hx; simp only [Sl.v]; ((try go_wp2_with fail); refine hK.out _ _ ?_ (fun hHeld => ?_); rotate_left; clear hK K; rotate_right; (focus (exact HE1.out)); (try simp only [Act.put, List.setIfInBounds_toArray, List.set_cons_zero, List.set_cons_succ])); (refine consL (i := 9) (by kernel_rfl) rfl (fun K hK => ?_); go_simp); go_at_call 20; refine (Hide_c n1 x ⟨s1a, s1n, s1c⟩ ⟨v1a, v1n, v1c⟩ gs1 Ls1 zs1 _ (HSH.out.ext HE1.out) (fun hv => few_of6 (H6.out hv))).mono ?_; rw [HQ.out])
            rintro e b2 (⟨h0, _⟩ | ⟨_, hb, rfl, hB2, hx⟩)
            · exact absurd rfl h0
            obtain ⟨R, hR⟩ : ∃ R, hideF (dB Ls1) zs1 s1n (s1n + 1) (hide0 zs1 x s1n) = R := ⟨_, rfl⟩
            simp only at hB2
            rw [hR] at hB2
            have HRR := Lib.hid hR
            clear hR
            have HE2 := Lib.hid (HE1.out.trans hx)
            have HB2 := Lib.hid hB2
            clear hx hB2
            (try go_wp2_with fail); refine hK.out _ _ ?_ (fun hHeld => ?_); rotate_left; clear hK K; rotate_right; (focus (exact HE2.out)); (try simp only [Act.put, List.setIfInBounds_toArray, List.set_cons_zero, List.set_cons_succ])
            ((refine takeL (i := 10) (v := ?_) rfl (by kernel_rfl) (by kernel_rfl) (by kernel_rfl) (fun _ _ _ h => h) (Or.inl ⟨by rfl, ?_⟩) (by assumption) ?_; rotate_left; (focus (intro wq hSw; (try dsimp only at hSw); go_simp; try with_reducible rfl)); (try simp only [Act.put, List.setIfInBounds_toArray, List.set_cons_zero, List.set_cons_succ])); (refine takeL (i := 11) (v := ?_) rfl (by kernel_rfl) (by kernel_rfl) (by kernel_rfl) (fun _ _ _ h => h) (Or.inl ⟨by rfl, ?_⟩) (by assumption) ?_; rotate_left; (focus (intro wq hSw; (try dsimp only at hSw); go_simp; try with_reducible rfl)); (try simp only [Act.put, List.setIfInBounds_toArray, List.set_cons_zero, List.set_cons_succ])); (refine takeL (i := 12) (v := ?_) rfl (by kernel_rfl) (by kernel_rfl) (by kernel_rfl) (fun _ _ _ h => h) (Or.inl ⟨by rfl, ?_⟩) (by assumption) ?_; rotate_left; (focus (intro wq hSw; (try dsimp only at hSw); go_simp; try with_reducible rfl)); (try simp only [Act.put, List.setIfInBounds_toArray, List.set_cons_zero, List.set_cons_succ])); (refine takeL (i := 13) (v := ?_) rfl (by kernel_rfl) (by kernel_rfl) (by kernel_rfl) (fun _ _ _ h => h) (Or.inl ⟨by rfl, ?_⟩) (by assumption) ?_; rotate_left; (focus (intro wq hSw; (try dsimp only at hSw); go_simp; try with_reducible rfl)); (try simp only [Act.put, List.setIfInBounds_toArray, List.set_cons_zero, List.set_cons_succ])); (refine takeL (i := 14) (v := ?_) rfl (by kernel_rfl) (by kernel_rfl) (by kernel_rfl) (fun _ _ _ h => h) (Or.inl ⟨by rfl, ?_⟩) (by assumption) ?_; rotate_left; (focus (intro wq hSw; (try dsimp only at hSw); go_simp; try with_reducible rfl)); (try simp only [Act.put, List.setIfInBounds_toArray, List.set_cons_zero, List.set_cons_succ])); refine doneL (by kernel_rfl) ?_; go_upto_region 11 with (fail); refine wp_region_held_drew (S := fun W => Ext ws W) (by kernel_rfl) HE2.out.drew (fun hHeld => ?_); (refine takeL (i := 0) (v := ?_) rfl (by kernel_rfl) (by kernel_rfl) (by kernel_rfl) (fun _ _ _ h => h) (Or.inl ⟨by rfl, ?_⟩) (by assumption) ?_; rotate_left; (focus (intro wq hSw; (try dsimp only at hSw); go_simp; try with_reducible rfl)); (try simp only [Act.put, List.setIfInBounds_toArray, List.set_cons_zero, List.set_cons_succ])); (refine takeL (i := 1) (v := ?_) rfl (by kernel_rfl) (by kernel_rfl) (by kernel_rfl) (fun _ _ _ h => h) (Or.inl ⟨by rfl, ?_⟩) (by assumption) ?_; rotate_left; (focus (intro wq hSw; (try dsimp only at hSw); go_simp; try with_reducible rfl)); (try simp only [Act.put, List.setIfInBounds_toArray, List.set_cons_zero, List.set_cons_succ])); (refine takeL (i := 2) (v := ?_) rfl (by kernel_rfl) (by kernel_rfl) (by kernel_rfl) (fun _ _ _ h => h) (Or.inl ⟨by rfl, ?_⟩) (by assumption) ?_; rotate_left; (focus (intro wq hSw; (try dsimp only at hSw); go_simp; try with_reducible rfl)); (try simp only [Act.put, List.setIfInBounds_toArray, List.set_cons_zero, List.set_cons_succ])); (refine takeL (i := 3) (v := ?_) rfl (by kernel_rfl) (by kernel_rfl) (by kernel_rfl) (fun _ _ _ h => h) (Or.inl ⟨by rfl, ?_⟩) (by assumption) ?_; rotate_left; (focus (intro wq hSw; obtain ⟨hc1, hc2, hc3⟩ := HY1.out wq hSw; clear hSw; go_simp; try with_reducible rfl)); (try simp only [Act.put, List.setIfInBounds_toArray, List.set_cons_zero, List.set_cons_succ])); (refine takeL (i := 4) (v := ?_) rfl (by kernel_rfl) (by kernel_rfl) (by kernel_rfl) (fun _ _ _ h => h) (Or.inl ⟨by rfl, ?_⟩) (by assumption) ?_; rotate_left; (focus (intro wq hSw; (try dsimp only at hSw); go_simp; try with_reducible rfl)); (try simp only [Act.put, List.setIfInBounds_toArray, List.set_cons_zero, List.set_cons_succ])); (refine takeL (i := 5) (v := ?_) rfl (by kernel_rfl) (by kernel_rfl) (by kernel_rfl) (fun _ _ _ h => h) (Or.inl ⟨by rfl, ?_⟩) (by assumption) ?_; rotate_left; (focus (intro wq hSw; (try dsimp only at hSw); go_simp; try with_reducible rfl)); (try simp only [Act.put, List.setIfInBounds_toArray, List.set_cons_zero, List.set_cons_succ])); (refine takeL (i := 6) (v := ?_) rfl (by kernel_rfl) (by kernel_rfl) (by kernel_rfl) (fun _ _ _ h => h) (Or.inl ⟨by rfl, ?_⟩) (by assumption) ?_; rotate_left; (focus (intro wq hSw; (try dsimp only at hSw); go_simp; try with_reducible rfl)); (try simp only [Act.put, List.setIfInBounds_toArray, List.set_cons_zero, List.set_cons_succ])); (refine takeL (i := 7) (v := ?_) rfl (by kernel_rfl) (by kernel_rfl) (by kernel_rfl) (fun _ _ _ h => h) (Or.inl ⟨by rfl, ?_⟩) (by assumption) ?_; rotate_left; (focus (intro wq hSw; have hcc := HX5.out wq hSw; clear hSw; go_simp; try with_reducible rfl)); (try simp only [Act.put, List.setIfInBounds_toArray, List.set_cons_zero, List.set_cons_succ])); (refine consL (i := 8) (by kernel_rfl) rfl (fun K hK => ?_); go_simp); go_at_call 21; refine (rHide_c n1 x ⟨s1a, s1n, s1c⟩ ⟨v1a, v1n, v1c⟩ gs1 Ls1 zs1 _ (HSH.out.ext HE2.out.drew) H6.out HX64.out).mono ?_; unfold HidePost; rw [HQ.out])
            simp only
            rw [HRR.out]
            rintro e b3 (⟨h0, _⟩ | ⟨_, rb, rc, rfl, hB3, hx⟩)
            · exact absurd rfl h0
            have HE3 := Lib.hid (HE2.out.drew.trans hx)
            have HB3 := Lib.hid (And.intro (HB2.out.ext ((Ext.refl b2).drew.trans hx)) hB3)
            clear hx hB3
            (try go_wp2_with fail); refine hK.out _ _ ?_ (fun hHeld => ?_); rotate_left; clear hK K; rotate_right; (focus (exact HE3.out)); (try simp only [Act.put, List.setIfInBounds_toArray, List.set_cons_zero, List.set_cons_succ])
            ((refine takeL (i := 9) (v := ?_) rfl (by kernel_rfl) (by kernel_rfl) (by kernel_rfl) (fun _ _ _ h => h) (Or.inl ⟨by rfl, ?_⟩) (by assumption) ?_; rotate_left; (focus (intro wq hSw; (try dsimp only at hSw); go_simp; try with_reducible rfl)); (try simp only [Act.put, List.setIfInBounds_toArray, List.set_cons_zero, List.set_cons_succ])); (refine takeL (i := 10) (v := ?_) rfl (by kernel_rfl) (by kernel_rfl) (by kernel_rfl) (fun _ _ _ h => h) (Or.inl ⟨by rfl, ?_⟩) (by assumption) ?_; rotate_left; (focus (intro wq hSw; (try dsimp only at hSw); go_simp; try with_reducible rfl)); (try simp only [Act.put, List.setIfInBounds_toArray, List.set_cons_zero, List.set_cons_succ])); (refine takeL (i := 11) (v := ?_) rfl (by kernel_rfl) (by kernel_rfl) (by kernel_rfl) (fun _ _ _ h => h) (Or.inl ⟨by rfl, ?_⟩) (by assumption) ?_; rotate_left; (focus (intro wq hSw; (try dsimp only at hSw); go_simp; try with_reducible rfl)); (try simp only [Act.put, List.setIfInBounds_toArray, List.set_cons_zero, List.set_cons_succ])); (refine takeL (i := 12) (v := ?_) rfl (by kernel_rfl) (by kernel_rfl) (by kernel_rfl) (fun _ _ _ h => h) (Or.inl ⟨by rfl, ?_⟩) (by assumption) ?_; rotate_left; (focus (intro wq hSw; (try dsimp only at hSw); go_simp; try with_reducible rfl)); (try simp only [Act.put, List.setIfInBounds_toArray, List.set_cons_zero, List.set_cons_succ])); (refine takeL (i := 13) (v := ?_) rfl (by kernel_rfl) (by kernel_rfl) (by kernel_rfl) (fun _ _ _ h => h) (Or.inl ⟨by rfl, ?_⟩) (by assumption) ?_; rotate_left; (focus (intro wq hSw; (try dsimp only at hSw); go_simp; try with_reducible rfl)); (try simp only [Act.put, List.setIfInBounds_toArray, List.set_cons_zero, List.set_cons_succ])); refine doneL (by kernel_rfl) ?_)
            have hv0 : validE n1 Ls1 zs1 = 0 := by
              have h9 := HQ.out
              unfold hideE at h9
              split at h9
              · rename_i h8; exact absurd h9 h8
              · rename_i h8; omega
            have hml : Ls1.length = s1n := HSH.out.grps.2.1
            have HLAW := Lib.hid (show ∀ j, j < s1n → ((decide (1 ≤ zs1.getD j 0) && decide (zs1.getD j 0 < x)) = true → R.getD j false = true) ∧ (R.getD j false = true → dB Ls1 R j = false) from fun j hj => by rw [← HRR.out]; exact hide_law hv0 hml hj)
            have HVM := Lib.hid (And.intro hv0 (And.intro hml (few_of6 (H6.out hv0))))
            clear hv0 hml
            go_wp2_with fail
            refine (same_c _ _ s1n s1n s1n rc R R _ HB3.out.1 HB3.out.2 (by omega) (by omega)).mono ?_
            rw [decide_eq_true (rfl : R = R)]
            rintro e b4 ⟨rfl, hx⟩
            have HE4 := Lib.hid (HE3.out.trans hx)
            have HB4 := Lib.hid (HB3.out.1.ext hx)
            clear hx HB2 HB3
            go_wp2_with fail
            go_loopw [20] (fun jv wz => ∃ j : Nat, j ≤ s1n ∧ jv = .int .i64 (j : Int) ∧ Ext b4 wz) (fun jv _ => s1n - (intOf jv).toNat)
            case atStart => exact ⟨0, by omega, rfl, Ext.refl _⟩
            case round =>
              rename World => wz
              obtain ⟨j, hj, rfl, hE⟩ := hrel
              have HJ := Lib.hid (And.intro hE (HE4.out.trans hE))
              clear hE
              by_cases hjl : j < s1n
              · obtain ⟨z0, z1, z2⟩ := HY1.out wz HJ.out.2
                have j0 : (0 : Int) ≤ (j : Int) := by omega
                have j1 : (j : Int) < (s1n : Int) := by omega
                go_wp2_with fail
                refine (own_c n1 ⟨s1a, s1n, s1c⟩ ⟨v1a, v1n, v1c⟩ _).mono ?_
                rintro e c1 ⟨rfl, hx⟩
                have HF1 := Lib.hid (And.intro (HJ.out.1.trans hx) (HJ.out.2.trans hx))
                clear hx z0 z1 z2
                simp only [Sl.v]
                go_wp2_with fail
                refine (det_ok n1 ⟨s1a, s1n, s1c⟩ ⟨v1a, v1n, v1c⟩ gs1 Ls1 zs1 _ s1n s1n R j _ (HSH.out.ext HF1.out.2) (HB4.out.ext HF1.out.1) HVM.out.1 HVM.out.2.1.symm HVM.out.2.2 (by rw [HVM.out.2.1]; exact hjl)).mono ?_
                rintro e c2 ⟨rfl, hx⟩
                have HF2 := Lib.hid (And.intro (HF1.out.1.trans hx) (HF1.out.2.trans hx))
                clear hx
                obtain ⟨d, hd⟩ : ∃ d, dB Ls1 R j = d := ⟨_, rfl⟩
                obtain ⟨y, hy⟩ : ∃ y, R.getD j false = y := ⟨_, rfl⟩
                obtain ⟨z, hz⟩ : ∃ z, zs1.getD j 0 = z := ⟨_, rfl⟩
                rw [hd]
                have hlaw := HLAW.out j hjl
                rw [hd, hy, hz] at hlaw
                obtain ⟨_, _, _, hvl, _⟩ := validE_of HVM.out.1
                have hv1 := HSH.out.vals.1
                simp only at hv1
                have hv2 := HVM.out.2.1
                obtain ⟨vb, vo, rfl, _, hvc⟩ := (HSH.out.vals.keep HF2.out.2.ik).at j (by simp only; omega)
                rw [hz] at hvc
                obtain rfl : v1n = s1n := by omega
                obtain ⟨_, _, e, _, hbc⟩ := (HB4.out.ext HF2.out.1).at j hjl
                injection e with e; injection e with e1 e2
                subst e1; subst e2
                rw [hy, Nat.zero_add] at hbc
                obtain ⟨z0, z1, z2⟩ := HY1.out c2 HF2.out.2
                have x5 := HX5.out c2 HF2.out.2
                clear hd hy hz hvl hv1 hv2
                have HLW := Lib.hid hlaw
                clear hlaw
                go_upto_region 18 with (fail)
                by_cases d1 : 1 ≤ z
                · by_cases d2 : z < x
                  · have e1 : decide (1 ≤ z) = true := decide_eq_true d1
                    have e2 : decide (z < x) = true := decide_eq_true d2
                    obtain rfl : y = true := HLW.out.1 (by rw [e1, e2]; rfl)
                    obtain rfl : d = false := HLW.out.2 rfl
                    go_quiet (fail)
                    (go_wp2_with fail; go_roundw; (case rel => exact ⟨j + 1, by omega, by go_num, HF2.out.1.drewN nq⟩); (case measure => simp [intOf]; omega))
                  · have e1 : decide (1 ≤ z) = true := decide_eq_true d1
                    have e2 : decide (z < x) = false := decide_eq_false d2
                    clear d2
                    cases y with
                    | true =>
                      obtain rfl : d = false := HLW.out.2 rfl
                      go_quiet (fail)
                      (go_wp2_with fail; go_roundw; (case rel => exact ⟨j + 1, by omega, by go_num, HF2.out.1.drewN nq⟩); (case measure => simp [intOf]; omega))
                    | false =>
                      go_quiet (fail)
                      (go_wp2_with fail; go_roundw; (case rel => exact ⟨j + 1, by omega, by go_num, HF2.out.1.drewN nq⟩); (case measure => simp [intOf]; omega))
                · have e1 : decide (1 ≤ z) = false := decide_eq_false d1
                  clear d1
                  cases y with
                  | true =>
                    obtain rfl : d = false := HLW.out.2 rfl
                    go_quiet (fail)
                    (go_wp2_with fail; go_roundw; (case rel => exact ⟨j + 1, by omega, by go_num, HF2.out.1.drewN nq⟩); (case measure => simp [intOf]; omega))
                  | false =>
                    go_quiet (fail)
                    (go_wp2_with fail; go_roundw; (case rel => exact ⟨j + 1, by omega, by go_num, HF2.out.1.drewN nq⟩); (case measure => simp [intOf]; omega))
              · obtain rfl : j = s1n := by omega
                have HE5 := Lib.hid (HK.out.trans HJ.out.2)
                go_wp2_with fail
                go_roundw
                case rel => exact ⟨k + 1, by omega, by go_num, HE5.out⟩
                case measure => simp [intOf]; omega
          · have hq1 : (q == 0) = false := by simpa using hq0
            (go_upto_region 10 with (fail); refine wp_region_held_drew (S := fun W => Ext ws W) (by kernel_rfl) (Ext.refl ws).drew (fun hHeld => ?_); (refine takeL (i := 0) (v := ?_) rfl (by kernel_rfl) (by kernel_rfl) (by kernel_rfl) (fun _ _ _ h => h) (Or.inl ⟨by rfl, ?_⟩) (by assumption) ?_; rotate_left; (focus (intro wq hSw; (try dsimp only at hSw); go_simp; try with_reducible rfl)); (try simp only [Act.put, List.setIfInBounds_toArray, List.set_cons_zero, List.set_cons_succ])); (refine takeL (i := 1) (v := ?_) rfl (by kernel_rfl) (by kernel_rfl) (by kernel_rfl) (fun _ _ _ h => h) (Or.inl ⟨by rfl, ?_⟩) (by assumption) ?_; rotate_left; (focus (intro wq hSw; (try dsimp only at hSw); go_simp; try with_reducible rfl)); (try simp only [Act.put, List.setIfInBounds_toArray, List.set_cons_zero, List.set_cons_succ])); (refine takeL (i := 2) (v := ?_) rfl (by kernel_rfl) (by kernel_rfl) (by kernel_rfl) (fun _ _ _ h => h) (Or.inl ⟨by rfl, ?_⟩) (by assumption) ?_; rotate_left; (focus (intro wq hSw; (try dsimp only at hSw); go_simp; try with_reducible rfl)); (try simp only [Act.put, List.setIfInBounds_toArray, List.set_cons_zero, List.set_cons_succ])); (refine takeL (i := 3) (v := ?_) rfl (by kernel_rfl) (by kernel_rfl) (by kernel_rfl) (fun _ _ _ h => h) (Or.inl ⟨by rfl, ?_⟩) (by assumption) ?_; rotate_left; (focus (intro wq hSw; obtain ⟨hc1, hc2, hc3⟩ := HY1.out wq hSw; clear hSw; go_simp; try with_reducible rfl)); (try simp only [Act.put, List.setIfInBounds_toArray, List.set_cons_zero, List.set_cons_succ])); (refine takeL (i := 5) (v := ?_) rfl (by kernel_rfl) (by kernel_rfl) (by kernel_rfl) (fun _ _ _ h => h) (Or.inl ⟨by rfl, ?_⟩) (by assumption) ?_; rotate_left; (focus (intro wq hSw; (try dsimp only at hSw); go_simp; try with_reducible rfl)); (try simp only [Act.put, List.setIfInBounds_toArray, List.set_cons_zero, List.set_cons_succ])); (refine takeL (i := 6) (v := ?_) rfl (by kernel_rfl) (by kernel_rfl) (by kernel_rfl) (fun _ _ _ h => h) (Or.inl ⟨by rfl, ?_⟩) (by assumption) ?_; rotate_left; (focus (intro wq hSw; (try dsimp only at hSw); go_simp; try with_reducible rfl)); (try simp only [Act.put, List.setIfInBounds_toArray, List.set_cons_zero, List.set_cons_succ])); (refine takeL (i := 7) (v := ?_) rfl (by kernel_rfl) (by kernel_rfl) (by kernel_rfl) (fun _ _ _ h => h) (Or.inl ⟨by rfl, ?_⟩) (by assumption) ?_; rotate_left; (focus (intro wq hSw; (try dsimp only at hSw); go_simp; try with_reducible rfl)); (try simp only [Act.put, List.setIfInBounds_toArray, List.set_cons_zero, List.set_cons_succ])); (refine takeL (i := 8) (v := ?_) rfl (by kernel_rfl) (by kernel_rfl) (by kernel_rfl) (fun _ _ _ h => h) (Or.inl ⟨by rfl, ?_⟩) (by assumption) ?_; rotate_left; (focus (intro wq hSw; have hcc := HX5.out wq hSw; clear hSw; go_simp; try with_reducible rfl)); (try simp only [Act.put, List.setIfInBounds_toArray, List.set_cons_zero, List.set_cons_succ])); (refine consL (i := 4) (by kernel_rfl) rfl (fun K hK => ?_); go_simp); go_at_call 13; refine (own_c n1 ⟨s1a, s1n, s1c⟩ ⟨v1a, v1n, v1c⟩ _).mono ?_; rintro e b1 ⟨rfl, hx⟩; have HE1 := Lib.hid (HE0.out.trans hx); clear hx; simp only [Sl.v]; ((try go_wp2_with fail); refine hK.out _ _ ?_ (fun hHeld => ?_); rotate_left; clear hK K; rotate_right; (focus (exact HE1.out)); (try simp only [Act.put, List.setIfInBounds_toArray, List.set_cons_zero, List.set_cons_succ])); (refine consL (i := 9) (by kernel_rfl) rfl (fun K hK => ?_); go_simp); go_at_call 20; refine (Hide_c n1 x ⟨s1a, s1n, s1c⟩ ⟨v1a, v1n, v1c⟩ gs1 Ls1 zs1 _ (HSH.out.ext HE1.out) (fun hv => few_of6 (H6.out hv))).mono ?_; rw [HQ.out])
            rintro e b2 (⟨_, rfl, hx⟩ | ⟨h0, _⟩)
            rotate_left
            · exact absurd h0 hq0
            have HE2 := Lib.hid (HE1.out.trans hx)
            clear hx
            (try go_wp2_with fail); refine hK.out _ _ ?_ (fun hHeld => ?_); rotate_left; clear hK K; rotate_right; (focus (exact HE2.out)); (try simp only [Act.put, List.setIfInBounds_toArray, List.set_cons_zero, List.set_cons_succ])
            ((refine takeL (i := 10) (v := ?_) rfl (by kernel_rfl) (by kernel_rfl) (by kernel_rfl) (fun _ _ _ h => h) (Or.inl ⟨by rfl, ?_⟩) (by assumption) ?_; rotate_left; (focus (intro wq hSw; (try dsimp only at hSw); go_simp; try with_reducible rfl)); (try simp only [Act.put, List.setIfInBounds_toArray, List.set_cons_zero, List.set_cons_succ])); (refine takeL (i := 11) (v := ?_) rfl (by kernel_rfl) (by kernel_rfl) (by kernel_rfl) (fun _ _ _ h => h) (Or.inl ⟨by rfl, ?_⟩) (by assumption) ?_; rotate_left; (focus (intro wq hSw; (try dsimp only at hSw); go_simp; try with_reducible rfl)); (try simp only [Act.put, List.setIfInBounds_toArray, List.set_cons_zero, List.set_cons_succ])); (refine takeL (i := 12) (v := ?_) rfl (by kernel_rfl) (by kernel_rfl) (by kernel_rfl) (fun _ _ _ h => h) (Or.inl ⟨by rfl, ?_⟩) (by assumption) ?_; rotate_left; (focus (intro wq hSw; (try dsimp only at hSw); go_simp; try with_reducible rfl)); (try simp only [Act.put, List.setIfInBounds_toArray, List.set_cons_zero, List.set_cons_succ])); (refine takeL (i := 13) (v := ?_) rfl (by kernel_rfl) (by kernel_rfl) (by kernel_rfl) (fun _ _ _ h => h) (Or.inl ⟨by rfl, ?_⟩) (by assumption) ?_; rotate_left; (focus (intro wq hSw; (try dsimp only at hSw); go_simp; try with_reducible rfl)); (try simp only [Act.put, List.setIfInBounds_toArray, List.set_cons_zero, List.set_cons_succ])); (refine takeL (i := 14) (v := ?_) rfl (by kernel_rfl) (by kernel_rfl) (by kernel_rfl) (fun _ _ _ h => h) (Or.inl ⟨by rfl, ?_⟩) (by assumption) ?_; rotate_left; (focus (intro wq hSw; (try dsimp only at hSw); go_simp; try with_reducible rfl)); (try simp only [Act.put, List.setIfInBounds_toArray, List.set_cons_zero, List.set_cons_succ])); refine doneL (by kernel_rfl) ?_; go_upto_region 11 with (fail); refine wp_region_held_drew (S := fun W => Ext ws W) (by kernel_rfl) HE2.out.drew (fun hHeld => ?_); (refine takeL (i := 0) (v := ?_) rfl (by kernel_rfl) (by kernel_rfl) (by kernel_rfl) (fun _ _ _ h => h) (Or.inl ⟨by rfl, ?_⟩) (by assumption) ?_; rotate_left; (focus (intro wq hSw; (try dsimp only at hSw); go_simp; try with_reducible rfl)); (try simp only [Act.put, List.setIfInBounds_toArray, List.set_cons_zero, List.set_cons_succ])); (refine takeL (i := 1) (v := ?_) rfl (by kernel_rfl) (by kernel_rfl) (by kernel_rfl) (fun _ _ _ h => h) (Or.inl ⟨by rfl, ?_⟩) (by assumption) ?_; rotate_left; (focus (intro wq hSw; (try dsimp only at hSw); go_simp; try with_reducible rfl)); (try simp only [Act.put, List.setIfInBounds_toArray, List.set_cons_zero, List.set_cons_succ])); (refine takeL (i := 2) (v := ?_) rfl (by kernel_rfl) (by kernel_rfl) (by kernel_rfl) (fun _ _ _ h => h) (Or.inl ⟨by rfl, ?_⟩) (by assumption) ?_; rotate_left; (focus (intro wq hSw; (try dsimp only at hSw); go_simp; try with_reducible rfl)); (try simp only [Act.put, List.setIfInBounds_toArray, List.set_cons_zero, List.set_cons_succ])); (refine takeL (i := 3) (v := ?_) rfl (by kernel_rfl) (by kernel_rfl) (by kernel_rfl) (fun _ _ _ h => h) (Or.inl ⟨by rfl, ?_⟩) (by assumption) ?_; rotate_left; (focus (intro wq hSw; obtain ⟨hc1, hc2, hc3⟩ := HY1.out wq hSw; clear hSw; go_simp; try with_reducible rfl)); (try simp only [Act.put, List.setIfInBounds_toArray, List.set_cons_zero, List.set_cons_succ])); (refine takeL (i := 4) (v := ?_) rfl (by kernel_rfl) (by kernel_rfl) (by kernel_rfl) (fun _ _ _ h => h) (Or.inl ⟨by rfl, ?_⟩) (by assumption) ?_; rotate_left; (focus (intro wq hSw; (try dsimp only at hSw); go_simp; try with_reducible rfl)); (try simp only [Act.put, List.setIfInBounds_toArray, List.set_cons_zero, List.set_cons_succ])); (refine takeL (i := 5) (v := ?_) rfl (by kernel_rfl) (by kernel_rfl) (by kernel_rfl) (fun _ _ _ h => h) (Or.inl ⟨by rfl, ?_⟩) (by assumption) ?_; rotate_left; (focus (intro wq hSw; (try dsimp only at hSw); go_simp; try with_reducible rfl)); (try simp only [Act.put, List.setIfInBounds_toArray, List.set_cons_zero, List.set_cons_succ])); (refine takeL (i := 6) (v := ?_) rfl (by kernel_rfl) (by kernel_rfl) (by kernel_rfl) (fun _ _ _ h => h) (Or.inl ⟨by rfl, ?_⟩) (by assumption) ?_; rotate_left; (focus (intro wq hSw; (try dsimp only at hSw); go_simp; try with_reducible rfl)); (try simp only [Act.put, List.setIfInBounds_toArray, List.set_cons_zero, List.set_cons_succ])); (refine takeL (i := 7) (v := ?_) rfl (by kernel_rfl) (by kernel_rfl) (by kernel_rfl) (fun _ _ _ h => h) (Or.inl ⟨by rfl, ?_⟩) (by assumption) ?_; rotate_left; (focus (intro wq hSw; have hcc := HX5.out wq hSw; clear hSw; go_simp; try with_reducible rfl)); (try simp only [Act.put, List.setIfInBounds_toArray, List.set_cons_zero, List.set_cons_succ])); (refine consL (i := 8) (by kernel_rfl) rfl (fun K hK => ?_); go_simp); go_at_call 21; refine (rHide_c n1 x ⟨s1a, s1n, s1c⟩ ⟨v1a, v1n, v1c⟩ gs1 Ls1 zs1 _ (HSH.out.ext HE2.out.drew) H6.out HX64.out).mono ?_; unfold HidePost; rw [HQ.out])
            rintro e b3 (⟨_, rfl, hx⟩ | ⟨h0, _⟩)
            rotate_left
            · exact absurd h0 hq0
            have HE3 := Lib.hid (HE2.out.drew.trans hx)
            clear hx
            (try go_wp2_with fail); refine hK.out _ _ ?_ (fun hHeld => ?_); rotate_left; clear hK K; rotate_right; (focus (exact HE3.out)); (try simp only [Act.put, List.setIfInBounds_toArray, List.set_cons_zero, List.set_cons_succ])
            ((refine takeL (i := 9) (v := ?_) rfl (by kernel_rfl) (by kernel_rfl) (by kernel_rfl) (fun _ _ _ h => h) (Or.inl ⟨by rfl, ?_⟩) (by assumption) ?_; rotate_left; (focus (intro wq hSw; (try dsimp only at hSw); go_simp; try with_reducible rfl)); (try simp only [Act.put, List.setIfInBounds_toArray, List.set_cons_zero, List.set_cons_succ])); (refine takeL (i := 10) (v := ?_) rfl (by kernel_rfl) (by kernel_rfl) (by kernel_rfl) (fun _ _ _ h => h) (Or.inl ⟨by rfl, ?_⟩) (by assumption) ?_; rotate_left; (focus (intro wq hSw; (try dsimp only at hSw); go_simp; try with_reducible rfl)); (try simp only [Act.put, List.setIfInBounds_toArray, List.set_cons_zero, List.set_cons_succ])); (refine takeL (i := 11) (v := ?_) rfl (by kernel_rfl) (by kernel_rfl) (by kernel_rfl) (fun _ _ _ h => h) (Or.inl ⟨by rfl, ?_⟩) (by assumption) ?_; rotate_left; (focus (intro wq hSw; (try dsimp only at hSw); go_simp; try with_reducible rfl)); (try simp only [Act.put, List.setIfInBounds_toArray, List.set_cons_zero, List.set_cons_succ])); (refine takeL (i := 12) (v := ?_) rfl (by kernel_rfl) (by kernel_rfl) (by kernel_rfl) (fun _ _ _ h => h) (Or.inl ⟨by rfl, ?_⟩) (by assumption) ?_; rotate_left; (focus (intro wq hSw; (try dsimp only at hSw); go_simp; try with_reducible rfl)); (try simp only [Act.put, List.setIfInBounds_toArray, List.set_cons_zero, List.set_cons_succ])); (refine takeL (i := 13) (v := ?_) rfl (by kernel_rfl) (by kernel_rfl) (by kernel_rfl) (fun _ _ _ h => h) (Or.inl ⟨by rfl, ?_⟩) (by assumption) ?_; rotate_left; (focus (intro wq hSw; (try dsimp only at hSw); go_simp; try with_reducible rfl)); (try simp only [Act.put, List.setIfInBounds_toArray, List.set_cons_zero, List.set_cons_succ])); refine doneL (by kernel_rfl) ?_)
            go_wp2_with fail
            refine (same_c none none 0 0 0 0 [] [] _ ⟨rfl, .inl rfl⟩ ⟨rfl, .inl rfl⟩ (by omega) (by omega)).mono ?_
            rw [decide_eq_true (rfl : ([] : List Bool) = [])]
            rintro e b4 ⟨rfl, hx⟩
            have HE4 := Lib.hid (HE3.out.trans hx)
            clear hx
            go_wp2_with fail
            go_loopw [20] (fun jv wz => jv = .int .i64 0 ∧ Ext b4 wz) (fun _ _ => 0)
            case atStart => exact ⟨rfl, Ext.refl _⟩
            case round =>
              rename World => wz
              obtain ⟨rfl, hE⟩ := hrel
              have HE5 := Lib.hid (HK.out.trans (HE4.out.trans hE))
              clear hE
              go_wp2_with fail
              go_roundw
              case rel => exact ⟨k + 1, by omega, by go_num, HE5.out⟩
              case measure => simp [intOf]; omega
        · obtain rfl : k = 2 := by omega
          have HE4 := Lib.hid (HI.out.2.trans HK.out)
          go_wp2_with fail
          go_roundw
          case rel => exact ⟨i + 1, by omega, by go_num, HE4.out⟩
          case measure => simp [intOf]; omega
    · obtain rfl : i = 2 := by omega
      have HE4 := Lib.hid HI.out.1.ext
      go_wp2_with fail
      refine (lives_c _).mono ?_
      rintro e w9 ⟨rfl, hx9⟩
      have E9 := HE4.out.trans hx9
      clear hx9
      go_wp2_with fail
      go_ret
      exact ⟨rfl, E9⟩
end Go.Proofs.Ytkoidookanmknaa
