/- meresmanlaw30: ShieldDetermines, the walk. -/
import Derived.Test.YtkoidookanmknaaV46
import Derived.Test.YtkoidookanmknaaV48
namespace Go.Proofs.Ytkoidookanmknaa
set_option linter.unusedSimpArgs false
set_option linter.unusedVariables false
open Go.RowKit

theorem few_of6 {Ls : List (List Int)} (h : ∀ k x, x ∈ Ls.getD k [] → x < 6) : FewOK Ls := .inr fun k x hx => by have := h k x hx; omega
theorem cells6 {n : Int} {Ls : List (List Int)} {zs : List Int} (hv : validE n Ls zs = 0) (hn : n ≤ 6) (k : Nat) (x : Int) (hx : x ∈ Ls.getD k []) : x < 6 := by
  obtain ⟨_, _, _, _, h5⟩ := validE_of hv
  by_cases hk : k < Ls.length
  · obtain ⟨_, hc⟩ := item_cells (h5 k hk)
    obtain ⟨j, hj, rfl⟩ := List.getElem_of_mem hx
    have := (hc j hj).2
    rw [getD_get hj] at this
    omega
  · rw [List.getD_eq_getElem?_getD, List.getElem?_eq_none (by omega)] at hx
    simp at hx
/-- A sheet, as an element of a list of sheets. -/
structure PkI (W : World) (A o : Nat) (n : Int) (ss vs : Sl) (gs : List Sl) (Ls : List (List Int)) (zs : List Int) : Prop where
  c0 : W.cell? ⟨A, o, none⟩ = some (.int .i64 n)
  c1 : W.cell? ⟨A, o + 1, none⟩ = some ss.v
  c2 : W.cell? ⟨A, o + 2, none⟩ = some vs.v
  sh : ShIn W n ss vs gs Ls zs
theorem PkI.keep {W W' : World} {A o : Nat} {n : Int} {ss vs : Sl} {gs : List Sl} {Ls : List (List Int)} {zs : List Int} (h : PkI W A o n ss vs gs Ls zs) (k : Ext W W') : PkI W' A o n ss vs gs Ls zs :=
  ⟨k.cell h.c0, k.cell h.c1, k.cell h.c2, h.sh.ext k⟩
/-- Two sheets: the one, and one that is spoilt. -/
structure DtI (w W : World) (X A N : Nat) (ss vs : Sl) (gs : List Sl) (Ls : List (List Int)) (zs : List Int) (n2 : Int) (ss2 vs2 : Sl) (gs2 : List Sl) (Ls2 : List (List Int)) (zs2 : List Int) : Prop where
  ext : Ext w W
  box : Blk W X #[.int .i64 (N : Int), ss.v, vs.v] 25
  p1 : PkI W A 0 N ss vs gs Ls zs
  p2 : PkI W A 3 n2 ss2 vs2 gs2 Ls2 zs2
theorem DtI.keep {w W W' : World} {X A N : Nat} {ss vs : Sl} {gs : List Sl} {Ls : List (List Int)} {zs : List Int} {n2 : Int} {ss2 vs2 : Sl} {gs2 : List Sl} {Ls2 : List (List Int)} {zs2 : List Int} (h : DtI w W X A N ss vs gs Ls zs n2 ss2 vs2 gs2 Ls2 zs2) (k : Ext W W') : DtI w W' X A N ss vs gs Ls zs n2 ss2 vs2 gs2 Ls2 zs2 :=
  ⟨h.ext.trans k, h.box.ext k, h.p1.keep k, h.p2.keep k⟩
theorem DtI.pick {w W : World} {X A N : Nat} {ss vs : Sl} {gs : List Sl} {Ls : List (List Int)} {zs : List Int} {n2 : Int} {ss2 vs2 : Sl} {gs2 : List Sl} {Ls2 : List (List Int)} {zs2 : List Int} (h : DtI w W X A N ss vs gs Ls zs n2 ss2 vs2 gs2 Ls2 zs2)
    (hv : validE N Ls zs = 0) (hN : N ≤ 6) (hor : n2 = N ∨ Ls2 = Ls) (hl : Ls.length ≤ 9) (hl2 : ss2.n ≤ 900) (i : Nat) (hi : i < 2) :
    ∃ (n1 : Int) (ss1 vs1 : Sl) (gs1 : List Sl) (Ls1 : List (List Int)) (zs1 : List Int), PkI W A (i * 3) n1 ss1 vs1 gs1 Ls1 zs1 ∧ (validE n1 Ls1 zs1 = 0 → ∀ k x, x ∈ Ls1.getD k [] → x < 6) ∧ ss1.n ≤ 900 := by
  have h01 : i = 0 ∨ i = 1 := by omega
  rcases h01 with rfl | rfl
  · exact ⟨_, _, _, _, _, _, h.p1, fun hv k x hx => cells6 hv (by omega) k x hx, by have := h.p1.sh.grps.2.1; omega⟩
  · refine ⟨_, _, _, _, _, _, h.p2, fun hv2 k x hx => ?_, hl2⟩
    rcases hor with e | e
    · exact cells6 hv2 (by omega) k x hx
    · rw [e] at hx; exact cells6 hv (by omega) k x hx
set_option maxRecDepth 100000 in
set_option maxHeartbeats 4000000 in
theorem walkDetermines (a0 : Option Addr) (n c : Nat) (xs : List Int) (a1 a2 a3 a4 a5 : Int) (w : World) (h0 : Ints w a0 n xs) (h1 : Int64 a1) (h2 : Int64 a2) (h3 : Int64 a3) (h4 : Int64 a4) (h5 : Int64 a5) :
    Calls Try.prog 3 #[.slice a0 n c, .int .i64 a1, .int .i64 a2, .int .i64 a3, .int .i64 a4, .int .i64 a5] w fun e w' => e = .returned (.bool true) ∧ Ext w w' := by
  have H0 := Lib.hid h0; have H1 := Lib.hid h1; have H2 := Lib.hid h2; have H3 := Lib.hid h3; have H4 := Lib.hid h4; have H5 := Lib.hid h5
  clear h0 h1 h2 h3 h4 h5
  go_enter Try.func3, Try.ntmps3
  go_wp2_with fail
  refine (Some_c a0 n c xs _ H0.out).mono ?_
  rintro e w1 ⟨hE1, N, ss, vs, gs, Ls, zs, rfl, hSh, hV, hN1, hN6, hL1, hL9⟩
  obtain ⟨sa, sn, sc⟩ := ss
  obtain ⟨va, vn, vc⟩ := vs
  simp only [Sl.v]
  obtain ⟨X, hX⟩ : ∃ X, w1.heap.size = X := ⟨_, rfl⟩
  have hsn : sn = Ls.length := hSh.grps.2.1.symm
  have HS := Lib.hid (And.intro hE1 hSh)
  have HV := Lib.hid (And.intro hV hsn)
  have hs1 : 1 ≤ sn := by omega
  have hs9 : sn ≤ 9 := by omega
  clear hE1 hSh hV hsn
  go_upto_region 2 with (fail)
  refine wp_gen (fun W => Ext w W ∧ ShIn W N ⟨sa, sn, sc⟩ ⟨va, vn, vc⟩ gs Ls zs ∧ Blk W X #[.int .i64 (N : Int), .slice sa sn sc, .slice va vn vc] 25) ⟨HS.out.1.alloc _, HS.out.2.ext ((Ext.refl w1).alloc _), Blk.at _ _ hX.symm⟩ ?_
  clear hX HS
  intro W0 hS
  have hSt : W0.cell? ⟨X, 0, none⟩ = some (.int .i64 (N : Int)) ∧ W0.cell? ⟨X, 1, none⟩ = some (.slice sa sn sc) ∧ W0.cell? ⟨X, 2, none⟩ = some (.slice va vn vc) := ⟨hS.2.2.cell 0, hS.2.2.cell 1, hS.2.2.cell 2⟩
  have HS := Lib.hid hS
  have HSt := Lib.hid hSt
  clear hS
  refine wp_region_E (fun W => W.cell? ⟨X, 0, none⟩ = some (.int .i64 (N : Int)) ∧ W.cell? ⟨X, 1, none⟩ = some (.slice sa sn sc) ∧ W.cell? ⟨X, 2, none⟩ = some (.slice va vn vc)) [] (by kernel_rfl) hSt (fun _ => ?_)
  have hSt' : W0.drew.cell? ⟨X, 0, none⟩ = some (.int .i64 (N : Int)) ∧ W0.drew.cell? ⟨X, 1, none⟩ = some (.slice sa sn sc) ∧ W0.drew.cell? ⟨X, 2, none⟩ = some (.slice va vn vc) := hSt
  refine takeE (i := 0) (v := ?_) rfl (by kernel_rfl) (by kernel_rfl) (by kernel_rfl) (fun _ _ _ h => h) (by kernel_rfl) (by kernel_rfl) (Or.inl ⟨by rfl, ?_⟩) (by assumption) ?_; rotate_left; (focus (intro wq hSw; obtain ⟨hSa, hSb, hSc⟩ := hSw; go_simp; try with_reducible rfl)); (try simp only [Act.put, List.setIfInBounds_toArray, List.set_cons_zero, List.set_cons_succ])
  refine takeE (i := 1) (v := ?_) rfl (by kernel_rfl) (by kernel_rfl) (by kernel_rfl) (fun _ _ _ h => h) (by kernel_rfl) (by kernel_rfl) (Or.inl ⟨by rfl, ?_⟩) (by assumption) ?_; rotate_left; (focus (intro wq hSw; obtain ⟨hSa, hSb, hSc⟩ := hSw; go_simp; try with_reducible rfl)); (try simp only [Act.put, List.setIfInBounds_toArray, List.set_cons_zero, List.set_cons_succ])
  refine takeP (i := 2) (v := ?_) rfl (by kernel_rfl) (by kernel_rfl) (by kernel_rfl) (fun _ _ _ h => h) (Or.inl ⟨by rfl, ?_⟩) ?_; rotate_left; (focus (intro wq hSw; clear hSw; go_simp; try with_reducible rfl)); (try simp only [Act.put, List.setIfInBounds_toArray, List.set_cons_zero, List.set_cons_succ])
  refine takeP (i := 3) (v := ?_) rfl (by kernel_rfl) (by kernel_rfl) (by kernel_rfl) (fun _ _ _ h => h) (Or.inl ⟨by rfl, ?_⟩) ?_; rotate_left; (focus (intro wq hSw; clear hSw; go_simp; try with_reducible rfl)); (try simp only [Act.put, List.setIfInBounds_toArray, List.set_cons_zero, List.set_cons_succ])
  refine takeP (i := 4) (v := ?_) rfl (by kernel_rfl) (by kernel_rfl) (by kernel_rfl) (fun _ _ _ h => h) (Or.inl ⟨by rfl, ?_⟩) ?_; rotate_left; (focus (intro wq hSw; clear hSw; go_simp; try with_reducible rfl)); (try simp only [Act.put, List.setIfInBounds_toArray, List.set_cons_zero, List.set_cons_succ])
  refine consE (i := 5) (by kernel_rfl) rfl (fun K hK => ?_)
  go_simp
  go_at_call 11
  refine (Spoilt_c N ⟨sa, sn, sc⟩ ⟨va, vn, vc⟩ gs Ls zs a2 a3 a4 _ (HS.out.2.1.ext (Ext.refl W0).drew) HV.out.1 hN1 hN6 hL1 hL9 H2.out H3.out H4.out).mono ?_
  rintro e w2 ⟨hx2, n2, ⟨s2a, s2n, s2c⟩, ⟨v2a, v2n, v2c⟩, gs2, Ls2, zs2, rfl, hSh2, hn2, hor, hl2⟩
  have hE2 : Ext W0 w2 := (Ext.refl W0).drew.trans hx2
  have HS2 := Lib.hid (And.intro hE2 (And.intro hSh2 (And.intro hn2 (And.intro hor hl2))))
  clear hx2 hE2 hSh2 hn2 hor
  simp only [Sl.v]
  go_wp2_with fail
  refine hK.out _ _ ?_ (fun _ => ?_); rotate_left; clear hK K; rotate_right; (focus (exact .inr (.inl ⟨HS2.out.1.cell HSt.out.1, HS2.out.1.cell HSt.out.2.1, HS2.out.1.cell HSt.out.2.2⟩))); (try simp only [Act.put, List.setIfInBounds_toArray, List.set_cons_zero, List.set_cons_succ])
  refine consE (i := 6) (by kernel_rfl) rfl (fun K hK => ?_)
  go_simp
  refine hK.out _ _ ?_ (fun _ => ?_); rotate_left; clear hK K; rotate_right; (focus (exact .inr (.inl ⟨(HS2.out.1.alloc _).cell HSt.out.1, (HS2.out.1.alloc _).cell HSt.out.2.1, (HS2.out.1.alloc _).cell HSt.out.2.2⟩))); (try simp only [Act.put, List.setIfInBounds_toArray, List.set_cons_zero, List.set_cons_succ])
  refine takeP (i := 7) (v := ?_) rfl (by kernel_rfl) (by kernel_rfl) (by kernel_rfl) (fun _ _ _ h => h) (Or.inl ⟨by rfl, ?_⟩) ?_; rotate_left; (focus (intro wq hSw; clear hSw; go_simp; try with_reducible rfl)); (try simp only [Act.put, List.setIfInBounds_toArray, List.set_cons_zero, List.set_cons_succ])
  refine doneE (by kernel_rfl) ?_ _
  go_upto_region 3 with (fail)
  obtain ⟨A, hA⟩ : ∃ A, w2.heap.size = A := ⟨_, rfl⟩
  have hbA := Blk.at (w := w2) #[.int .i64 (N : Int), .slice sa sn sc, .slice va vn vc, .int .i64 n2, .slice s2a s2n s2c, .slice v2a v2n v2c] 25 hA.symm
  have hEA : Ext W0 (w2.alloc (.cells #[.int .i64 (N : Int), .slice sa sn sc, .slice va vn vc, .int .i64 n2, .slice s2a s2n s2c, .slice v2a v2n v2c] 25)) := HS2.out.1.alloc _
  rw [hA]
  refine wp_gen (fun W => DtI w W X A N ⟨sa, sn, sc⟩ ⟨va, vn, vc⟩ gs Ls zs n2 ⟨s2a, s2n, s2c⟩ ⟨v2a, v2n, v2c⟩ gs2 Ls2 zs2)
    ⟨HS.out.1.trans hEA, HS.out.2.2.ext hEA, ⟨hbA.cell 0, hbA.cell 1, hbA.cell 2, HS.out.2.1.ext hEA⟩, ⟨hbA.cell 3, hbA.cell 4, hbA.cell 5, HS2.out.2.1.ext ((Ext.refl w2).alloc _)⟩⟩ ?_
  have HO := Lib.hid (And.intro HS2.out.2.2.1 (And.intro HS2.out.2.2.2.1 HS2.out.2.2.2.2))
  clear HS HS2 HSt hSt hSt' hbA hEA hA hl2
  intro W1 hD
  have HD := Lib.hid hD
  clear hD
  go_wp2_with fail
  go_loopw [15] (fun iv ws => ∃ i : Nat, i ≤ 2 ∧ iv = .int .i64 (i : Int) ∧ Ext W1 ws) (fun iv _ => 2 - (intOf iv).toNat)
  case atStart => exact ⟨0, by omega, rfl, Ext.refl _⟩
  case round =>
    obtain ⟨i, hi, rfl, hE⟩ := hrel
    have HI := Lib.hid (And.intro (HD.out.keep hE) hE)
    clear hE
    by_cases hlt : i < 2
    · obtain ⟨n1, ⟨s1a, s1n, s1c⟩, ⟨v1a, v1n, v1c⟩, gs1, Ls1, zs1, hP, h61, hl1⟩ := HI.out.1.pick HV.out.1 hN6 HO.out.2.1 hL9 HO.out.2.2 i hlt
      have HP := Lib.hid hP
      have H6 := Lib.hid h61
      simp only at hl1
      clear h61
      have HX1 := Lib.hid (show ∀ W, Ext wr W → W.cell? ⟨A, i * 3, none⟩ = some (.int .i64 n1) ∧ W.cell? ⟨A, i * 3 + 1, none⟩ = some (.slice s1a s1n s1c) ∧ W.cell? ⟨A, i * 3 + 2, none⟩ = some (.slice v1a v1n v1c) from fun W e => ⟨e.cell HP.out.c0, e.cell HP.out.c1, e.cell HP.out.c2⟩)
      clear hP
      have i0 : (0 : Int) ≤ (i : Int) := by omega
      have i1 : (i : Int) < 2 := by omega
      go_upto_region 6 with (fail)
      refine wp_region_held_drew (S := fun W => Ext wr W) (by kernel_rfl) (Ext.refl wr).drew (fun hHeld => ?_)
      refine takeL (i := 0) (v := ?_) rfl (by kernel_rfl) (by kernel_rfl) (by kernel_rfl) (fun _ _ _ h => h) (Or.inl ⟨by rfl, ?_⟩) (by assumption) ?_; rotate_left; (focus (intro wq hSw; (try dsimp only at hSw); go_simp; try with_reducible rfl)); (try simp only [Act.put, List.setIfInBounds_toArray, List.set_cons_zero, List.set_cons_succ])
      refine takeL (i := 1) (v := ?_) rfl (by kernel_rfl) (by kernel_rfl) (by kernel_rfl) (fun _ _ _ h => h) (Or.inl ⟨by rfl, ?_⟩) (by assumption) ?_; rotate_left; (focus (intro wq hSw; (try dsimp only at hSw); go_simp; try with_reducible rfl)); (try simp only [Act.put, List.setIfInBounds_toArray, List.set_cons_zero, List.set_cons_succ])
      refine takeL (i := 2) (v := ?_) rfl (by kernel_rfl) (by kernel_rfl) (by kernel_rfl) (fun _ _ _ h => h) (Or.inl ⟨by rfl, ?_⟩) (by assumption) ?_; rotate_left; (focus (intro wq hSw; (try dsimp only at hSw); go_simp; try with_reducible rfl)); (try simp only [Act.put, List.setIfInBounds_toArray, List.set_cons_zero, List.set_cons_succ])
      refine takeL (i := 3) (v := ?_) rfl (by kernel_rfl) (by kernel_rfl) (by kernel_rfl) (fun _ _ _ h => h) (Or.inl ⟨by rfl, ?_⟩) (by assumption) ?_; rotate_left; (focus (intro wq hSw; obtain ⟨hc1, hc2, hc3⟩ := HX1.out wq hSw; clear hSw; go_simp; try with_reducible rfl)); (try simp only [Act.put, List.setIfInBounds_toArray, List.set_cons_zero, List.set_cons_succ])
      refine takeL (i := 6) (v := ?_) rfl (by kernel_rfl) (by kernel_rfl) (by kernel_rfl) (fun _ _ _ h => h) (Or.inl ⟨by rfl, ?_⟩) (by assumption) ?_; rotate_left; (focus (intro wq hSw; (try dsimp only at hSw); go_simp; try with_reducible rfl)); (try simp only [Act.put, List.setIfInBounds_toArray, List.set_cons_zero, List.set_cons_succ])
      refine takeL (i := 7) (v := ?_) rfl (by kernel_rfl) (by kernel_rfl) (by kernel_rfl) (fun _ _ _ h => h) (Or.inl ⟨by rfl, ?_⟩) (by assumption) ?_; rotate_left; (focus (intro wq hSw; (try dsimp only at hSw); go_simp; try with_reducible rfl)); (try simp only [Act.put, List.setIfInBounds_toArray, List.set_cons_zero, List.set_cons_succ])
      refine takeL (i := 8) (v := ?_) rfl (by kernel_rfl) (by kernel_rfl) (by kernel_rfl) (fun _ _ _ h => h) (Or.inl ⟨by rfl, ?_⟩) (by assumption) ?_; rotate_left; (focus (intro wq hSw; (try dsimp only at hSw); go_simp; try with_reducible rfl)); (try simp only [Act.put, List.setIfInBounds_toArray, List.set_cons_zero, List.set_cons_succ])
      refine takeL (i := 9) (v := ?_) rfl (by kernel_rfl) (by kernel_rfl) (by kernel_rfl) (fun _ _ _ h => h) (Or.inl ⟨by rfl, ?_⟩) (by assumption) ?_; rotate_left; (focus (intro wq hSw; obtain ⟨hc1, hc2, hc3⟩ := HX1.out wq hSw; clear hSw; go_simp; try with_reducible rfl)); (try simp only [Act.put, List.setIfInBounds_toArray, List.set_cons_zero, List.set_cons_succ])
      have hE0 : Ext wr wr.drew := (Ext.refl wr).drew
      have HE0 := Lib.hid hE0
      clear hE0
      refine consL (i := 4) (by kernel_rfl) rfl (fun K hK => ?_); go_simp
      go_at_call 13
      refine (own_c n1 ⟨s1a, s1n, s1c⟩ ⟨v1a, v1n, v1c⟩ _).mono ?_
      rintro e b1 ⟨rfl, hx⟩
      have HE1 := Lib.hid (HE0.out.trans hx)
      clear hx
      simp only [Sl.v]
      (try go_wp2_with fail); refine hK.out _ _ ?_ (fun hHeld => ?_); rotate_left; clear hK K; rotate_right; (focus (exact HE1.out)); (try simp only [Act.put, List.setIfInBounds_toArray, List.set_cons_zero, List.set_cons_succ])
      obtain ⟨v, hv⟩ : ∃ v, validE n1 Ls1 zs1 = v := ⟨_, rfl⟩
      have HVE := Lib.hid hv
      clear hv
      refine consL (i := 5) (by kernel_rfl) rfl (fun K hK => ?_); go_simp
      go_at_call 12
      refine (Valid_c n1 ⟨s1a, s1n, s1c⟩ ⟨v1a, v1n, v1c⟩ gs1 Ls1 zs1 _ (HP.out.sh.ext HE1.out)).mono ?_
      rintro e b2 ⟨rfl, hx⟩
      rw [HVE.out]
      have HE2 := Lib.hid (HE1.out.trans hx)
      clear hx
      (try go_wp2_with fail); refine hK.out _ _ ?_ (fun hHeld => ?_); rotate_left; clear hK K; rotate_right; (focus (exact HE2.out)); (try simp only [Act.put, List.setIfInBounds_toArray, List.set_cons_zero, List.set_cons_succ])
      refine consL (i := 10) (by kernel_rfl) rfl (fun K hK => ?_); go_simp
      go_at_call 14
      refine (rvalid_c n1 ⟨s1a, s1n, s1c⟩ ⟨v1a, v1n, v1c⟩ gs1 Ls1 zs1 _ (HP.out.sh.ext HE2.out)).mono ?_
      rintro e b3 ⟨rfl, hx⟩
      rw [HVE.out]
      have HE3 := Lib.hid (HE2.out.trans hx)
      clear hx
      (try go_wp2_with fail); refine hK.out _ _ ?_ (fun hHeld => ?_); rotate_left; clear hK K; rotate_right; (focus (exact HE3.out)); (try simp only [Act.put, List.setIfInBounds_toArray, List.set_cons_zero, List.set_cons_succ])
      refine takeL (i := 11) (v := ?_) rfl (by kernel_rfl) (by kernel_rfl) (by kernel_rfl) (fun _ _ _ h => h) (Or.inl ⟨by rfl, ?_⟩) (by assumption) ?_; rotate_left; (focus (intro wq hSw; (try dsimp only at hSw); go_simp; try with_reducible rfl)); (try simp only [Act.put, List.setIfInBounds_toArray, List.set_cons_zero, List.set_cons_succ])
      refine doneL (by kernel_rfl) ?_
      go_upto_region 8 with (fail)
      obtain ⟨z0, z1, z2⟩ := HX1.out b3 HE3.out
      go_wp2_with fail
      refine (Hidden_c n1 a1 ⟨s1a, s1n, s1c⟩ ⟨v1a, v1n, v1c⟩ _ H1.out (by simp only; omega)).mono ?_
      rintro e b4 ⟨ha, hc, rfl, hB, hx⟩
      simp only at hB
      have HB4 := Lib.hid (And.intro hB (HE3.out.trans hx))
      clear hB hx z0 z1 z2
      have x0 : b4.cell? ⟨X, 0, none⟩ = some (.int .i64 (N : Int)) := (HI.out.1.box.ext HB4.out.2).cell 0
      have x1 : b4.cell? ⟨X, 1, none⟩ = some (.slice sa sn sc) := (HI.out.1.box.ext HB4.out.2).cell 1
      have x2 : b4.cell? ⟨X, 2, none⟩ = some (.slice va vn vc) := (HI.out.1.box.ext HB4.out.2).cell 2
      go_upto_region 9 with (fail)
      go_wp2_with fail
      refine (Hidden_c N a1 ⟨sa, sn, sc⟩ ⟨va, vn, vc⟩ _ H1.out (by simp only; omega)).mono ?_
      rintro e b5 ⟨ka, kc, rfl, hB5, hx⟩
      simp only at hB5
      have HB5 := Lib.hid (show Bls b5 ha s1n (hidF a1 s1n) ∧ Bls b5 ka sn (hidF a1 sn) ∧ Ext wr b5 from ⟨HB4.out.1.ext hx, hB5, HB4.out.2.trans hx⟩)
      clear hB5 hx x0 x1 x2 HB4
      obtain ⟨C, hC⟩ : ∃ C, b5.heap.size = C := ⟨_, rfl⟩
      go_upto_region 10 with (fail)
      have hEC : Ext b5 (b5.alloc (.cells #[.slice ha s1n hc, .slice ka sn kc, .slice none 0 0] 34)) := (Ext.refl b5).alloc _
      refine wp_gen (fun W => Blk W C #[.slice ha s1n hc, .slice ka sn kc, .slice none 0 0] 34 ∧ Bls W ha s1n (hidF a1 s1n) ∧ Bls W ka sn (hidF a1 sn) ∧ Ext wr W) ⟨Blk.at _ _ hC.symm, HB5.out.1.ext hEC, HB5.out.2.1.ext hEC, HB5.out.2.2.trans hEC⟩ ?_
      clear hEC HB5 HE1 HE2 HE3 HE0 hC
      intro W5 hW
      have HW := Lib.hid hW
      clear hW
      go_wp2_with fail
      go_loopw [18] (fun kv ws => ∃ k : Nat, k ≤ 3 ∧ kv = .int .i64 (k : Int) ∧ Ext W5 ws) (fun kv _ => 3 - (intOf kv).toNat)
      case atStart => exact ⟨0, by omega, rfl, Ext.refl _⟩
      case round =>
        rename World => ws
        obtain ⟨k, hk, rfl, hE⟩ := hrel
        have HK := Lib.hid hE
        clear hE
        by_cases hkl : k < 3
        · have hpick : ∃ (la : Option Addr) (lm lc : Nat) (hs : List Bool), ws.cell? ⟨C, k, none⟩ = some (.slice la lm lc) ∧ Bls ws la lm hs ∧ lm ≤ 900 := by
            have hb := HW.out.1.ext HK.out
            have h3 : k = 0 ∨ k = 1 ∨ k = 2 := by omega
            rcases h3 with rfl | rfl | rfl
            · exact ⟨_, _, _, _, hb.cell 0, HW.out.2.1.ext HK.out, hl1⟩
            · exact ⟨_, _, _, _, hb.cell 1, HW.out.2.2.1.ext HK.out, by omega⟩
            · exact ⟨_, _, _, [], hb.cell 2, ⟨rfl, .inl rfl⟩, by omega⟩
          obtain ⟨la, lm, lc, hs, hlc, hLB, hlm⟩ := hpick
          have HL := Lib.hid (And.intro hLB hlm)
          have HX2 := Lib.hid (show ∀ W, Ext ws W → W.cell? ⟨C, k, none⟩ = some (.slice la lm lc) from fun W e => e.cell hlc)
          have HX3 := Lib.hid (show ∀ W, Ext ws W → W.cell? ⟨X, 1, none⟩ = some (.slice sa sn sc) from fun W e => (HI.out.1.box.ext (HW.out.2.2.2.trans (HK.out.trans e))).cell 1)
          have HX4 := Lib.hid (show ∀ W, Ext ws W → W.cell? ⟨A, i * 3 + 1, none⟩ = some (.slice s1a s1n s1c) from fun W e => (HX1.out W (HW.out.2.2.2.trans (HK.out.trans e))).2.1)
          clear hlc hLB hlm
          have k0 : (0 : Int) ≤ (k : Int) := by omega
          have k1 : (k : Int) < 3 := by omega
          go_upto_region 13 with (fail)
          refine wp_region_held_drew (S := fun W => Ext ws W) (by kernel_rfl) (Ext.refl ws).drew (fun hHeld => ?_)
          refine takeL (i := 0) (v := ?_) rfl (by kernel_rfl) (by kernel_rfl) (by kernel_rfl) (fun _ _ _ h => h) (Or.inl ⟨by rfl, ?_⟩) (by assumption) ?_; rotate_left; (focus (intro wq hSw; (try dsimp only at hSw); go_simp; try with_reducible rfl)); (try simp only [Act.put, List.setIfInBounds_toArray, List.set_cons_zero, List.set_cons_succ])
          refine takeL (i := 1) (v := ?_) rfl (by kernel_rfl) (by kernel_rfl) (by kernel_rfl) (fun _ _ _ h => h) (Or.inl ⟨by rfl, ?_⟩) (by assumption) ?_; rotate_left; (focus (intro wq hSw; (try dsimp only at hSw); go_simp; try with_reducible rfl)); (try simp only [Act.put, List.setIfInBounds_toArray, List.set_cons_zero, List.set_cons_succ])
          refine takeL (i := 2) (v := ?_) rfl (by kernel_rfl) (by kernel_rfl) (by kernel_rfl) (fun _ _ _ h => h) (Or.inl ⟨by rfl, ?_⟩) (by assumption) ?_; rotate_left; (focus (intro wq hSw; have hcc := HX3.out wq hSw; clear hSw; go_simp; try with_reducible rfl)); (try simp only [Act.put, List.setIfInBounds_toArray, List.set_cons_zero, List.set_cons_succ])
          refine takeL (i := 3) (v := ?_) rfl (by kernel_rfl) (by kernel_rfl) (by kernel_rfl) (fun _ _ _ h => h) (Or.inl ⟨by rfl, ?_⟩) (by assumption) ?_; rotate_left; (focus (intro wq hSw; (try dsimp only at hSw); go_simp; try with_reducible rfl)); (try simp only [Act.put, List.setIfInBounds_toArray, List.set_cons_zero, List.set_cons_succ])
          refine takeL (i := 5) (v := ?_) rfl (by kernel_rfl) (by kernel_rfl) (by kernel_rfl) (fun _ _ _ h => h) (Or.inl ⟨by rfl, ?_⟩) (by assumption) ?_; rotate_left; (focus (intro wq hSw; (try dsimp only at hSw); go_simp; try with_reducible rfl)); (try simp only [Act.put, List.setIfInBounds_toArray, List.set_cons_zero, List.set_cons_succ])
          refine takeL (i := 6) (v := ?_) rfl (by kernel_rfl) (by kernel_rfl) (by kernel_rfl) (fun _ _ _ h => h) (Or.inl ⟨by rfl, ?_⟩) (by assumption) ?_; rotate_left; (focus (intro wq hSw; (try dsimp only at hSw); go_simp; try with_reducible rfl)); (try simp only [Act.put, List.setIfInBounds_toArray, List.set_cons_zero, List.set_cons_succ])
          refine takeL (i := 7) (v := ?_) rfl (by kernel_rfl) (by kernel_rfl) (by kernel_rfl) (fun _ _ _ h => h) (Or.inl ⟨by rfl, ?_⟩) (by assumption) ?_; rotate_left; (focus (intro wq hSw; (try dsimp only at hSw); go_simp; try with_reducible rfl)); (try simp only [Act.put, List.setIfInBounds_toArray, List.set_cons_zero, List.set_cons_succ])
          refine takeL (i := 8) (v := ?_) rfl (by kernel_rfl) (by kernel_rfl) (by kernel_rfl) (fun _ _ _ h => h) (Or.inl ⟨by rfl, ?_⟩) (by assumption) ?_; rotate_left; (focus (intro wq hSw; (try dsimp only at hSw); go_simp; try with_reducible rfl)); (try simp only [Act.put, List.setIfInBounds_toArray, List.set_cons_zero, List.set_cons_succ])
          refine takeL (i := 9) (v := ?_) rfl (by kernel_rfl) (by kernel_rfl) (by kernel_rfl) (fun _ _ _ h => h) (Or.inl ⟨by rfl, ?_⟩) (by assumption) ?_; rotate_left; (focus (intro wq hSw; (try dsimp only at hSw); go_simp; try with_reducible rfl)); (try simp only [Act.put, List.setIfInBounds_toArray, List.set_cons_zero, List.set_cons_succ])
          refine takeL (i := 10) (v := ?_) rfl (by kernel_rfl) (by kernel_rfl) (by kernel_rfl) (fun _ _ _ h => h) (Or.inl ⟨by rfl, ?_⟩) (by assumption) ?_; rotate_left; (focus (intro wq hSw; have hcc := HX4.out wq hSw; clear hSw; go_simp; try with_reducible rfl)); (try simp only [Act.put, List.setIfInBounds_toArray, List.set_cons_zero, List.set_cons_succ])
          refine takeL (i := 11) (v := ?_) rfl (by kernel_rfl) (by kernel_rfl) (by kernel_rfl) (fun _ _ _ h => h) (Or.inl ⟨by rfl, ?_⟩) (by assumption) ?_; rotate_left; (focus (intro wq hSw; (try dsimp only at hSw); go_simp; try with_reducible rfl)); (try simp only [Act.put, List.setIfInBounds_toArray, List.set_cons_zero, List.set_cons_succ])
          have hE0 : Ext ws ws.drew := (Ext.refl ws).drew
          have HE0 := Lib.hid hE0
          clear hE0
          refine consL (i := 4) (by kernel_rfl) rfl (fun K hK => ?_); go_simp
          go_at_call 16
          refine (around_c _ _ _ (by omega) (by omega) H5.out).mono ?_
          rintro e b9 ⟨rfl, rfl⟩
          obtain ⟨x5, hx5⟩ : ∃ x, aroundF a5 sn = x := ⟨_, rfl⟩
          rw [hx5]
          clear hx5
          (try go_wp2_with fail); refine hK.out _ _ ?_ (fun hHeld => ?_); rotate_left; clear hK K; rotate_right; (focus (exact HE0.out)); (try simp only [Act.put, List.setIfInBounds_toArray, List.set_cons_zero, List.set_cons_succ])
          refine consL (i := 12) (by kernel_rfl) rfl (fun K hK => ?_); go_simp
          refine hK.out _ _ ?_ (fun hHeld => ?_)
          rotate_left
          clear hK K
          rotate_right
          focus (exact HE0.out.alloc _)
          (try simp only [Act.put, List.setIfInBounds_toArray, List.set_cons_zero, List.set_cons_succ])
          refine takeL (i := 13) (v := ?_) rfl (by kernel_rfl) (by kernel_rfl) (by kernel_rfl) (fun _ _ _ h => h) (Or.inl ⟨by rfl, ?_⟩) (by assumption) ?_; rotate_left; (focus (intro wq hSw; (try dsimp only at hSw); go_simp; try with_reducible rfl)); (try simp only [Act.put, List.setIfInBounds_toArray, List.set_cons_zero, List.set_cons_succ])
          refine doneL (by kernel_rfl) ?_
          go_upto_region 14 with (fail)
          obtain ⟨D, hD⟩ : ∃ D, ws.heap.size = D := ⟨_, rfl⟩
          rw [hD]
          refine wp_gen (fun W => Blk W D #[.int .i64 x5, .int .i64 a5, .int .i64 (-1), .int .i64 (s1n : Int)] 3 ∧ Ext ws W) ⟨(Blk.at _ _ hD.symm).drew, ((Ext.refl ws).alloc _).drew⟩ ?_
          clear HE0 hD
          intro W6 hW6
          have HW6 := Lib.hid hW6
          clear hW6
          go_wp2_with fail
          go_loopw [20] (fun jv wz => ∃ j : Nat, j ≤ 4 ∧ jv = .int .i64 (j : Int) ∧ Ext W6 wz) (fun jv _ => 4 - (intOf jv).toNat)
          case atStart => exact ⟨0, by omega, rfl, Ext.refl _⟩
          case round =>
            rename World => wz
            obtain ⟨j, hj, rfl, hE⟩ := hrel
            have HJ := Lib.hid hE
            clear hE
            by_cases hjl : j < 4
            · have hpick : ∃ x : Int, wz.cell? ⟨D, j, none⟩ = some (.int .i64 x) := by
                have hb := HW6.out.1.ext HJ.out
                have h3 : j = 0 ∨ j = 1 ∨ j = 2 ∨ j = 3 := by omega
                rcases h3 with rfl | rfl | rfl | rfl
                · exact ⟨_, hb.cell 0⟩
                · exact ⟨_, hb.cell 1⟩
                · exact ⟨_, hb.cell 2⟩
                · exact ⟨_, hb.cell 3⟩
              obtain ⟨x, hxc⟩ := hpick
              have HX5 := Lib.hid (show ∀ W, Ext wz W → W.cell? ⟨D, j, none⟩ = some (.int .i64 x) from fun W e => e.cell hxc)
              clear hxc
              have j0 : (0 : Int) ≤ (j : Int) := by omega
              have j1 : (j : Int) < 4 := by omega
              have HZ := Lib.hid (HW6.out.2.trans HJ.out)
              have HY1 := Lib.hid (show ∀ W, Ext wz W → W.cell? ⟨A, i * 3, none⟩ = some (.int .i64 n1) ∧ W.cell? ⟨A, i * 3 + 1, none⟩ = some (.slice s1a s1n s1c) ∧ W.cell? ⟨A, i * 3 + 2, none⟩ = some (.slice v1a v1n v1c) from fun W e => HX1.out W (HW.out.2.2.2.trans (HK.out.trans (HZ.out.trans e))))
              have HY2 := Lib.hid (show ∀ W, Ext wz W → W.cell? ⟨C, k, none⟩ = some (.slice la lm lc) from fun W e => HX2.out W (HZ.out.trans e))
              obtain ⟨q, hq⟩ : ∃ q, checkE n1 Ls1 zs1 lm x = q := ⟨_, rfl⟩
              obtain ⟨d, hd⟩ : ∃ d, (if q = 0 then dB Ls1 hs x.toNat else false) = d := ⟨_, rfl⟩
              have h6 : checkE n1 Ls1 zs1 lm x = 0 → ∀ k x, x ∈ Ls1.getD k [] → x < 6 := fun hq => H6.out (checkE_ok hq).1
              have HD6 := Lib.hid (And.intro h6 (show checkE n1 Ls1 zs1 lm x = 0 → FewOK Ls1 from fun hq => few_of6 (h6 hq)))
              have HQD := Lib.hid (show (if checkE n1 Ls1 zs1 lm x = 0 then dB Ls1 hs x.toNat else false) = d ∧ checkE n1 Ls1 zs1 lm x = q from ⟨by rw [hq]; exact hd, hq⟩)
              have hlm := HL.out.2
              have HSH := Lib.hid (HP.out.sh.ext (HW.out.2.2.2.trans (HK.out.trans HZ.out)))
              have HBL := Lib.hid (HL.out.1.ext HZ.out)
              clear h6 hq hd
              have hE0 : Ext wz wz.drew := (Ext.refl wz).drew
              have HE0 := Lib.hid hE0
              clear hE0
              go_upto_region 17 with (fail)
              refine wp_region_held_drew (S := fun W => Ext wz W) (by kernel_rfl) (Ext.refl wz).drew (fun hHeld => ?_)
              refine takeL (i := 0) (v := ?_) rfl (by kernel_rfl) (by kernel_rfl) (by kernel_rfl) (fun _ _ _ h => h) (Or.inl ⟨by rfl, ?_⟩) (by assumption) ?_; rotate_left; (focus (intro wq hSw; (try dsimp only at hSw); go_simp; try with_reducible rfl)); (try simp only [Act.put, List.setIfInBounds_toArray, List.set_cons_zero, List.set_cons_succ])
              refine takeL (i := 1) (v := ?_) rfl (by kernel_rfl) (by kernel_rfl) (by kernel_rfl) (fun _ _ _ h => h) (Or.inl ⟨by rfl, ?_⟩) (by assumption) ?_; rotate_left; (focus (intro wq hSw; (try dsimp only at hSw); go_simp; try with_reducible rfl)); (try simp only [Act.put, List.setIfInBounds_toArray, List.set_cons_zero, List.set_cons_succ])
              refine takeL (i := 2) (v := ?_) rfl (by kernel_rfl) (by kernel_rfl) (by kernel_rfl) (fun _ _ _ h => h) (Or.inl ⟨by rfl, ?_⟩) (by assumption) ?_; rotate_left; (focus (intro wq hSw; (try dsimp only at hSw); go_simp; try with_reducible rfl)); (try simp only [Act.put, List.setIfInBounds_toArray, List.set_cons_zero, List.set_cons_succ])
              refine takeL (i := 3) (v := ?_) rfl (by kernel_rfl) (by kernel_rfl) (by kernel_rfl) (fun _ _ _ h => h) (Or.inl ⟨by rfl, ?_⟩) (by assumption) ?_; rotate_left; (focus (intro wq hSw; obtain ⟨hc1, hc2, hc3⟩ := HY1.out wq hSw; clear hSw; go_simp; try with_reducible rfl)); (try simp only [Act.put, List.setIfInBounds_toArray, List.set_cons_zero, List.set_cons_succ])
              refine takeL (i := 5) (v := ?_) rfl (by kernel_rfl) (by kernel_rfl) (by kernel_rfl) (fun _ _ _ h => h) (Or.inl ⟨by rfl, ?_⟩) (by assumption) ?_; rotate_left; (focus (intro wq hSw; (try dsimp only at hSw); go_simp; try with_reducible rfl)); (try simp only [Act.put, List.setIfInBounds_toArray, List.set_cons_zero, List.set_cons_succ])
              refine takeL (i := 6) (v := ?_) rfl (by kernel_rfl) (by kernel_rfl) (by kernel_rfl) (fun _ _ _ h => h) (Or.inl ⟨by rfl, ?_⟩) (by assumption) ?_; rotate_left; (focus (intro wq hSw; (try dsimp only at hSw); go_simp; try with_reducible rfl)); (try simp only [Act.put, List.setIfInBounds_toArray, List.set_cons_zero, List.set_cons_succ])
              refine takeL (i := 7) (v := ?_) rfl (by kernel_rfl) (by kernel_rfl) (by kernel_rfl) (fun _ _ _ h => h) (Or.inl ⟨by rfl, ?_⟩) (by assumption) ?_; rotate_left; (focus (intro wq hSw; (try dsimp only at hSw); go_simp; try with_reducible rfl)); (try simp only [Act.put, List.setIfInBounds_toArray, List.set_cons_zero, List.set_cons_succ])
              refine takeL (i := 8) (v := ?_) rfl (by kernel_rfl) (by kernel_rfl) (by kernel_rfl) (fun _ _ _ h => h) (Or.inl ⟨by rfl, ?_⟩) (by assumption) ?_; rotate_left; (focus (intro wq hSw; have hcc := HY2.out wq hSw; clear hSw; go_simp; try with_reducible rfl)); (try simp only [Act.put, List.setIfInBounds_toArray, List.set_cons_zero, List.set_cons_succ])
              refine takeL (i := 9) (v := ?_) rfl (by kernel_rfl) (by kernel_rfl) (by kernel_rfl) (fun _ _ _ h => h) (Or.inl ⟨by rfl, ?_⟩) (by assumption) ?_; rotate_left; (focus (intro wq hSw; (try dsimp only at hSw); go_simp; try with_reducible rfl)); (try simp only [Act.put, List.setIfInBounds_toArray, List.set_cons_zero, List.set_cons_succ])
              refine takeL (i := 10) (v := ?_) rfl (by kernel_rfl) (by kernel_rfl) (by kernel_rfl) (fun _ _ _ h => h) (Or.inl ⟨by rfl, ?_⟩) (by assumption) ?_; rotate_left; (focus (intro wq hSw; (try dsimp only at hSw); go_simp; try with_reducible rfl)); (try simp only [Act.put, List.setIfInBounds_toArray, List.set_cons_zero, List.set_cons_succ])
              refine takeL (i := 11) (v := ?_) rfl (by kernel_rfl) (by kernel_rfl) (by kernel_rfl) (fun _ _ _ h => h) (Or.inl ⟨by rfl, ?_⟩) (by assumption) ?_; rotate_left; (focus (intro wq hSw; (try dsimp only at hSw); go_simp; try with_reducible rfl)); (try simp only [Act.put, List.setIfInBounds_toArray, List.set_cons_zero, List.set_cons_succ])
              refine takeL (i := 12) (v := ?_) rfl (by kernel_rfl) (by kernel_rfl) (by kernel_rfl) (fun _ _ _ h => h) (Or.inl ⟨by rfl, ?_⟩) (by assumption) ?_; rotate_left; (focus (intro wq hSw; have hcc := HX5.out wq hSw; clear hSw; go_simp; try with_reducible rfl)); (try simp only [Act.put, List.setIfInBounds_toArray, List.set_cons_zero, List.set_cons_succ])
              refine consL (i := 4) (by kernel_rfl) rfl (fun K hK => ?_); go_simp
              go_at_call 13
              refine (own_c n1 ⟨s1a, s1n, s1c⟩ ⟨v1a, v1n, v1c⟩ _).mono ?_
              rintro e b1 ⟨rfl, hx⟩
              have HE1 := Lib.hid (HE0.out.trans hx)
              clear hx
              simp only [Sl.v]
              (try go_wp2_with fail); refine hK.out _ _ ?_ (fun hHeld => ?_); rotate_left; clear hK K; rotate_right; (focus (exact HE1.out)); (try simp only [Act.put, List.setIfInBounds_toArray, List.set_cons_zero, List.set_cons_succ])
              refine consL (i := 13) (by kernel_rfl) rfl (fun K hK => ?_); go_simp
              go_at_call 17
              refine (Determined_c n1 ⟨s1a, s1n, s1c⟩ ⟨v1a, v1n, v1c⟩ gs1 Ls1 zs1 la lm lc hs x _ (HSH.out.ext HE1.out) (HBL.out.ext HE1.out) (by omega) HD6.out.2).mono ?_
              rintro e b2 ⟨rfl, hx⟩
              rw [HQD.out.1, HQD.out.2]
              have HE2 := Lib.hid (HE1.out.trans hx)
              clear hx
              (try go_wp2_with fail); refine hK.out _ _ ?_ (fun hHeld => ?_); rotate_left; clear hK K; rotate_right; (focus (exact HE2.out)); (try simp only [Act.put, List.setIfInBounds_toArray, List.set_cons_zero, List.set_cons_succ])
              refine takeL (i := 14) (v := ?_) rfl (by kernel_rfl) (by kernel_rfl) (by kernel_rfl) (fun _ _ _ h => h) (Or.inl ⟨by rfl, ?_⟩) (by assumption) ?_; rotate_left; (focus (intro wq hSw; (try dsimp only at hSw); go_simp; try with_reducible rfl)); (try simp only [Act.put, List.setIfInBounds_toArray, List.set_cons_zero, List.set_cons_succ])
              refine takeL (i := 15) (v := ?_) rfl (by kernel_rfl) (by kernel_rfl) (by kernel_rfl) (fun _ _ _ h => h) (Or.inl ⟨by rfl, ?_⟩) (by assumption) ?_; rotate_left; (focus (intro wq hSw; (try dsimp only at hSw); go_simp; try with_reducible rfl)); (try simp only [Act.put, List.setIfInBounds_toArray, List.set_cons_zero, List.set_cons_succ])
              refine takeL (i := 16) (v := ?_) rfl (by kernel_rfl) (by kernel_rfl) (by kernel_rfl) (fun _ _ _ h => h) (Or.inl ⟨by rfl, ?_⟩) (by assumption) ?_; rotate_left; (focus (intro wq hSw; (try dsimp only at hSw); go_simp; try with_reducible rfl)); (try simp only [Act.put, List.setIfInBounds_toArray, List.set_cons_zero, List.set_cons_succ])
              refine takeL (i := 17) (v := ?_) rfl (by kernel_rfl) (by kernel_rfl) (by kernel_rfl) (fun _ _ _ h => h) (Or.inl ⟨by rfl, ?_⟩) (by assumption) ?_; rotate_left; (focus (intro wq hSw; (try dsimp only at hSw); go_simp; try with_reducible rfl)); (try simp only [Act.put, List.setIfInBounds_toArray, List.set_cons_zero, List.set_cons_succ])
              refine takeL (i := 18) (v := ?_) rfl (by kernel_rfl) (by kernel_rfl) (by kernel_rfl) (fun _ _ _ h => h) (Or.inl ⟨by rfl, ?_⟩) (by assumption) ?_; rotate_left; (focus (intro wq hSw; (try dsimp only at hSw); go_simp; try with_reducible rfl)); (try simp only [Act.put, List.setIfInBounds_toArray, List.set_cons_zero, List.set_cons_succ])
              refine doneL (by kernel_rfl) ?_
              go_upto_region 18 with (fail)
              refine wp_region_held_drew (S := fun W => Ext wz W) (by kernel_rfl) HE2.out.drew (fun hHeld => ?_)
              refine takeL (i := 0) (v := ?_) rfl (by kernel_rfl) (by kernel_rfl) (by kernel_rfl) (fun _ _ _ h => h) (Or.inl ⟨by rfl, ?_⟩) (by assumption) ?_; rotate_left; (focus (intro wq hSw; (try dsimp only at hSw); go_simp; try with_reducible rfl)); (try simp only [Act.put, List.setIfInBounds_toArray, List.set_cons_zero, List.set_cons_succ])
              refine takeL (i := 1) (v := ?_) rfl (by kernel_rfl) (by kernel_rfl) (by kernel_rfl) (fun _ _ _ h => h) (Or.inl ⟨by rfl, ?_⟩) (by assumption) ?_; rotate_left; (focus (intro wq hSw; (try dsimp only at hSw); go_simp; try with_reducible rfl)); (try simp only [Act.put, List.setIfInBounds_toArray, List.set_cons_zero, List.set_cons_succ])
              refine takeL (i := 2) (v := ?_) rfl (by kernel_rfl) (by kernel_rfl) (by kernel_rfl) (fun _ _ _ h => h) (Or.inl ⟨by rfl, ?_⟩) (by assumption) ?_; rotate_left; (focus (intro wq hSw; (try dsimp only at hSw); go_simp; try with_reducible rfl)); (try simp only [Act.put, List.setIfInBounds_toArray, List.set_cons_zero, List.set_cons_succ])
              refine takeL (i := 3) (v := ?_) rfl (by kernel_rfl) (by kernel_rfl) (by kernel_rfl) (fun _ _ _ h => h) (Or.inl ⟨by rfl, ?_⟩) (by assumption) ?_; rotate_left; (focus (intro wq hSw; obtain ⟨hc1, hc2, hc3⟩ := HY1.out wq hSw; clear hSw; go_simp; try with_reducible rfl)); (try simp only [Act.put, List.setIfInBounds_toArray, List.set_cons_zero, List.set_cons_succ])
              refine takeL (i := 4) (v := ?_) rfl (by kernel_rfl) (by kernel_rfl) (by kernel_rfl) (fun _ _ _ h => h) (Or.inl ⟨by rfl, ?_⟩) (by assumption) ?_; rotate_left; (focus (intro wq hSw; (try dsimp only at hSw); go_simp; try with_reducible rfl)); (try simp only [Act.put, List.setIfInBounds_toArray, List.set_cons_zero, List.set_cons_succ])
              refine takeL (i := 5) (v := ?_) rfl (by kernel_rfl) (by kernel_rfl) (by kernel_rfl) (fun _ _ _ h => h) (Or.inl ⟨by rfl, ?_⟩) (by assumption) ?_; rotate_left; (focus (intro wq hSw; (try dsimp only at hSw); go_simp; try with_reducible rfl)); (try simp only [Act.put, List.setIfInBounds_toArray, List.set_cons_zero, List.set_cons_succ])
              refine takeL (i := 6) (v := ?_) rfl (by kernel_rfl) (by kernel_rfl) (by kernel_rfl) (fun _ _ _ h => h) (Or.inl ⟨by rfl, ?_⟩) (by assumption) ?_; rotate_left; (focus (intro wq hSw; (try dsimp only at hSw); go_simp; try with_reducible rfl)); (try simp only [Act.put, List.setIfInBounds_toArray, List.set_cons_zero, List.set_cons_succ])
              refine takeL (i := 7) (v := ?_) rfl (by kernel_rfl) (by kernel_rfl) (by kernel_rfl) (fun _ _ _ h => h) (Or.inl ⟨by rfl, ?_⟩) (by assumption) ?_; rotate_left; (focus (intro wq hSw; have hcc := HY2.out wq hSw; clear hSw; go_simp; try with_reducible rfl)); (try simp only [Act.put, List.setIfInBounds_toArray, List.set_cons_zero, List.set_cons_succ])
              refine takeL (i := 8) (v := ?_) rfl (by kernel_rfl) (by kernel_rfl) (by kernel_rfl) (fun _ _ _ h => h) (Or.inl ⟨by rfl, ?_⟩) (by assumption) ?_; rotate_left; (focus (intro wq hSw; (try dsimp only at hSw); go_simp; try with_reducible rfl)); (try simp only [Act.put, List.setIfInBounds_toArray, List.set_cons_zero, List.set_cons_succ])
              refine takeL (i := 9) (v := ?_) rfl (by kernel_rfl) (by kernel_rfl) (by kernel_rfl) (fun _ _ _ h => h) (Or.inl ⟨by rfl, ?_⟩) (by assumption) ?_; rotate_left; (focus (intro wq hSw; (try dsimp only at hSw); go_simp; try with_reducible rfl)); (try simp only [Act.put, List.setIfInBounds_toArray, List.set_cons_zero, List.set_cons_succ])
              refine takeL (i := 10) (v := ?_) rfl (by kernel_rfl) (by kernel_rfl) (by kernel_rfl) (fun _ _ _ h => h) (Or.inl ⟨by rfl, ?_⟩) (by assumption) ?_; rotate_left; (focus (intro wq hSw; (try dsimp only at hSw); go_simp; try with_reducible rfl)); (try simp only [Act.put, List.setIfInBounds_toArray, List.set_cons_zero, List.set_cons_succ])
              refine takeL (i := 11) (v := ?_) rfl (by kernel_rfl) (by kernel_rfl) (by kernel_rfl) (fun _ _ _ h => h) (Or.inl ⟨by rfl, ?_⟩) (by assumption) ?_; rotate_left; (focus (intro wq hSw; have hcc := HX5.out wq hSw; clear hSw; go_simp; try with_reducible rfl)); (try simp only [Act.put, List.setIfInBounds_toArray, List.set_cons_zero, List.set_cons_succ])
              refine consL (i := 12) (by kernel_rfl) rfl (fun K hK => ?_); go_simp
              go_at_call 18
              refine (rDetermined_c n1 ⟨s1a, s1n, s1c⟩ ⟨v1a, v1n, v1c⟩ gs1 Ls1 zs1 la lm lc hs x _ (HSH.out.ext HE2.out.drew) (HBL.out.ext HE2.out.drew) (by omega) HD6.out.2 HD6.out.1).mono ?_
              rintro e b3 ⟨rfl, hx⟩
              rw [HQD.out.1, HQD.out.2]
              have HE3 := Lib.hid (HE2.out.drew.trans hx)
              clear hx
              (try go_wp2_with fail); refine hK.out _ _ ?_ (fun hHeld => ?_); rotate_left; clear hK K; rotate_right; (focus (exact HE3.out)); (try simp only [Act.put, List.setIfInBounds_toArray, List.set_cons_zero, List.set_cons_succ])
              refine takeL (i := 13) (v := ?_) rfl (by kernel_rfl) (by kernel_rfl) (by kernel_rfl) (fun _ _ _ h => h) (Or.inl ⟨by rfl, ?_⟩) (by assumption) ?_; rotate_left; (focus (intro wq hSw; (try dsimp only at hSw); go_simp; try with_reducible rfl)); (try simp only [Act.put, List.setIfInBounds_toArray, List.set_cons_zero, List.set_cons_succ])
              refine takeL (i := 14) (v := ?_) rfl (by kernel_rfl) (by kernel_rfl) (by kernel_rfl) (fun _ _ _ h => h) (Or.inl ⟨by rfl, ?_⟩) (by assumption) ?_; rotate_left; (focus (intro wq hSw; (try dsimp only at hSw); go_simp; try with_reducible rfl)); (try simp only [Act.put, List.setIfInBounds_toArray, List.set_cons_zero, List.set_cons_succ])
              refine takeL (i := 15) (v := ?_) rfl (by kernel_rfl) (by kernel_rfl) (by kernel_rfl) (fun _ _ _ h => h) (Or.inl ⟨by rfl, ?_⟩) (by assumption) ?_; rotate_left; (focus (intro wq hSw; (try dsimp only at hSw); go_simp; try with_reducible rfl)); (try simp only [Act.put, List.setIfInBounds_toArray, List.set_cons_zero, List.set_cons_succ])
              refine takeL (i := 16) (v := ?_) rfl (by kernel_rfl) (by kernel_rfl) (by kernel_rfl) (fun _ _ _ h => h) (Or.inl ⟨by rfl, ?_⟩) (by assumption) ?_; rotate_left; (focus (intro wq hSw; (try dsimp only at hSw); go_simp; try with_reducible rfl)); (try simp only [Act.put, List.setIfInBounds_toArray, List.set_cons_zero, List.set_cons_succ])
              refine takeL (i := 17) (v := ?_) rfl (by kernel_rfl) (by kernel_rfl) (by kernel_rfl) (fun _ _ _ h => h) (Or.inl ⟨by rfl, ?_⟩) (by assumption) ?_; rotate_left; (focus (intro wq hSw; (try dsimp only at hSw); go_simp; try with_reducible rfl)); (try simp only [Act.put, List.setIfInBounds_toArray, List.set_cons_zero, List.set_cons_succ])
              refine doneL (by kernel_rfl) ?_
              have HE4 := Lib.hid (HJ.out.trans HE3.out)
              go_wp2_with fail
              go_roundw
              case rel => exact ⟨j + 1, by omega, by go_num, HE4.out⟩
              case measure => simp [intOf]; omega
            · obtain rfl : j = 4 := by omega
              have HE4 := Lib.hid (HK.out.trans (HW6.out.2.trans HJ.out))
              go_wp2_with fail
              go_roundw
              case rel => exact ⟨k + 1, by omega, by go_num, HE4.out⟩
              case measure => simp [intOf]; omega
        · obtain rfl : k = 3 := by omega
          have HE4 := Lib.hid (HI.out.2.trans (HW.out.2.2.2.trans HK.out))
          go_wp2_with fail
          go_roundw
          case rel => exact ⟨i + 1, by omega, by go_num, HE4.out⟩
          case measure => simp [intOf]; omega
    · obtain rfl : i = 2 := by omega
      have HE4 := Lib.hid HI.out.1.ext
      go_wp2_with fail
      refine (lives_c _).mono ?_
      rintro e w9 ⟨rfl, hx9⟩
      have E9 := HE4.out.trans hx9
      clear hx9
      go_wp2_with fail
      go_ret
      exact ⟨rfl, E9⟩
end Go.Proofs.Ytkoidookanmknaa
