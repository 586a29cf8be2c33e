/- The walk of ShieldChecks. -/
import Derived.Test.YtkoidookanmknaaSV49
import Derived.Test.YtkoidookanmknaaSV66
import Derived.Test.YtkoidookanmknaaSV67
import Derived.Test.YtkoidookanmknaaSWT
import Derived.Great.BuildSlice
namespace Go.Proofs.Ytkoidookanmknaa
set_option linter.unusedSimpArgs false
set_option linter.unusedVariables false
open Go.RowKit

/-- A slice literal behind a guard that holds. -/
theorem wpList_buildSlice_g {P : Program} {ops : Array Oper} {rest : List Oper} {o : Oper} {a : Act} {w : World} {Q : Exit → Act → World → Prop} (hw : Region.wanted o (yielded ops a.tmps) = true) (t e : TypeId) (len : Nat) (parts : Array (Nat × Operand)) (ho : o.op = .buildSlice t len parts)
  (cells : Array Value) (ie : TypeInfo) (z : Value)
  (hu : P.underlying t = some (.slice e)) (hie : P.info? e = some ie) (hz : ie.zero = some z) (hsmall : ¬ len * ie.size > 2 ^ 24) (hpos : ¬ len * ie.size = 0)
  (hf : Instr.fill (fun i => some (i * ie.size, ie.size)) ((Array.range (len * ie.size)).map (z.cells[· % z.cells.size]!)) (parts.map fun (i, x) => (i, a.eval x)).toList = some cells)
  (h : wpList P ops Q rest (a.put o.dst (.slice (some ⟨w.heap.size, 0, none⟩) len len)) (w.alloc (.cells cells e))) : wpList P ops Q (o :: rest) a w := by
 show (if Region.wanted o (yielded ops a.tmps) then _ else _)
 rw [if_pos hw]
 exact Or.inl (wp_buildSlice t e len parts ho cells ie z hu hie hz hsmall hpos hf h)
/-- All but the first of a slice. -/
theorem run_slice1 {P : Program} (t e : TypeId) (ie : TypeInfo) (k m cc : Nat) (hu : P.underlying t = some (.slice e)) (hie : P.info? e = some ie) : ∃ o, (1 < cc → o = ie.size) ∧ ∀ W, (Instr.slice t (.slice (some ⟨k, 0, none⟩) (m + 1) cc) (some (.int .i64 1)) none none).run P W = .ok (.slice (some ⟨k, o, none⟩) m (cc - 1)) W := by
 refine ⟨if cc = 1 then 0 else ie.size, fun h => if_neg (by omega), fun W => ?_⟩
 have h1 : (1 : Int) ≤ (m : Int) + 1 := by omega
 by_cases hc : cc = 1
 ·simp [Instr.slice, run_underlying hu, Instr.sliceBounds, Instr.sliceBound, sizeOf, typeInfo, hie, go_sem, h1, hc]
 ·simp [Instr.slice, run_underlying hu, Instr.sliceBounds, Instr.sliceBound, sizeOf, typeInfo, hie, go_sem, h1, hc, Addr.add]
  exact fun h => h.symm
theorem pair_in {w : World} {s : Nat} (h1 : Blk w (s + 1) #[.int .i64 0, .int .i64 1] 3) (h2 : Blk w (s + 1 + 1) #[.slice (some ⟨s + 1, 0, none⟩) 2 2] 22) (h3 : Blk w (s + 1 + 1 + 1) #[.int .i64 3] 3) : ShIn w 2 ⟨some ⟨s + 1 + 1, 0, none⟩, 1, 1⟩ ⟨some ⟨s + 1 + 1 + 1, 0, none⟩, 1, 1⟩ [⟨some ⟨s + 1, 0, none⟩, 2, 2⟩] [[0, 1]] [3] := by
 have i64 : ∀ l : List Int, (∀ x, x ∈ l → 0 ≤ x ∧ x ≤ 100) → ∀ x, x ∈ l → Int64 x := fun l h x hx => by have := h x hx; exact ⟨by omega, by omega⟩
 refine ⟨⟨rfl, rfl, show (1 : Nat) ≤ 1000000 by decide, .inr ⟨s + 1 + 1, 0, rfl, h2.lt, fun i hi => ?_⟩, fun i hi => ?_⟩, blk_ints (l := [3]) h3 rfl (by decide) (i64 _ (by decide)), fun k => ?_⟩
 ·rw [Nat.zero_add, h2.cell]
  match i, hi with
  | 0, _ => rfl
  | i + 1, hi => exact absurd (show i + 1 < 1 from hi) (by omega)
 ·match i, hi with
  | 0, _ => exact blk_ints (l := [0, 1]) h1 rfl (by decide) (i64 _ (by decide))
  | i + 1, hi => exact absurd (show i + 1 < 1 from hi) (by omega)
 ·match k with
  | 0 => decide
  | k + 1 => show ([] : List Int).length ≤ 1000; decide
theorem C_at3 {w : World} {C : Nat} {x y z : Int} (h : Blk w C #[.int .i64 x, .int .i64 y, .int .i64 z] 3) (k : Nat) (hk : k < 3) : ∃ u, w.cell? ⟨C, k, none⟩ = some (.int .i64 u) := by
 rcases (show k = 0 ∨ k = 1 ∨ k = 2 by omega) with rfl | rfl | rfl
 ·exact ⟨_, h.cell 0⟩
 ·exact ⟨_, h.cell 1⟩
 ·exact ⟨_, h.cell 2⟩
theorem PC.form {w : World} {base : Nat} {pv cv : Value} {ds : List Int} {fs : List FV} (h : PC w base pv cv ds fs) (hq : FV1 w ds fs) (hb : ∀ c, -2 ≤ ds.getD c 0 ∧ ds.getD c 0 ≤ 2) (hl : fs.length = ds.length) (hm : ds.length ≤ 1000) :
  ∃ pa pc ca cc, pv = .slice pa ds.length pc ∧ cv = .slice ca ds.length cc ∧ PRd w pa ca ds.length ds ∧ (0 < ds.length → ∃ g k : Nat, pa = some ⟨g, 0, none⟩ ∧ ca = some ⟨k, 0, none⟩ ∧ ds.length ≤ pc ∧ ds.length ≤ cc ∧ pc ≤ maxLen ∧ cc ≤ maxLen ∧ ∀ o o' : Nat, (1 < ds.length → o = 1 ∧ o' = 4) → PRd w (some ⟨g, o, none⟩) (some ⟨k, o', none⟩) (ds.length - 1) (ds.drop 1)) := by
 by_cases h0 : 0 < ds.length
 ·obtain ⟨g, pc, k, cc, h1, h2, h3, h4, h5, h6, h7, h8⟩ := h.whole hq hb hl hm h0
  exact ⟨_, pc, _, cc, h1, h2, h7, fun _ => ⟨g, k, rfl, rfl, h3, h4, h5, h6, h8⟩⟩
 ·have h1 : ds.length = 0 := by omega
  obtain ⟨pa, pc, ca, cc, h2, h3, h4⟩ := h.none0 hl h1
  have e : ds = [] := List.eq_nil_of_length_eq_zero h1
  subst e
  exact ⟨pa, pc, ca, cc, h2, h3, h4, fun h => absurd h (by simp)⟩
set_option maxRecDepth 100000 in
set_option maxHeartbeats 16000000 in
theorem walkChecks (a0 : Option Addr) (n c : Nat) (xs : List Int) (a1 : Option Addr) (mn mc : Nat) (ys : List Int) (a2 a3 a4 a5 a6 : Int) (w : World) (h0 : Ints w a0 n xs) (h1 : Ints w a1 mn ys) (h2 : Int64 a2) (h3 : Int64 a3) (h4 : Int64 a4) (h5 : Int64 a5) (h6 : Int64 a6) :
  Calls Try.prog 8 #[.slice a0 n c, .slice a1 mn mc, .int .i64 a2, .int .i64 a3, .int .i64 a4, .int .i64 a5, .int .i64 a6] w fun e w' => e = .returned (.bool true) ∧ Ext w w' := by
 obtain ⟨i0, hi0, hz0, hz1, hz2⟩ := info_parts intInfo
 obtain ⟨j0, hj0, hy0, hy1, hy2⟩ := info_parts frInfo
 have H0 := Lib.hid h0; have HM := Lib.hid h1; have H2 := Lib.hid h2; have H3 := Lib.hid h3; have H4 := Lib.hid h4; have H5 := Lib.hid h5; have H6 := Lib.hid h6
 clear h0 h1 h2 h3 h4 h5 h6
 go_enter Try.func8, Try.ntmps8
 go_wp2_with fail
 refine (Some_c a0 n c xs _ H0.out).mono ?_
 rintro e w1 ⟨hE1, N, ss, vs, gs, Ls, zs, rfl, hSh, hV, hN1, hN6, hL1, hL9⟩
 obtain ⟨sa, sn, sc⟩ := ss
 obtain ⟨va, vn, vc⟩ := vs
 simp only [Sl.v]
 obtain ⟨X, hX⟩ : ∃ X, w1.heap.size = X := ⟨_, rfl⟩
 have hsn : sn = Ls.length := hSh.grps.2.1.symm
 have HS := Lib.hid (And.intro hE1 hSh)
 have HV := Lib.hid (And.intro hV hsn)
 have hs1 : 1 ≤ sn := by omega
 have hs9 : sn ≤ 9 := by omega
 clear hE1 hSh hV hsn
 go_upto_region 2 with (fail)
 refine wp_gen (fun W => Ext w W ∧ ShIn W N ⟨sa, sn, sc⟩ ⟨va, vn, vc⟩ gs Ls zs ∧ Blk W X #[.int .i64 (N : Int), .slice sa sn sc, .slice va vn vc] 25) ⟨HS.out.1.alloc _, HS.out.2.ext ((Ext.refl w1).alloc _), Blk.at _ _ hX.symm⟩ ?_
 clear hX HS
 intro W0 hS
 have hSt : W0.cell? ⟨X, 0, none⟩ = some (.int .i64 (N : Int)) ∧ W0.cell? ⟨X, 1, none⟩ = some (.slice sa sn sc) ∧ W0.cell? ⟨X, 2, none⟩ = some (.slice va vn vc) := ⟨hS.2.2.cell 0, hS.2.2.cell 1, hS.2.2.cell 2⟩
 have HS := Lib.hid hS
 have HSt := Lib.hid hSt
 clear hS
 refine wp_region_E (fun W => W.cell? ⟨X, 0, none⟩ = some (.int .i64 (N : Int)) ∧ W.cell? ⟨X, 1, none⟩ = some (.slice sa sn sc) ∧ W.cell? ⟨X, 2, none⟩ = some (.slice va vn vc)) [] (by kernel_rfl) hSt (fun _ => ?_)
 have hSt' : W0.drew.cell? ⟨X, 0, none⟩ = some (.int .i64 (N : Int)) ∧ W0.drew.cell? ⟨X, 1, none⟩ = some (.slice sa sn sc) ∧ W0.drew.cell? ⟨X, 2, none⟩ = some (.slice va vn vc) := hSt
 refine takeE (i := 0) (v := ?_) rfl (by kernel_rfl) (by kernel_rfl) (by kernel_rfl) (fun _ _ _ h => h) (by kernel_rfl) (by kernel_rfl) (Or.inl ⟨by rfl, ?_⟩) (by assumption) ?_; rotate_left; (focus (intro wq hSw; obtain ⟨hSa, hSb, hSc⟩ := hSw; go_simp; try with_reducible rfl)); (try simp only [Act.put, List.setIfInBounds_toArray, List.set_cons_zero, List.set_cons_succ])
 refine takeE (i := 1) (v := ?_) rfl (by kernel_rfl) (by kernel_rfl) (by kernel_rfl) (fun _ _ _ h => h) (by kernel_rfl) (by kernel_rfl) (Or.inl ⟨by rfl, ?_⟩) (by assumption) ?_; rotate_left; (focus (intro wq hSw; obtain ⟨hSa, hSb, hSc⟩ := hSw; go_simp; try with_reducible rfl)); (try simp only [Act.put, List.setIfInBounds_toArray, List.set_cons_zero, List.set_cons_succ])
 refine takeP (i := 2) (v := ?_) rfl (by kernel_rfl) (by kernel_rfl) (by kernel_rfl) (fun _ _ _ h => h) (Or.inl ⟨by rfl, ?_⟩) ?_; rotate_left; (focus (intro wq hSw; clear hSw; go_simp; try with_reducible rfl)); (try simp only [Act.put, List.setIfInBounds_toArray, List.set_cons_zero, List.set_cons_succ])
 refine takeP (i := 3) (v := ?_) rfl (by kernel_rfl) (by kernel_rfl) (by kernel_rfl) (fun _ _ _ h => h) (Or.inl ⟨by rfl, ?_⟩) ?_; rotate_left; (focus (intro wq hSw; clear hSw; go_simp; try with_reducible rfl)); (try simp only [Act.put, List.setIfInBounds_toArray, List.set_cons_zero, List.set_cons_succ])
 refine takeP (i := 4) (v := ?_) rfl (by kernel_rfl) (by kernel_rfl) (by kernel_rfl) (fun _ _ _ h => h) (Or.inl ⟨by rfl, ?_⟩) ?_; rotate_left; (focus (intro wq hSw; clear hSw; go_simp; try with_reducible rfl)); (try simp only [Act.put, List.setIfInBounds_toArray, List.set_cons_zero, List.set_cons_succ])
 refine consE (i := 5) (by kernel_rfl) rfl (fun K hK => ?_)
 go_simp
 go_at_call 11
 refine (Spoilt_c N ⟨sa, sn, sc⟩ ⟨va, vn, vc⟩ gs Ls zs a3 a4 a5 _ (HS.out.2.1.ext (Ext.refl W0).drew) HV.out.1 hN1 hN6 hL1 hL9 H3.out H4.out H5.out).mono ?_
 rintro e w2 ⟨hx2, n2, ⟨s2a, s2n, s2c⟩, ⟨v2a, v2n, v2c⟩, gs2, Ls2, zs2, rfl, hSh2, hn2, hor, hl2⟩
 have hE2 : Ext W0 w2 := (Ext.refl W0).drew.trans hx2
 have HS2 := Lib.hid (And.intro hE2 (And.intro hSh2 (And.intro hn2 (And.intro hor hl2))))
 clear hx2 hE2 hSh2 hn2 hor
 simp only [Sl.v]
 go_wp2_with fail
 refine hK.out _ _ ?_ (fun _ => ?_); rotate_left; clear hK K; rotate_right; (focus (exact .inr (.inl ⟨HS2.out.1.cell HSt.out.1, HS2.out.1.cell HSt.out.2.1, HS2.out.1.cell HSt.out.2.2⟩))); (try simp only [Act.put, List.setIfInBounds_toArray, List.set_cons_zero, List.set_cons_succ])
 refine consE (i := 6) (by kernel_rfl) rfl (fun K hK => ?_)
 go_simp
 refine hK.out _ _ ?_ (fun _ => ?_); rotate_left; clear hK K; rotate_right; (focus (exact .inr (.inl ⟨(HS2.out.1.alloc _).cell HSt.out.1, (HS2.out.1.alloc _).cell HSt.out.2.1, (HS2.out.1.alloc _).cell HSt.out.2.2⟩))); (try simp only [Act.put, List.setIfInBounds_toArray, List.set_cons_zero, List.set_cons_succ])
 refine takeP (i := 7) (v := ?_) rfl (by kernel_rfl) (by kernel_rfl) (by kernel_rfl) (fun _ _ _ h => h) (Or.inl ⟨by rfl, ?_⟩) ?_; rotate_left; (focus (intro wq hSw; clear hSw; go_simp; try with_reducible rfl)); (try simp only [Act.put, List.setIfInBounds_toArray, List.set_cons_zero, List.set_cons_succ])
 refine doneE (by kernel_rfl) ?_ _
 go_upto_region 3 with (fail)
 obtain ⟨A, hA⟩ : ∃ A, w2.heap.size = A := ⟨_, rfl⟩
 have hbA := Blk.at (w := w2) #[.int .i64 (N : Int), .slice sa sn sc, .slice va vn vc, .int .i64 n2, .slice s2a s2n s2c, .slice v2a v2n v2c] 25 hA.symm
 have hEA : Ext W0 (w2.alloc (.cells #[.int .i64 (N : Int), .slice sa sn sc, .slice va vn vc, .int .i64 n2, .slice s2a s2n s2c, .slice v2a v2n v2c] 25)) := HS2.out.1.alloc _
 rw [hA]
 refine wp_gen (fun W => DtI w W X A N ⟨sa, sn, sc⟩ ⟨va, vn, vc⟩ gs Ls zs n2 ⟨s2a, s2n, s2c⟩ ⟨v2a, v2n, v2c⟩ gs2 Ls2 zs2)
  ⟨HS.out.1.trans hEA, HS.out.2.2.ext hEA, ⟨hbA.cell 0, hbA.cell 1, hbA.cell 2, HS.out.2.1.ext hEA⟩, ⟨hbA.cell 3, hbA.cell 4, hbA.cell 5, HS2.out.2.1.ext ((Ext.refl w2).alloc _)⟩⟩ ?_
 have HO := Lib.hid (And.intro HS2.out.2.2.1 (And.intro HS2.out.2.2.2.1 HS2.out.2.2.2.2))
 clear HS HS2 HSt hSt hSt' hbA hEA hA hl2
 intro W1 hD
 have HD := Lib.hid hD
 clear hD
 go_wp2_with fail
 go_loopw [17] (fun iv ws => ∃ i : Nat, i ≤ 2 ∧ iv = .int .i64 (i : Int) ∧ Ext W1 ws) (fun iv _ => 2 - (intOf iv).toNat)
 case atStart => exact ⟨0, by omega, rfl, Ext.refl _⟩
 case round =>
  obtain ⟨i, hi, rfl, hE⟩ := hrel
  have HI := Lib.hid (And.intro (HD.out.keep hE) hE)
  clear hE
  by_cases hlt : i < 2
  ·obtain ⟨n1, ⟨s1a, s1n, s1c⟩, ⟨v1a, v1n, v1c⟩, gs1, Ls1, zs1, hP, h61, hl1⟩ := HI.out.1.pick HV.out.1 hN6 HO.out.2.1 hL9 HO.out.2.2 i hlt
   have HP := Lib.hid hP
   simp only at hl1
   clear h61
   have HX1 := Lib.hid (show ∀ W, Ext wr W → W.cell? ⟨A, i * 3, none⟩ = some (.int .i64 n1) ∧ W.cell? ⟨A, i * 3 + 1, none⟩ = some (.slice s1a s1n s1c) ∧ W.cell? ⟨A, i * 3 + 2, none⟩ = some (.slice v1a v1n v1c) from fun W e => ⟨e.cell HP.out.c0, e.cell HP.out.c1, e.cell HP.out.c2⟩)
   clear hP
   have i0' : (0 : Int) ≤ (i : Int) := by omega
   have i1' : (i : Int) < 2 := by omega
   obtain ⟨z0, z1, z2⟩ := HX1.out wr (Ext.refl wr)
   go_wp2_with fail
   refine (Hidden_c n1 a2 ⟨s1a, s1n, s1c⟩ ⟨v1a, v1n, v1c⟩ _ H2.out (by simp only; omega)).mono ?_
   rintro e b4 ⟨ha, hc, rfl, hB, hx⟩
   simp only at hB
   obtain ⟨hs, hhs⟩ : ∃ hs, hidF a2 s1n = hs := ⟨_, rfl⟩
   rw [hhs] at hB
   have HB4 := Lib.hid (And.intro hB hx)
   clear hB hx z0 z1 z2 hhs
   go_wp2_with fail
   go_loopw [19, 20, 21] (fun pv cv kv ws => ∃ (k : Nat) (ds : List Int) (fs : List FV), k ≤ 40 ∧ kv = .int .i64 (k : Int) ∧ ds.length = k ∧ fs.length = k ∧ PC ws b4.heap.size pv cv ds fs ∧ FV1 ws ds fs ∧ (∀ c, -2 ≤ ds.getD c 0 ∧ ds.getD c 0 ≤ 2) ∧ Ext b4 ws) (fun _ _ kv _ => 40 - (intOf kv).toNat)
   case atStart => exact ⟨0, [], [], by omega, rfl, rfl, rfl, PC.nil b4 _, fun j f hj => by simp at hj, fun c => by simp, Ext.refl b4⟩
   case round =>
    rename World => ws
    obtain ⟨k, ds, fs, hk, rfl, hdl, hfl, hpc, hfv, hbd, hE⟩ := hrel
    have HK := Lib.hid (And.intro hdl (And.intro hfl (And.intro hpc (And.intro hfv (And.intro hbd hE)))))
    have z0 : ws.cell? ⟨A, i * 3, none⟩ = some (.int .i64 n1) := (HX1.out ws (HB4.out.2.trans hE)).1
    have hsz := hE.size
    clear hdl hfl hpc hfv hbd hE
    obtain ⟨cb, hcb⟩ : ∃ cb, (decide ((k : Int) < n1) && decide ((k : Int) < 40)) = cb := ⟨_, rfl⟩
    have HCB := Lib.hid hcb
    clear hcb
    go_upto_region 10 with (fail)
    go_cut [69] (fun s wx => s = .bool cb ∧ wx = ws)
    case first =>
     by_cases c1 : (k : Int) < n1
     ·by_cases c2 : (k : Int) < 40
      ·go_wp2_with fail
       go_meet
       case rel => exact ⟨by rw [← HCB.out, decide_eq_true (by omega), decide_eq_true (by omega)]; rfl, rfl⟩
      ·go_wp2_with fail
       go_meet
       case rel => exact ⟨by rw [← HCB.out, decide_eq_true (by omega), decide_eq_false (by omega)]; rfl, rfl⟩
     ·go_wp2_with fail
      go_meet
      case rel => exact ⟨by rw [← HCB.out, decide_eq_false (by omega)]; rfl, rfl⟩
    case rest =>
     obtain ⟨rfl, rfl⟩ := hcut
     clear z0
     cases cb with
     | true =>
      as_aux_lemma =>
       have hk2 : k < 40 := by have := HCB.out; simp at this; omega
       go_wp2_with fail
       refine (pick_c a1 mn mc ys (k : Int) k 5 _ ((HM.out.keep (HI.out.1.ext.trans (HB4.out.2.trans HK.out.2.2.2.2.2)).ik)) rfl (by omega) (by omega) (by omega)).mono ?_
       rintro e _ ⟨rfl, rfl⟩
       have hyb := pickF_bd ys k 5 (by omega)
       obtain ⟨y, hy⟩ : ∃ y, pickF ys k 5 = y := ⟨_, rfl⟩
       rw [hy] at hyb ⊢
       obtain ⟨x, hx⟩ : ∃ x, y - 2 = x := ⟨_, rfl⟩
       have hwx : IntKind.i64.wrap (y - 2) = x := by rw [← hx]; exact IntWalk.i64_in _ (by omega)
       have hxb : -2 ≤ x ∧ x ≤ 2 := by omega
       clear hy hx hyb
       go_wp2_with fail
       refine (Of_c x 1 _ (by omega) (by omega) (by omega) (by omega)).mono ?_
       rw [(low_one x).1, (low_one x).2]
       rintro e w2 ⟨f, rfl, hf, hx2⟩
       have HF := Lib.hid (And.intro (isF_Q hf) hx2)
       have hs2 := hx2.size
       clear hf hx2 hwx
       go_upto_region 16 with (fail)
       obtain ⟨F, hF⟩ : ∃ F, w2.heap.size = F := ⟨_, rfl⟩
       rw [hF]
       refine wp_gen (fun W => Ext wc W ∧ IsQ W f (x : Rat) ∧ Blk W F f.cs 58) ⟨HF.out.2.alloc _, HF.out.1.keep ((Ext.refl _).alloc _).ik, Blk.at _ _ hF.symm⟩ ?_
       rw [hF] at hs2
       clear HF hF
       intro W6 hW6
       have HW := Lib.hid hW6
       have hs6 := hW6.1.size
       clear hW6
       have hdl : ds.length ≤ 40 := by have := HK.out.1; omega
       have hfl : fs.length ≤ 40 := by have := HK.out.2.1; omega
       have hP6 := Lib.hid (HK.out.2.2.1.ext HW.out.1)
       have hnw := Lib.hid (ints_news (ints_one W6 x ⟨by omega, by omega⟩) (by omega))
       go_wp2_with (at_builtin; refine wpList_append_nu _ rfl _ _ _ rfl b4.heap.size 3 i0 _ 1 8 Try.underlying22 hi0 hz0 hz1 hz2 rfl (by omega) u19 ds.length (ivals ds) rfl (hP6.out.p.ext ((Ext.refl W6).alloc _)) ⟨W6.heap.size, 0, none⟩ 1 1 (ivals [x]) rfl rfl hnw.out (ivals_one _) (by omega) (by rw [maxLen]; omega) (by omega) (by simp; omega) _ rfl (NUv.ext ((Ext.refl W6).alloc _) hP6.out.p hP6.out.pn) (ivals_nu _) (ivals_nu _) (by simp [Value.cells]) ?_)
       intro g1 cap1 w7 hown hgrow hat hlt7 hiu hnu
       have hP7 := Lib.hid ((hP6.out.ext ((Ext.refl W6).alloc (.cells #[.int .i64 x] 3))).addP hown hgrow hnu)
       have hE7 : Ext b4 w7 := gext_grown ((HK.out.2.2.2.2.2.trans HW.out.1).alloc _) hgrow (fun g hg => (gowns_lt HK.out.2.2.1.p hg).1)
       have hl6 := HW.out.2.2.lt
       have hFB : ∀ o, w7.cell? ⟨F, o, none⟩ = (W6.alloc (.cells #[.int .i64 x] 3)).cell? ⟨F, o, none⟩ := fun o => World.cell?_of_block (hgrow.block F (by simp; omega) (fun e => by have := (gowns_lt HK.out.2.2.1.p e.symm).2; omega))
       have f0 : w7.cell? ⟨F, 0, none⟩ = some (.bool f.n.neg) := by rw [hFB]; exact (HW.out.2.2.alloc _).cell 0
       have f1 : w7.cell? ⟨F, 1, none⟩ = some (.slice f.n.a f.n.n f.n.c) := by rw [hFB]; exact (HW.out.2.2.alloc _).cell 1
       have f2 : w7.cell? ⟨F, 2, none⟩ = some (.bool f.d.neg) := by rw [hFB]; exact (HW.out.2.2.alloc _).cell 2
       have f3 : w7.cell? ⟨F, 3, none⟩ = some (.slice f.d.a f.d.n f.d.c) := by rw [hFB]; exact (HW.out.2.2.alloc _).cell 3
       have hU7 : IU W6 w7 := ((Ext.refl W6).alloc _).iu.trans hiu
       have HV7 := Lib.hid (And.intro (((HK.out.2.2.2.1.keepU HW.out.1.iu).keepU hU7)) (And.intro (HW.out.2.1.keepU hU7) hE7))
       have hs7 := hE7.size
       clear hown hgrow hat hiu hnu hE7 hFB hU7 hnw
       have hnf := Lib.hid (gAt_one (F := encF) (a := f) (w := w7.alloc (.cells f.cs 58)) (b := w7.heap.size) (fun j hj => by
        rw [Blk.cell (Blk.at _ 58 rfl)]
        exact Array.getElem?_toList.symm))
       go_wp2_with (at_builtin; refine wpList_append_nu _ rfl _ _ _ rfl b4.heap.size 58 j0 _ 4 64 Try.underlying52 hj0 hy0 hy1 hy2 rfl (by omega) u20 fs.length (gcells encF fs) rfl (hP7.out.c.ext ((Ext.refl w7).alloc _)) ⟨w7.heap.size, 0, none⟩ 1 1 (gcells encF [f]) rfl rfl (gnews_at hnf.out) (gcells_one _ _) (by omega) (by rw [maxLen]; omega) (by omega) (by simp; omega) _ rfl (NUv.ext ((Ext.refl w7).alloc _) hP7.out.c hP7.out.cn) (encF_nu _) (encF_nu _) (by simp [Value.cells]) ?_)
       intro g2 cap2 w8 hown hgrow hat hlt8 hiu hnu
       have hP8 := Lib.hid ((hP7.out.ext ((Ext.refl w7).alloc (.cells f.cs 58))).addC hown hgrow hnu)
       have hU8 : IU w7 w8 := ((Ext.refl w7).alloc _).iu.trans hiu
       have HV8 := Lib.hid (show FV1 w8 (ds ++ [x]) (fs ++ [f]) ∧ (∀ c, -2 ≤ (ds ++ [x]).getD c 0 ∧ (ds ++ [x]).getD c 0 ≤ 2) ∧ Ext b4 w8 from ⟨((HV7.out.1.keepU hU8).more (HK.out.2.1.trans HK.out.1.symm)).add (HK.out.2.1.trans HK.out.1.symm) (HV7.out.2.1.keepU hU8), bd_snoc HK.out.2.2.2.2.1 hxb, gext_grown (HV7.out.2.2.alloc _) hgrow (fun g hg => (gowns_lt hP7.out.c hg).1)⟩)
       clear hown hgrow hat hiu hnu hU8 f0 f1 f2 f3
       go_wp2_with fail
       go_roundw
       case rel => exact ⟨k + 1, ds ++ [x], fs ++ [f], by omega, by go_num, by rw [List.length_append, HK.out.1]; rfl, by rw [List.length_append, HK.out.2.1]; rfl, hP8.out, HV8.out.1, HV8.out.2.1, HV8.out.2.2⟩
       case measure => simp [intOf]; omega
     | false =>
      as_aux_lemma =>
       have hdl := HK.out.1
       have hk' := hk
       obtain ⟨pa, pc, ca, cc, rfl, rfl, hprd, hsl⟩ := HK.out.2.2.1.form HK.out.2.2.2.1 HK.out.2.2.2.2.1 (HK.out.2.1.trans HK.out.1.symm) (by omega)
       obtain ⟨m, hm⟩ : ∃ m, ds.length = m := ⟨_, rfl⟩
       rw [hm] at hprd hsl ⊢
       have hm40 : m ≤ 40 := by omega
       have HQ := Lib.hid (And.intro hprd (And.intro HK.out.2.2.2.2.1 (HB4.out.2.trans HK.out.2.2.2.2.2)))
       have HSL := Lib.hid (And.intro hsl (bd_drop HK.out.2.2.2.2.1))
       have HHS := Lib.hid (HB4.out.1.ext HK.out.2.2.2.2.2)
       clear hprd hsl hm hdl hk hk' HCB HK
       have x1 : wc.cell? ⟨X, 1, none⟩ = some (.slice sa sn sc) := (HI.out.1.box.ext HQ.out.2.2).cell 1
       go_wp2_with fail
       refine (around_c _ _ _ (by omega) (by omega) H6.out).mono ?_
       rintro e _ ⟨rfl, rfl⟩
       obtain ⟨x5, hx5⟩ : ∃ x, aroundF a6 sn = x := ⟨_, rfl⟩
       rw [hx5]
       clear hx5 x1
       go_upto_region 20 with (fail)
       obtain ⟨C, hC⟩ : ∃ C, wc.heap.size = C := ⟨_, rfl⟩
       rw [hC]
       refine wp_gen (fun W => Blk W C #[.int .i64 x5, .int .i64 a6, .int .i64 (-1)] 3 ∧ Ext wc W) ⟨Blk.at _ _ hC.symm, (Ext.refl wc).alloc _⟩ ?_
       clear hC
       intro W5 hW5
       have HW5 := Lib.hid hW5
       clear hW5
       go_wp2_with fail
       go_loopw [26] (fun jv wz => ∃ j : Nat, j ≤ 3 ∧ jv = .int .i64 (j : Int) ∧ Ext W5 wz) (fun jv _ => 3 - (intOf jv).toNat)
       case atStart => exact ⟨0, by omega, rfl, Ext.refl _⟩
       case round =>
        rename World => wz
        obtain ⟨j, hj, rfl, hE⟩ := hrel
        have HZ := Lib.hid (HQ.out.2.2.trans (HW5.out.2.trans hE))
        have HZC := Lib.hid (HW5.out.2.trans hE)
        have HJ := Lib.hid hE
        clear hE
        have HY1 := Lib.hid (show ∀ W, Ext wz W → W.cell? ⟨A, i * 3, none⟩ = some (.int .i64 n1) ∧ W.cell? ⟨A, i * 3 + 1, none⟩ = some (.slice s1a s1n s1c) ∧ W.cell? ⟨A, i * 3 + 2, none⟩ = some (.slice v1a v1n v1c) from fun W e => HX1.out W (HZ.out.trans e))
        have HSH := Lib.hid (HP.out.sh.ext HZ.out)
        have HBL := Lib.hid (HHS.out.ext HZC.out)
        have HRD := Lib.hid (HQ.out.1.keep HZC.out)
        by_cases hjl : j < 3
        ·as_aux_lemma =>
          obtain ⟨x, hxc⟩ := C_at3 (HW5.out.1.ext HJ.out) j hjl
          have HY2 := Lib.hid (show ∀ W, Ext wz W → W.cell? ⟨C, j, none⟩ = some (.int .i64 x) from fun W e => e.cell hxc)
          obtain ⟨q, hq⟩ : ∃ q, rchkE n1 Ls1 zs1 hs s1n x m ds = q := ⟨_, rfl⟩
          have HQE := Lib.hid hq
          clear hxc hq
          have j0' : (0 : Int) ≤ (j : Int) := by omega
          have j1' : (j : Int) < 3 := by omega
          as_aux_lemma =>
           go_upto_region 22 with (fail)
           have hHeld : Ext wz wz.drew := (Ext.refl wz).drew
           refine wp_region_held_drew (S := fun W => Ext wz W) (by kernel_rfl) hHeld (fun _ => ?_)
           refine tkW (i := 0) (h := ?_)
           refine tkW (i := 1) (h := ?_)
           refine tkW (i := 2) (h := ?_)
           refine tkL (i := 3) (H := HY1) (h := ?_)
           refine tkW (i := 5) (h := ?_)
           refine tkW (i := 6) (h := ?_)
           refine tkW (i := 7) (h := ?_)
           as_aux_lemma =>
            refine tkW (i := 8) (h := ?_)
            refine tkL (i := 9) (H := HY2) (h := ?_)
            refine tkW (i := 10) (h := ?_)
            refine tkW (i := 12) (h := ?_)
            refine tkW (i := 13) (h := ?_)
            as_aux_lemma =>
             refine tkW (i := 14) (h := ?_)
             refine tkL (i := 15) (H := HY1) (h := ?_)
             refine tkW (i := 16) (h := ?_)
             refine tkW (i := 17) (h := ?_)
             refine tkW (i := 18) (h := ?_)
             as_aux_lemma =>
              refine tkW (i := 19) (h := ?_)
              refine tkL (i := 20) (H := HY2) (h := ?_)
              refine tkW (i := 21) (h := ?_)
              as_aux_lemma =>
               refine ckL (i := 4) (h := fun K hK => ?_); go_simp; go_at_call 13; refine (own_c n1 ⟨s1a, s1n, s1c⟩ ⟨v1a, v1n, v1c⟩ _).mono ?_; rintro e u1 ⟨rfl, hx1⟩; simp only [Sl.v]; go_wp2_with fail; refine shG hK (h := ?_); clear hK K; intro hHeld
               as_aux_lemma =>
                refine ckL (i := 11) (h := fun K hK => ?_); go_simp; go_at_call 25; refine (CheckI_c n1 ⟨s1a, s1n, s1c⟩ ⟨v1a, v1n, v1c⟩ gs1 Ls1 zs1 ha s1n hc hs x ca m cc ds _ (HSH.out.ext (by assumption)) (HBL.out.ext (by assumption)) (by omega) (HRD.out.v.ext (by assumption)) (by omega) HQ.out.2.1).mono ?_; rw [HQE.out]; rintro e u2 ⟨rfl, hx2⟩; go_wp2_with fail; refine shG hK (h := ?_); clear hK K; intro hHeld
                as_aux_lemma =>
                 refine ckL (i := 22) (h := fun K hK => ?_); go_simp; go_at_call 26; refine (rChk_c n1 ⟨s1a, s1n, s1c⟩ ⟨v1a, v1n, v1c⟩ gs1 Ls1 zs1 ha s1n hc hs x pa m pc ds _ (HSH.out.ext (by assumption)) (HBL.out.ext (by assumption)) (by omega) (HRD.out.i.keep (Ext.ik (by assumption))) (by omega) HQ.out.2.1).mono ?_; rw [HQE.out]; rintro e u3 ⟨rfl, hx3⟩; go_wp2_with fail; refine shG hK (h := ?_); clear hK K; intro hHeld
                 as_aux_lemma =>
                  refine tkW (i := 23) (h := ?_)
                  refine doneL (by kernel_rfl) ?_
                  have HN := Lib.hid (HJ.out.trans hHeld)
                  clear hHeld hx1 hx2 hx3
                  go_wp2_with fail
                  go_roundw
                  case rel => exact ⟨j + 1, by omega, by go_num, HN.out⟩
                  case measure => simp [intOf]; omega
        ·obtain rfl : j = 3 := by omega
         as_aux_lemma =>
          go_upto_region 24 with (fail)
          have hHeld : Ext wz wz.drew := (Ext.refl wz).drew
          refine wp_region_held_drew (S := fun W => Ext wz W) (by kernel_rfl) hHeld (fun _ => ?_)
          by_cases hm0 : 0 < m
          ·as_aux_lemma =>
            obtain ⟨g, k2, rfl, rfl, hpc, hcc, hpm, hcm, hdrop⟩ := HSL.out.1 hm0
            obtain ⟨m, rfl⟩ : ∃ m', m = m' + 1 := ⟨m - 1, by omega⟩
            obtain ⟨o, ho, hrp⟩ := run_slice1 (P := Try.prog) 22 3 i0 g m pc Try.underlying22 hi0
            obtain ⟨o', ho', hrc⟩ := run_slice1 (P := Try.prog) 52 58 j0 k2 m cc Try.underlying52 hj0
            rw [hz1] at ho
            rw [hy1] at ho'
            have HR2 := Lib.hid ((hdrop o o' (fun h => ⟨ho (by omega), ho' (by omega)⟩)).keep HZC.out)
            rw [Nat.add_sub_cancel] at HR2
            have hmp : (0 : Int) < (m : Int) + 1 := by omega
            obtain ⟨ds', hds'⟩ : ∃ d, ds.drop 1 = d := ⟨_, rfl⟩
            rw [hds'] at HR2
            have HBD := Lib.hid (show ∀ c, -2 ≤ ds'.getD c 0 ∧ ds'.getD c 0 ≤ 2 from by rw [← hds']; exact HSL.out.2)
            obtain ⟨q, hq⟩ : ∃ q, rchkE n1 Ls1 zs1 hs s1n 0 m ds' = q := ⟨_, rfl⟩
            have HQE := Lib.hid hq
            clear hq ho ho' hdrop hds' hpm hcm
            refine tkW (i := 0) (h := ?_)
            refine tkW (i := 1) (h := ?_)
            refine tkW (i := 2) (h := ?_)
            refine tkW (i := 3) (h := ?_)
            refine tkW (i := 4) (h := ?_)
            as_aux_lemma =>
             refine tkW (i := 5) (h := ?_)
             refine tkW (i := 6) (h := ?_)
             refine tkL (i := 7) (H := HY1) (h := ?_)
             refine tkW (i := 9) (h := ?_)
             as_aux_lemma =>
              refine tkW (i := 10) (h := ?_)
              refine tkW (i := 11) (h := ?_)
              refine tkW (i := 13) (h := ?_)
              refine tkW (i := 14) (h := ?_)
              as_aux_lemma =>
               refine tkW (i := 15) (h := ?_)
               refine tkL (i := 16) (H := HY1) (h := ?_)
               refine tkW (i := 17) (h := ?_)
               refine tkW (i := 18) (h := ?_)
               refine tkW (i := 19) (h := ?_)
               clear hrp hrc
               as_aux_lemma =>
                refine ckL (i := 8) (h := fun K hK => ?_); go_simp; go_at_call 13; refine (own_c n1 ⟨s1a, s1n, s1c⟩ ⟨v1a, v1n, v1c⟩ _).mono ?_; rintro e u1 ⟨rfl, hx1⟩; simp only [Sl.v]; go_wp2_with fail; refine shG hK (h := ?_); clear hK K; intro hHeld
                as_aux_lemma =>
                 refine ckL (i := 12) (h := fun K hK => ?_); go_simp; go_at_call 25; refine (CheckI_c n1 ⟨s1a, s1n, s1c⟩ ⟨v1a, v1n, v1c⟩ gs1 Ls1 zs1 ha s1n hc hs 0 (some ⟨k2, o', none⟩) m (cc - 1) ds' _ (HSH.out.ext (by assumption)) (HBL.out.ext (by assumption)) (by omega) (HR2.out.v.ext (by assumption)) (by omega) HBD.out).mono ?_; rw [HQE.out]; rintro e u2 ⟨rfl, hx2⟩; go_wp2_with fail; refine shG hK (h := ?_); clear hK K; intro hHeld
                 as_aux_lemma =>
                  refine ckL (i := 20) (h := fun K hK => ?_); go_simp; go_at_call 26; refine (rChk_c n1 ⟨s1a, s1n, s1c⟩ ⟨v1a, v1n, v1c⟩ gs1 Ls1 zs1 ha s1n hc hs 0 (some ⟨g, o, none⟩) m (pc - 1) ds' _ (HSH.out.ext (by assumption)) (HBL.out.ext (by assumption)) (by omega) (HR2.out.i.keep (Ext.ik (by assumption))) (by omega) HBD.out).mono ?_; rw [HQE.out]; rintro e u3 ⟨rfl, hx3⟩; go_wp2_with fail; refine shG hK (h := ?_); clear hK K; intro hHeld
                  as_aux_lemma =>
                   refine tkW (i := 21) (h := ?_)
                   refine tkW (i := 22) (h := ?_)
                   refine doneL (by kernel_rfl) ?_
                   have HN := Lib.hid (HI.out.2.trans (HZ.out.trans hHeld))
                   clear hHeld hx1 hx2 hx3
                   go_wp2_with fail
                   go_roundw
                   case rel => exact ⟨i + 1, by omega, by go_num, HN.out⟩
                   case measure => simp [intOf]; omega
          ·as_aux_lemma =>
            obtain rfl : m = 0 := by omega
            refine tkW (i := 0) (h := ?_)
            refine tkW (i := 1) (h := ?_)
            refine tkW (i := 2) (h := ?_)
            refine tkW (i := 3) (h := ?_)
            refine tkN (i := 4) (h := ?_)
            refine tkN (i := 5) (h := ?_)
            as_aux_lemma =>
             refine tkN (i := 6) (h := ?_)
             refine tkN (i := 7) (h := ?_)
             refine tkN (i := 8) (h := ?_)
             refine tkN (i := 9) (h := ?_)
             refine tkN (i := 10) (h := ?_)
             as_aux_lemma =>
              refine tkN (i := 11) (h := ?_)
              refine tkN (i := 12) (h := ?_)
              refine tkN (i := 13) (h := ?_)
              refine tkN (i := 14) (h := ?_)
              refine tkN (i := 15) (h := ?_)
              as_aux_lemma =>
               refine tkN (i := 16) (h := ?_)
               refine tkN (i := 17) (h := ?_)
               refine tkN (i := 18) (h := ?_)
               refine tkN (i := 19) (h := ?_)
               as_aux_lemma =>
                refine tkN (i := 20) (h := ?_)
                refine tkN (i := 21) (h := ?_)
                refine tkW (i := 22) (h := ?_)
                refine doneL (by kernel_rfl) ?_
                have HN := Lib.hid (HI.out.2.trans (HZ.out.trans hHeld))
                clear hHeld
                go_wp2_with fail
                go_roundw
                case rel => exact ⟨i + 1, by omega, by go_num, HN.out⟩
                case measure => simp [intOf]; omega
  ·as_aux_lemma =>
    obtain rfl : i = 2 := by omega
    have HE4 := Lib.hid HI.out.1.ext
    clear HI HD HO HV
    go_wp2_with fail
    refine (From_c 3 _ (by omega) (by omega)).mono ?_
    rintro e w4 ⟨t, rfl, ht, hx4⟩
    go_upto_region 28 with (fail)
    obtain ⟨M, hM⟩ : ∃ M, w4.heap.size = M := ⟨_, rfl⟩
    rw [hM]
    have hM3 : wr.heap.size ≤ M := by rw [← hM]; exact hx4.size
    refine wp_gen (fun W => Ext wr W ∧ At W M #[.bool t.neg, .slice t.a t.n t.c] ∧ Own W M 2 ∧ IsI W t 3) ⟨hx4.alloc _, (Blk.at _ 56 hM.symm).at', (Blk.at _ 56 hM.symm).own 2 (by simp) (noIntW2 _ _ _ _), ht.keep ((Ext.refl _).alloc _).ik⟩ ?_
    clear hM ht hx4
    intro W0 hW
    have HW := Lib.hid hW
    clear hW
    go_loopw [28] (fun iv ws => ∃ (i : Nat) (p : IV), i ≤ 13 ∧ iv = .int .i64 (i : Int) ∧ Ext wr ws ∧ At ws M #[.bool p.neg, .slice p.a p.n p.c] ∧ Own ws M 2 ∧ IsI ws p (pow3 i)) (fun iv _ => 13 - (intOf iv).toNat)
    case atStart => exact ⟨0, t, by omega, rfl, HW.out.1, HW.out.2.1, HW.out.2.2.1, HW.out.2.2.2⟩
    case round =>
     rename World => ws
     obtain ⟨i, p, hi, rfl, hE, hA, hO, hp⟩ := hrel
     have HP := Lib.hid (And.intro hE (And.intro hA (And.intro hO hp)))
     have hl := hO.lt (by omega)
     have c0 := hA 0 (by simp)
     have c1 := hA 1 (by simp)
     simp at c0 c1
     clear hE hA hO hp
     by_cases hlt : i < 13
     ·as_aux_lemma =>
       have hlt' : (i : Int) < 13 := by omega
       have hb1 : Big (pow3 (i + 1)) := big28 (by have := pow3_bd (i + 1) (by omega); omega)
       have hlim := Lib.hid (show lim (pow3 i * pow3 i) = (pow3 (i + 1), 0) from lim_big hb1)
       clear hb1
       go_wp2_with fail
       refine (Mul_c p p (pow3 i) (pow3 i) _ HP.out.2.2.2 HP.out.2.2.2).mono ?_
       rw [hlim.out]
       rintro e w5 ⟨q, rfl, hq, hx5⟩
       have hs5 := hx5.size
       have hl5 : M < w5.heap.size := by omega
       have O5 := HP.out.2.2.1.ext hx5 (by omega)
       have o0 := O5.1 0 (by omega)
       have o1 := O5.1 1 (by omega)
       have of := O5.2.1
       have HQ := Lib.hid (And.intro hq (And.intro O5 (HP.out.1.trans hx5)))
       clear c0 c1 hq hx5 O5
       go_wp2_with fail
       go_roundw
       case rel => exact ⟨i + 1, q, by omega, by go_num, ((HQ.out.2.2.setCell hM3 _).setCell hM3 _).alloc _, At.ext ((Ext.refl _).alloc _) (At.mk2 (put2_cells HQ.out.2.1 _ _).1 (put2_cells HQ.out.2.1 _ _).2) (by simp), Own.ext ((Ext.refl _).alloc _) (own_put2 HQ.out.2.1 _ _ _ _) (by omega), (HQ.out.1.keep (IK.put2 HQ.out.2.1 _ _ _ _)).keep ((Ext.refl _).alloc _).ik⟩
       case measure => simp [intOf]; omega
     ·as_aux_lemma =>
       have hin : ¬ (i : Int) < 13 := by omega
       obtain ⟨x, hx⟩ : ∃ x, pow3 i = x := ⟨_, rfl⟩
       have hgr : Gr x := by rw [← hx]; exact pow3_gr (by omega)
       rw [hx] at HP
       have HGR := Lib.hid hgr
       have hx3 := hgr.pos
       have HLIM := Lib.hid (show lim (x + 1) = (x + 1, 0) from lim_big (big28 (by have := hgr.bd; have := pos28; omega)))
       have HPC := Lib.hid (fun W (e : Ext ws W) => (show W.cell? ⟨M, 0, none⟩ = some (.bool p.neg) ∧ W.cell? ⟨M, 1, none⟩ = some (.slice p.a p.n p.c) from ⟨e.cell c0, e.cell c1⟩))
       have HEW := Lib.hid (HE4.out.trans HP.out.1)
       have HPP := Lib.hid HP.out.2.2.2
       clear hx hgr c0 c1 HW HP
       go_upto_region 34 with (fail)
       go_cut [31, 32] (fun s t wx => ∃ (X : Nat) (f : FV), s = .pointer (some ⟨X, 0, none⟩) ∧ t = .int .i64 0 ∧ Ext ws wx ∧ At wx X f.cs ∧ IsF wx f 1 x)
       case first =>
        refine wp_region_held_drew (S := fun W => Ext ws W) (by kernel_rfl) (Ext.refl ws).drew (fun hHeld => ?_); refine takeL (i := 1) (v := ?_) rfl (by kernel_rfl) (by kernel_rfl) (by kernel_rfl) (fun _ _ _ h => h) (Or.inl ⟨by rfl, ?_⟩) (by assumption) ?_; rotate_left; (focus (intro wq hSw; have hcc := HPC.out wq hSw; clear hSw; go_split_ands; go_simp; try with_reducible rfl)); (try simp only [Act.put, List.setIfInBounds_toArray, List.set_cons_zero, List.set_cons_succ]); refine cons2L (i := 0) (j := 6) (by kernel_rfl) rfl rfl (fun K hK => ?_) (fun K hK => ?_); rotate_left; (focus (go_simp; refine hK.out _ _ ?_ ?_; rotate_left; clear hK K; (try clear hHeld); intro hHeld; rotate_right; (focus ((try dsimp only); exact kept)); (try simp only [Act.put, List.setIfInBounds_toArray, List.set_cons_zero, List.set_cons_succ]); refine consL (i := 0) (by kernel_rfl) rfl (fun K hK => ?_); go_simp; go_at_call 27; refine (From_c 1 _ (by omega) (by omega)).mono ?_; rintro e w5 ⟨s, rfl, hs, hx5⟩; have sz := Ext.size hx5; (try simp only [World.size_alloc, World.size_drew] at sz); (first | (have OG := Own.ext hx5 ((Blk.at #[.bool false, .slice none 0 0, .bool false, .slice none 0 0] 58 rfl).own 4 (by simp) (noIntF _ _ _ _ _ _ _ _)) (by omega)) | (have OG := Own.ext hx5 OG (by omega)) | skip); (try simp only [World.size_alloc] at OG); go_wp2_with fail; refine hK.out _ _ ?_ ?_; rotate_left; clear hK K; (try clear hHeld); intro hHeld; rotate_right; (focus ((try dsimp only); exact kept)); (try simp only [Act.put, List.setIfInBounds_toArray, List.set_cons_zero, List.set_cons_succ]); refine consL (i := 2) (by kernel_rfl) rfl (fun K hK => ?_); go_simp; go_at_call 29; refine (Make_c s p 1 x _ (by first | exact hs | exact hs.keep ((Ext.refl _).alloc _).ik) (HPP.out.keep (Ext.ik (by assumption))) (by omega)).mono ?_; rw [gcd_one, Int.ediv_one, Int.ediv_one]; rintro e w6 ⟨f, rfl, hf, hx6⟩; have sz := Ext.size hx6; (try simp only [World.size_alloc, World.size_drew] at sz); (first | (have OG := Own.ext hx6 ((Blk.at #[.bool false, .slice none 0 0, .bool false, .slice none 0 0] 58 rfl).own 4 (by simp) (noIntF _ _ _ _ _ _ _ _)) (by omega)) | (have OG := Own.ext hx6 OG (by omega)) | skip); (try simp only [World.size_alloc] at OG); go_wp2_with fail; refine hK.out _ _ ?_ ?_; rotate_left; clear hK K; (try clear hHeld); intro hHeld; rotate_right; (focus ((try dsimp only); exact kept)); (try simp only [Act.put, List.setIfInBounds_toArray, List.set_cons_zero, List.set_cons_succ]); refine takeL (i := 3) (v := ?_) rfl (by kernel_rfl) (by kernel_rfl) (by kernel_rfl) (fun _ _ _ h => h) (Or.inl ⟨by rfl, ?_⟩) (by assumption) ?_; rotate_left; (focus (intro wq hSw; (try dsimp only at hSw); go_simp; try with_reducible rfl)); (try simp only [Act.put, List.setIfInBounds_toArray, List.set_cons_zero, List.set_cons_succ]); refine takeL (i := 4) (v := ?_) rfl (by kernel_rfl) (by kernel_rfl) (by kernel_rfl) (fun _ _ _ h => h) (Or.inl ⟨by rfl, ?_⟩) (by assumption) ?_; rotate_left; (focus (intro wq hSw; (try dsimp only at hSw); go_simp; try with_reducible rfl)); (try simp only [Act.put, List.setIfInBounds_toArray, List.set_cons_zero, List.set_cons_succ]); refine takeL (i := 5) (v := ?_) rfl (by kernel_rfl) (by kernel_rfl) (by kernel_rfl) (fun _ _ _ h => h) (Or.inl ⟨by rfl, ?_⟩) (by assumption) ?_; rotate_left; (focus (intro wq hSw; (try dsimp only at hSw); go_simp; try with_reducible rfl)); (try simp only [Act.put, List.setIfInBounds_toArray, List.set_cons_zero, List.set_cons_succ]); refine consL (i := 7) (by kernel_rfl) rfl (fun K hK => ?_); go_simp; refine hK.out _ _ ?_ ?_; rotate_left; clear hK K; (try clear hHeld); intro hHeld; rotate_right; (focus ((try dsimp only); exact kept)); (try simp only [Act.put, List.setIfInBounds_toArray, List.set_cons_zero, List.set_cons_succ]); refine takeL (i := 8) (v := ?_) rfl (by kernel_rfl) (by kernel_rfl) (by kernel_rfl) (fun _ _ _ h => h) (Or.inl ⟨by rfl, ?_⟩) (by assumption) ?_; rotate_left; (focus (intro wq hSw; (try dsimp only at hSw); go_simp; try with_reducible rfl)); (try simp only [Act.put, List.setIfInBounds_toArray, List.set_cons_zero, List.set_cons_succ]); refine doneL (by kernel_rfl) ?_; go_wp2_with fail; go_meet; refine ⟨_, f, rfl, rfl, hHeld, ?_, ?_⟩; (focus (first | exact At.putF' OG f | exact (Blk.at _ 58 rfl).at')); (focus (first | exact hf.keep (IK.putF OG f) | exact hf.keep ((Ext.refl _).alloc _).ik)))); go_simp; go_at_call 27; refine (From_c 1 _ (by omega) (by omega)).mono ?_; rintro e w5 ⟨s, rfl, hs, hx5⟩; have sz := Ext.size hx5; (try simp only [World.size_alloc, World.size_drew] at sz); (first | (have OG := Own.ext hx5 ((Blk.at #[.bool false, .slice none 0 0, .bool false, .slice none 0 0] 58 rfl).own 4 (by simp) (noIntF _ _ _ _ _ _ _ _)) (by omega)) | (have OG := Own.ext hx5 OG (by omega)) | skip); (try simp only [World.size_alloc] at OG); go_wp2_with fail; refine hK.out _ _ ?_ ?_; rotate_left; clear hK K; (try clear hHeld); intro hHeld; rotate_right; (focus ((try dsimp only); exact kept)); (try simp only [Act.put, List.setIfInBounds_toArray, List.set_cons_zero, List.set_cons_succ]); refine cons2L (i := 2) (j := 6) (by kernel_rfl) rfl rfl (fun K hK => ?_) (fun K hK => ?_); rotate_left; (focus (go_simp; refine hK.out _ _ ?_ ?_; rotate_left; clear hK K; (try clear hHeld); intro hHeld; rotate_right; (focus ((try dsimp only); exact kept)); (try simp only [Act.put, List.setIfInBounds_toArray, List.set_cons_zero, List.set_cons_succ]); refine consL (i := 2) (by kernel_rfl) rfl (fun K hK => ?_); go_simp; go_at_call 29; refine (Make_c s p 1 x _ (by first | exact hs | exact hs.keep ((Ext.refl _).alloc _).ik) (HPP.out.keep (Ext.ik (by assumption))) (by omega)).mono ?_; rw [gcd_one, Int.ediv_one, Int.ediv_one]; rintro e w6 ⟨f, rfl, hf, hx6⟩; have sz := Ext.size hx6; (try simp only [World.size_alloc, World.size_drew] at sz); (first | (have OG := Own.ext hx6 ((Blk.at #[.bool false, .slice none 0 0, .bool false, .slice none 0 0] 58 rfl).own 4 (by simp) (noIntF _ _ _ _ _ _ _ _)) (by omega)) | (have OG := Own.ext hx6 OG (by omega)) | skip); (try simp only [World.size_alloc] at OG); go_wp2_with fail; refine hK.out _ _ ?_ ?_; rotate_left; clear hK K; (try clear hHeld); intro hHeld; rotate_right; (focus ((try dsimp only); exact kept)); (try simp only [Act.put, List.setIfInBounds_toArray, List.set_cons_zero, List.set_cons_succ]); refine takeL (i := 3) (v := ?_) rfl (by kernel_rfl) (by kernel_rfl) (by kernel_rfl) (fun _ _ _ h => h) (Or.inl ⟨by rfl, ?_⟩) (by assumption) ?_; rotate_left; (focus (intro wq hSw; (try dsimp only at hSw); go_simp; try with_reducible rfl)); (try simp only [Act.put, List.setIfInBounds_toArray, List.set_cons_zero, List.set_cons_succ]); refine takeL (i := 4) (v := ?_) rfl (by kernel_rfl) (by kernel_rfl) (by kernel_rfl) (fun _ _ _ h => h) (Or.inl ⟨by rfl, ?_⟩) (by assumption) ?_; rotate_left; (focus (intro wq hSw; (try dsimp only at hSw); go_simp; try with_reducible rfl)); (try simp only [Act.put, List.setIfInBounds_toArray, List.set_cons_zero, List.set_cons_succ]); refine takeL (i := 5) (v := ?_) rfl (by kernel_rfl) (by kernel_rfl) (by kernel_rfl) (fun _ _ _ h => h) (Or.inl ⟨by rfl, ?_⟩) (by assumption) ?_; rotate_left; (focus (intro wq hSw; (try dsimp only at hSw); go_simp; try with_reducible rfl)); (try simp only [Act.put, List.setIfInBounds_toArray, List.set_cons_zero, List.set_cons_succ]); refine consL (i := 7) (by kernel_rfl) rfl (fun K hK => ?_); go_simp; refine hK.out _ _ ?_ ?_; rotate_left; clear hK K; (try clear hHeld); intro hHeld; rotate_right; (focus ((try dsimp only); exact kept)); (try simp only [Act.put, List.setIfInBounds_toArray, List.set_cons_zero, List.set_cons_succ]); refine takeL (i := 8) (v := ?_) rfl (by kernel_rfl) (by kernel_rfl) (by kernel_rfl) (fun _ _ _ h => h) (Or.inl ⟨by rfl, ?_⟩) (by assumption) ?_; rotate_left; (focus (intro wq hSw; (try dsimp only at hSw); go_simp; try with_reducible rfl)); (try simp only [Act.put, List.setIfInBounds_toArray, List.set_cons_zero, List.set_cons_succ]); refine doneL (by kernel_rfl) ?_; go_wp2_with fail; go_meet; refine ⟨_, f, rfl, rfl, hHeld, ?_, ?_⟩; (focus (first | exact At.putF' OG f | exact (Blk.at _ 58 rfl).at')); (focus (first | exact hf.keep (IK.putF OG f) | exact hf.keep ((Ext.refl _).alloc _).ik)))); go_simp; go_at_call 29; refine (Make_c s p 1 x _ (by first | exact hs | exact hs.keep ((Ext.refl _).alloc _).ik) (HPP.out.keep (Ext.ik (by assumption))) (by omega)).mono ?_; rw [gcd_one, Int.ediv_one, Int.ediv_one]; rintro e w6 ⟨f, rfl, hf, hx6⟩; have sz := Ext.size hx6; (try simp only [World.size_alloc, World.size_drew] at sz); (first | (have OG := Own.ext hx6 ((Blk.at #[.bool false, .slice none 0 0, .bool false, .slice none 0 0] 58 rfl).own 4 (by simp) (noIntF _ _ _ _ _ _ _ _)) (by omega)) | (have OG := Own.ext hx6 OG (by omega)) | skip); (try simp only [World.size_alloc] at OG); go_wp2_with fail; refine hK.out _ _ ?_ ?_; rotate_left; clear hK K; (try clear hHeld); intro hHeld; rotate_right; (focus ((try dsimp only); exact kept)); (try simp only [Act.put, List.setIfInBounds_toArray, List.set_cons_zero, List.set_cons_succ]); have hH6 := hHeld; refine takeL (i := 3) (v := ?_) rfl (by kernel_rfl) (by kernel_rfl) (by kernel_rfl) (fun _ _ _ h => h) (Or.inl ⟨by rfl, ?_⟩) (by assumption) ?_; rotate_left; (focus (intro wq hSw; (try dsimp only at hSw); go_simp; try with_reducible rfl)); (try simp only [Act.put, List.setIfInBounds_toArray, List.set_cons_zero, List.set_cons_succ]); refine takeL (i := 4) (v := ?_) rfl (by kernel_rfl) (by kernel_rfl) (by kernel_rfl) (fun _ _ _ h => h) (Or.inl ⟨by rfl, ?_⟩) (by assumption) ?_; rotate_left; (focus (intro wq hSw; (try dsimp only at hSw); go_simp; try with_reducible rfl)); (try simp only [Act.put, List.setIfInBounds_toArray, List.set_cons_zero, List.set_cons_succ]); refine takeL (i := 5) (v := ?_) rfl (by kernel_rfl) (by kernel_rfl) (by kernel_rfl) (fun _ _ _ h => h) (Or.inl ⟨by rfl, ?_⟩) (by assumption) ?_; rotate_left; (focus (intro wq hSw; (try dsimp only at hSw); go_simp; try with_reducible rfl)); (try simp only [Act.put, List.setIfInBounds_toArray, List.set_cons_zero, List.set_cons_succ]); refine consL (i := 6) (by kernel_rfl) rfl (fun K hK => ?_); go_simp; refine hK.out _ _ ?_ ?_; rotate_left; clear hK K; (try clear hHeld); intro hHeld; rotate_right; (focus ((try dsimp only); exact kept)); (try simp only [Act.put, List.setIfInBounds_toArray, List.set_cons_zero, List.set_cons_succ]); refine consL (i := 7) (by kernel_rfl) rfl (fun K hK => ?_); go_simp; refine hK.out _ _ ?_ ?_; rotate_left; clear hK K; (try clear hHeld); intro hHeld; rotate_right; (focus ((try dsimp only); exact kept)); (try simp only [Act.put, List.setIfInBounds_toArray, List.set_cons_zero, List.set_cons_succ]); refine takeL (i := 8) (v := ?_) rfl (by kernel_rfl) (by kernel_rfl) (by kernel_rfl) (fun _ _ _ h => h) (Or.inl ⟨by rfl, ?_⟩) (by assumption) ?_; rotate_left; (focus (intro wq hSw; (try dsimp only at hSw); go_simp; try with_reducible rfl)); (try simp only [Act.put, List.setIfInBounds_toArray, List.set_cons_zero, List.set_cons_succ]); refine doneL (by kernel_rfl) ?_; go_wp2_with fail; go_meet; refine ⟨_, f, rfl, rfl, hHeld, ?_, ?_⟩; (focus (first | exact At.putF' OG f | exact (Blk.at _ 58 rfl).at')); (focus (first | exact hf.keep (IK.putF OG f) | exact hf.keep ((Ext.refl _).alloc _).ik))
       case rest =>
        obtain ⟨X1, f1, rfl, rfl, hE5, AX, hf1⟩ := hcut
        obtain ⟨w5, hw5⟩ : ∃ W, W = wc := ⟨_, rfl⟩
        subst hw5
        have H5A := Lib.hid (And.intro hE5 (And.intro AX hf1))
        have HPC5 := Lib.hid (fun W (e : Ext w5 W) => HPC.out W (hE5.trans e))
        have HPP5 := Lib.hid (HPP.out.keep hE5.ik)
        clear hE5 AX hf1
        go_upto_region 35 with (fail)
        go_cut [33, 34] (fun s t wx => ∃ (X : Nat) (f : IV), s = .pointer (some ⟨X, 0, none⟩) ∧ t = .int .i64 0 ∧ Ext w5 wx ∧ At wx X #[.bool f.neg, .slice f.a f.n f.c] ∧ IsI wx f (x + 1))
        case first =>
         refine wp_region_held_drew (S := fun W => Ext w5 W) (by kernel_rfl) (Ext.refl w5).drew (fun hHeld => ?_); refine takeL (i := 0) (v := ?_) rfl (by kernel_rfl) (by kernel_rfl) (by kernel_rfl) (fun _ _ _ h => h) (Or.inl ⟨by rfl, ?_⟩) (by assumption) ?_; rotate_left; (focus (intro wq hSw; have hcc := HPC5.out wq hSw; clear hSw; go_split_ands; go_simp; try with_reducible rfl)); (try simp only [Act.put, List.setIfInBounds_toArray, List.set_cons_zero, List.set_cons_succ]); refine cons2L (i := 1) (j := 6) (by kernel_rfl) rfl rfl (fun K hK => ?_) (fun K hK => ?_); rotate_left; (focus (go_simp; refine hK.out _ _ ?_ ?_; rotate_left; clear hK K; (try clear hHeld); intro hHeld; rotate_right; (focus ((try dsimp only); exact kept)); (try simp only [Act.put, List.setIfInBounds_toArray, List.set_cons_zero, List.set_cons_succ]); refine consL (i := 1) (by kernel_rfl) rfl (fun K hK => ?_); go_simp; go_at_call 27; refine (From_c 1 _ (by omega) (by omega)).mono ?_; rintro e w5 ⟨s, rfl, hs, hx5⟩; have sz := Ext.size hx5; (try simp only [World.size_alloc, World.size_drew] at sz); (first | (have OG := Own.ext hx5 ((Blk.at #[.bool false, .slice none 0 0] 56 rfl).own 2 (by simp) noIntW) (by omega)) | (have OG := Own.ext hx5 OG (by omega)) | skip); (try simp only [World.size_alloc] at OG); go_wp2_with fail; refine hK.out _ _ ?_ ?_; rotate_left; clear hK K; (try clear hHeld); intro hHeld; rotate_right; (focus ((try dsimp only); exact kept)); (try simp only [Act.put, List.setIfInBounds_toArray, List.set_cons_zero, List.set_cons_succ]); refine consL (i := 2) (by kernel_rfl) rfl (fun K hK => ?_); go_simp; go_at_call 30; refine (Add_c p s x 1 _ (HPP5.out.keep (Ext.ik (by assumption))) (by first | exact hs | exact hs.keep ((Ext.refl _).alloc _).ik)).mono ?_; rw [HLIM.out]; rintro e w6 ⟨f, rfl, hf, hx6⟩; have sz := Ext.size hx6; (try simp only [World.size_alloc, World.size_drew] at sz); (first | (have OG := Own.ext hx6 ((Blk.at #[.bool false, .slice none 0 0] 56 rfl).own 2 (by simp) noIntW) (by omega)) | (have OG := Own.ext hx6 OG (by omega)) | skip); (try simp only [World.size_alloc] at OG); go_wp2_with fail; refine hK.out _ _ ?_ ?_; rotate_left; clear hK K; (try clear hHeld); intro hHeld; rotate_right; (focus ((try dsimp only); exact kept)); (try simp only [Act.put, List.setIfInBounds_toArray, List.set_cons_zero, List.set_cons_succ]); refine takeL (i := 3) (v := ?_) rfl (by kernel_rfl) (by kernel_rfl) (by kernel_rfl) (fun _ _ _ h => h) (Or.inl ⟨by rfl, ?_⟩) (by assumption) ?_; rotate_left; (focus (intro wq hSw; (try dsimp only at hSw); go_simp; try with_reducible rfl)); (try simp only [Act.put, List.setIfInBounds_toArray, List.set_cons_zero, List.set_cons_succ]); refine takeL (i := 4) (v := ?_) rfl (by kernel_rfl) (by kernel_rfl) (by kernel_rfl) (fun _ _ _ h => h) (Or.inl ⟨by rfl, ?_⟩) (by assumption) ?_; rotate_left; (focus (intro wq hSw; (try dsimp only at hSw); go_simp; try with_reducible rfl)); (try simp only [Act.put, List.setIfInBounds_toArray, List.set_cons_zero, List.set_cons_succ]); refine takeL (i := 5) (v := ?_) rfl (by kernel_rfl) (by kernel_rfl) (by kernel_rfl) (fun _ _ _ h => h) (Or.inl ⟨by rfl, ?_⟩) (by assumption) ?_; rotate_left; (focus (intro wq hSw; (try dsimp only at hSw); go_simp; try with_reducible rfl)); (try simp only [Act.put, List.setIfInBounds_toArray, List.set_cons_zero, List.set_cons_succ]); refine consL (i := 7) (by kernel_rfl) rfl (fun K hK => ?_); go_simp; refine hK.out _ _ ?_ ?_; rotate_left; clear hK K; (try clear hHeld); intro hHeld; rotate_right; (focus ((try dsimp only); exact kept)); (try simp only [Act.put, List.setIfInBounds_toArray, List.set_cons_zero, List.set_cons_succ]); refine takeL (i := 8) (v := ?_) rfl (by kernel_rfl) (by kernel_rfl) (by kernel_rfl) (fun _ _ _ h => h) (Or.inl ⟨by rfl, ?_⟩) (by assumption) ?_; rotate_left; (focus (intro wq hSw; (try dsimp only at hSw); go_simp; try with_reducible rfl)); (try simp only [Act.put, List.setIfInBounds_toArray, List.set_cons_zero, List.set_cons_succ]); refine doneL (by kernel_rfl) ?_; go_wp2_with fail; go_meet; refine ⟨_, f, rfl, rfl, hHeld, ?_, ?_⟩; (focus (first | exact At.mk2 (put2_cells OG _ _).1 (put2_cells OG _ _).2 | exact (Blk.at _ 56 rfl).at')); (focus (first | exact hf.keep (IK.put2 OG _ _ _ _) | exact hf.keep ((Ext.refl _).alloc _).ik)))); go_simp; go_at_call 27; refine (From_c 1 _ (by omega) (by omega)).mono ?_; rintro e w5 ⟨s, rfl, hs, hx5⟩; have sz := Ext.size hx5; (try simp only [World.size_alloc, World.size_drew] at sz); (first | (have OG := Own.ext hx5 ((Blk.at #[.bool false, .slice none 0 0] 56 rfl).own 2 (by simp) noIntW) (by omega)) | (have OG := Own.ext hx5 OG (by omega)) | skip); (try simp only [World.size_alloc] at OG); go_wp2_with fail; refine hK.out _ _ ?_ ?_; rotate_left; clear hK K; (try clear hHeld); intro hHeld; rotate_right; (focus ((try dsimp only); exact kept)); (try simp only [Act.put, List.setIfInBounds_toArray, List.set_cons_zero, List.set_cons_succ]); refine cons2L (i := 2) (j := 6) (by kernel_rfl) rfl rfl (fun K hK => ?_) (fun K hK => ?_); rotate_left; (focus (go_simp; refine hK.out _ _ ?_ ?_; rotate_left; clear hK K; (try clear hHeld); intro hHeld; rotate_right; (focus ((try dsimp only); exact kept)); (try simp only [Act.put, List.setIfInBounds_toArray, List.set_cons_zero, List.set_cons_succ]); refine consL (i := 2) (by kernel_rfl) rfl (fun K hK => ?_); go_simp; go_at_call 30; refine (Add_c p s x 1 _ (HPP5.out.keep (Ext.ik (by assumption))) (by first | exact hs | exact hs.keep ((Ext.refl _).alloc _).ik)).mono ?_; rw [HLIM.out]; rintro e w6 ⟨f, rfl, hf, hx6⟩; have sz := Ext.size hx6; (try simp only [World.size_alloc, World.size_drew] at sz); (first | (have OG := Own.ext hx6 ((Blk.at #[.bool false, .slice none 0 0] 56 rfl).own 2 (by simp) noIntW) (by omega)) | (have OG := Own.ext hx6 OG (by omega)) | skip); (try simp only [World.size_alloc] at OG); go_wp2_with fail; refine hK.out _ _ ?_ ?_; rotate_left; clear hK K; (try clear hHeld); intro hHeld; rotate_right; (focus ((try dsimp only); exact kept)); (try simp only [Act.put, List.setIfInBounds_toArray, List.set_cons_zero, List.set_cons_succ]); refine takeL (i := 3) (v := ?_) rfl (by kernel_rfl) (by kernel_rfl) (by kernel_rfl) (fun _ _ _ h => h) (Or.inl ⟨by rfl, ?_⟩) (by assumption) ?_; rotate_left; (focus (intro wq hSw; (try dsimp only at hSw); go_simp; try with_reducible rfl)); (try simp only [Act.put, List.setIfInBounds_toArray, List.set_cons_zero, List.set_cons_succ]); refine takeL (i := 4) (v := ?_) rfl (by kernel_rfl) (by kernel_rfl) (by kernel_rfl) (fun _ _ _ h => h) (Or.inl ⟨by rfl, ?_⟩) (by assumption) ?_; rotate_left; (focus (intro wq hSw; (try dsimp only at hSw); go_simp; try with_reducible rfl)); (try simp only [Act.put, List.setIfInBounds_toArray, List.set_cons_zero, List.set_cons_succ]); refine takeL (i := 5) (v := ?_) rfl (by kernel_rfl) (by kernel_rfl) (by kernel_rfl) (fun _ _ _ h => h) (Or.inl ⟨by rfl, ?_⟩) (by assumption) ?_; rotate_left; (focus (intro wq hSw; (try dsimp only at hSw); go_simp; try with_reducible rfl)); (try simp only [Act.put, List.setIfInBounds_toArray, List.set_cons_zero, List.set_cons_succ]); refine consL (i := 7) (by kernel_rfl) rfl (fun K hK => ?_); go_simp; refine hK.out _ _ ?_ ?_; rotate_left; clear hK K; (try clear hHeld); intro hHeld; rotate_right; (focus ((try dsimp only); exact kept)); (try simp only [Act.put, List.setIfInBounds_toArray, List.set_cons_zero, List.set_cons_succ]); refine takeL (i := 8) (v := ?_) rfl (by kernel_rfl) (by kernel_rfl) (by kernel_rfl) (fun _ _ _ h => h) (Or.inl ⟨by rfl, ?_⟩) (by assumption) ?_; rotate_left; (focus (intro wq hSw; (try dsimp only at hSw); go_simp; try with_reducible rfl)); (try simp only [Act.put, List.setIfInBounds_toArray, List.set_cons_zero, List.set_cons_succ]); refine doneL (by kernel_rfl) ?_; go_wp2_with fail; go_meet; refine ⟨_, f, rfl, rfl, hHeld, ?_, ?_⟩; (focus (first | exact At.mk2 (put2_cells OG _ _).1 (put2_cells OG _ _).2 | exact (Blk.at _ 56 rfl).at')); (focus (first | exact hf.keep (IK.put2 OG _ _ _ _) | exact hf.keep ((Ext.refl _).alloc _).ik)))); go_simp; go_at_call 30; refine (Add_c p s x 1 _ (HPP5.out.keep (Ext.ik (by assumption))) (by first | exact hs | exact hs.keep ((Ext.refl _).alloc _).ik)).mono ?_; rw [HLIM.out]; rintro e w6 ⟨f, rfl, hf, hx6⟩; have sz := Ext.size hx6; (try simp only [World.size_alloc, World.size_drew] at sz); (first | (have OG := Own.ext hx6 ((Blk.at #[.bool false, .slice none 0 0] 56 rfl).own 2 (by simp) noIntW) (by omega)) | (have OG := Own.ext hx6 OG (by omega)) | skip); (try simp only [World.size_alloc] at OG); go_wp2_with fail; refine hK.out _ _ ?_ ?_; rotate_left; clear hK K; (try clear hHeld); intro hHeld; rotate_right; (focus ((try dsimp only); exact kept)); (try simp only [Act.put, List.setIfInBounds_toArray, List.set_cons_zero, List.set_cons_succ]); have hH6 := hHeld; refine takeL (i := 3) (v := ?_) rfl (by kernel_rfl) (by kernel_rfl) (by kernel_rfl) (fun _ _ _ h => h) (Or.inl ⟨by rfl, ?_⟩) (by assumption) ?_; rotate_left; (focus (intro wq hSw; (try dsimp only at hSw); go_simp; try with_reducible rfl)); (try simp only [Act.put, List.setIfInBounds_toArray, List.set_cons_zero, List.set_cons_succ]); refine takeL (i := 4) (v := ?_) rfl (by kernel_rfl) (by kernel_rfl) (by kernel_rfl) (fun _ _ _ h => h) (Or.inl ⟨by rfl, ?_⟩) (by assumption) ?_; rotate_left; (focus (intro wq hSw; (try dsimp only at hSw); go_simp; try with_reducible rfl)); (try simp only [Act.put, List.setIfInBounds_toArray, List.set_cons_zero, List.set_cons_succ]); refine takeL (i := 5) (v := ?_) rfl (by kernel_rfl) (by kernel_rfl) (by kernel_rfl) (fun _ _ _ h => h) (Or.inl ⟨by rfl, ?_⟩) (by assumption) ?_; rotate_left; (focus (intro wq hSw; (try dsimp only at hSw); go_simp; try with_reducible rfl)); (try simp only [Act.put, List.setIfInBounds_toArray, List.set_cons_zero, List.set_cons_succ]); refine consL (i := 6) (by kernel_rfl) rfl (fun K hK => ?_); go_simp; refine hK.out _ _ ?_ ?_; rotate_left; clear hK K; (try clear hHeld); intro hHeld; rotate_right; (focus ((try dsimp only); exact kept)); (try simp only [Act.put, List.setIfInBounds_toArray, List.set_cons_zero, List.set_cons_succ]); refine consL (i := 7) (by kernel_rfl) rfl (fun K hK => ?_); go_simp; refine hK.out _ _ ?_ ?_; rotate_left; clear hK K; (try clear hHeld); intro hHeld; rotate_right; (focus ((try dsimp only); exact kept)); (try simp only [Act.put, List.setIfInBounds_toArray, List.set_cons_zero, List.set_cons_succ]); refine takeL (i := 8) (v := ?_) rfl (by kernel_rfl) (by kernel_rfl) (by kernel_rfl) (fun _ _ _ h => h) (Or.inl ⟨by rfl, ?_⟩) (by assumption) ?_; rotate_left; (focus (intro wq hSw; (try dsimp only at hSw); go_simp; try with_reducible rfl)); (try simp only [Act.put, List.setIfInBounds_toArray, List.set_cons_zero, List.set_cons_succ]); refine doneL (by kernel_rfl) ?_; go_wp2_with fail; go_meet; refine ⟨_, f, rfl, rfl, hHeld, ?_, ?_⟩; (focus (first | exact At.mk2 (put2_cells OG _ _).1 (put2_cells OG _ _).2 | exact (Blk.at _ 56 rfl).at')); (focus (first | exact hf.keep (IK.put2 OG _ _ _ _) | exact hf.keep ((Ext.refl _).alloc _).ik))
        case rest =>
         obtain ⟨X2, d, rfl, rfl, hE6, AX, hd⟩ := hcut
         obtain ⟨w6, hw6⟩ : ∃ W, W = wc := ⟨_, rfl⟩
         subst hw6
         have HPD := Lib.hid (fun W (e : Ext w6 W) => (show W.cell? ⟨X2, 0, none⟩ = some (.bool d.neg) ∧ W.cell? ⟨X2, 1, none⟩ = some (.slice d.a d.n d.c) from ⟨e.cell (AX 0 (by simp)), e.cell (AX 1 (by simp))⟩))
         have HD6 := Lib.hid (And.intro hE6 hd)
         clear hE6 AX hd
         go_upto_region 36 with (fail)
         go_cut [35, 36] (fun s t wx => ∃ (X : Nat) (f : FV), s = .pointer (some ⟨X, 0, none⟩) ∧ t = .int .i64 0 ∧ Ext w6 wx ∧ At wx X f.cs ∧ IsF wx f 1 (x + 1))
         case first =>
          refine wp_region_held_drew (S := fun W => Ext w6 W) (by kernel_rfl) (Ext.refl w6).drew (fun hHeld => ?_); refine takeL (i := 1) (v := ?_) rfl (by kernel_rfl) (by kernel_rfl) (by kernel_rfl) (fun _ _ _ h => h) (Or.inl ⟨by rfl, ?_⟩) (by assumption) ?_; rotate_left; (focus (intro wq hSw; have hcc := HPD.out wq hSw; clear hSw; go_split_ands; go_simp; try with_reducible rfl)); (try simp only [Act.put, List.setIfInBounds_toArray, List.set_cons_zero, List.set_cons_succ]); refine cons2L (i := 0) (j := 6) (by kernel_rfl) rfl rfl (fun K hK => ?_) (fun K hK => ?_); rotate_left; (focus (go_simp; refine hK.out _ _ ?_ ?_; rotate_left; clear hK K; (try clear hHeld); intro hHeld; rotate_right; (focus ((try dsimp only); exact kept)); (try simp only [Act.put, List.setIfInBounds_toArray, List.set_cons_zero, List.set_cons_succ]); refine consL (i := 0) (by kernel_rfl) rfl (fun K hK => ?_); go_simp; go_at_call 27; refine (From_c 1 _ (by omega) (by omega)).mono ?_; rintro e w5 ⟨s, rfl, hs, hx5⟩; have sz := Ext.size hx5; (try simp only [World.size_alloc, World.size_drew] at sz); (first | (have OG := Own.ext hx5 ((Blk.at #[.bool false, .slice none 0 0, .bool false, .slice none 0 0] 58 rfl).own 4 (by simp) (noIntF _ _ _ _ _ _ _ _)) (by omega)) | (have OG := Own.ext hx5 OG (by omega)) | skip); (try simp only [World.size_alloc] at OG); go_wp2_with fail; refine hK.out _ _ ?_ ?_; rotate_left; clear hK K; (try clear hHeld); intro hHeld; rotate_right; (focus ((try dsimp only); exact kept)); (try simp only [Act.put, List.setIfInBounds_toArray, List.set_cons_zero, List.set_cons_succ]); refine consL (i := 2) (by kernel_rfl) rfl (fun K hK => ?_); go_simp; go_at_call 29; refine (Make_c s d 1 (x + 1) _ (by first | exact hs | exact hs.keep ((Ext.refl _).alloc _).ik) (HD6.out.2.keep (Ext.ik (by assumption))) (by omega)).mono ?_; rw [gcd_one, Int.ediv_one, Int.ediv_one]; rintro e w6 ⟨f, rfl, hf, hx6⟩; have sz := Ext.size hx6; (try simp only [World.size_alloc, World.size_drew] at sz); (first | (have OG := Own.ext hx6 ((Blk.at #[.bool false, .slice none 0 0, .bool false, .slice none 0 0] 58 rfl).own 4 (by simp) (noIntF _ _ _ _ _ _ _ _)) (by omega)) | (have OG := Own.ext hx6 OG (by omega)) | skip); (try simp only [World.size_alloc] at OG); go_wp2_with fail; refine hK.out _ _ ?_ ?_; rotate_left; clear hK K; (try clear hHeld); intro hHeld; rotate_right; (focus ((try dsimp only); exact kept)); (try simp only [Act.put, List.setIfInBounds_toArray, List.set_cons_zero, List.set_cons_succ]); refine takeL (i := 3) (v := ?_) rfl (by kernel_rfl) (by kernel_rfl) (by kernel_rfl) (fun _ _ _ h => h) (Or.inl ⟨by rfl, ?_⟩) (by assumption) ?_; rotate_left; (focus (intro wq hSw; (try dsimp only at hSw); go_simp; try with_reducible rfl)); (try simp only [Act.put, List.setIfInBounds_toArray, List.set_cons_zero, List.set_cons_succ]); refine takeL (i := 4) (v := ?_) rfl (by kernel_rfl) (by kernel_rfl) (by kernel_rfl) (fun _ _ _ h => h) (Or.inl ⟨by rfl, ?_⟩) (by assumption) ?_; rotate_left; (focus (intro wq hSw; (try dsimp only at hSw); go_simp; try with_reducible rfl)); (try simp only [Act.put, List.setIfInBounds_toArray, List.set_cons_zero, List.set_cons_succ]); refine takeL (i := 5) (v := ?_) rfl (by kernel_rfl) (by kernel_rfl) (by kernel_rfl) (fun _ _ _ h => h) (Or.inl ⟨by rfl, ?_⟩) (by assumption) ?_; rotate_left; (focus (intro wq hSw; (try dsimp only at hSw); go_simp; try with_reducible rfl)); (try simp only [Act.put, List.setIfInBounds_toArray, List.set_cons_zero, List.set_cons_succ]); refine consL (i := 7) (by kernel_rfl) rfl (fun K hK => ?_); go_simp; refine hK.out _ _ ?_ ?_; rotate_left; clear hK K; (try clear hHeld); intro hHeld; rotate_right; (focus ((try dsimp only); exact kept)); (try simp only [Act.put, List.setIfInBounds_toArray, List.set_cons_zero, List.set_cons_succ]); refine takeL (i := 8) (v := ?_) rfl (by kernel_rfl) (by kernel_rfl) (by kernel_rfl) (fun _ _ _ h => h) (Or.inl ⟨by rfl, ?_⟩) (by assumption) ?_; rotate_left; (focus (intro wq hSw; (try dsimp only at hSw); go_simp; try with_reducible rfl)); (try simp only [Act.put, List.setIfInBounds_toArray, List.set_cons_zero, List.set_cons_succ]); refine doneL (by kernel_rfl) ?_; go_wp2_with fail; go_meet; refine ⟨_, f, rfl, rfl, hHeld, ?_, ?_⟩; (focus (first | exact At.putF' OG f | exact (Blk.at _ 58 rfl).at')); (focus (first | exact hf.keep (IK.putF OG f) | exact hf.keep ((Ext.refl _).alloc _).ik)))); go_simp; go_at_call 27; refine (From_c 1 _ (by omega) (by omega)).mono ?_; rintro e w5 ⟨s, rfl, hs, hx5⟩; have sz := Ext.size hx5; (try simp only [World.size_alloc, World.size_drew] at sz); (first | (have OG := Own.ext hx5 ((Blk.at #[.bool false, .slice none 0 0, .bool false, .slice none 0 0] 58 rfl).own 4 (by simp) (noIntF _ _ _ _ _ _ _ _)) (by omega)) | (have OG := Own.ext hx5 OG (by omega)) | skip); (try simp only [World.size_alloc] at OG); go_wp2_with fail; refine hK.out _ _ ?_ ?_; rotate_left; clear hK K; (try clear hHeld); intro hHeld; rotate_right; (focus ((try dsimp only); exact kept)); (try simp only [Act.put, List.setIfInBounds_toArray, List.set_cons_zero, List.set_cons_succ]); refine cons2L (i := 2) (j := 6) (by kernel_rfl) rfl rfl (fun K hK => ?_) (fun K hK => ?_); rotate_left; (focus (go_simp; refine hK.out _ _ ?_ ?_; rotate_left; clear hK K; (try clear hHeld); intro hHeld; rotate_right; (focus ((try dsimp only); exact kept)); (try simp only [Act.put, List.setIfInBounds_toArray, List.set_cons_zero, List.set_cons_succ]); refine consL (i := 2) (by kernel_rfl) rfl (fun K hK => ?_); go_simp; go_at_call 29; refine (Make_c s d 1 (x + 1) _ (by first | exact hs | exact hs.keep ((Ext.refl _).alloc _).ik) (HD6.out.2.keep (Ext.ik (by assumption))) (by omega)).mono ?_; rw [gcd_one, Int.ediv_one, Int.ediv_one]; rintro e w6 ⟨f, rfl, hf, hx6⟩; have sz := Ext.size hx6; (try simp only [World.size_alloc, World.size_drew] at sz); (first | (have OG := Own.ext hx6 ((Blk.at #[.bool false, .slice none 0 0, .bool false, .slice none 0 0] 58 rfl).own 4 (by simp) (noIntF _ _ _ _ _ _ _ _)) (by omega)) | (have OG := Own.ext hx6 OG (by omega)) | skip); (try simp only [World.size_alloc] at OG); go_wp2_with fail; refine hK.out _ _ ?_ ?_; rotate_left; clear hK K; (try clear hHeld); intro hHeld; rotate_right; (focus ((try dsimp only); exact kept)); (try simp only [Act.put, List.setIfInBounds_toArray, List.set_cons_zero, List.set_cons_succ]); refine takeL (i := 3) (v := ?_) rfl (by kernel_rfl) (by kernel_rfl) (by kernel_rfl) (fun _ _ _ h => h) (Or.inl ⟨by rfl, ?_⟩) (by assumption) ?_; rotate_left; (focus (intro wq hSw; (try dsimp only at hSw); go_simp; try with_reducible rfl)); (try simp only [Act.put, List.setIfInBounds_toArray, List.set_cons_zero, List.set_cons_succ]); refine takeL (i := 4) (v := ?_) rfl (by kernel_rfl) (by kernel_rfl) (by kernel_rfl) (fun _ _ _ h => h) (Or.inl ⟨by rfl, ?_⟩) (by assumption) ?_; rotate_left; (focus (intro wq hSw; (try dsimp only at hSw); go_simp; try with_reducible rfl)); (try simp only [Act.put, List.setIfInBounds_toArray, List.set_cons_zero, List.set_cons_succ]); refine takeL (i := 5) (v := ?_) rfl (by kernel_rfl) (by kernel_rfl) (by kernel_rfl) (fun _ _ _ h => h) (Or.inl ⟨by rfl, ?_⟩) (by assumption) ?_; rotate_left; (focus (intro wq hSw; (try dsimp only at hSw); go_simp; try with_reducible rfl)); (try simp only [Act.put, List.setIfInBounds_toArray, List.set_cons_zero, List.set_cons_succ]); refine consL (i := 7) (by kernel_rfl) rfl (fun K hK => ?_); go_simp; refine hK.out _ _ ?_ ?_; rotate_left; clear hK K; (try clear hHeld); intro hHeld; rotate_right; (focus ((try dsimp only); exact kept)); (try simp only [Act.put, List.setIfInBounds_toArray, List.set_cons_zero, List.set_cons_succ]); refine takeL (i := 8) (v := ?_) rfl (by kernel_rfl) (by kernel_rfl) (by kernel_rfl) (fun _ _ _ h => h) (Or.inl ⟨by rfl, ?_⟩) (by assumption) ?_; rotate_left; (focus (intro wq hSw; (try dsimp only at hSw); go_simp; try with_reducible rfl)); (try simp only [Act.put, List.setIfInBounds_toArray, List.set_cons_zero, List.set_cons_succ]); refine doneL (by kernel_rfl) ?_; go_wp2_with fail; go_meet; refine ⟨_, f, rfl, rfl, hHeld, ?_, ?_⟩; (focus (first | exact At.putF' OG f | exact (Blk.at _ 58 rfl).at')); (focus (first | exact hf.keep (IK.putF OG f) | exact hf.keep ((Ext.refl _).alloc _).ik)))); go_simp; go_at_call 29; refine (Make_c s d 1 (x + 1) _ (by first | exact hs | exact hs.keep ((Ext.refl _).alloc _).ik) (HD6.out.2.keep (Ext.ik (by assumption))) (by omega)).mono ?_; rw [gcd_one, Int.ediv_one, Int.ediv_one]; rintro e w6 ⟨f, rfl, hf, hx6⟩; have sz := Ext.size hx6; (try simp only [World.size_alloc, World.size_drew] at sz); (first | (have OG := Own.ext hx6 ((Blk.at #[.bool false, .slice none 0 0, .bool false, .slice none 0 0] 58 rfl).own 4 (by simp) (noIntF _ _ _ _ _ _ _ _)) (by omega)) | (have OG := Own.ext hx6 OG (by omega)) | skip); (try simp only [World.size_alloc] at OG); go_wp2_with fail; refine hK.out _ _ ?_ ?_; rotate_left; clear hK K; (try clear hHeld); intro hHeld; rotate_right; (focus ((try dsimp only); exact kept)); (try simp only [Act.put, List.setIfInBounds_toArray, List.set_cons_zero, List.set_cons_succ]); have hH6 := hHeld; refine takeL (i := 3) (v := ?_) rfl (by kernel_rfl) (by kernel_rfl) (by kernel_rfl) (fun _ _ _ h => h) (Or.inl ⟨by rfl, ?_⟩) (by assumption) ?_; rotate_left; (focus (intro wq hSw; (try dsimp only at hSw); go_simp; try with_reducible rfl)); (try simp only [Act.put, List.setIfInBounds_toArray, List.set_cons_zero, List.set_cons_succ]); refine takeL (i := 4) (v := ?_) rfl (by kernel_rfl) (by kernel_rfl) (by kernel_rfl) (fun _ _ _ h => h) (Or.inl ⟨by rfl, ?_⟩) (by assumption) ?_; rotate_left; (focus (intro wq hSw; (try dsimp only at hSw); go_simp; try with_reducible rfl)); (try simp only [Act.put, List.setIfInBounds_toArray, List.set_cons_zero, List.set_cons_succ]); refine takeL (i := 5) (v := ?_) rfl (by kernel_rfl) (by kernel_rfl) (by kernel_rfl) (fun _ _ _ h => h) (Or.inl ⟨by rfl, ?_⟩) (by assumption) ?_; rotate_left; (focus (intro wq hSw; (try dsimp only at hSw); go_simp; try with_reducible rfl)); (try simp only [Act.put, List.setIfInBounds_toArray, List.set_cons_zero, List.set_cons_succ]); refine consL (i := 6) (by kernel_rfl) rfl (fun K hK => ?_); go_simp; refine hK.out _ _ ?_ ?_; rotate_left; clear hK K; (try clear hHeld); intro hHeld; rotate_right; (focus ((try dsimp only); exact kept)); (try simp only [Act.put, List.setIfInBounds_toArray, List.set_cons_zero, List.set_cons_succ]); refine consL (i := 7) (by kernel_rfl) rfl (fun K hK => ?_); go_simp; refine hK.out _ _ ?_ ?_; rotate_left; clear hK K; (try clear hHeld); intro hHeld; rotate_right; (focus ((try dsimp only); exact kept)); (try simp only [Act.put, List.setIfInBounds_toArray, List.set_cons_zero, List.set_cons_succ]); refine takeL (i := 8) (v := ?_) rfl (by kernel_rfl) (by kernel_rfl) (by kernel_rfl) (fun _ _ _ h => h) (Or.inl ⟨by rfl, ?_⟩) (by assumption) ?_; rotate_left; (focus (intro wq hSw; (try dsimp only at hSw); go_simp; try with_reducible rfl)); (try simp only [Act.put, List.setIfInBounds_toArray, List.set_cons_zero, List.set_cons_succ]); refine doneL (by kernel_rfl) ?_; go_wp2_with fail; go_meet; refine ⟨_, f, rfl, rfl, hHeld, ?_, ?_⟩; (focus (first | exact At.putF' OG f | exact (Blk.at _ 58 rfl).at')); (focus (first | exact hf.keep (IK.putF OG f) | exact hf.keep ((Ext.refl _).alloc _).ik))
         case rest =>
          obtain ⟨X3, f3, rfl, rfl, hE7, AX, hf3⟩ := hcut
          obtain ⟨w7, hw7⟩ : ∃ W, W = wc := ⟨_, rfl⟩
          subst hw7
          have hE57 := HD6.out.1.trans hE7
          have H7 := Lib.hid (And.intro (H5A.out.1.trans hE57) (And.intro (H5A.out.2.1.ext hE57 (by simp)) (And.intro (H5A.out.2.2.keep hE57.ik) (And.intro AX hf3))))
          have HQ1 := Lib.hid (fun W (e : Ext w7 W) => (show Quad W X1 0 f1 from ⟨e.cell (H7.out.2.1 0 (by simp)), e.cell (H7.out.2.1 1 (by simp)), e.cell (H7.out.2.1 2 (by simp)), e.cell (H7.out.2.1 3 (by simp))⟩))
          have HQ3 := Lib.hid (fun W (e : Ext w7 W) => (show Quad W X3 0 f3 from ⟨e.cell (H7.out.2.2.2.1 0 (by simp)), e.cell (H7.out.2.2.2.1 1 (by simp)), e.cell (H7.out.2.2.2.1 2 (by simp)), e.cell (H7.out.2.2.2.1 3 (by simp))⟩))
          clear hE7 AX hf3 hE57
          obtain ⟨a0, a1, a2, a3⟩ := HQ1.out w7 (Ext.refl w7)
          obtain ⟨b0, b1, b2, b3⟩ := HQ3.out w7 (Ext.refl w7)
          simp only [Nat.zero_add] at a1 a2 a3 b1 b2 b3
          go_wp2_with fail
          refine (HGR.out.addLim f1 f3 _ H7.out.2.2.1 H7.out.2.2.2.2).mono ?_
          rintro e w8 ⟨rfl, hx8⟩
          obtain ⟨S, hS⟩ : ∃ S, w8.heap.size = S := ⟨_, rfl⟩
          have HX8 := Lib.hid hx8
          clear a0 a1 a2 a3 b0 b1 b2 b3 hx8
          go_upto_region 39 with (fail)
          try rw [hS]
          refine wp_gen (fun W => Ext w8 W ∧ Blk W (S + 1) #[.int .i64 0, .int .i64 1] 3 ∧ Blk W (S + 1 + 1) #[.slice (some ⟨S + 1, 0, none⟩) 2 2] 22 ∧ Blk W (S + 1 + 1 + 1) #[.int .i64 3] 3 ∧ Blk W (S + 1 + 1 + 1 + 1) #[.int .i64 2, .slice (some ⟨S + 1 + 1, 0, none⟩) 1 1, .slice (some ⟨S + 1 + 1 + 1, 0, none⟩) 1 1] 31) ⟨(by repeat (first | exact Ext.refl _ | assumption | refine Ext.setCell ?_ (by first | (simp; done) | (simp; omega) | omega) _ | refine Ext.alloc ?_ _ | refine Ext.drew ?_ | refine Ext.trans ?_ (by assumption))), (((Blk.at _ 3 (by simp [hS])).alloc _).alloc _).alloc _, ((Blk.at _ 22 (by simp [hS])).alloc _).alloc _, (Blk.at _ 3 (by simp [hS])).alloc _, Blk.at _ 31 (by simp [hS])⟩ ?_
          clear hS
          rintro W9 hW9
          have H9 := Lib.hid hW9
          have s0 : W9.cell? ⟨S + 1 + 1 + 1 + 1, 0, none⟩ = some (.int .i64 2) := hW9.2.2.2.2.cell 0
          have s1 : W9.cell? ⟨S + 1 + 1 + 1 + 1, 1, none⟩ = some (.slice (some ⟨S + 1 + 1, 0, none⟩) 1 1) := hW9.2.2.2.2.cell 1
          have s2 : W9.cell? ⟨S + 1 + 1 + 1 + 1, 2, none⟩ = some (.slice (some ⟨S + 1 + 1 + 1, 0, none⟩) 1 1) := hW9.2.2.2.2.cell 2
          have HX9 := Lib.hid (HX8.out.trans hW9.1)
          obtain ⟨a0, a1, a2, a3⟩ := HQ1.out W9 HX9.out
          obtain ⟨b0, b1, b2, b3⟩ := HQ3.out W9 HX9.out
          simp only [Nat.zero_add] at a1 a2 a3 b1 b2 b3
          have hl9 := hW9.2.2.2.2.lt
          have hl1 := lt_of_cell a0
          have hl3 := lt_of_cell b0
          clear hW9
          iterate 46 (first | go_values | go_skip | go_guarded | go_step | go_upon | go_back)
          as_aux_lemma =>
           refine wpList_buildSlice_g rfl 52 58 2 _ rfl #[.bool f1.n.neg, .slice f1.n.a f1.n.n f1.n.c, .bool f1.d.neg, .slice f1.d.a f1.d.n f1.d.c, .bool f3.n.neg, .slice f3.n.a f3.n.n f3.n.c, .bool f3.d.neg, .slice f3.d.a f3.d.n f3.d.c] j0 _ Try.underlying52 hj0 hy0 (by rw [hy1]; decide) (by rw [hy1]; decide) ?fill ?_
           case fill =>
            rw [hy1]
            as_aux_lemma =>
             kernel_rfl
           as_aux_lemma =>
            repeat (first | go_values | go_skip | go_guarded | go_step | go_upon | go_back)
            obtain ⟨T, hT⟩ : ∃ T, W9.heap.size = T := ⟨_, rfl⟩
            have hEW : Ext w7 ((W9.alloc (.cells #[.bool true] 4)).alloc (.cells #[.bool f1.n.neg, .slice f1.n.a f1.n.n f1.n.c, .bool f1.d.neg, .slice f1.d.a f1.d.n f1.d.c, .bool f3.n.neg, .slice f3.n.a f3.n.n f3.n.c, .bool f3.d.neg, .slice f3.d.a f3.d.n f3.d.c] 58)) := (HX9.out.alloc _).alloc _
            have hE2 : Ext W9 ((W9.alloc (.cells #[.bool true] 4)).alloc (.cells #[.bool f1.n.neg, .slice f1.n.a f1.n.n f1.n.c, .bool f1.d.neg, .slice f1.d.a f1.d.n f1.d.c, .bool f3.n.neg, .slice f3.n.a f3.n.n f3.n.c, .bool f3.d.neg, .slice f3.d.a f3.d.n f3.d.c] 58)) := ((Ext.refl _).alloc _).alloc _
            have hbl := bls7 [true] ((Blk.at (w := W9) #[.bool true] 4 hT.symm).alloc (.cells #[.bool f1.n.neg, .slice f1.n.a f1.n.n f1.n.c, .bool f1.d.neg, .slice f1.d.a f1.d.n f1.d.c, .bool f3.n.neg, .slice f3.n.a f3.n.n f3.n.c, .bool f3.d.neg, .slice f3.d.a f3.d.n f3.d.c] 58))
            have hbf := Blk.at (w := W9.alloc (.cells #[.bool true] 4)) #[.bool f1.n.neg, .slice f1.n.a f1.n.n f1.n.c, .bool f1.d.neg, .slice f1.d.a f1.d.n f1.d.c, .bool f3.n.neg, .slice f3.n.a f3.n.n f3.n.c, .bool f3.d.neg, .slice f3.d.a f3.d.n f3.d.c] 58 (show T + 1 = _ by simp [hT])
            as_aux_lemma =>
             have hp := pair_in (H9.out.2.1.ext hE2) (H9.out.2.2.1.ext hE2) (H9.out.2.2.2.1.ext hE2)
             have hc6 : checkE 2 [[0, 1]] [3] 1 0 = 0 := by decide
             have hq1 : Quad ((W9.alloc (.cells #[.bool true] 4)).alloc (.cells #[.bool f1.n.neg, .slice f1.n.a f1.n.n f1.n.c, .bool f1.d.neg, .slice f1.d.a f1.d.n f1.d.c, .bool f3.n.neg, .slice f3.n.a f3.n.n f3.n.c, .bool f3.d.neg, .slice f3.d.a f3.d.n f3.d.c] 58)) (T + 1) 0 f1 := ⟨hbf.cell 0, hbf.cell 1, hbf.cell 2, hbf.cell 3⟩
             have hq2 : Quad ((W9.alloc (.cells #[.bool true] 4)).alloc (.cells #[.bool f1.n.neg, .slice f1.n.a f1.n.n f1.n.c, .bool f1.d.neg, .slice f1.d.a f1.d.n f1.d.c, .bool f3.n.neg, .slice f3.n.a f3.n.n f3.n.c, .bool f3.d.neg, .slice f3.d.a f3.d.n f3.d.c] 58)) (T + 1) (0 + 4) f3 := ⟨hbf.cell 4, hbf.cell 5, hbf.cell 6, hbf.cell 7⟩
             have hA1 : ∀ W z, Ext ((W9.alloc (.cells #[.bool true] 4)).alloc (.cells #[.bool f1.n.neg, .slice f1.n.a f1.n.n f1.n.c, .bool f1.d.neg, .slice f1.d.a f1.d.n f1.d.c, .bool f3.n.neg, .slice f3.n.a f3.n.n f3.n.c, .bool f3.d.neg, .slice f3.d.a f3.d.n f3.d.c] 58)) W → IsQ W z 0 → Calls Try.prog 31 #[z.v, f1.v] W fun e w' => ∃ f : FV, e = .returned (.tuple #[f.v, .int .i64 0]) ∧ IsF w' f 1 x ∧ Ext W w' := fun W z e hz => HGR.out.addZero z f1 W hz (H7.out.2.2.1.keep (hEW.trans e).ik)
             have hA2 : ∀ W z, Ext ((W9.alloc (.cells #[.bool true] 4)).alloc (.cells #[.bool f1.n.neg, .slice f1.n.a f1.n.n f1.n.c, .bool f1.d.neg, .slice f1.d.a f1.d.n f1.d.c, .bool f3.n.neg, .slice f3.n.a f3.n.n f3.n.c, .bool f3.d.neg, .slice f3.d.a f3.d.n f3.d.c] 58)) W → IsF W z 1 x → Calls Try.prog 31 #[z.v, f3.v] W fun e w' => ∃ f : FV, e = .returned (.tuple #[f.v, .int .i64 4]) ∧ Ext W w' := fun W z e hz => (HGR.out.addLim z f3 W hz (H7.out.2.2.2.2.keep (hEW.trans e).ik)).mono (fun e w' h => ⟨fvz, h.1, h.2⟩)
             have hcl := CheckLim_c ⟨some ⟨S + 1 + 1, 0, none⟩, 1, 1⟩ ⟨some ⟨S + 1 + 1 + 1, 0, none⟩, 1, 1⟩ [⟨some ⟨S + 1, 0, none⟩, 2, 2⟩] [3] (some ⟨T, 0, none⟩) 1 (T + 1) 0 2 _ hp hbl hc6 f1 f3 hbf.lt hq1 hq2 (fun W f => IsF W f 1 x) (fun W W' f h k => h.keep k) hA1 hA2
             as_aux_lemma =>
              simp only [Sl.v] at hcl
              rw [hT]
              refine hcl.mono ?_
              rintro e u1 ⟨rfl, hx1⟩
              have HEND := Lib.hid (HEW.out.trans (H7.out.1.trans (hEW.trans hx1)))
              clear hEW hE2 hbl hbf hx1 hp hc6 hq1 hq2 hA1 hA2 hcl
              as_aux_lemma =>
               go_wp2_with fail
               refine (lives_c _).mono ?_
               rintro e w99 ⟨rfl, hx99⟩
               have E99 := HEND.out.trans hx99
               clear hx99
               dsimp only
               repeat (first | go_values | go_skip | go_guarded | go_step | go_upon | go_back)
               go_ret
               exact ⟨rfl, E99⟩
end Go.Proofs.Ytkoidookanmknaa
