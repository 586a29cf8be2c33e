/- exact: area, where nothing is too great. -/
import Derived.Test.YtagiaiocgjagnaaMFA
import Derived.Test.YtagiaiocgjagnaaWS
import Derived.StillTailTactics
namespace Go.Proofs.Ytagiaiocgjagnaa
set_option linter.unusedSimpArgs false
set_option linter.unusedVariables false
open Go.RowKit

structure PV where
  x : FV
  y : FV
abbrev PV.v (p : PV) : Value := .agg #[.bool p.x.n.neg, .slice p.x.n.a p.x.n.n p.x.n.c, .bool p.x.d.neg, .slice p.x.d.a p.x.d.n p.x.d.c, .bool p.y.n.neg, .slice p.y.n.a p.y.n.n p.y.n.c, .bool p.y.d.neg, .slice p.y.d.a p.y.d.n p.y.d.c]
/-- p stands for the point (x / xd, y / yd), each number below 2 ^ k. -/
structure IsP (w : World) (p : PV) (x xd y yd : Int) (k : Nat) : Prop where
  fx : IsF w p.x x xd
  fy : IsF w p.y y yd
  bx : x.natAbs < 2 ^ k
  bxd : xd.natAbs < 2 ^ k
  bys : y.natAbs < 2 ^ k
  byd : yd.natAbs < 2 ^ k
theorem noInt8 : ∀ (o : Nat) k z, (#[Value.bool false, Value.slice none 0 0, Value.bool false, Value.slice none 0 0, Value.bool false, Value.slice none 0 0, Value.bool false, Value.slice none 0 0] : Array Value)[o]? ≠ some (Value.int k z) := by
  intro o k z h
  match o with
  | 0 | 1 | 2 | 3 | 4 | 5 | 6 | 7 => simp at h
  | o + 8 => simp at h
set_option maxRecDepth 100000 in
set_option maxHeartbeats 4000000 in
theorem area_c (a b c : PV) (ax axd ay ayd bx bxd by' byd cx cxd cy cyd : Int) (k : Nat) (w : World) (ha : IsP w a ax axd ay ayd k) (hb : IsP w b bx bxd by' byd k) (hc : IsP w c cx cxd cy cyd k) (hk : 8 * k + 5 ≤ 16384) :
    Calls Try.prog 66 #[a.v, b.v, c.v] w (RetR ((bx * axd - ax * bxd) * (cy * ayd - ay * cyd) * ((byd * ayd) * (cxd * axd)) - (by' * ayd - ay * byd) * (cx * axd - ax * cxd) * ((bxd * axd) * (cyd * ayd))) ((bxd * axd) * (cyd * ayd) * ((byd * ayd) * (cxd * axd))) (8 * k + 5) w) := by
  have HP := Lib.hid (And.intro ha (And.intro hb hc))
  clear ha hb hc
  obtain ⟨B, hB⟩ : ∃ B, w.heap.size = B := ⟨_, rfl⟩
  go_enter Try.func66, Try.ntmps66
  go_upto_region 3 with (refine wpList_store_row rfl 139 _ _ rfl (B + 1 + 1 + 1 + 1 + 1) _ rfl rfl 139 _ (Blk.at _ _ (by simp [hB])) (by kernel_rfl) rfl (all_one _ rfl) ?_)
  refine wp_gen (fun W => Ext w W ∧ Blk W (B + 1 + 1 + 1 + 1 + 1) #[.bool b.x.n.neg, .slice b.x.n.a b.x.n.n b.x.n.c, .bool b.x.d.neg, .slice b.x.d.a b.x.d.n b.x.d.c, .bool a.x.n.neg, .slice a.x.n.a a.x.n.n a.x.n.c, .bool a.x.d.neg, .slice a.x.d.a a.x.d.n a.x.d.c, .bool c.y.n.neg, .slice c.y.n.a c.y.n.n c.y.n.c, .bool c.y.d.neg, .slice c.y.d.a c.y.d.n c.y.d.c, .bool a.y.n.neg, .slice a.y.n.a a.y.n.n a.y.n.c, .bool a.y.d.neg, .slice a.y.d.a a.y.d.n a.y.d.c, .bool b.y.n.neg, .slice b.y.n.a b.y.n.n b.y.n.c, .bool b.y.d.neg, .slice b.y.d.a b.y.d.n b.y.d.c, .bool a.y.n.neg, .slice a.y.n.a a.y.n.n a.y.n.c, .bool a.y.d.neg, .slice a.y.d.a a.y.d.n a.y.d.c, .bool c.x.n.neg, .slice c.x.n.a c.x.n.n c.x.n.c, .bool c.x.d.neg, .slice c.x.d.a c.x.d.n c.x.d.c, .bool a.x.n.neg, .slice a.x.n.a a.x.n.n a.x.n.c, .bool a.x.d.neg, .slice a.x.d.a a.x.d.n a.x.d.c] 139 ∧ Own W (B + 1 + 1 + 1) 4 ∧ W.heap.size = B + 1 + 1 + 1 + 1 + 1 + 1) ?_ ?_
  · refine ⟨Ext.setRow ?_ (by omega), Blk.setRow (Blk.at _ _ (by simp [hB])), Own.setRow (Own.ext (((Ext.refl _).alloc _).alloc _) (Blk.own (Blk.at _ 41 (by simp [hB])) 4 (by simp) (noIntF _ _ _ _ _ _ _ _)) (by omega)) (by omega), by simp [hB]⟩
    exact ((((((Ext.refl _).alloc _).alloc _).alloc _).alloc _).alloc _).alloc _
  rintro V ⟨E0, B5, O3, hV⟩
  obtain ⟨cs, hcs⟩ : ∃ cs : Array Value, #[.bool b.x.n.neg, .slice b.x.n.a b.x.n.n b.x.n.c, .bool b.x.d.neg, .slice b.x.d.a b.x.d.n b.x.d.c, .bool a.x.n.neg, .slice a.x.n.a a.x.n.n a.x.n.c, .bool a.x.d.neg, .slice a.x.d.a a.x.d.n a.x.d.c, .bool c.y.n.neg, .slice c.y.n.a c.y.n.n c.y.n.c, .bool c.y.d.neg, .slice c.y.d.a c.y.d.n c.y.d.c, .bool a.y.n.neg, .slice a.y.n.a a.y.n.n a.y.n.c, .bool a.y.d.neg, .slice a.y.d.a a.y.d.n a.y.d.c, .bool b.y.n.neg, .slice b.y.n.a b.y.n.n b.y.n.c, .bool b.y.d.neg, .slice b.y.d.a b.y.d.n b.y.d.c, .bool a.y.n.neg, .slice a.y.n.a a.y.n.n a.y.n.c, .bool a.y.d.neg, .slice a.y.d.a a.y.d.n a.y.d.c, .bool c.x.n.neg, .slice c.x.n.a c.x.n.n c.x.n.c, .bool c.x.d.neg, .slice c.x.d.a c.x.d.n c.x.d.c, .bool a.x.n.neg, .slice a.x.n.a a.x.n.n a.x.n.c, .bool a.x.d.neg, .slice a.x.d.a a.x.d.n a.x.d.c] = cs := ⟨_, rfl⟩
  rw [hcs] at B5
  obtain ⟨q0, hq0⟩ : ∃ q0, cs.extract 0 16 = q0 := ⟨_, rfl⟩
  obtain ⟨q1, hq1⟩ : ∃ q1, cs.extract 16 32 = q1 := ⟨_, rfl⟩
  have l0 : #[.bool b.x.n.neg, .slice b.x.n.a b.x.n.n b.x.n.c, .bool b.x.d.neg, .slice b.x.d.a b.x.d.n b.x.d.c, .bool a.x.n.neg, .slice a.x.n.a a.x.n.n a.x.n.c, .bool a.x.d.neg, .slice a.x.d.a a.x.d.n a.x.d.c, .bool c.y.n.neg, .slice c.y.n.a c.y.n.n c.y.n.c, .bool c.y.d.neg, .slice c.y.d.a c.y.d.n c.y.d.c, .bool a.y.n.neg, .slice a.y.n.a a.y.n.n a.y.n.c, .bool a.y.d.neg, .slice a.y.d.a a.y.d.n a.y.d.c] = q0 := by rw [← hq0, ← hcs]; rfl
  have l1 : #[.bool b.y.n.neg, .slice b.y.n.a b.y.n.n b.y.n.c, .bool b.y.d.neg, .slice b.y.d.a b.y.d.n b.y.d.c, .bool a.y.n.neg, .slice a.y.n.a a.y.n.n a.y.n.c, .bool a.y.d.neg, .slice a.y.d.a a.y.d.n a.y.d.c, .bool c.x.n.neg, .slice c.x.n.a c.x.n.n c.x.n.c, .bool c.x.d.neg, .slice c.x.d.a c.x.d.n c.x.d.c, .bool a.x.n.neg, .slice a.x.n.a a.x.n.n a.x.n.c, .bool a.x.d.neg, .slice a.x.d.a a.x.d.n a.x.d.c] = q1 := by rw [← hq1, ← hcs]; rfl
  have s0 : q0.size = 16 := by rw [← l0]; rfl
  have s1 : q1.size = 16 := by rw [← l1]; rfl
  have a0 : q0.all (·.oneCell') = true := by rw [← l0]; exact all_one _ rfl
  have a1 : q1.all (·.oneCell') = true := by rw [← l1]; exact all_one _ rfl
  have ix0 : ∀ W, (Instr.index 139 (.agg cs) (.int .i64 0)).run Try.prog W = .ok (.agg q0) W := fun W => by
    have := run_index_agg (P := Try.prog) (t := 139) (e := 138) (m := 16) (cs := cs) (i := 0) Try.underlying139 Try.underlying138 rfl (by kernel_rfl) (by omega) (by omega) W
    rw [this, ← hq0]; rfl
  have ix1 : ∀ W, (Instr.index 139 (.agg cs) (.int .i64 1)).run Try.prog W = .ok (.agg q1) W := fun W => by
    have := run_index_agg (P := Try.prog) (t := 139) (e := 138) (m := 16) (cs := cs) (i := 1) Try.underlying139 Try.underlying138 rfl (by kernel_rfl) (by omega) (by omega) W
    rw [this, ← hq1]; rfl
  have LQ := Lib.hid (And.intro l0 l1); have SQ := Lib.hid (And.intro s0 s1); have AQ := Lib.hid (And.intro a0 a1)
  clear l0 l1 s0 s1 a0 a1 hq0 hq1
  have HCS := Lib.hid hcs
  have hB5 := Lib.hid B5
  have hsz : cs.size = 32 := by rw [← hcs]; rfl
  clear hcs B5
  go_upto_region 5 with (refine wpList_load_row rfl 139 _ rfl _ rfl 139 cs _ _ (Blk.alloc hB5.out _) Try.underlying139 rfl (by rw [hsz]; kernel_rfl) ?_)
  obtain ⟨x1, hx1⟩ : ∃ x1, (bx * axd - ax * bxd) * (cy * ayd - ay * cyd) = x1 := ⟨_, rfl⟩
  obtain ⟨y1, hy1⟩ : ∃ y1, (bxd * axd) * (cyd * ayd) = y1 := ⟨_, rfl⟩
  obtain ⟨x2, hx2⟩ : ∃ x2, (by' * ayd - ay * byd) * (cx * axd - ax * cxd) = x2 := ⟨_, rfl⟩
  obtain ⟨y2, hy2⟩ : ∃ y2, (byd * ayd) * (cxd * axd) = y2 := ⟨_, rfl⟩
  rw [hx1, hy1, hx2, hy2]
  have HXY := Lib.hid (And.intro hx1 (And.intro hy1 (And.intro hx2 hy2)))
  clear hx1 hy1 hx2 hy2
  have S0 := Lib.hid (show Ext w (V.alloc (.cells #[.bool false, .slice none 0 0, .bool false, .slice none 0 0, .bool false, .slice none 0 0, .bool false, .slice none 0 0] 140)) ∧ Own (V.alloc (.cells #[.bool false, .slice none 0 0, .bool false, .slice none 0 0, .bool false, .slice none 0 0, .bool false, .slice none 0 0] 140)) (B + 1 + 1 + 1) 4 ∧ Own (V.alloc (.cells #[.bool false, .slice none 0 0, .bool false, .slice none 0 0, .bool false, .slice none 0 0, .bool false, .slice none 0 0] 140)) (B + 1 + 1 + 1 + 1 + 1 + 1) 8 from
    ⟨E0.alloc _, Own.ext ((Ext.refl _).alloc _) O3 (by omega), Blk.own (Blk.at _ 140 hV.symm) 8 (by simp) noInt8⟩)
  go_loopw [42] (fun iv ws => ∃ i : Nat, i ≤ 2 ∧ iv = .int .i64 (i : Int) ∧ Ext w ws ∧ Own ws (B + 1 + 1 + 1) 4 ∧ Own ws (B + 1 + 1 + 1 + 1 + 1 + 1) 8 ∧ (1 ≤ i → HasF ws (B + 1 + 1 + 1 + 1 + 1 + 1) 0 x1 y1 (2 * (2 * k + 1))) ∧ (2 ≤ i → HasF ws (B + 1 + 1 + 1 + 1 + 1 + 1) 4 x2 y2 (2 * (2 * k + 1)))) (fun iv _ => 2 - (intOf iv).toNat)
  case atStart => exact ⟨0, by omega, rfl, S0.out.1, S0.out.2.1, S0.out.2.2, fun h => absurd h (by omega), fun h => absurd h (by omega)⟩
  case round =>
    obtain ⟨i, hi, rfl, hx, ho, hr, hf1, hf2⟩ := hrel
    clear hB5 O3 E0 hV S0 V
    rcases (show i = 0 ∨ i = 1 ∨ i = 2 by omega) with rfl | rfl | rfl
    · have hSB : B + 1 + 1 + 1 + 1 + 1 + 1 < wr.heap.size := hr.lt (by omega)
      have HS := Lib.hid (And.intro hx (And.intro ho hr))
      have HF1 := Lib.hid hf1
      clear hx ho hr hf1 hf2
      obtain ⟨S, hS⟩ : ∃ S, wr.heap.size = S := ⟨_, rfl⟩
      go_upto_region 7 with (refine wpList_store_row rfl 138 _ _ rfl (S + 1) q0 rfl rfl 138 _ (Blk.at _ _ (by simp [hS])) (by rw [SQ.out.1]; kernel_rfl) (by rw [SQ.out.1]; rfl) AQ.out.1 ?_)
      go_upto_region 9 with (fail)
      go_upto_region 10 with (refine wpList_store_row rfl 142 _ _ rfl (S + 1 + 1 + 1 + 1 + 1) _ rfl rfl 142 _ (Blk.at _ _ (by simp [hS])) (by kernel_rfl) rfl (all_one _ rfl) ?_)
      obtain ⟨fs, hfs⟩ : ∃ fs : Array Value, #[.func (.func 90) #[] #[.pointer (some ⟨S + 1, 0, none⟩), .pointer (some ⟨S + 1 + 1, 0, none⟩), .pointer (some ⟨S + 1 + 1 + 1 + 1, 0, none⟩)], .func (.func 92) #[] #[.pointer (some ⟨S + 1, 0, none⟩), .pointer (some ⟨S + 1 + 1 + 1, 0, none⟩), .pointer (some ⟨S + 1 + 1 + 1 + 1, 0, none⟩)], .func (.func 93) #[] #[.pointer (some ⟨S + 1 + 1, 0, none⟩), .pointer (some ⟨S + 1 + 1 + 1, 0, none⟩), .pointer (some ⟨B + 1 + 1 + 1 + 1 + 1 + 1, 0, none⟩), .pointer (some ⟨S, 0, none⟩), .pointer (some ⟨S + 1 + 1 + 1 + 1, 0, none⟩)]] = fs := ⟨_, rfl⟩
      have fx0 : ∀ W, (Instr.index 142 (.agg fs) (.int .i64 0)).run Try.prog W = .ok (.func (.func 90) #[] #[.pointer (some ⟨S + 1, 0, none⟩), .pointer (some ⟨S + 1 + 1, 0, none⟩), .pointer (some ⟨S + 1 + 1 + 1 + 1, 0, none⟩)]) W := fun W => run_index_one Try.underlying142 Try.underlying141 rfl (by kernel_rfl) (by omega) (by omega) (by rw [← hfs]; rfl) W
      have fx1 : ∀ W, (Instr.index 142 (.agg fs) (.int .i64 1)).run Try.prog W = .ok (.func (.func 92) #[] #[.pointer (some ⟨S + 1, 0, none⟩), .pointer (some ⟨S + 1 + 1 + 1, 0, none⟩), .pointer (some ⟨S + 1 + 1 + 1 + 1, 0, none⟩)]) W := fun W => run_index_one Try.underlying142 Try.underlying141 rfl (by kernel_rfl) (by omega) (by omega) (by rw [← hfs]; rfl) W
      have fx2 : ∀ W, (Instr.index 142 (.agg fs) (.int .i64 2)).run Try.prog W = .ok (.func (.func 93) #[] #[.pointer (some ⟨S + 1 + 1, 0, none⟩), .pointer (some ⟨S + 1 + 1 + 1, 0, none⟩), .pointer (some ⟨B + 1 + 1 + 1 + 1 + 1 + 1, 0, none⟩), .pointer (some ⟨S, 0, none⟩), .pointer (some ⟨S + 1 + 1 + 1 + 1, 0, none⟩)]) W := fun W => run_index_one Try.underlying142 Try.underlying141 rfl (by kernel_rfl) (by omega) (by omega) (by rw [← hfs]; rfl) W
      have hfz : fs.size = 3 := by rw [← hfs]; rfl
      have HFZ := Lib.hid hfz
      rw [hfs]
      clear hfs hfz
      refine wp_gen (fun W => InS w W (S + 1) (S + 1 + 1) (S + 1 + 1 + 1) (S) (S + 1 + 1 + 1 + 1) (B + 1 + 1 + 1 + 1 + 1 + 1) (B + 1 + 1 + 1) q0 0 (bx * axd - ax * bxd) (bxd * axd) (cy * ayd - ay * cyd) (cyd * ayd) (2 * k + 1) 0 ∧ Blk W (S + 1 + 1 + 1 + 1 + 1) fs 142 ∧ Ext wr W) (inS_start hB hS HS.out.1 HS.out.2.1 HS.out.2.2 (by rw [SQ.out.1]; omega)) ?_
      rintro V ⟨hI, hFB, hE⟩
      have HI := Lib.hid hI; have HFB := Lib.hid hFB
      have hDf : Diff w.heap.size (S + 1) (S + 1 + 1) (S + 1 + 1 + 1) (S) (S + 1 + 1 + 1 + 1) (B + 1 + 1 + 1 + 1 + 1 + 1) (B + 1 + 1 + 1) := ⟨by omega, by omega⟩
      have HD := Lib.hid hDf
      clear hI hFB hE hDf
      go_upto_region 11 with (refine wpList_load_row rfl 142 _ rfl (S + 1 + 1 + 1 + 1 + 1) rfl 142 _ _ _ HFB.out Try.underlying142 rfl (by rw [HFZ.out]; kernel_rfl) ?_)
      go_loopw [51] (fun kv ws => ∃ n : Nat, n ≤ 3 ∧ kv = .int .i64 (n : Int) ∧ (n ≤ 2 → InS w ws (S + 1) (S + 1 + 1) (S + 1 + 1 + 1) (S) (S + 1 + 1 + 1 + 1) (B + 1 + 1 + 1 + 1 + 1 + 1) (B + 1 + 1 + 1) q0 0 (bx * axd - ax * bxd) (bxd * axd) (cy * ayd - ay * cyd) (cyd * ayd) (2 * k + 1) n) ∧ (n = 3 → Ext w ws ∧ Own ws (B + 1 + 1 + 1) 4 ∧ Own ws (B + 1 + 1 + 1 + 1 + 1 + 1) 8 ∧ HasF ws (B + 1 + 1 + 1 + 1 + 1 + 1) 0 x1 y1 (2 * (2 * k + 1)))) (fun kv _ => 3 - (intOf kv).toNat)
      case atStart => exact ⟨0, by omega, rfl, fun _ => HI.out, fun h => absurd h (by omega)⟩
      case round =>
        obtain ⟨n, hn, rfl, h2, h3⟩ := hrel
        rcases (show n = 0 ∨ n = 1 ∨ n = 2 ∨ n = 3 by omega) with rfl | rfl | rfl | rfl
        · have hin := h2 (by omega)
          have hpr := hin.pairs
          rw [← LQ.out.1] at hpr
          have HIN := Lib.hid hin; have HPR := Lib.hid hpr
          clear hin hpr h2 h3
          go_wp2_with (go_at_call 90; refine (area1_c b.x a.x c.y a.y (S + 1) (S + 1 + 1) (S + 1 + 1 + 1 + 1) bx bxd ax axd k _ HPR.out HIN.out.x HIN.out.e (by omega) (HP.out.2.1.fx.keep HIN.out.ext.ik) (HP.out.1.fx.keep HIN.out.ext.ik) (by omega) HP.out.2.1.bx HP.out.2.1.bxd HP.out.1.bx HP.out.1.bxd).mono ?_; rintro e w2 hst; obtain ⟨rfl, hi2, hkk⟩ := InS.step1 HD.out HIN.out (by rw [SQ.out.1]; omega) hst; have HI2 := Lib.hid hi2; clear hi2 hkk hst)
          go_roundw
          case rel => exact ⟨1, by omega, rfl, fun _ => HI2.out, fun h => absurd h (by omega)⟩
          case measure => simp [intOf]
        · have hin := h2 (by omega)
          have hpr := hin.pairs
          rw [← LQ.out.1] at hpr
          have HIN := Lib.hid hin; have HPR := Lib.hid hpr
          clear hin hpr h2 h3
          go_wp2_with (go_at_call 92; refine (area2_c b.x a.x c.y a.y (S + 1) (S + 1 + 1 + 1) (S + 1 + 1 + 1 + 1) cy cyd ay ayd k _ HPR.out HIN.out.y HIN.out.e (by omega) (HP.out.2.2.fy.keep HIN.out.ext.ik) (HP.out.1.fy.keep HIN.out.ext.ik) (by omega) HP.out.2.2.bys HP.out.2.2.byd HP.out.1.bys HP.out.1.byd).mono ?_; rintro e w2 hst; obtain ⟨rfl, hi2, hkk⟩ := InS.step2 HD.out HIN.out (by rw [SQ.out.1]; omega) hst; have HI2 := Lib.hid hi2; clear hi2 hkk hst)
          go_roundw
          case rel => exact ⟨2, by omega, rfl, fun _ => HI2.out, fun h => absurd h (by omega)⟩
          case measure => simp [intOf]
        · have hin := h2 (by omega)
          have hi := hin
          obtain ⟨g1, N1, D1, c1, c2, c3, c4, c5⟩ := hi.dx (by omega)
          obtain ⟨g2, N2, D2, d1, d2, d3, d4, d5⟩ := hi.dy (by omega)
          have HIN := Lib.hid hin; have HC := Lib.hid (And.intro c1.at4 (And.intro c2 (And.intro c3 (And.intro c4 c5)))); have HDD := Lib.hid (And.intro d1.at4 (And.intro d2 (And.intro d3 (And.intro d4 d5))))
          clear hin hi h2 h3 c1 c2 c3 c4 c5 d1 d2 d3 d4 d5
          go_wp2_with (go_at_call 93; refine (area3_c g1 g2 (S + 1 + 1) (S + 1 + 1 + 1) (B + 1 + 1 + 1 + 1 + 1 + 1) (S) (S + 1 + 1 + 1 + 1) 0 N1 D1 N2 D2 (2 * k + 1) _ HC.out.1 HDD.out.1 HIN.out.r HIN.out.i HIN.out.e (by omega) (by omega) (by omega) (by omega) (by omega) (by omega) (by omega) (by omega) HC.out.2.1 HDD.out.2.1 (by omega) HC.out.2.2.2.1 HC.out.2.2.2.2 HDD.out.2.2.2.1 HDD.out.2.2.2.2).mono ?_; rintro e w2 hst; obtain ⟨rfl, he2, hr2, ho2, hh2, hkk⟩ := InS.step3 (o := 0) HD.out HIN.out (by omega) (StepR.mul hst HC.out.2.2.1 HDD.out.2.2.1); rw [HXY.out.1, HXY.out.2.1] at hh2; have HI2 := Lib.hid (And.intro he2 (And.intro ho2 (And.intro hr2 hh2))); clear he2 hr2 ho2 hh2 hkk hst)
          go_roundw
          case rel => exact ⟨3, by omega, rfl, fun h => absurd h (by omega), fun _ => HI2.out⟩
          case measure => simp [intOf]
        · have hfin := h3 rfl
          have HFI := Lib.hid hfin
          clear h2 h3 hfin
          go_wp2_with fail
          go_roundw
          case rel => exact ⟨1, by omega, rfl, HFI.out.1, HFI.out.2.1, HFI.out.2.2.1, fun _ => HFI.out.2.2.2, fun h => absurd h (by omega)⟩
          case measure => simp [intOf]
    · have hSB : B + 1 + 1 + 1 + 1 + 1 + 1 < wr.heap.size := hr.lt (by omega)
      have HS := Lib.hid (And.intro hx (And.intro ho hr))
      have HF1 := Lib.hid hf1
      clear hx ho hr hf1 hf2
      obtain ⟨S, hS⟩ : ∃ S, wr.heap.size = S := ⟨_, rfl⟩
      go_upto_region 7 with (refine wpList_store_row rfl 138 _ _ rfl (S + 1) q1 rfl rfl 138 _ (Blk.at _ _ (by simp [hS])) (by rw [SQ.out.2]; kernel_rfl) (by rw [SQ.out.2]; rfl) AQ.out.2 ?_)
      go_upto_region 9 with (fail)
      go_upto_region 10 with (refine wpList_store_row rfl 142 _ _ rfl (S + 1 + 1 + 1 + 1 + 1) _ rfl rfl 142 _ (Blk.at _ _ (by simp [hS])) (by kernel_rfl) rfl (all_one _ rfl) ?_)
      obtain ⟨fs, hfs⟩ : ∃ fs : Array Value, #[.func (.func 90) #[] #[.pointer (some ⟨S + 1, 0, none⟩), .pointer (some ⟨S + 1 + 1, 0, none⟩), .pointer (some ⟨S + 1 + 1 + 1 + 1, 0, none⟩)], .func (.func 92) #[] #[.pointer (some ⟨S + 1, 0, none⟩), .pointer (some ⟨S + 1 + 1 + 1, 0, none⟩), .pointer (some ⟨S + 1 + 1 + 1 + 1, 0, none⟩)], .func (.func 93) #[] #[.pointer (some ⟨S + 1 + 1, 0, none⟩), .pointer (some ⟨S + 1 + 1 + 1, 0, none⟩), .pointer (some ⟨B + 1 + 1 + 1 + 1 + 1 + 1, 0, none⟩), .pointer (some ⟨S, 0, none⟩), .pointer (some ⟨S + 1 + 1 + 1 + 1, 0, none⟩)]] = fs := ⟨_, rfl⟩
      have fx0 : ∀ W, (Instr.index 142 (.agg fs) (.int .i64 0)).run Try.prog W = .ok (.func (.func 90) #[] #[.pointer (some ⟨S + 1, 0, none⟩), .pointer (some ⟨S + 1 + 1, 0, none⟩), .pointer (some ⟨S + 1 + 1 + 1 + 1, 0, none⟩)]) W := fun W => run_index_one Try.underlying142 Try.underlying141 rfl (by kernel_rfl) (by omega) (by omega) (by rw [← hfs]; rfl) W
      have fx1 : ∀ W, (Instr.index 142 (.agg fs) (.int .i64 1)).run Try.prog W = .ok (.func (.func 92) #[] #[.pointer (some ⟨S + 1, 0, none⟩), .pointer (some ⟨S + 1 + 1 + 1, 0, none⟩), .pointer (some ⟨S + 1 + 1 + 1 + 1, 0, none⟩)]) W := fun W => run_index_one Try.underlying142 Try.underlying141 rfl (by kernel_rfl) (by omega) (by omega) (by rw [← hfs]; rfl) W
      have fx2 : ∀ W, (Instr.index 142 (.agg fs) (.int .i64 2)).run Try.prog W = .ok (.func (.func 93) #[] #[.pointer (some ⟨S + 1 + 1, 0, none⟩), .pointer (some ⟨S + 1 + 1 + 1, 0, none⟩), .pointer (some ⟨B + 1 + 1 + 1 + 1 + 1 + 1, 0, none⟩), .pointer (some ⟨S, 0, none⟩), .pointer (some ⟨S + 1 + 1 + 1 + 1, 0, none⟩)]) W := fun W => run_index_one Try.underlying142 Try.underlying141 rfl (by kernel_rfl) (by omega) (by omega) (by rw [← hfs]; rfl) W
      have hfz : fs.size = 3 := by rw [← hfs]; rfl
      have HFZ := Lib.hid hfz
      rw [hfs]
      clear hfs hfz
      refine wp_gen (fun W => InS w W (S + 1) (S + 1 + 1) (S + 1 + 1 + 1) (S) (S + 1 + 1 + 1 + 1) (B + 1 + 1 + 1 + 1 + 1 + 1) (B + 1 + 1 + 1) q1 1 (by' * ayd - ay * byd) (byd * ayd) (cx * axd - ax * cxd) (cxd * axd) (2 * k + 1) 0 ∧ Blk W (S + 1 + 1 + 1 + 1 + 1) fs 142 ∧ Ext wr W) (inS_start hB hS HS.out.1 HS.out.2.1 HS.out.2.2 (by rw [SQ.out.2]; omega)) ?_
      rintro V ⟨hI, hFB, hE⟩
      have HI := Lib.hid hI; have HFB := Lib.hid hFB
      have hDf : Diff w.heap.size (S + 1) (S + 1 + 1) (S + 1 + 1 + 1) (S) (S + 1 + 1 + 1 + 1) (B + 1 + 1 + 1 + 1 + 1 + 1) (B + 1 + 1 + 1) := ⟨by omega, by omega⟩
      have HD := Lib.hid hDf
      have HK := Lib.hid ((HF1.out (by omega)).ext hE)
      clear hI hFB hE hDf
      go_upto_region 11 with (refine wpList_load_row rfl 142 _ rfl (S + 1 + 1 + 1 + 1 + 1) rfl 142 _ _ _ HFB.out Try.underlying142 rfl (by rw [HFZ.out]; kernel_rfl) ?_)
      go_loopw [51] (fun kv ws => ∃ n : Nat, n ≤ 3 ∧ kv = .int .i64 (n : Int) ∧ (n ≤ 2 → InS w ws (S + 1) (S + 1 + 1) (S + 1 + 1 + 1) (S) (S + 1 + 1 + 1 + 1) (B + 1 + 1 + 1 + 1 + 1 + 1) (B + 1 + 1 + 1) q1 1 (by' * ayd - ay * byd) (byd * ayd) (cx * axd - ax * cxd) (cxd * axd) (2 * k + 1) n ∧ HasF ws (B + 1 + 1 + 1 + 1 + 1 + 1) 0 x1 y1 (2 * (2 * k + 1))) ∧ (n = 3 → Ext w ws ∧ Own ws (B + 1 + 1 + 1) 4 ∧ Own ws (B + 1 + 1 + 1 + 1 + 1 + 1) 8 ∧ HasF ws (B + 1 + 1 + 1 + 1 + 1 + 1) 4 x2 y2 (2 * (2 * k + 1)) ∧ HasF ws (B + 1 + 1 + 1 + 1 + 1 + 1) 0 x1 y1 (2 * (2 * k + 1)))) (fun kv _ => 3 - (intOf kv).toNat)
      case atStart => exact ⟨0, by omega, rfl, fun _ => ⟨HI.out, HK.out⟩, fun h => absurd h (by omega)⟩
      case round =>
        obtain ⟨n, hn, rfl, h2, h3⟩ := hrel
        rcases (show n = 0 ∨ n = 1 ∨ n = 2 ∨ n = 3 by omega) with rfl | rfl | rfl | rfl
        · have hin := h2 (by omega)
          have hpr := hin.1.pairs
          rw [← LQ.out.2] at hpr
          have HIN := Lib.hid hin; have HPR := Lib.hid hpr
          clear hin hpr h2 h3
          go_wp2_with (go_at_call 90; refine (area1_c b.y a.y c.x a.x (S + 1) (S + 1 + 1) (S + 1 + 1 + 1 + 1) by' byd ay ayd k _ HPR.out HIN.out.1.x HIN.out.1.e (by omega) (HP.out.2.1.fy.keep HIN.out.1.ext.ik) (HP.out.1.fy.keep HIN.out.1.ext.ik) (by omega) HP.out.2.1.bys HP.out.2.1.byd HP.out.1.bys HP.out.1.byd).mono ?_; rintro e w2 hst; obtain ⟨rfl, hi2, hkk⟩ := InS.step1 HD.out HIN.out.1 (by rw [SQ.out.2]; omega) hst; have HI2 := Lib.hid hi2; have HK2 := Lib.hid (hkk _ _ _ _ HIN.out.2); clear hi2 hkk hst)
          go_roundw
          case rel => exact ⟨1, by omega, rfl, fun _ => ⟨HI2.out, HK2.out⟩, fun h => absurd h (by omega)⟩
          case measure => simp [intOf]
        · have hin := h2 (by omega)
          have hpr := hin.1.pairs
          rw [← LQ.out.2] at hpr
          have HIN := Lib.hid hin; have HPR := Lib.hid hpr
          clear hin hpr h2 h3
          go_wp2_with (go_at_call 92; refine (area2_c b.y a.y c.x a.x (S + 1) (S + 1 + 1 + 1) (S + 1 + 1 + 1 + 1) cx cxd ax axd k _ HPR.out HIN.out.1.y HIN.out.1.e (by omega) (HP.out.2.2.fx.keep HIN.out.1.ext.ik) (HP.out.1.fx.keep HIN.out.1.ext.ik) (by omega) HP.out.2.2.bx HP.out.2.2.bxd HP.out.1.bx HP.out.1.bxd).mono ?_; rintro e w2 hst; obtain ⟨rfl, hi2, hkk⟩ := InS.step2 HD.out HIN.out.1 (by rw [SQ.out.2]; omega) hst; have HI2 := Lib.hid hi2; have HK2 := Lib.hid (hkk _ _ _ _ HIN.out.2); clear hi2 hkk hst)
          go_roundw
          case rel => exact ⟨2, by omega, rfl, fun _ => ⟨HI2.out, HK2.out⟩, fun h => absurd h (by omega)⟩
          case measure => simp [intOf]
        · have hin := h2 (by omega)
          have hi := hin.1
          obtain ⟨g1, N1, D1, c1, c2, c3, c4, c5⟩ := hi.dx (by omega)
          obtain ⟨g2, N2, D2, d1, d2, d3, d4, d5⟩ := hi.dy (by omega)
          have HIN := Lib.hid hin; have HC := Lib.hid (And.intro c1.at4 (And.intro c2 (And.intro c3 (And.intro c4 c5)))); have HDD := Lib.hid (And.intro d1.at4 (And.intro d2 (And.intro d3 (And.intro d4 d5))))
          clear hin hi h2 h3 c1 c2 c3 c4 c5 d1 d2 d3 d4 d5
          go_wp2_with (go_at_call 93; refine (area3_c g1 g2 (S + 1 + 1) (S + 1 + 1 + 1) (B + 1 + 1 + 1 + 1 + 1 + 1) (S) (S + 1 + 1 + 1 + 1) 1 N1 D1 N2 D2 (2 * k + 1) _ HC.out.1 HDD.out.1 HIN.out.1.r HIN.out.1.i HIN.out.1.e (by omega) (by omega) (by omega) (by omega) (by omega) (by omega) (by omega) (by omega) HC.out.2.1 HDD.out.2.1 (by omega) HC.out.2.2.2.1 HC.out.2.2.2.2 HDD.out.2.2.2.1 HDD.out.2.2.2.2).mono ?_; rintro e w2 hst; obtain ⟨rfl, he2, hr2, ho2, hh2, hkk⟩ := InS.step3 (o := 4) HD.out HIN.out.1 (by omega) (StepR.mul hst HC.out.2.2.1 HDD.out.2.2.1); rw [HXY.out.2.2.1, HXY.out.2.2.2] at hh2; have HI2 := Lib.hid (And.intro he2 (And.intro ho2 (And.intro hr2 hh2))); have HK2 := Lib.hid (hkk _ _ _ 0 (by omega) HIN.out.2); clear he2 hr2 ho2 hh2 hkk hst)
          go_roundw
          case rel => exact ⟨3, by omega, rfl, fun h => absurd h (by omega), fun _ => ⟨HI2.out.1, HI2.out.2.1, HI2.out.2.2.1, HI2.out.2.2.2, HK2.out⟩⟩
          case measure => simp [intOf]
        · have hfin := h3 rfl
          have HFI := Lib.hid hfin
          clear h2 h3 hfin
          go_wp2_with fail
          go_roundw
          case rel => exact ⟨2, by omega, rfl, HFI.out.1, HFI.out.2.1, HFI.out.2.2.1, fun _ => HFI.out.2.2.2.2, fun _ => HFI.out.2.2.2.1⟩
          case measure => simp [intOf]
    · obtain ⟨g1, N1, D1, c1, c2, c3, c4, c5⟩ := hf1 (by omega)
      obtain ⟨g2, N2, D2, d1, d2, d3, d4, d5⟩ := hf2 (by omega)
      obtain ⟨p0, p1, p2, p3⟩ := c1
      obtain ⟨p4, p5, p6, p7⟩ := d1
      simp only [Nat.zero_add, Nat.reduceAdd] at p0 p1 p2 p3 p4 p5 p6 p7
      have hl := hr.lt (by omega)
      have HS := Lib.hid (And.intro hx ho)
      have HC := Lib.hid (And.intro c2 (And.intro c3 (And.intro c4 c5))); have HDD := Lib.hid (And.intro d2 (And.intro d3 (And.intro d4 d5)))
      clear hf1 hf2 hr hx ho c2 c3 c4 c5 d2 d3 d4 d5
      go_wp2_with (go_at_call 91; refine (fSubR_c g1 g2 N1 D1 N2 D2 (2 * (2 * k + 1)) _ HC.out.1 HDD.out.1 (by omega) HC.out.2.2.1 HC.out.2.2.2 HDD.out.2.2.1 HDD.out.2.2.2).mono ?_; rintro e w2 ⟨f, N, D, rfl, hf, hq, b1, b2, hx2⟩; have hEq := Lib.hid (EqQ.sub HC.out.2.1 HDD.out.2.1 hq); have O2 := HS.out.2.ext hx2 (by omega); have o0 := O2.1 0 (by omega); have o1 := O2.1 1 (by omega); have o2 := O2.1 2 (by omega); have o3 := O2.1 3 (by omega); have of := O2.2.1; have hl2 := O2.lt (by omega); have HO := Lib.hid O2; clear O2 hq)
      obtain ⟨z0, z1, z2, z3⟩ := putF_cells HO.out f
      have r0 := cell_alloc (o := .cells #[.bool f.n.neg, .slice f.n.a f.n.n f.n.c, .bool f.d.neg, .slice f.d.a f.d.n f.d.c] 41) z0
      have r1 := cell_alloc (o := .cells #[.bool f.n.neg, .slice f.n.a f.n.n f.n.c, .bool f.d.neg, .slice f.d.a f.d.n f.d.c] 41) z1
      have r2 := cell_alloc (o := .cells #[.bool f.n.neg, .slice f.n.a f.n.n f.n.c, .bool f.d.neg, .slice f.d.a f.d.n f.d.c] 41) z2
      have r3 := cell_alloc (o := .cells #[.bool f.n.neg, .slice f.n.a f.n.n f.n.c, .bool f.d.neg, .slice f.d.a f.d.n f.d.c] 41) z3
      refine bodyPost_ret (v := .tuple #[f.v, .int .i64 0]) (by simp [results, Try.results66, go_sem, r0, r1, r2, r3]) rfl ?_
      refine ⟨f, N, D, rfl, (hf.keep (IK.putF HO.out f)).keep ((Ext.refl _).alloc _).ik, by rw [HXY.out.1, HXY.out.2.1, HXY.out.2.2.1, HXY.out.2.2.2]; exact hEq.out, ?_, ?_, (ext_putF (HS.out.1.trans hx2) (by omega) f).alloc _⟩
      · rw [show 8 * k + 5 = 2 * (2 * (2 * k + 1)) + 1 from by omega]; exact b1
      · rw [show 8 * k + 5 = 2 * (2 * (2 * k + 1)) + 1 from by omega]; exact b2
end Go.Proofs.Ytagiaiocgjagnaa
