/- meresmanref07: Pair. -/
import Derived.Test.YtagiaiocgjagnaaQX14
namespace Go.Proofs.Ytagiaiocgjagnaa
set_option linter.unusedSimpArgs false
set_option linter.unusedVariables false
open Go.RowKit

/-- The variables of Pair. -/
structure PairV (w W : World) (B G H : Nat) (s t : Sg) : Prop where
 ext : Ext w W
 r6 : Blk W B (Sg.cs ⟨⟨0, 0⟩, ⟨0, 0⟩⟩) 25
 r7 : Blk W (B + 1) (Sg.cs ⟨⟨0, 0⟩, ⟨0, 0⟩⟩) 25
 bs : Blk W G s.cs 25
 bt : Blk W H t.cs 25
 ne : G ≠ H
 hG : B + 1 < G
 hH : B + 1 < H
 hB : w.heap.size = B
abbrev put4 (w : World) (b : Nat) (s : Sg) : World := (((w.setCell ⟨b, 0, none⟩ (.int .i64 s.a.x)).setCell ⟨b, 1, none⟩ (.int .i64 s.a.y)).setCell ⟨b, 2, none⟩ (.int .i64 s.b.x)).setCell ⟨b, 3, none⟩ (.int .i64 s.b.y)
theorem Blk.put4 {w : World} {b : Nat} {p : Sg} {t : TypeId} (h : Blk w b p.cs t) (q : Sg) : Blk (Go.Proofs.Ytagiaiocgjagnaa.put4 w b q) b q.cs t := (((h.set 0 _).set 1 _).set 2 _).set 3 _
theorem Blk.put4o {w : World} {b g : Nat} {cs : Array Value} {t : TypeId} (h : Blk w b cs t) (hne : b ≠ g) (q : Sg) : Blk (Go.Proofs.Ytagiaiocgjagnaa.put4 w g q) b cs t := (((h.setOther (p := ⟨g, 0, none⟩) hne _).setOther (p := ⟨g, 1, none⟩) hne _).setOther (p := ⟨g, 2, none⟩) hne _).setOther (p := ⟨g, 3, none⟩) hne _
theorem ext_put4 {a w : World} {b : Nat} (h : Ext a w) (hb : a.heap.size ≤ b) (q : Sg) : Ext a (put4 w b q) := (((h.setCell hb _).setCell hb _).setCell hb _).setCell hb _
theorem PairV.sett {w W : World} {B G H : Nat} {s t : Sg} (h : PairV w W B G H s t) (q : Sg) : PairV w (put4 W H q) B G H s q := by
 have h1 := h.hB; have h2 := h.hG; have h3 := h.hH
 exact ⟨ext_put4 h.ext (by omega) q, h.r6.put4o (by omega) q, h.r7.put4o (by omega) q, h.bs.put4o h.ne q, h.bt.put4 q, h.ne, h.hG, h.hH, h.hB⟩
theorem PairV.sets {w W : World} {B G H : Nat} {s t : Sg} (h : PairV w W B G H s t) (q : Sg) : PairV w (put4 W G q) B G H q t := by
 have h1 := h.hB; have h2 := h.hG; have h3 := h.hH
 exact ⟨ext_put4 h.ext (by omega) q, h.r6.put4o (by omega) q, h.r7.put4o (by omega) q, h.bs.put4 q, h.bt.put4o (Ne.symm h.ne) q, h.ne, h.hG, h.hH, h.hB⟩
theorem PairV.seta {w W : World} {B G H : Nat} {s t : Sg} (h : PairV w W B G H s t) (p : Pt) : PairV w ((W.setCell ⟨H, 0, none⟩ (.int .i64 p.x)).setCell ⟨H, 1, none⟩ (.int .i64 p.y)) B G H s ⟨p, t.b⟩ := by
 have h1 := h.hB; have h2 := h.hG; have h3 := h.hH
 have hk : w.heap.size ≤ H := by omega
 exact ⟨(h.ext.setCell hk _).setCell hk _, (h.r6.setOther (p := ⟨H, 0, none⟩) (by simp only; omega) _).setOther (p := ⟨H, 1, none⟩) (by simp only; omega) _, (h.r7.setOther (p := ⟨H, 0, none⟩) (by simp only; omega) _).setOther (p := ⟨H, 1, none⟩) (by simp only; omega) _, (h.bs.setOther (p := ⟨H, 0, none⟩) h.ne _).setOther (p := ⟨H, 1, none⟩) h.ne _, (h.bt.set 0 _).set 1 _, h.ne, h.hG, h.hH, h.hB⟩
theorem PairV.setby {w W : World} {B G H : Nat} {s t : Sg} (h : PairV w W B G H s t) (y : Int) : PairV w (W.setCell ⟨H, 3, none⟩ (.int .i64 y)) B G H s ⟨t.a, ⟨t.b.x, y⟩⟩ := by
 have h1 := h.hB; have h2 := h.hG; have h3 := h.hH
 have hk : w.heap.size ≤ H := by omega
 exact ⟨h.ext.setCell hk _, h.r6.setOther (p := ⟨H, 3, none⟩) (by simp only; omega) _, h.r7.setOther (p := ⟨H, 3, none⟩) (by simp only; omega) _, h.bs.setOther (p := ⟨H, 3, none⟩) h.ne _, h.bt.set 3 _, h.ne, h.hG, h.hH, h.hB⟩
theorem tdiv7 (n : Int) (h : Int64 n) : ∃ q, n.tdiv 7 = q ∧ -2305843009213693952 ≤ q ∧ q ≤ 2305843009213693952 := by
 refine ⟨_, rfl, ?_⟩
 obtain ⟨h1, h2⟩ := h
 rcases Int.le_total 0 n with h3 | h3
 ·rw [Int.tdiv_eq_ediv_of_nonneg h3]; omega
 ·have : n.tdiv 7 = -((-n) / 7) := by rw [← Int.tdiv_eq_ediv_of_nonneg (by omega), Int.neg_tdiv, Int.neg_neg]
  rw [this]; omega
theorem results_cells2 {P : Program} {fn : Func} {p u : Tmp} {ty : TypeId} (h : fn.results = #[.cell p ty, .cell u ty]) (tmps : Array Value) (w : World) (g g' : Nat) (t t' : TypeId) (cs ds : Array Value) (fr fr' : Nat × Nat) (d : TypeDesc)
  (hp : tmps.getD p undef = .pointer (some ⟨g, 0, none⟩)) (hq : tmps.getD u undef = .pointer (some ⟨g', 0, none⟩)) (hg : w.heap[g]? = some (.cells cs t fr)) (hg' : w.heap[g']? = some (.cells ds t' fr'))
  (hu : P.underlying ty = some d) (hd : (match d with | .struct _ | .array _ _ => true | _ => false) = true) (hi : (P.info? ty).map (·.size) = some cs.size) (hi' : (P.info? ty).map (·.size) = some ds.size) :
  (results fn tmps).run P w = .ok (.tuple #[.agg cs, .agg ds]) w := by
 have hp' : tmps[p]?.getD undef = .pointer (some ⟨g, 0, none⟩) := by simpa using hp
 have hq' : tmps[u]?.getD undef = .pointer (some ⟨g', 0, none⟩) := by simpa using hq
 simp [results, h, hp', hq', asAddr, Sem.run_bind, run_loadVar_row w g t ty cs fr d hg hu hd hi, run_loadVar_row w g' t' ty ds fr' d hg' hu hd hi']
/-- Coordinates within a small square. -/
structure InB (s : Sg) (lo hi : Int) : Prop where
 ax : lo ≤ s.a.x ∧ s.a.x ≤ hi
 ay : lo ≤ s.a.y ∧ s.a.y ≤ hi
 bx : lo ≤ s.b.x ∧ s.b.x ≤ hi
 by' : lo ≤ s.b.y ∧ s.b.y ≤ hi
def RetPair (w : World) (e : Ending) (w' : World) : Prop := ∃ s t : Sg, e = .returned (.tuple #[s.v, t.v]) ∧ SegIn s (-33) 67 ∧ SegIn t (-33) 67 ∧ Ext w w'
set_option maxRecDepth 100000 in
set_option maxHeartbeats 40000000 in
theorem rPair_c (n m k : Int) (w : World) (hn : Int64 n) (hm : Int64 m) (hk : Int64 k) :
  Calls Try.prog 11 #[.int .i64 n, .int .i64 m, .int .i64 k] w (RetPair w) := by
 have HI := Lib.hid (And.intro hn (And.intro hm hk))
 obtain ⟨n7, hn7, n71, n72⟩ := tdiv7 n hn
 have hj := aroundF_bd k 1048576 (by omega)
 obtain ⟨j, hj0⟩ : ∃ j, aroundF k 1048576 = j := ⟨_, rfl⟩
 rw [hj0] at hj
 have HJ := Lib.hid hj0
 have q6 : j.tdiv 6 = j / 6 := Int.tdiv_eq_ediv_of_nonneg hj.1
 have q100 : j.tdiv 100 = j / 100 := Int.tdiv_eq_ediv_of_nonneg hj.1
 have m6 : j.tmod 6 = j % 6 := Int.tmod_eq_emod_of_nonneg hj.1
 have m62 : (j / 6).tmod 2 = j / 6 % 2 := Int.tmod_eq_emod_of_nonneg (by omega)
 have w6 : IntKind.i64.wrap (j / 6) = j / 6 := IntWalk.i64_in _ (by omega)
 have w100 : IntKind.i64.wrap (j / 100) = j / 100 := IntWalk.i64_in _ (by omega)
 have w7 : IntKind.i64.wrap n7 = n7 := IntWalk.i64_in _ (by omega)
 have w7s : IntKind.i64.wrap (n7 + j / 100) = n7 + j / 100 := IntWalk.i64_in _ (by omega)
 have HA := Lib.hid (And.intro (show Int64 (j / 6) from ⟨by omega, by omega⟩) (show Int64 (n7 + j / 100) from ⟨by omega, by omega⟩))
 have hr : (j % 6 = 0 ∨ j % 6 = 1 ∨ j % 6 = 2 ∨ j % 6 = 3 ∨ j % 6 = 4 ∨ j % 6 = 5) := by omega
 have hr2 : (j / 6 % 2 = 0 ∨ j / 6 % 2 = 1) := by omega
 obtain ⟨jr, hjr⟩ : ∃ r, j % 6 = r := ⟨_, rfl⟩
 obtain ⟨j2, hj2⟩ : ∃ r, j / 6 % 2 = r := ⟨_, rfl⟩
 rw [hjr] at m6 hr
 rw [hj2] at m62 hr2
 clear hjr hj2
 clear hn hm hk hj0
 obtain ⟨B, hB⟩ : ∃ B, w.heap.size = B := ⟨_, rfl⟩
 go_enter Try.func11, Try.ntmps11
 go_wp2_with fail
 refine (rSeg_c n m _ HI.out.1 HI.out.2.1).mono ?_
 rintro e w2 ⟨s, rfl, hs, hx2⟩
 obtain ⟨G, hG⟩ : ∃ G, w2.heap.size = G := ⟨_, rfl⟩
 have P1 := Lib.hid (show Ext w (w2.alloc (.cells s.cs 25)) ∧ Blk (w2.alloc (.cells s.cs 25)) B (Sg.cs ⟨⟨0, 0⟩, ⟨0, 0⟩⟩) 25 ∧ Blk (w2.alloc (.cells s.cs 25)) (B + 1) (Sg.cs ⟨⟨0, 0⟩, ⟨0, 0⟩⟩) 25 ∧ Blk (w2.alloc (.cells s.cs 25)) G s.cs 25 from
  ⟨((((Ext.refl w).alloc (.cells (Sg.cs ⟨⟨0, 0⟩, ⟨0, 0⟩⟩) 25)).alloc (.cells (Sg.cs ⟨⟨0, 0⟩, ⟨0, 0⟩⟩) 25)).trans hx2).alloc _, (((Blk.at _ 25 hB.symm).alloc _).ext hx2).alloc _, ((Blk.at _ 25 (by simp [hB])).ext hx2).alloc _, Blk.at _ 25 hG.symm⟩)
 have hGB : B + 1 < G := by have := hx2.size; simp at this; omega
 have HS := Lib.hid hs
 clear hx2 hs
 go_upto_region 2 with fail
 try rw [hG]
 refine wp_gen (fun W => Ext w W ∧ Blk W B (Sg.cs ⟨⟨0, 0⟩, ⟨0, 0⟩⟩) 25 ∧ Blk W (B + 1) (Sg.cs ⟨⟨0, 0⟩, ⟨0, 0⟩⟩) 25 ∧ Blk W G s.cs 25) P1.out ?_
 clear P1 hG
 rintro W1 p1
 have HP1 := Lib.hid p1
 clear p1
 go_wp2_with fail
 refine (around_c _ _ _ (by omega) (by omega) HI.out.2.2).mono ?_
 rintro e w3 ⟨rfl, rfl⟩
 rw [HJ.out]
 go_wp2_with fail
 refine (rSeg_c (j / 6) (n7 + j / 100) _ HA.out.1 HA.out.2).mono ?_
 rintro e w4 ⟨t, rfl, ht, hx4⟩
 obtain ⟨H, hH⟩ : ∃ H, w4.heap.size = H := ⟨_, rfl⟩
 have P2 := Lib.hid (show PairV w (w4.alloc (.cells t.cs 25)) B G H s t from
  ⟨(HP1.out.1.trans hx4).alloc _, (HP1.out.2.1.ext hx4).alloc _, (HP1.out.2.2.1.ext hx4).alloc _, (HP1.out.2.2.2.ext hx4).alloc _, Blk.at _ 25 hH.symm, by have := (HP1.out.2.2.2.ext hx4).lt; omega, hGB, by have := (HP1.out.2.2.2.ext hx4).lt; omega, hB⟩)
 have HT := Lib.hid ht
 clear hx4 ht HP1
 go_upto_region 4 with fail
 try rw [hH]
 refine wp_gen (fun W => PairV w W B G H s t) P2.out ?_
 clear P2 hH
 rintro W2 p2
 have HV := Lib.hid p2
 clear p2 q6 q100 w100 w7 w7s n71 n72 hn7 hGB HA HI HJ
 obtain ⟨sx1, sx2⟩ := HS.out.ax; obtain ⟨sy1, sy2⟩ := HS.out.ay; obtain ⟨ux1, ux2⟩ := HS.out.bx; obtain ⟨uy1, uy2⟩ := HS.out.by'
 obtain ⟨tx1, tx2⟩ := HT.out.ax; obtain ⟨ty1, ty2⟩ := HT.out.ay; obtain ⟨vx1, vx2⟩ := HT.out.bx; obtain ⟨vy1, vy2⟩ := HT.out.by'
 have a1 : IntKind.i64.wrap (2 * s.a.x) = 2 * s.a.x := IntWalk.i64_in _ (by omega)
 have a2 : IntKind.i64.wrap (2 * s.a.y) = 2 * s.a.y := IntWalk.i64_in _ (by omega)
 have a3 : IntKind.i64.wrap (2 * s.b.x) = 2 * s.b.x := IntWalk.i64_in _ (by omega)
 have a4 : IntKind.i64.wrap (2 * s.b.y) = 2 * s.b.y := IntWalk.i64_in _ (by omega)
 have a5 : IntKind.i64.wrap (2 * s.a.x - s.b.x) = 2 * s.a.x - s.b.x := IntWalk.i64_in _ (by omega)
 have a6 : IntKind.i64.wrap (2 * s.a.y - s.b.y) = 2 * s.a.y - s.b.y := IntWalk.i64_in _ (by omega)
 have a7 : IntKind.i64.wrap (s.a.x + s.b.x) = s.a.x + s.b.x := IntWalk.i64_in _ (by omega)
 have a8 : IntKind.i64.wrap (s.a.y + s.b.y) = s.a.y + s.b.y := IntWalk.i64_in _ (by omega)
 have nes := HS.out.ne
 have g0 := (HV.out).bs.cell 0; have g1 := (HV.out).bs.cell 1; have g2 := (HV.out).bs.cell 2; have g3 := (HV.out).bs.cell 3; have h0 := (HV.out).bt.cell 0; have h1 := (HV.out).bt.cell 1; have h2 := (HV.out).bt.cell 2; have h3 := (HV.out).bt.cell 3; have gf := (HV.out).bs.free; have hf := (HV.out).bt.free; have lg := (HV.out).bs.lt; have lh := (HV.out).bt.lt; have gh := (HV.out).ne; (simp only [List.getElem?_toArray, List.getElem?_cons_zero, List.getElem?_cons_succ] at g0 g1 g2 g3 h0 h1 h2 h3)
 rcases hr with rfl | rfl | rfl | rfl | rfl | rfl
 go_upto_region 14 with fail
 refine wp_gen (fun W => PairV w W B G H s ⟨s.a, t.b⟩) (HV.out.seta s.a) ?_
 rintro W3 p3
 have hs3 : SegIn s (-33) 67 := HS.out.mono (by omega) (by omega)
 have ht3 : InB ⟨s.a, t.b⟩ (-33) 66 := ⟨by simp only; omega, by simp only; omega, by simp only; omega, by simp only; omega⟩
 generalize (⟨s.a, t.b⟩ : Sg) = t3 at p3 ht3
 obtain ⟨s3, hs0⟩ : ∃ q, q = s := ⟨_, rfl⟩
 rw [← hs0] at p3 hs3
 clear hs0
 rotate_left
 go_upto_region 14 with fail
 refine wp_gen (fun W => PairV w W B G H s ⟨s.b, t.b⟩) (HV.out.seta s.b) ?_
 rintro W3 p3
 have hs3 : SegIn s (-33) 67 := HS.out.mono (by omega) (by omega)
 have ht3 : InB ⟨s.b, t.b⟩ (-33) 66 := ⟨by simp only; omega, by simp only; omega, by simp only; omega, by simp only; omega⟩
 generalize (⟨s.b, t.b⟩ : Sg) = t3 at p3 ht3
 obtain ⟨s3, hs0⟩ : ∃ q, q = s := ⟨_, rfl⟩
 rw [← hs0] at p3 hs3
 clear hs0
 rotate_left
 go_upto_region 14 with fail
 refine wp_gen (fun W => PairV w W B G H s ⟨⟨2 * s.a.x - s.b.x, 2 * s.a.y - s.b.y⟩, s.b⟩) (HV.out.sett ⟨⟨2 * s.a.x - s.b.x, 2 * s.a.y - s.b.y⟩, s.b⟩) ?_
 rintro W3 p3
 have hs3 : SegIn s (-33) 67 := HS.out.mono (by omega) (by omega)
 have ht3 : InB ⟨⟨2 * s.a.x - s.b.x, 2 * s.a.y - s.b.y⟩, s.b⟩ (-33) 66 := ⟨by simp only; omega, by simp only; omega, by simp only; omega, by simp only; omega⟩
 generalize (⟨⟨2 * s.a.x - s.b.x, 2 * s.a.y - s.b.y⟩, s.b⟩ : Sg) = t3 at p3 ht3
 obtain ⟨s3, hs0⟩ : ∃ q, q = s := ⟨_, rfl⟩
 rw [← hs0] at p3 hs3
 clear hs0
 rotate_left
 go_upto_region 14 with fail
 refine wp_gen (fun W => PairV w W B G H ⟨⟨2 * s.a.x, 2 * s.a.y⟩, ⟨2 * s.b.x, 2 * s.b.y⟩⟩ ⟨⟨s.a.x + s.b.x, s.a.y + s.b.y⟩, t.b⟩) ((HV.out.sett ⟨⟨s.a.x + s.b.x, s.a.y + s.b.y⟩, t.b⟩).sets ⟨⟨2 * s.a.x, 2 * s.a.y⟩, ⟨2 * s.b.x, 2 * s.b.y⟩⟩) ?_
 rintro W3 p3
 have hs3 : SegIn ⟨⟨2 * s.a.x, 2 * s.a.y⟩, ⟨2 * s.b.x, 2 * s.b.y⟩⟩ (-33) 67 := ⟨by simp only; omega, by simp only; omega, by simp only; omega, by simp only; omega, fun e => by (injection e with e1 e2; exact nes (Pt.ext' (by omega) (by omega)))⟩
 have ht3 : InB ⟨⟨s.a.x + s.b.x, s.a.y + s.b.y⟩, t.b⟩ (-33) 66 := ⟨by simp only; omega, by simp only; omega, by simp only; omega, by simp only; omega⟩
 generalize (⟨⟨2 * s.a.x, 2 * s.a.y⟩, ⟨2 * s.b.x, 2 * s.b.y⟩⟩ : Sg) = s3 at p3 hs3
 generalize (⟨⟨s.a.x + s.b.x, s.a.y + s.b.y⟩, t.b⟩ : Sg) = t3 at p3 ht3
 rotate_left
 go_upto_region 14 with fail
 refine wp_gen (fun W => PairV w W B G H s t) (HV.out) ?_
 rintro W3 p3
 have hs3 : SegIn s (-33) 67 := HS.out.mono (by omega) (by omega)
 have ht3 : InB t (-33) 66 := ⟨by omega, by omega, by omega, by omega⟩
 generalize t = t3 at p3 ht3
 obtain ⟨s3, hs0⟩ : ∃ q, q = s := ⟨_, rfl⟩
 rw [← hs0] at p3 hs3
 clear hs0
 rotate_left
 go_upto_region 14 with fail
 refine wp_gen (fun W => PairV w W B G H s t) (HV.out) ?_
 rintro W3 p3
 have hs3 : SegIn s (-33) 67 := HS.out.mono (by omega) (by omega)
 have ht3 : InB t (-33) 66 := ⟨by omega, by omega, by omega, by omega⟩
 generalize t = t3 at p3 ht3
 obtain ⟨s3, hs0⟩ : ∃ q, q = s := ⟨_, rfl⟩
 rw [← hs0] at p3 hs3
 clear hs0
 rotate_left
 all_goals
  clear g0 g1 g2 g3 h0 h1 h2 h3 gf hf lg lh gh
  clear HV HS HT a1 a2 a3 a4 a5 a6 a7 a8 nes sx1 sx2 sy1 sy2 ux1 ux2 uy1 uy2 tx1 tx2 ty1 ty2 vx1 vx2 vy1 vy2 m6
  have HV := Lib.hid p3
  have HS := Lib.hid hs3
  have HT := Lib.hid ht3
  have wy : IntKind.i64.wrap (t3.b.y + 1) = t3.b.y + 1 := IntWalk.i64_in _ (by have := ht3.by'; omega)
  have hk : ((t3.a.x == t3.b.x) = true ∧ (t3.a.y == t3.b.y) = true) ∨ ((t3.a.x == t3.b.x) = false) ∨ ((t3.a.x == t3.b.x) = true ∧ (t3.a.y == t3.b.y) = false) := by
   cases t3.a.x == t3.b.x <;> cases t3.a.y == t3.b.y <;> simp
  clear p3 hs3 ht3
  have g0 := (HV.out).bs.cell 0; have g1 := (HV.out).bs.cell 1; have g2 := (HV.out).bs.cell 2; have g3 := (HV.out).bs.cell 3; have h0 := (HV.out).bt.cell 0; have h1 := (HV.out).bt.cell 1; have h2 := (HV.out).bt.cell 2; have h3 := (HV.out).bt.cell 3; have gf := (HV.out).bs.free; have hf := (HV.out).bt.free; have lg := (HV.out).bs.lt; have lh := (HV.out).bt.lt; have gh := (HV.out).ne; (simp only [List.getElem?_toArray, List.getElem?_cons_zero, List.getElem?_cons_succ] at g0 g1 g2 g3 h0 h1 h2 h3)
  rcases hk with ⟨k1, k2⟩ | k1 | ⟨k1, k2⟩
  go_upto_region 16 with fail
  refine wp_gen (fun W => PairV w W B G H s3 ⟨t3.a, ⟨t3.b.x, t3.b.y + 1⟩⟩) (HV.out.setby (t3.b.y + 1)) ?_
  rintro W4 p4
  have ht4 : SegIn ⟨t3.a, ⟨t3.b.x, t3.b.y + 1⟩⟩ (-33) 67 := by
   obtain ⟨q1, q2, q3, q4⟩ := HT.out
   exact ⟨by simp only; omega, by simp only; omega, by simp only; omega, by simp only; omega, fun e => by
     have e2 : t3.a.y = t3.b.y + 1 := congrArg Pt.y e
     rw [beq_iff_eq] at k2
     omega⟩
  generalize (⟨t3.a, ⟨t3.b.x, t3.b.y + 1⟩⟩ : Sg) = t4 at p4 ht4
  clear k2
  rotate_left
  go_upto_region 16 with fail
  have ht4 : SegIn t3 (-33) 67 := by
   obtain ⟨q1, q2, q3, q4⟩ := HT.out
   exact ⟨by omega, by omega, by omega, by omega, fun e => by
     rw [beq_eq_false_iff_ne] at k1
     exact k1 (congrArg Pt.x e)⟩
  have p4 := HV.out
  generalize t3 = t4 at p4 ht4
  generalize W3 = W4 at *
  rotate_left
  go_upto_region 16 with fail
  have ht4 : SegIn t3 (-33) 67 := by
   obtain ⟨q1, q2, q3, q4⟩ := HT.out
   exact ⟨by omega, by omega, by omega, by omega, fun e => by
     rw [beq_eq_false_iff_ne] at k2
     exact k2 (congrArg Pt.y e)⟩
  have p4 := HV.out
  generalize t3 = t4 at p4 ht4
  generalize W3 = W4 at *
  clear k2
  rotate_left
  all_goals
   clear g0 g1 g2 g3 h0 h1 h2 h3 gf hf lg lh gh
   clear HV HT wy k1
   have HV := Lib.hid p4
   have HT := Lib.hid ht4
   clear p4 ht4
   have g0 := (HV.out).bs.cell 0; have g1 := (HV.out).bs.cell 1; have g2 := (HV.out).bs.cell 2; have g3 := (HV.out).bs.cell 3; have h0 := (HV.out).bt.cell 0; have h1 := (HV.out).bt.cell 1; have h2 := (HV.out).bt.cell 2; have h3 := (HV.out).bt.cell 3; have gf := (HV.out).bs.free; have hf := (HV.out).bt.free; have lg := (HV.out).bs.lt; have lh := (HV.out).bt.lt; have gh := (HV.out).ne; (simp only [List.getElem?_toArray, List.getElem?_cons_zero, List.getElem?_cons_succ] at g0 g1 g2 g3 h0 h1 h2 h3)
   rcases hr2 with rfl | rfl
   go_upto_region 18 with fail
   refine wp_gen (fun W => PairV w W B G H s3 ⟨t4.b, t4.a⟩) (HV.out.sett ⟨t4.b, t4.a⟩) ?_
   rintro W5 p5
   have ht5 : SegIn ⟨t4.b, t4.a⟩ (-33) 67 := ⟨HT.out.bx, HT.out.by', HT.out.ax, HT.out.ay, fun e => HT.out.ne e.symm⟩
   generalize (⟨t4.b, t4.a⟩ : Sg) = t5 at p5 ht5
   rotate_left
   go_upto_region 18 with fail
   have p5 := HV.out
   have ht5 := HT.out
   generalize W4 = W5 at *
   generalize t4 = t5 at p5 ht5
   rotate_left
   all_goals
    clear g0 g1 g2 g3 h0 h1 h2 h3 gf hf lg lh gh
    clear HV HT
    have HP5 := Lib.hid p5
    have l6 := p5.r6.lt; have l7 := p5.r7.lt
    have r60 := p5.r6.cell 0; have r61 := p5.r6.cell 1; have r62 := p5.r6.cell 2; have r63 := p5.r6.cell 3
    have r70 := p5.r7.cell 0; have r71 := p5.r7.cell 1; have r72 := p5.r7.cell 2; have r73 := p5.r7.cell 3
    have f6 := p5.r6.free; have f7 := p5.r7.free
    have hGB := p5.hG; have hHB := p5.hH
    simp only [List.getElem?_toArray, List.getElem?_cons_zero, List.getElem?_cons_succ] at r60 r61 r62 r63 r70 r71 r72 r73
    have g0 := (p5).bs.cell 0; have g1 := (p5).bs.cell 1; have g2 := (p5).bs.cell 2; have g3 := (p5).bs.cell 3; have h0 := (p5).bt.cell 0; have h1 := (p5).bt.cell 1; have h2 := (p5).bt.cell 2; have h3 := (p5).bt.cell 3; have gf := (p5).bs.free; have hf := (p5).bt.free; have lg := (p5).bs.lt; have lh := (p5).bt.lt; have gh := (p5).ne; (simp only [List.getElem?_toArray, List.getElem?_cons_zero, List.getElem?_cons_succ] at g0 g1 g2 g3 h0 h1 h2 h3)
    clear p5
    have HS5 := Lib.hid ht5
    have hwB : w.heap.size ≤ B := by omega
    have nB : B ≠ B + 1 := by omega
    have RB6 := Lib.hid (show Blk ((put4 (put4 W5 B s3) (B + 1) t5).drew) B s3.cs 25 from Blk.drew ((HP5.out.r6.put4 s3).put4o nB t5))
    have RB7 := Lib.hid (show Blk ((put4 (put4 W5 B s3) (B + 1) t5).drew) (B + 1) t5.cs 25 from Blk.drew ((HP5.out.r7.put4o (Ne.symm nB) s3).put4 t5))
    have hwB1 : w.heap.size ≤ B + 1 := by omega
    have RX := Lib.hid (show Ext w ((put4 (put4 W5 B s3) (B + 1) t5).drew) from (ext_put4 (ext_put4 HP5.out.ext hwB s3) hwB1 t5).drew)
    clear HP5
    go_region
    go_wp2_with fail
    refine bodyPost_ret (v := .tuple #[s3.v, t5.v]) (results_cells2 Try.results11 _ _ B (B + 1) 25 25 _ _ (0, 0) (0, 0) _ rfl rfl RB6.out RB7.out Try.underlying25 rfl (by kernel_rfl) (by kernel_rfl)) rfl ?_
    exact ⟨s3, t5, rfl, HS.out, HS5.out, RX.out⟩
end Go.Proofs.Ytagiaiocgjagnaa
