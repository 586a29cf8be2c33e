/- meresmanref07: Seg. -/
import Derived.Test.YtagiaiocgjagnaaQX08
import Derived.Test.YtagiaiocgjagnaaQR7b
import Derived.Laws.Rows
namespace Go.Proofs.Ytagiaiocgjagnaa
set_option linter.unusedSimpArgs false
set_option linter.unusedVariables false
open Go.RowKit

/-- A valid segment within a small square. -/
structure SegIn (s : Sg) (lo hi : Int) : Prop where
 ax : lo ≤ s.a.x ∧ s.a.x ≤ hi
 ay : lo ≤ s.a.y ∧ s.a.y ≤ hi
 bx : lo ≤ s.b.x ∧ s.b.x ≤ hi
 by' : lo ≤ s.b.y ∧ s.b.y ≤ hi
 ne : s.a ≠ s.b
theorem SegIn.ok {s : Sg} {lo hi : Int} (h : SegIn s lo hi) (h1 : -1073741824 ≤ lo) (h2 : hi ≤ 1073741824) : OKs s := by
 obtain ⟨a, b, c, d, e⟩ := h
 exact ⟨⟨by omega, by omega, by omega, by omega⟩, ⟨by omega, by omega, by omega, by omega⟩, e⟩
theorem SegIn.mono {s : Sg} {lo hi lo' hi' : Int} (h : SegIn s lo hi) (h1 : lo' ≤ lo) (h2 : hi ≤ hi') : SegIn s lo' hi' := by
 obtain ⟨a, b, c, d, e⟩ := h
 exact ⟨by omega, by omega, by omega, by omega, e⟩
set_option maxRecDepth 100000 in
set_option maxHeartbeats 4000000 in
theorem rSeg_c (n m : Int) (w : World) (hn : Int64 n) (hm : Int64 m) :
  Calls Try.prog 22 #[.int .i64 n, .int .i64 m] w fun e w' => ∃ s : Sg, e = .returned s.v ∧ SegIn s 0 33 ∧ Ext w w' := by
 have hp := gridF_tiny n
 have hq := gridF_tiny m
 have HN := Lib.hid (And.intro hn hm)
 obtain ⟨p, hp0⟩ : ∃ p, gridF n = p := ⟨_, rfl⟩
 obtain ⟨q, hq0⟩ : ∃ q, gridF m = q := ⟨_, rfl⟩
 rw [hp0] at hp; rw [hq0] at hq
 have HP := Lib.hid (And.intro hp0 hq0)
 obtain ⟨x, y⟩ := p
 obtain ⟨u, v⟩ := q
 obtain ⟨p1, p2, p3, p4⟩ := hp
 obtain ⟨q1, q2, q3, q4⟩ := hq
 simp only at p1 p2 p3 p4 q1 q2 q3 q4
 have wu : IntKind.i64.wrap (u + 1) = u + 1 := IntWalk.i64_in _ (by omega)
 have hk : ((x == u) = true ∧ (y == v) = true) ∨ ((x == u) = false) ∨ ((x == u) = true ∧ (y == v) = false) := by
  cases x == u <;> cases y == v <;> simp
 obtain ⟨B, hB⟩ : ∃ B, w.heap.size = B := ⟨_, rfl⟩
 clear hn hm hp0 hq0
 rcases hk with ⟨k1, k2⟩ | k1 | ⟨k1, k2⟩
 all_goals
  go_enter Try.func22, Try.ntmps22
  go_wp2_with fail
  refine (grid_c n _ HN.out.1).mono ?_
  rw [HP.out.1]
  rintro e w2 ⟨rfl, hx2⟩
  go_wp2_with fail
  refine (grid_c m _ HN.out.2).mono ?_
  rw [HP.out.2]
  rintro e w3 ⟨rfl, hx3⟩
  have R3 := ((Blk.at (Sg.cs ⟨⟨0, 0⟩, ⟨0, 0⟩⟩) 25 hB.symm).ext hx2).ext hx3
  have HX := Lib.hid (show Ext w w3 from ((by repeat (first | exact Ext.refl _ | assumption | refine Ext.setCell ?_ (by first | (simp; done) | (simp; omega) | omega) _ | refine Ext.alloc ?_ _ | refine Ext.drew ?_ | refine Ext.trans ?_ (by assumption))) : Ext w (w.alloc (.cells (Sg.cs ⟨⟨0, 0⟩, ⟨0, 0⟩⟩) 25))).trans (hx2.trans hx3))
  have lr := R3.lt
  have rf := R3.free
  have r0 := R3.cell 0; have r1 := R3.cell 1; have r2 := R3.cell 2; have r3 := R3.cell 3
  simp only [List.getElem?_toArray, List.getElem?_cons_zero, List.getElem?_cons_succ] at r0 r1 r2 r3
  clear hx2 hx3
 ·have HV := Lib.hid (show SegIn ⟨⟨x, y⟩, ⟨u + 1, v⟩⟩ 0 33 from ⟨⟨by simp only; omega, by simp only; omega⟩, ⟨by simp only; omega, by simp only; omega⟩, ⟨by simp only; omega, by simp only; omega⟩, ⟨by simp only; omega, by simp only; omega⟩, fun e => by injection e with e1 e2; rw [beq_iff_eq] at k1; omega⟩)
  clear p1 p2 p3 p4 q1 q2 q3 q4
  have RB := Lib.hid ((sput4_cells R3 (.int .i64 x) (.int .i64 y) (.int .i64 (u + 1)) (.int .i64 v)).alloc (.cells (Sg.cs ⟨⟨x, y⟩, ⟨u + 1, v⟩⟩) 25))
  clear R3
  have hwB : w.heap.size ≤ B := by omega
  go_wp2_with fail
  refine bodyPost_ret (v := Sg.v ⟨⟨x, y⟩, ⟨u + 1, v⟩⟩) (results_cell_row Try.results22 _ _ B 25 _ (0, 0) _ rfl RB.out Try.underlying25 rfl (by kernel_rfl)) rfl ?_
  exact ⟨_, rfl, HV.out, ((((HX.out.setCell hwB _).setCell hwB _).setCell hwB _).setCell hwB _).alloc _⟩
 all_goals
  have HV := Lib.hid (show SegIn ⟨⟨x, y⟩, ⟨u, v⟩⟩ 0 33 from ⟨⟨by simp only; omega, by simp only; omega⟩, ⟨by simp only; omega, by simp only; omega⟩, ⟨by simp only; omega, by simp only; omega⟩, ⟨by simp only; omega, by simp only; omega⟩, fun e => by injection e with e1 e2; simp [e1, e2] at *⟩)
  clear p1 p2 p3 p4 q1 q2 q3 q4
  have RB := Lib.hid ((sput4_cells R3 (.int .i64 x) (.int .i64 y) (.int .i64 u) (.int .i64 v)).alloc (.cells (Sg.cs ⟨⟨x, y⟩, ⟨u, v⟩⟩) 25))
  clear R3
  have hwB : w.heap.size ≤ B := by omega
  go_wp2_with fail
  refine bodyPost_ret (v := Sg.v ⟨⟨x, y⟩, ⟨u, v⟩⟩) (results_cell_row Try.results22 _ _ B 25 _ (0, 0) _ rfl RB.out Try.underlying25 rfl (by kernel_rfl)) rfl ?_
  exact ⟨_, rfl, HV.out, ((((HX.out.setCell hwB _).setCell hwB _).setCell hwB _).setCell hwB _).alloc _⟩
end Go.Proofs.Ytagiaiocgjagnaa
