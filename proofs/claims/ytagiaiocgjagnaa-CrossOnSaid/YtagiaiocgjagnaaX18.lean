/- The walk of CrossOn. -/
import Derived.Test.YtagiaiocgjagnaaX13
import Derived.Test.YtagiaiocgjagnaaX17
namespace Go.Proofs.Ytagiaiocgjagnaa
set_option linter.unusedSimpArgs false
set_option linter.unusedVariables false
open Go.RowKit

theorem n61_mul {x y : Int} (hx : x.natAbs ≤ 1000000) (hy : y.natAbs ≤ 1000000) : N61 (x * y) := by
  have := abs_mul_le hx hy
  exact ⟨by omega, by omega⟩
theorem midR_c (a b : RP) (w : World) (ha : PIn a 100000) (hb : PIn b 100000) : Calls Try.prog 33 #[a.v, b.v] w fun e w' => e = .returned (midF a b).v ∧ Ext w w' := by
  obtain ⟨a1, a2, a3, a4, a5, a6⟩ := ha
  obtain ⟨b1, b2, b3, b4, b5, b6⟩ := hb
  exact mid5_c a b w (n61_mul (by omega) (by omega)) (n61_mul (by omega) (by omega)) (n61_mul (by omega) (by omega)) (n61_mul (by omega) (by omega)) (n61_mul (by omega) (by omega)) a1 b1 (by omega)
theorem midF_q {a b : RP} (ha : 1 ≤ a.d) (hb : 1 ≤ b.d) : 1 ≤ (midF a b).d := by
  unfold midF
  have := pos_mul ha hb
  exact (makeF_norm (by rw [Int.mul_assoc]; omega)).1
theorem midF_in {a b : RP} {m n k : Int} (ha : PIn a m) (hb : PIn b n) (hm : 0 ≤ m) (hn : 0 ≤ n) (hk : 2 * (m * n) ≤ k) : PIn (midF a b) k := by
  obtain ⟨a1, a2, a3, a4, a5, a6⟩ := ha
  obtain ⟨b1, b2, b3, b4, b5, b6⟩ := hb
  have mm := Int.mul_le_mul a2 b2 (by omega) hm
  have pp := pos_mul a1 b1
  have bd : ∀ x d : Int, ∀ u v : Int, 0 ≤ u → 0 ≤ v → -u ≤ x → x ≤ u → 0 ≤ d → d ≤ v → -(u * v) ≤ x * d ∧ x * d ≤ u * v := fun x d u v hu hv h1 h2 h3 h4 => by
    have h5 := Int.mul_le_mul_of_nonneg_left h4 hu
    have h6 := Int.mul_le_mul_of_nonneg_right h2 h3
    have h7 := Int.mul_le_mul_of_nonneg_right h1 h3
    rw [Int.neg_mul] at h7
    omega
  have e1 := bd a.x b.d m n hm hn a3 a4 (by omega) b2
  have e2 := bd a.y b.d m n hm hn a5 a6 (by omega) b2
  have e3 := bd b.x a.d n m hn hm b3 b4 (by omega) a2
  have e4 := bd b.y a.d n m hn hm b5 b6 (by omega) a2
  rw [Int.mul_comm n m] at e3 e4
  unfold midF
  refine makeF_in (by rw [Int.mul_assoc]; omega) (by rw [Int.mul_assoc]; omega) (by omega) (by omega) (by omega) (by omega)
theorem someF_in (n : Int) : PIn (someF n) 400 := by
  have hb := aroundF_bd n 1048576 (by omega)
  have hf := someF.eq_1 n
  generalize aroundF n 1048576 = k at hb hf
  have hg := gridF_tiny (k / 8)
  generalize gridF (k / 8) = p at hg hf
  obtain ⟨x1, x2, y1, y2⟩ := hg
  (try simp only at hf)
  rw [hf]
  have hk8 : k % 8 = 0 ∨ k % 8 = 1 ∨ k % 8 = 2 ∨ k % 8 = 3 ∨ k % 8 = 4 ∨ k % 8 = 5 ∨ k % 8 = 6 ∨ k % 8 = 7 := by omega
  have dv : denF k = 1 ∨ denF k = 2 ∨ denF k = 3 ∨ denF k = 5 ∨ denF k = 12 := by
    unfold denF
    rcases hk8 with h | h | h | h | h | h | h | h <;> rw [h] <;> decide
  split
  · exact ⟨by simp only; omega, by simp only; omega, by simp only; omega, by simp only; omega, by simp only; omega, by simp only; omega⟩
  · rcases dv with h | h | h | h | h <;> rw [h] <;> exact makeF_in (by omega) (by omega) (by omega) (by omega) (by omega) (by omega)
/-- Eight points. -/
def ptO (a b c d e f g h : RP) (i : Nat) : RP := match i with
  | 0 => a | 1 => b | 2 => c | 3 => d | 4 => e | 5 => f | 6 => g | _ => h
abbrev octC (a b c d e f g h : RP) : Array Value := #[.int .i64 a.x, .int .i64 a.y, .int .i64 a.d, .int .i64 b.x, .int .i64 b.y, .int .i64 b.d, .int .i64 c.x, .int .i64 c.y, .int .i64 c.d, .int .i64 d.x, .int .i64 d.y, .int .i64 d.d,
  .int .i64 e.x, .int .i64 e.y, .int .i64 e.d, .int .i64 f.x, .int .i64 f.y, .int .i64 f.d, .int .i64 g.x, .int .i64 g.y, .int .i64 g.d, .int .i64 h.x, .int .i64 h.y, .int .i64 h.d]
theorem oct_at {w : World} {v : Nat} {a b c d e f g h : RP} {T : TypeId} (H : Blk w v (octC a b c d e f g h) T) (i : Nat) (hi : i < 8) : w.cell? ⟨v, i * 3, none⟩ = some (.int .i64 (ptO a b c d e f g h i).x) ∧ w.cell? ⟨v, i * 3 + 1, none⟩ = some (.int .i64 (ptO a b c d e f g h i).y) ∧ w.cell? ⟨v, i * 3 + 2, none⟩ = some (.int .i64 (ptO a b c d e f g h i).d) := by
  match i, hi with
  | 0, _ => exact ⟨H.cell 0, H.cell 1, H.cell 2⟩
  | 1, _ => exact ⟨H.cell 3, H.cell 4, H.cell 5⟩
  | 2, _ => exact ⟨H.cell 6, H.cell 7, H.cell 8⟩
  | 3, _ => exact ⟨H.cell 9, H.cell 10, H.cell 11⟩
  | 4, _ => exact ⟨H.cell 12, H.cell 13, H.cell 14⟩
  | 5, _ => exact ⟨H.cell 15, H.cell 16, H.cell 17⟩
  | 6, _ => exact ⟨H.cell 18, H.cell 19, H.cell 20⟩
  | 7, _ => exact ⟨H.cell 21, H.cell 22, H.cell 23⟩
theorem ptO_in {a b c d e f g h : RP} {m : Int} (ha : PIn a m) (hb : PIn b m) (hc : PIn c m) (hd : PIn d m) (he : PIn e m) (hf : PIn f m) (hg : PIn g m) (hh : PIn h m) (i : Nat) : PIn (ptO a b c d e f g h i) m := by
  unfold ptO; split <;> assumption
abbrev RP.cs (p : RP) : Array Value := #[.int .i64 p.x, .int .i64 p.y, .int .i64 p.d]
theorem Blk.rp {w : World} {b : Nat} {p : RP} {t : TypeId} (h : Blk w b p.cs t) : w.cell? ⟨b, 0, none⟩ = some (.int .i64 p.x) ∧ w.cell? ⟨b, 1, none⟩ = some (.int .i64 p.y) ∧ w.cell? ⟨b, 2, none⟩ = some (.int .i64 p.d) := ⟨h.cell 0, h.cell 1, h.cell 2⟩
set_option maxRecDepth 100000 in
set_option maxHeartbeats 40000000 in
theorem walkOn (n m k p : Int) (w : World) (hn : Int64 n) (hm : Int64 m) (hk : Int64 k) (hp : Int64 p) :
    Calls Try.prog 8 #[.int .i64 n, .int .i64 m, .int .i64 k, .int .i64 p] w fun e w' => e = .returned (.bool true) ∧ Ext w w' := by
  have HI := Lib.hid (And.intro hn (And.intro hm (And.intro hk hp)))
  clear hn hm hk hp
  go_enter Try.func8, Try.ntmps8
  go_wp2_with fail
  refine (rSeg_c n m _ HI.out.1 HI.out.2.1).mono ?_
  rintro e w1 ⟨s, rfl, hs, hx1⟩
  obtain ⟨G, hG⟩ : ∃ G, w1.heap.size = G := ⟨_, rfl⟩
  have P1 := Lib.hid (show Ext w (w1.alloc (.cells s.cs 25)) ∧ Blk (w1.alloc (.cells s.cs 25)) G s.cs 25 from ⟨hx1.alloc _, Blk.at _ 25 hG.symm⟩)
  have HS := Lib.hid hs
  clear hx1 hs
  go_upto_region 2 with fail
  try rw [hG]
  refine wp_gen (fun W => Ext w W ∧ Blk W G s.cs 25) P1.out ?_
  clear P1 hG
  rintro W1 ⟨E1, B1⟩
  have H1 := Lib.hid (And.intro E1 B1)
  obtain ⟨x0, x1, x2, x3⟩ := B1.sgB
  clear E1 B1
  obtain ⟨a, ha⟩ : ∃ a : RP, a = ⟨s.a.x, s.a.y, 1⟩ := ⟨_, rfl⟩
  obtain ⟨b, hb⟩ : ∃ b : RP, b = ⟨s.b.x, s.b.y, 1⟩ := ⟨_, rfl⟩
  have ia : PIn a 33 := by rw [ha]; obtain ⟨q1, q2, q3, q4, _⟩ := HS.out; exact ⟨by simp only; omega, by simp only; omega, by simp only; omega, by simp only; omega, by simp only; omega, by simp only; omega⟩
  have ib : PIn b 33 := by rw [hb]; obtain ⟨q1, q2, q3, q4, _⟩ := HS.out; exact ⟨by simp only; omega, by simp only; omega, by simp only; omega, by simp only; omega, by simp only; omega, by simp only; omega⟩
  have HAB := Lib.hid (And.intro ha hb)
  have HIN := Lib.hid (And.intro ia ib)
  clear ha hb ia ib
  go_wp2_with fail
  refine (of5_c s.a.x s.a.y _).mono ?_
  rw [← HAB.out.1]
  rintro e w2 ⟨rfl, hx2⟩
  obtain ⟨G2, hG2⟩ : ∃ G, w2.heap.size = G := ⟨_, rfl⟩
  have P2 := Lib.hid (show (Ext w (w2.alloc (.cells a.cs 72)) ∧ Blk (w2.alloc (.cells a.cs 72)) G s.cs 25) ∧ Blk (w2.alloc (.cells a.cs 72)) G2 a.cs 72 from ⟨⟨(H1.out.1.trans hx2).alloc _, (H1.out.2.ext hx2).alloc _⟩, Blk.at _ 72 hG2.symm⟩)
  clear hx2 x0 x1 x2 x3
  go_upto_region 3 with fail
  try rw [hG2]
  refine wp_gen (fun W => (Ext w W ∧ Blk W G s.cs 25) ∧ Blk W G2 a.cs 72) P2.out ?_
  clear P2 hG2 H1
  rintro W2 p2
  have H2 := Lib.hid p2
  obtain ⟨x0, x1, x2, x3⟩ := p2.1.2.sgB
  clear p2
  go_wp2_with fail
  refine (of5_c s.b.x s.b.y _).mono ?_
  rw [← HAB.out.2]
  rintro e w3 ⟨rfl, hx3⟩
  obtain ⟨G3, hG3⟩ : ∃ G, w3.heap.size = G := ⟨_, rfl⟩
  have P3 := Lib.hid (show ((Ext w (w3.alloc (.cells b.cs 72)) ∧ Blk (w3.alloc (.cells b.cs 72)) G s.cs 25) ∧ Blk (w3.alloc (.cells b.cs 72)) G2 a.cs 72) ∧ Blk (w3.alloc (.cells b.cs 72)) G3 b.cs 72 from ⟨⟨⟨(H2.out.1.1.trans hx3).alloc _, (H2.out.1.2.ext hx3).alloc _⟩, (H2.out.2.ext hx3).alloc _⟩, Blk.at _ 72 hG3.symm⟩)
  clear hx3 x0 x1 x2 x3
  go_upto_region 4 with fail
  try rw [hG3]
  refine wp_gen (fun W => ((Ext w W ∧ Blk W G s.cs 25) ∧ Blk W G2 a.cs 72) ∧ Blk W G3 b.cs 72) P3.out ?_
  clear P3 hG3 H2
  rintro W3 p3
  have H3 := Lib.hid p3
  obtain ⟨x0, x1, x2⟩ := p3.1.2.rp
  obtain ⟨y0, y1, y2⟩ := p3.2.rp
  clear p3
  obtain ⟨mid, hmid⟩ : ∃ c, midF a b = c := ⟨_, rfl⟩
  have imid : PIn mid 2178 := by rw [← hmid]; exact midF_in HIN.out.1 HIN.out.2 (by omega) (by omega) (by omega)
  have HMID := Lib.hid (And.intro hmid imid)
  clear hmid imid
  go_wp2_with fail
  refine (midR_c a b _ (HIN.out.1.mono (by omega)) (HIN.out.2.mono (by omega))).mono ?_
  rw [HMID.out.1]
  rintro e w4 ⟨rfl, hx4⟩
  obtain ⟨G4, hG4⟩ : ∃ G, w4.heap.size = G := ⟨_, rfl⟩
  have P4 := Lib.hid (show (((Ext w (w4.alloc (.cells mid.cs 72)) ∧ Blk (w4.alloc (.cells mid.cs 72)) G s.cs 25) ∧ Blk (w4.alloc (.cells mid.cs 72)) G2 a.cs 72) ∧ Blk (w4.alloc (.cells mid.cs 72)) G3 b.cs 72) ∧ Blk (w4.alloc (.cells mid.cs 72)) G4 mid.cs 72 from ⟨⟨⟨⟨(H3.out.1.1.1.trans hx4).alloc _, (H3.out.1.1.2.ext hx4).alloc _⟩, (H3.out.1.2.ext hx4).alloc _⟩, (H3.out.2.ext hx4).alloc _⟩, Blk.at _ 72 hG4.symm⟩)
  clear hx4 x0 x1 x2 y0 y1 y2
  go_upto_region 5 with fail
  try rw [hG4]
  refine wp_gen (fun W => (((Ext w W ∧ Blk W G s.cs 25) ∧ Blk W G2 a.cs 72) ∧ Blk W G3 b.cs 72) ∧ Blk W G4 mid.cs 72) P4.out ?_
  clear P4 hG4 H3
  rintro V p4
  have H4 := Lib.hid p4
  have HA := Lib.hid (fun W (e : Ext V W) => (show (W.cell? ⟨G2, 0, none⟩ = some (.int .i64 a.x) ∧ W.cell? ⟨G2, 1, none⟩ = some (.int .i64 a.y) ∧ W.cell? ⟨G2, 2, none⟩ = some (.int .i64 a.d)) ∧ (W.cell? ⟨G3, 0, none⟩ = some (.int .i64 b.x) ∧ W.cell? ⟨G3, 1, none⟩ = some (.int .i64 b.y) ∧ W.cell? ⟨G3, 2, none⟩ = some (.int .i64 b.d)) ∧ W.cell? ⟨G4, 0, none⟩ = some (.int .i64 mid.x) ∧ W.cell? ⟨G4, 1, none⟩ = some (.int .i64 mid.y) ∧ W.cell? ⟨G4, 2, none⟩ = some (.int .i64 mid.d) from ⟨(p4.1.1.2.ext e).rp, (p4.1.2.ext e).rp, (p4.2.ext e).rp⟩))
  clear p4
  obtain ⟨q, hq⟩ : ∃ c, midF a mid = c := ⟨_, rfl⟩
  have iq : PIn q 200000 := by rw [← hq]; exact midF_in HIN.out.1 HMID.out.2 (by omega) (by omega) (by omega)
  obtain ⟨o1, ho1⟩ : ∃ c, someF p = c := ⟨_, rfl⟩
  obtain ⟨o2, ho2⟩ : ∃ c, someF k = c := ⟨_, rfl⟩
  have io1 : PIn o1 400 := by rw [← ho1]; exact someF_in p
  have io2 : PIn o2 400 := by rw [← ho2]; exact someF_in k
  obtain ⟨m1, hm1⟩ : ∃ c, makeF (2 * a.x - b.x) (2 * a.y - b.y) 1 = c := ⟨_, rfl⟩
  obtain ⟨m2, hm2⟩ : ∃ c, makeF (3 * b.x - a.x) (3 * b.y - a.y) 2 = c := ⟨_, rfl⟩
  have bA := HIN.out.1
  have bB := HIN.out.2
  obtain ⟨-, -, ax1, ax2, ay1, ay2⟩ := bA
  obtain ⟨-, -, bx1, bx2, by1, by2⟩ := bB
  have im1 : PIn m1 1000 := by rw [← hm1]; exact makeF_in (by omega) (by omega) (by omega) (by omega) (by omega) (by omega)
  have im2 : PIn m2 1000 := by rw [← hm2]; exact makeF_in (by omega) (by omega) (by omega) (by omega) (by omega) (by omega)
  have HQ := Lib.hid (And.intro hq (And.intro ho1 (And.intro ho2 (And.intro hm1 hm2))))
  have HALL := Lib.hid (fun i => ptO_in (HIN.out.1.mono (show (33 : Int) ≤ 1000000 by omega)) (HIN.out.2.mono (show (33 : Int) ≤ 1000000 by omega)) (HMID.out.2.mono (show (2178 : Int) ≤ 1000000 by omega)) (iq.mono (show (200000 : Int) ≤ 1000000 by omega)) (io1.mono (show (400 : Int) ≤ 1000000 by omega)) (io2.mono (show (400 : Int) ≤ 1000000 by omega)) (im1.mono (show (1000 : Int) ≤ 1000000 by omega)) (im2.mono (show (1000 : Int) ≤ 1000000 by omega)) i)
  have v1 : IntKind.i64.wrap (2 * a.x) = 2 * a.x := IntWalk.i64_in _ (by omega)
  have v2 : IntKind.i64.wrap (2 * a.y) = 2 * a.y := IntWalk.i64_in _ (by omega)
  have v3 : IntKind.i64.wrap (2 * a.x - b.x) = 2 * a.x - b.x := IntWalk.i64_in _ (by omega)
  have v4 : IntKind.i64.wrap (2 * a.y - b.y) = 2 * a.y - b.y := IntWalk.i64_in _ (by omega)
  have v5 : IntKind.i64.wrap (3 * b.x) = 3 * b.x := IntWalk.i64_in _ (by omega)
  have v6 : IntKind.i64.wrap (3 * b.y) = 3 * b.y := IntWalk.i64_in _ (by omega)
  have v7 : IntKind.i64.wrap (3 * b.x - a.x) = 3 * b.x - a.x := IntWalk.i64_in _ (by omega)
  have v8 : IntKind.i64.wrap (3 * b.y - a.y) = 3 * b.y - a.y := IntWalk.i64_in _ (by omega)
  have HBD := Lib.hid (show (-100 ≤ 2 * a.x - b.x ∧ 2 * a.x - b.x ≤ 100) ∧ (-100 ≤ 2 * a.y - b.y ∧ 2 * a.y - b.y ≤ 100) ∧ (-200 ≤ 3 * b.x - a.x ∧ 3 * b.x - a.x ≤ 200) ∧ -200 ≤ 3 * b.y - a.y ∧ 3 * b.y - a.y ≤ 200 by omega)
  clear hq iq ho1 ho2 io1 io2 hm1 hm2 im1 im2 ax1 ax2 ay1 ay2 bx1 bx2 by1 by2
  refine wp_region_held_drew (S := fun W => Ext V W) (by kernel_rfl) ((Ext.refl V).drew) (fun hHeld => ?_)
  refine takeL (i := 0) (v := ?_) rfl (by kernel_rfl) (by kernel_rfl) (by kernel_rfl) (fun _ _ _ h => h) (Or.inl ⟨by rfl, ?_⟩) (by assumption) ?_; rotate_left; (focus (intro wq hSw; have hcc := HA.out wq hSw; clear hSw; go_split_ands; go_simp; try with_reducible rfl)); (try simp only [Act.put, List.setIfInBounds_toArray, List.set_cons_zero, List.set_cons_succ])
  refine takeL (i := 1) (v := ?_) rfl (by kernel_rfl) (by kernel_rfl) (by kernel_rfl) (fun _ _ _ h => h) (Or.inl ⟨by rfl, ?_⟩) (by assumption) ?_; rotate_left; (focus (intro wq hSw; have hcc := HA.out wq hSw; clear hSw; go_split_ands; go_simp; try with_reducible rfl)); (try simp only [Act.put, List.setIfInBounds_toArray, List.set_cons_zero, List.set_cons_succ])
  refine takeL (i := 2) (v := ?_) rfl (by kernel_rfl) (by kernel_rfl) (by kernel_rfl) (fun _ _ _ h => h) (Or.inl ⟨by rfl, ?_⟩) (by assumption) ?_; rotate_left; (focus (intro wq hSw; have hcc := HA.out wq hSw; clear hSw; go_split_ands; go_simp; try with_reducible rfl)); (try simp only [Act.put, List.setIfInBounds_toArray, List.set_cons_zero, List.set_cons_succ])
  refine takeL (i := 3) (v := ?_) rfl (by kernel_rfl) (by kernel_rfl) (by kernel_rfl) (fun _ _ _ h => h) (Or.inl ⟨by rfl, ?_⟩) (by assumption) ?_; rotate_left; (focus (intro wq hSw; have hcc := HA.out wq hSw; clear hSw; go_split_ands; go_simp; try with_reducible rfl)); (try simp only [Act.put, List.setIfInBounds_toArray, List.set_cons_zero, List.set_cons_succ])
  refine takeL (i := 4) (v := ?_) rfl (by kernel_rfl) (by kernel_rfl) (by kernel_rfl) (fun _ _ _ h => h) (Or.inl ⟨by rfl, ?_⟩) (by assumption) ?_; rotate_left; (focus (intro wq hSw; have hcc := HA.out wq hSw; clear hSw; go_split_ands; go_simp; try with_reducible rfl)); (try simp only [Act.put, List.setIfInBounds_toArray, List.set_cons_zero, List.set_cons_succ])
  refine takeL (i := 6) (v := ?_) rfl (by kernel_rfl) (by kernel_rfl) (by kernel_rfl) (fun _ _ _ h => h) (Or.inl ⟨by rfl, ?_⟩) (by assumption) ?_; rotate_left; (focus (intro wq hSw; (try dsimp only at hSw); go_simp; try with_reducible rfl)); (try simp only [Act.put, List.setIfInBounds_toArray, List.set_cons_zero, List.set_cons_succ])
  refine takeL (i := 8) (v := ?_) rfl (by kernel_rfl) (by kernel_rfl) (by kernel_rfl) (fun _ _ _ h => h) (Or.inl ⟨by rfl, ?_⟩) (by assumption) ?_; rotate_left; (focus (intro wq hSw; (try dsimp only at hSw); go_simp; try with_reducible rfl)); (try simp only [Act.put, List.setIfInBounds_toArray, List.set_cons_zero, List.set_cons_succ])
  refine takeL (i := 10) (v := ?_) rfl (by kernel_rfl) (by kernel_rfl) (by kernel_rfl) (fun _ _ _ h => h) (Or.inl ⟨by rfl, ?_⟩) (by assumption) ?_; rotate_left; (focus (intro wq hSw; (try dsimp only at hSw); go_simp; try with_reducible rfl)); (try simp only [Act.put, List.setIfInBounds_toArray, List.set_cons_zero, List.set_cons_succ])
  refine takeL (i := 11) (v := ?_) rfl (by kernel_rfl) (by kernel_rfl) (by kernel_rfl) (fun _ _ _ h => h) (Or.inl ⟨by rfl, ?_⟩) (by assumption) ?_; rotate_left; (focus (intro wq hSw; have hcc := HA.out wq hSw; clear hSw; go_split_ands; go_simp; try with_reducible rfl)); (try simp only [Act.put, List.setIfInBounds_toArray, List.set_cons_zero, List.set_cons_succ])
  refine takeL (i := 12) (v := ?_) rfl (by kernel_rfl) (by kernel_rfl) (by kernel_rfl) (fun _ _ _ h => h) (Or.inl ⟨by rfl, ?_⟩) (by assumption) ?_; rotate_left; (focus (intro wq hSw; (try dsimp only at hSw); go_simp; try with_reducible rfl)); (try simp only [Act.put, List.setIfInBounds_toArray, List.set_cons_zero, List.set_cons_succ])
  refine takeL (i := 13) (v := ?_) rfl (by kernel_rfl) (by kernel_rfl) (by kernel_rfl) (fun _ _ _ h => h) (Or.inl ⟨by rfl, ?_⟩) (by assumption) ?_; rotate_left; (focus (intro wq hSw; (try dsimp only at hSw); go_simp; try with_reducible rfl)); (try simp only [Act.put, List.setIfInBounds_toArray, List.set_cons_zero, List.set_cons_succ])
  refine takeL (i := 14) (v := ?_) rfl (by kernel_rfl) (by kernel_rfl) (by kernel_rfl) (fun _ _ _ h => h) (Or.inl ⟨by rfl, ?_⟩) (by assumption) ?_; rotate_left; (focus (intro wq hSw; have hcc := HA.out wq hSw; clear hSw; go_split_ands; go_simp; try with_reducible rfl)); (try simp only [Act.put, List.setIfInBounds_toArray, List.set_cons_zero, List.set_cons_succ])
  refine takeL (i := 15) (v := ?_) rfl (by kernel_rfl) (by kernel_rfl) (by kernel_rfl) (fun _ _ _ h => h) (Or.inl ⟨by rfl, ?_⟩) (by assumption) ?_; rotate_left; (focus (intro wq hSw; (try dsimp only at hSw); go_simp; try with_reducible rfl)); (try simp only [Act.put, List.setIfInBounds_toArray, List.set_cons_zero, List.set_cons_succ])
  refine takeL (i := 16) (v := ?_) rfl (by kernel_rfl) (by kernel_rfl) (by kernel_rfl) (fun _ _ _ h => h) (Or.inl ⟨by rfl, ?_⟩) (by assumption) ?_; rotate_left; (focus (intro wq hSw; (try dsimp only at hSw); go_simp; try with_reducible rfl)); (try simp only [Act.put, List.setIfInBounds_toArray, List.set_cons_zero, List.set_cons_succ])
  refine takeL (i := 17) (v := ?_) rfl (by kernel_rfl) (by kernel_rfl) (by kernel_rfl) (fun _ _ _ h => h) (Or.inl ⟨by rfl, ?_⟩) (by assumption) ?_; rotate_left; (focus (intro wq hSw; have hcc := HA.out wq hSw; clear hSw; go_split_ands; go_simp; try with_reducible rfl)); (try simp only [Act.put, List.setIfInBounds_toArray, List.set_cons_zero, List.set_cons_succ])
  refine takeL (i := 18) (v := ?_) rfl (by kernel_rfl) (by kernel_rfl) (by kernel_rfl) (fun _ _ _ h => h) (Or.inl ⟨by rfl, ?_⟩) (by assumption) ?_; rotate_left; (focus (intro wq hSw; (try dsimp only at hSw); go_simp; try with_reducible rfl)); (try simp only [Act.put, List.setIfInBounds_toArray, List.set_cons_zero, List.set_cons_succ])
  refine takeL (i := 19) (v := ?_) rfl (by kernel_rfl) (by kernel_rfl) (by kernel_rfl) (fun _ _ _ h => h) (Or.inl ⟨by rfl, ?_⟩) (by assumption) ?_; rotate_left; (focus (intro wq hSw; (try dsimp only at hSw); go_simp; try with_reducible rfl)); (try simp only [Act.put, List.setIfInBounds_toArray, List.set_cons_zero, List.set_cons_succ])
  refine takeL (i := 20) (v := ?_) rfl (by kernel_rfl) (by kernel_rfl) (by kernel_rfl) (fun _ _ _ h => h) (Or.inl ⟨by rfl, ?_⟩) (by assumption) ?_; rotate_left; (focus (intro wq hSw; have hcc := HA.out wq hSw; clear hSw; go_split_ands; go_simp; try with_reducible rfl)); (try simp only [Act.put, List.setIfInBounds_toArray, List.set_cons_zero, List.set_cons_succ])
  refine takeL (i := 21) (v := ?_) rfl (by kernel_rfl) (by kernel_rfl) (by kernel_rfl) (fun _ _ _ h => h) (Or.inl ⟨by rfl, ?_⟩) (by assumption) ?_; rotate_left; (focus (intro wq hSw; (try dsimp only at hSw); go_simp; try with_reducible rfl)); (try simp only [Act.put, List.setIfInBounds_toArray, List.set_cons_zero, List.set_cons_succ])
  refine takeL (i := 23) (v := ?_) rfl (by kernel_rfl) (by kernel_rfl) (by kernel_rfl) (fun _ _ _ h => h) (Or.inl ⟨by rfl, ?_⟩) (by assumption) ?_; rotate_left; (focus (intro wq hSw; (try dsimp only at hSw); go_simp; try with_reducible rfl)); (try simp only [Act.put, List.setIfInBounds_toArray, List.set_cons_zero, List.set_cons_succ])
  refine takeL (i := 24) (v := ?_) rfl (by kernel_rfl) (by kernel_rfl) (by kernel_rfl) (fun _ _ _ h => h) (Or.inl ⟨by rfl, ?_⟩) (by assumption) ?_; rotate_left; (focus (intro wq hSw; have hcc := HA.out wq hSw; clear hSw; go_split_ands; go_simp; try with_reducible rfl)); (try simp only [Act.put, List.setIfInBounds_toArray, List.set_cons_zero, List.set_cons_succ])
  refine takeL (i := 25) (v := ?_) rfl (by kernel_rfl) (by kernel_rfl) (by kernel_rfl) (fun _ _ _ h => h) (Or.inl ⟨by rfl, ?_⟩) (by assumption) ?_; rotate_left; (focus (intro wq hSw; (try dsimp only at hSw); go_simp; try with_reducible rfl)); (try simp only [Act.put, List.setIfInBounds_toArray, List.set_cons_zero, List.set_cons_succ])
  refine takeL (i := 26) (v := ?_) rfl (by kernel_rfl) (by kernel_rfl) (by kernel_rfl) (fun _ _ _ h => h) (Or.inl ⟨by rfl, ?_⟩) (by assumption) ?_; rotate_left; (focus (intro wq hSw; (try dsimp only at hSw); go_simp; try with_reducible rfl)); (try simp only [Act.put, List.setIfInBounds_toArray, List.set_cons_zero, List.set_cons_succ])
  refine takeL (i := 27) (v := ?_) rfl (by kernel_rfl) (by kernel_rfl) (by kernel_rfl) (fun _ _ _ h => h) (Or.inl ⟨by rfl, ?_⟩) (by assumption) ?_; rotate_left; (focus (intro wq hSw; have hcc := HA.out wq hSw; clear hSw; go_split_ands; go_simp; try with_reducible rfl)); (try simp only [Act.put, List.setIfInBounds_toArray, List.set_cons_zero, List.set_cons_succ])
  refine takeL (i := 28) (v := ?_) rfl (by kernel_rfl) (by kernel_rfl) (by kernel_rfl) (fun _ _ _ h => h) (Or.inl ⟨by rfl, ?_⟩) (by assumption) ?_; rotate_left; (focus (intro wq hSw; (try dsimp only at hSw); go_simp; try with_reducible rfl)); (try simp only [Act.put, List.setIfInBounds_toArray, List.set_cons_zero, List.set_cons_succ])
  refine takeL (i := 29) (v := ?_) rfl (by kernel_rfl) (by kernel_rfl) (by kernel_rfl) (fun _ _ _ h => h) (Or.inl ⟨by rfl, ?_⟩) (by assumption) ?_; rotate_left; (focus (intro wq hSw; (try dsimp only at hSw); go_simp; try with_reducible rfl)); (try simp only [Act.put, List.setIfInBounds_toArray, List.set_cons_zero, List.set_cons_succ])
  refine takeL (i := 30) (v := ?_) rfl (by kernel_rfl) (by kernel_rfl) (by kernel_rfl) (fun _ _ _ h => h) (Or.inl ⟨by rfl, ?_⟩) (by assumption) ?_; rotate_left; (focus (intro wq hSw; have hcc := HA.out wq hSw; clear hSw; go_split_ands; go_simp; try with_reducible rfl)); (try simp only [Act.put, List.setIfInBounds_toArray, List.set_cons_zero, List.set_cons_succ])
  refine takeL (i := 31) (v := ?_) rfl (by kernel_rfl) (by kernel_rfl) (by kernel_rfl) (fun _ _ _ h => h) (Or.inl ⟨by rfl, ?_⟩) (by assumption) ?_; rotate_left; (focus (intro wq hSw; (try dsimp only at hSw); go_simp; try with_reducible rfl)); (try simp only [Act.put, List.setIfInBounds_toArray, List.set_cons_zero, List.set_cons_succ])
  refine takeL (i := 32) (v := ?_) rfl (by kernel_rfl) (by kernel_rfl) (by kernel_rfl) (fun _ _ _ h => h) (Or.inl ⟨by rfl, ?_⟩) (by assumption) ?_; rotate_left; (focus (intro wq hSw; (try dsimp only at hSw); go_simp; try with_reducible rfl)); (try simp only [Act.put, List.setIfInBounds_toArray, List.set_cons_zero, List.set_cons_succ])
  refine takeL (i := 33) (v := ?_) rfl (by kernel_rfl) (by kernel_rfl) (by kernel_rfl) (fun _ _ _ h => h) (Or.inl ⟨by rfl, ?_⟩) (by assumption) ?_; rotate_left; (focus (intro wq hSw; have hcc := HA.out wq hSw; clear hSw; go_split_ands; go_simp; try with_reducible rfl)); (try simp only [Act.put, List.setIfInBounds_toArray, List.set_cons_zero, List.set_cons_succ])
  refine takeL (i := 34) (v := ?_) rfl (by kernel_rfl) (by kernel_rfl) (by kernel_rfl) (fun _ _ _ h => h) (Or.inl ⟨by rfl, ?_⟩) (by assumption) ?_; rotate_left; (focus (intro wq hSw; (try dsimp only at hSw); go_simp; try with_reducible rfl)); (try simp only [Act.put, List.setIfInBounds_toArray, List.set_cons_zero, List.set_cons_succ])
  refine consL (i := 5) (by kernel_rfl) rfl (fun K hK => ?_); go_simp; go_at_call 33; refine (midR_c a mid _ (HIN.out.1.mono (by omega)) (HMID.out.2.mono (by omega))).mono ?_; rw [HQ.out.1]; rintro e w5 ⟨rfl, hx5⟩; go_wp2_with fail; refine hK.out _ _ ?_ ?_; rotate_left; clear hK K; intro hHeld; rotate_right; (focus (refine Ext.trans ?_ (by assumption); assumption)); (try simp only [Act.put, List.setIfInBounds_toArray, List.set_cons_zero, List.set_cons_succ])
  refine consL (i := 7) (by kernel_rfl) rfl (fun K hK => ?_); go_simp; go_at_call 34; refine (some_c p _ HI.out.2.2.2).mono ?_; rw [HQ.out.2.1]; rintro e w6 ⟨rfl, hx6⟩; go_wp2_with fail; refine hK.out _ _ ?_ ?_; rotate_left; clear hK K; intro hHeld; rotate_right; (focus (refine Ext.trans ?_ (by assumption); assumption)); (try simp only [Act.put, List.setIfInBounds_toArray, List.set_cons_zero, List.set_cons_succ])
  refine consL (i := 9) (by kernel_rfl) rfl (fun K hK => ?_); go_simp; go_at_call 34; refine (some_c k _ HI.out.2.2.1).mono ?_; rw [HQ.out.2.2.1]; rintro e w7 ⟨rfl, hx7⟩; go_wp2_with fail; refine hK.out _ _ ?_ ?_; rotate_left; clear hK K; intro hHeld; rotate_right; (focus (refine Ext.trans ?_ (by assumption); assumption)); (try simp only [Act.put, List.setIfInBounds_toArray, List.set_cons_zero, List.set_cons_succ])
  refine consL (i := 22) (by kernel_rfl) rfl (fun K hK => ?_); go_simp; go_at_call 35; refine (make_c (2 * a.x - b.x) (2 * a.y - b.y) 1 _ (by have := HBD.out; omega) (by have := HBD.out; omega) (by have := HBD.out; omega) (by have := HBD.out; omega) (by omega) (by omega) (by omega)).mono ?_; rw [HQ.out.2.2.2.1]; rintro e w8 ⟨rfl, hx8⟩; go_wp2_with fail; refine hK.out _ _ ?_ ?_; rotate_left; clear hK K; intro hHeld; rotate_right; (focus (refine Ext.trans ?_ (by assumption); assumption)); (try simp only [Act.put, List.setIfInBounds_toArray, List.set_cons_zero, List.set_cons_succ])
  refine consL (i := 35) (by kernel_rfl) rfl (fun K hK => ?_); go_simp; go_at_call 35; refine (make_c (3 * b.x - a.x) (3 * b.y - a.y) 2 _ (by have := HBD.out; omega) (by have := HBD.out; omega) (by have := HBD.out; omega) (by have := HBD.out; omega) (by omega) (by omega) (by omega)).mono ?_; rw [HQ.out.2.2.2.2]; rintro e w9 ⟨rfl, hx9⟩; go_wp2_with fail; refine hK.out _ _ ?_ ?_; rotate_left; clear hK K; intro hHeld; rotate_right; (focus (refine Ext.trans ?_ (by assumption); assumption)); (try simp only [Act.put, List.setIfInBounds_toArray, List.set_cons_zero, List.set_cons_succ])
  have HX9 := Lib.hid (show Ext V w9 by assumption)
  clear hx5 hx6 hx7 hx8 hx9 v1 v2 v3 v4 v5 v6 v7 v8
  obtain ⟨O, hO⟩ : ∃ O, w9.heap.size = O := ⟨_, rfl⟩
  have BO := Lib.hid (show Blk (w9.alloc (.cells (octC a b mid q o1 o2 m1 m2) 72)) O (octC a b mid q o1 o2 m1 m2) 72 from Blk.at _ 72 hO.symm)
  refine consL (i := 36) (by kernel_rfl) rfl (fun K hK => ?_); go_simp; refine hK.out _ _ ?_ ?_; rotate_left; clear hK K; intro hHeld; rotate_right; (focus exact HX9.out.alloc _); (try simp only [Act.put, List.setIfInBounds_toArray, List.set_cons_zero, List.set_cons_succ])
  refine takeL (i := 37) (v := ?_) rfl (by kernel_rfl) (by kernel_rfl) (by kernel_rfl) (fun _ _ _ h => h) (Or.inl ⟨by rfl, ?_⟩) (by assumption) ?_; rotate_left; (focus (intro wq hSw; (try dsimp only at hSw); go_simp; try with_reducible rfl)); (try simp only [Act.put, List.setIfInBounds_toArray, List.set_cons_zero, List.set_cons_succ])
  refine doneL (by kernel_rfl) ?_
  try rw [hO]
  go_upto_region 6 with fail
  refine wp_gen (fun W => Ext V W ∧ Blk W O (octC a b mid q o1 o2 m1 m2) 72) ⟨HX9.out.alloc _, BO.out⟩ ?_
  clear hO BO HX9
  rintro W9 ⟨E9, B9⟩
  have H9 := Lib.hid (And.intro E9 B9)
  clear E9 B9
  go_upto_region 7 with fail
  go_loopw [14] (fun v ws => ∃ i : Nat, i ≤ 8 ∧ v = .int .i64 (i : Int) ∧ Ext W9 ws) (fun v _ => 8 - (intOf v).toNat)
  case atStart => exact ⟨0, by omega, rfl, Ext.refl W9⟩
  case round =>
    obtain ⟨i, hi, rfl, hE⟩ := hrel
    have HW := Lib.hid hE
    by_cases hlt : i < 8
    · have hoct := oct_at H9.out.2 i hlt
      have hin := HALL.out i
      obtain ⟨r, hr⟩ : ∃ r, ptO a b mid q o1 o2 m1 m2 i = r := ⟨_, rfl⟩
      rw [hr] at hoct hin
      have HIR := Lib.hid hin
      have hsg := (H4.out.1.1.1.2.ext H9.out.1).ext hE
      have HC := Lib.hid (fun W (e : Ext wr W) => (show (W.cell? ⟨G, 0, none⟩ = some (.int .i64 s.a.x) ∧ W.cell? ⟨G, 1, none⟩ = some (.int .i64 s.a.y) ∧ W.cell? ⟨G, 2, none⟩ = some (.int .i64 s.b.x) ∧ W.cell? ⟨G, 3, none⟩ = some (.int .i64 s.b.y)) ∧ W.cell? ⟨O, i * 3, none⟩ = some (.int .i64 r.x) ∧ W.cell? ⟨O, i * 3 + 1, none⟩ = some (.int .i64 r.y) ∧ W.cell? ⟨O, i * 3 + 2, none⟩ = some (.int .i64 r.d) from ⟨(hsg.ext e).sgB, (hE.trans e).cell hoct.1, (hE.trans e).cell hoct.2.1, (hE.trans e).cell hoct.2.2⟩))
      have l0 : (0 : Int) ≤ (i : Int) := by omega
      have l1 : (i : Int) < 8 := by omega
      have l2 : ¬ (i : Int) < 0 := by omega
      have hsok := HS.out.ok (by omega) (by omega)
      obtain ⟨v, hv⟩ : ∃ v, onF s r = v := ⟨_, rfl⟩
      have HVV := Lib.hid (And.intro hv (show onR s r.q = (v, 0) by unfold onR; rw [if_pos (segE_ok.2 hsok), on_same hsok.ne hin.d1, hv]))
      have HOQ := Lib.hid (ownQ_pos hin.d1)
      clear hoct hin hr hsg hE hsok hv
      go_upto_region 9 with fail
      refine wp_region_held_drew (S := fun W => Ext wr W) (by kernel_rfl) ((Ext.refl wr).drew) (fun hHeld => ?_)
      refine takeL (i := 0) (v := ?_) rfl (by kernel_rfl) (by kernel_rfl) (by kernel_rfl) (fun _ _ _ h => h) (Or.inl ⟨by rfl, ?_⟩) (by assumption) ?_; rotate_left; (focus (intro wq hSw; have hcc := HC.out wq hSw; clear hSw; go_split_ands; go_simp; try with_reducible rfl)); (try simp only [Act.put, List.setIfInBounds_toArray, List.set_cons_zero, List.set_cons_succ])
      refine takeL (i := 1) (v := ?_) rfl (by kernel_rfl) (by kernel_rfl) (by kernel_rfl) (fun _ _ _ h => h) (Or.inl ⟨by rfl, ?_⟩) (by assumption) ?_; rotate_left; (focus (intro wq hSw; (try dsimp only at hSw); go_simp; try with_reducible rfl)); (try simp only [Act.put, List.setIfInBounds_toArray, List.set_cons_zero, List.set_cons_succ])
      refine takeL (i := 2) (v := ?_) rfl (by kernel_rfl) (by kernel_rfl) (by kernel_rfl) (fun _ _ _ h => h) (Or.inl ⟨by rfl, ?_⟩) (by assumption) ?_; rotate_left; (focus (intro wq hSw; (try dsimp only at hSw); go_simp; try with_reducible rfl)); (try simp only [Act.put, List.setIfInBounds_toArray, List.set_cons_zero, List.set_cons_succ])
      refine takeL (i := 3) (v := ?_) rfl (by kernel_rfl) (by kernel_rfl) (by kernel_rfl) (fun _ _ _ h => h) (Or.inl ⟨by rfl, ?_⟩) (by assumption) ?_; rotate_left; (focus (intro wq hSw; (try dsimp only at hSw); go_simp; try with_reducible rfl)); (try simp only [Act.put, List.setIfInBounds_toArray, List.set_cons_zero, List.set_cons_succ])
      refine takeL (i := 4) (v := ?_) rfl (by kernel_rfl) (by kernel_rfl) (by kernel_rfl) (fun _ _ _ h => h) (Or.inl ⟨by rfl, ?_⟩) (by assumption) ?_; rotate_left; (focus (intro wq hSw; have hcc := HC.out wq hSw; clear hSw; go_split_ands; go_simp; try with_reducible rfl)); (try simp only [Act.put, List.setIfInBounds_toArray, List.set_cons_zero, List.set_cons_succ])
      refine consL (i := 5) (by kernel_rfl) rfl (fun K hK => ?_); go_simp; go_at_call 36; refine (lown_c r _ (HIR.out.rb (by omega))).mono ?_; rw [HOQ.out]; rintro e w5 ⟨f, rfl, hf, hx5⟩; go_wp2_with fail; refine hK.out _ _ ?_ ?_; rotate_left; clear hK K; intro hHeld; rotate_right; (focus (refine Ext.trans ?_ (by assumption); assumption)); (try simp only [Act.put, List.setIfInBounds_toArray, List.set_cons_zero, List.set_cons_succ])
      refine consL (i := 6) (by kernel_rfl) rfl (fun K hK => ?_); go_simp; go_at_call 14; refine (cOn_c s f r.q _ hf (HIR.out.sm (by omega)).x (HIR.out.sm (by omega)).y).mono ?_; rw [HVV.out.2]; rintro e w6 ⟨rfl, hx6⟩; go_wp2_with fail; refine hK.out _ _ ?_ ?_; rotate_left; clear hK K; intro hHeld; rotate_right; (focus (refine Ext.trans ?_ (by assumption); assumption)); (try simp only [Act.put, List.setIfInBounds_toArray, List.set_cons_zero, List.set_cons_succ])
      have HX6 := Lib.hid (show Ext wr w6 by assumption)
      clear hf hx5 hx6
      refine takeL (i := 7) (v := ?_) rfl (by kernel_rfl) (by kernel_rfl) (by kernel_rfl) (fun _ _ _ h => h) (Or.inl ⟨by rfl, ?_⟩) (by assumption) ?_; rotate_left; (focus (intro wq hSw; (try dsimp only at hSw); go_simp; try with_reducible rfl)); (try simp only [Act.put, List.setIfInBounds_toArray, List.set_cons_zero, List.set_cons_succ])
      refine takeL (i := 8) (v := ?_) rfl (by kernel_rfl) (by kernel_rfl) (by kernel_rfl) (fun _ _ _ h => h) (Or.inl ⟨by rfl, ?_⟩) (by assumption) ?_; rotate_left; (focus (intro wq hSw; (try dsimp only at hSw); go_simp; try with_reducible rfl)); (try simp only [Act.put, List.setIfInBounds_toArray, List.set_cons_zero, List.set_cons_succ])
      refine takeL (i := 9) (v := ?_) rfl (by kernel_rfl) (by kernel_rfl) (by kernel_rfl) (fun _ _ _ h => h) (Or.inl ⟨by rfl, ?_⟩) (by assumption) ?_; rotate_left; (focus (intro wq hSw; (try dsimp only at hSw); go_simp; try with_reducible rfl)); (try simp only [Act.put, List.setIfInBounds_toArray, List.set_cons_zero, List.set_cons_succ])
      refine takeL (i := 10) (v := ?_) rfl (by kernel_rfl) (by kernel_rfl) (by kernel_rfl) (fun _ _ _ h => h) (Or.inl ⟨by rfl, ?_⟩) (by assumption) ?_; rotate_left; (focus (intro wq hSw; (try dsimp only at hSw); go_simp; try with_reducible rfl)); (try simp only [Act.put, List.setIfInBounds_toArray, List.set_cons_zero, List.set_cons_succ])
      refine takeL (i := 11) (v := ?_) rfl (by kernel_rfl) (by kernel_rfl) (by kernel_rfl) (fun _ _ _ h => h) (Or.inl ⟨by rfl, ?_⟩) (by assumption) ?_; rotate_left; (focus (intro wq hSw; (try dsimp only at hSw); go_simp; try with_reducible rfl)); (try simp only [Act.put, List.setIfInBounds_toArray, List.set_cons_zero, List.set_cons_succ])
      refine doneL (by kernel_rfl) ?_
      go_upto_region 10 with fail
      have HC6 := Lib.hid (fun W (e : Ext w6 W) => HC.out W (HX6.out.trans e))
      refine wp_region_held_drew (S := fun W => Ext w6 W) (by kernel_rfl) ((Ext.refl w6).drew) (fun hHeld => ?_)
      refine takeL (i := 0) (v := ?_) rfl (by kernel_rfl) (by kernel_rfl) (by kernel_rfl) (fun _ _ _ h => h) (Or.inl ⟨by rfl, ?_⟩) (by assumption) ?_; rotate_left; (focus (intro wq hSw; (try dsimp only at hSw); go_simp; try with_reducible rfl)); (try simp only [Act.put, List.setIfInBounds_toArray, List.set_cons_zero, List.set_cons_succ])
      refine takeL (i := 1) (v := ?_) rfl (by kernel_rfl) (by kernel_rfl) (by kernel_rfl) (fun _ _ _ h => h) (Or.inl ⟨by rfl, ?_⟩) (by assumption) ?_; rotate_left; (focus (intro wq hSw; (try dsimp only at hSw); go_simp; try with_reducible rfl)); (try simp only [Act.put, List.setIfInBounds_toArray, List.set_cons_zero, List.set_cons_succ])
      refine takeL (i := 2) (v := ?_) rfl (by kernel_rfl) (by kernel_rfl) (by kernel_rfl) (fun _ _ _ h => h) (Or.inl ⟨by rfl, ?_⟩) (by assumption) ?_; rotate_left; (focus (intro wq hSw; (try dsimp only at hSw); go_simp; try with_reducible rfl)); (try simp only [Act.put, List.setIfInBounds_toArray, List.set_cons_zero, List.set_cons_succ])
      refine takeL (i := 3) (v := ?_) rfl (by kernel_rfl) (by kernel_rfl) (by kernel_rfl) (fun _ _ _ h => h) (Or.inl ⟨by rfl, ?_⟩) (by assumption) ?_; rotate_left; (focus (intro wq hSw; (try dsimp only at hSw); go_simp; try with_reducible rfl)); (try simp only [Act.put, List.setIfInBounds_toArray, List.set_cons_zero, List.set_cons_succ])
      refine takeL (i := 4) (v := ?_) rfl (by kernel_rfl) (by kernel_rfl) (by kernel_rfl) (fun _ _ _ h => h) (Or.inl ⟨by rfl, ?_⟩) (by assumption) ?_; rotate_left; (focus (intro wq hSw; have hcc := HC6.out wq hSw; clear hSw; go_split_ands; go_simp; try with_reducible rfl)); (try simp only [Act.put, List.setIfInBounds_toArray, List.set_cons_zero, List.set_cons_succ])
      refine takeL (i := 5) (v := ?_) rfl (by kernel_rfl) (by kernel_rfl) (by kernel_rfl) (fun _ _ _ h => h) (Or.inl ⟨by rfl, ?_⟩) (by assumption) ?_; rotate_left; (focus (intro wq hSw; (try dsimp only at hSw); go_simp; try with_reducible rfl)); (try simp only [Act.put, List.setIfInBounds_toArray, List.set_cons_zero, List.set_cons_succ])
      refine takeL (i := 6) (v := ?_) rfl (by kernel_rfl) (by kernel_rfl) (by kernel_rfl) (fun _ _ _ h => h) (Or.inl ⟨by rfl, ?_⟩) (by assumption) ?_; rotate_left; (focus (intro wq hSw; (try dsimp only at hSw); go_simp; try with_reducible rfl)); (try simp only [Act.put, List.setIfInBounds_toArray, List.set_cons_zero, List.set_cons_succ])
      refine takeL (i := 7) (v := ?_) rfl (by kernel_rfl) (by kernel_rfl) (by kernel_rfl) (fun _ _ _ h => h) (Or.inl ⟨by rfl, ?_⟩) (by assumption) ?_; rotate_left; (focus (intro wq hSw; (try dsimp only at hSw); go_simp; try with_reducible rfl)); (try simp only [Act.put, List.setIfInBounds_toArray, List.set_cons_zero, List.set_cons_succ])
      refine takeL (i := 8) (v := ?_) rfl (by kernel_rfl) (by kernel_rfl) (by kernel_rfl) (fun _ _ _ h => h) (Or.inl ⟨by rfl, ?_⟩) (by assumption) ?_; rotate_left; (focus (intro wq hSw; have hcc := HC6.out wq hSw; clear hSw; go_split_ands; go_simp; try with_reducible rfl)); (try simp only [Act.put, List.setIfInBounds_toArray, List.set_cons_zero, List.set_cons_succ])
      refine consL (i := 9) (by kernel_rfl) rfl (fun K hK => ?_); go_simp; go_at_call 37; refine (rOn_c s r _ (HS.out.mono (by omega) (by omega)) HIR.out).mono ?_; rw [HVV.out.1]; rintro e w7 ⟨rfl, hx7⟩; go_wp2_with fail; refine hK.out _ _ ?_ ?_; rotate_left; clear hK K; intro hHeld; rotate_right; (focus (refine Ext.trans ?_ (by assumption); assumption)); (try simp only [Act.put, List.setIfInBounds_toArray, List.set_cons_zero, List.set_cons_succ])
      have HX7 := Lib.hid (HX6.out.trans (show Ext w6 w7 by assumption))
      clear hx7
      have vv : (v != v) = false := by simp
      refine takeL (i := 10) (v := ?_) rfl (by kernel_rfl) (by kernel_rfl) (by kernel_rfl) (fun _ _ _ h => h) (Or.inl ⟨by rfl, ?_⟩) (by assumption) ?_; rotate_left; (focus (intro wq hSw; (try dsimp only at hSw); go_simp; try with_reducible rfl)); (try simp only [Act.put, List.setIfInBounds_toArray, List.set_cons_zero, List.set_cons_succ])
      refine takeL (i := 11) (v := ?_) rfl (by kernel_rfl) (by kernel_rfl) (by kernel_rfl) (fun _ _ _ h => h) (Or.inl ⟨by rfl, ?_⟩) (by assumption) ?_; rotate_left; (focus (intro wq hSw; (try dsimp only at hSw); go_simp; try with_reducible rfl)); (try simp only [Act.put, List.setIfInBounds_toArray, List.set_cons_zero, List.set_cons_succ])
      refine doneL (by kernel_rfl) ?_
      go_wp2_with fail
      go_roundw
      case rel => exact ⟨i + 1, by omega, by go_num, HW.out.trans HX7.out⟩
      case measure => simp [intOf]; omega
    · obtain rfl : i = 8 := by omega
      clear hE
      go_wp2_with fail
      refine (llives_c _).mono ?_
      rintro e w10 ⟨rfl, hx10⟩
      go_wp2_with fail
      go_ret
      exact ⟨rfl, H4.out.1.1.1.1.trans (H9.out.1.trans (HW.out.trans hx10))⟩
end Go.Proofs.Ytagiaiocgjagnaa
