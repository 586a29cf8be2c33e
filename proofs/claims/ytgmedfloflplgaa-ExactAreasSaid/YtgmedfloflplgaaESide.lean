/- exact: side. -/
import Derived.Test.YtgmedfloflplgaaWB
namespace Go.Proofs.Ytgmedfloflplgaa
set_option linter.unusedSimpArgs false
set_option linter.unusedVariables false
open Go.RowKit

/-- A point of the grid as a value. -/
structure Pt where
  x : Int
  y : Int
abbrev Pt.v (p : Pt) : Value := .agg #[.int .i64 p.x, .int .i64 p.y]

theorem lt_of_two {a b : Nat} (h : a + 1 + 1 ≤ b) : a < b ∧ a + 1 < b := by omega

/-- What the walk is told of the variables behind 'x, y := wide.From(..), wide.From(..)'. -/
def TwoVars (w : World) (s t : Value) (x y : Int) : Prop :=
  ∃ (b c : Nat) (p q : IV), IsI w p x ∧ IsI w q y ∧ s = .pointer (some ⟨b, 0, none⟩) ∧ t = .pointer (some ⟨c, 0, none⟩) ∧ At w b #[.bool p.neg, .slice p.a p.n p.c] ∧ At w c #[.bool q.neg, .slice q.a q.n q.c]

theorem WTop_big : 340282366920938463463374607431768211456 ≤ WTop := by
  unfold WTop
  have h : B32 ^ 4 ≤ B32 ^ WMost := Nat.pow_le_pow_right B32_pos (by rw [WMost_eq]; omega)
  have h4 : B32 ^ 4 = 340282366920938463463374607431768211456 := by rw [B32_eq]
  rw [h4] at h; exact h
theorem lim_small {x : Int} (h : x.natAbs < 340282366920938463463374607431768211456) : lim x = (x, 0) := by
  unfold lim; rw [if_pos (Nat.lt_of_lt_of_le h WTop_big)]
theorem natAbs_mul_le {x y : Int} {m n : Nat} (hx : x.natAbs ≤ m) (hy : y.natAbs ≤ n) : (x * y).natAbs ≤ m * n := by
  rw [Int.natAbs_mul]; exact Nat.mul_le_mul hx hy

set_option maxHeartbeats 8000000 in
theorem side_c (a b c : Pt) (w : World) (h1 : -4294967296 ≤ b.x - a.x) (h2 : b.x - a.x ≤ 4294967296) (h3 : -4294967296 ≤ b.y - a.y) (h4 : b.y - a.y ≤ 4294967296)
    (h5 : -4294967296 ≤ c.x - a.x) (h6 : c.x - a.x ≤ 4294967296) (h7 : -4294967296 ≤ c.y - a.y) (h8 : c.y - a.y ≤ 4294967296) :
    Calls Try.prog 53 #[a.v, b.v, c.v] w fun e w' => e = .returned (.int .i64 (cmpI ((b.x - a.x) * (c.y - a.y)) ((b.y - a.y) * (c.x - a.x)))) ∧ Ext w w' := by
  go_enter Try.func53, Try.ntmps53
  go_upto_region 1 with (fail)
  refine wp_gen (fun W => Ext w W ∧ At W w.heap.size #[.int .i64 a.x, .int .i64 a.y] ∧ At W (w.heap.size + 1) #[.int .i64 b.x, .int .i64 b.y] ∧ At W (w.heap.size + 2) #[.int .i64 c.x, .int .i64 c.y])
    ⟨(by repeat (first | exact Ext.refl _ | assumption | refine Ext.setCell ?_ (by first | (simp; done) | (simp; omega) | omega) _ | refine Ext.alloc ?_ _ | refine Ext.drew ?_ | refine Ext.trans ?_ (by assumption))), (((Blk.at _ 25 rfl).alloc _).alloc _).at', ((Blk.at _ 25 (by simp)).alloc _).at', (Blk.at _ 25 (by simp)).at'⟩ ?_
  rintro W ⟨E0, A0, A1, A2⟩
  have hS0 := A2.lt (by simp)
  have e1 : IntKind.i64.wrap (b.x - a.x) = b.x - a.x := IntWalk.i64_in _ (by omega)
  have e2 : IntKind.i64.wrap (b.y - a.y) = b.y - a.y := IntWalk.i64_in _ (by omega)
  have e3 : IntKind.i64.wrap (c.x - a.x) = c.x - a.x := IntWalk.i64_in _ (by omega)
  have e4 : IntKind.i64.wrap (c.y - a.y) = c.y - a.y := IntWalk.i64_in _ (by omega)
  go_cut [7, 8] (fun s t wx => (Ext w wx ∧ At wx w.heap.size #[.int .i64 a.x, .int .i64 a.y] ∧ At wx (w.heap.size + 1) #[.int .i64 b.x, .int .i64 b.y] ∧ At wx (w.heap.size + 2) #[.int .i64 c.x, .int .i64 c.y]) ∧ TwoVars wx s t (b.x - a.x) (b.y - a.y))
  case first =>
    go_region_held3 (fun w' => Ext w w' ∧ At w' w.heap.size #[.int .i64 a.x, .int .i64 a.y] ∧ At w' (w.heap.size + 1) #[.int .i64 b.x, .int .i64 b.y] ∧ At w' (w.heap.size + 2) #[.int .i64 c.x, .int .i64 c.y])
      (first | exact ⟨E0.drew, A0, A1, A2⟩ | exact kept)
      ((go_at_call 32; refine (From_c _ _ (by omega) (by omega)).mono ?_; rintro e w2 ⟨r, rfl, hr, hx⟩; obtain ⟨hc, hf, hs⟩ := hx.see; (try simp only [World.size_alloc, World.size_drew] at hs); (try have hlt := Nat.lt_of_succ_le hs); (try have hlt2 := Nat.lt_of_succ_lt hlt); (try have hq1 : W.heap.size < w2.heap.size := by omega); (try have hq2 : W.heap.size + 1 < w2.heap.size := by omega); have K2 : Ext w w2 ∧ At w2 w.heap.size #[.int .i64 a.x, .int .i64 a.y] ∧ At w2 (w.heap.size + 1) #[.int .i64 b.x, .int .i64 b.y] ∧ At w2 (w.heap.size + 2) #[.int .i64 c.x, .int .i64 c.y] := by exact kept))
    all_goals
      go_wp2_with fail
      go_meet
      refine ⟨by exact kept, _, _, _, _, IsI.keep (by assumption) ?_, IsI.keep (by assumption) ?_, rfl, rfl, ?_, ?_⟩
      · (repeat' (first | with_reducible exact IK.refl _ | with_reducible refine IK.setCell ?_ (by intro k n; go_simp) _ | with_reducible refine IK.alloc ?_ _ | with_reducible refine IK.drew ?_ | with_reducible refine IK.trans ?_ (Ext.ik (by assumption))))
      · (repeat' (first | with_reducible exact IK.refl _ | with_reducible refine IK.setCell ?_ (by intro k n; go_simp) _ | with_reducible refine IK.alloc ?_ _ | with_reducible refine IK.drew ?_ | with_reducible refine IK.trans ?_ (Ext.ik (by assumption))))
      · (repeat' (first | with_reducible exact At.put2 (by go_simp) (by go_simp) | with_reducible refine At.set ?_ (by omega) | with_reducible exact At.mk2 (by go_simp) (by go_simp)))
      · (repeat' (first | with_reducible exact At.put2 (by go_simp) (by go_simp) | with_reducible refine At.set ?_ (by omega) | with_reducible exact At.mk2 (by go_simp) (by go_simp)))
  case rest =>
    obtain ⟨⟨E1, C0, C1, C2⟩, b7, b8, p, q, hp, hq, rfl, rfl, C7, C8⟩ := hcut
    clear E0 A0 A1 A2 hS0
    have hS0 := C2.lt (by simp)
    have hS7 := C7.lt (by simp)
    have hS8 := C8.lt (by simp)
    go_upto_region 2 with (fail)
    go_cut [9, 10] (fun s t wx => (Ext w wx ∧ At wx w.heap.size #[.int .i64 a.x, .int .i64 a.y] ∧ At wx (w.heap.size + 1) #[.int .i64 b.x, .int .i64 b.y] ∧ At wx (w.heap.size + 2) #[.int .i64 c.x, .int .i64 c.y] ∧ At wx b7 #[.bool p.neg, .slice p.a p.n p.c] ∧ At wx b8 #[.bool q.neg, .slice q.a q.n q.c]) ∧ IsI wx p (b.x - a.x) ∧ IsI wx q (b.y - a.y) ∧ TwoVars wx s t (c.x - a.x) (c.y - a.y))
    case first =>
      go_region_held3 (fun w' => Ext w w' ∧ At w' w.heap.size #[.int .i64 a.x, .int .i64 a.y] ∧ At w' (w.heap.size + 1) #[.int .i64 b.x, .int .i64 b.y] ∧ At w' (w.heap.size + 2) #[.int .i64 c.x, .int .i64 c.y] ∧ At w' b7 #[.bool p.neg, .slice p.a p.n p.c] ∧ At w' b8 #[.bool q.neg, .slice q.a q.n q.c])
        (first | exact ⟨E1.drew, C0, C1, C2, C7, C8⟩ | exact kept)
        ((go_at_call 32; refine (From_c _ _ (by omega) (by omega)).mono ?_; rintro e w2 ⟨r, rfl, hr, hx⟩; obtain ⟨hc, hf, hs⟩ := hx.see; (try simp only [World.size_alloc, World.size_drew] at hs); (try have hlt := Nat.lt_of_succ_le hs); (try have hlt2 := Nat.lt_of_succ_lt hlt); (try have hq1 : wc.heap.size < w2.heap.size := by omega); (try have hq2 : wc.heap.size + 1 < w2.heap.size := by omega); have K2 : Ext w w2 ∧ At w2 w.heap.size #[.int .i64 a.x, .int .i64 a.y] ∧ At w2 (w.heap.size + 1) #[.int .i64 b.x, .int .i64 b.y] ∧ At w2 (w.heap.size + 2) #[.int .i64 c.x, .int .i64 c.y] ∧ At w2 b7 #[.bool p.neg, .slice p.a p.n p.c] ∧ At w2 b8 #[.bool q.neg, .slice q.a q.n q.c] := by exact kept))
      all_goals
        go_wp2_with fail
        go_meet
        refine ⟨by exact kept, IsI.keep hp ?_, IsI.keep hq ?_, _, _, _, _, IsI.keep (by assumption) ?_, IsI.keep (by assumption) ?_, rfl, rfl, ?_, ?_⟩
        · (repeat' (first | with_reducible exact IK.refl _ | with_reducible refine IK.setCell ?_ (by intro k n; go_simp) _ | with_reducible refine IK.alloc ?_ _ | with_reducible refine IK.drew ?_ | with_reducible refine IK.trans ?_ (Ext.ik (by assumption))))
        · (repeat' (first | with_reducible exact IK.refl _ | with_reducible refine IK.setCell ?_ (by intro k n; go_simp) _ | with_reducible refine IK.alloc ?_ _ | with_reducible refine IK.drew ?_ | with_reducible refine IK.trans ?_ (Ext.ik (by assumption))))
        · (repeat' (first | with_reducible exact IK.refl _ | with_reducible refine IK.setCell ?_ (by intro k n; go_simp) _ | with_reducible refine IK.alloc ?_ _ | with_reducible refine IK.drew ?_ | with_reducible refine IK.trans ?_ (Ext.ik (by assumption))))
        · (repeat' (first | with_reducible exact IK.refl _ | with_reducible refine IK.setCell ?_ (by intro k n; go_simp) _ | with_reducible refine IK.alloc ?_ _ | with_reducible refine IK.drew ?_ | with_reducible refine IK.trans ?_ (Ext.ik (by assumption))))
        · (repeat' (first | with_reducible exact At.put2 (by go_simp) (by go_simp) | with_reducible refine At.set ?_ (by omega) | with_reducible exact At.mk2 (by go_simp) (by go_simp)))
        · (repeat' (first | with_reducible exact At.put2 (by go_simp) (by go_simp) | with_reducible refine At.set ?_ (by omega) | with_reducible exact At.mk2 (by go_simp) (by go_simp)))
    case rest =>
      obtain ⟨⟨E2, D0, D1, D2, D7, D8⟩, hp2, hq2, b9, b10, u, v, hu, hv, rfl, rfl, D9, D10⟩ := hcut
      have l7 := D7.lt (by simp)
      have l8 := D8.lt (by simp)
      have l9 := D9.lt (by simp)
      have l10 := D10.lt (by simp)
      have m1 := lim_small (x := (b.x - a.x) * (c.y - a.y)) (Nat.lt_of_le_of_lt (natAbs_mul_le (m := 4294967296) (n := 4294967296) (by omega) (by omega)) (by decide))
      have m2 := lim_small (x := (b.y - a.y) * (c.x - a.x)) (Nat.lt_of_le_of_lt (natAbs_mul_le (m := 4294967296) (n := 4294967296) (by omega) (by omega)) (by decide))
      have M1 := Lib.hid m1; have M2 := Lib.hid m2; have HP := Lib.hid hp2; have HQ := Lib.hid hq2; have HU := Lib.hid hu; have HV := Lib.hid hv
      clear m1 m2 hp2 hq2 hu hv e1 e2 e3 e4 D0 D1 D2 C0 C1 C2 C7 C8 hp hq E1
      go_wp2_with fail
      refine (Mul_c p v _ _ _ HP.out HV.out).mono ?_
      rw [M1.out]
      rintro e w3 ⟨r1, rfl, hr1, hx1⟩
      obtain ⟨hc1, hf1, hs1⟩ := hx1.see
      have q7 := Nat.lt_of_lt_of_le l7 hs1
      have q8 := Nat.lt_of_lt_of_le l8 hs1
      have q9 := Nat.lt_of_lt_of_le l9 hs1
      have q10 := Nat.lt_of_lt_of_le l10 hs1
      go_wp2_with fail
      refine (Mul_c q u _ _ _ (IsI.keep HQ.out (by repeat' (first | with_reducible exact IK.refl _ | with_reducible refine IK.setCell ?_ (by intro k n; go_simp) _ | with_reducible refine IK.alloc ?_ _ | with_reducible refine IK.drew ?_ | with_reducible refine IK.trans ?_ (Ext.ik (by assumption))))) (IsI.keep HU.out (by repeat' (first | with_reducible exact IK.refl _ | with_reducible refine IK.setCell ?_ (by intro k n; go_simp) _ | with_reducible refine IK.alloc ?_ _ | with_reducible refine IK.drew ?_ | with_reducible refine IK.trans ?_ (Ext.ik (by assumption)))))).mono ?_
      rw [M2.out]
      rintro e w4 ⟨r2, rfl, hr2, hx2⟩
      obtain ⟨hc2, hf2, hs2⟩ := hx2.see
      simp only [World.size_alloc] at hc2 hf2 hs2
      have q11 : w3.heap.size < w4.heap.size := by omega
      go_wp2_with fail
      refine (Compare_c r1 r2 _ _ _ (IsI.keep hr1 (by repeat' (first | with_reducible exact IK.refl _ | with_reducible refine IK.setCell ?_ (by intro k n; go_simp) _ | with_reducible refine IK.alloc ?_ _ | with_reducible refine IK.drew ?_ | with_reducible refine IK.trans ?_ (Ext.ik (by assumption))))) (IsI.keep hr2 (by repeat' (first | with_reducible exact IK.refl _ | with_reducible refine IK.setCell ?_ (by intro k n; go_simp) _ | with_reducible refine IK.alloc ?_ _ | with_reducible refine IK.drew ?_ | with_reducible refine IK.trans ?_ (Ext.ik (by assumption)))))).mono ?_
      rintro e w5 ⟨rfl, hx3⟩
      go_wp2_with fail
      go_ret
      refine ⟨rfl, (by repeat (first | exact Ext.refl _ | assumption | refine Ext.setCell ?_ (by first | (simp; done) | (simp; omega) | omega) _ | refine Ext.alloc ?_ _ | refine Ext.drew ?_ | refine Ext.trans ?_ (by assumption)))⟩
end Go.Proofs.Ytgmedfloflplgaa
