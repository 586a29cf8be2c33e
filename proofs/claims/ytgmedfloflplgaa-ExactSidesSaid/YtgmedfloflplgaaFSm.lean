/- wide: Small, of a small number; frac: Num. -/
import Derived.Test.YtgmedfloflplgaaWB
namespace Go.Proofs.Ytgmedfloflplgaa
set_option linter.unusedSimpArgs false
set_option linter.unusedVariables false
open Go.RowKit

theorem small_list {l : List Nat} (h : Norm l) (f : Fit l) (hx : mval l < 4611686018427387904) : l = [] ∨ (∃ a, l = [a] ∧ a < 4294967296 ∧ 0 < a) ∨ ∃ a b, l = [a, b] ∧ a < 4294967296 ∧ b < 1073741824 ∧ 0 < b := by
  have h2 : l.length ≤ 2 := (norm_len_le h f 2).1 (by rw [B32_eq]; omega)
  match l, h2 with
  | [], _ => exact .inl rfl
  | [a], _ =>
    right; left
    have h1 := f a (by simp)
    rw [B32_eq] at h1
    refine ⟨a, rfl, h1, ?_⟩
    rcases h with h | h
    · cases h
    · simp at h; omega
  | [a, b], _ =>
    right; right
    have h1 := f a (by simp)
    rw [B32_eq] at h1
    simp only [mval, B32_eq] at hx
    refine ⟨a, b, rfl, h1, by omega, ?_⟩
    rcases h with h | h
    · cases h
    · simp at h; omega
  | a :: b :: c :: l, h3 => simp at h3
theorem or_zero (x : Nat) (hx : x < 4294967296) : bits BinOp.or IntKind.u64 0 (x : Int) = (x : Int) := by
  have := or_words 0 x (by omega) hx
  simpa using this
theorem or_words' (r x : Nat) (hr : r < 4294967296) (hx : x < 4294967296) : bits BinOp.or IntKind.u64 (x : Int) ((r : Int) * 4294967296) = ((r * 4294967296 + x : Nat) : Int) := by
  rw [← or_words r x hr hx]
  unfold bits
  simp only
  rw [BitVec.or_comm]
def RetSm (x : Int) (w : World) (e : Ending) (w' : World) : Prop := e = .returned (.tuple #[.int .i64 x, .bool true]) ∧ Ext w w'
set_option maxRecDepth 100000 in
set_option maxHeartbeats 2000000 in
theorem Small_c (p : IV) (x : Int) (w : World) (h : IsI w p x) (hx1 : -4611686018427387904 < x) (hx2 : x < 4611686018427387904) :
    Calls Try.prog 45 #[p.v] w (RetSm x w) := by
  obtain ⟨l, h1, h2, h3, h4, rfl⟩ := h
  obtain ⟨g, a, n, c⟩ := p
  simp only at h1 h3 h4
  have hm : mval l < 4611686018427387904 := by
    have := sgn_natAbs g (mval l)
    simp only at hx1 hx2
    omega
  rcases small_list h2 h1.fit hm with rfl | ⟨u, rfl, hu, hu0⟩ | ⟨u, v, rfl, hu, hv, hv0⟩
  · have hn : n = 0 := h1.len.symm
    subst hn
    have hg : g = false := by
      cases g with
      | false => rfl
      | true => have := h4 rfl; omega
    subst hg
    have HV := Lib.hid (show sgn false (mval []) = 0 from rfl)
    clear h1 h2 h4 hm hx1 hx2
    go_enter Try.func45, Try.ntmps45
    go_wp2_with fail
    go_loop [4, 11] (fun uv iv => uv = .int .u64 0 ∧ iv = .int .i64 0) (fun _ _ => 0)
    case atStart => exact ⟨rfl, rfl⟩
    case round =>
      obtain ⟨rfl, rfl⟩ := hrel
      go_wp2_with fail
      go_ret2
      exact ⟨by rw [HV.out]; rfl, (by repeat (first | exact Ext.refl _ | assumption | refine Ext.setCell ?_ (by first | (simp; done) | (simp; omega) | omega) _ | refine Ext.alloc ?_ _ | refine Ext.drew ?_ | refine Ext.trans ?_ (by assumption)))⟩
  · have hn : n = 1 := h1.len.symm
    subst hn
    obtain ⟨b, off, rfl, hb, hc⟩ := h1.at 0 (by omega)
    have hc' : w.cell? ⟨b, off, none⟩ = some (.int .u32 (u : Int)) := hc
    have HV := Lib.hid (show sgn false (mval [u]) = (u : Int) ∧ sgn true (mval [u]) = -(u : Int) by simp [sgn, mval])
    have hor := or_zero u hu
    have hw1 : IntKind.i64.wrap (u : Int) = (u : Int) := IntWalk.i64_in _ (by omega)
    have hw2 : IntKind.u64.wrap (u : Int) = (u : Int) := by unfold IntKind.wrap; simp [IntKind.signed, IntKind.bits]; omega
    have hz : ((u : Int) != 0) = true := by simp; omega
    have hw3 : IntKind.i64.wrap (-(u : Int)) = -(u : Int) := IntWalk.i64_in _ (by omega)
    have hu' : u ≤ 4294967295 := by omega
    clear h1 h2 h4 hm hc hu hx1 hx2
    cases g
    · go_enter Try.func45, Try.ntmps45
      go_wp2_with fail
      go_loop [4, 11] (fun uv iv => ∃ j : Nat, j ≤ 1 ∧ iv = .int .i64 (j : Int) ∧ uv = .int .u64 (if j = 0 then 0 else (u : Int))) (fun _ iv => 1 - (intOf iv).toNat)
      case atStart => exact ⟨0, by omega, rfl, rfl⟩
      case round =>
        obtain ⟨j, hj, rfl, rfl⟩ := hrel
        rcases (show j = 0 ∨ j = 1 by omega) with rfl | rfl
        · go_wp2_with fail
          go_round
          case rel => exact ⟨1, by omega, rfl, by simp⟩
          case measure => simp [intOf]
        · go_wp2_with fail
          go_ret2
          exact ⟨by rw [HV.out.1]; rfl, (by repeat (first | exact Ext.refl _ | assumption | refine Ext.setCell ?_ (by first | (simp; done) | (simp; omega) | omega) _ | refine Ext.alloc ?_ _ | refine Ext.drew ?_ | refine Ext.trans ?_ (by assumption)))⟩
    · go_enter Try.func45, Try.ntmps45
      go_wp2_with fail
      go_loop [4, 11] (fun uv iv => ∃ j : Nat, j ≤ 1 ∧ iv = .int .i64 (j : Int) ∧ uv = .int .u64 (if j = 0 then 0 else (u : Int))) (fun _ iv => 1 - (intOf iv).toNat)
      case atStart => exact ⟨0, by omega, rfl, rfl⟩
      case round =>
        obtain ⟨j, hj, rfl, rfl⟩ := hrel
        rcases (show j = 0 ∨ j = 1 by omega) with rfl | rfl
        · go_wp2_with fail
          go_round
          case rel => exact ⟨1, by omega, rfl, by simp⟩
          case measure => simp [intOf]
        · go_wp2_with fail
          go_ret2
          exact ⟨by rw [HV.out.2]; rfl, (by repeat (first | exact Ext.refl _ | assumption | refine Ext.setCell ?_ (by first | (simp; done) | (simp; omega) | omega) _ | refine Ext.alloc ?_ _ | refine Ext.drew ?_ | refine Ext.trans ?_ (by assumption)))⟩
  · have hn : n = 2 := h1.len.symm
    subst hn
    obtain ⟨b, off, rfl, hb, hc⟩ := h1.at 0 (by omega)
    obtain ⟨b', off', he, _, hc1⟩ := h1.at 1 (by omega)
    injection he with he
    injection he with e1 e2 e3
    subst e1; subst e2
    have hc' : w.cell? ⟨b, off, none⟩ = some (.int .u32 (u : Int)) := hc
    have hc1' : w.cell? ⟨b, off + 1, none⟩ = some (.int .u32 (v : Int)) := hc1
    obtain ⟨z, hz0⟩ : ∃ z : Nat, v * 4294967296 + u = z := ⟨_, rfl⟩
    have HV := Lib.hid (show sgn false (mval [u, v]) = (z : Int) ∧ sgn true (mval [u, v]) = -(z : Int) by
      simp only [mval, B32_eq, sgn]; simp; omega)
    have hor := or_zero u hu
    have hor2 := or_words' v u (by omega) hu
    rw [hz0] at hor2
    have hzb : z ≤ 4611686018427387903 := by omega
    have hw0 : IntKind.i64.wrap (u : Int) = (u : Int) := IntWalk.i64_in _ (by omega)
    have hw1 : IntKind.i64.wrap (z : Int) = (z : Int) := IntWalk.i64_in _ (by omega)
    have hw3 : IntKind.i64.wrap (-(z : Int)) = -(z : Int) := IntWalk.i64_in _ (by omega)
    have hw4 : IntKind.u64.wrap ((v : Int) * 4294967296) = (v : Int) * 4294967296 := by unfold IntKind.wrap; simp [IntKind.signed, IntKind.bits]; omega
    have hz : ((z : Int) != 0) = true := by simp; omega
    have hz1 : 0 < z := by omega
    have hu' : u ≤ 4294967295 := by omega
    have hv' : v ≤ 1073741823 := by omega
    have HZ := Lib.hid hz0
    clear h1 h2 h4 hm hc hc1 hu hv hx1 hx2 hz0 e3
    cases g
    · go_enter Try.func45, Try.ntmps45
      go_wp2_with fail
      go_loop [4, 11] (fun uv iv => ∃ j : Nat, j ≤ 2 ∧ iv = .int .i64 (j : Int) ∧ uv = .int .u64 (if j = 0 then 0 else if j = 1 then (u : Int) else (z : Int))) (fun _ iv => 2 - (intOf iv).toNat)
      case atStart => exact ⟨0, by omega, rfl, rfl⟩
      case round =>
        obtain ⟨j, hj, rfl, rfl⟩ := hrel
        rcases (show j = 0 ∨ j = 1 ∨ j = 2 by omega) with rfl | rfl | rfl
        · go_wp2_with fail
          go_round
          case rel => exact ⟨1, by omega, rfl, by simp⟩
          case measure => simp [intOf]
        · go_wp2_with fail
          go_round
          case rel => exact ⟨2, by omega, rfl, by simp⟩
          case measure => simp [intOf]
        · go_wp2_with fail
          go_ret2
          exact ⟨by rw [HV.out.1]; rfl, (by repeat (first | exact Ext.refl _ | assumption | refine Ext.setCell ?_ (by first | (simp; done) | (simp; omega) | omega) _ | refine Ext.alloc ?_ _ | refine Ext.drew ?_ | refine Ext.trans ?_ (by assumption)))⟩
    · go_enter Try.func45, Try.ntmps45
      go_wp2_with fail
      go_loop [4, 11] (fun uv iv => ∃ j : Nat, j ≤ 2 ∧ iv = .int .i64 (j : Int) ∧ uv = .int .u64 (if j = 0 then 0 else if j = 1 then (u : Int) else (z : Int))) (fun _ iv => 2 - (intOf iv).toNat)
      case atStart => exact ⟨0, by omega, rfl, rfl⟩
      case round =>
        obtain ⟨j, hj, rfl, rfl⟩ := hrel
        rcases (show j = 0 ∨ j = 1 ∨ j = 2 by omega) with rfl | rfl | rfl
        · go_wp2_with fail
          go_round
          case rel => exact ⟨1, by omega, rfl, by simp⟩
          case measure => simp [intOf]
        · go_wp2_with fail
          go_round
          case rel => exact ⟨2, by omega, rfl, by simp⟩
          case measure => simp [intOf]
        · go_wp2_with fail
          go_ret2
          exact ⟨by rw [HV.out.2]; rfl, (by repeat (first | exact Ext.refl _ | assumption | refine Ext.setCell ?_ (by first | (simp; done) | (simp; omega) | omega) _ | refine Ext.alloc ?_ _ | refine Ext.drew ?_ | refine Ext.trans ?_ (by assumption)))⟩
end Go.Proofs.Ytgmedfloflplgaa
