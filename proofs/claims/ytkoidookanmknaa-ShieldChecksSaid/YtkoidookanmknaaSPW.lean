/- Great powers of 3. -/
import Derived.Test.YtkoidookanmknaaSFN
namespace Go.Proofs.Ytkoidookanmknaa
set_option linter.unusedSimpArgs false
set_option linter.unusedVariables false
open Go.RowKit

/-- 3 ^ (2 ^ i). -/
def pow3 : Nat → Int
 | 0 => 3
 | i + 1 => pow3 i * pow3 i
theorem pow3_ge : ∀ i, 3 ≤ pow3 i
 | 0 => by unfold pow3; omega
 | i + 1 => by
  have h := pow3_ge i
  have := Int.mul_le_mul h h (by omega) (by omega)
  unfold pow3; omega
theorem pow3_lt : ∀ i, pow3 (i + 2) < (2 : Int) ^ (7 * 2 ^ i)
 | 0 => by decide
 | i + 1 => by
  have h := pow3_lt i
  have h0 := pow3_ge (i + 2)
  have e : (2 : Int) ^ (7 * 2 ^ (i + 1)) = 2 ^ (7 * 2 ^ i) * 2 ^ (7 * 2 ^ i) := by
   rw [← Int.pow_add]
   congr 1
   rw [Nat.pow_succ]
   omega
  rw [e, show pow3 (i + 1 + 2) = pow3 (i + 2) * pow3 (i + 2) from rfl]
  exact Int.mul_lt_mul h (Int.le_of_lt h) (by omega) (by omega)
theorem pow3_lo : ∀ i, (2 : Int) ^ (2 ^ i) ≤ pow3 i
 | 0 => by decide
 | i + 1 => by
  have h := pow3_lo i
  have h0 := pow3_ge i
  have e : (2 : Int) ^ (2 ^ (i + 1)) = 2 ^ (2 ^ i) * 2 ^ (2 ^ i) := by
   rw [← Int.pow_add]
   congr 1
   rw [Nat.pow_succ]
   omega
  have hp : (0 : Int) ≤ 2 ^ (2 ^ i) := Int.le_of_lt (Int.pow_pos (by omega))
  rw [e, show pow3 (i + 1) = pow3 i * pow3 i from rfl]
  exact Int.mul_le_mul h h hp (by omega)
theorem ipow (k : Nat) : (2 : Int) ^ k = ((2 ^ k : Nat) : Int) := by rw [Int.natCast_pow]; rfl
theorem pow3_bd (i : Nat) (h : i ≤ 13) : (pow3 i).natAbs < 2 ^ (28 * WMost) := by
 have h0 := pow3_ge i
 match i, h with
 | 0, _ =>
  have h4 : (2 : Nat) ^ 2 ≤ 2 ^ (28 * WMost) := Nat.pow_le_pow_right (by decide) (by rw [WMost_eq]; omega)
  have : pow3 0 = 3 := rfl
  omega
 | 1, _ =>
  have h4 : (2 : Nat) ^ 4 ≤ 2 ^ (28 * WMost) := Nat.pow_le_pow_right (by decide) (by rw [WMost_eq]; omega)
  have : pow3 1 = 9 := rfl
  omega
 | i + 2, hi =>
  have h1 := pow3_lt i
  rw [ipow] at h1
  have h3 : (2 : Nat) ^ i ≤ 2 ^ 11 := Nat.pow_le_pow_right (by decide) (by omega)
  have h4 : (2 : Nat) ^ (7 * 2 ^ i) ≤ 2 ^ (28 * WMost) := Nat.pow_le_pow_right (by decide) (by rw [WMost_eq]; omega)
  omega
theorem big28 {x : Int} (h : x.natAbs ≤ 4 * 2 ^ (28 * WMost)) : Big x := by
 have h1 : (2 : Nat) ^ (28 * WMost + 3) ≤ 2 ^ (32 * WMost) := Nat.pow_le_pow_right (by decide) (by rw [WMost_eq]; omega)
 have h2 : (2 : Nat) ^ (28 * WMost + 3) = 2 ^ (28 * WMost) * 8 := by rw [Nat.pow_add]
 have h3 : 0 < 2 ^ (28 * WMost) := Nat.pow_pos (by decide)
 unfold Big
 rw [WTop_pow]
 omega
theorem pow3_top {i : Nat} (h : i = 13) : ¬ Big (pow3 i * (pow3 i + 1)) := by
 have h0 := pow3_ge i
 have h1 := pow3_lo i
 have e : 2 ^ i = 16 * WMost := by rw [h, WMost_eq]
 rw [e, ipow] at h1
 have h2 : ((2 ^ (16 * WMost) : Nat) : Int) * ((2 ^ (16 * WMost) : Nat) : Int) ≤ pow3 i * (pow3 i + 1) := Int.mul_le_mul h1 (by omega) (Int.natCast_nonneg _) (by omega)
 rw [← Int.natCast_mul, ← Nat.pow_add, show 16 * WMost + 16 * WMost = 32 * WMost from by omega] at h2
 unfold Big
 rw [WTop_pow]
 omega
end Go.Proofs.Ytkoidookanmknaa
