/- R01a R7a R7b: several texts of this proof in one. -/
import Derived.Test.YtagiaiocgjagnaaWA
import Derived.Test.YtagiaiocgjagnaaX01
namespace Go.Proofs.Ytagiaiocgjagnaa
set_option linter.unusedSimpArgs false
set_option linter.unusedVariables false
open Go.RowKit

/-- An int. -/
def Int64 (n : Int) : Prop := -9223372036854775808 ≤ n ∧ n ≤ 9223372036854775807
def aroundF (n m : Int) : Int := (if n < 0 then -(n + 1) else n) % m
theorem aroundF_bd (n m : Int) (h : 1 ≤ m) : 0 ≤ aroundF n m ∧ aroundF n m < m :=
  ⟨Int.emod_nonneg _ (by omega), Int.emod_lt_of_pos _ (by omega)⟩

set_option maxHeartbeats 400000 in
theorem around_c (n m : Int) (w : World) (h1 : 1 ≤ m) (h2 : m ≤ 9223372036854775807) (hn : Int64 n) :
    Calls Try.prog 25 #[.int .i64 n, .int .i64 m] w fun e w' => e = .returned (.int .i64 (aroundF n m)) ∧ w = w' := by
  obtain ⟨h3, h4⟩ := hn
  by_cases hneg : n < 0
  · have hf : aroundF n m = -((n + 1).tmod m) := by
      unfold aroundF; rw [if_pos hneg, ← Int.neg_tmod, Int.tmod_eq_emod_of_nonneg (by omega)]
    have HF := Lib.hid hf; clear hf
    go_enter Try.func25, Try.ntmps25
    go_wp2
    go_ret
    exact ⟨by rw [HF.out]; rfl, rfl⟩
  · have hf : aroundF n m = n % m := by
      unfold aroundF; rw [if_neg hneg]
    have HF := Lib.hid hf; clear hf
    go_enter Try.func25, Try.ntmps25
    go_wp2
    go_ret
    exact ⟨by rw [HF.out]; rfl, rfl⟩

/-- A slice of ints that came in: nil, or a row of cells. -/
def Ints (w : World) (a : Option Addr) (n : Nat) (zs : List Int) : Prop :=
  zs.length = n ∧ n ≤ 9223372036854775807 ∧ (∀ i, i < n → Int64 (zs.getD i 0)) ∧ (n = 0 ∨ ∃ b off, a = some ⟨b, off, none⟩ ∧ b < w.heap.size ∧ ∀ i, i < n → w.cell? ⟨b, off + i, none⟩ = some (.int .i64 (zs.getD i 0)))
theorem Ints.at {w : World} {a : Option Addr} {n : Nat} {zs : List Int} (h : Ints w a n zs) (i : Nat) (hi : i < n) :
    ∃ b off, a = some ⟨b, off, none⟩ ∧ b < w.heap.size ∧ w.cell? ⟨b, off + i, none⟩ = some (.int .i64 (zs.getD i 0)) := by
  obtain ⟨_, _, _, h0 | ⟨b, off, ha, hb, hc⟩⟩ := h
  · omega
  · exact ⟨b, off, ha, hb, hc i hi⟩
end Go.Proofs.Ytagiaiocgjagnaa
namespace Go.Proofs.Ytagiaiocgjagnaa
set_option linter.unusedSimpArgs false
set_option linter.unusedVariables false
open Go.RowKit

def rgcd (x y : Int) : Int := ((Nat.gcd x.natAbs y.natAbs : Nat) : Int)
theorem rgcd_pos {x y : Int} (hy : y ≠ 0) : 1 ≤ rgcd x y := by
  have := Nat.gcd_pos_of_pos_right x.natAbs (n := y.natAbs) (by omega)
  unfold rgcd; omega
theorem rgcd_dvd (x y : Int) : rgcd x y ∣ x ∧ rgcd x y ∣ y := by
  unfold rgcd
  exact ⟨Int.ofNat_dvd_left.2 (Nat.gcd_dvd_left _ _), Int.ofNat_dvd_left.2 (Nat.gcd_dvd_right _ _)⟩
/-- A point of the reference: x / d and y / d. -/
structure RP where
  x : Int
  y : Int
  d : Int
abbrev RP.v (p : RP) : Value := .agg #[.int .i64 p.x, .int .i64 p.y, .int .i64 p.d]
def mkF (x y d : Int) : RP := ⟨x / rgcd (rgcd x y) d, y / rgcd (rgcd x y) d, d / rgcd (rgcd x y) d⟩
def makeF (x y d : Int) : RP := if d < 0 then mkF (-x) (-y) (-d) else mkF x y d
theorem div_bd {x g m : Int} (hg : 1 ≤ g) (h1 : -m ≤ x) (h2 : x ≤ m) (hd : g ∣ x) : -m ≤ x / g ∧ x / g ≤ m ∧ x.tdiv g = x / g := by
  obtain ⟨c, rfl⟩ := hd
  have e1 : g * c / g = c := Int.mul_ediv_cancel_left _ (by omega)
  have e2 : (g * c).tdiv g = c := Int.mul_tdiv_cancel_left _ (by omega)
  rw [e1, e2]
  refine ⟨?_, ?_, rfl⟩
  · rcases Int.lt_or_le c 0 with h | h
    · have := Int.mul_le_mul_of_nonpos_right hg (show c ≤ 0 by omega)
      omega
    · have := Int.mul_nonneg (show 0 ≤ g by omega) h
      omega
  · rcases Int.lt_or_le c 0 with h | h
    · have := Int.mul_le_mul_of_nonpos_right hg (show c ≤ 0 by omega)
      omega
    · have := Int.mul_le_mul_of_nonneg_right hg h
      omega
/-- Numbers whose sums do not leave the machine's range. -/
def N62 (x : Int) : Prop := -4611686018427387903 ≤ x ∧ x ≤ 4611686018427387903
/-- What Compare returns. -/
def cmp5 (a b : RP) : Int := if cmpI (a.x * b.d) (b.x * a.d) = 0 then cmpI (a.y * b.d) (b.y * a.d) else cmpI (a.x * b.d) (b.x * a.d)
/-- The point in the middle. -/
def midF (a b : RP) : RP := makeF (a.x * b.d + b.x * a.d) (a.y * b.d + b.y * a.d) (2 * a.d * b.d)
def N61 (x : Int) : Prop := -1152921504606846976 ≤ x ∧ x ≤ 1152921504606846976
end Go.Proofs.Ytagiaiocgjagnaa
namespace Go.Proofs.Ytagiaiocgjagnaa
set_option linter.unusedSimpArgs false
set_option linter.unusedVariables false
open Go.RowKit

/-- A point with small coordinates. -/
def Tiny (p : Pt) : Prop := 0 ≤ p.x ∧ p.x ≤ 32 ∧ 0 ≤ p.y ∧ p.y ≤ 32
def gridF (n : Int) : Pt :=
  if aroundF n 1048576 % 3 = 0 then ⟨8 * (aroundF n 1048576 / 3 % 5), 8 * (aroundF n 1048576 / 15 % 5)⟩ else ⟨aroundF n 1048576 / 3 % 33, aroundF n 1048576 / 99 % 33⟩
theorem gridF_tiny (n : Int) : Tiny (gridF n) := by
  have h := aroundF_bd n 1048576 (by omega)
  unfold gridF
  generalize aroundF n 1048576 = k at *
  split
  · refine ⟨?_, ?_, ?_, ?_⟩ <;> simp only <;> omega
  · refine ⟨?_, ?_, ?_, ?_⟩ <;> simp only <;> omega
set_option maxHeartbeats 1000000 in
theorem grid_c (n : Int) (w : World) (hn : Int64 n) : Calls Try.prog 38 #[.int .i64 n] w fun e w' => e = .returned (gridF n).v ∧ Ext w w' := by
  have hb := aroundF_bd n 1048576 (by omega)
  have hf := gridF.eq_1 n
  have H64 := Lib.hid hn; clear hn
  generalize hk : aroundF n 1048576 = k at hb hf
  obtain ⟨hb1, hb2⟩ := hb
  have HK := Lib.hid hk; clear hk
  by_cases c1 : k % 3 = 0
  · have c1' : (k % 3 == 0) = true := by rw [beq_iff_eq]; exact c1
    rw [if_pos c1] at hf
    have hv : (gridF n).v = .agg #[.int .i64 (8 * (k / 3 % 5)), .int .i64 (8 * (k / 15 % 5))] := by rw [hf]
    have HV := Lib.hid hv; clear hf hv c1
    go_enter Try.func38, Try.ntmps38
    go_wp2_with fail
    refine (around_c _ _ _ (by omega) (by omega) H64.out).mono ?_
    rintro e w2 ⟨rfl, rfl⟩
    rw [HK.out]
    go_wp2_with fail
    refine bodyPost_ret (v := .agg #[.int .i64 (8 * (k / 3 % 5)), .int .i64 (8 * (k / 15 % 5))]) (by simp [results, Try.results38, go_sem]) rfl ?_
    exact ⟨by rw [HV.out], (by repeat (first | exact Ext.refl _ | assumption | refine Ext.setCell ?_ (by first | (simp; done) | (simp; omega) | omega) _ | refine Ext.alloc ?_ _ | refine Ext.drew ?_ | refine Ext.trans ?_ (by assumption)))⟩
  · have c1' : (k % 3 == 0) = false := by rw [beq_eq_false_iff_ne]; exact c1
    rw [if_neg c1] at hf
    have hv : (gridF n).v = .agg #[.int .i64 (k / 3 % 33), .int .i64 (k / 99 % 33)] := by rw [hf]
    have HV := Lib.hid hv; clear hf hv c1
    go_enter Try.func38, Try.ntmps38
    go_wp2_with fail
    refine (around_c _ _ _ (by omega) (by omega) H64.out).mono ?_
    rintro e w2 ⟨rfl, rfl⟩
    rw [HK.out]
    go_wp2_with fail
    refine bodyPost_ret (v := .agg #[.int .i64 (k / 3 % 33), .int .i64 (k / 99 % 33)]) (by simp [results, Try.results38, go_sem]) rfl ?_
    exact ⟨by rw [HV.out], (by repeat (first | exact Ext.refl _ | assumption | refine Ext.setCell ?_ (by first | (simp; done) | (simp; omega) | omega) _ | refine Ext.alloc ?_ _ | refine Ext.drew ?_ | refine Ext.trans ?_ (by assumption)))⟩
end Go.Proofs.Ytagiaiocgjagnaa
