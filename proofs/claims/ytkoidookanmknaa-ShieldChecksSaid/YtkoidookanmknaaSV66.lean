/- ShieldChecks: the plain laws of the great fractions. -/
import Derived.Test.YtkoidookanmknaaSV65
import Derived.Test.YtkoidookanmknaaSFPG
import Derived.Test.YtkoidookanmknaaSPW
namespace Go.Proofs.Ytkoidookanmknaa
set_option linter.unusedSimpArgs false
set_option linter.unusedVariables false
open Go.RowKit

theorem gcd_succ {n : Int} (h : 1 ≤ n) : gcdI n (n + 1) = 1 := by
 have hd := gcdI_dvd n (n + 1)
 have hp := gcdI_pos (x := n) (y := n + 1) (by omega)
 have h1 : gcdI n (n + 1) ∣ (n + 1) - n := Int.dvd_sub hd.2 hd.1
 rw [show n + 1 - n = (1 : Int) from by omega] at h1
 have := Int.le_of_dvd (by omega) h1
 omega
theorem gcd_one (n : Int) : gcdI 1 n = 1 := by unfold gcdI; simp
/-- The great fractions: 1 / n and 1 / (n + 1). -/
structure Gr (n : Int) : Prop where
 pos : 3 ≤ n
 bd : n.natAbs < 2 ^ (28 * WMost)
 top : ¬ Big (n * (n + 1))
theorem pow3_gr {i : Nat} (h : i = 13) : Gr (pow3 i) := ⟨pow3_ge i, pow3_bd i (by omega), pow3_top h⟩
theorem pos28 : 0 < 2 ^ (28 * WMost) := Nat.pow_pos (by decide)
theorem Gr.addLim {n : Int} (g : Gr n) (a b : FV) (w : World) (ha : IsF w a 1 n) (hb : IsF w b 1 (n + 1)) :
  Calls Try.prog 31 #[a.v, b.v] w fun e w' => e = .returned (.tuple #[fvz.v, .int .i64 4]) ∧ Ext w w' := by
 have h0 := g.pos
 have h1 := g.bd
 have hp := pos28
 have hg := gcd_succ (n := n) (by omega)
 refine fAddG_c a b 1 n 1 (n + 1) w ha hb (1 * ((n + 1) / 1)) 0 (1 * (n / 1)) 0 (1 * ((n + 1) / 1) + 1 * (n / 1)) 0 0 4 ?_ ?_ ?_ ?_ (by omega)
 ·rw [hg]; exact lim_big (big28 (by rw [Int.one_mul, Int.ediv_one]; omega))
 ·rw [hg]; exact lim_big (big28 (by rw [Int.one_mul, Int.ediv_one]; omega))
 ·exact lim_big (big28 (by rw [Int.one_mul, Int.one_mul, Int.ediv_one, Int.ediv_one]; omega))
 ·rw [hg, Int.ediv_one]
  unfold lim
  exact if_neg g.top
theorem Gr.addZero {n : Int} (g : Gr n) (z a : FV) (w : World) (hz : IsQ w z 0) (ha : IsF w a 1 n) :
  Calls Try.prog 31 #[z.v, a.v] w fun e w' => ∃ f : FV, e = .returned (.tuple #[f.v, .int .i64 0]) ∧ IsF w' f 1 n ∧ Ext w w' := by
 obtain ⟨N, D, h1, h2⟩ := hz
 have hN : N = 0 := by
  rw [Rat.zero_mul] at h2
  exact Rat.intCast_eq_zero_iff.1 h2.symm
 subst hN
 have hD : D = 1 := by
  have h3 := h1.low
  have h4 := h1.pos
  simp at h3
  omega
 subst hD
 have h0 := g.pos
 have h3 := g.bd
 have hp := pos28
 have hg : gcdI 1 n = 1 := gcd_one n
 have e : 0 * (n / gcdI 1 n) + 1 * (1 / gcdI 1 n) = (1 : Int) := by rw [hg]; simp
 have e2 : 1 / gcdI 1 n * n = n := by rw [hg]; simp
 have := fAdd_c z a 0 1 1 n w h1 ha (big28 (by simp)) (big28 (by rw [hg]; simp; omega)) (big28 (by rw [e]; omega)) (big28 (by rw [e2]; omega))
 rw [e, e2, hg, Int.ediv_one, Int.ediv_one] at this
 exact this
end Go.Proofs.Ytkoidookanmknaa
