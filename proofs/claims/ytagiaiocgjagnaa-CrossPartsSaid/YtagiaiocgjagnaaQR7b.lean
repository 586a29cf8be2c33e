/- R01a R7a R7b: several texts of this proof in one. -/
import Derived.Test.YtagiaiocgjagnaaQWA
import Derived.Test.YtagiaiocgjagnaaQX01
namespace Go.Proofs.Ytagiaiocgjagnaa
set_option linter.unusedSimpArgs false
set_option linter.unusedVariables false
open Go.RowKit

/-- An int. -/
def Int64 (n : Int) : Prop := -9223372036854775808 ≤ n ∧ n ≤ 9223372036854775807
def aroundF (n m : Int) : Int := (if n < 0 then -(n + 1) else n) % m
theorem aroundF_bd (n m : Int) (h : 1 ≤ m) : 0 ≤ aroundF n m ∧ aroundF n m < m :=
 ⟨Int.emod_nonneg _ (by omega), Int.emod_lt_of_pos _ (by omega)⟩

set_option maxHeartbeats 400000 in
theorem around_c (n m : Int) (w : World) (h1 : 1 ≤ m) (h2 : m ≤ 9223372036854775807) (hn : Int64 n) :
  Calls Try.prog 25 #[.int .i64 n, .int .i64 m] w fun e w' => e = .returned (.int .i64 (aroundF n m)) ∧ w = w' := by
 obtain ⟨h3, h4⟩ := hn
 by_cases hneg : n < 0
 ·have hf : aroundF n m = -((n + 1).tmod m) := by
   unfold aroundF; rw [if_pos hneg, ← Int.neg_tmod, Int.tmod_eq_emod_of_nonneg (by omega)]
  have HF := Lib.hid hf; clear hf
  go_enter Try.func25, Try.ntmps25
  go_wp2
  go_ret
  exact ⟨by rw [HF.out]; rfl, rfl⟩
 ·have hf : aroundF n m = n % m := by
   unfold aroundF; rw [if_neg hneg]
  have HF := Lib.hid hf; clear hf
  go_enter Try.func25, Try.ntmps25
  go_wp2
  go_ret
  exact ⟨by rw [HF.out]; rfl, rfl⟩

/-- A slice of ints that came in: nil, or a row of cells. -/
def Ints (w : World) (a : Option Addr) (n : Nat) (zs : List Int) : Prop :=
 zs.length = n ∧ n ≤ 9223372036854775807 ∧ (∀ i, i < n → Int64 (zs.getD i 0)) ∧ (n = 0 ∨ ∃ b off, a = some ⟨b, off, none⟩ ∧ b < w.heap.size ∧ ∀ i, i < n → w.cell? ⟨b, off + i, none⟩ = some (.int .i64 (zs.getD i 0)))
theorem Ints.at {w : World} {a : Option Addr} {n : Nat} {zs : List Int} (h : Ints w a n zs) (i : Nat) (hi : i < n) :
  ∃ b off, a = some ⟨b, off, none⟩ ∧ b < w.heap.size ∧ w.cell? ⟨b, off + i, none⟩ = some (.int .i64 (zs.getD i 0)) := by
 obtain ⟨_, _, _, h0 | ⟨b, off, ha, hb, hc⟩⟩ := h
 ·omega
 ·exact ⟨b, off, ha, hb, hc i hi⟩
end Go.Proofs.Ytagiaiocgjagnaa
namespace Go.Proofs.Ytagiaiocgjagnaa
set_option linter.unusedSimpArgs false
set_option linter.unusedVariables false
open Go.RowKit

def rgcd (x y : Int) : Int := ((Nat.gcd x.natAbs y.natAbs : Nat) : Int)
theorem rgcd_pos {x y : Int} (hy : y ≠ 0) : 1 ≤ rgcd x y := by
 have := Nat.gcd_pos_of_pos_right x.natAbs (n := y.natAbs) (by omega)
 unfold rgcd; omega
theorem rgcd_dvd (x y : Int) : rgcd x y ∣ x ∧ rgcd x y ∣ y := by
 unfold rgcd
 exact ⟨Int.ofNat_dvd_left.2 (Nat.gcd_dvd_left _ _), Int.ofNat_dvd_left.2 (Nat.gcd_dvd_right _ _)⟩
set_option maxHeartbeats 1000000 in
theorem common_c (a b : Int) (w : World) (h1 : -4611686018427387904 ≤ a) (h2 : a ≤ 4611686018427387904) (h3 : -4611686018427387904 ≤ b) (h4 : b ≤ 4611686018427387904) :
  Calls Try.prog 64 #[.int .i64 a, .int .i64 b] w fun e w' => e = .returned (.int .i64 (rgcd a b)) ∧ w = w' := by
 have ea : a < 0 → -a = ((a.natAbs : Nat) : Int) := fun _ => by omega
 have ea' : ¬ a < 0 → a = ((a.natAbs : Nat) : Int) := fun _ => by omega
 have eb : b < 0 → -b = ((b.natAbs : Nat) : Int) := fun _ => by omega
 have eb' : ¬ b < 0 → b = ((b.natAbs : Nat) : Int) := fun _ => by omega
 have HE := Lib.hid (And.intro ea (And.intro ea' (And.intro eb eb')))
 clear ea ea' eb eb'
 by_cases ha : a < 0 <;> by_cases hb : b < 0
 all_goals
  go_enter Try.func64, Try.ntmps64
  go_wp2
  go_loop [0, 1] (fun s t => ∃ x y : Nat, s = .int .i64 (x : Int) ∧ t = .int .i64 (y : Int) ∧ Nat.gcd x y = Nat.gcd a.natAbs b.natAbs ∧ x ≤ 4611686018427387904 ∧ y ≤ 4611686018427387904) (fun _ t => (intOf t).toNat)
  case atStart =>
   refine ⟨a.natAbs, b.natAbs, ?_, ?_, rfl, by omega, by omega⟩
   ·first | rw [← HE.out.1 ha] | rw [← HE.out.2.1 ha]
   ·first | rw [← HE.out.2.2.1 hb] | rw [← HE.out.2.2.2 hb]
  case round =>
   obtain ⟨x, y, rfl, rfl, hg, hx, hy⟩ := hrel
   have HG := Lib.hid hg
   clear hg
   by_cases h0 : 0 < y
   ·have hlt := Nat.mod_lt x h0
    have hc : (x : Int) % (y : Int) = ((x % y : Nat) : Int) := (Int.natCast_emod x y).symm
    have HC := Lib.hid hc
    clear hc
    have hz1 : 0 ≤ (x : Int) % (y : Int) := Int.emod_nonneg _ (by omega)
    have hz2 : (x : Int) % (y : Int) < (y : Int) := Int.emod_lt_of_pos _ (by omega)
    go_wp2
    go_round
    case rel => exact ⟨y, x % y, rfl, by rw [HC.out], by rw [← HG.out, Nat.gcd_comm y, ← Nat.gcd_rec, Nat.gcd_comm], by omega, by omega⟩
    case measure => simp [intOf]; omega
   ·obtain rfl : y = 0 := by omega
    go_wp2
    go_ret
    refine ⟨?_, rfl⟩
    have := HG.out
    rw [Nat.gcd_zero_right] at this
    unfold rgcd
    rw [this]
    rfl

/-- A point of the reference: x / d and y / d. -/
structure RP where
 x : Int
 y : Int
 d : Int
abbrev RP.v (p : RP) : Value := .agg #[.int .i64 p.x, .int .i64 p.y, .int .i64 p.d]
def mkF (x y d : Int) : RP := ⟨x / rgcd (rgcd x y) d, y / rgcd (rgcd x y) d, d / rgcd (rgcd x y) d⟩
def makeF (x y d : Int) : RP := if d < 0 then mkF (-x) (-y) (-d) else mkF x y d
theorem rgcd_le (x y : Int) (m : Int) (h1 : -m ≤ x) (h2 : x ≤ m) (h3 : -m ≤ y) (h4 : y ≤ m) : 0 ≤ rgcd x y ∧ rgcd x y ≤ m := by
 unfold rgcd
 refine ⟨by omega, ?_⟩
 by_cases hx : x = 0
 ·subst hx; simp; omega
 ·have := Nat.gcd_le_left y.natAbs (show 0 < x.natAbs by omega)
  omega
theorem div_bd {x g m : Int} (hg : 1 ≤ g) (h1 : -m ≤ x) (h2 : x ≤ m) (hd : g ∣ x) : -m ≤ x / g ∧ x / g ≤ m ∧ x.tdiv g = x / g := by
 obtain ⟨c, rfl⟩ := hd
 have e1 : g * c / g = c := Int.mul_ediv_cancel_left _ (by omega)
 have e2 : (g * c).tdiv g = c := Int.mul_tdiv_cancel_left _ (by omega)
 rw [e1, e2]
 refine ⟨?_, ?_, rfl⟩
 ·rcases Int.lt_or_le c 0 with h | h
  ·have := Int.mul_le_mul_of_nonpos_right hg (show c ≤ 0 by omega)
   omega
  ·have := Int.mul_nonneg (show 0 ≤ g by omega) h
   omega
 ·rcases Int.lt_or_le c 0 with h | h
  ·have := Int.mul_le_mul_of_nonpos_right hg (show c ≤ 0 by omega)
   omega
  ·have := Int.mul_le_mul_of_nonneg_right hg h
   omega
set_option maxRecDepth 100000 in
set_option maxHeartbeats 2000000 in
theorem make_c (x y d : Int) (w : World) (h1 : -2305843009213693952 ≤ x) (h2 : x ≤ 2305843009213693952) (h3 : -2305843009213693952 ≤ y) (h4 : y ≤ 2305843009213693952) (h5 : -2305843009213693952 ≤ d) (h6 : d ≤ 2305843009213693952) (hd : d ≠ 0) :
  Calls Try.prog 35 #[.int .i64 x, .int .i64 y, .int .i64 d] w fun e w' => e = .returned (makeF x y d).v ∧ Ext w w' := by
 by_cases hn : d < 0
 ·have hv : makeF x y d = mkF (-x) (-y) (-d) := if_pos hn
  rw [hv]
  clear hv
  have b1 := rgcd_le (-x) (-y) 2305843009213693952 (by omega) (by omega) (by omega) (by omega)
  have d1 := rgcd_dvd (-x) (-y)
  have b2 := rgcd_pos (x := rgcd (-x) (-y)) (y := -d) (by omega)
  have d2 := rgcd_dvd (rgcd (-x) (-y)) (-d)
  have e1 := div_bd b2 (m := 2305843009213693952) (by omega) (by omega) (Int.dvd_trans d2.1 d1.1)
  have e2 := div_bd b2 (m := 2305843009213693952) (by omega) (by omega) (Int.dvd_trans d2.1 d1.2)
  have e3 := div_bd b2 (m := 2305843009213693952) (by omega) (by omega) d2.2
  have hv : (mkF (-x) (-y) (-d)).v = .agg #[.int .i64 (-x / rgcd (rgcd (-x) (-y)) (-d)), .int .i64 (-y / rgcd (rgcd (-x) (-y)) (-d)), .int .i64 (-d / rgcd (rgcd (-x) (-y)) (-d))] := rfl
  rw [hv]
  clear hv d1 d2 hd
  generalize hg : rgcd (rgcd (-x) (-y)) (-d) = g at *
  generalize hk : rgcd (-x) (-y) = k at *
  have HG := Lib.hid hg; have HK := Lib.hid hk
  clear hg hk
  obtain ⟨X, hX⟩ : ∃ X, -x / g = X := ⟨_, rfl⟩
  obtain ⟨Y, hY⟩ : ∃ Y, -y / g = Y := ⟨_, rfl⟩
  obtain ⟨D, hD⟩ : ∃ D, -d / g = D := ⟨_, rfl⟩
  rw [hX] at e1; rw [hY] at e2; rw [hD] at e3
  rw [hX, hY, hD]
  clear hX hY hD
  have q1 := e1.2.2
  have q2 := e2.2.2
  have q3 := e3.2.2
  have w1 : IntKind.i64.wrap X = X := IntWalk.i64_in _ (by omega)
  have w2 : IntKind.i64.wrap Y = Y := IntWalk.i64_in _ (by omega)
  have w3 : IntKind.i64.wrap D = D := IntWalk.i64_in _ (by omega)
  have g0 : (g == 0) = false := by rw [beq_eq_false_iff_ne]; omega
  clear e1 e2 e3
  go_enter Try.func35, Try.ntmps35
  go_wp2_with fail
  refine (common_c (-x) (-y) _ (by omega) (by omega) (by omega) (by omega)).mono ?_
  rintro e w2 ⟨rfl, rfl⟩
  rw [HK.out]
  go_wp2_with fail
  refine (common_c k (-d) _ (by omega) (by omega) (by omega) (by omega)).mono ?_
  rintro e w2 ⟨rfl, rfl⟩
  rw [HG.out]
  go_upto_region 6 with (fail)
  go_region
  go_wp2_with fail
  refine bodyPost_ret (v := .agg #[.int .i64 X, .int .i64 Y, .int .i64 D]) (by simp [results, Try.results35, go_sem]) rfl ?_
  exact ⟨rfl, (by repeat (first | exact Ext.refl _ | assumption | refine Ext.setCell ?_ (by first | (simp; done) | (simp; omega) | omega) _ | refine Ext.alloc ?_ _ | refine Ext.drew ?_ | refine Ext.trans ?_ (by assumption)))⟩
 ·have hv : makeF x y d = mkF x y d := if_neg hn
  rw [hv]
  clear hv
  have b1 := rgcd_le x y 2305843009213693952 (by omega) (by omega) (by omega) (by omega)
  have d1 := rgcd_dvd x y
  have b2 := rgcd_pos (x := rgcd x y) (y := d) (by omega)
  have d2 := rgcd_dvd (rgcd x y) d
  have e1 := div_bd b2 (m := 2305843009213693952) (by omega) (by omega) (Int.dvd_trans d2.1 d1.1)
  have e2 := div_bd b2 (m := 2305843009213693952) (by omega) (by omega) (Int.dvd_trans d2.1 d1.2)
  have e3 := div_bd b2 (m := 2305843009213693952) (by omega) (by omega) d2.2
  have hv : (mkF x y d).v = .agg #[.int .i64 (x / rgcd (rgcd x y) d), .int .i64 (y / rgcd (rgcd x y) d), .int .i64 (d / rgcd (rgcd x y) d)] := rfl
  rw [hv]
  clear hv d1 d2 hd
  generalize hg : rgcd (rgcd x y) d = g at *
  generalize hk : rgcd x y = k at *
  have HG := Lib.hid hg; have HK := Lib.hid hk
  clear hg hk
  obtain ⟨X, hX⟩ : ∃ X, x / g = X := ⟨_, rfl⟩
  obtain ⟨Y, hY⟩ : ∃ Y, y / g = Y := ⟨_, rfl⟩
  obtain ⟨D, hD⟩ : ∃ D, d / g = D := ⟨_, rfl⟩
  rw [hX] at e1; rw [hY] at e2; rw [hD] at e3
  rw [hX, hY, hD]
  clear hX hY hD
  have q1 := e1.2.2
  have q2 := e2.2.2
  have q3 := e3.2.2
  have w1 : IntKind.i64.wrap X = X := IntWalk.i64_in _ (by omega)
  have w2 : IntKind.i64.wrap Y = Y := IntWalk.i64_in _ (by omega)
  have w3 : IntKind.i64.wrap D = D := IntWalk.i64_in _ (by omega)
  have g0 : (g == 0) = false := by rw [beq_eq_false_iff_ne]; omega
  clear e1 e2 e3
  go_enter Try.func35, Try.ntmps35
  go_wp2_with fail
  refine (common_c x y _ (by omega) (by omega) (by omega) (by omega)).mono ?_
  rintro e w2 ⟨rfl, rfl⟩
  rw [HK.out]
  go_wp2_with fail
  refine (common_c k d _ (by omega) (by omega) (by omega) (by omega)).mono ?_
  rintro e w2 ⟨rfl, rfl⟩
  rw [HG.out]
  go_upto_region 6 with (fail)
  go_region
  go_wp2_with fail
  refine bodyPost_ret (v := .agg #[.int .i64 X, .int .i64 Y, .int .i64 D]) (by simp [results, Try.results35, go_sem]) rfl ?_
  exact ⟨rfl, (by repeat (first | exact Ext.refl _ | assumption | refine Ext.setCell ?_ (by first | (simp; done) | (simp; omega) | omega) _ | refine Ext.alloc ?_ _ | refine Ext.drew ?_ | refine Ext.trans ?_ (by assumption)))⟩
theorem r5cmp_sub (a b : Int) : cmpI a b = cmpI (a - b) 0 := by
 unfold cmpI
 by_cases h5 : a < b
 ·rw [if_pos h5, if_pos (by omega)]
 ·rw [if_neg h5, if_neg (show ¬ a - b < 0 by omega)]
  by_cases h6 : b < a
  ·rw [if_pos h6, if_pos (by omega)]
  ·rw [if_neg h6, if_neg (by omega)]
theorem sign5_c (n : Int) (w : World) : Calls Try.prog 109 #[.int .i64 n] w fun e w' => e = .returned (.int .i64 (cmpI n 0)) ∧ w = w' := by
 by_cases h1 : n < 0
 ·go_enter Try.func109, Try.ntmps109
  go_wp2
  go_ret
  exact ⟨by rw [cmpI, if_pos h1]; rfl, rfl⟩
 ·by_cases h2 : 0 < n
  ·go_enter Try.func109, Try.ntmps109
   go_wp2
   go_ret
   exact ⟨by rw [cmpI, if_neg (by omega), if_pos h2]; rfl, rfl⟩
  ·go_enter Try.func109, Try.ntmps109
   go_wp2
   go_ret
   exact ⟨by rw [cmpI, if_neg (by omega), if_neg (by omega)]; rfl, rfl⟩
/-- Numbers whose sums do not leave the machine's range. -/
def N62 (x : Int) : Prop := -4611686018427387903 ≤ x ∧ x ≤ 4611686018427387903
theorem N62.w {x : Int} (h : N62 x) : IntKind.i64.wrap x = x := by
 obtain ⟨h1, h2⟩ := h
 exact IntWalk.i64_in _ (by omega)
theorem N62.sub {x y : Int} (h : N62 x) (k : N62 y) : IntKind.i64.wrap (x - y) = x - y := by
 obtain ⟨h1, h2⟩ := h
 obtain ⟨h3, h4⟩ := k
 exact IntWalk.i64_in _ (by omega)
/-- What Compare returns. -/
def cmp5 (a b : RP) : Int := if cmpI (a.x * b.d) (b.x * a.d) = 0 then cmpI (a.y * b.d) (b.y * a.d) else cmpI (a.x * b.d) (b.x * a.d)
set_option maxHeartbeats 2000000 in
theorem compare5_c (a b : RP) (w : World) (h1 : N62 (a.x * b.d)) (h2 : N62 (b.x * a.d)) (h3 : N62 (a.y * b.d)) (h4 : N62 (b.y * a.d)) :
  Calls Try.prog 89 #[a.v, b.v] w fun e w' => e = .returned (.int .i64 (cmp5 a b)) ∧ Ext w w' := by
 have w1 := h1.w
 have w2 := h2.w
 have w3 := h3.w
 have w4 := h4.w
 have w5 := h1.sub h2
 have w6 := h3.sub h4
 clear h1 h2 h3 h4
 have HE := Lib.hid (show cmpI (a.x * b.d - b.x * a.d) 0 = cmpI (a.x * b.d) (b.x * a.d) from (r5cmp_sub _ _).symm)
 have HF := Lib.hid (show cmpI (a.y * b.d - b.y * a.d) 0 = cmpI (a.y * b.d) (b.y * a.d) from (r5cmp_sub _ _).symm)
 by_cases c : cmpI (a.x * b.d) (b.x * a.d) = 0
 ·have HV := Lib.hid (show cmp5 a b = cmpI (a.y * b.d) (b.y * a.d) from if_pos c)
  have c1 : (cmpI (a.x * b.d) (b.x * a.d) != 0) = false := by rw [c]; rfl
  clear c
  go_enter Try.func89, Try.ntmps89
  go_wp2_with fail
  refine (sign5_c _ _).mono ?_
  rintro e w2 ⟨rfl, rfl⟩
  rw [HE.out]
  go_wp2_with fail
  refine (sign5_c _ _).mono ?_
  rintro e w2 ⟨rfl, rfl⟩
  rw [HF.out]
  go_wp2_with fail
  go_ret
  exact ⟨by rw [HV.out]; rfl, (by repeat (first | exact Ext.refl _ | assumption | refine Ext.setCell ?_ (by first | (simp; done) | (simp; omega) | omega) _ | refine Ext.alloc ?_ _ | refine Ext.drew ?_ | refine Ext.trans ?_ (by assumption)))⟩
 ·have HV := Lib.hid (show cmp5 a b = cmpI (a.x * b.d) (b.x * a.d) from if_neg c)
  have c1 : (cmpI (a.x * b.d) (b.x * a.d) != 0) = true := by simpa using c
  clear c
  go_enter Try.func89, Try.ntmps89
  go_wp2_with fail
  refine (sign5_c _ _).mono ?_
  rintro e w2 ⟨rfl, rfl⟩
  rw [HE.out]
  go_wp2_with fail
  go_ret
  exact ⟨by rw [HV.out]; rfl, (by repeat (first | exact Ext.refl _ | assumption | refine Ext.setCell ?_ (by first | (simp; done) | (simp; omega) | omega) _ | refine Ext.alloc ?_ _ | refine Ext.drew ?_ | refine Ext.trans ?_ (by assumption)))⟩
/-- The point in the middle. -/
def midF (a b : RP) : RP := makeF (a.x * b.d + b.x * a.d) (a.y * b.d + b.y * a.d) (2 * a.d * b.d)
def N61 (x : Int) : Prop := -1152921504606846976 ≤ x ∧ x ≤ 1152921504606846976
set_option maxRecDepth 100000 in
theorem of5_c (x y : Int) (w : World) : Calls Try.prog 32 #[.agg #[.int .i64 x, .int .i64 y]] w fun e w' => e = .returned (RP.v ⟨x, y, 1⟩) ∧ Ext w w' := by
 go_enter Try.func32, Try.ntmps32
 go_wp2_with fail
 refine bodyPost_ret (v := RP.v ⟨x, y, 1⟩) (by simp [results, Try.results32, go_sem]) rfl ?_
 exact ⟨rfl, (by repeat (first | exact Ext.refl _ | assumption | refine Ext.setCell ?_ (by first | (simp; done) | (simp; omega) | omega) _ | refine Ext.alloc ?_ _ | refine Ext.drew ?_ | refine Ext.trans ?_ (by assumption)))⟩
end Go.Proofs.Ytagiaiocgjagnaa
namespace Go.Proofs.Ytagiaiocgjagnaa
set_option linter.unusedSimpArgs false
set_option linter.unusedVariables false
open Go.RowKit

/-- A point with small coordinates. -/
def Tiny (p : Pt) : Prop := 0 ≤ p.x ∧ p.x ≤ 32 ∧ 0 ≤ p.y ∧ p.y ≤ 32
def gridF (n : Int) : Pt :=
 if aroundF n 1048576 % 3 = 0 then ⟨8 * (aroundF n 1048576 / 3 % 5), 8 * (aroundF n 1048576 / 15 % 5)⟩ else ⟨aroundF n 1048576 / 3 % 33, aroundF n 1048576 / 99 % 33⟩
theorem gridF_tiny (n : Int) : Tiny (gridF n) := by
 have h := aroundF_bd n 1048576 (by omega)
 unfold gridF
 generalize aroundF n 1048576 = k at *
 split
 ·refine ⟨?_, ?_, ?_, ?_⟩ <;> simp only <;> omega
 ·refine ⟨?_, ?_, ?_, ?_⟩ <;> simp only <;> omega
theorem Tiny.good {p : Pt} (h : Tiny p) : Good p := by
 obtain ⟨h1, h2, h3, h4⟩ := h
 exact ⟨by omega, by omega, by omega, by omega⟩
set_option maxHeartbeats 1000000 in
theorem grid_c (n : Int) (w : World) (hn : Int64 n) : Calls Try.prog 38 #[.int .i64 n] w fun e w' => e = .returned (gridF n).v ∧ Ext w w' := by
 have hb := aroundF_bd n 1048576 (by omega)
 have hf := gridF.eq_1 n
 have H64 := Lib.hid hn; clear hn
 generalize hk : aroundF n 1048576 = k at hb hf
 obtain ⟨hb1, hb2⟩ := hb
 have HK := Lib.hid hk; clear hk
 by_cases c1 : k % 3 = 0
 ·have c1' : (k % 3 == 0) = true := by rw [beq_iff_eq]; exact c1
  rw [if_pos c1] at hf
  have hv : (gridF n).v = .agg #[.int .i64 (8 * (k / 3 % 5)), .int .i64 (8 * (k / 15 % 5))] := by rw [hf]
  have HV := Lib.hid hv; clear hf hv c1
  go_enter Try.func38, Try.ntmps38
  go_wp2_with fail
  refine (around_c _ _ _ (by omega) (by omega) H64.out).mono ?_
  rintro e w2 ⟨rfl, rfl⟩
  rw [HK.out]
  go_wp2_with fail
  refine bodyPost_ret (v := .agg #[.int .i64 (8 * (k / 3 % 5)), .int .i64 (8 * (k / 15 % 5))]) (by simp [results, Try.results38, go_sem]) rfl ?_
  exact ⟨by rw [HV.out], (by repeat (first | exact Ext.refl _ | assumption | refine Ext.setCell ?_ (by first | (simp; done) | (simp; omega) | omega) _ | refine Ext.alloc ?_ _ | refine Ext.drew ?_ | refine Ext.trans ?_ (by assumption)))⟩
 ·have c1' : (k % 3 == 0) = false := by rw [beq_eq_false_iff_ne]; exact c1
  rw [if_neg c1] at hf
  have hv : (gridF n).v = .agg #[.int .i64 (k / 3 % 33), .int .i64 (k / 99 % 33)] := by rw [hf]
  have HV := Lib.hid hv; clear hf hv c1
  go_enter Try.func38, Try.ntmps38
  go_wp2_with fail
  refine (around_c _ _ _ (by omega) (by omega) H64.out).mono ?_
  rintro e w2 ⟨rfl, rfl⟩
  rw [HK.out]
  go_wp2_with fail
  refine bodyPost_ret (v := .agg #[.int .i64 (k / 3 % 33), .int .i64 (k / 99 % 33)]) (by simp [results, Try.results38, go_sem]) rfl ?_
  exact ⟨by rw [HV.out], (by repeat (first | exact Ext.refl _ | assumption | refine Ext.setCell ?_ (by first | (simp; done) | (simp; omega) | omega) _ | refine Ext.alloc ?_ _ | refine Ext.drew ?_ | refine Ext.trans ?_ (by assumption)))⟩
end Go.Proofs.Ytagiaiocgjagnaa
