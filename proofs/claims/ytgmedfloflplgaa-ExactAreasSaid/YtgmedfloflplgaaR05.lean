/- meresmanref05: common, Make, sign, Of, Compare, Side, Mid. -/
import Derived.Test.YtgmedfloflplgaaR01
namespace Go.Proofs.Ytgmedfloflplgaa
set_option linter.unusedSimpArgs false
set_option linter.unusedVariables false
open Go.RowKit

def rgcd (x y : Int) : Int := ((Nat.gcd x.natAbs y.natAbs : Nat) : Int)
theorem rgcd_pos {x y : Int} (hy : y ≠ 0) : 1 ≤ rgcd x y := by
  have := Nat.gcd_pos_of_pos_right x.natAbs (n := y.natAbs) (by omega)
  unfold rgcd; omega
theorem rgcd_dvd (x y : Int) : rgcd x y ∣ x ∧ rgcd x y ∣ y := by
  unfold rgcd
  exact ⟨Int.ofNat_dvd_left.2 (Nat.gcd_dvd_left _ _), Int.ofNat_dvd_left.2 (Nat.gcd_dvd_right _ _)⟩
set_option maxHeartbeats 1000000 in
theorem common_c (a b : Int) (w : World) (h1 : -4611686018427387904 ≤ a) (h2 : a ≤ 4611686018427387904) (h3 : -4611686018427387904 ≤ b) (h4 : b ≤ 4611686018427387904) :
    Calls Try.prog 99 #[.int .i64 a, .int .i64 b] w fun e w' => e = .returned (.int .i64 (rgcd a b)) ∧ w = w' := by
  have ea : a < 0 → -a = ((a.natAbs : Nat) : Int) := fun _ => by omega
  have ea' : ¬ a < 0 → a = ((a.natAbs : Nat) : Int) := fun _ => by omega
  have eb : b < 0 → -b = ((b.natAbs : Nat) : Int) := fun _ => by omega
  have eb' : ¬ b < 0 → b = ((b.natAbs : Nat) : Int) := fun _ => by omega
  have HE := Lib.hid (And.intro ea (And.intro ea' (And.intro eb eb')))
  clear ea ea' eb eb'
  by_cases ha : a < 0 <;> by_cases hb : b < 0
  all_goals
    go_enter Try.func99, Try.ntmps99
    go_wp2
    go_loop [0, 1] (fun s t => ∃ x y : Nat, s = .int .i64 (x : Int) ∧ t = .int .i64 (y : Int) ∧ Nat.gcd x y = Nat.gcd a.natAbs b.natAbs ∧ x ≤ 4611686018427387904 ∧ y ≤ 4611686018427387904) (fun _ t => (intOf t).toNat)
    case atStart =>
      refine ⟨a.natAbs, b.natAbs, ?_, ?_, rfl, by omega, by omega⟩
      · first | rw [← HE.out.1 ha] | rw [← HE.out.2.1 ha]
      · first | rw [← HE.out.2.2.1 hb] | rw [← HE.out.2.2.2 hb]
    case round =>
      obtain ⟨x, y, rfl, rfl, hg, hx, hy⟩ := hrel
      have HG := Lib.hid hg
      clear hg
      by_cases h0 : 0 < y
      · have hlt := Nat.mod_lt x h0
        have hc : (x : Int) % (y : Int) = ((x % y : Nat) : Int) := (Int.natCast_emod x y).symm
        have HC := Lib.hid hc
        clear hc
        have hz1 : 0 ≤ (x : Int) % (y : Int) := Int.emod_nonneg _ (by omega)
        have hz2 : (x : Int) % (y : Int) < (y : Int) := Int.emod_lt_of_pos _ (by omega)
        go_wp2
        go_round
        case rel => exact ⟨y, x % y, rfl, by rw [HC.out], by rw [← HG.out, Nat.gcd_comm y, ← Nat.gcd_rec, Nat.gcd_comm], by omega, by omega⟩
        case measure => simp [intOf]; omega
      · obtain rfl : y = 0 := by omega
        go_wp2
        go_ret
        refine ⟨?_, rfl⟩
        have := HG.out
        rw [Nat.gcd_zero_right] at this
        unfold rgcd
        rw [this]
        rfl

/-- A point of the reference: x / d and y / d. -/
structure RP where
  x : Int
  y : Int
  d : Int
abbrev RP.v (p : RP) : Value := .agg #[.int .i64 p.x, .int .i64 p.y, .int .i64 p.d]
def mkF (x y d : Int) : RP := ⟨x / rgcd (rgcd x y) d, y / rgcd (rgcd x y) d, d / rgcd (rgcd x y) d⟩
def makeF (x y d : Int) : RP := if d < 0 then mkF (-x) (-y) (-d) else mkF x y d
theorem rgcd_le (x y : Int) (m : Int) (h1 : -m ≤ x) (h2 : x ≤ m) (h3 : -m ≤ y) (h4 : y ≤ m) : 0 ≤ rgcd x y ∧ rgcd x y ≤ m := by
  unfold rgcd
  refine ⟨by omega, ?_⟩
  by_cases hx : x = 0
  · subst hx; simp; omega
  · have := Nat.gcd_le_left y.natAbs (show 0 < x.natAbs by omega)
    omega
theorem div_bd {x g m : Int} (hg : 1 ≤ g) (h1 : -m ≤ x) (h2 : x ≤ m) (hd : g ∣ x) : -m ≤ x / g ∧ x / g ≤ m ∧ x.tdiv g = x / g := by
  obtain ⟨c, rfl⟩ := hd
  have e1 : g * c / g = c := Int.mul_ediv_cancel_left _ (by omega)
  have e2 : (g * c).tdiv g = c := Int.mul_tdiv_cancel_left _ (by omega)
  rw [e1, e2]
  refine ⟨?_, ?_, rfl⟩
  · rcases Int.lt_or_le c 0 with h | h
    · have := Int.mul_le_mul_of_nonpos_right hg (show c ≤ 0 by omega)
      omega
    · have := Int.mul_nonneg (show 0 ≤ g by omega) h
      omega
  · rcases Int.lt_or_le c 0 with h | h
    · have := Int.mul_le_mul_of_nonpos_right hg (show c ≤ 0 by omega)
      omega
    · have := Int.mul_le_mul_of_nonneg_right hg h
      omega
set_option maxRecDepth 100000 in
set_option maxHeartbeats 2000000 in
theorem make_c (x y d : Int) (w : World) (h1 : -2305843009213693952 ≤ x) (h2 : x ≤ 2305843009213693952) (h3 : -2305843009213693952 ≤ y) (h4 : y ≤ 2305843009213693952) (h5 : -2305843009213693952 ≤ d) (h6 : d ≤ 2305843009213693952) (hd : d ≠ 0) :
    Calls Try.prog 78 #[.int .i64 x, .int .i64 y, .int .i64 d] w fun e w' => e = .returned (makeF x y d).v ∧ Ext w w' := by
  by_cases hn : d < 0
  · have hv : makeF x y d = mkF (-x) (-y) (-d) := if_pos hn
    rw [hv]
    clear hv
    have b1 := rgcd_le (-x) (-y) 2305843009213693952 (by omega) (by omega) (by omega) (by omega)
    have d1 := rgcd_dvd (-x) (-y)
    have b2 := rgcd_pos (x := rgcd (-x) (-y)) (y := -d) (by omega)
    have d2 := rgcd_dvd (rgcd (-x) (-y)) (-d)
    have e1 := div_bd b2 (m := 2305843009213693952) (by omega) (by omega) (Int.dvd_trans d2.1 d1.1)
    have e2 := div_bd b2 (m := 2305843009213693952) (by omega) (by omega) (Int.dvd_trans d2.1 d1.2)
    have e3 := div_bd b2 (m := 2305843009213693952) (by omega) (by omega) d2.2
    have hv : (mkF (-x) (-y) (-d)).v = .agg #[.int .i64 (-x / rgcd (rgcd (-x) (-y)) (-d)), .int .i64 (-y / rgcd (rgcd (-x) (-y)) (-d)), .int .i64 (-d / rgcd (rgcd (-x) (-y)) (-d))] := rfl
    rw [hv]
    clear hv d1 d2 hd
    generalize hg : rgcd (rgcd (-x) (-y)) (-d) = g at *
    generalize hk : rgcd (-x) (-y) = k at *
    have HG := Lib.hid hg; have HK := Lib.hid hk
    clear hg hk
    obtain ⟨X, hX⟩ : ∃ X, -x / g = X := ⟨_, rfl⟩
    obtain ⟨Y, hY⟩ : ∃ Y, -y / g = Y := ⟨_, rfl⟩
    obtain ⟨D, hD⟩ : ∃ D, -d / g = D := ⟨_, rfl⟩
    rw [hX] at e1; rw [hY] at e2; rw [hD] at e3
    rw [hX, hY, hD]
    clear hX hY hD
    have q1 := e1.2.2
    have q2 := e2.2.2
    have q3 := e3.2.2
    have w1 : IntKind.i64.wrap X = X := IntWalk.i64_in _ (by omega)
    have w2 : IntKind.i64.wrap Y = Y := IntWalk.i64_in _ (by omega)
    have w3 : IntKind.i64.wrap D = D := IntWalk.i64_in _ (by omega)
    have g0 : (g == 0) = false := by rw [beq_eq_false_iff_ne]; omega
    clear e1 e2 e3
    go_enter Try.func78, Try.ntmps78
    go_wp2_with fail
    refine (common_c (-x) (-y) _ (by omega) (by omega) (by omega) (by omega)).mono ?_
    rintro e w2 ⟨rfl, rfl⟩
    rw [HK.out]
    go_wp2_with fail
    refine (common_c k (-d) _ (by omega) (by omega) (by omega) (by omega)).mono ?_
    rintro e w2 ⟨rfl, rfl⟩
    rw [HG.out]
    go_upto_region 6 with (fail)
    go_region
    go_wp2_with fail
    refine bodyPost_ret (v := .agg #[.int .i64 X, .int .i64 Y, .int .i64 D]) (by simp [results, Try.results78, go_sem]) rfl ?_
    exact ⟨rfl, (by repeat (first | exact Ext.refl _ | assumption | refine Ext.setCell ?_ (by first | (simp; done) | (simp; omega) | omega) _ | refine Ext.alloc ?_ _ | refine Ext.drew ?_ | refine Ext.trans ?_ (by assumption)))⟩
  · have hv : makeF x y d = mkF x y d := if_neg hn
    rw [hv]
    clear hv
    have b1 := rgcd_le x y 2305843009213693952 (by omega) (by omega) (by omega) (by omega)
    have d1 := rgcd_dvd x y
    have b2 := rgcd_pos (x := rgcd x y) (y := d) (by omega)
    have d2 := rgcd_dvd (rgcd x y) d
    have e1 := div_bd b2 (m := 2305843009213693952) (by omega) (by omega) (Int.dvd_trans d2.1 d1.1)
    have e2 := div_bd b2 (m := 2305843009213693952) (by omega) (by omega) (Int.dvd_trans d2.1 d1.2)
    have e3 := div_bd b2 (m := 2305843009213693952) (by omega) (by omega) d2.2
    have hv : (mkF x y d).v = .agg #[.int .i64 (x / rgcd (rgcd x y) d), .int .i64 (y / rgcd (rgcd x y) d), .int .i64 (d / rgcd (rgcd x y) d)] := rfl
    rw [hv]
    clear hv d1 d2 hd
    generalize hg : rgcd (rgcd x y) d = g at *
    generalize hk : rgcd x y = k at *
    have HG := Lib.hid hg; have HK := Lib.hid hk
    clear hg hk
    obtain ⟨X, hX⟩ : ∃ X, x / g = X := ⟨_, rfl⟩
    obtain ⟨Y, hY⟩ : ∃ Y, y / g = Y := ⟨_, rfl⟩
    obtain ⟨D, hD⟩ : ∃ D, d / g = D := ⟨_, rfl⟩
    rw [hX] at e1; rw [hY] at e2; rw [hD] at e3
    rw [hX, hY, hD]
    clear hX hY hD
    have q1 := e1.2.2
    have q2 := e2.2.2
    have q3 := e3.2.2
    have w1 : IntKind.i64.wrap X = X := IntWalk.i64_in _ (by omega)
    have w2 : IntKind.i64.wrap Y = Y := IntWalk.i64_in _ (by omega)
    have w3 : IntKind.i64.wrap D = D := IntWalk.i64_in _ (by omega)
    have g0 : (g == 0) = false := by rw [beq_eq_false_iff_ne]; omega
    clear e1 e2 e3
    go_enter Try.func78, Try.ntmps78
    go_wp2_with fail
    refine (common_c x y _ (by omega) (by omega) (by omega) (by omega)).mono ?_
    rintro e w2 ⟨rfl, rfl⟩
    rw [HK.out]
    go_wp2_with fail
    refine (common_c k d _ (by omega) (by omega) (by omega) (by omega)).mono ?_
    rintro e w2 ⟨rfl, rfl⟩
    rw [HG.out]
    go_upto_region 6 with (fail)
    go_region
    go_wp2_with fail
    refine bodyPost_ret (v := .agg #[.int .i64 X, .int .i64 Y, .int .i64 D]) (by simp [results, Try.results78, go_sem]) rfl ?_
    exact ⟨rfl, (by repeat (first | exact Ext.refl _ | assumption | refine Ext.setCell ?_ (by first | (simp; done) | (simp; omega) | omega) _ | refine Ext.alloc ?_ _ | refine Ext.drew ?_ | refine Ext.trans ?_ (by assumption)))⟩
theorem r5cmp_sub (a b : Int) : cmpI a b = cmpI (a - b) 0 := by
  unfold cmpI
  by_cases h5 : a < b
  · rw [if_pos h5, if_pos (by omega)]
  · rw [if_neg h5, if_neg (show ¬ a - b < 0 by omega)]
    by_cases h6 : b < a
    · rw [if_pos h6, if_pos (by omega)]
    · rw [if_neg h6, if_neg (by omega)]
theorem sign5_c (n : Int) (w : World) : Calls Try.prog 88 #[.int .i64 n] w fun e w' => e = .returned (.int .i64 (cmpI n 0)) ∧ w = w' := by
  by_cases h1 : n < 0
  · go_enter Try.func88, Try.ntmps88
    go_wp2
    go_ret
    exact ⟨by rw [cmpI, if_pos h1]; rfl, rfl⟩
  · by_cases h2 : 0 < n
    · go_enter Try.func88, Try.ntmps88
      go_wp2
      go_ret
      exact ⟨by rw [cmpI, if_neg (by omega), if_pos h2]; rfl, rfl⟩
    · go_enter Try.func88, Try.ntmps88
      go_wp2
      go_ret
      exact ⟨by rw [cmpI, if_neg (by omega), if_neg (by omega)]; rfl, rfl⟩
/-- Numbers whose sums do not leave the machine's range. -/
def N62 (x : Int) : Prop := -4611686018427387903 ≤ x ∧ x ≤ 4611686018427387903
theorem N62.w {x : Int} (h : N62 x) : IntKind.i64.wrap x = x := by
  obtain ⟨h1, h2⟩ := h
  exact IntWalk.i64_in _ (by omega)
theorem N62.sub {x y : Int} (h : N62 x) (k : N62 y) : IntKind.i64.wrap (x - y) = x - y := by
  obtain ⟨h1, h2⟩ := h
  obtain ⟨h3, h4⟩ := k
  exact IntWalk.i64_in _ (by omega)
theorem N62.add {x y : Int} (h : N62 x) (k : N62 y) : IntKind.i64.wrap (x + y) = x + y := by
  obtain ⟨h1, h2⟩ := h
  obtain ⟨h3, h4⟩ := k
  exact IntWalk.i64_in _ (by omega)
/-- What Compare returns. -/
def cmp5 (a b : RP) : Int := if cmpI (a.x * b.d) (b.x * a.d) = 0 then cmpI (a.y * b.d) (b.y * a.d) else cmpI (a.x * b.d) (b.x * a.d)
set_option maxHeartbeats 2000000 in
theorem compare5_c (a b : RP) (w : World) (h1 : N62 (a.x * b.d)) (h2 : N62 (b.x * a.d)) (h3 : N62 (a.y * b.d)) (h4 : N62 (b.y * a.d)) :
    Calls Try.prog 80 #[a.v, b.v] w fun e w' => e = .returned (.int .i64 (cmp5 a b)) ∧ Ext w w' := by
  have w1 := h1.w
  have w2 := h2.w
  have w3 := h3.w
  have w4 := h4.w
  have w5 := h1.sub h2
  have w6 := h3.sub h4
  clear h1 h2 h3 h4
  have HE := Lib.hid (show cmpI (a.x * b.d - b.x * a.d) 0 = cmpI (a.x * b.d) (b.x * a.d) from (r5cmp_sub _ _).symm)
  have HF := Lib.hid (show cmpI (a.y * b.d - b.y * a.d) 0 = cmpI (a.y * b.d) (b.y * a.d) from (r5cmp_sub _ _).symm)
  by_cases c : cmpI (a.x * b.d) (b.x * a.d) = 0
  · have HV := Lib.hid (show cmp5 a b = cmpI (a.y * b.d) (b.y * a.d) from if_pos c)
    have c1 : (cmpI (a.x * b.d) (b.x * a.d) != 0) = false := by rw [c]; rfl
    clear c
    go_enter Try.func80, Try.ntmps80
    go_wp2_with fail
    refine (sign5_c _ _).mono ?_
    rintro e w2 ⟨rfl, rfl⟩
    rw [HE.out]
    go_wp2_with fail
    refine (sign5_c _ _).mono ?_
    rintro e w2 ⟨rfl, rfl⟩
    rw [HF.out]
    go_wp2_with fail
    go_ret
    exact ⟨by rw [HV.out]; rfl, (by repeat (first | exact Ext.refl _ | assumption | refine Ext.setCell ?_ (by first | (simp; done) | (simp; omega) | omega) _ | refine Ext.alloc ?_ _ | refine Ext.drew ?_ | refine Ext.trans ?_ (by assumption)))⟩
  · have HV := Lib.hid (show cmp5 a b = cmpI (a.x * b.d) (b.x * a.d) from if_neg c)
    have c1 : (cmpI (a.x * b.d) (b.x * a.d) != 0) = true := by simpa using c
    clear c
    go_enter Try.func80, Try.ntmps80
    go_wp2_with fail
    refine (sign5_c _ _).mono ?_
    rintro e w2 ⟨rfl, rfl⟩
    rw [HE.out]
    go_wp2_with fail
    go_ret
    exact ⟨by rw [HV.out]; rfl, (by repeat (first | exact Ext.refl _ | assumption | refine Ext.setCell ?_ (by first | (simp; done) | (simp; omega) | omega) _ | refine Ext.alloc ?_ _ | refine Ext.drew ?_ | refine Ext.trans ?_ (by assumption)))⟩
/-- Twice the area of three points, times the denominators. -/
def areaRP (a b c : RP) : Int := (b.x * a.d - a.x * b.d) * (c.y * a.d - a.y * c.d) - (b.y * a.d - a.y * b.d) * (c.x * a.d - a.x * c.d)
set_option maxRecDepth 100000 in
set_option maxHeartbeats 4000000 in
theorem side5_c (a b c : RP) (w : World) (h1 : N62 (b.x * a.d)) (h2 : N62 (a.x * b.d)) (h3 : N62 (b.y * a.d)) (h4 : N62 (a.y * b.d)) (h5 : N62 (c.x * a.d)) (h6 : N62 (a.x * c.d)) (h7 : N62 (c.y * a.d)) (h8 : N62 (a.y * c.d))
    (h9 : N62 ((b.x * a.d - a.x * b.d) * (c.y * a.d - a.y * c.d))) (h10 : N62 ((b.y * a.d - a.y * b.d) * (c.x * a.d - a.x * c.d))) :
    Calls Try.prog 61 #[a.v, b.v, c.v] w fun e w' => e = .returned (.int .i64 (cmpI (areaRP a b c) 0)) ∧ Ext w w' := by
  have w1 := h1.w
  have w2 := h2.w
  have w3 := h3.w
  have w4 := h4.w
  have w5 := h5.w
  have w6 := h6.w
  have w7 := h7.w
  have w8 := h8.w
  have s1 := h1.sub h2
  have s2 := h3.sub h4
  have s3 := h5.sub h6
  have s4 := h7.sub h8
  have s9 := h9.w
  have s10 := h10.w
  have s11 := h9.sub h10
  clear h1 h2 h3 h4 h5 h6 h7 h8 h9 h10
  go_enter Try.func61, Try.ntmps61
  go_wp2_with fail
  refine (sign5_c _ _).mono ?_
  rintro e w2 ⟨rfl, rfl⟩
  go_wp2_with fail
  go_ret
  exact ⟨rfl, (by repeat (first | exact Ext.refl _ | assumption | refine Ext.setCell ?_ (by first | (simp; done) | (simp; omega) | omega) _ | refine Ext.alloc ?_ _ | refine Ext.drew ?_ | refine Ext.trans ?_ (by assumption)))⟩
theorem put3_cells {w : World} {b : Nat} {x y z : Value} {t : TypeId} (h : Blk w b #[x, y, z] t) (u v s : Value) :
    (((w.setCell ⟨b, 0, none⟩ u).setCell ⟨b, 1, none⟩ v).setCell ⟨b, 2, none⟩ s).cell? ⟨b, 0, none⟩ = some u ∧ (((w.setCell ⟨b, 0, none⟩ u).setCell ⟨b, 1, none⟩ v).setCell ⟨b, 2, none⟩ s).cell? ⟨b, 1, none⟩ = some v ∧ (((w.setCell ⟨b, 0, none⟩ u).setCell ⟨b, 1, none⟩ v).setCell ⟨b, 2, none⟩ s).cell? ⟨b, 2, none⟩ = some s := by
  have := ((h.set 0 u).set 1 v).set 2 s
  exact ⟨this.cell 0, this.cell 1, this.cell 2⟩
/-- The point in the middle. -/
def midF (a b : RP) : RP := makeF (a.x * b.d + b.x * a.d) (a.y * b.d + b.y * a.d) (2 * a.d * b.d)
def N61 (x : Int) : Prop := -1152921504606846976 ≤ x ∧ x ≤ 1152921504606846976
theorem N61.n {x : Int} (h : N61 x) : N62 x := by obtain ⟨h1, h2⟩ := h; exact ⟨by omega, by omega⟩
set_option maxRecDepth 100000 in
set_option maxHeartbeats 4000000 in
theorem mid5_c (a b : RP) (w : World) (h1 : N61 (a.x * b.d)) (h2 : N61 (b.x * a.d)) (h3 : N61 (a.y * b.d)) (h4 : N61 (b.y * a.d)) (h5 : N61 (2 * a.d * b.d)) (h6 : 1 ≤ a.d) (h7 : 1 ≤ b.d) (h8 : a.d ≤ 1152921504606846976) :
    Calls Try.prog 40 #[a.v, b.v] w fun e w' => e = .returned (midF a b).v ∧ Ext w w' := by
  have w1 := h1.n.w
  have w2 := h2.n.w
  have w3 := h3.n.w
  have w4 := h4.n.w
  have w5 := h5.n.w
  have s1 := h1.n.add h2.n
  have s2 := h3.n.add h4.n
  have w6 : IntKind.i64.wrap (2 * a.d) = 2 * a.d := IntWalk.i64_in _ (by omega)
  have hd : 2 * a.d * b.d ≠ 0 := by
    have : 1 ≤ a.d * b.d := by have := Int.mul_le_mul h6 h7 (by omega) (by omega); simpa using this
    rw [Int.mul_assoc]; omega
  have HH := Lib.hid (And.intro h1 (And.intro h2 (And.intro h3 (And.intro h4 (And.intro h5 hd)))))
  clear h1 h2 h3 h4 h5 hd
  unfold N61 at HH
  go_enter Try.func40, Try.ntmps40
  go_wp2_with fail
  refine (make_c (a.x * b.d + b.x * a.d) (a.y * b.d + b.y * a.d) (2 * a.d * b.d) _ (by have := HH.out; omega) (by have := HH.out; omega) (by have := HH.out; omega) (by have := HH.out; omega) (by have := HH.out; omega) (by have := HH.out; omega) HH.out.2.2.2.2.2).mono ?_
  rintro e w2 ⟨rfl, hx⟩
  have B2 : Blk w2 (w.heap.size + 1 + 1) #[.int .i64 0, .int .i64 0, .int .i64 0] 68 := (Blk.at _ 68 (by simp)).ext hx
  obtain ⟨m, hm⟩ : ∃ m, midF a b = m := ⟨_, rfl⟩
  have HM := Lib.hid hm
  rw [show makeF (a.x * b.d + b.x * a.d) (a.y * b.d + b.y * a.d) (2 * a.d * b.d) = m from hm]
  clear hm
  have HX := Lib.hid (show Ext w w2 from Ext.trans (by repeat (first | exact Ext.refl _ | assumption | refine Ext.setCell ?_ (by first | (simp; done) | (simp; omega) | omega) _ | refine Ext.alloc ?_ _ | refine Ext.drew ?_ | refine Ext.trans ?_ (by assumption))) hx)
  clear hx
  have o0 := B2.cell 0
  have o1 := B2.cell 1
  have o2 := B2.cell 2
  have of := B2.free
  obtain ⟨p0, p1, p2⟩ := put3_cells B2 (.int .i64 m.x) (.int .i64 m.y) (.int .i64 m.d)
  simp only [List.getElem?_toArray, List.getElem?_cons_zero, List.getElem?_cons_succ] at o0 o1 o2
  go_wp2_with fail
  refine bodyPost_ret (v := m.v) (by simp [results, Try.results40, go_sem, p0, p1, p2]) rfl ?_
  exact ⟨by rw [HM.out], ((HX.out.setCell (by simp; omega) _).setCell (by simp; omega) _).setCell (by simp; omega) _⟩
set_option maxRecDepth 100000 in
theorem of5_c (x y : Int) (w : World) : Calls Try.prog 62 #[.agg #[.int .i64 x, .int .i64 y]] w fun e w' => e = .returned (RP.v ⟨x, y, 1⟩) ∧ Ext w w' := by
  go_enter Try.func62, Try.ntmps62
  go_wp2_with fail
  refine bodyPost_ret (v := RP.v ⟨x, y, 1⟩) (by simp [results, Try.results62, go_sem]) rfl ?_
  exact ⟨rfl, (by repeat (first | exact Ext.refl _ | assumption | refine Ext.setCell ?_ (by first | (simp; done) | (simp; omega) | omega) _ | refine Ext.alloc ?_ _ | refine Ext.drew ?_ | refine Ext.trans ?_ (by assumption)))⟩
end Go.Proofs.Ytgmedfloflplgaa
