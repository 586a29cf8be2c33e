/- Plain laws of chapter 06: a point on a segment divides it. -/
import Derived.Test.YtgmedfloflplgaaP06
import Derived.Test.YtgmedfloflplgaaR06r
namespace Go.Proofs.Ytgmedfloflplgaa
set_option linter.unusedSimpArgs false
set_option linter.unusedVariables false
open Go.RowKit

theorem nn_iff {k x : Int} (hk : 1 ≤ k) : 0 ≤ k * x ↔ 0 ≤ x := by
  rw [← sg_nonneg, ← sg_nonneg (a := x), sg_mul, sg_pos (show 0 < k by omega), Int.one_mul]
theorem zz_iff {k x : Int} (hk : 1 ≤ k) : k * x = 0 ↔ x = 0 := ⟨fun h => eq_zero_of_mul hk h, fun h => by rw [h, Int.mul_zero]⟩
theorem quarter_signs {a b c d e f : Int} (ha : a = 0 ∨ a = 1 ∨ a = -1) (hb : b = 0 ∨ b = 1 ∨ b = -1) (hc : c = 0 ∨ c = 1 ∨ c = -1) (hd : d = 0 ∨ d = 1 ∨ d = -1) (he : e = 0 ∨ e = 1 ∨ e = -1) (hf : f = 0 ∨ f = 1 ∨ f = -1)
    (h1 : a * d = b * c) (h2 : a * f = b * e) (h3 : c * f = d * e)
    (l1 : a = 1 → 0 ≤ c → e = 1) (l2 : a = -1 → c ≤ 0 → e = -1) (l3 : a = 0 → c = e) (m1 : b = 1 → 0 ≤ d → f = 1) (m2 : b = -1 → d ≤ 0 → f = -1) (m3 : b = 0 → d = f) :
    (0 ≤ a * e ∧ 0 ≤ b * f) ↔ ((0 ≤ a * c ∧ 0 ≤ b * d) ∨ (0 ≤ -c * e ∧ 0 ≤ -d * f)) := by
  rcases ha with rfl | rfl | rfl <;> rcases hb with rfl | rfl | rfl <;> rcases hc with rfl | rfl | rfl <;> rcases hd with rfl | rfl | rfl <;> simp at h1 l1 l2 l3 m1 m2 m3 <;> (try subst e) <;> (try subst f) <;> (try omega) <;> rcases he with rfl | rfl | rfl <;> rcases hf with rfl | rfl | rfl <;> simp at h2 h3 ⊢
theorem sg_three (a : Int) : sg a = 0 ∨ sg a = 1 ∨ sg a = -1 := by
  rcases sg_cases a with ⟨_, e⟩ | ⟨_, e⟩ | ⟨_, e⟩ <;> rw [e] <;> simp
theorem sg_one {a : Int} : sg a = 1 ↔ 0 < a := by
  rcases sg_cases a with ⟨h, e⟩ | ⟨h, e⟩ | ⟨h, e⟩ <;> rw [e] <;> constructor <;> intro <;> omega
theorem sg_mone {a : Int} : sg a = -1 ↔ a < 0 := by
  rcases sg_cases a with ⟨h, e⟩ | ⟨h, e⟩ | ⟨h, e⟩ <;> rw [e] <;> constructor <;> intro <;> omega
theorem sg_z {a : Int} : sg a = 0 ↔ a = 0 := by
  rcases sg_cases a with ⟨h, e⟩ | ⟨h, e⟩ | ⟨h, e⟩ <;> rw [e] <;> constructor <;> intro <;> omega
theorem sg_np {a : Int} : sg a ≤ 0 ↔ a ≤ 0 := by
  rcases sg_cases a with ⟨h, e⟩ | ⟨h, e⟩ | ⟨h, e⟩ <;> rw [e] <;> constructor <;> intro <;> omega
theorem quarter_law {s t s' t' : Int} (h : t * s' = t' * s) : (0 ≤ s * (t - s) ∧ 0 ≤ s' * (t' - s')) ↔ ((0 ≤ s * (t - 4 * s) ∧ 0 ≤ s' * (t' - 4 * s')) ∨ (0 ≤ (4 * s - t) * (t - s) ∧ 0 ≤ (4 * s' - t') * (t' - s'))) := by
  have h1 : sg s * sg (t' - 4 * s') = sg s' * sg (t - 4 * s) := by rw [← sg_mul, ← sg_mul]; congr 1; grind
  have h2 : sg s * sg (t' - s') = sg s' * sg (t - s) := by rw [← sg_mul, ← sg_mul]; congr 1; grind
  have h3 : sg (t - 4 * s) * sg (t' - s') = sg (t' - 4 * s') * sg (t - s) := by rw [← sg_mul, ← sg_mul]; congr 1; grind
  have k1 : (4 * s - t) = -(t - 4 * s) := by omega
  have k2 : (4 * s' - t') = -(t' - 4 * s') := by omega
  have kn : ∀ a : Int, sg (-a) = -sg a := fun a => by
    rcases sg_cases a with ⟨h, e⟩ | ⟨h, e⟩ | ⟨h, e⟩ <;> rw [e]
    · exact sg_neg (by omega)
    · rw [h]; rfl
    · exact sg_pos (by omega)
  rw [k1, k2, ← sg_nonneg, ← sg_nonneg (a := s' * (t' - s')), ← sg_nonneg (a := s * (t - 4 * s)), ← sg_nonneg (a := s' * (t' - 4 * s')), ← sg_nonneg (a := -(t - 4 * s) * (t - s)), ← sg_nonneg (a := -(t' - 4 * s') * (t' - s')), sg_mul, sg_mul, sg_mul, sg_mul, sg_mul, sg_mul, kn, kn]
  refine quarter_signs (sg_three _) (sg_three _) (sg_three _) (sg_three _) (sg_three _) (sg_three _) h1 h2 h3 ?_ ?_ ?_ ?_ ?_ ?_
  · intro a b; rw [sg_one] at a ⊢; rw [sg_nonneg] at b; omega
  · intro a b; rw [sg_mone] at a ⊢; rw [sg_np] at b; omega
  · intro a; rw [sg_z] at a; rw [a]; congr 1
  · intro a b; rw [sg_one] at a ⊢; rw [sg_nonneg] at b; omega
  · intro a b; rw [sg_mone] at a ⊢; rw [sg_np] at b; omega
  · intro a; rw [sg_z] at a; rw [a]; congr 1
/-- m lies at a quarter of the way from a to b. -/
structure Quarter (a b m : RP) : Prop where
  x : m.x * (4 * (a.d * b.d)) = m.d * (3 * a.x * b.d + b.x * a.d)
  y : m.y * (4 * (a.d * b.d)) = m.d * (3 * a.y * b.d + b.y * a.d)
theorem qL1 {ax ad bx bd mx md : Int} (h : mx * (4 * (ad * bd)) = md * (3 * ax * bd + bx * ad)) : 4 * bd * (mx * ad - ax * md) = md * (bx * ad - ax * bd) := by grind
theorem qL3 (ax ad bx bd px pd : Int) : ad * (bx * pd - px * bd) = pd * (bx * ad - ax * bd) - bd * (px * ad - ax * pd) := by grind
theorem qL5 {ax ad bx bd mx md px pd : Int} (h : mx * (4 * (ad * bd)) = md * (3 * ax * bd + bx * ad)) : 4 * (ad * bd) * (mx * pd - px * md) = md * (pd * (bx * ad - ax * bd) - 4 * bd * (px * ad - ax * pd)) := by grind
theorem qL7 {ax ad bx bd mx md : Int} (h : mx * (4 * (ad * bd)) = md * (3 * ax * bd + bx * ad)) : 4 * ad * (bx * md - mx * bd) = 3 * md * (bx * ad - ax * bd) := by grind
theorem qM1 {A B M U V U1 V1 P Q : Int} (hB : 1 ≤ B) (hM : 1 ≤ M) (e1 : 4 * B * U1 = M * U) (e2 : 4 * B * V1 = M * V) : U1 * Q - V1 * P = 0 ↔ U * Q - V * P = 0 := by
  have : 4 * B * (U1 * Q - V1 * P) = M * (U * Q - V * P) := by grind
  rw [← zz_iff (k := 4 * B) (by omega), this, zz_iff hM]
theorem qM2 {A B C M U V U2 V2 P Q P2 Q2 : Int} (hA : 1 ≤ A) (hB : 1 ≤ B) (hM : 1 ≤ M) (e7 : 4 * A * U2 = 3 * M * U) (e8 : 4 * A * V2 = 3 * M * V) (e5 : 4 * (A * B) * P2 = M * (4 * B * P - C * U)) (e6 : 4 * (A * B) * Q2 = M * (4 * B * Q - C * V)) :
    U2 * Q2 - V2 * P2 = 0 ↔ U * Q - V * P = 0 := by
  have hAB := pos_mul hA hB
  have h1 : 4 * A * U2 * (4 * (A * B) * Q2) - 4 * A * V2 * (4 * (A * B) * P2) = 3 * M * U * (M * (4 * B * Q - C * V)) - 3 * M * V * (M * (4 * B * P - C * U)) := by rw [e5, e6, e7, e8]
  have h2 : (4 * A) * ((4 * (A * B)) * (U2 * Q2 - V2 * P2)) = M * (M * ((12 * B) * (U * Q - V * P))) := by grind
  rw [← zz_iff (k := 4 * (A * B)) (by omega), ← zz_iff (k := 4 * A) (by omega), h2, zz_iff hM, zz_iff hM, zz_iff (by omega)]
theorem qS {k x y : Int} (hk : 1 ≤ k) (h : ∃ m, 1 ≤ m ∧ m * x = k * y) : 0 ≤ x ↔ 0 ≤ y := by
  obtain ⟨m, hm, e⟩ := h
  rw [← nn_iff hm, e, nn_iff hk]
theorem btw_parts {a b m p : RP} (ha : 1 ≤ a.d) (hb : 1 ≤ b.d) (hm : 1 ≤ m.d) (hp : 1 ≤ p.d) (h : Quarter a b m) : btwR a b p = (btwR a m p || btwR m b p) := by
  rw [Bool.eq_iff_iff, Bool.or_eq_true, btwR_iff ha, btwR_iff ha, btwR_iff hm]
  obtain ⟨hx, hy⟩ := h
  have e1 := qL1 hx
  have e2 := qL1 hy
  have e3 := qL3 a.x a.d b.x b.d p.x p.d
  have e4 := qL3 a.y a.d b.y b.d p.y p.d
  have e5 := qL5 (px := p.x) (pd := p.d) hx
  have e6 := qL5 (px := p.y) (pd := p.d) hy
  have e7 := qL7 hx
  have e8 := qL7 hy
  have e9 : p.x * m.d - m.x * p.d = -(m.x * p.d - p.x * m.d) := by omega
  have e10 : p.y * m.d - m.y * p.d = -(m.y * p.d - p.y * m.d) := by omega
  unfold areaRP
  rw [e9, e10]
  clear e9 e10 hx hy
  generalize p.x * a.d - a.x * p.d = P at *
  generalize p.y * a.d - a.y * p.d = Q at *
  generalize b.x * a.d - a.x * b.d = U at *
  generalize b.y * a.d - a.y * b.d = V at *
  generalize m.x * a.d - a.x * m.d = U1 at *
  generalize m.y * a.d - a.y * m.d = V1 at *
  generalize b.x * p.d - p.x * b.d = X2 at *
  generalize b.y * p.d - p.y * b.d = Y2 at *
  generalize m.x * p.d - p.x * m.d = X1 at *
  generalize m.y * p.d - p.y * m.d = Y1 at *
  generalize b.x * m.d - m.x * b.d = U2 at *
  generalize b.y * m.d - m.y * b.d = V2 at *
  generalize a.d = A at *
  generalize b.d = B at *
  generalize p.d = C at *
  generalize m.d = M at *
  have hAB := pos_mul ha hb
  rw [qM1 (A := A) hb hm e1 e2, qM2 (C := C) (P := P) (Q := Q) (P2 := -X1) (Q2 := -Y1) ha hb hm e7 e8 (by rw [Int.mul_neg, e5, ← Int.mul_neg, Int.neg_sub]) (by rw [Int.mul_neg, e6, ← Int.mul_neg, Int.neg_sub]), ← and_or_left]
  refine and_congr_right fun h => ?_
  have hpar : C * U * (B * Q) = C * V * (B * P) := by
    have : C * B * (U * Q - V * P) = 0 := by rw [h, Int.mul_zero]
    grind
  have hl := quarter_law hpar
  have s1 : ∀ {P U X : Int}, A * X = C * U - B * P → (0 ≤ P * X ↔ 0 ≤ B * P * (C * U - B * P)) := fun {P U X} e => by
    refine qS (k := 1) (by omega) ⟨A * B, pos_mul ha hb, ?_⟩
    rw [← e]; grind
  have s2 : ∀ {P U X : Int}, 4 * (A * B) * X = M * (C * U - 4 * B * P) → (0 ≤ P * X ↔ 0 ≤ B * P * (C * U - 4 * (B * P))) := fun {P U X} e => by
    refine qS (k := M) hm ⟨4 * (A * B) * B, pos_mul (by omega) hb, ?_⟩
    have : 4 * (A * B) * B * (P * X) = B * P * (4 * (A * B) * X) := by grind
    rw [this, e]; grind
  have s3 : ∀ {P U X Z : Int}, 4 * (A * B) * X = M * (C * U - 4 * B * P) → A * Z = C * U - B * P → (0 ≤ -X * Z ↔ 0 ≤ (4 * (B * P) - C * U) * (C * U - B * P)) := fun {P U X Z} e f => by
    refine qS (k := M) hm ⟨4 * (A * B) * A, pos_mul (by omega) ha, ?_⟩
    have : 4 * (A * B) * A * (-X * Z) = -(4 * (A * B) * X) * (A * Z) := by grind
    rw [this, e, f]; grind
  rw [s1 e3, s1 e4, s2 e5, s2 e6, s3 e5 e3, s3 e6 e4]
  exact hl
theorem qMid {ax ad bx bd nx nd mx md : Int} (hn : 1 ≤ nd) (h1 : nx * (2 * ad * bd) = (ax * bd + bx * ad) * nd) (h2 : mx * (2 * ad * nd) = (ax * nd + nx * ad) * md) : mx * (4 * (ad * bd)) = md * (3 * ax * bd + bx * ad) := by
  refine mul_cancel_pos hn ?_
  have e1 : mx * (4 * (ad * bd)) * nd = 2 * bd * (mx * (2 * ad * nd)) := by grind
  have e2 : 2 * bd * ((ax * nd + nx * ad) * md) = md * (2 * ax * bd * nd + nx * (2 * ad * bd)) := by grind
  rw [e1, h2, e2, h1]
  grind
theorem midF_eq {a b : RP} (ha : 1 ≤ a.d) (hb : 1 ≤ b.d) : (midF a b).x * (2 * a.d * b.d) = (a.x * b.d + b.x * a.d) * (midF a b).d ∧ (midF a b).y * (2 * a.d * b.d) = (a.y * b.d + b.y * a.d) * (midF a b).d := by
  have hp := pos_mul ha hb
  have h2 : 1 ≤ 2 * a.d * b.d := by rw [Int.mul_assoc]; omega
  unfold midF
  rw [makeF_pos h2]
  exact mkF_eq _ _ _ (by omega)
theorem quarter_mid {a b : RP} (ha : 1 ≤ a.d) (hb : 1 ≤ b.d) (hn : 1 ≤ (midF a b).d) : Quarter a b (midF a (midF a b)) := by
  have e1 := midF_eq ha hb
  have e2 := midF_eq ha hn
  exact ⟨qMid hn e1.1 e2.1, qMid hn e1.2 e2.2⟩
theorem btw_end {a m : RP} (ha : 1 ≤ a.d) : btwR a m m = true := by
  rw [btwR_iff ha]
  refine ⟨?_, ?_, ?_⟩
  · unfold areaRP; rw [Int.mul_comm (m.y * a.d - a.y * m.d)]; exact Int.sub_self _
  · rw [Int.sub_self, Int.mul_zero]; exact Int.le_refl 0
  · rw [Int.sub_self, Int.mul_zero]; exact Int.le_refl 0
end Go.Proofs.Ytgmedfloflplgaa
