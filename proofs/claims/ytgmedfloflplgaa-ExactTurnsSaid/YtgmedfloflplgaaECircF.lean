/- exact: Circle, what it computes: plain laws. -/
import Derived.Test.YtgmedfloflplgaaECirc0
namespace Go.Proofs.Ytgmedfloflplgaa

/-- The determinant that tells where the fourth point lies. -/
def detT (a b c d : Pt) (i j k : Nat) : List Int :=
  let X := fun n => (pt3 a b c n).x - d.x
  let Y := fun n => (pt3 a b c n).y - d.y
  let Z := fun n => X n * X n + Y n * Y n
  [X i * (Y j * (Z k * 1)), -X i * (Y k * (Z j * 1))]
def detsUp (a b c d : Pt) : Nat → List Int
  | 0 => []
  | i + 1 => detsUp a b c d i ++ detT a b c d i ((i + 1) % 3) ((i + 2) % 3)
def detF (a b c d : Pt) : Int := sumL (detsUp a b c d 3)
def CircleF (a b c d : Pt) : Int × Int :=
  if firstE validE [a, b, c, d] = 0 then (if sideF a b c = 0 then (0, 1) else (sideF a b c * cmpI (detF a b c d) 0, 0)) else (0, firstE validE [a, b, c, d])

def S6 (ax ay bx b_y cx cy : Int) : Int := (bx - ax) * (cy - ay) - (b_y - ay) * (cx - ax)
def D8 (ax ay bx b_y cx cy dx dy : Int) : Int :=
  let x0 := ax - dx; let y0 := ay - dy; let x1 := bx - dx; let y1 := b_y - dy; let x2 := cx - dx; let y2 := cy - dy
  let z0 := x0 * x0 + y0 * y0; let z1 := x1 * x1 + y1 * y1; let z2 := x2 * x2 + y2 * y2
  x0 * (y1 * (z2 * 1)) + (-x0 * (y2 * (z1 * 1)) + (x1 * (y2 * (z0 * 1)) + (-x1 * (y0 * (z2 * 1)) + (x2 * (y0 * (z1 * 1)) + (-x2 * (y1 * (z0 * 1)) + 0)))))
theorem D8_cyc (ax ay bx b_y cx cy dx dy : Int) : D8 bx b_y cx cy ax ay dx dy = D8 ax ay bx b_y cx cy dx dy := by unfold D8; grind
theorem D8_swap (ax ay bx b_y cx cy dx dy : Int) : D8 bx b_y ax ay cx cy dx dy = -D8 ax ay bx b_y cx cy dx dy := by unfold D8; grind
theorem S6_cyc (ax ay bx b_y cx cy : Int) : S6 bx b_y cx cy ax ay = S6 ax ay bx b_y cx cy := by unfold S6; grind
theorem S6_swap (ax ay bx b_y cx cy : Int) : S6 bx b_y ax ay cx cy = -S6 ax ay bx b_y cx cy := by unfold S6; grind
theorem far_law (ax ay p q r s u v : Int) :
    (u * (2 * (p * s - q * r)) - (s * (p * p + q * q) - q * (r * r + s * s))) * (u * (2 * (p * s - q * r)) - (s * (p * p + q * q) - q * (r * r + s * s))) +
      (v * (2 * (p * s - q * r)) - (p * (r * r + s * s) - r * (p * p + q * q))) * (v * (2 * (p * s - q * r)) - (p * (r * r + s * s) - r * (p * p + q * q))) -
      ((s * (p * p + q * q) - q * (r * r + s * s)) * (s * (p * p + q * q) - q * (r * r + s * s)) + (p * (r * r + s * s) - r * (p * p + q * q)) * (p * (r * r + s * s) - r * (p * p + q * q))) =
      -4 * S6 ax ay (p + ax) (q + ay) (r + ax) (s + ay) * D8 ax ay (p + ax) (q + ay) (r + ax) (s + ay) (u + ax) (v + ay) := by
  unfold S6 D8; grind
def S3 (a b c : Pt) : Int := S6 a.x a.y b.x b.y c.x c.y
def D4 (a b c d : Pt) : Int := D8 a.x a.y b.x b.y c.x c.y d.x d.y
theorem detF_eq (a b c d : Pt) : detF a b c d = D4 a b c d := by
  simp [detF, detsUp, detT, sumL, D4, D8, pt3]
theorem cmpI_sub (x y : Int) : cmpI x y = cmpI (x - y) 0 := by
  unfold cmpI; split <;> split <;> (try split) <;> omega
theorem sideF_eq (a b c : Pt) : sideF a b c = cmpI (S3 a b c) 0 := by
  unfold sideF; rw [cmpI_sub]; rfl
theorem cmpI_zero (x : Int) : cmpI x 0 = 0 ↔ x = 0 := by
  unfold cmpI; split
  · omega
  · split <;> omega
theorem cmpI_neg (x : Int) : cmpI (-x) 0 = -cmpI x 0 := by
  unfold cmpI; split <;> split <;> (try split) <;> omega
/-- Where the fourth point lies. -/
def circK (a b c d : Pt) : Int × Int := if S3 a b c = 0 then (0, 1) else (cmpI (S3 a b c) 0 * cmpI (D4 a b c d) 0, 0)
theorem CircleF_ok {a b c d : Pt} (h : firstE validE [a, b, c, d] = 0) : CircleF a b c d = circK a b c d := by
  unfold CircleF circK
  rw [if_pos h, detF_eq, sideF_eq]
  by_cases h0 : S3 a b c = 0
  · rw [if_pos ((cmpI_zero _).2 h0), if_pos h0]
  · rw [if_neg (fun k => h0 ((cmpI_zero _).1 k)), if_neg h0]
theorem circK_cyc (a b c d : Pt) : circK b c a d = circK a b c d := by
  unfold circK S3 D4; rw [S6_cyc, D8_cyc]
theorem circK_swap (a b c d : Pt) : circK b a c d = circK a b c d := by
  unfold circK S3 D4
  rw [S6_swap, D8_swap, cmpI_neg, cmpI_neg]
  by_cases h0 : S6 a.x a.y b.x b.y c.x c.y = 0
  · rw [if_pos (by omega), if_pos h0]
  · rw [if_neg (by omega), if_neg h0, Int.neg_mul_neg]
theorem sgn_key {S D f r : Int} (h : f - r = -4 * S * D) : cmpI S 0 * cmpI D 0 = cmpI r f := by
  rcases Int.lt_trichotomy S 0 with hS | hS | hS
  · rcases Int.lt_trichotomy D 0 with hD | hD | hD
    · have := Int.mul_pos_of_neg_of_neg hS hD
      have h2 : f - r = -4 * (S * D) := by rw [h]; rw [Int.mul_assoc]
      generalize S * D = k at *
      unfold cmpI; rw [if_pos hS, if_pos hD, if_neg (by omega), if_pos (by omega)]; decide
    · subst hD; simp at h; unfold cmpI; rw [if_neg (show ¬ r < f by omega), if_neg (show ¬ f < r by omega)]; simp
    · have := Int.mul_neg_of_neg_of_pos hS hD
      have h2 : f - r = -4 * (S * D) := by rw [h]; rw [Int.mul_assoc]
      generalize S * D = k at *
      unfold cmpI; rw [if_pos hS, if_neg (by omega), if_pos hD, if_pos (by omega)]; decide
  · subst hS; simp at h; unfold cmpI; rw [if_neg (show ¬ r < f by omega), if_neg (show ¬ f < r by omega)]; simp
  · rcases Int.lt_trichotomy D 0 with hD | hD | hD
    · have := Int.mul_neg_of_pos_of_neg hS hD
      have h2 : f - r = -4 * (S * D) := by rw [h]; rw [Int.mul_assoc]
      generalize S * D = k at *
      unfold cmpI; rw [if_neg (by omega), if_pos hS, if_pos hD, if_pos (by omega)]; decide
    · subst hD; simp at h; unfold cmpI; rw [if_neg (show ¬ r < f by omega), if_neg (show ¬ f < r by omega)]; simp
    · have := Int.mul_pos hS hD
      have h2 : f - r = -4 * (S * D) := by rw [h]; rw [Int.mul_assoc]
      generalize S * D = k at *
      unfold cmpI; rw [if_neg (by omega), if_pos hS, if_neg (by omega), if_pos hD, if_neg (by omega), if_pos (by omega)]; decide
theorem good_pt3 {a b c : Pt} (ha : Good a) (hb : Good b) (hc : Good c) (i : Nat) : Good (pt3 a b c i) := by
  unfold pt3; split
  · exact ha
  · split
    · exact hb
    · exact hc
theorem diff_bd {p d : Pt} (hp : Good p) (hd : Good d) : (p.x - d.x).natAbs ≤ 2147483648 ∧ (p.y - d.y).natAbs ≤ 2147483648 ∧ ((p.x - d.x) * (p.x - d.x) + (p.y - d.y) * (p.y - d.y)).natAbs ≤ 9223372036854775808 := by
  obtain ⟨p1, p2, p3, p4⟩ := hp
  obtain ⟨d1, d2, d3, d4⟩ := hd
  have hx : (p.x - d.x).natAbs ≤ 2147483648 := by omega
  have hy : (p.y - d.y).natAbs ≤ 2147483648 := by omega
  have h1 := natAbs_mul_le hx hx
  have h2 := natAbs_mul_le hy hy
  exact ⟨hx, hy, Nat.le_trans (Int.natAbs_add_le _ _) (by omega)⟩
theorem neg_bd {x : Int} {n : Nat} (h : x.natAbs ≤ n) : (-x).natAbs ≤ n := by omega
end Go.Proofs.Ytgmedfloflplgaa
