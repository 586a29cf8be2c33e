/- meresmanref06: Direction, quarter, Order, Turn, Sector, Dir. -/
import Derived.Test.YtgmedfloflplgaaETurn2
import Derived.Test.YtgmedfloflplgaaR01
namespace Go.Proofs.Ytgmedfloflplgaa
open Go.RowKit

set_option maxHeartbeats 1000000 in
theorem rDirection_c (p : Pt) (w : World) : Calls Try.prog 22 #[p.v] w fun e w' => e = .returned (.int .i64 (dirE p)) ∧ Ext w w' := by
  obtain ⟨x, y⟩ := p
  by_cases hbad : x < -2147483648 ∨ 2147483648 < x ∨ y < -2147483648 ∨ 2147483648 < y
  · have hd : dirE ⟨x, y⟩ = 5 := by rw [dirE, if_pos hbad]
    have HD := Lib.hid hd; clear hd
    have hk : x < -2147483648 ∨ (¬ x < -2147483648 ∧ 2147483648 < x) ∨ (¬ x < -2147483648 ∧ ¬ 2147483648 < x ∧ y < -2147483648) ∨ (¬ x < -2147483648 ∧ ¬ 2147483648 < x ∧ ¬ y < -2147483648 ∧ 2147483648 < y) := by omega
    clear hbad
    rcases hk with k1 | ⟨k1, k2⟩ | ⟨k1, k2, k3⟩ | ⟨k1, k2, k3, k4⟩
    all_goals
      go_enter Try.func22, Try.ntmps22
      go_wp2
      go_ret
      exact ⟨by rw [HD.out]; rfl, (by repeat (first | exact Ext.refl _ | assumption | refine Ext.setCell ?_ (by first | (simp; done) | (simp; omega) | omega) _ | refine Ext.alloc ?_ _ | refine Ext.drew ?_ | refine Ext.trans ?_ (by assumption)))⟩
  · have k1 : ¬ x < -2147483648 := by omega
    have k2 : ¬ 2147483648 < x := by omega
    have k3 : ¬ y < -2147483648 := by omega
    have k4 : ¬ 2147483648 < y := by omega
    by_cases h0 : x = 0
    · subst h0
      by_cases h1 : y = 0
      · subst h1
        have hd : dirE ⟨0, 0⟩ = 1 := by decide
        have HD := Lib.hid hd; clear hd hbad k1 k2 k3 k4
        go_enter Try.func22, Try.ntmps22
        go_wp2
        go_ret
        exact ⟨by rw [HD.out]; rfl, (by repeat (first | exact Ext.refl _ | assumption | refine Ext.setCell ?_ (by first | (simp; done) | (simp; omega) | omega) _ | refine Ext.alloc ?_ _ | refine Ext.drew ?_ | refine Ext.trans ?_ (by assumption)))⟩
      · have hd : dirE ⟨0, y⟩ = 0 := by rw [dirE, if_neg hbad, if_neg (by simp; exact h1)]
        have h1' : (y == 0) = false := by rw [beq_eq_false_iff_ne]; exact h1
        have HD := Lib.hid hd; clear hd hbad k1 k2 h1
        go_enter Try.func22, Try.ntmps22
        go_wp2
        go_ret
        exact ⟨by rw [HD.out]; rfl, (by repeat (first | exact Ext.refl _ | assumption | refine Ext.setCell ?_ (by first | (simp; done) | (simp; omega) | omega) _ | refine Ext.alloc ?_ _ | refine Ext.drew ?_ | refine Ext.trans ?_ (by assumption)))⟩
    · have hd : dirE ⟨x, y⟩ = 0 := by rw [dirE, if_neg hbad, if_neg (by simp; intro h; exact absurd h h0)]
      have h0' : (x == 0) = false := by rw [beq_eq_false_iff_ne]; exact h0
      have HD := Lib.hid hd; clear hd hbad h0
      go_enter Try.func22, Try.ntmps22
      go_wp2
      go_ret
      exact ⟨by rw [HD.out]; rfl, (by repeat (first | exact Ext.refl _ | assumption | refine Ext.setCell ?_ (by first | (simp; done) | (simp; omega) | omega) _ | refine Ext.alloc ?_ _ | refine Ext.drew ?_ | refine Ext.trans ?_ (by assumption)))⟩

/-- The quarter of a turn. -/
def quarterF (p : Pt) : Int := if 0 < p.x ∧ 0 ≤ p.y then 0 else if p.x ≤ 0 ∧ 0 < p.y then 1 else if p.x < 0 ∧ p.y ≤ 0 then 2 else 3
set_option maxHeartbeats 1000000 in
theorem quarter_c (p : Pt) (w : World) : Calls Try.prog 87 #[p.v] w fun e w' => e = .returned (.int .i64 (quarterF p)) ∧ Ext w w' := by
  obtain ⟨x, y⟩ := p
  have hk : (0 < x ∧ 0 ≤ y ∧ quarterF ⟨x, y⟩ = 0) ∨ (0 < x ∧ y < 0 ∧ quarterF ⟨x, y⟩ = 3) ∨ (x = 0 ∧ 0 < y ∧ quarterF ⟨x, y⟩ = 1) ∨ (x < 0 ∧ 0 < y ∧ quarterF ⟨x, y⟩ = 1) ∨ (x < 0 ∧ y ≤ 0 ∧ quarterF ⟨x, y⟩ = 2) ∨ (x = 0 ∧ y ≤ 0 ∧ quarterF ⟨x, y⟩ = 3) := by
    by_cases c1 : 0 < x ∧ 0 ≤ y
    · exact .inl ⟨c1.1, c1.2, by rw [quarterF, if_pos c1]⟩
    · by_cases c2 : x ≤ 0 ∧ 0 < y
      · have : quarterF ⟨x, y⟩ = 1 := by rw [quarterF, if_neg c1, if_pos c2]
        omega
      · by_cases c3 : x < 0 ∧ y ≤ 0
        · have : quarterF ⟨x, y⟩ = 2 := by rw [quarterF, if_neg c1, if_neg c2, if_pos c3]
          omega
        · have : quarterF ⟨x, y⟩ = 3 := by rw [quarterF, if_neg c1, if_neg c2, if_neg c3]
          omega
  rcases hk with ⟨k1, k2, hf⟩ | ⟨k1, k2, hf⟩ | ⟨rfl, k2, hf⟩ | ⟨k1, k2, hf⟩ | ⟨k1, k2, hf⟩ | ⟨rfl, k2, hf⟩
  all_goals
    have HF := Lib.hid hf; clear hf
    go_enter Try.func87, Try.ntmps87
    go_wp2
    go_ret
    exact ⟨by rw [HF.out]; rfl, (by repeat (first | exact Ext.refl _ | assumption | refine Ext.setCell ?_ (by first | (simp; done) | (simp; omega) | omega) _ | refine Ext.alloc ?_ _ | refine Ext.drew ?_ | refine Ext.trans ?_ (by assumption)))⟩

/-- The order of the model. -/
def orderF (a b : Pt) : Int :=
  if quarterF a < quarterF b then -1 else if quarterF b < quarterF a then 1 else if 0 < a.x * b.y - a.y * b.x then -1 else if a.x * b.y - a.y * b.x < 0 then 1 else 0
/-- The point is a small direction. -/
def Small (a : Pt) : Prop := -4 ≤ a.x ∧ a.x ≤ 4 ∧ -4 ≤ a.y ∧ a.y ≤ 4
theorem mul_small {x y : Int} (h1 : -4 ≤ x) (h2 : x ≤ 4) (h3 : -4 ≤ y) (h4 : y ≤ 4) : -16 ≤ x * y ∧ x * y ≤ 16 := by
  have hx : x = -4 ∨ x = -3 ∨ x = -2 ∨ x = -1 ∨ x = 0 ∨ x = 1 ∨ x = 2 ∨ x = 3 ∨ x = 4 := by omega
  rcases hx with rfl | rfl | rfl | rfl | rfl | rfl | rfl | rfl | rfl <;> omega
theorem quarterF_bd (p : Pt) : 0 ≤ quarterF p ∧ quarterF p ≤ 3 := by unfold quarterF; split <;> (try split) <;> (try split) <;> omega
set_option maxHeartbeats 2000000 in
theorem order_c (a b : Pt) (w : World) (ha : Small a) (hb : Small b) : Calls Try.prog 60 #[a.v, b.v] w fun e w' => e = .returned (.int .i64 (orderF a b)) ∧ Ext w w' := by
  have m1 := mul_small ha.1 ha.2.1 hb.2.2.1 hb.2.2.2
  have m2 := mul_small ha.2.2.1 ha.2.2.2 hb.1 hb.2.1
  obtain ⟨n1, n2⟩ := m1
  obtain ⟨n3, n4⟩ := m2
  have hk : (quarterF a < quarterF b ∧ orderF a b = -1) ∨ (quarterF b < quarterF a ∧ orderF a b = 1) ∨ (quarterF a ≤ quarterF b ∧ quarterF b ≤ quarterF a ∧ 0 < a.x * b.y - a.y * b.x ∧ orderF a b = -1) ∨
      (quarterF a ≤ quarterF b ∧ quarterF b ≤ quarterF a ∧ a.x * b.y - a.y * b.x < 0 ∧ orderF a b = 1) ∨ (quarterF a ≤ quarterF b ∧ quarterF b ≤ quarterF a ∧ a.x * b.y - a.y * b.x ≤ 0 ∧ 0 ≤ a.x * b.y - a.y * b.x ∧ orderF a b = 0) := by
    unfold orderF
    by_cases c1 : quarterF a < quarterF b
    · rw [if_pos c1]; omega
    · rw [if_neg c1]
      by_cases c2 : quarterF b < quarterF a
      · rw [if_pos c2]; omega
      · rw [if_neg c2]
        by_cases c3 : 0 < a.x * b.y - a.y * b.x
        · rw [if_pos c3]; omega
        · rw [if_neg c3]
          by_cases c4 : a.x * b.y - a.y * b.x < 0
          · rw [if_pos c4]; omega
          · rw [if_neg c4]; omega
  clear ha hb
  rcases hk with ⟨k1, hf⟩ | ⟨k1, hf⟩ | ⟨k1, k2, k3, hf⟩ | ⟨k1, k2, k3, hf⟩ | ⟨k1, k2, k3, k4, hf⟩
  all_goals
    have HF := Lib.hid hf; clear hf
    go_enter Try.func60, Try.ntmps60
    go_wp2_with fail
    refine (quarter_c a _).mono ?_
    rintro e w2 ⟨rfl, hx2⟩
    have hE : Ext w w2 := (by repeat (first | exact Ext.refl _ | assumption | refine Ext.setCell ?_ (by first | (simp; done) | (simp; omega) | omega) _ | refine Ext.alloc ?_ _ | refine Ext.drew ?_ | refine Ext.trans ?_ (by assumption)))
    have A0 : At w2 w.heap.size #[.int .i64 a.x, .int .i64 a.y] := (((Blk.at _ 25 rfl).alloc _).ext hx2).at'
    have A1 : At w2 (w.heap.size + 1) #[.int .i64 b.x, .int .i64 b.y] := ((Blk.at _ 25 (by simp)).ext hx2).at'
    have HX2 := Lib.hid hx2; clear hx2
    go_wp2_with fail
    refine (quarter_c b _).mono ?_
    rintro e w3 ⟨rfl, hx3⟩
    have A2 := At.ext hx3 A0 (by simp)
    have A3 := At.ext hx3 A1 (by simp)
    have HE := Lib.hid (hE.trans hx3)
    clear A0 A1 hx3 hE
    go_wp2_with fail
    go_ret
    exact ⟨by rw [HF.out]; rfl, HE.out⟩
end Go.Proofs.Ytgmedfloflplgaa
