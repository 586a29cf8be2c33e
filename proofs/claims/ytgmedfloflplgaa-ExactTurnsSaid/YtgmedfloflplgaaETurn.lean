/- exact: compare, half, direction, turn, Turn, Sector. -/
import Derived.Test.YtgmedfloflplgaaESide
namespace Go.Proofs.Ytgmedfloflplgaa
open Go.RowKit

/-- The error of a direction. -/
def dirE (p : Pt) : Int := if p.x < -2147483648 ∨ 2147483648 < p.x ∨ p.y < -2147483648 ∨ 2147483648 < p.y then 5 else if p.x = 0 ∧ p.y = 0 then 1 else 0
/-- The first error of a list. -/
def firstE (f : Pt → Int) : List Pt → Int
  | [] => 0
  | p :: l => if f p = 0 then firstE f l else f p
theorem firstE_none {f : Pt → Int} : ∀ {l : List Pt}, (∀ i, i < l.length → f (l.getD i ⟨0, 0⟩) = 0) → firstE f l = 0
  | [], _ => rfl
  | p :: l, h => by
    rw [firstE, if_pos (by simpa using h 0 (by simp))]
    exact firstE_none fun i hi => by simpa using h (i + 1) (by simpa using hi)
theorem firstE_at {f : Pt → Int} : ∀ {l : List Pt} (i : Nat), i < l.length → (∀ j, j < i → f (l.getD j ⟨0, 0⟩) = 0) → f (l.getD i ⟨0, 0⟩) ≠ 0 → firstE f l = f (l.getD i ⟨0, 0⟩)
  | [], i, hi, _, _ => by simp at hi
  | p :: l, 0, _, _, h => by simp at h ⊢; rw [firstE, if_neg h]
  | p :: l, i + 1, hi, hj, h => by
    rw [firstE, if_pos (by simpa using hj 0 (by omega))]
    have := firstE_at (f := f) (l := l) i (by simpa using hi) (fun j hji => by simpa using hj (j + 1) (by omega)) (by simpa using h)
    simpa using this

/-- A row of points from offset 0 on. -/
def Pts (w : World) (b : Nat) (l : List Pt) : Prop := ∀ i, i < l.length → w.cell? ⟨b, i * 2, none⟩ = some (.int .i64 (l.getD i ⟨0, 0⟩).x) ∧ w.cell? ⟨b, i * 2 + 1, none⟩ = some (.int .i64 (l.getD i ⟨0, 0⟩).y)
theorem Pts.ik {w w' : World} {b : Nat} {l : List Pt} (h : Pts w b l) (k : IK w w') : Pts w' b l := fun i hi => ⟨k.2 _ _ _ (h i hi).1, k.2 _ _ _ (h i hi).2⟩
theorem Pts.two {w : World} {b : Nat} {p q : Pt} (h : At w b #[.int .i64 p.x, .int .i64 p.y, .int .i64 q.x, .int .i64 q.y]) : Pts w b [p, q] := fun i hi => by
  match i, hi with
  | 0, _ => exact ⟨h 0 (by simp), h 1 (by simp)⟩
  | 1, _ => exact ⟨h 2 (by simp), h 3 (by simp)⟩
  | i + 2, hi => simp at hi; omega
theorem Pts.three {w : World} {b : Nat} {p q r : Pt} (h : At w b #[.int .i64 p.x, .int .i64 p.y, .int .i64 q.x, .int .i64 q.y, .int .i64 r.x, .int .i64 r.y]) : Pts w b [p, q, r] := fun i hi => by
  match i, hi with
  | 0, _ => exact ⟨h 0 (by simp), h 1 (by simp)⟩
  | 1, _ => exact ⟨h 2 (by simp), h 3 (by simp)⟩
  | 2, _ => exact ⟨h 4 (by simp), h 5 (by simp)⟩
  | i + 3, hi => simp at hi; omega
theorem Pts.four {w : World} {b : Nat} {p q r s : Pt} (h : At w b #[.int .i64 p.x, .int .i64 p.y, .int .i64 q.x, .int .i64 q.y, .int .i64 r.x, .int .i64 r.y, .int .i64 s.x, .int .i64 s.y]) : Pts w b [p, q, r, s] := fun i hi => by
  match i, hi with
  | 0, _ => exact ⟨h 0 (by simp), h 1 (by simp)⟩
  | 1, _ => exact ⟨h 2 (by simp), h 3 (by simp)⟩
  | 2, _ => exact ⟨h 4 (by simp), h 5 (by simp)⟩
  | 3, _ => exact ⟨h 6 (by simp), h 7 (by simp)⟩
  | i + 4, hi => simp at hi; omega

theorem ecompare_c (a b : Int) (w : World) : Calls Try.prog 85 #[.int .i64 a, .int .i64 b] w fun e w' => e = .returned (.int .i64 (cmpI a b)) ∧ w = w' := by
  by_cases h1 : a < b
  · go_enter Try.func85, Try.ntmps85
    go_wp2
    go_ret
    exact ⟨by simp [cmpI, h1], rfl⟩
  · by_cases h2 : b < a
    · go_enter Try.func85, Try.ntmps85
      go_wp2
      go_ret
      exact ⟨by rw [cmpI, if_neg (by omega), if_pos (by omega)]; rfl, rfl⟩
    · go_enter Try.func85, Try.ntmps85
      go_wp2
      go_ret
      exact ⟨by rw [cmpI, if_neg (by omega), if_neg (by omega)]; rfl, rfl⟩

/-- In which half of the plane a direction lies. -/
def halfF (p : Pt) : Int := if p.y < 0 ∨ p.y = 0 ∧ p.x < 0 then 1 else 0
set_option maxHeartbeats 400000 in
theorem half_c (p : Pt) (w : World) : Calls Try.prog 86 #[p.v] w fun e w' => e = .returned (.int .i64 (halfF p)) ∧ Ext w w' := by
  obtain ⟨x, y⟩ := p
  by_cases h1 : y < 0
  · have hf : halfF ⟨x, y⟩ = 1 := by rw [halfF, if_pos (.inl h1)]
    have HF := Lib.hid hf; clear hf
    go_enter Try.func86, Try.ntmps86
    go_wp2
    go_ret
    exact ⟨by rw [HF.out]; rfl, (by repeat (first | exact Ext.refl _ | assumption | refine Ext.setCell ?_ (by first | (simp; done) | (simp; omega) | omega) _ | refine Ext.alloc ?_ _ | refine Ext.drew ?_ | refine Ext.trans ?_ (by assumption)))⟩
  · by_cases h2 : y = 0
    · subst h2
      by_cases h3 : x < 0
      · have hf : halfF ⟨x, 0⟩ = 1 := by rw [halfF, if_pos (.inr ⟨rfl, h3⟩)]
        have HF := Lib.hid hf; clear hf
        go_enter Try.func86, Try.ntmps86
        go_wp2
        go_ret
        exact ⟨by rw [HF.out]; rfl, (by repeat (first | exact Ext.refl _ | assumption | refine Ext.setCell ?_ (by first | (simp; done) | (simp; omega) | omega) _ | refine Ext.alloc ?_ _ | refine Ext.drew ?_ | refine Ext.trans ?_ (by assumption)))⟩
      · have hf : halfF ⟨x, 0⟩ = 0 := by rw [halfF, if_neg (by simp; omega)]
        have HF := Lib.hid hf; clear hf
        go_enter Try.func86, Try.ntmps86
        go_wp2
        go_ret
        exact ⟨by rw [HF.out]; rfl, (by repeat (first | exact Ext.refl _ | assumption | refine Ext.setCell ?_ (by first | (simp; done) | (simp; omega) | omega) _ | refine Ext.alloc ?_ _ | refine Ext.drew ?_ | refine Ext.trans ?_ (by assumption)))⟩
    · have h3 : (y == 0) = false := by simpa using h2
      have hf : halfF ⟨x, y⟩ = 0 := by rw [halfF, if_neg (by simp; omega)]
      have HF := Lib.hid hf; clear hf h2
      go_enter Try.func86, Try.ntmps86
      go_wp2
      go_ret
      exact ⟨by rw [HF.out]; rfl, (by repeat (first | exact Ext.refl _ | assumption | refine Ext.setCell ?_ (by first | (simp; done) | (simp; omega) | omega) _ | refine Ext.alloc ?_ _ | refine Ext.drew ?_ | refine Ext.trans ?_ (by assumption)))⟩

set_option maxHeartbeats 2000000 in
theorem direction_c (b n c : Nat) (l : List Pt) (w : World) (hn : l.length = n) (hc : n ≤ c) (hc4 : c ≤ 1000) (h : Pts w b l)
    (hr : ∀ i, i < n → -9223372036854775808 ≤ (l.getD i ⟨0, 0⟩).x ∧ (l.getD i ⟨0, 0⟩).x ≤ 9223372036854775807 ∧ -9223372036854775808 ≤ (l.getD i ⟨0, 0⟩).y ∧ (l.getD i ⟨0, 0⟩).y ≤ 9223372036854775807) :
    Calls Try.prog 58 #[.slice (some ⟨b, 0, none⟩) n c] w fun e w' => e = .returned (.int .i64 (firstE dirE l)) ∧ Ext w w' := by
  have HN := Lib.hid hn; have HP := Lib.hid h; have HR := Lib.hid hr; clear hn h hr
  go_enter Try.func58, Try.ntmps58
  go_wp2
  go_loopw [7] (fun v wr => ∃ i : Nat, i ≤ n ∧ v = .int .i64 (i : Int) ∧ (∀ j, j < i → dirE (l.getD j ⟨0, 0⟩) = 0) ∧ Ext w wr) (fun v _ => n - (intOf v).toNat)
  case atStart => exact ⟨0, by omega, rfl, fun j hj => absurd hj (by omega), Ext.refl _⟩
  case round =>
    obtain ⟨i, hi, rfl, hz, hx⟩ := hrel
    have HZ := Lib.hid hz; have HX := Lib.hid hx; clear hz hx
    by_cases hlt : i < n
    · obtain ⟨c0, c1⟩ := HP.out.ik HX.out.ik i (by rw [HN.out]; exact hlt)
      obtain ⟨r1, r2, r3, r4⟩ := HR.out i hlt
      generalize hp : l.getD i ⟨0, 0⟩ = p at c0 c1 r1 r2 r3 r4
      obtain ⟨x, y⟩ := p
      simp only at c0 c1 r1 r2 r3 r4
      have HPE := Lib.hid hp; clear hp
      obtain ⟨nx, hnx, hnx2⟩ : ∃ nx, IntKind.i64.wrap (-x) = nx ∧ (nx = -x ∨ nx = x ∧ x < -2147483648) := ⟨_, rfl, by rw [IntKind.wrap_i64]; omega⟩
      obtain ⟨ny, hny, hny2⟩ : ∃ ny, IntKind.i64.wrap (-y) = ny ∧ (ny = -y ∨ ny = y ∧ y < -2147483648) := ⟨_, rfl, by rw [IntKind.wrap_i64]; omega⟩
      by_cases hbad : x < -2147483648 ∨ 2147483648 < x ∨ y < -2147483648 ∨ 2147483648 < y
      · have hd : dirE ⟨x, y⟩ = 5 := by rw [dirE, if_pos hbad]
        have hfin : firstE dirE l = 5 := by rw [firstE_at i (by rw [HN.out]; exact hlt) HZ.out (by rw [HPE.out, hd]; decide), HPE.out, hd]
        have HD := Lib.hid hfin; clear hd hfin
        have hk : (nx ≤ x ∧ 2147483648 < x) ∨ (x < nx ∧ 2147483648 < nx) ∨ (x ≤ 2147483648 ∧ nx ≤ 2147483648 ∧ ny ≤ y ∧ 2147483648 < y) ∨ (x ≤ 2147483648 ∧ nx ≤ 2147483648 ∧ y < ny ∧ 2147483648 < ny) ∨
            (x ≤ 2147483648 ∧ nx ≤ 2147483648 ∧ y ≤ 2147483648 ∧ ny ≤ 2147483648 ∧ x ≤ y ∧ x < -2147483648) ∨ (x ≤ 2147483648 ∧ nx ≤ 2147483648 ∧ y ≤ 2147483648 ∧ ny ≤ 2147483648 ∧ y < x ∧ y < -2147483648) := by omega
        clear hbad hnx2 hny2 r1 r2 r3 r4
        rcases hk with ⟨k1, k2⟩ | ⟨k1, k2⟩ | ⟨k1, k2, k3, k4⟩ | ⟨k1, k2, k3, k4⟩ | ⟨k1, k2, k3, k4, k5, k6⟩ | ⟨k1, k2, k3, k4, k5, k6⟩
        all_goals go_wp2_with fail
        all_goals
          go_ret
          exact ⟨by rw [HD.out]; rfl, HX.out.alloc _⟩
      · have g1 : -2147483648 ≤ x := by omega
        have g2 : x ≤ 2147483648 := by omega
        have g3 : -2147483648 ≤ y := by omega
        have g4 : y ≤ 2147483648 := by omega
        have g5 : nx ≤ 2147483648 := by omega
        have g6 : ny ≤ 2147483648 := by omega
        clear hnx2 hny2 r1 r2 r3 r4
        by_cases h0 : x = 0 ∧ y = 0
        · have hd : dirE ⟨x, y⟩ = 1 := by rw [dirE, if_neg hbad, if_pos h0]
          have hfin : firstE dirE l = 1 := by rw [firstE_at i (by rw [HN.out]; exact hlt) HZ.out (by rw [HPE.out, hd]; decide), HPE.out, hd]
          have HD := Lib.hid hfin
          clear hd hfin hbad
          obtain ⟨rfl, rfl⟩ := h0
          go_wp2_with fail
          all_goals
            go_ret
            exact ⟨by rw [HD.out]; rfl, HX.out.alloc _⟩
        · have hd : dirE ⟨x, y⟩ = 0 := by rw [dirE, if_neg hbad, if_neg h0]
          have hz2 : ∀ j, j < i + 1 → dirE (l.getD j ⟨0, 0⟩) = 0 := fun j hj => by
            by_cases hji : j < i
            · exact HZ.out j hji
            · obtain rfl : j = i := by omega
              rw [HPE.out]; exact hd
          have HD := Lib.hid hz2; clear hd hz2 hbad
          by_cases hx0 : x = 0
          · have hy0 : (y == 0) = false := by rw [beq_eq_false_iff_ne]; intro hy; exact h0 ⟨hx0, hy⟩
            subst hx0
            clear h0
            go_wp2_with fail
            all_goals
              go_roundw
              case rel => exact ⟨i + 1, by omega, by go_num, HD.out, HX.out.alloc _⟩
              case measure => simp [intOf]; omega
          · have hx0' : (x == 0) = false := by rw [beq_eq_false_iff_ne]; exact hx0
            clear h0 hx0
            go_wp2_with fail
            all_goals
              go_roundw
              case rel => exact ⟨i + 1, by omega, by go_num, HD.out, HX.out.alloc _⟩
              case measure => simp [intOf]; omega
    · obtain rfl : i = n := by omega
      have hfin : firstE dirE l = 0 := firstE_none (by rw [HN.out]; exact HZ.out)
      have HD := Lib.hid hfin; clear hfin
      go_wp2_with fail
      go_ret
      exact ⟨by rw [HD.out]; rfl, HX.out⟩
end Go.Proofs.Ytgmedfloflplgaa
