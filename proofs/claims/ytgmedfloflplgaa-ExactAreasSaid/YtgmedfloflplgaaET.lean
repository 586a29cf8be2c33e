/- exact: Turn, Sector. -/
import Derived.Test.YtgmedfloflplgaaESide
/- exact: compare, half, direction, turn, Turn, Sector. -/
namespace Go.Proofs.Ytgmedfloflplgaa
set_option linter.unusedSimpArgs false
set_option linter.unusedVariables false
open Go.RowKit

/-- The error of a direction. -/
def dirE (p : Pt) : Int := if p.x < -2147483648 ∨ 2147483648 < p.x ∨ p.y < -2147483648 ∨ 2147483648 < p.y then 5 else if p.x = 0 ∧ p.y = 0 then 1 else 0
/-- The first error of a list. -/
def firstE (f : Pt → Int) : List Pt → Int
  | [] => 0
  | p :: l => if f p = 0 then firstE f l else f p
theorem firstE_none {f : Pt → Int} : ∀ {l : List Pt}, (∀ i, i < l.length → f (l.getD i ⟨0, 0⟩) = 0) → firstE f l = 0
  | [], _ => rfl
  | p :: l, h => by
    rw [firstE, if_pos (by simpa using h 0 (by simp))]
    exact firstE_none fun i hi => by simpa using h (i + 1) (by simpa using hi)
theorem firstE_at {f : Pt → Int} : ∀ {l : List Pt} (i : Nat), i < l.length → (∀ j, j < i → f (l.getD j ⟨0, 0⟩) = 0) → f (l.getD i ⟨0, 0⟩) ≠ 0 → firstE f l = f (l.getD i ⟨0, 0⟩)
  | [], i, hi, _, _ => by simp at hi
  | p :: l, 0, _, _, h => by simp at h ⊢; rw [firstE, if_neg h]
  | p :: l, i + 1, hi, hj, h => by
    rw [firstE, if_pos (by simpa using hj 0 (by omega))]
    have := firstE_at (f := f) (l := l) i (by simpa using hi) (fun j hji => by simpa using hj (j + 1) (by omega)) (by simpa using h)
    simpa using this

/-- A row of points from offset 0 on. -/
def Pts (w : World) (b : Nat) (l : List Pt) : Prop := ∀ i, i < l.length → w.cell? ⟨b, i * 2, none⟩ = some (.int .i64 (l.getD i ⟨0, 0⟩).x) ∧ w.cell? ⟨b, i * 2 + 1, none⟩ = some (.int .i64 (l.getD i ⟨0, 0⟩).y)
theorem Pts.ik {w w' : World} {b : Nat} {l : List Pt} (h : Pts w b l) (k : IK w w') : Pts w' b l := fun i hi => ⟨k.2 _ _ _ (h i hi).1, k.2 _ _ _ (h i hi).2⟩
theorem Pts.two {w : World} {b : Nat} {p q : Pt} (h : At w b #[.int .i64 p.x, .int .i64 p.y, .int .i64 q.x, .int .i64 q.y]) : Pts w b [p, q] := fun i hi => by
  match i, hi with
  | 0, _ => exact ⟨h 0 (by simp), h 1 (by simp)⟩
  | 1, _ => exact ⟨h 2 (by simp), h 3 (by simp)⟩
  | i + 2, hi => simp at hi; omega
theorem Pts.three {w : World} {b : Nat} {p q r : Pt} (h : At w b #[.int .i64 p.x, .int .i64 p.y, .int .i64 q.x, .int .i64 q.y, .int .i64 r.x, .int .i64 r.y]) : Pts w b [p, q, r] := fun i hi => by
  match i, hi with
  | 0, _ => exact ⟨h 0 (by simp), h 1 (by simp)⟩
  | 1, _ => exact ⟨h 2 (by simp), h 3 (by simp)⟩
  | 2, _ => exact ⟨h 4 (by simp), h 5 (by simp)⟩
  | i + 3, hi => simp at hi; omega
theorem Pts.four {w : World} {b : Nat} {p q r s : Pt} (h : At w b #[.int .i64 p.x, .int .i64 p.y, .int .i64 q.x, .int .i64 q.y, .int .i64 r.x, .int .i64 r.y, .int .i64 s.x, .int .i64 s.y]) : Pts w b [p, q, r, s] := fun i hi => by
  match i, hi with
  | 0, _ => exact ⟨h 0 (by simp), h 1 (by simp)⟩
  | 1, _ => exact ⟨h 2 (by simp), h 3 (by simp)⟩
  | 2, _ => exact ⟨h 4 (by simp), h 5 (by simp)⟩
  | 3, _ => exact ⟨h 6 (by simp), h 7 (by simp)⟩
  | i + 4, hi => simp at hi; omega

theorem ecompare_c (a b : Int) (w : World) : Calls Try.prog 85 #[.int .i64 a, .int .i64 b] w fun e w' => e = .returned (.int .i64 (cmpI a b)) ∧ w = w' := by
  by_cases h1 : a < b
  · go_enter Try.func85, Try.ntmps85
    go_wp2
    go_ret
    exact ⟨by simp [cmpI, h1], rfl⟩
  · by_cases h2 : b < a
    · go_enter Try.func85, Try.ntmps85
      go_wp2
      go_ret
      exact ⟨by rw [cmpI, if_neg (by omega), if_pos (by omega)]; rfl, rfl⟩
    · go_enter Try.func85, Try.ntmps85
      go_wp2
      go_ret
      exact ⟨by rw [cmpI, if_neg (by omega), if_neg (by omega)]; rfl, rfl⟩

/-- In which half of the plane a direction lies. -/
def halfF (p : Pt) : Int := if p.y < 0 ∨ p.y = 0 ∧ p.x < 0 then 1 else 0
set_option maxHeartbeats 400000 in
theorem half_c (p : Pt) (w : World) : Calls Try.prog 86 #[p.v] w fun e w' => e = .returned (.int .i64 (halfF p)) ∧ Ext w w' := by
  obtain ⟨x, y⟩ := p
  by_cases h1 : y < 0
  · have hf : halfF ⟨x, y⟩ = 1 := by rw [halfF, if_pos (.inl h1)]
    have HF := Lib.hid hf; clear hf
    go_enter Try.func86, Try.ntmps86
    go_wp2
    go_ret
    exact ⟨by rw [HF.out]; rfl, (by repeat (first | exact Ext.refl _ | assumption | refine Ext.setCell ?_ (by first | (simp; done) | (simp; omega) | omega) _ | refine Ext.alloc ?_ _ | refine Ext.drew ?_ | refine Ext.trans ?_ (by assumption)))⟩
  · by_cases h2 : y = 0
    · subst h2
      by_cases h3 : x < 0
      · have hf : halfF ⟨x, 0⟩ = 1 := by rw [halfF, if_pos (.inr ⟨rfl, h3⟩)]
        have HF := Lib.hid hf; clear hf
        go_enter Try.func86, Try.ntmps86
        go_wp2
        go_ret
        exact ⟨by rw [HF.out]; rfl, (by repeat (first | exact Ext.refl _ | assumption | refine Ext.setCell ?_ (by first | (simp; done) | (simp; omega) | omega) _ | refine Ext.alloc ?_ _ | refine Ext.drew ?_ | refine Ext.trans ?_ (by assumption)))⟩
      · have hf : halfF ⟨x, 0⟩ = 0 := by rw [halfF, if_neg (by simp; omega)]
        have HF := Lib.hid hf; clear hf
        go_enter Try.func86, Try.ntmps86
        go_wp2
        go_ret
        exact ⟨by rw [HF.out]; rfl, (by repeat (first | exact Ext.refl _ | assumption | refine Ext.setCell ?_ (by first | (simp; done) | (simp; omega) | omega) _ | refine Ext.alloc ?_ _ | refine Ext.drew ?_ | refine Ext.trans ?_ (by assumption)))⟩
    · have h3 : (y == 0) = false := by simpa using h2
      have hf : halfF ⟨x, y⟩ = 0 := by rw [halfF, if_neg (by simp; omega)]
      have HF := Lib.hid hf; clear hf h2
      go_enter Try.func86, Try.ntmps86
      go_wp2
      go_ret
      exact ⟨by rw [HF.out]; rfl, (by repeat (first | exact Ext.refl _ | assumption | refine Ext.setCell ?_ (by first | (simp; done) | (simp; omega) | omega) _ | refine Ext.alloc ?_ _ | refine Ext.drew ?_ | refine Ext.trans ?_ (by assumption)))⟩

set_option maxHeartbeats 2000000 in
theorem direction_c (b n c : Nat) (l : List Pt) (w : World) (hn : l.length = n) (hc : n ≤ c) (hc4 : c ≤ 1000) (h : Pts w b l)
    (hr : ∀ i, i < n → -9223372036854775808 ≤ (l.getD i ⟨0, 0⟩).x ∧ (l.getD i ⟨0, 0⟩).x ≤ 9223372036854775807 ∧ -9223372036854775808 ≤ (l.getD i ⟨0, 0⟩).y ∧ (l.getD i ⟨0, 0⟩).y ≤ 9223372036854775807) :
    Calls Try.prog 58 #[.slice (some ⟨b, 0, none⟩) n c] w fun e w' => e = .returned (.int .i64 (firstE dirE l)) ∧ Ext w w' := by
  have HN := Lib.hid hn; have HP := Lib.hid h; have HR := Lib.hid hr; clear hn h hr
  go_enter Try.func58, Try.ntmps58
  go_wp2
  go_loopw [7] (fun v wr => ∃ i : Nat, i ≤ n ∧ v = .int .i64 (i : Int) ∧ (∀ j, j < i → dirE (l.getD j ⟨0, 0⟩) = 0) ∧ Ext w wr) (fun v _ => n - (intOf v).toNat)
  case atStart => exact ⟨0, by omega, rfl, fun j hj => absurd hj (by omega), Ext.refl _⟩
  case round =>
    obtain ⟨i, hi, rfl, hz, hx⟩ := hrel
    have HZ := Lib.hid hz; have HX := Lib.hid hx; clear hz hx
    by_cases hlt : i < n
    · obtain ⟨c0, c1⟩ := HP.out.ik HX.out.ik i (by rw [HN.out]; exact hlt)
      obtain ⟨r1, r2, r3, r4⟩ := HR.out i hlt
      generalize hp : l.getD i ⟨0, 0⟩ = p at c0 c1 r1 r2 r3 r4
      obtain ⟨x, y⟩ := p
      simp only at c0 c1 r1 r2 r3 r4
      have HPE := Lib.hid hp; clear hp
      obtain ⟨nx, hnx, hnx2⟩ : ∃ nx, IntKind.i64.wrap (-x) = nx ∧ (nx = -x ∨ nx = x ∧ x < -2147483648) := ⟨_, rfl, by rw [IntKind.wrap_i64]; omega⟩
      obtain ⟨ny, hny, hny2⟩ : ∃ ny, IntKind.i64.wrap (-y) = ny ∧ (ny = -y ∨ ny = y ∧ y < -2147483648) := ⟨_, rfl, by rw [IntKind.wrap_i64]; omega⟩
      by_cases hbad : x < -2147483648 ∨ 2147483648 < x ∨ y < -2147483648 ∨ 2147483648 < y
      · have hd : dirE ⟨x, y⟩ = 5 := by rw [dirE, if_pos hbad]
        have hfin : firstE dirE l = 5 := by rw [firstE_at i (by rw [HN.out]; exact hlt) HZ.out (by rw [HPE.out, hd]; decide), HPE.out, hd]
        have HD := Lib.hid hfin; clear hd hfin
        have hk : (nx ≤ x ∧ 2147483648 < x) ∨ (x < nx ∧ 2147483648 < nx) ∨ (x ≤ 2147483648 ∧ nx ≤ 2147483648 ∧ ny ≤ y ∧ 2147483648 < y) ∨ (x ≤ 2147483648 ∧ nx ≤ 2147483648 ∧ y < ny ∧ 2147483648 < ny) ∨
            (x ≤ 2147483648 ∧ nx ≤ 2147483648 ∧ y ≤ 2147483648 ∧ ny ≤ 2147483648 ∧ x ≤ y ∧ x < -2147483648) ∨ (x ≤ 2147483648 ∧ nx ≤ 2147483648 ∧ y ≤ 2147483648 ∧ ny ≤ 2147483648 ∧ y < x ∧ y < -2147483648) := by omega
        clear hbad hnx2 hny2 r1 r2 r3 r4
        rcases hk with ⟨k1, k2⟩ | ⟨k1, k2⟩ | ⟨k1, k2, k3, k4⟩ | ⟨k1, k2, k3, k4⟩ | ⟨k1, k2, k3, k4, k5, k6⟩ | ⟨k1, k2, k3, k4, k5, k6⟩
        all_goals go_wp2_with fail
        all_goals
          go_ret
          exact ⟨by rw [HD.out]; rfl, HX.out.alloc _⟩
      · have g1 : -2147483648 ≤ x := by omega
        have g2 : x ≤ 2147483648 := by omega
        have g3 : -2147483648 ≤ y := by omega
        have g4 : y ≤ 2147483648 := by omega
        have g5 : nx ≤ 2147483648 := by omega
        have g6 : ny ≤ 2147483648 := by omega
        clear hnx2 hny2 r1 r2 r3 r4
        by_cases h0 : x = 0 ∧ y = 0
        · have hd : dirE ⟨x, y⟩ = 1 := by rw [dirE, if_neg hbad, if_pos h0]
          have hfin : firstE dirE l = 1 := by rw [firstE_at i (by rw [HN.out]; exact hlt) HZ.out (by rw [HPE.out, hd]; decide), HPE.out, hd]
          have HD := Lib.hid hfin
          clear hd hfin hbad
          obtain ⟨rfl, rfl⟩ := h0
          go_wp2_with fail
          all_goals
            go_ret
            exact ⟨by rw [HD.out]; rfl, HX.out.alloc _⟩
        · have hd : dirE ⟨x, y⟩ = 0 := by rw [dirE, if_neg hbad, if_neg h0]
          have hz2 : ∀ j, j < i + 1 → dirE (l.getD j ⟨0, 0⟩) = 0 := fun j hj => by
            by_cases hji : j < i
            · exact HZ.out j hji
            · obtain rfl : j = i := by omega
              rw [HPE.out]; exact hd
          have HD := Lib.hid hz2; clear hd hz2 hbad
          by_cases hx0 : x = 0
          · have hy0 : (y == 0) = false := by rw [beq_eq_false_iff_ne]; intro hy; exact h0 ⟨hx0, hy⟩
            subst hx0
            clear h0
            go_wp2_with fail
            all_goals
              go_roundw
              case rel => exact ⟨i + 1, by omega, by go_num, HD.out, HX.out.alloc _⟩
              case measure => simp [intOf]; omega
          · have hx0' : (x == 0) = false := by rw [beq_eq_false_iff_ne]; exact hx0
            clear h0 hx0
            go_wp2_with fail
            all_goals
              go_roundw
              case rel => exact ⟨i + 1, by omega, by go_num, HD.out, HX.out.alloc _⟩
              case measure => simp [intOf]; omega
    · obtain rfl : i = n := by omega
      have hfin : firstE dirE l = 0 := firstE_none (by rw [HN.out]; exact HZ.out)
      have HD := Lib.hid hfin; clear hfin
      go_wp2_with fail
      go_ret
      exact ⟨by rw [HD.out]; rfl, HX.out⟩
end Go.Proofs.Ytgmedfloflplgaa
/- exact: turn, Turn, Sector. -/
namespace Go.Proofs.Ytgmedfloflplgaa
set_option linter.unusedSimpArgs false
set_option linter.unusedVariables false
open Go.RowKit

theorem cmpI_bd (a b : Int) : -1 ≤ cmpI a b ∧ cmpI a b ≤ 1 := by unfold cmpI; split <;> (try split) <;> omega
/-- The order of the angles. -/
def turnF (a b : Pt) : Int := if cmpI (halfF a) (halfF b) = 0 then -cmpI (a.x * b.y) (a.y * b.x) else cmpI (halfF a) (halfF b)
/-- The point has coordinates of a direction. -/
def Near (a : Pt) : Prop := -2147483648 ≤ a.x ∧ a.x ≤ 2147483648 ∧ -2147483648 ≤ a.y ∧ a.y ≤ 2147483648

set_option maxHeartbeats 2000000 in
theorem turn_c (a b : Pt) (w : World) (ha : Near a) (hb : Near b) : Calls Try.prog 59 #[a.v, b.v] w fun e w' => e = .returned (.int .i64 (turnF a b)) ∧ Ext w w' := by
  obtain ⟨a1, a2, a3, a4⟩ := ha
  obtain ⟨b1, b2, b3, b4⟩ := hb
  have hcb := Lib.hid (cmpI_bd (a.x * b.y) (a.y * b.x))
  by_cases hz : cmpI (halfF a) (halfF b) = 0
  · have hf : turnF a b = -cmpI (a.x * b.y) (a.y * b.x) := by rw [turnF, if_pos hz]
    have HF := Lib.hid hf; have HZ := Lib.hid hz; clear hf hz
    go_enter Try.func59, Try.ntmps59
    go_upto_region 1 with (fail)
    refine wp_gen (fun W => Ext w W ∧ At W w.heap.size #[.int .i64 a.x, .int .i64 a.y] ∧ At W (w.heap.size + 1) #[.int .i64 b.x, .int .i64 b.y]) ⟨(by repeat (first | exact Ext.refl _ | assumption | refine Ext.setCell ?_ (by first | (simp; done) | (simp; omega) | omega) _ | refine Ext.alloc ?_ _ | refine Ext.drew ?_ | refine Ext.trans ?_ (by assumption))), ((Blk.at _ 25 rfl).alloc _).at', (Blk.at _ 25 (by simp)).at'⟩ ?_
    rintro W ⟨E0, A0, A1⟩
    go_wp2_with fail
    go_region_held3 (fun w' => Ext w w' ∧ At w' w.heap.size #[.int .i64 a.x, .int .i64 a.y] ∧ At w' (w.heap.size + 1) #[.int .i64 b.x, .int .i64 b.y])
      (first | exact ⟨E0.drew, A0, A1⟩ | exact kept)
      (first
        | (go_at_call 86; refine (half_c _ _).mono ?_; rintro e w2 ⟨rfl, hx⟩)
        | (go_at_call 85; refine (ecompare_c _ _ _).mono ?_; rintro e w2 ⟨rfl, rfl⟩; simp only [HZ.out]))
    go_split_ands
    go_wp2_with fail
    refine (side_c ⟨0, 0⟩ a b _ (by simp; omega) (by simp; omega) (by simp; omega) (by simp; omega) (by simp; omega) (by simp; omega) (by simp; omega) (by simp; omega)).mono ?_
    rintro e w3 ⟨rfl, hx3⟩
    simp only [Int.sub_zero]
    obtain ⟨hc1, hc2⟩ := hcb.out
    go_wp2_with fail
    go_ret
    exact ⟨by rw [HF.out]; rfl, (by repeat (first | exact Ext.refl _ | assumption | refine Ext.setCell ?_ (by first | (simp; done) | (simp; omega) | omega) _ | refine Ext.alloc ?_ _ | refine Ext.drew ?_ | refine Ext.trans ?_ (by assumption)))⟩
  · have hf : turnF a b = cmpI (halfF a) (halfF b) := by rw [turnF, if_neg hz]
    have hz' : (cmpI (halfF a) (halfF b) != 0) = true := by rw [bne_iff_ne]; exact hz
    have HF := Lib.hid hf; have HZ := Lib.hid hz; clear hf hz
    go_enter Try.func59, Try.ntmps59
    go_upto_region 1 with (fail)
    refine wp_gen (fun W => Ext w W ∧ At W w.heap.size #[.int .i64 a.x, .int .i64 a.y] ∧ At W (w.heap.size + 1) #[.int .i64 b.x, .int .i64 b.y]) ⟨(by repeat (first | exact Ext.refl _ | assumption | refine Ext.setCell ?_ (by first | (simp; done) | (simp; omega) | omega) _ | refine Ext.alloc ?_ _ | refine Ext.drew ?_ | refine Ext.trans ?_ (by assumption))), ((Blk.at _ 25 rfl).alloc _).at', (Blk.at _ 25 (by simp)).at'⟩ ?_
    rintro W ⟨E0, A0, A1⟩
    go_wp2_with fail
    go_region_held3 (fun w' => Ext w w' ∧ At w' w.heap.size #[.int .i64 a.x, .int .i64 a.y] ∧ At w' (w.heap.size + 1) #[.int .i64 b.x, .int .i64 b.y])
      (first | exact ⟨E0.drew, A0, A1⟩ | exact kept)
      (first
        | (go_at_call 86; refine (half_c _ _).mono ?_; rintro e w2 ⟨rfl, hx⟩)
        | (go_at_call 85; refine (ecompare_c _ _ _).mono ?_; rintro e w2 ⟨rfl, rfl⟩))
    go_split_ands
    go_wp2_with fail
    go_ret
    exact ⟨by rw [HF.out]; rfl, (by repeat (first | exact Ext.refl _ | assumption | refine Ext.setCell ?_ (by first | (simp; done) | (simp; omega) | omega) _ | refine Ext.alloc ?_ _ | refine Ext.drew ?_ | refine Ext.trans ?_ (by assumption)))⟩
theorem turnF_bd (a b : Pt) : -1 ≤ turnF a b ∧ turnF a b ≤ 1 := by
  unfold turnF; split
  · have := cmpI_bd (a.x * b.y) (a.y * b.x); omega
  · exact cmpI_bd _ _
/-- All coordinates are ints. -/
def IntPt (a : Pt) : Prop := -9223372036854775808 ≤ a.x ∧ a.x ≤ 9223372036854775807 ∧ -9223372036854775808 ≤ a.y ∧ a.y ≤ 9223372036854775807
theorem near_of_dirE {a : Pt} (h : dirE a = 0) : Near a := by
  unfold dirE at h; split at h
  · cases h
  · unfold Near; omega
theorem firstE_zero {f : Pt → Int} : ∀ {l : List Pt}, firstE f l = 0 → ∀ p, p ∈ l → f p = 0
  | [], _, p, hp => by cases hp
  | q :: l, h, p, hp => by
    rw [firstE] at h
    split at h
    · rcases List.mem_cons.1 hp with rfl | hp
      · assumption
      · exact firstE_zero h p hp
    · exact absurd h (by assumption)
theorem dirE_bd (a : Pt) : 0 ≤ dirE a ∧ dirE a ≤ 5 := by unfold dirE; split <;> (try split) <;> omega
theorem firstE_dir : ∀ l : List Pt, 0 ≤ firstE dirE l ∧ firstE dirE l ≤ 5
  | [] => by simp [firstE]
  | p :: l => by rw [firstE]; split; exact firstE_dir l; exact dirE_bd p

/-- What Turn returns. -/
def TurnF (a b : Pt) : Int × Int := if firstE dirE [a, b] = 0 then (turnF a b, 0) else (0, firstE dirE [a, b])
set_option maxHeartbeats 2000000 in
theorem Turn_c (a b : Pt) (w : World) (ha : IntPt a) (hb : IntPt b) : Calls Try.prog 20 #[a.v, b.v] w fun e w' => e = .returned (.tuple #[.int .i64 (TurnF a b).1, .int .i64 (TurnF a b).2]) ∧ Ext w w' := by
  have hr : ∀ i, i < 2 → IntPt (([a, b] : List Pt).getD i ⟨0, 0⟩) := fun i hi => by
    match i, hi with
    | 0, _ => exact ha
    | 1, _ => exact hb
  have HR := Lib.hid hr; clear hr
  go_enter Try.func20, Try.ntmps20
  go_wp2_with fail
  refine (direction_c _ 2 2 [a, b] _ rfl (by omega) (by omega) (Pts.two (Blk.at _ 25 (by simp)).at') HR.out).mono ?_
  rintro e w2 ⟨rfl, hx⟩
  obtain ⟨hc, hf, hs⟩ := hx.see
  by_cases h0 : firstE dirE [a, b] = 0
  · have hn : Near a ∧ Near b := ⟨near_of_dirE (firstE_zero h0 a (by simp)), near_of_dirE (firstE_zero h0 b (by simp))⟩
    have hF : TurnF a b = (turnF a b, 0) := by rw [TurnF, if_pos h0]
    have HF := Lib.hid hF; have HN := Lib.hid hn; clear hF hn
    rw [h0]
    clear h0
    go_wp2_with fail
    refine (turn_c a b _ HN.out.1 HN.out.2).mono ?_
    rintro e w3 ⟨rfl, hx3⟩
    go_wp2_with fail
    go_ret2
    exact ⟨by rw [HF.out]; rfl, (by repeat (first | exact Ext.refl _ | assumption | refine Ext.setCell ?_ (by first | (simp; done) | (simp; omega) | omega) _ | refine Ext.alloc ?_ _ | refine Ext.drew ?_ | refine Ext.trans ?_ (by assumption)))⟩
  · have h1 : (firstE dirE [a, b] != 0) = true := by rw [bne_iff_ne]; exact h0
    have hF : TurnF a b = (0, firstE dirE [a, b]) := by rw [TurnF, if_neg h0]
    have HF := Lib.hid hF; clear hF h0
    generalize firstE dirE [a, b] = ev at *
    go_wp2_with fail
    go_ret2
    exact ⟨by rw [HF.out]; rfl, (by repeat (first | exact Ext.refl _ | assumption | refine Ext.setCell ?_ (by first | (simp; done) | (simp; omega) | omega) _ | refine Ext.alloc ?_ _ | refine Ext.drew ?_ | refine Ext.trans ?_ (by assumption)))⟩

/-- What Sector says of directions. -/
def sectorF (a b d : Pt) : Bool :=
  if turnF a b = -1 then decide (turnF a d < 0 ∧ turnF d b < 0) else if turnF a b = 1 then decide (turnF a d < 0 ∨ turnF d b < 0) else decide (turnF a d ≠ 0)
def SectorF (a b d : Pt) : Bool × Int := if firstE dirE [a, b, d] = 0 then (sectorF a b d, 0) else (false, firstE dirE [a, b, d])

set_option maxHeartbeats 4000000 in
theorem Sector_c (a b d : Pt) (w : World) (ha : IntPt a) (hb : IntPt b) (hd : IntPt d) : Calls Try.prog 21 #[a.v, b.v, d.v] w fun e w' => e = .returned (.tuple #[.bool (SectorF a b d).1, .int .i64 (SectorF a b d).2]) ∧ Ext w w' := by
  have hr : ∀ i, i < 3 → IntPt (([a, b, d] : List Pt).getD i ⟨0, 0⟩) := fun i hi => by
    match i, hi with
    | 0, _ => exact ha
    | 1, _ => exact hb
    | 2, _ => exact hd
  have HR := Lib.hid hr; clear hr
  go_enter Try.func21, Try.ntmps21
  go_wp2_with fail
  refine (direction_c _ 3 3 [a, b, d] _ rfl (by omega) (by omega) (Pts.three (Blk.at _ 25 (by simp)).at') HR.out).mono ?_
  rintro e w2 ⟨rfl, hx⟩
  have hA : At w2 w.heap.size #[.int .i64 a.x, .int .i64 a.y] := (((Blk.at _ 25 rfl).alloc _).alloc _ |>.alloc _).ext hx |>.at'
  have hB : At w2 (w.heap.size + 1) #[.int .i64 b.x, .int .i64 b.y] := (((Blk.at _ 25 (by simp)).alloc _).alloc _).ext hx |>.at'
  have hD : At w2 (w.heap.size + 2) #[.int .i64 d.x, .int .i64 d.y] := ((Blk.at _ 25 (by simp)).alloc _).ext hx |>.at'
  have hE : Ext w w2 := (by repeat (first | exact Ext.refl _ | assumption | refine Ext.setCell ?_ (by first | (simp; done) | (simp; omega) | omega) _ | refine Ext.alloc ?_ _ | refine Ext.drew ?_ | refine Ext.trans ?_ (by assumption)))
  by_cases h0 : firstE dirE [a, b, d] = 0
  · have hn : Near a ∧ Near b ∧ Near d := ⟨near_of_dirE (firstE_zero h0 a (by simp)), near_of_dirE (firstE_zero h0 b (by simp)), near_of_dirE (firstE_zero h0 d (by simp))⟩
    have hF : SectorF a b d = (sectorF a b d, 0) := by rw [SectorF, if_pos h0]
    have HF := Lib.hid hF; have HN := Lib.hid hn; clear hF hn hx
    rw [h0]
    clear h0
    have HE := Lib.hid hE; clear hE
    go_upto_region 4 with (fail)
    go_cut [9, 10] (fun s t wx => (Ext w wx ∧ At wx w.heap.size #[.int .i64 a.x, .int .i64 a.y] ∧ At wx (w.heap.size + 1) #[.int .i64 b.x, .int .i64 b.y] ∧ At wx (w.heap.size + 2) #[.int .i64 d.x, .int .i64 d.y]) ∧ s = .int .i64 (turnF a d) ∧ t = .int .i64 (turnF d b))
    case first =>
      go_region_held3 (fun w' => Ext w w' ∧ At w' w.heap.size #[.int .i64 a.x, .int .i64 a.y] ∧ At w' (w.heap.size + 1) #[.int .i64 b.x, .int .i64 b.y] ∧ At w' (w.heap.size + 2) #[.int .i64 d.x, .int .i64 d.y])
        (first | exact ⟨HE.out.drew, hA, hB, hD⟩ | exact kept)
        (first
          | (go_at_call_of 59 (Value.agg #[.int .i64 a.x, .int .i64 a.y]); refine (turn_c a d _ HN.out.1 HN.out.2.2).mono ?_; rintro e w3 ⟨rfl, hx3⟩)
          | (go_at_call_of 59 (Value.agg #[.int .i64 d.x, .int .i64 d.y]); refine (turn_c d b _ HN.out.2.2 HN.out.2.1).mono ?_; rintro e w3 ⟨rfl, hx3⟩))
      all_goals
        go_wp2_with fail
        go_meet
        exact ⟨by exact kept, rfl, rfl⟩
    case rest =>
      obtain ⟨⟨E1, C0, C1, C2⟩, rfl, rfl⟩ := hcut
      have HSF := Lib.hid (sectorF.eq_1 a b d)
      go_wp2_with fail
      refine (turn_c a b _ HN.out.1 HN.out.2.1).mono ?_
      rintro e w4 ⟨rfl, hx4⟩
      have hb3 := turnF_bd a b
      have HE1 := Lib.hid (E1.trans hx4)
      clear hA hB hD C0 C1 C2 E1 hx4
      generalize turnF a b = tab at *
      generalize turnF a d = tad at *
      generalize turnF d b = tdb at *
      by_cases k1 : tab = -1
      · subst k1
        by_cases k2 : tad < 0
        · by_cases k3 : tdb < 0
          · go_wp2_with fail
            go_ret2
            exact ⟨by rw [HF.out, HSF.out]; simp <;> omega, HE1.out⟩
          · go_wp2_with fail
            go_ret2
            exact ⟨by rw [HF.out, HSF.out]; simp <;> omega, HE1.out⟩
        · go_wp2_with fail
          go_ret2
          exact ⟨by rw [HF.out, HSF.out]; simp <;> omega, HE1.out⟩
      · by_cases k4 : tab = 1
        · subst k4
          by_cases k2 : tad < 0
          · go_wp2_with fail
            go_ret2
            exact ⟨by rw [HF.out, HSF.out]; simp <;> omega, HE1.out⟩
          · by_cases k3 : tdb < 0
            · go_wp2_with fail
              go_ret2
              exact ⟨by rw [HF.out, HSF.out]; simp <;> omega, HE1.out⟩
            · go_wp2_with fail
              go_ret2
              exact ⟨by rw [HF.out, HSF.out]; simp <;> omega, HE1.out⟩
        · have k5 : (tab == -1) = false := by rw [beq_eq_false_iff_ne]; exact k1
          have k6 : (tab == 1) = false := by rw [beq_eq_false_iff_ne]; exact k4
          have K1 := Lib.hid k1; have K4 := Lib.hid k4; clear k1 k4
          go_wp2_with fail
          go_ret2
          exact ⟨by rw [HF.out, HSF.out, if_neg K1.out, if_neg K4.out]; by_cases k7 : tad = 0 <;> simp [k7] <;> rfl, HE1.out⟩
  · have h1 : (firstE dirE [a, b, d] != 0) = true := by rw [bne_iff_ne]; exact h0
    have hF : SectorF a b d = (false, firstE dirE [a, b, d]) := by rw [SectorF, if_neg h0]
    have HF := Lib.hid hF; clear hF h0
    generalize firstE dirE [a, b, d] = ev at *
    go_wp2_with fail
    go_ret2
    exact ⟨by rw [HF.out]; rfl, hE⟩
end Go.Proofs.Ytgmedfloflplgaa
