/- exact: turn, Turn, Sector. -/
import Derived.Test.YtgmedfloflplgaaETurn
namespace Go.Proofs.Ytgmedfloflplgaa
open Go.RowKit

theorem cmpI_bd (a b : Int) : -1 ≤ cmpI a b ∧ cmpI a b ≤ 1 := by unfold cmpI; split <;> (try split) <;> omega
/-- The order of the angles. -/
def turnF (a b : Pt) : Int := if cmpI (halfF a) (halfF b) = 0 then -cmpI (a.x * b.y) (a.y * b.x) else cmpI (halfF a) (halfF b)
/-- The point has coordinates of a direction. -/
def Near (a : Pt) : Prop := -2147483648 ≤ a.x ∧ a.x ≤ 2147483648 ∧ -2147483648 ≤ a.y ∧ a.y ≤ 2147483648

set_option maxHeartbeats 2000000 in
theorem turn_c (a b : Pt) (w : World) (ha : Near a) (hb : Near b) : Calls Try.prog 59 #[a.v, b.v] w fun e w' => e = .returned (.int .i64 (turnF a b)) ∧ Ext w w' := by
  obtain ⟨a1, a2, a3, a4⟩ := ha
  obtain ⟨b1, b2, b3, b4⟩ := hb
  have hcb := Lib.hid (cmpI_bd (a.x * b.y) (a.y * b.x))
  by_cases hz : cmpI (halfF a) (halfF b) = 0
  · have hf : turnF a b = -cmpI (a.x * b.y) (a.y * b.x) := by rw [turnF, if_pos hz]
    have HF := Lib.hid hf; have HZ := Lib.hid hz; clear hf hz
    go_enter Try.func59, Try.ntmps59
    go_upto_region 1 with (fail)
    refine wp_gen (fun W => Ext w W ∧ At W w.heap.size #[.int .i64 a.x, .int .i64 a.y] ∧ At W (w.heap.size + 1) #[.int .i64 b.x, .int .i64 b.y]) ⟨(by repeat (first | exact Ext.refl _ | assumption | refine Ext.setCell ?_ (by first | (simp; done) | (simp; omega) | omega) _ | refine Ext.alloc ?_ _ | refine Ext.drew ?_ | refine Ext.trans ?_ (by assumption))), ((Blk.at _ 25 rfl).alloc _).at', (Blk.at _ 25 (by simp)).at'⟩ ?_
    rintro W ⟨E0, A0, A1⟩
    go_wp2_with fail
    go_region_held3 (fun w' => Ext w w' ∧ At w' w.heap.size #[.int .i64 a.x, .int .i64 a.y] ∧ At w' (w.heap.size + 1) #[.int .i64 b.x, .int .i64 b.y])
      (first | exact ⟨E0.drew, A0, A1⟩ | (go_split_ands; repeat' (first | with_reducible assumption | with_reducible apply And.intro | with_reducible exact Ext.refl _ | with_reducible refine Ext.setCell ?_ (by simp; omega) _ | with_reducible refine Ext.setCell ?_ (by simp) _ | with_reducible refine At.set ?_ (by omega) | with_reducible refine own1_set ?_ | with_reducible refine own2_set ?_ | with_reducible refine own3_set ?_ (by simp) | with_reducible refine Ext.drew ?_ | with_reducible refine At.drew ?_ | with_reducible refine own1_drew ?_ | with_reducible refine Ext.alloc ?_ _ | with_reducible refine At.alloc ?_ (by simp) | with_reducible refine own1_alloc ?_ | with_reducible refine cell_alloc ?_ | with_reducible refine cell_drew ?_ | with_reducible refine own2_drew ?_ | with_reducible refine own3_drew ?_ | with_reducible refine own2_alloc (by first | omega | (simp; omega)) ?_ | with_reducible refine own3_alloc (by first | omega | (simp; omega)) ?_ | with_reducible refine cell_set ?_ (by omega) | with_reducible exact Ext.trans' (by assumption) (by assumption) | with_reducible exact At.ext (by assumption) (by assumption) (by simp) | with_reducible exact Ext.cell (by assumption) (by assumption) | exact (Own.ext (by assumption) ⟨by assumption, by assumption, by assumption⟩ (by simp)).1 | exact (Own.ext (by assumption) ⟨by assumption, by assumption, by assumption⟩ (by simp)).2.1 | exact (Own.ext (by assumption) ⟨by assumption, by assumption, by assumption⟩ (by simp)).2.2)))
      (first
        | (go_at_call 86; refine (half_c _ _).mono ?_; rintro e w2 ⟨rfl, hx⟩)
        | (go_at_call 85; refine (ecompare_c _ _ _).mono ?_; rintro e w2 ⟨rfl, rfl⟩; simp only [HZ.out]))
    go_split_ands
    go_wp2_with fail
    refine (side_c ⟨0, 0⟩ a b _ (by simp; omega) (by simp; omega) (by simp; omega) (by simp; omega) (by simp; omega) (by simp; omega) (by simp; omega) (by simp; omega)).mono ?_
    rintro e w3 ⟨rfl, hx3⟩
    simp only [Int.sub_zero]
    obtain ⟨hc1, hc2⟩ := hcb.out
    go_wp2_with fail
    go_ret
    exact ⟨by rw [HF.out]; rfl, (by repeat (first | exact Ext.refl _ | assumption | refine Ext.setCell ?_ (by first | (simp; done) | (simp; omega) | omega) _ | refine Ext.alloc ?_ _ | refine Ext.drew ?_ | refine Ext.trans ?_ (by assumption)))⟩
  · have hf : turnF a b = cmpI (halfF a) (halfF b) := by rw [turnF, if_neg hz]
    have hz' : (cmpI (halfF a) (halfF b) != 0) = true := by rw [bne_iff_ne]; exact hz
    have HF := Lib.hid hf; have HZ := Lib.hid hz; clear hf hz
    go_enter Try.func59, Try.ntmps59
    go_upto_region 1 with (fail)
    refine wp_gen (fun W => Ext w W ∧ At W w.heap.size #[.int .i64 a.x, .int .i64 a.y] ∧ At W (w.heap.size + 1) #[.int .i64 b.x, .int .i64 b.y]) ⟨(by repeat (first | exact Ext.refl _ | assumption | refine Ext.setCell ?_ (by first | (simp; done) | (simp; omega) | omega) _ | refine Ext.alloc ?_ _ | refine Ext.drew ?_ | refine Ext.trans ?_ (by assumption))), ((Blk.at _ 25 rfl).alloc _).at', (Blk.at _ 25 (by simp)).at'⟩ ?_
    rintro W ⟨E0, A0, A1⟩
    go_wp2_with fail
    go_region_held3 (fun w' => Ext w w' ∧ At w' w.heap.size #[.int .i64 a.x, .int .i64 a.y] ∧ At w' (w.heap.size + 1) #[.int .i64 b.x, .int .i64 b.y])
      (first | exact ⟨E0.drew, A0, A1⟩ | (go_split_ands; repeat' (first | with_reducible assumption | with_reducible apply And.intro | with_reducible exact Ext.refl _ | with_reducible refine Ext.setCell ?_ (by simp; omega) _ | with_reducible refine Ext.setCell ?_ (by simp) _ | with_reducible refine At.set ?_ (by omega) | with_reducible refine own1_set ?_ | with_reducible refine own2_set ?_ | with_reducible refine own3_set ?_ (by simp) | with_reducible refine Ext.drew ?_ | with_reducible refine At.drew ?_ | with_reducible refine own1_drew ?_ | with_reducible refine Ext.alloc ?_ _ | with_reducible refine At.alloc ?_ (by simp) | with_reducible refine own1_alloc ?_ | with_reducible refine cell_alloc ?_ | with_reducible refine cell_drew ?_ | with_reducible refine own2_drew ?_ | with_reducible refine own3_drew ?_ | with_reducible refine own2_alloc (by first | omega | (simp; omega)) ?_ | with_reducible refine own3_alloc (by first | omega | (simp; omega)) ?_ | with_reducible refine cell_set ?_ (by omega) | with_reducible exact Ext.trans' (by assumption) (by assumption) | with_reducible exact At.ext (by assumption) (by assumption) (by simp) | with_reducible exact Ext.cell (by assumption) (by assumption) | exact (Own.ext (by assumption) ⟨by assumption, by assumption, by assumption⟩ (by simp)).1 | exact (Own.ext (by assumption) ⟨by assumption, by assumption, by assumption⟩ (by simp)).2.1 | exact (Own.ext (by assumption) ⟨by assumption, by assumption, by assumption⟩ (by simp)).2.2)))
      (first
        | (go_at_call 86; refine (half_c _ _).mono ?_; rintro e w2 ⟨rfl, hx⟩)
        | (go_at_call 85; refine (ecompare_c _ _ _).mono ?_; rintro e w2 ⟨rfl, rfl⟩))
    go_split_ands
    go_wp2_with fail
    go_ret
    exact ⟨by rw [HF.out]; rfl, (by repeat (first | exact Ext.refl _ | assumption | refine Ext.setCell ?_ (by first | (simp; done) | (simp; omega) | omega) _ | refine Ext.alloc ?_ _ | refine Ext.drew ?_ | refine Ext.trans ?_ (by assumption)))⟩
theorem turnF_bd (a b : Pt) : -1 ≤ turnF a b ∧ turnF a b ≤ 1 := by
  unfold turnF; split
  · have := cmpI_bd (a.x * b.y) (a.y * b.x); omega
  · exact cmpI_bd _ _
/-- All coordinates are ints. -/
def IntPt (a : Pt) : Prop := -9223372036854775808 ≤ a.x ∧ a.x ≤ 9223372036854775807 ∧ -9223372036854775808 ≤ a.y ∧ a.y ≤ 9223372036854775807
theorem near_of_dirE {a : Pt} (h : dirE a = 0) : Near a := by
  unfold dirE at h; split at h
  · cases h
  · unfold Near; omega
theorem firstE_zero {f : Pt → Int} : ∀ {l : List Pt}, firstE f l = 0 → ∀ p, p ∈ l → f p = 0
  | [], _, p, hp => by cases hp
  | q :: l, h, p, hp => by
    rw [firstE] at h
    split at h
    · rcases List.mem_cons.1 hp with rfl | hp
      · assumption
      · exact firstE_zero h p hp
    · exact absurd h (by assumption)
theorem dirE_bd (a : Pt) : 0 ≤ dirE a ∧ dirE a ≤ 5 := by unfold dirE; split <;> (try split) <;> omega
theorem firstE_dir : ∀ l : List Pt, 0 ≤ firstE dirE l ∧ firstE dirE l ≤ 5
  | [] => by simp [firstE]
  | p :: l => by rw [firstE]; split; exact firstE_dir l; exact dirE_bd p

/-- What Turn returns. -/
def TurnF (a b : Pt) : Int × Int := if firstE dirE [a, b] = 0 then (turnF a b, 0) else (0, firstE dirE [a, b])
set_option maxHeartbeats 2000000 in
theorem Turn_c (a b : Pt) (w : World) (ha : IntPt a) (hb : IntPt b) : Calls Try.prog 20 #[a.v, b.v] w fun e w' => e = .returned (.tuple #[.int .i64 (TurnF a b).1, .int .i64 (TurnF a b).2]) ∧ Ext w w' := by
  have hr : ∀ i, i < 2 → IntPt (([a, b] : List Pt).getD i ⟨0, 0⟩) := fun i hi => by
    match i, hi with
    | 0, _ => exact ha
    | 1, _ => exact hb
  have HR := Lib.hid hr; clear hr
  go_enter Try.func20, Try.ntmps20
  go_wp2_with fail
  refine (direction_c _ 2 2 [a, b] _ rfl (by omega) (by omega) (Pts.two (Blk.at _ 25 (by simp)).at') HR.out).mono ?_
  rintro e w2 ⟨rfl, hx⟩
  obtain ⟨hc, hf, hs⟩ := hx.see
  by_cases h0 : firstE dirE [a, b] = 0
  · have hn : Near a ∧ Near b := ⟨near_of_dirE (firstE_zero h0 a (by simp)), near_of_dirE (firstE_zero h0 b (by simp))⟩
    have hF : TurnF a b = (turnF a b, 0) := by rw [TurnF, if_pos h0]
    have HF := Lib.hid hF; have HN := Lib.hid hn; clear hF hn
    rw [h0]
    clear h0
    go_wp2_with fail
    refine (turn_c a b _ HN.out.1 HN.out.2).mono ?_
    rintro e w3 ⟨rfl, hx3⟩
    go_wp2_with fail
    go_ret2
    exact ⟨by rw [HF.out]; rfl, (by repeat (first | exact Ext.refl _ | assumption | refine Ext.setCell ?_ (by first | (simp; done) | (simp; omega) | omega) _ | refine Ext.alloc ?_ _ | refine Ext.drew ?_ | refine Ext.trans ?_ (by assumption)))⟩
  · have h1 : (firstE dirE [a, b] != 0) = true := by rw [bne_iff_ne]; exact h0
    have hF : TurnF a b = (0, firstE dirE [a, b]) := by rw [TurnF, if_neg h0]
    have HF := Lib.hid hF; clear hF h0
    generalize firstE dirE [a, b] = ev at *
    go_wp2_with fail
    go_ret2
    exact ⟨by rw [HF.out]; rfl, (by repeat (first | exact Ext.refl _ | assumption | refine Ext.setCell ?_ (by first | (simp; done) | (simp; omega) | omega) _ | refine Ext.alloc ?_ _ | refine Ext.drew ?_ | refine Ext.trans ?_ (by assumption)))⟩

/-- What Sector says of directions. -/
def sectorF (a b d : Pt) : Bool :=
  if turnF a b = -1 then decide (turnF a d < 0 ∧ turnF d b < 0) else if turnF a b = 1 then decide (turnF a d < 0 ∨ turnF d b < 0) else decide (turnF a d ≠ 0)
def SectorF (a b d : Pt) : Bool × Int := if firstE dirE [a, b, d] = 0 then (sectorF a b d, 0) else (false, firstE dirE [a, b, d])

set_option maxHeartbeats 4000000 in
theorem Sector_c (a b d : Pt) (w : World) (ha : IntPt a) (hb : IntPt b) (hd : IntPt d) : Calls Try.prog 21 #[a.v, b.v, d.v] w fun e w' => e = .returned (.tuple #[.bool (SectorF a b d).1, .int .i64 (SectorF a b d).2]) ∧ Ext w w' := by
  have hr : ∀ i, i < 3 → IntPt (([a, b, d] : List Pt).getD i ⟨0, 0⟩) := fun i hi => by
    match i, hi with
    | 0, _ => exact ha
    | 1, _ => exact hb
    | 2, _ => exact hd
  have HR := Lib.hid hr; clear hr
  go_enter Try.func21, Try.ntmps21
  go_wp2_with fail
  refine (direction_c _ 3 3 [a, b, d] _ rfl (by omega) (by omega) (Pts.three (Blk.at _ 25 (by simp)).at') HR.out).mono ?_
  rintro e w2 ⟨rfl, hx⟩
  have hA : At w2 w.heap.size #[.int .i64 a.x, .int .i64 a.y] := (((Blk.at _ 25 rfl).alloc _).alloc _ |>.alloc _).ext hx |>.at'
  have hB : At w2 (w.heap.size + 1) #[.int .i64 b.x, .int .i64 b.y] := (((Blk.at _ 25 (by simp)).alloc _).alloc _).ext hx |>.at'
  have hD : At w2 (w.heap.size + 2) #[.int .i64 d.x, .int .i64 d.y] := ((Blk.at _ 25 (by simp)).alloc _).ext hx |>.at'
  have hE : Ext w w2 := (by repeat (first | exact Ext.refl _ | assumption | refine Ext.setCell ?_ (by first | (simp; done) | (simp; omega) | omega) _ | refine Ext.alloc ?_ _ | refine Ext.drew ?_ | refine Ext.trans ?_ (by assumption)))
  by_cases h0 : firstE dirE [a, b, d] = 0
  · have hn : Near a ∧ Near b ∧ Near d := ⟨near_of_dirE (firstE_zero h0 a (by simp)), near_of_dirE (firstE_zero h0 b (by simp)), near_of_dirE (firstE_zero h0 d (by simp))⟩
    have hF : SectorF a b d = (sectorF a b d, 0) := by rw [SectorF, if_pos h0]
    have HF := Lib.hid hF; have HN := Lib.hid hn; clear hF hn hx
    rw [h0]
    clear h0
    have HE := Lib.hid hE; clear hE
    go_upto_region 4 with (fail)
    go_cut [9, 10] (fun s t wx => (Ext w wx ∧ At wx w.heap.size #[.int .i64 a.x, .int .i64 a.y] ∧ At wx (w.heap.size + 1) #[.int .i64 b.x, .int .i64 b.y] ∧ At wx (w.heap.size + 2) #[.int .i64 d.x, .int .i64 d.y]) ∧ s = .int .i64 (turnF a d) ∧ t = .int .i64 (turnF d b))
    case first =>
      go_region_held3 (fun w' => Ext w w' ∧ At w' w.heap.size #[.int .i64 a.x, .int .i64 a.y] ∧ At w' (w.heap.size + 1) #[.int .i64 b.x, .int .i64 b.y] ∧ At w' (w.heap.size + 2) #[.int .i64 d.x, .int .i64 d.y])
        (first | exact ⟨HE.out.drew, hA, hB, hD⟩ | (go_split_ands; repeat' (first | with_reducible assumption | with_reducible apply And.intro | with_reducible exact Ext.refl _ | with_reducible refine Ext.setCell ?_ (by simp; omega) _ | with_reducible refine Ext.setCell ?_ (by simp) _ | with_reducible refine At.set ?_ (by omega) | with_reducible refine own1_set ?_ | with_reducible refine own2_set ?_ | with_reducible refine own3_set ?_ (by simp) | with_reducible refine Ext.drew ?_ | with_reducible refine At.drew ?_ | with_reducible refine own1_drew ?_ | with_reducible refine Ext.alloc ?_ _ | with_reducible refine At.alloc ?_ (by simp) | with_reducible refine own1_alloc ?_ | with_reducible refine cell_alloc ?_ | with_reducible refine cell_drew ?_ | with_reducible refine own2_drew ?_ | with_reducible refine own3_drew ?_ | with_reducible refine own2_alloc (by first | omega | (simp; omega)) ?_ | with_reducible refine own3_alloc (by first | omega | (simp; omega)) ?_ | with_reducible refine cell_set ?_ (by omega) | with_reducible exact Ext.trans' (by assumption) (by assumption) | with_reducible exact At.ext (by assumption) (by assumption) (by simp) | with_reducible exact Ext.cell (by assumption) (by assumption) | exact (Own.ext (by assumption) ⟨by assumption, by assumption, by assumption⟩ (by simp)).1 | exact (Own.ext (by assumption) ⟨by assumption, by assumption, by assumption⟩ (by simp)).2.1 | exact (Own.ext (by assumption) ⟨by assumption, by assumption, by assumption⟩ (by simp)).2.2)))
        (first
          | (go_at_call_of 59 (Value.agg #[.int .i64 a.x, .int .i64 a.y]); refine (turn_c a d _ HN.out.1 HN.out.2.2).mono ?_; rintro e w3 ⟨rfl, hx3⟩)
          | (go_at_call_of 59 (Value.agg #[.int .i64 d.x, .int .i64 d.y]); refine (turn_c d b _ HN.out.2.2 HN.out.2.1).mono ?_; rintro e w3 ⟨rfl, hx3⟩))
      all_goals
        go_wp2_with fail
        go_meet
        exact ⟨by (go_split_ands; repeat' (first | with_reducible assumption | with_reducible apply And.intro | with_reducible exact Ext.refl _ | with_reducible refine Ext.setCell ?_ (by simp; omega) _ | with_reducible refine Ext.setCell ?_ (by simp) _ | with_reducible refine At.set ?_ (by omega) | with_reducible refine own1_set ?_ | with_reducible refine own2_set ?_ | with_reducible refine own3_set ?_ (by simp) | with_reducible refine Ext.drew ?_ | with_reducible refine At.drew ?_ | with_reducible refine own1_drew ?_ | with_reducible refine Ext.alloc ?_ _ | with_reducible refine At.alloc ?_ (by simp) | with_reducible refine own1_alloc ?_ | with_reducible refine cell_alloc ?_ | with_reducible refine cell_drew ?_ | with_reducible refine own2_drew ?_ | with_reducible refine own3_drew ?_ | with_reducible refine own2_alloc (by first | omega | (simp; omega)) ?_ | with_reducible refine own3_alloc (by first | omega | (simp; omega)) ?_ | with_reducible refine cell_set ?_ (by omega) | with_reducible exact Ext.trans' (by assumption) (by assumption) | with_reducible exact At.ext (by assumption) (by assumption) (by simp) | with_reducible exact Ext.cell (by assumption) (by assumption) | exact (Own.ext (by assumption) ⟨by assumption, by assumption, by assumption⟩ (by simp)).1 | exact (Own.ext (by assumption) ⟨by assumption, by assumption, by assumption⟩ (by simp)).2.1 | exact (Own.ext (by assumption) ⟨by assumption, by assumption, by assumption⟩ (by simp)).2.2)), rfl, rfl⟩
    case rest =>
      obtain ⟨⟨E1, C0, C1, C2⟩, rfl, rfl⟩ := hcut
      have HSF := Lib.hid (sectorF.eq_1 a b d)
      go_wp2_with fail
      refine (turn_c a b _ HN.out.1 HN.out.2.1).mono ?_
      rintro e w4 ⟨rfl, hx4⟩
      have hb3 := turnF_bd a b
      have HE1 := Lib.hid (E1.trans hx4)
      clear hA hB hD C0 C1 C2 E1 hx4
      generalize turnF a b = tab at *
      generalize turnF a d = tad at *
      generalize turnF d b = tdb at *
      by_cases k1 : tab = -1
      · subst k1
        by_cases k2 : tad < 0
        · by_cases k3 : tdb < 0
          · go_wp2_with fail
            go_ret2
            exact ⟨by rw [HF.out, HSF.out]; simp <;> omega, HE1.out⟩
          · go_wp2_with fail
            go_ret2
            exact ⟨by rw [HF.out, HSF.out]; simp <;> omega, HE1.out⟩
        · go_wp2_with fail
          go_ret2
          exact ⟨by rw [HF.out, HSF.out]; simp <;> omega, HE1.out⟩
      · by_cases k4 : tab = 1
        · subst k4
          by_cases k2 : tad < 0
          · go_wp2_with fail
            go_ret2
            exact ⟨by rw [HF.out, HSF.out]; simp <;> omega, HE1.out⟩
          · by_cases k3 : tdb < 0
            · go_wp2_with fail
              go_ret2
              exact ⟨by rw [HF.out, HSF.out]; simp <;> omega, HE1.out⟩
            · go_wp2_with fail
              go_ret2
              exact ⟨by rw [HF.out, HSF.out]; simp <;> omega, HE1.out⟩
        · have k5 : (tab == -1) = false := by rw [beq_eq_false_iff_ne]; exact k1
          have k6 : (tab == 1) = false := by rw [beq_eq_false_iff_ne]; exact k4
          have K1 := Lib.hid k1; have K4 := Lib.hid k4; clear k1 k4
          go_wp2_with fail
          go_ret2
          exact ⟨by rw [HF.out, HSF.out, if_neg K1.out, if_neg K4.out]; by_cases k7 : tad = 0 <;> simp [k7] <;> rfl, HE1.out⟩
  · have h1 : (firstE dirE [a, b, d] != 0) = true := by rw [bne_iff_ne]; exact h0
    have hF : SectorF a b d = (false, firstE dirE [a, b, d]) := by rw [SectorF, if_neg h0]
    have HF := Lib.hid hF; clear hF h0
    generalize firstE dirE [a, b, d] = ev at *
    go_wp2_with fail
    go_ret2
    exact ⟨by rw [HF.out]; rfl, hE⟩
end Go.Proofs.Ytgmedfloflplgaa
