/- meresmanref06: Turn, Sector of small directions; Dir. -/
import Derived.Test.YtgmedfloflplgaaR06t
namespace Go.Proofs.Ytgmedfloflplgaa
open Go.RowKit

set_option maxHeartbeats 1000000 in
theorem rTurn_c (a b : Pt) (w : World) (ha : Small a) (hb : Small b) (da : dirE a = 0) (db : dirE b = 0) :
    Calls Try.prog 23 #[a.v, b.v] w fun e w' => e = .returned (.tuple #[.int .i64 (orderF a b), .int .i64 0]) ∧ Ext w w' := by
  have HA := Lib.hid ha; have HB := Lib.hid hb; have DA := Lib.hid da; have DB := Lib.hid db; clear ha hb da db
  go_enter Try.func23, Try.ntmps23
  go_wp2_with fail
  refine (rDirection_c a _).mono ?_
  rintro e w2 ⟨rfl, hx2⟩
  rw [DA.out]
  have hE : Ext w w2 := (by repeat (first | exact Ext.refl _ | assumption | refine Ext.setCell ?_ (by first | (simp; done) | (simp; omega) | omega) _ | refine Ext.alloc ?_ _ | refine Ext.drew ?_ | refine Ext.trans ?_ (by assumption)))
  have A0 : At w2 w.heap.size #[.int .i64 a.x, .int .i64 a.y] := (((Blk.at _ 25 rfl).alloc _).ext hx2).at'
  have A1 : At w2 (w.heap.size + 1) #[.int .i64 b.x, .int .i64 b.y] := ((Blk.at _ 25 (by simp)).ext hx2).at'
  have HE := Lib.hid hE; clear hx2 hE
  go_wp2_with fail
  refine (rDirection_c b _).mono ?_
  rintro e w3 ⟨rfl, hx3⟩
  rw [DB.out]
  have A2 := At.ext hx3 A0 (by simp)
  have A3 := At.ext hx3 A1 (by simp)
  have HE3 := Lib.hid (HE.out.trans hx3); clear hx3 A0 A1
  go_wp2_with fail
  refine (order_c a b _ HA.out HB.out).mono ?_
  rintro e w4 ⟨rfl, hx4⟩
  have HE4 := Lib.hid (HE3.out.trans hx4); clear hx4 A2 A3
  go_wp2_with fail
  go_ret2
  exact ⟨rfl, HE4.out⟩

/-- What the model's Sector says. -/
def rsectorF (a b d : Pt) : Bool :=
  if orderF d a = 0 then false else if orderF b a = 0 then true else
    if (if orderF d a < 0 then 3 else 2 : Int) ≠ (if orderF b a < 0 then 3 else 2) then decide ((if orderF d a < 0 then 3 else 2 : Int) < (if orderF b a < 0 then 3 else 2)) else decide (orderF d b < 0)

set_option maxHeartbeats 4000000 in
theorem rSector_c (a b d : Pt) (w : World) (ha : Small a) (hb : Small b) (hd : Small d) (da : dirE a = 0) (db : dirE b = 0) (dd : dirE d = 0) :
    Calls Try.prog 24 #[a.v, b.v, d.v] w fun e w' => e = .returned (.tuple #[.bool (rsectorF a b d), .int .i64 0]) ∧ Ext w w' := by
  have hz : ∀ i, i < 3 → dirE (([a, b, d] : List Pt).getD i ⟨0, 0⟩) = 0 := fun i hi => by
    match i, hi with
    | 0, _ => exact da
    | 1, _ => exact db
    | 2, _ => exact dd
  have HZ := Lib.hid hz; clear hz da db dd
  have HA := Lib.hid ha; have HB := Lib.hid hb; have HD := Lib.hid hd; clear ha hb hd
  have HF := Lib.hid (rsectorF.eq_1 a b d)
  go_enter Try.func24, Try.ntmps24
  go_wp2_with fail
  refine wp_gen (fun W => (Ext w W ∧ At W w.heap.size #[.int .i64 a.x, .int .i64 a.y] ∧ At W (w.heap.size + 1) #[.int .i64 b.x, .int .i64 b.y] ∧ At W (w.heap.size + 2) #[.int .i64 d.x, .int .i64 d.y]) ∧ Pts W (w.heap.size + 3) [a, b, d])
    ⟨⟨(by repeat (first | exact Ext.refl _ | assumption | refine Ext.setCell ?_ (by first | (simp; done) | (simp; omega) | omega) _ | refine Ext.alloc ?_ _ | refine Ext.drew ?_ | refine Ext.trans ?_ (by assumption))), (((Blk.at _ 25 rfl).alloc _).alloc _ |>.alloc _).at', (((Blk.at _ 25 (by simp)).alloc _).alloc _).at', ((Blk.at _ 25 (by simp)).alloc _).at'⟩, Pts.three (Blk.at _ 25 (by simp)).at'⟩ ?_
  rintro W ⟨⟨E0, A0, A1, A2⟩, hP⟩
  have HP := Lib.hid hP; have HE := Lib.hid E0; have HA0 := Lib.hid A0; have HA1 := Lib.hid A1; have HA2 := Lib.hid A2
  clear hP E0 A0 A1 A2
  go_loopw [9] (fun v wr => ∃ i : Nat, i ≤ 3 ∧ v = .int .i64 (i : Int) ∧ Ext W wr) (fun v _ => 3 - (intOf v).toNat)
  case atStart => exact ⟨0, by omega, rfl, Ext.refl _⟩
  case round =>
    obtain ⟨i, hi, rfl, hx⟩ := hrel
    by_cases hlt : i < 3
    · obtain ⟨c0, c1⟩ := HP.out.ik hx.ik i hlt
      have hzi := HZ.out i hlt
      generalize ([a, b, d] : List Pt).getD i ⟨0, 0⟩ = p at c0 c1 hzi
      have HZI := Lib.hid hzi; have HX := Lib.hid hx; clear hzi hx
      go_wp2_with fail
      refine (rDirection_c p _).mono ?_
      rintro e w2 ⟨rfl, hx2⟩
      rw [HZI.out]
      have HX2 := Lib.hid hx2; clear hx2
      go_wp2_with fail
      go_roundw
      case rel => exact ⟨i + 1, by omega, by go_num, HX.out.trans HX2.out⟩
      case measure => simp [intOf]; omega
    · obtain rfl : i = 3 := by omega
      have E0 := HE.out.trans hx
      have A0 := At.ext hx HA0.out (by simp)
      have A1 := At.ext hx HA1.out (by simp)
      have A2 := At.ext hx HA2.out (by simp)
      clear hx
      generalize ho1 : orderF d a = o1 at HF
      generalize ho2 : orderF b a = o2 at HF
      generalize ho3 : orderF d b = o3 at HF
      have HO1 := Lib.hid ho1; have HO2 := Lib.hid ho2; have HO3 := Lib.hid ho3; clear ho1 ho2 ho3
      have hk : (o1 = 0) ∨ (o1 < 0 ∧ o2 = 0) ∨ (0 < o1 ∧ o2 = 0) ∨ (o1 < 0 ∧ o2 < 0 ∧ o3 < 0) ∨ (o1 < 0 ∧ o2 < 0 ∧ 0 ≤ o3) ∨ (0 < o1 ∧ 0 < o2 ∧ o3 < 0) ∨ (0 < o1 ∧ 0 < o2 ∧ 0 ≤ o3) ∨ (o1 < 0 ∧ 0 < o2) ∨ (0 < o1 ∧ o2 < 0) := by omega
      rcases hk with rfl | ⟨k1, rfl⟩ | ⟨k1, rfl⟩ | ⟨k1, k2, k3⟩ | ⟨k1, k2, k3⟩ | ⟨k1, k2, k3⟩ | ⟨k1, k2, k3⟩ | ⟨k1, k2⟩ | ⟨k1, k2⟩
      · go_wp2_with fail
        refine (order_c d a _ HD.out HA.out).mono ?_; rintro e w3 ⟨rfl, hx3⟩; replace E0 := E0.trans hx3; replace A0 := At.ext hx3 A0 (by simp); replace A1 := At.ext hx3 A1 (by simp); replace A2 := At.ext hx3 A2 (by simp); clear hx3
        rw [HO1.out]
        go_wp2_with fail
        refine (order_c d a _ HD.out HA.out).mono ?_; rintro e w3 ⟨rfl, hx3⟩; replace E0 := E0.trans hx3; replace A0 := At.ext hx3 A0 (by simp); replace A1 := At.ext hx3 A1 (by simp); replace A2 := At.ext hx3 A2 (by simp); clear hx3
        rw [HO1.out]
        go_wp2_with fail
        go_ret2
        exact ⟨by rw [HF.out]; rfl, E0⟩
      all_goals
        go_wp2_with fail
        refine (order_c d a _ HD.out HA.out).mono ?_; rintro e w3 ⟨rfl, hx3⟩; replace E0 := E0.trans hx3; replace A0 := At.ext hx3 A0 (by simp); replace A1 := At.ext hx3 A1 (by simp); replace A2 := At.ext hx3 A2 (by simp); clear hx3
        rw [HO1.out]
        go_wp2_with fail
        refine (order_c d a _ HD.out HA.out).mono ?_; rintro e w3 ⟨rfl, hx3⟩; replace E0 := E0.trans hx3; replace A0 := At.ext hx3 A0 (by simp); replace A1 := At.ext hx3 A1 (by simp); replace A2 := At.ext hx3 A2 (by simp); clear hx3
        rw [HO1.out]
        go_wp2_with fail
        refine (order_c b a _ HB.out HA.out).mono ?_; rintro e w3 ⟨rfl, hx3⟩; replace E0 := E0.trans hx3; replace A0 := At.ext hx3 A0 (by simp); replace A1 := At.ext hx3 A1 (by simp); replace A2 := At.ext hx3 A2 (by simp); clear hx3
        rw [HO2.out]
        go_wp2_with fail
        refine (order_c b a _ HB.out HA.out).mono ?_; rintro e w3 ⟨rfl, hx3⟩; replace E0 := E0.trans hx3; replace A0 := At.ext hx3 A0 (by simp); replace A1 := At.ext hx3 A1 (by simp); replace A2 := At.ext hx3 A2 (by simp); clear hx3
        rw [HO2.out]
        go_wp2_with fail
      · go_ret2
        exact ⟨by rw [HF.out, if_neg (by omega)]; simp, E0⟩
      · go_ret2
        exact ⟨by rw [HF.out, if_neg (by omega)]; simp, E0⟩
      · refine (order_c d b _ HD.out HB.out).mono ?_; rintro e w3 ⟨rfl, hx3⟩; replace E0 := E0.trans hx3; replace A0 := At.ext hx3 A0 (by simp); replace A1 := At.ext hx3 A1 (by simp); replace A2 := At.ext hx3 A2 (by simp); clear hx3
        rw [HO3.out]
        go_wp2_with fail
        go_ret2
        exact ⟨by rw [HF.out, if_neg (by omega), if_neg (by omega), if_neg (by rw [if_pos k1, if_pos k2]; simp)]; simp [k3], E0⟩
      · refine (order_c d b _ HD.out HB.out).mono ?_; rintro e w3 ⟨rfl, hx3⟩; replace E0 := E0.trans hx3; replace A0 := At.ext hx3 A0 (by simp); replace A1 := At.ext hx3 A1 (by simp); replace A2 := At.ext hx3 A2 (by simp); clear hx3
        rw [HO3.out]
        go_wp2_with fail
        go_ret2
        exact ⟨by rw [HF.out, if_neg (by omega), if_neg (by omega), if_neg (by rw [if_pos k1, if_pos k2]; simp)]; simp <;> omega, E0⟩
      · refine (order_c d b _ HD.out HB.out).mono ?_; rintro e w3 ⟨rfl, hx3⟩; replace E0 := E0.trans hx3; replace A0 := At.ext hx3 A0 (by simp); replace A1 := At.ext hx3 A1 (by simp); replace A2 := At.ext hx3 A2 (by simp); clear hx3
        rw [HO3.out]
        go_wp2_with fail
        go_ret2
        exact ⟨by rw [HF.out, if_neg (by omega), if_neg (by omega), if_neg (by rw [if_neg (by omega), if_neg (by omega)]; simp)]; simp [k3], E0⟩
      · refine (order_c d b _ HD.out HB.out).mono ?_; rintro e w3 ⟨rfl, hx3⟩; replace E0 := E0.trans hx3; replace A0 := At.ext hx3 A0 (by simp); replace A1 := At.ext hx3 A1 (by simp); replace A2 := At.ext hx3 A2 (by simp); clear hx3
        rw [HO3.out]
        go_wp2_with fail
        go_ret2
        exact ⟨by rw [HF.out, if_neg (by omega), if_neg (by omega), if_neg (by rw [if_neg (by omega), if_neg (by omega)]; simp)]; simp <;> omega, E0⟩
      · go_ret2
        exact ⟨by rw [HF.out, if_neg (by omega), if_neg (by omega), if_pos (by rw [if_pos k1, if_neg (by omega)]; simp), if_pos k1, if_neg (by omega)]; try rfl, E0⟩
      · go_ret2
        exact ⟨by rw [HF.out, if_neg (by omega), if_neg (by omega), if_pos (by rw [if_neg (by omega), if_pos k2]; simp), if_neg (by omega), if_pos k2]; try rfl, E0⟩
end Go.Proofs.Ytgmedfloflplgaa
