/- exact: valid, SideOf. -/
import Derived.Test.YtgmedfloflplgaaEValid
namespace Go.Proofs.Ytgmedfloflplgaa
open Go.RowKit

theorem validE_bd (p : Pt) : 0 ≤ validE p ∧ validE p ≤ 5 := by unfold validE; split <;> omega
theorem firstE_bd {f : Pt → Int} (hf : ∀ p, 0 ≤ f p ∧ f p ≤ 5) : ∀ l : List Pt, 0 ≤ firstE f l ∧ firstE f l ≤ 5
  | [] => by simp [firstE]
  | p :: l => by rw [firstE]; split; exact firstE_bd hf l; exact hf p
/-- A valid point. -/
def Good (p : Pt) : Prop := -1073741824 ≤ p.x ∧ p.x ≤ 1073741824 ∧ -1073741824 ≤ p.y ∧ p.y ≤ 1073741824
theorem good_of_validE {p : Pt} (h : validE p = 0) : Good p := by
  unfold validE at h; split at h
  · assumption
  · cases h

set_option maxHeartbeats 2000000 in
theorem evalid_c (b n c : Nat) (l : List Pt) (w : World) (hn : l.length = n) (hc : n ≤ c) (hc4 : c ≤ 1000) (h : Pts w b l) :
    Calls Try.prog 52 #[.slice (some ⟨b, 0, none⟩) n c] w fun e w' => e = .returned (.int .i64 (firstE validE l)) ∧ Ext w w' := by
  have HN := Lib.hid hn; have HP := Lib.hid h; clear hn h
  go_enter Try.func52, Try.ntmps52
  go_wp2
  go_loopw [8] (fun v wr => ∃ i : Nat, i ≤ n ∧ v = .int .i64 (i : Int) ∧ (∀ j, j < i → validE (l.getD j ⟨0, 0⟩) = 0) ∧ Ext w wr) (fun v _ => n - (intOf v).toNat)
  case atStart => exact ⟨0, by omega, rfl, fun j hj => absurd hj (by omega), Ext.refl _⟩
  case round =>
    obtain ⟨i, hi, rfl, hz, hx⟩ := hrel
    have HZ := Lib.hid hz; have HX := Lib.hid hx; clear hz hx
    by_cases hlt : i < n
    · obtain ⟨c0, c1⟩ := HP.out.ik HX.out.ik i (by rw [HN.out]; exact hlt)
      generalize hp : l.getD i ⟨0, 0⟩ = p at c0 c1
      have HPE := Lib.hid hp; clear hp
      by_cases hv : validE p = 0
      · have HV := Lib.hid hv; clear hv
        go_wp2_with fail
        refine (pValid_c p _).mono ?_
        rintro e w2 ⟨rfl, hx2⟩
        rw [HV.out]
        have hE : Ext w w2 := (HX.out.alloc _).trans hx2
        have HE := Lib.hid hE; clear hE hx2
        go_wp2_with fail
        go_roundw
        case rel =>
          refine ⟨i + 1, by omega, by go_num, fun j hj => ?_, HE.out⟩
          by_cases hji : j < i
          · exact HZ.out j hji
          · obtain rfl : j = i := by omega
            rw [HPE.out]; exact HV.out
        case measure => simp [intOf]; omega
      · have hfin : firstE validE l = validE p := by rw [firstE_at i (by rw [HN.out]; exact hlt) HZ.out (by rw [HPE.out]; exact hv), HPE.out]
        have hv' : (validE p != 0) = true := by rw [bne_iff_ne]; exact hv
        have HF := Lib.hid hfin; clear hfin hv
        go_wp2_with fail
        refine (pValid_c p _).mono ?_
        rintro e w2 ⟨rfl, hx2⟩
        have hE : Ext w w2 := (HX.out.alloc _).trans hx2
        have HE := Lib.hid hE; clear hE hx2
        generalize validE p = v at *
        go_wp2_with fail
        go_ret
        exact ⟨by rw [HF.out]; rfl, HE.out⟩
    · obtain rfl : i = n := by omega
      have hfin : firstE validE l = 0 := firstE_none (by rw [HN.out]; exact HZ.out)
      have HD := Lib.hid hfin; clear hfin
      go_wp2_with fail
      go_ret
      exact ⟨by rw [HD.out]; rfl, HX.out⟩

/-- The side of a point of the grid. -/
def sideF (a b c : Pt) : Int := cmpI ((b.x - a.x) * (c.y - a.y)) ((b.y - a.y) * (c.x - a.x))
def SideOfF (a b c : Pt) : Int × Int := if firstE validE [a, b, c] = 0 then (sideF a b c, 0) else (0, firstE validE [a, b, c])
theorem side_good (a b c : Pt) (w : World) (ha : Good a) (hb : Good b) (hc : Good c) : Calls Try.prog 53 #[a.v, b.v, c.v] w fun e w' => e = .returned (.int .i64 (sideF a b c)) ∧ Ext w w' := by
  obtain ⟨a1, a2, a3, a4⟩ := ha
  obtain ⟨b1, b2, b3, b4⟩ := hb
  obtain ⟨c1, c2, c3, c4⟩ := hc
  exact side_c a b c w (by omega) (by omega) (by omega) (by omega) (by omega) (by omega) (by omega) (by omega)

set_option maxHeartbeats 2000000 in
theorem SideOf_c (a b d : Pt) (w : World) : Calls Try.prog 16 #[a.v, b.v, d.v] w fun e w' => e = .returned (.tuple #[.int .i64 (SideOfF a b d).1, .int .i64 (SideOfF a b d).2]) ∧ Ext w w' := by
  go_enter Try.func16, Try.ntmps16
  go_wp2_with fail
  refine (evalid_c _ 3 3 [a, b, d] _ rfl (by omega) (by omega) (Pts.three (Blk.at _ 25 (by simp)).at')).mono ?_
  rintro e w2 ⟨rfl, hx⟩
  have hA : At w2 w.heap.size #[.int .i64 a.x, .int .i64 a.y] := (((Blk.at _ 25 rfl).alloc _).alloc _ |>.alloc _).ext hx |>.at'
  have hB : At w2 (w.heap.size + 1) #[.int .i64 b.x, .int .i64 b.y] := (((Blk.at _ 25 (by simp)).alloc _).alloc _).ext hx |>.at'
  have hD : At w2 (w.heap.size + 2) #[.int .i64 d.x, .int .i64 d.y] := ((Blk.at _ 25 (by simp)).alloc _).ext hx |>.at'
  have hE : Ext w w2 := (by repeat (first | exact Ext.refl _ | assumption | refine Ext.setCell ?_ (by first | (simp; done) | (simp; omega) | omega) _ | refine Ext.alloc ?_ _ | refine Ext.drew ?_ | refine Ext.trans ?_ (by assumption)))
  have HE := Lib.hid hE; clear hx hE
  by_cases h0 : firstE validE [a, b, d] = 0
  · have hn : Good a ∧ Good b ∧ Good d := ⟨good_of_validE (firstE_zero h0 a (by simp)), good_of_validE (firstE_zero h0 b (by simp)), good_of_validE (firstE_zero h0 d (by simp))⟩
    have hF : SideOfF a b d = (sideF a b d, 0) := by rw [SideOfF, if_pos h0]
    have HF := Lib.hid hF; have HN := Lib.hid hn; clear hF hn
    rw [h0]
    clear h0
    go_wp2_with fail
    refine (side_good a b d _ HN.out.1 HN.out.2.1 HN.out.2.2).mono ?_
    rintro e w3 ⟨rfl, hx3⟩
    have HE3 := Lib.hid (HE.out.trans hx3); clear hx3
    go_wp2_with fail
    go_ret2
    exact ⟨by rw [HF.out]; rfl, HE3.out⟩
  · have h1 : (firstE validE [a, b, d] != 0) = true := by rw [bne_iff_ne]; exact h0
    have hF : SideOfF a b d = (0, firstE validE [a, b, d]) := by rw [SideOfF, if_neg h0]
    have HF := Lib.hid hF; clear hF h0
    generalize firstE validE [a, b, d] = ev at *
    go_wp2_with fail
    go_ret2
    exact ⟨by rw [HF.out]; rfl, HE.out⟩
end Go.Proofs.Ytgmedfloflplgaa
