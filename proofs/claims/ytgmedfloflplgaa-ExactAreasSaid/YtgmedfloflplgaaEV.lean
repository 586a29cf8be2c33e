/- exact: valid, SideOf, sum. -/
import Derived.Test.YtgmedfloflplgaaET
/- point: within, Valid; exact: valid, SideOf. -/
namespace Go.Proofs.Ytgmedfloflplgaa
set_option linter.unusedSimpArgs false
set_option linter.unusedVariables false
open Go.RowKit

set_option maxHeartbeats 1000000 in
theorem within_c (lo x hi : Int) (w : World) : Calls Try.prog 100 #[.int .i64 lo, .int .i64 x, .int .i64 hi, .func (.func 101) #[] #[]] w fun e w' => e = .returned (.bool (decide (lo ≤ x ∧ x ≤ hi))) ∧ w = w' := by
  have hk : (x < lo ∧ cmpI lo x = 1) ∨ (lo ≤ x ∧ cmpI lo x ≤ 0 ∧ hi < x ∧ cmpI x hi = 1) ∨ (lo ≤ x ∧ cmpI lo x ≤ 0 ∧ x ≤ hi ∧ cmpI x hi ≤ 0) := by
    unfold cmpI; split <;> split <;> (try split) <;> (try split) <;> omega
  rcases hk with ⟨k1, k2⟩ | ⟨k1, k2, k3, k4⟩ | ⟨k1, k2, k3, k4⟩
  · have K2 := Lib.hid k2; clear k2
    go_enter Try.func100, Try.ntmps100
    go_wp2_with fail
    refine (cmpInt_c _ _ _).mono ?_
    rintro e w2 ⟨rfl, rfl⟩
    rw [K2.out]
    go_wp2_with fail
    go_ret
    exact ⟨by simp; omega, rfl⟩
  · generalize hc : cmpI lo x = c1 at k2
    have K4 := Lib.hid k4; have HC := Lib.hid hc; clear k4 hc
    go_enter Try.func100, Try.ntmps100
    go_wp2_with fail
    refine (cmpInt_c _ _ _).mono ?_
    rintro e w2 ⟨rfl, rfl⟩
    rw [HC.out]
    go_wp2_with fail
    refine (cmpInt_c _ _ _).mono ?_
    rintro e w2 ⟨rfl, rfl⟩
    rw [K4.out]
    go_wp2_with fail
    go_ret
    exact ⟨by simp; omega, rfl⟩
  · generalize hc : cmpI lo x = c1 at k2
    generalize hc2 : cmpI x hi = c2 at k4
    have HC2 := Lib.hid hc2; have HC := Lib.hid hc; clear hc2 hc
    go_enter Try.func100, Try.ntmps100
    go_wp2_with fail
    refine (cmpInt_c _ _ _).mono ?_
    rintro e w2 ⟨rfl, rfl⟩
    rw [HC.out]
    go_wp2_with fail
    refine (cmpInt_c _ _ _).mono ?_
    rintro e w2 ⟨rfl, rfl⟩
    rw [HC2.out]
    go_wp2_with fail
    go_ret
    exact ⟨by simp; omega, rfl⟩

/-- The error of a point of the grid. -/
def validE (p : Pt) : Int := if -1073741824 ≤ p.x ∧ p.x ≤ 1073741824 ∧ -1073741824 ≤ p.y ∧ p.y ≤ 1073741824 then 0 else 5
set_option maxHeartbeats 1000000 in
theorem pValid_c (p : Pt) (w : World) : Calls Try.prog 84 #[p.v] w fun e w' => e = .returned (.int .i64 (validE p)) ∧ Ext w w' := by
  obtain ⟨x, y⟩ := p
  have i0 : ∀ w, (Instr.index 132 (.agg #[.int .i64 x, .int .i64 y]) (.int .i64 0)).run Try.prog w = .ok (.int .i64 x) w := fun _ => by kernel_rfl
  have i1 : ∀ w, (Instr.index 132 (.agg #[.int .i64 x, .int .i64 y]) (.int .i64 1)).run Try.prog w = .ok (.int .i64 y) w := fun _ => by kernel_rfl
  by_cases h1 : -1073741824 ≤ x ∧ x ≤ 1073741824
  · by_cases h2 : -1073741824 ≤ y ∧ y ≤ 1073741824
    · have hf : validE ⟨x, y⟩ = 0 := by rw [validE, if_pos ⟨h1.1, h1.2, h2.1, h2.2⟩]
      have d1 : decide (-1073741824 ≤ x ∧ x ≤ 1073741824) = true := by simpa using h1
      have d2 : decide (-1073741824 ≤ y ∧ y ≤ 1073741824) = true := by simpa using h2
      have HF := Lib.hid hf; have D1 := Lib.hid d1; have D2 := Lib.hid d2; clear hf d1 d2 h1 h2
      go_enter Try.func84, Try.ntmps84
      go_wp2_with fail
      refine wp_loop_rounds 3 ?_
      rw [rounds_succ]
      go_wp2_with fail
      refine (within_c _ _ _ _).mono ?_
      rintro e w2 ⟨rfl, rfl⟩
      rw [D1.out]
      go_wp2_with fail
      rw [rounds_succ]
      go_wp2_with fail
      refine (within_c _ _ _ _).mono ?_
      rintro e w2 ⟨rfl, rfl⟩
      rw [D2.out]
      go_wp2_with fail
      rw [rounds_succ]
      go_wp2_with fail
      go_ret
      exact ⟨by rw [HF.out]; rfl, (by repeat (first | exact Ext.refl _ | assumption | refine Ext.setCell ?_ (by first | (simp; done) | (simp; omega) | omega) _ | refine Ext.alloc ?_ _ | refine Ext.drew ?_ | refine Ext.trans ?_ (by assumption)))⟩
    · have hf : validE ⟨x, y⟩ = 5 := by rw [validE, if_neg (by simp only; omega)]
      have d1 : decide (-1073741824 ≤ x ∧ x ≤ 1073741824) = true := by simpa using h1
      have d2 : decide (-1073741824 ≤ y ∧ y ≤ 1073741824) = false := by rw [decide_eq_false_iff_not]; exact h2
      have HF := Lib.hid hf; have D1 := Lib.hid d1; have D2 := Lib.hid d2; clear hf d1 d2 h1 h2
      go_enter Try.func84, Try.ntmps84
      go_wp2_with fail
      refine wp_loop_rounds 2 ?_
      rw [rounds_succ]
      go_wp2_with fail
      refine (within_c _ _ _ _).mono ?_
      rintro e w2 ⟨rfl, rfl⟩
      rw [D1.out]
      go_wp2_with fail
      rw [rounds_succ]
      go_wp2_with fail
      refine (within_c _ _ _ _).mono ?_
      rintro e w2 ⟨rfl, rfl⟩
      rw [D2.out]
      go_wp2_with fail
      go_ret
      exact ⟨by rw [HF.out]; rfl, (by repeat (first | exact Ext.refl _ | assumption | refine Ext.setCell ?_ (by first | (simp; done) | (simp; omega) | omega) _ | refine Ext.alloc ?_ _ | refine Ext.drew ?_ | refine Ext.trans ?_ (by assumption)))⟩
  · have hf : validE ⟨x, y⟩ = 5 := by rw [validE, if_neg (by simp only; omega)]
    have d1 : decide (-1073741824 ≤ x ∧ x ≤ 1073741824) = false := by rw [decide_eq_false_iff_not]; exact h1
    have HF := Lib.hid hf; have D1 := Lib.hid d1; clear hf d1 h1
    go_enter Try.func84, Try.ntmps84
    go_wp2_with fail
    refine wp_loop_rounds 1 ?_
    rw [rounds_succ]
    go_wp2_with fail
    refine (within_c _ _ _ _).mono ?_
    rintro e w2 ⟨rfl, rfl⟩
    rw [D1.out]
    go_wp2_with fail
    go_ret
    exact ⟨by rw [HF.out]; rfl, (by repeat (first | exact Ext.refl _ | assumption | refine Ext.setCell ?_ (by first | (simp; done) | (simp; omega) | omega) _ | refine Ext.alloc ?_ _ | refine Ext.drew ?_ | refine Ext.trans ?_ (by assumption)))⟩
end Go.Proofs.Ytgmedfloflplgaa
/- exact: valid, SideOf. -/
namespace Go.Proofs.Ytgmedfloflplgaa
set_option linter.unusedSimpArgs false
set_option linter.unusedVariables false
open Go.RowKit

theorem validE_bd (p : Pt) : 0 ≤ validE p ∧ validE p ≤ 5 := by unfold validE; split <;> omega
theorem firstE_bd {f : Pt → Int} (hf : ∀ p, 0 ≤ f p ∧ f p ≤ 5) : ∀ l : List Pt, 0 ≤ firstE f l ∧ firstE f l ≤ 5
  | [] => by simp [firstE]
  | p :: l => by rw [firstE]; split; exact firstE_bd hf l; exact hf p
/-- A valid point. -/
def Good (p : Pt) : Prop := -1073741824 ≤ p.x ∧ p.x ≤ 1073741824 ∧ -1073741824 ≤ p.y ∧ p.y ≤ 1073741824
theorem good_of_validE {p : Pt} (h : validE p = 0) : Good p := by
  unfold validE at h; split at h
  · assumption
  · cases h

set_option maxHeartbeats 2000000 in
theorem evalid_c (b n c : Nat) (l : List Pt) (w : World) (hn : l.length = n) (hc : n ≤ c) (hc4 : c ≤ 1000) (h : Pts w b l) :
    Calls Try.prog 52 #[.slice (some ⟨b, 0, none⟩) n c] w fun e w' => e = .returned (.int .i64 (firstE validE l)) ∧ Ext w w' := by
  have HN := Lib.hid hn; have HP := Lib.hid h; clear hn h
  go_enter Try.func52, Try.ntmps52
  go_wp2
  go_loopw [8] (fun v wr => ∃ i : Nat, i ≤ n ∧ v = .int .i64 (i : Int) ∧ (∀ j, j < i → validE (l.getD j ⟨0, 0⟩) = 0) ∧ Ext w wr) (fun v _ => n - (intOf v).toNat)
  case atStart => exact ⟨0, by omega, rfl, fun j hj => absurd hj (by omega), Ext.refl _⟩
  case round =>
    obtain ⟨i, hi, rfl, hz, hx⟩ := hrel
    have HZ := Lib.hid hz; have HX := Lib.hid hx; clear hz hx
    by_cases hlt : i < n
    · obtain ⟨c0, c1⟩ := HP.out.ik HX.out.ik i (by rw [HN.out]; exact hlt)
      generalize hp : l.getD i ⟨0, 0⟩ = p at c0 c1
      have HPE := Lib.hid hp; clear hp
      by_cases hv : validE p = 0
      · have HV := Lib.hid hv; clear hv
        go_wp2_with fail
        refine (pValid_c p _).mono ?_
        rintro e w2 ⟨rfl, hx2⟩
        rw [HV.out]
        have hE : Ext w w2 := (HX.out.alloc _).trans hx2
        have HE := Lib.hid hE; clear hE hx2
        go_wp2_with fail
        go_roundw
        case rel =>
          refine ⟨i + 1, by omega, by go_num, fun j hj => ?_, HE.out⟩
          by_cases hji : j < i
          · exact HZ.out j hji
          · obtain rfl : j = i := by omega
            rw [HPE.out]; exact HV.out
        case measure => simp [intOf]; omega
      · have hfin : firstE validE l = validE p := by rw [firstE_at i (by rw [HN.out]; exact hlt) HZ.out (by rw [HPE.out]; exact hv), HPE.out]
        have hv' : (validE p != 0) = true := by rw [bne_iff_ne]; exact hv
        have HF := Lib.hid hfin; clear hfin hv
        go_wp2_with fail
        refine (pValid_c p _).mono ?_
        rintro e w2 ⟨rfl, hx2⟩
        have hE : Ext w w2 := (HX.out.alloc _).trans hx2
        have HE := Lib.hid hE; clear hE hx2
        generalize validE p = v at *
        go_wp2_with fail
        go_ret
        exact ⟨by rw [HF.out]; rfl, HE.out⟩
    · obtain rfl : i = n := by omega
      have hfin : firstE validE l = 0 := firstE_none (by rw [HN.out]; exact HZ.out)
      have HD := Lib.hid hfin; clear hfin
      go_wp2_with fail
      go_ret
      exact ⟨by rw [HD.out]; rfl, HX.out⟩

/-- The side of a point of the grid. -/
def sideF (a b c : Pt) : Int := cmpI ((b.x - a.x) * (c.y - a.y)) ((b.y - a.y) * (c.x - a.x))
def SideOfF (a b c : Pt) : Int × Int := if firstE validE [a, b, c] = 0 then (sideF a b c, 0) else (0, firstE validE [a, b, c])
theorem side_good (a b c : Pt) (w : World) (ha : Good a) (hb : Good b) (hc : Good c) : Calls Try.prog 53 #[a.v, b.v, c.v] w fun e w' => e = .returned (.int .i64 (sideF a b c)) ∧ Ext w w' := by
  obtain ⟨a1, a2, a3, a4⟩ := ha
  obtain ⟨b1, b2, b3, b4⟩ := hb
  obtain ⟨c1, c2, c3, c4⟩ := hc
  exact side_c a b c w (by omega) (by omega) (by omega) (by omega) (by omega) (by omega) (by omega) (by omega)

set_option maxHeartbeats 2000000 in
theorem SideOf_c (a b d : Pt) (w : World) : Calls Try.prog 16 #[a.v, b.v, d.v] w fun e w' => e = .returned (.tuple #[.int .i64 (SideOfF a b d).1, .int .i64 (SideOfF a b d).2]) ∧ Ext w w' := by
  go_enter Try.func16, Try.ntmps16
  go_wp2_with fail
  refine (evalid_c _ 3 3 [a, b, d] _ rfl (by omega) (by omega) (Pts.three (Blk.at _ 25 (by simp)).at')).mono ?_
  rintro e w2 ⟨rfl, hx⟩
  have hA : At w2 w.heap.size #[.int .i64 a.x, .int .i64 a.y] := (((Blk.at _ 25 rfl).alloc _).alloc _ |>.alloc _).ext hx |>.at'
  have hB : At w2 (w.heap.size + 1) #[.int .i64 b.x, .int .i64 b.y] := (((Blk.at _ 25 (by simp)).alloc _).alloc _).ext hx |>.at'
  have hD : At w2 (w.heap.size + 2) #[.int .i64 d.x, .int .i64 d.y] := ((Blk.at _ 25 (by simp)).alloc _).ext hx |>.at'
  have hE : Ext w w2 := (by repeat (first | exact Ext.refl _ | assumption | refine Ext.setCell ?_ (by first | (simp; done) | (simp; omega) | omega) _ | refine Ext.alloc ?_ _ | refine Ext.drew ?_ | refine Ext.trans ?_ (by assumption)))
  have HE := Lib.hid hE; clear hx hE
  by_cases h0 : firstE validE [a, b, d] = 0
  · have hn : Good a ∧ Good b ∧ Good d := ⟨good_of_validE (firstE_zero h0 a (by simp)), good_of_validE (firstE_zero h0 b (by simp)), good_of_validE (firstE_zero h0 d (by simp))⟩
    have hF : SideOfF a b d = (sideF a b d, 0) := by rw [SideOfF, if_pos h0]
    have HF := Lib.hid hF; have HN := Lib.hid hn; clear hF hn
    rw [h0]
    clear h0
    go_wp2_with fail
    refine (side_good a b d _ HN.out.1 HN.out.2.1 HN.out.2.2).mono ?_
    rintro e w3 ⟨rfl, hx3⟩
    have HE3 := Lib.hid (HE.out.trans hx3); clear hx3
    go_wp2_with fail
    go_ret2
    exact ⟨by rw [HF.out]; rfl, HE3.out⟩
  · have h1 : (firstE validE [a, b, d] != 0) = true := by rw [bne_iff_ne]; exact h0
    have hF : SideOfF a b d = (0, firstE validE [a, b, d]) := by rw [SideOfF, if_neg h0]
    have HF := Lib.hid hF; clear hF h0
    generalize firstE validE [a, b, d] = ev at *
    go_wp2_with fail
    go_ret2
    exact ⟨by rw [HF.out]; rfl, HE.out⟩
end Go.Proofs.Ytgmedfloflplgaa
/- exact: sum. -/
namespace Go.Proofs.Ytgmedfloflplgaa
set_option linter.unusedSimpArgs false
set_option linter.unusedVariables false
open Go.RowKit

/-- A slice of wide integers. -/
def Vec (w : World) (b : Nat) (ps : List IV) (xs : List Int) : Prop :=
  xs.length = ps.length ∧ b < w.heap.size ∧ ∀ k, k < ps.length → w.cell? ⟨b, k * 2, none⟩ = some (.bool (ps.getD k ⟨false, none, 0, 0⟩).neg) ∧
    w.cell? ⟨b, k * 2 + 1, none⟩ = some (.slice (ps.getD k ⟨false, none, 0, 0⟩).a (ps.getD k ⟨false, none, 0, 0⟩).n (ps.getD k ⟨false, none, 0, 0⟩).c) ∧ IsI w (ps.getD k ⟨false, none, 0, 0⟩) (xs.getD k 0)
theorem Vec.ext {w w' : World} {b : Nat} {ps : List IV} {xs : List Int} (k : Ext w w') (h : Vec w b ps xs) : Vec w' b ps xs :=
  ⟨h.1, Nat.lt_of_lt_of_le h.2.1 k.size, fun i hi => ⟨k.cell (h.2.2 i hi).1, k.cell (h.2.2 i hi).2.1, (h.2.2 i hi).2.2.keep k.ik⟩⟩
/-- One of the lists that are summed up: where it lies, its values, its numbers. -/
structure Row1 where
  b : Nat
  c : Nat
  ps : List IV
  xs : List Int
/-- A slice of slices of wide integers. -/
def Vecs (w : World) (B : Nat) (L : List Row1) : Prop :=
  ∀ i, i < L.length → w.cell? ⟨B, i, none⟩ = some (.slice (some ⟨(L.getD i ⟨0, 0, [], []⟩).b, 0, none⟩) (L.getD i ⟨0, 0, [], []⟩).ps.length (L.getD i ⟨0, 0, [], []⟩).c) ∧ (L.getD i ⟨0, 0, [], []⟩).ps.length ≤ 1000 ∧
    Vec w (L.getD i ⟨0, 0, [], []⟩).b (L.getD i ⟨0, 0, [], []⟩).ps (L.getD i ⟨0, 0, [], []⟩).xs
theorem Vecs.ext {w w' : World} {B : Nat} {L : List Row1} (k : Ext w w') (h : Vecs w B L) : Vecs w' B L :=
  fun i hi => ⟨k.cell (h i hi).1, (h i hi).2.1, (h i hi).2.2.ext k⟩

def prodL : List Int → Int
  | [] => 1
  | x :: l => x * prodL l
def sumL : List Int → Int
  | [] => 0
  | x :: l => x + sumL l
theorem prodL_append (l k : List Int) : prodL (l ++ k) = prodL l * prodL k := by
  induction l with
  | nil => simp [prodL]
  | cons x l ih => simp [prodL, ih, Int.mul_assoc]
theorem sumL_append (l k : List Int) : sumL (l ++ k) = sumL l + sumL k := by
  induction l with
  | nil => simp [sumL]
  | cons x l ih => simp [sumL, ih, Int.add_assoc]
theorem prodL_next (l : List Int) (k : Nat) (h : k < l.length) : prodL (l.take (k + 1)) = prodL (l.take k) * l.getD k 0 := by
  rw [List.take_succ_eq_append_getElem h, prodL_append]; simp [prodL, h]
theorem sumL_next (l : List Int) (k : Nat) (h : k < l.length) : sumL (l.take (k + 1)) = sumL (l.take k) + l.getD k 0 := by
  rw [List.take_succ_eq_append_getElem h, sumL_append]; simp [sumL, h]
/-- The products of the lists. -/
def prods (L : List Row1) : List Int := L.map fun r => prodL r.xs
def Sm (x : Int) : Prop := x.natAbs < 340282366920938463463374607431768211456
theorem Sm.lim {x : Int} (h : Sm x) : lim x = (x, 0) := lim_small h

/-- What holds in the midst of the outer rounds. -/
def OutMid (w ws : World) (b2 b3 : Nat) (L : List Row1) (i : Nat) : Prop :=
  ∃ r : IV, IsI ws r (sumL ((prods L).take i)) ∧ At ws b3 #[.bool r.neg, .slice r.a r.n r.c] ∧ Own ws b3 2 ∧ Own ws b2 2 ∧ Ext w ws
theorem OutMid.ext {w ws ws' : World} {b2 b3 : Nat} {L : List Row1} {i : Nat} (k : Ext ws ws') (h : OutMid w ws b2 b3 L i) : OutMid w ws' b2 b3 L i := by
  obtain ⟨r, h1, h2, h3, h4, h5⟩ := h
  exact ⟨r, h1.keep k.ik, h2.ext k (by simp), h3.ext k (by simp), h4.ext k (by simp), h5.trans k⟩
theorem Own.put2 {w : World} {b b' : Nat} (h : Own w b 2) (g : Bool) (a : Option Addr) (n c : Nat) : Own ((w.setCell ⟨b', 0, none⟩ (.bool g)).setCell ⟨b', 1, none⟩ (.slice a n c)) b 2 :=
  ⟨own1_set (own1_set h.1), own2_set (own2_set h.2.1), own3_set (own3_set h.2.2 (by simp)) (by simp)⟩
theorem OutMid.put {w ws : World} {b2 b3 b6 : Nat} {L : List Row1} {i : Nat} (h : OutMid w ws b2 b3 L i) (h6 : Own ws b6 2) (hne : b3 ≠ b6) (hw : w.heap.size ≤ b6) (q : IV) :
    OutMid w ((ws.setCell ⟨b6, 0, none⟩ (.bool q.neg)).setCell ⟨b6, 1, none⟩ (.slice q.a q.n q.c)) b2 b3 L i := by
  obtain ⟨r, h1, h2, h3, h4, h5⟩ := h
  exact ⟨r, h1.keep (IK.put2 h6 _ _ _ _), At.set (At.set h2 hne) hne, h3.put2 _ _ _ _, h4.put2 _ _ _ _, (h5.setCell hw _).setCell hw _⟩
theorem own_isSome {w : World} {b n o : Nat} (h : Own w b n) (ho : o < n) : (w.cell? ⟨b, o, none⟩).isSome = true := by rw [h.1 o ho]; rfl

/-- What holds in the midst of the inner rounds. -/
def InMid (w ws : World) (b2 b3 b6 : Nat) (L : List Row1) (i : Nat) (xs : List Int) (k : Nat) : Prop :=
  OutMid w ws b2 b3 L i ∧ ∃ q : IV, IsI ws q (prodL (xs.take k)) ∧ At ws b6 #[.bool q.neg, .slice q.a q.n q.c] ∧ Own ws b6 2
theorem InMid.ext {w ws ws' : World} {b2 b3 b6 : Nat} {L : List Row1} {i : Nat} {xs : List Int} {k : Nat} (e : Ext ws ws') (h : InMid w ws b2 b3 b6 L i xs k) : InMid w ws' b2 b3 b6 L i xs k := by
  obtain ⟨h0, q, h1, h2, h3⟩ := h
  exact ⟨h0.ext e, q, h1.keep e.ik, h2.ext e (by simp), h3.ext e (by simp)⟩

set_option maxHeartbeats 4000000 in
theorem sum_c' (B n c : Nat) (L : List Row1) (w : World) (hn : L.length = n) (hc4 : n ≤ 1000) (h : Vecs w B L)
    (hP : ∀ i, i < n → ∀ k, Sm (prodL ((L.getD i ⟨0, 0, [], []⟩).xs.take k))) (hS : ∀ i, Sm (sumL ((prods L).take i))) :
    Calls Try.prog 54 #[.slice (some ⟨B, 0, none⟩) n c] w (RetI (sumL (prods L)) w) := by
  have HN := Lib.hid hn; have HV := Lib.hid h; have HP := Lib.hid hP; have HS := Lib.hid hS; clear hn h hP hS
  go_enter Try.func54, Try.ntmps54
  go_upto_region 2 with (fail)
  refine wp_gen (fun W => OutMid w W w.heap.size (w.heap.size + 1) L 0)
    ⟨⟨false, none, 0, 0⟩, isI_zero _, (Blk.at _ 47 (by simp)).at', (Blk.at _ 47 (by simp)).own _ (by simp) noIntW, ((Blk.at _ 47 rfl).alloc _).own _ (by simp) noIntW, (by repeat (first | exact Ext.refl _ | assumption | refine Ext.setCell ?_ (by first | (simp; done) | (simp; omega) | omega) _ | refine Ext.alloc ?_ _ | refine Ext.drew ?_ | refine Ext.trans ?_ (by assumption)))⟩ ?_
  intro W hO
  have HO := Lib.hid hO; clear hO
  go_wp2_with fail
  go_loopw [11] (fun v ws => ∃ i : Nat, i ≤ n ∧ v = .int .i64 (i : Int) ∧ OutMid w ws w.heap.size (w.heap.size + 1) L i) (fun v _ => n - (intOf v).toNat)
  case atStart => exact ⟨0, by omega, rfl, HO.out⟩
  case round =>
    obtain ⟨i, hi, rfl, hO⟩ := hrel
    have HO := Lib.hid hO; clear hO
    by_cases hlt : i < n
    · have hpl : (prods L).getD i 0 = prodL (L.getD i ⟨0, 0, [], []⟩).xs := by
        simp [prods, List.getD_eq_getElem?_getD, show i < L.length by rw [HN.out]; exact hlt]
      have hv := HV.out i (by rw [HN.out]; exact hlt)
      have hp := HP.out i hlt
      generalize L.getD i ⟨0, 0, [], []⟩ = R at hpl hv hp
      obtain ⟨bi, ci, ps, xs⟩ := R
      simp only at hpl hv hp
      obtain ⟨hcell, hci2, hvec⟩ := hv
      have HVEC := Lib.hid hvec; have HPL := Lib.hid hpl; have HPI := Lib.hid hp; clear hpl hp hvec
      obtain ⟨_, _, _, _, _, hext⟩ := HO.out
      have hcell2 := hext.cell hcell
      clear hcell hext
      go_wp2_with fail
      refine (From_c 1 _ (by omega) (by omega)).mono ?_
      rintro e w2 ⟨q0, rfl, hq0, hx2⟩
      have hb3 : w.heap.size + 1 < w2.heap.size := by
        obtain ⟨_, _, _, ho, _, _⟩ := OutMid.ext hx2 HO.out
        exact ho.lt (by omega)
      have HI := Lib.hid (show InMid w (w2.alloc (.cells #[.bool q0.neg, .slice q0.a q0.n q0.c] 47)) w.heap.size (w.heap.size + 1) w2.heap.size L i xs 0 from
        ⟨OutMid.ext (by repeat (first | exact Ext.refl _ | assumption | refine Ext.setCell ?_ (by first | (simp; done) | (simp; omega) | omega) _ | refine Ext.alloc ?_ _ | refine Ext.drew ?_ | refine Ext.trans ?_ (by assumption))) (OutMid.ext hx2 HO.out), q0, by rw [List.take_zero]; exact hq0.keep (by repeat (first | exact IK.refl _ | refine IK.alloc ?_ _ | refine IK.drew ?_ | refine IK.setCell ?_ (by simp [hc, go_sem]) _)), (Blk.at _ 47 rfl).at', (Blk.at _ 47 rfl).own _ (by simp) (noInt2 _ _ (by simp) (by simp))⟩)
      clear hcell2 hq0 hx2
      go_upto_region 6 with (fail)
      refine wp_gen (fun W => InMid w W w.heap.size (w.heap.size + 1) w2.heap.size L i xs 0) HI.out ?_
      generalize w2.heap.size = b6 at *
      intro W2 hI
      have HI2 := Lib.hid hI; clear hI HI
      go_wp2_with fail
      go_loopw [18] (fun v ws => ∃ k : Nat, k ≤ ps.length ∧ v = .int .i64 (k : Int) ∧ InMid w ws w.heap.size (w.heap.size + 1) b6 L i xs k) (fun v _ => ps.length - (intOf v).toNat)
      case atStart => exact ⟨0, by omega, rfl, HI2.out⟩
      case round =>
        obtain ⟨k, hk, rfl, hI⟩ := hrel
        obtain ⟨hO, q, hq, hA, hW⟩ := hI
        obtain ⟨r, hr, hrA, hrO, hrO2, hE⟩ := hO
        have HE := Lib.hid hE; have HQ := Lib.hid hq; have HR := Lib.hid hr; clear hE hq hr
        by_cases hkl : k < ps.length
        · obtain ⟨d0, d1, d2⟩ := HVEC.out.2.2 k hkl
          have e0 := HE.out.cell d0
          have e1 := HE.out.cell d1
          have hnx := prodL_next xs k (by rw [HVEC.out.1]; exact hkl)
          generalize ps.getD k ⟨false, none, 0, 0⟩ = f at d0 d1 d2 e0 e1
          generalize xs.getD k 0 = x at d2 hnx
          have HD := Lib.hid (d2.keep HE.out.ik); have HNX := Lib.hid hnx; clear d0 d1 d2 hnx
          have hl6 := hA.lt (by simp)
          go_wp2_with fail
          refine (Mul_c q f _ x _ (HQ.out.keep (by repeat (first | exact IK.refl _ | refine IK.alloc ?_ _ | refine IK.drew ?_ | refine IK.setCell ?_ (by simp [hc, go_sem]) _))) (HD.out.keep (by repeat (first | exact IK.refl _ | refine IK.alloc ?_ _ | refine IK.drew ?_ | refine IK.setCell ?_ (by simp [hc, go_sem]) _)))).mono ?_
          rw [← HNX.out, (HPI.out (k + 1)).lim]
          rintro e w3 ⟨q2, rfl, hq2, hx3⟩
          have hX : Ext wr w3 := Ext.trans (by repeat (first | exact Ext.refl _ | assumption | refine Ext.setCell ?_ (by first | (simp; done) | (simp; omega) | omega) _ | refine Ext.alloc ?_ _ | refine Ext.drew ?_ | refine Ext.trans ?_ (by assumption))) hx3
          have hA3 := hA.ext hX (by simp)
          have hW3 := hW.ext hX (by omega)
          have HO3 := Lib.hid (show OutMid w w3 w.heap.size (w.heap.size + 1) L i from OutMid.ext hX ⟨r, HR.out, hrA, hrO, hrO2, HE.out⟩)
          have HQ2 := Lib.hid hq2
          clear hX hx3 hA hW hrA hrO hrO2 hq2 e0 e1
          go_wp2_with fail
          go_roundw
          case rel =>
            refine ⟨k + 1, by omega, by go_num, HO3.out.put hW3 (by omega) (by omega) q2, q2, HQ2.out.keep (IK.put2 hW3 _ _ _ _), At.put2 (own_isSome hW3 (by omega)) (own_isSome hW3 (by omega)), hW3.put2 _ _ _ _⟩
          case measure => simp [intOf]; omega
        · obtain rfl : k = ps.length := by omega
          have hl6 := hA.lt (by simp)
          have hl3 := hrA.lt (by simp)
          have hprod : prodL (xs.take ps.length) = prodL xs := by rw [← HVEC.out.1, List.take_of_length_le (Nat.le_refl _)]
          have hsn := sumL_next (prods L) i (by simp [prods, HN.out, hlt])
          rw [HPL.out] at hsn
          have HPR := Lib.hid hprod; have HSN := Lib.hid hsn; clear hprod hsn
          go_wp2_with fail
          refine (Add_c r q _ _ _ HR.out HQ.out).mono ?_
          rw [HPR.out, ← HSN.out, (HS.out (i + 1)).lim]
          rintro e w3 ⟨q2, rfl, hq2, hx3⟩
          have hA3 := hrA.ext hx3 (by simp)
          have hW3 := hrO.ext hx3 (by omega)
          have hW2 := hrO2.ext hx3 (by omega)
          have HE3 := Lib.hid (HE.out.trans hx3)
          have HQ2 := Lib.hid hq2
          clear hx3 hA hW hrA hrO hrO2 hq2
          go_wp2_with fail
          go_roundw
          case rel =>
            exact ⟨i + 1, by omega, by go_num, q2, HQ2.out.keep (IK.put2 hW3 _ _ _ _), At.put2 (own_isSome hW3 (by omega)) (own_isSome hW3 (by omega)), hW3.put2 _ _ _ _, hW2.put2 _ _ _ _, (HE3.out.setCell (by simp) _).setCell (by simp) _⟩
          case measure => simp [intOf]; omega
    · obtain rfl : i = n := by omega
      obtain ⟨r, hr, hrA, hrO, hrO2, hE⟩ := HO.out
      have hl2 := hrO2.lt (by omega)
      have hall : sumL ((prods L).take i) = sumL (prods L) := by rw [List.take_of_length_le (by simp [prods, HN.out])]
      have HALL := Lib.hid hall; have HR := Lib.hid hr; have HE := Lib.hid hE; clear hall hr hE
      go_wp2_with fail
      refine bodyPost_ret (v := r.v) (by simp [results, Try.results54, go_sem, hrO2]) rfl ?_
      exact ⟨r, rfl, by rw [← HALL.out]; exact HR.out.keep (IK.put2 hrO2 _ _ _ _), (HE.out.setCell (Nat.le_refl _) _).setCell (Nat.le_refl _) _⟩
end Go.Proofs.Ytgmedfloflplgaa
