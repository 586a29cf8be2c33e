/- slices.BinarySearchFunc at points. -/
import Derived.Test.YtagiaiocgjagnaaQWT
import Derived.Test.YtagiaiocgjagnaaQX32
import Derived.Test.YtagiaiocgjagnaaQC09
namespace Go.Proofs.Ytagiaiocgjagnaa
set_option linter.unusedSimpArgs false
set_option linter.unusedVariables false
open Go.RowKit

theorem GAt.p8 {w : World} {h : Nat} {l : List PV} (H : GAt encPV w h l) {i : Nat} {p : PV} (hi : l[i]? = some p) : w.cell? ⟨h, i * 8, none⟩ = some (.bool p.x.n.neg) ∧ w.cell? ⟨h, i * 8 + 1, none⟩ = some (.slice p.x.n.a p.x.n.n p.x.n.c) ∧ w.cell? ⟨h, i * 8 + 2, none⟩ = some (.bool p.x.d.neg) ∧ w.cell? ⟨h, i * 8 + 3, none⟩ = some (.slice p.x.d.a p.x.d.n p.x.d.c) ∧ w.cell? ⟨h, i * 8 + 4, none⟩ = some (.bool p.y.n.neg) ∧ w.cell? ⟨h, i * 8 + 5, none⟩ = some (.slice p.y.n.a p.y.n.n p.y.n.c) ∧ w.cell? ⟨h, i * 8 + 6, none⟩ = some (.bool p.y.d.neg) ∧ w.cell? ⟨h, i * 8 + 7, none⟩ = some (.slice p.y.d.a p.y.d.n p.y.d.c) :=
 ⟨H i p hi 0 (by decide), H i p hi 1 (by decide), H i p hi 2 (by decide), H i p hi 3 (by decide), H i p hi 4 (by decide), H i p hi 5 (by decide), H i p hi 6 (by decide), H i p hi 7 (by decide)⟩
theorem Blk.p8 {w : World} {b : Nat} {p : PV} {t : TypeId} (h : Blk w b p.cs t) : w.cell? ⟨b, 0, none⟩ = some (.bool p.x.n.neg) ∧ w.cell? ⟨b, 1, none⟩ = some (.slice p.x.n.a p.x.n.n p.x.n.c) ∧ w.cell? ⟨b, 2, none⟩ = some (.bool p.x.d.neg) ∧ w.cell? ⟨b, 3, none⟩ = some (.slice p.x.d.a p.x.d.n p.x.d.c) ∧ w.cell? ⟨b, 4, none⟩ = some (.bool p.y.n.neg) ∧ w.cell? ⟨b, 5, none⟩ = some (.slice p.y.n.a p.y.n.n p.y.n.c) ∧ w.cell? ⟨b, 6, none⟩ = some (.bool p.y.d.neg) ∧ w.cell? ⟨b, 7, none⟩ = some (.slice p.y.d.a p.y.d.n p.y.d.c) := ⟨h.cell 0, h.cell 1, h.cell 2, h.cell 3, h.cell 4, h.cell 5, h.cell 6, h.cell 7⟩
/-- What the points of a list stand for. -/
def StdQ (w : World) (qs : List PV) (l : List QP) : Prop := ∀ (j : Nat) (q : PV) (y : QP), qs[j]? = some q → l[j]? = some y → IsPQ w q y
theorem StdQ.keep {w w' : World} {qs : List PV} {l : List QP} (h : StdQ w qs l) (k : IK w w') : StdQ w' qs l := fun j q y h1 h2 => (h j q y h1 h2).keep k
/-- What the search finds. -/
def FoundQ (l : List QP) (x : QP) (k : Nat) (f : Bool) : Prop := k ≤ l.length ∧ (∀ j q, j < k → l[j]? = some q → cmpP q x < 0) ∧ (∀ q, l[k]? = some q → ¬ cmpP q x < 0) ∧ f = match l[k]? with | some q => cmpP q x == 0 | none => false
/-- What the search leaves. -/
def BsfPost (l : List QP) (x : QP) (w : World) (e : Ending) (w' : World) : Prop := ∃ (k : Nat) (f : Bool), e = .returned (.tuple #[.int .i64 (k : Int), .bool f]) ∧ FoundQ l x k f ∧ Ext w w'
theorem srt_before {l : List QP} (h : SrtQ l) {i j : Nat} {p q : QP} (hij : i < j) (hp : l[i]? = some p) (hq : l[j]? = some q) : LtQ p q := by
 obtain ⟨hi, rfl⟩ := List.getElem?_eq_some_iff.1 hp
 obtain ⟨hj, rfl⟩ := List.getElem?_eq_some_iff.1 hq
 exact List.pairwise_iff_getElem.1 h i j hi hj hij
set_option maxRecDepth 100000 in
set_option maxHeartbeats 8000000 in
theorem bsf_some (g n c : Nat) (qs : List PV) (l : List QP) (p : PV) (x : QP) (w : World) (hg : GAt encPV w g qs) (hq : qs.length = n) (hl : l.length = n) (hs : StdQ w qs l) (hp : IsPQ w p x) (ho : SrtQ l) (hn : n ≤ 1000) :
  Calls Try.prog 49 #[.slice (some ⟨g, 0, none⟩) n c, p.v, .func (.func 24) #[] #[]] w (BsfPost l x w) := by
 have HG := Lib.hid (And.intro hg (And.intro hq (And.intro hl (And.intro hs (And.intro hp ho)))))
 clear hg hq hl hs hp ho
 obtain ⟨B, hB⟩ : ∃ B, w.heap.size = B := ⟨_, rfl⟩
 go_enter Try.func49, Try.ntmps49
 go_upto_region 3 with fail
 refine wp_gen (fun W => Ext w W ∧ Blk W B p.cs 43) ⟨(by repeat (first | exact Ext.refl _ | assumption | refine Ext.setCell ?_ (by first | (simp; done) | (simp; omega) | omega) _ | refine Ext.alloc ?_ _ | refine Ext.drew ?_ | refine Ext.trans ?_ (by assumption))), Blk.at _ 43 hB.symm⟩ ?_
 rintro V ⟨E0, B0⟩
 have HE := Lib.hid E0
 have HB := Lib.hid B0
 clear E0 B0
 go_loopw [9, 10] (fun u v ws => ∃ lo hi : Nat, lo ≤ hi ∧ hi ≤ n ∧ u = .int .i64 (lo : Int) ∧ v = .int .i64 (hi : Int) ∧ Hid ((∀ j q, j < lo → l[j]? = some q → cmpP q x < 0) ∧ ∀ j q, hi ≤ j → l[j]? = some q → 0 ≤ cmpP q x) ∧ Ext V ws) (fun u v _ => (intOf v).toNat - (intOf u).toNat)
 case atStart => exact ⟨0, n, by omega, by omega, rfl, rfl, Lib.hid ⟨fun j q hj => absurd hj (by omega), fun j q hj hq => by rw [List.getElem?_eq_none (by rw [HG.out.2.2.1]; exact hj)] at hq; cases hq⟩, Ext.refl V⟩
 case round =>
  obtain ⟨lo, hi, hlh, hhn, rfl, rfl, HI, hE⟩ := hrel
  have HW := Lib.hid hE
  by_cases hlt : lo < hi
  ·obtain ⟨m, hm⟩ : ∃ m, (lo + hi) / 2 = m := ⟨_, rfl⟩
   have hm1 : lo ≤ m := by omega
   have hm2 : m < hi := by omega
   have hm3 : ((lo : Int) + (hi : Int)) / 2 = (m : Int) := by omega
   obtain ⟨q, hq⟩ : ∃ q, qs[m]? = some q := ⟨_, List.getElem?_eq_getElem (by rw [HG.out.2.1]; omega)⟩
   obtain ⟨y, hy⟩ : ∃ y, l[m]? = some y := ⟨_, List.getElem?_eq_getElem (by rw [HG.out.2.2.1]; omega)⟩
   have HQ := Lib.hid (And.intro hq (And.intro hy (HG.out.2.2.2.1 m q y hq hy)))
   have HC := Lib.hid (fun W (e : Ext wr W) => (show (W.cell? ⟨g, m * 8, none⟩ = some (.bool q.x.n.neg) ∧ W.cell? ⟨g, m * 8 + 1, none⟩ = some (.slice q.x.n.a q.x.n.n q.x.n.c) ∧ W.cell? ⟨g, m * 8 + 2, none⟩ = some (.bool q.x.d.neg) ∧ W.cell? ⟨g, m * 8 + 3, none⟩ = some (.slice q.x.d.a q.x.d.n q.x.d.c) ∧ W.cell? ⟨g, m * 8 + 4, none⟩ = some (.bool q.y.n.neg) ∧ W.cell? ⟨g, m * 8 + 5, none⟩ = some (.slice q.y.n.a q.y.n.n q.y.n.c) ∧ W.cell? ⟨g, m * 8 + 6, none⟩ = some (.bool q.y.d.neg) ∧ W.cell? ⟨g, m * 8 + 7, none⟩ = some (.slice q.y.d.a q.y.d.n q.y.d.c)) ∧ W.cell? ⟨B, 0, none⟩ = some (.bool p.x.n.neg) ∧ W.cell? ⟨B, 1, none⟩ = some (.slice p.x.n.a p.x.n.n p.x.n.c) ∧ W.cell? ⟨B, 2, none⟩ = some (.bool p.x.d.neg) ∧ W.cell? ⟨B, 3, none⟩ = some (.slice p.x.d.a p.x.d.n p.x.d.c) ∧ W.cell? ⟨B, 4, none⟩ = some (.bool p.y.n.neg) ∧ W.cell? ⟨B, 5, none⟩ = some (.slice p.y.n.a p.y.n.n p.y.n.c) ∧ W.cell? ⟨B, 6, none⟩ = some (.bool p.y.d.neg) ∧ W.cell? ⟨B, 7, none⟩ = some (.slice p.y.d.a p.y.d.n p.y.d.c) from ⟨GAt.p8 (((HG.out.1.ext HE.out).ext hE).ext e) hq, ((HB.out.ext hE).ext e).p8⟩))
   obtain ⟨z, hz0⟩ : ∃ z, cmpP y x = z := ⟨_, rfl⟩
   have HZ0 := Lib.hid hz0
   have l0 : (0 : Int) ≤ (m : Int) := by omega
   have l1 : (m : Int) < (n : Int) := by omega
   have l2 : ¬ (m : Int) < 0 := by omega
   have l3 : (lo : Int) < (hi : Int) := by omega
   clear hq hy hz0 hE
   go_upto_region 5 with fail
   refine wp_region_held_drew (S := fun W => Ext wr W) (by kernel_rfl) ((Ext.refl wr).drew) (fun hHeld => ?_)
   refine tkW (i := 0) (h := ?_)
   refine tkW (i := 1) (h := ?_)
   refine tkW (i := 2) (h := ?_)
   refine tkW (i := 3) (h := ?_)
   refine tkL (i := 4) (H := HC) (h := ?_)
   refine tkL (i := 5) (H := HC) (h := ?_)
   refine ckL (i := 6) (h := fun K hK => ?_); go_simp; go_at_call 24; refine (pCompare_c q p y x _ (HQ.out.2.2.keep ((HE.out.trans HW.out).ik.trans (Ext.ik (by assumption)))) (HG.out.2.2.2.2.1.keep ((HE.out.trans HW.out).ik.trans (Ext.ik (by assumption))))).mono ?_; rw [HZ0.out]; rintro e w5 ⟨rfl, hx5⟩; go_wp2_with fail; refine shG hK (h := ?_); clear hK K; intro hHeld
   have HX5 := Lib.hid (show Ext wr w5 by assumption)
   clear hx5
   by_cases hzn : z < 0
   ·have hz' : decide (z < 0) = true := decide_eq_true hzn
    refine tkW (i := 7) (h := ?_)
    refine doneL (by kernel_rfl) ?_
    clear hHeld
    go_wp2_with fail
    go_roundw
    case rel =>
     refine ⟨m + 1, hi, by omega, hhn, by go_num, rfl, Lib.hid ⟨fun j r hj hr => ?_, HI.out.2⟩, HW.out.trans HX5.out⟩
     rcases Nat.lt_succ_iff_lt_or_eq.1 hj with h1 | h1
     ·have := srt_before HG.out.2.2.2.2.2 h1 hr HQ.out.2.1
      rw [cmpP_lt]
      exact this.trans (cmpP_lt.1 (by rw [HZ0.out]; exact hzn))
     ·subst h1
      rw [HQ.out.2.1] at hr
      injection hr with hr
      subst hr
      rw [HZ0.out]; exact hzn
    case measure => simp [intOf]; omega
   ·have hz' : decide (z < 0) = false := decide_eq_false hzn
    refine tkW (i := 7) (h := ?_)
    refine doneL (by kernel_rfl) ?_
    clear hHeld
    go_wp2_with fail
    go_roundw
    case rel =>
     refine ⟨lo, m, hm1, by omega, rfl, rfl, Lib.hid ⟨HI.out.1, fun j r hj hr => ?_⟩, HW.out.trans HX5.out⟩
     rcases Nat.lt_or_eq_of_le hj with h1 | h1
     ·have := srt_before HG.out.2.2.2.2.2 h1 HQ.out.2.1 hr
      refine Int.not_lt.1 fun h2 => hzn ?_
      rw [cmpP_lt] at h2
      rw [← HZ0.out, cmpP_lt]
      exact this.trans h2
     ·subst h1
      rw [HQ.out.2.1] at hr
      injection hr with hr
      subst hr
      rw [HZ0.out]; omega
    case measure => simp [intOf]; omega
  ·obtain rfl : lo = hi := by omega
   have HL := Lib.hid (show lo ≤ l.length by rw [HG.out.2.2.1]; exact hhn)
   have l0 : (0 : Int) ≤ (lo : Int) := by omega
   have l2 : ¬ (lo : Int) < 0 := by omega
   by_cases hln : lo < n
   ·have l1 : (lo : Int) < (n : Int) := by omega
    have l1' : decide ((lo : Int) < (n : Int)) = true := decide_eq_true l1
    obtain ⟨q, hq⟩ : ∃ q, qs[lo]? = some q := ⟨_, List.getElem?_eq_getElem (by rw [HG.out.2.1]; omega)⟩
    obtain ⟨y, hy⟩ : ∃ y, l[lo]? = some y := ⟨_, List.getElem?_eq_getElem (by rw [HG.out.2.2.1]; omega)⟩
    have HQ := Lib.hid (And.intro hq (And.intro hy (HG.out.2.2.2.1 lo q y hq hy)))
    have HC := Lib.hid (fun W (e : Ext wr W) => (show (W.cell? ⟨g, lo * 8, none⟩ = some (.bool q.x.n.neg) ∧ W.cell? ⟨g, lo * 8 + 1, none⟩ = some (.slice q.x.n.a q.x.n.n q.x.n.c) ∧ W.cell? ⟨g, lo * 8 + 2, none⟩ = some (.bool q.x.d.neg) ∧ W.cell? ⟨g, lo * 8 + 3, none⟩ = some (.slice q.x.d.a q.x.d.n q.x.d.c) ∧ W.cell? ⟨g, lo * 8 + 4, none⟩ = some (.bool q.y.n.neg) ∧ W.cell? ⟨g, lo * 8 + 5, none⟩ = some (.slice q.y.n.a q.y.n.n q.y.n.c) ∧ W.cell? ⟨g, lo * 8 + 6, none⟩ = some (.bool q.y.d.neg) ∧ W.cell? ⟨g, lo * 8 + 7, none⟩ = some (.slice q.y.d.a q.y.d.n q.y.d.c)) ∧ W.cell? ⟨B, 0, none⟩ = some (.bool p.x.n.neg) ∧ W.cell? ⟨B, 1, none⟩ = some (.slice p.x.n.a p.x.n.n p.x.n.c) ∧ W.cell? ⟨B, 2, none⟩ = some (.bool p.x.d.neg) ∧ W.cell? ⟨B, 3, none⟩ = some (.slice p.x.d.a p.x.d.n p.x.d.c) ∧ W.cell? ⟨B, 4, none⟩ = some (.bool p.y.n.neg) ∧ W.cell? ⟨B, 5, none⟩ = some (.slice p.y.n.a p.y.n.n p.y.n.c) ∧ W.cell? ⟨B, 6, none⟩ = some (.bool p.y.d.neg) ∧ W.cell? ⟨B, 7, none⟩ = some (.slice p.y.d.a p.y.d.n p.y.d.c) from ⟨GAt.p8 (((HG.out.1.ext HE.out).ext hE).ext e) hq, ((HB.out.ext hE).ext e).p8⟩))
    obtain ⟨z, hz0⟩ : ∃ z, cmpP y x = z := ⟨_, rfl⟩
    have HZ0 := Lib.hid hz0
    clear hq hy hz0 hE
    go_upto_region 8 with fail
    refine wp_region_held_drew (S := fun W => Ext wr W) (by kernel_rfl) ((Ext.refl wr).drew) (fun hHeld => ?_)
    refine tkW (i := 0) (h := ?_)
    refine tkW (i := 1) (h := ?_)
    refine tkW (i := 2) (h := ?_)
    refine tkW (i := 3) (h := ?_)
    refine tkW (i := 4) (h := ?_)
    refine tkW (i := 5) (h := ?_)
    refine tkW (i := 6) (h := ?_)
    refine tkW (i := 7) (h := ?_)
    refine tkW (i := 8) (h := ?_)
    refine tkL (i := 9) (H := HC) (h := ?_)
    refine tkL (i := 10) (H := HC) (h := ?_)
    refine ckL (i := 11) (h := fun K hK => ?_); go_simp; go_at_call 24; refine (pCompare_c q p y x _ (HQ.out.2.2.keep ((HE.out.trans HW.out).ik.trans (Ext.ik (by assumption)))) (HG.out.2.2.2.2.1.keep ((HE.out.trans HW.out).ik.trans (Ext.ik (by assumption))))).mono ?_; rw [HZ0.out]; rintro e w5 ⟨rfl, hx5⟩; go_wp2_with fail; refine shG hK (h := ?_); clear hK K; intro hHeld
    have HX5 := Lib.hid (show Ext wr w5 by assumption)
    clear hx5
    refine tkW (i := 12) (h := ?_)
    refine tkW (i := 13) (h := ?_)
    refine tkW (i := 14) (h := ?_)
    refine tkW (i := 15) (h := ?_)
    refine doneL (by kernel_rfl) ?_
    clear hHeld
    go_wp2_with fail
    go_ret2
    refine ⟨lo, z == 0, rfl, ⟨HL.out, HI.out.1, fun r hr => by have := HI.out.2 lo r (Nat.le_refl _) hr; omega, ?_⟩, HE.out.trans (HW.out.trans HX5.out)⟩
    rw [HQ.out.2.1, ← HZ0.out]
   ·have l1 : ¬ (lo : Int) < (n : Int) := by omega
    have l1' : decide ((lo : Int) < (n : Int)) = false := decide_eq_false l1
    have HY := Lib.hid (show l[lo]? = none from List.getElem?_eq_none (by rw [HG.out.2.2.1]; omega))
    clear hE
    go_upto_region 8 with fail
    refine wp_region_held_drew (S := fun W => Ext wr W) (by kernel_rfl) ((Ext.refl wr).drew) (fun hHeld => ?_)
    refine tkW (i := 0) (h := ?_)
    refine tkW (i := 1) (h := ?_)
    refine tkW (i := 2) (h := ?_)
    refine tkW (i := 3) (h := ?_)
    refine tkW (i := 4) (h := ?_)
    refine tkN (i := 5) (h := ?_)
    refine tkN (i := 6) (h := ?_)
    refine tkN (i := 7) (h := ?_)
    refine tkN (i := 8) (h := ?_)
    refine tkN (i := 9) (h := ?_)
    refine tkN (i := 10) (h := ?_)
    refine tkN (i := 11) (h := ?_)
    refine tkN (i := 12) (h := ?_)
    refine tkW (i := 13) (h := ?_)
    refine tkW (i := 14) (h := ?_)
    refine tkW (i := 15) (h := ?_)
    refine doneL (by kernel_rfl) ?_
    clear hHeld
    go_wp2_with fail
    go_ret2
    refine ⟨lo, false, rfl, ⟨HL.out, HI.out.1, fun r hr => by have := HI.out.2 lo r (Nat.le_refl _) hr; omega, ?_⟩, HE.out.trans (HW.out.trans (Ext.refl wr).drew)⟩
    rw [HY.out]
set_option maxRecDepth 100000 in
set_option maxHeartbeats 8000000 in
theorem bsf_nil (c : Nat) (p : PV) (x : QP) (w : World) : Calls Try.prog 49 #[.slice none 0 c, p.v, .func (.func 24) #[] #[]] w (BsfPost [] x w) := by
 go_enter Try.func49, Try.ntmps49
 go_wp2_with fail
 refine wp_loop_rounds 1 ?_
 rw [rounds_succ]
 go_upto_region 8 with fail
 have l1' : decide ((0 : Int) < (0 : Int)) = false := rfl
 refine wp_region_held_drew (S := fun W => Ext w W) (by kernel_rfl) (((Ext.refl w).alloc _).drew) (fun hHeld => ?_)
 refine tkW (i := 0) (h := ?_)
 refine tkW (i := 1) (h := ?_)
 refine tkW (i := 2) (h := ?_)
 refine tkW (i := 3) (h := ?_)
 refine tkW (i := 4) (h := ?_)
 refine tkN (i := 5) (h := ?_)
 refine tkN (i := 6) (h := ?_)
 refine tkN (i := 7) (h := ?_)
 refine tkN (i := 8) (h := ?_)
 refine tkN (i := 9) (h := ?_)
 refine tkN (i := 10) (h := ?_)
 refine tkN (i := 11) (h := ?_)
 refine tkN (i := 12) (h := ?_)
 refine tkW (i := 13) (h := ?_)
 refine tkW (i := 14) (h := ?_)
 refine tkW (i := 15) (h := ?_)
 refine doneL (by kernel_rfl) ?_
 go_wp2_with fail
 go_ret2
 exact ⟨0, false, rfl, ⟨Nat.le_refl _, fun j q hj => absurd hj (by omega), fun q hq => by simp at hq, rfl⟩, hHeld⟩
end Go.Proofs.Ytagiaiocgjagnaa
