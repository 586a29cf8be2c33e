/- wide: Mul, Add, Sub, division by a word. -/
import Derived.Test.YtkoidookanmknaaSWA
import Derived.Deep.DeepCutAuto
import Derived.Deep.CutRange
import Derived.WalkMore
/- wide: Mul, Add, Sub. -/
namespace Go.Proofs.Ytkoidookanmknaa
set_option linter.unusedSimpArgs false
set_option linter.unusedVariables false
open Go.RowKit

/-- A number, or 0 with ErrLimit where it is too great. -/
def lim (x : Int) : Int × Int := if x.natAbs < WTop then (x, 0) else (0, 4)
theorem lim_of {g : Bool} {m : Nat} {z err : Int} (h : if m < WTop then z = sgn g m ∧ err = 0 else z = 0 ∧ err = 4) : lim (sgn g m) = (z, err) := by
 unfold lim
 rw [sgn_natAbs]
 by_cases hb : m < WTop
 ·rw [if_pos hb] at h ⊢; rw [h.1, h.2]
 ·rw [if_neg hb] at h ⊢; rw [h.1, h.2]
theorem sgn_mul (g h : Bool) (m n : Nat) : sgn g m * sgn h n = sgn (g != h) (m * n) := by
 cases g <;> cases h <;> simp [sgn, Int.natCast_mul, Int.neg_mul, Int.mul_neg]

set_option maxHeartbeats 1000000 in
theorem Mul_c (p q : IV) (x y : Int) (w : World) (hp : IsI w p x) (hq : IsI w q y) : Calls Try.prog 28 #[p.v, q.v] w (RetIE (lim (x * y)).1 (lim (x * y)).2 w) := by
 obtain ⟨g, a, n, c⟩ := p
 obtain ⟨l, h1, h2, h3, h4, rfl⟩ := hp
 obtain ⟨g', a', n', c'⟩ := q
 obtain ⟨l', h1', h2', h3', h4', rfl⟩ := hq
 have hs := sgn_mul g g' (mval l) (mval l')
 have HS := Lib.hid hs; have HA := Lib.hid h1; have HB := Lib.hid h1'
 clear hs h1 h1' h4 h4' h2 h2'
 simp only at h3 h3'
 go_enter Try.func28, Try.ntmps28
 go_wp2
 refine wp_gen (fun W => Ext w W ∧ At W w.heap.size #[.bool g, .slice a n c] ∧ At W (w.heap.size + 1) #[.bool g', .slice a' n' c'] ∧ Own W (w.heap.size + 2) 2)
  ⟨(by repeat (first | exact Ext.refl _ | assumption | refine Ext.setCell ?_ (by first | (simp; done) | (simp; omega) | omega) _ | refine Ext.alloc ?_ _ | refine Ext.drew ?_ | refine Ext.trans ?_ (by assumption))), (((Blk.at _ _ rfl).alloc _).alloc _).at', ((Blk.at _ _ (by simp)).alloc _).at', (Blk.at _ _ (by simp)).own _ (by simp) noIntW⟩ ?_
 rintro W ⟨E0, A0, A1, O2⟩
 go_region_held3 (fun w' => Ext w w' ∧ At w' w.heap.size #[.bool g, .slice a n c] ∧ At w' (w.heap.size + 1) #[.bool g', .slice a' n' c'] ∧ Own w' (w.heap.size + 2) 2)
  (first | exact ⟨E0.drew, A0, A1, O2⟩ | exact kept)
  (first
   | (go_at_call 47; refine (times_c _ _ _ _ _ _ l l' _ (HA.out.in4 (by assumption)) (HB.out.in4 (by assumption)) (by omega)).mono ?_; rintro e w2 ⟨aa, nn, cc, oo, rfl, hw, hv, hx⟩)
   | (go_at_call 46; refine (signed_c _ _ _ _ _ _ (by assumption)).mono ?_; rintro e w3 ⟨r, z, err, rfl, hr, hx3, hz⟩))
 have O3 := (Own.ext hx O2 (by simp)).ext hx3 (by simp)
 go_wp2
 refine bodyPost_ret (v := .tuple #[r.v, .int .i64 err]) (by simp [results, Try.results28, go_sem, O3]) rfl ?_
 rw [show (!(g == g')) = (g != g') from rfl] at hz
 have hl := lim_of hz
 rw [hv] at hl
 rw [HS.out]
 simp only [hl]
 exact ⟨r, rfl, hr.keep (IK.put2 O3 _ _ _ _), And.left (by assumption)⟩
end Go.Proofs.Ytkoidookanmknaa
/- wide: Add, Sub. -/
namespace Go.Proofs.Ytkoidookanmknaa
set_option linter.unusedSimpArgs false
set_option linter.unusedVariables false
open Go.RowKit

theorem sgn_add_same (g : Bool) (m n : Nat) : sgn g m + sgn g n = sgn g (m + n) := by cases g <;> simp [sgn] <;> omega
theorem sgn_add_ge (g : Bool) (m n : Nat) (h : n ≤ m) : sgn g m + sgn (!g) n = sgn g (m - n) := by cases g <;> simp [sgn] <;> omega
theorem sgn_add_lt (g : Bool) (m n : Nat) (h : m < n) : sgn g m + sgn (!g) n = sgn (!g) (n - m) := by cases g <;> simp [sgn] <;> omega
theorem len_of_le {l r : List Nat} (hl : Norm l) (hr : Norm r) (fl : Fit l) (h : mval r ≤ mval l) : r.length ≤ l.length := by
 by_cases hlt : l.length < r.length
 ·have := norm_len_lt hl hr fl hlt; omega
 ·omega
set_option maxHeartbeats 2000000 in
theorem Add_same (g : Bool) (a a' : Option Addr) (n c n' c' : Nat) (l l' : List Nat) (w : World) (h1 : Wds w a n c l) (h1' : Wds w a' n' c' l') (h3 : n ≤ 512) (h3' : n' ≤ 512) :
  Calls Try.prog 30 #[.agg #[.bool g, .slice a n c], .agg #[.bool g, .slice a' n' c']] w (RetIE (lim (sgn g (mval l) + sgn g (mval l'))).1 (lim (sgn g (mval l) + sgn g (mval l'))).2 w) := by
 have hs := sgn_add_same g (mval l) (mval l')
 have HS := Lib.hid hs; have HA := Lib.hid h1; have HB := Lib.hid h1'
 clear hs h1 h1'
 go_enter Try.func30, Try.ntmps30
 go_wp2
 refine wp_gen (fun W => Ext w W ∧ At W w.heap.size #[.bool g, .slice a n c] ∧ At W (w.heap.size + 1) #[.bool g, .slice a' n' c'] ∧ Own W (w.heap.size + 2) 2)
  ⟨(by repeat (first | exact Ext.refl _ | assumption | refine Ext.setCell ?_ (by first | (simp; done) | (simp; omega) | omega) _ | refine Ext.alloc ?_ _ | refine Ext.drew ?_ | refine Ext.trans ?_ (by assumption))), (((Blk.at _ _ rfl).alloc _).alloc _).at', ((Blk.at _ _ (by simp)).alloc _).at', (Blk.at _ _ (by simp)).own _ (by simp) noIntW⟩ ?_
 rintro W ⟨E0, A0, A1, O2⟩
 go_region_held3 (fun w' => Ext w w' ∧ At w' w.heap.size #[.bool g, .slice a n c] ∧ At w' (w.heap.size + 1) #[.bool g, .slice a' n' c'] ∧ Own w' (w.heap.size + 2) 2)
  (first | exact ⟨E0.drew, A0, A1, O2⟩ | exact kept)
  (first
   | (go_at_call 53; refine (sum_c _ _ _ _ _ _ l l' _ (HA.out.in4 (by assumption)) (HB.out.in4 (by assumption)) (by omega) (by omega)).mono ?_; rintro e w2 ⟨aa, nn, cc, oo, rfl, hw, hv, hx⟩)
   | (go_at_call 46; refine (signed_c _ _ _ _ _ _ (by assumption)).mono ?_; rintro e w3 ⟨r, z, err, rfl, hr, hx3, hz⟩))
 have O3 := (Own.ext hx O2 (by simp)).ext hx3 (by simp)
 go_wp2
 refine bodyPost_ret (v := .tuple #[r.v, .int .i64 err]) (by simp [results, Try.results30, go_sem, O3]) rfl ?_
 have hl := lim_of hz
 rw [hv] at hl
 rw [HS.out]
 simp only [hl]
 exact ⟨r, rfl, hr.keep (IK.put2 O3 _ _ _ _), And.left (by assumption)⟩

set_option maxHeartbeats 2000000 in
theorem Add_other (g : Bool) (a a' : Option Addr) (n c n' c' : Nat) (l l' : List Nat) (w : World) (h1 : Wds w a n c l) (h1' : Wds w a' n' c' l') (h2 : Norm l) (h2' : Norm l') (h3 : n ≤ 512) (h3' : n' ≤ 512) :
  Calls Try.prog 30 #[.agg #[.bool g, .slice a n c], .agg #[.bool (!g), .slice a' n' c']] w (RetIE (lim (sgn g (mval l) + sgn (!g) (mval l'))).1 (lim (sgn g (mval l) + sgn (!g) (mval l'))).2 w) := by
 have HA := Lib.hid h1; have HB := Lib.hid h1'
 clear h1 h1'
 have hgg : (g == !g) = false := by cases g <;> rfl
 have hneg : (!(!g)) = g := by cases g <;> rfl
 have HNG := Lib.hid hneg; clear hneg
 by_cases hlt : mval l < mval l'
 all_goals
  have hcmp : cmpI (mval l : Int) (mval l' : Int) < 0 ↔ mval l < mval l' := by unfold cmpI; split <;> (try split) <;> simp <;> omega
  have HC := Lib.hid hcmp; have HLT := Lib.hid hlt; clear hcmp hlt
  go_enter Try.func30, Try.ntmps30
  go_upto_if 10 with (fail)
  refine wp_gen (fun W => Ext w W ∧ Blk W w.heap.size #[.bool g, .slice a n c] 56 ∧ Blk W (w.heap.size + 1) #[.bool (!g), .slice a' n' c'] 56 ∧ Own W (w.heap.size + 2) 2)
   ⟨(by repeat (first | exact Ext.refl _ | assumption | refine Ext.setCell ?_ (by first | (simp; done) | (simp; omega) | omega) _ | refine Ext.alloc ?_ _ | refine Ext.drew ?_ | refine Ext.trans ?_ (by assumption))), (((Blk.at _ _ rfl).alloc _).alloc _), ((Blk.at _ _ (by simp)).alloc _), (Blk.at _ _ (by simp)).own _ (by simp) noIntW⟩ ?_
  rintro W ⟨E0, B0, B1, O2⟩
  have A0 := B0.at'
  have A1 := B1.at'
  have HB0 := Lib.hid B0; have HB1 := Lib.hid B1; have HE0 := Lib.hid E0
  clear B0 B1 E0
  go_wp2_with fail
  refine (compare_c _ _ _ _ _ _ l l' _ (HA.out.keep HE0.out.ik) (HB.out.keep HE0.out.ik) h2 h2').mono ?_
  rintro e w2 ⟨rfl, hd⟩
  have B0 := HB0.out.ext hd.ext
  have B1 := HB1.out.ext hd.ext
  have O2 := O2.ext hd.ext (by simp)
  have E0 := HE0.out.trans hd.ext
  have A0 := B0.at'
  have A1 := B1.at'
  have F0 := B0.free
  have F1 := B1.free
  have HB0 := Lib.hid B0; have HB1 := Lib.hid B1; have HE0 := Lib.hid E0
  clear B0 B1 E0 hd
 ·have hc : cmpI (mval l : Int) (mval l' : Int) < 0 := HC.out.2 HLT.out
  go_wp2
  refine wp_gen (fun W => Ext w W ∧ At W w.heap.size #[.bool (!g), .slice a' n' c'] ∧ At W (w.heap.size + 1) #[.bool g, .slice a n c] ∧ Own W (w.heap.size + 2) 2)
   ⟨(((HE0.out.setCell (by simp) _).setCell (by simp) _).setCell (by simp) _).setCell (by simp) _, ?_, ?_, ?_⟩ ?_
  ·exact ((((HB0.out.set 0 _).set 1 _).setOther (by simp) _).setOther (by simp) _).at'
  ·exact ((((HB1.out.setOther (by simp) _).setOther (by simp) _).set 0 _).set 1 _).at'
  ·exact ⟨fun o ho => own1_set (own1_set (own1_set (own1_set O2.1))) o ho, fun o => own2_set (own2_set (own2_set (own2_set O2.2.1))) o, fun o k m => own3_set (own3_set (own3_set (own3_set O2.2.2 (by simp)) (by simp)) (by simp)) (by simp) o k m⟩
  have hle : n ≤ n' := by have := len_of_le h2' h2 HB.out.fit (by have := HLT.out; omega); rw [HA.out.len, HB.out.len] at this; exact this
  have HLE := Lib.hid hle; clear hle
  rintro W' ⟨E0, A0, A1, O2⟩
  go_region_held3 (fun w' => Ext w w' ∧ At w' w.heap.size #[.bool (!g), .slice a' n' c'] ∧ At w' (w.heap.size + 1) #[.bool g, .slice a n c] ∧ Own w' (w.heap.size + 2) 2)
   (first | exact ⟨E0.drew, A0, A1, O2⟩ | exact kept)
   (first
    | (go_at_call 55; refine (difference_c _ _ _ _ _ _ l' l _ (HB.out.in4 (by assumption)) (HA.out.in4 (by assumption)) (by omega) HLE.out (by have := HLT.out; omega)).mono ?_; rintro e w3 ⟨aa, nn, cc, oo, rfl, hw, hv, hx⟩)
    | (go_at_call 46; refine (signed_c _ _ _ _ _ _ (by assumption)).mono ?_; rintro e w4 ⟨r, z, err, rfl, hr, hx3, hz⟩))
  have O3 := (Own.ext hx O2 (by simp)).ext hx3 (by simp)
  go_wp2
  refine bodyPost_ret (v := .tuple #[r.v, .int .i64 err]) (by simp [results, Try.results30, go_sem, O3]) rfl ?_
  have hl := lim_of hz
  rw [hv] at hl
  rw [sgn_add_lt _ _ _ HLT.out]
  simp only [hl]
  exact ⟨r, rfl, hr.keep (IK.put2 O3 _ _ _ _), And.left (by assumption)⟩
 ·have hc : ¬ cmpI (mval l : Int) (mval l' : Int) < 0 := fun h => HLT.out (HC.out.1 h)
  go_wp2
  have hle : n' ≤ n := by have := len_of_le h2 h2' HA.out.fit (by have := HLT.out; omega); rw [HA.out.len, HB.out.len] at this; exact this
  have HLE := Lib.hid hle; clear hle
  refine wp_gen (fun W => Ext w W ∧ At W w.heap.size #[.bool g, .slice a n c] ∧ At W (w.heap.size + 1) #[.bool (!g), .slice a' n' c'] ∧ Own W (w.heap.size + 2) 2) ⟨HE0.out, A0, A1, O2⟩ ?_
  rintro W' ⟨E0, A0, A1, O2⟩
  go_region_held3 (fun w' => Ext w w' ∧ At w' w.heap.size #[.bool g, .slice a n c] ∧ At w' (w.heap.size + 1) #[.bool (!g), .slice a' n' c'] ∧ Own w' (w.heap.size + 2) 2)
   (first | exact ⟨E0.drew, A0, A1, O2⟩ | exact kept)
   (first
    | (go_at_call 55; refine (difference_c _ _ _ _ _ _ l l' _ (HA.out.in4 (by assumption)) (HB.out.in4 (by assumption)) (by omega) HLE.out (by have := HLT.out; omega)).mono ?_; rintro e w3 ⟨aa, nn, cc, oo, rfl, hw, hv, hx⟩)
    | (go_at_call 46; refine (signed_c _ _ _ _ _ _ (by assumption)).mono ?_; rintro e w4 ⟨r, z, err, rfl, hr, hx3, hz⟩))
  have O3 := (Own.ext hx O2 (by simp)).ext hx3 (by simp)
  go_wp2
  refine bodyPost_ret (v := .tuple #[r.v, .int .i64 err]) (by simp [results, Try.results30, go_sem, O3]) rfl ?_
  have hl := lim_of hz
  rw [hv] at hl
  rw [sgn_add_ge _ _ _ (by have := HLT.out; omega)]
  simp only [hl]
  exact ⟨r, rfl, hr.keep (IK.put2 O3 _ _ _ _), And.left (by assumption)⟩

set_option maxHeartbeats 400000 in
theorem Add_c (p q : IV) (x y : Int) (w : World) (hp : IsI w p x) (hq : IsI w q y) : Calls Try.prog 30 #[p.v, q.v] w (RetIE (lim (x + y)).1 (lim (x + y)).2 w) := by
 obtain ⟨g, a, n, c⟩ := p
 obtain ⟨l, h1, h2, h3, h4, rfl⟩ := hp
 obtain ⟨g', a', n', c'⟩ := q
 obtain ⟨l', h1', h2', h3', h4', rfl⟩ := hq
 by_cases hg : g' = g
 ·subst hg
  exact Add_same _ _ _ _ _ _ _ _ _ _ h1 h1' h3 h3'
 ·have : g' = !g := by cases g <;> cases g' <;> simp_all
  subst this
  exact Add_other _ _ _ _ _ _ _ _ _ _ h1 h1' h2 h2' h3 h3'

set_option maxHeartbeats 2000000 in
theorem Sub_c (p q : IV) (x y : Int) (w : World) (hp : IsI w p x) (hq : IsI w q y) : Calls Try.prog 73 #[p.v, q.v] w (RetIE (lim (x - y)).1 (lim (x - y)).2 w) := by
 have HA := Lib.hid hp; have HB := Lib.hid hq; clear hp hq
 go_enter Try.func73, Try.ntmps73
 go_wp2
 refine wp_gen (fun W => Ext w W ∧ At W w.heap.size #[.bool p.neg, .slice p.a p.n p.c] ∧ At W (w.heap.size + 1) #[.bool q.neg, .slice q.a q.n q.c] ∧ Own W (w.heap.size + 2) 2)
  ⟨(by repeat (first | exact Ext.refl _ | assumption | refine Ext.setCell ?_ (by first | (simp; done) | (simp; omega) | omega) _ | refine Ext.alloc ?_ _ | refine Ext.drew ?_ | refine Ext.trans ?_ (by assumption))), (((Blk.at _ _ rfl).alloc _).alloc _).at', ((Blk.at _ _ (by simp)).alloc _).at', (Blk.at _ _ (by simp)).own _ (by simp) noIntW⟩ ?_
 rintro W ⟨E0, A0, A1, O2⟩
 go_region_held3 (fun w' => Ext w w' ∧ At w' w.heap.size #[.bool p.neg, .slice p.a p.n p.c] ∧ At w' (w.heap.size + 1) #[.bool q.neg, .slice q.a q.n q.c] ∧ Own w' (w.heap.size + 2) 2)
  (first | exact ⟨E0.drew, A0, A1, O2⟩ | exact kept)
  (first
   | (go_at_call 49; refine (Neg_c q y _ (HB.out.in4 (by assumption))).mono ?_; rintro e w2 ⟨t, rfl, ht, hx⟩)
   | (go_at_call 30; refine (Add_c p t x (-y) _ (HA.out.in4 (by assumption)) ht).mono ?_; rintro e w3 ⟨r, rfl, hr, hx3⟩))
 have O3 := (Own.ext hx O2 (by simp)).ext hx3 (by simp)
 go_wp2
 refine bodyPost_ret (v := .tuple #[r.v, .int .i64 (lim (x + -y)).2]) (by simp [results, Try.results73, go_sem, O3]) rfl ?_
 rw [Int.sub_eq_add_neg]
 exact ⟨r, rfl, hr.keep (IK.put2 O3 _ _ _ _), And.left (by assumption)⟩
end Go.Proofs.Ytkoidookanmknaa
/- wide: short: division by a word. -/
namespace Go.Proofs.Ytkoidookanmknaa
set_option linter.unusedSimpArgs false
set_option linter.unusedVariables false
open Go.RowKit

theorem mval_drop (l : List Nat) (i : Nat) (h : i < l.length) : mval (l.drop i) = l.getD i 0 + B32 * mval (l.drop (i + 1)) := by
 have e1 : l.getD i 0 = l[i] := by simp [List.getD_eq_getElem?_getD, h]
 rw [← List.getElem_cons_drop h, e1]; rfl
/-- What holds in the midst of the rounds: j words are left. -/
structure ShortMid (l o : List Nat) (d j r : Nat) : Prop where
 len : o.length = l.length
 fit : Fit o
 rest : r < d
 eq : mval (l.drop j) = mval (o.drop j) * d + r
theorem ShortMid.begin (l : List Nat) (d : Nat) (hd : 0 < d) : ShortMid l (List.replicate l.length 0) d l.length 0 :=
 ⟨by simp, fit_zeros _, hd, by simp [mval]⟩
theorem ShortMid.step {l o : List Nat} {d j r : Nat} (h : ShortMid l o d (j + 1) r) (hj : j < l.length) (fl : Fit l) (hd : d < B32) (t : Nat) (ht : t = r * B32 + l.getD j 0) :
  ShortMid l (o.set j (t / d)) d j (t % d) ∧ t / d < B32 := by
 have hr := h.rest
 have hl := fl.getD j
 have hq : t / d < B32 := by
  rw [Nat.div_lt_iff_lt_mul (by omega), ht]
  have : (r + 1) * B32 ≤ d * B32 := Nat.mul_le_mul_right _ hr
  rw [Nat.add_mul, Nat.one_mul] at this
  rw [Nat.mul_comm B32 d]; omega
 refine ⟨⟨by rw [List.length_set, h.len], h.fit.set _ _ hq, Nat.mod_lt _ (by omega), ?_⟩, hq⟩
 have e := Nat.div_add_mod t d
 rw [mval_drop l j hj, mval_drop _ j (by rw [List.length_set, h.len]; exact hj), getD_set_same _ _ _ (by rw [h.len]; exact hj), set_drop, h.eq]
 generalize mval (o.drop (j + 1)) = Q at *
 generalize t / d = q at *
 generalize t % d = s at *
 generalize l.getD j 0 = x at *
 subst ht
 have : B32 * (Q * d + r) = B32 * Q * d + r * B32 := by grind
 have e2 : (q + B32 * Q) * d = d * q + B32 * Q * d := by grind
 omega
theorem or_words (r x : Nat) (hr : r < 4294967296) (hx : x < 4294967296) : bits BinOp.or IntKind.u64 ((r : Int) * 4294967296) (x : Int) = ((r * 4294967296 + x : Nat) : Int) := by
 have h1 : (r : Int) * 4294967296 = ((2 ^ 32 * r : Nat) : Int) := by omega
 have h2 := Nat.two_pow_add_eq_or_of_lt (i := 32) (b := x) (by omega) r
 have e : IntKind.u64.bits = 64 := rfl
 unfold bits
 simp only
 rw [h1, BitVec.ofInt_natCast, BitVec.ofInt_natCast, BitVec.toNat_or, BitVec.toNat_ofNat, BitVec.toNat_ofNat, Nat.mod_eq_of_lt (by rw [e]; omega), Nat.mod_eq_of_lt (by rw [e]; omega), ← h2]
 have h3 : IntKind.u64.wrap ((2 ^ 32 * r + x : Nat) : Int) = ((2 ^ 32 * r + x : Nat) : Int) := by
  unfold IntKind.wrap; simp [IntKind.signed, IntKind.bits]; omega
 rw [h3]; omega
set_option maxRecDepth 100000 in
set_option maxHeartbeats 1000000 in
theorem short_c (a : Option Addr) (n c : Nat) (l : List Nat) (d : Nat) (w : World) (hl : Wds w a n c l) (hn : n ≤ 4096) (hd0 : 0 < d) (hd : d < B32) :
  Calls Try.prog 84 #[.slice a n c, .int .u32 (d : Int)] w fun e w' => ∃ (o : List Nat), e = .returned (.tuple #[.slice (some ⟨w.heap.size, 0, none⟩) n n, .int .u32 ((mval l % d : Nat) : Int)]) ∧ Row w' w.heap.size o ∧ o.length = n ∧ Fit o ∧ mval o = mval l / d ∧ Ext w w' := by
 have hmk := make_words n (n : Int) (n : Int) rfl rfl (by omega)
 have HL := Lib.hid hl
 have hlen := hl.len
 clear hl
 have hd1 : d ≤ 4294967295 := by rw [B32_eq] at hd; omega
 go_enter Try.func84, Try.ntmps84
 go_wp2_with fail
 have hrow : Row (w.alloc (.cells (wcells (List.replicate n 0)) 85)) w.heap.size (List.replicate n 0) := Blk.new _ _ _
 have HROW := Lib.hid hrow
 clear hrow hmk
 go_loopw [7, 8] (fun rv v ws => ∃ (j r : Nat) (o : List Nat), j ≤ n ∧ v = .int .i64 ((j : Int) - 1) ∧ rv = .int .u64 (r : Int) ∧ Row ws w.heap.size o ∧ ShortMid l o d j r ∧ Ext w ws) (fun _ v _ => (intOf v + 1).toNat)
 case atStart => exact ⟨n, 0, _, Nat.le_refl _, rfl, rfl, HROW.out, by rw [← hlen]; exact ShortMid.begin l d hd0, (by repeat (first | exact Ext.refl _ | assumption | refine Ext.setCell ?_ (by first | (simp; done) | (simp; omega) | omega) _ | refine Ext.alloc ?_ _ | refine Ext.drew ?_ | refine Ext.trans ?_ (by assumption)))⟩
 case round =>
  obtain ⟨j, r, o, hj, rfl, rfl, hrow, hmid, hE⟩ := hrel
  by_cases h0 : j = 0
  ·subst h0
   have hfin := hmid.eq
   rw [List.drop_zero, List.drop_zero] at hfin
   have hq : mval l / d = mval o := by rw [hfin, Nat.mul_comm, Nat.mul_add_div hd0, Nat.div_eq_of_lt hmid.rest]; omega
   have hr : mval l % d = r := by rw [hfin, Nat.mul_comm, Nat.mul_add_mod, Nat.mod_eq_of_lt hmid.rest]
   have hrd := hmid.rest
   have HH := Lib.hid (And.intro hq (And.intro hr (And.intro hrow (And.intro hE hmid))))
   clear hfin hq hr hrow hE hmid
   go_wp2_with fail
   go_ret2
   exact ⟨o, by rw [HH.out.2.1]; rfl, HH.out.2.2.1, by rw [HH.out.2.2.2.2.len, hlen], HH.out.2.2.2.2.fit, HH.out.1.symm, HH.out.2.2.2.1⟩
  ·obtain ⟨k, rfl⟩ : ∃ k, j = k + 1 := ⟨j - 1, by omega⟩
   obtain ⟨b, off, rfl, hb, hc⟩ := (HL.out.keep hE.ik).at k (by omega)
   have ek : ((k + 1 : Nat) : Int) - 1 = (k : Int) := by omega
   rw [ek]
   have hrd := hmid.rest
   have hx := HL.out.fit.getD k
   rw [B32_eq] at hx
   have hdg : dg l k = ((l.getD k 0 : Nat) : Int) := rfl
   rw [hdg] at hc
   obtain ⟨x, hxx⟩ : ∃ x, l.getD k 0 = x := ⟨_, rfl⟩
   rw [hxx] at hc hx
   obtain ⟨T, hT⟩ : ∃ T, T = r * 4294967296 + x := ⟨_, rfl⟩
   have hor := or_words r x (by omega) hx
   rw [← hT] at hor
   obtain ⟨hst, hqb⟩ := ShortMid.step hmid (by omega) HL.out.fit hd T (by rw [hT, hxx, B32_eq])
   rw [B32_eq] at hqb
   have ho := hmid.len
   have c0 := hrow.cell k (by omega)
   have f0 := hrow.free k
   have l0 := hrow.lt
   have HST := Lib.hid hst; have HR := Lib.hid hrow; have HE := Lib.hid hE
   have hwx : IntKind.u64.wrap (x : Int) = (x : Int) := by unfold IntKind.wrap; simp [IntKind.signed, IntKind.bits]; omega
   clear hdg hxx hst hrow hE hmid ho
   generalize dg o k = z at c0
   have hTd : (T : Int) / (d : Int) = ((T / d : Nat) : Int) := by omega
   have hTm : (T : Int) % (d : Int) = ((T % d : Nat) : Int) := by omega
   have hTb : (T : Int) ≤ 18446744073709551615 := by omega
   have hT0 : (0 : Int) ≤ (T : Int) := by omega
   have hqb2 : (T : Int) / (d : Int) ≤ 4294967295 := by omega
   have hrm : (T : Int) % (d : Int) ≤ 4294967295 := by rw [hTm]; have := Nat.mod_lt T hd0; omega
   have hq0 : (0 : Int) ≤ (T : Int) / (d : Int) := by rw [hTd]; exact Int.natCast_nonneg _
   have hr0 : (0 : Int) ≤ (T : Int) % (d : Int) := by rw [hTm]; exact Int.natCast_nonneg _
   have hdI : (d : Int) ≤ 4294967295 := by omega
   have hrr : (r : Int) ≤ 4294967294 := by omega
   have k0 : (0 : Int) ≤ (k : Int) := by omega
   have k1 : (k : Int) < (n : Int) := by omega
   have k2 : (0 : Int) < (d : Int) := by omega
   have k3 : ((d : Int) == 0) = false := by rw [beq_eq_false_iff_ne]; omega
   have k4 : (d : Int) ≠ 0 := by omega
   have hxb : (x : Int) ≤ 4294967295 := by omega
   have HD1 := Lib.hid hd1
   have HTD := Lib.hid hTd; have HTM := Lib.hid hTm
   clear hT hqb hx hrd hd1 hTd hTm
   go_upto_region 7 with (fail)
   try rw [hor]


   clear hor hwx
   go_wp2_with fail
   go_roundw
   case rel => exact ⟨k, T % d, _, by omega, by go_num, by rw [HTM.out], Row.set HR.out k _ _ HTD.out, HST.out, HE.out.setCell (Nat.le_refl _) _⟩
   case measure => first | (simp [intOf]; done) | (simp [intOf]; omega)
end Go.Proofs.Ytkoidookanmknaa
/- wide: divide where the divisor has one word, or is greater. -/
namespace Go.Proofs.Ytkoidookanmknaa
set_option linter.unusedSimpArgs false
set_option linter.unusedVariables false
open Go.RowKit

/-- Two magnitudes. -/
def RetWW (q r : Nat) (w : World) (e : Ending) (w' : World) : Prop :=
 ∃ (a : Option Addr) (n c : Nat) (l : List Nat) (b : Option Addr) (m d : Nat) (k : List Nat), e = .returned (.tuple #[.slice a n c, .slice b m d]) ∧
  Wds w' a n c l ∧ Norm l ∧ mval l = q ∧ Wds w' b m d k ∧ Norm k ∧ mval k = r ∧ Ext w w'
/-- What 'divide' can do so far. -/
def DivOK (x y : Nat) : Prop := x < y ∨ y < B32
theorem one_word {k : List Nat} {m : Nat} (hk : Norm k) (fk : Fit k) (hl : k.length = m) (h : mval k < B32) (h0 : 0 < mval k) : m = 1 ∧ k = [mval k] := by
 have h1 := (norm_len_le hk fk 1).1 (by rw [Nat.pow_one]; exact h)
 match k, h1 with
 | [], _ => simp [mval] at h0
 | [d], _ => exact ⟨by rw [← hl]; rfl, by simp [mval]⟩
 | _ :: _ :: _, h1 => simp at h1
set_option maxRecDepth 100000 in
set_option maxHeartbeats 1000000 in
theorem divide1_c (a b : Option Addr) (n m c d : Nat) (l k : List Nat) (w : World) (hl : Wds w a n c l) (hk : Wds w b m d k) (nl : Norm l) (nk : Norm k) (hn : n ≤ 512) (h0 : 0 < mval k) (hok : DivOK (mval l) (mval k)) :
  Calls Try.prog 71 #[.slice a n c, .slice b m d] w (RetWW (mval l / mval k) (mval l % mval k) w) := by
 have HL := Lib.hid hl; have HK := Lib.hid hk; have NL := Lib.hid nl; have NK := Lib.hid nk
 have hcm := compare_c a b n m c d l k
 by_cases hlt : mval l < mval k
 ·have ec : cmpI (mval l : Int) (mval k : Int) = -1 := by rw [cmpI, if_pos (by omega)]
  have EC := Lib.hid ec
  have hq : mval l / mval k = 0 := Nat.div_eq_of_lt hlt
  have hr : mval l % mval k = mval l := Nat.mod_eq_of_lt hlt
  rw [hq, hr]
  clear hl hk nl nk hcm ec hq hr hok
  go_enter Try.func71, Try.ntmps71
  go_wp2_with fail
  go_step3
  go_wp2_with fail
  refine (compare_c a b n m c d l k _ HL.out HK.out NL.out NK.out).mono ?_
  rw [EC.out]
  rintro e w2 ⟨rfl, hx⟩
  have HX := Lib.hid hx; clear hx
  go_wp2_with fail
  rw [Exit.noGoto_ret]
  go_ret2
  exact ⟨none, 0, 0, [], a, n, c, l, rfl, Wds.nil _, .inl rfl, rfl, HL.out.keep HX.out.ik, NL.out, rfl, HX.out.ext⟩
 ·have ec : cmpI (mval l : Int) (mval k : Int) = 0 ∨ cmpI (mval l : Int) (mval k : Int) = 1 := by
   rw [cmpI, if_neg (by omega)]; split
   ·right; rfl
   ·left; rfl
  have hk1 : mval k < B32 := by rcases hok with h | h; exact absurd h hlt; exact h
  obtain ⟨hm, hke⟩ := one_word nk hk.fit hk.len hk1 h0
  subst hm
  obtain ⟨b2, o2, rfl, hb2, hc2⟩ := hk.at 0 (by omega)
  have hdg : dg k 0 = (mval k : Int) := by rw [hke]; simp [dg, mval]
  rw [hdg, Nat.add_zero] at hc2
  have hn4 : n ≤ 4096 := by omega
  have HC := Lib.hid hc2
  generalize hd : mval k = dv at *
  have hrd : mval l % dv < B32 := Nat.lt_of_lt_of_le (Nat.mod_lt _ h0) (by omega)
  have hlen := hl.len
  have hcm2 := (hd : mval k = dv)
  have HD := Lib.hid hd
  clear hl hk nl nk hcm hc2 hdg hke hlt hok hd hcm2
  rcases ec with ec | ec
  all_goals
   have EC := Lib.hid ec
   clear ec
   go_enter Try.func71, Try.ntmps71
   go_wp2_with fail
   go_step3
   go_wp2_with fail
   refine (compare_c a (some ⟨b2, o2, none⟩) n 1 c d l k _ HL.out HK.out NL.out NK.out).mono ?_
   rw [HD.out, EC.out]
   rintro e w2 ⟨rfl, hx⟩
   have hc3 := hx.ext.cell HC.out
   have hb3 := lt_of_cell hc3
   have HX := Lib.hid hx; clear hx
   go_wp2_with fail
   refine (short_c a n c l dv _ (HL.out.keep HX.out.ik) hn4 h0 hk1).mono ?_
   rintro e w3 ⟨o, rfl, hrow, hol, hof, hov, hx3⟩
   have hw3 : Wds w3 (some ⟨w2.heap.size, 0, none⟩) n n o := hrow.wds hof (by omega) hol (Nat.le_refl _) (by omega)
   have hnn := normal_w hw3
   have HNN := Lib.hid hnn; have HW3 := Lib.hid hw3; have HX3 := Lib.hid (HX.out.ext.trans hx3); have HOV := Lib.hid hov
   clear hw3 hnn hx3 hrow hof hov hc3
   generalize hrr : mval l % dv = rr at *
   go_wp2_with fail
   refine (normal_c _ n n o _ HW3.out).mono ?_
   rintro e w4 ⟨rfl, rfl⟩
   go_wp2_with fail
   have hR : Wds (w3.alloc (.cells #[.int .u32 (rr : Int)] 85)) (some ⟨w3.heap.size, 0, none⟩) 1 1 [rr] := Wds.new w3 #[.int .u32 (rr : Int)] 85 _ rfl [rr] (Fit.nil.cons hrd) (by simp) (fun i hi => by
    have : i = 0 := by simpa using hi
    subst this; rfl)
   have hRN := normal_w hR
   have HRN := Lib.hid hRN; have HR := Lib.hid hR
   clear hR hRN
   refine (normal_c _ 1 1 [rr] _ HR.out).mono ?_
   rintro e w5 ⟨rfl, rfl⟩
   go_wp2_with fail
   rw [Exit.noGoto_ret]
   go_ret2
   exact ⟨_, _, _, _, _, _, _, _, rfl, HNN.out.keep ((Ext.refl w3).alloc _).ik, trim_norm _, by rw [mval_trim, HOV.out], HRN.out, trim_norm _, by rw [mval_trim]; simp [mval], HX3.out.alloc _⟩
end Go.Proofs.Ytkoidookanmknaa
