/- wide: Add, Sub. -/
import Derived.Test.YtlnmgcmpbbklhaaWMul
namespace Go.Proofs.Ytlnmgcmpbbklhaa
set_option linter.unusedSimpArgs false
set_option linter.unusedVariables false
open Go.RowKit

theorem sgn_add_same (g : Bool) (m n : Nat) : sgn g m + sgn g n = sgn g (m + n) := by cases g <;> simp [sgn] <;> omega
theorem sgn_add_ge (g : Bool) (m n : Nat) (h : n ≤ m) : sgn g m + sgn (!g) n = sgn g (m - n) := by cases g <;> simp [sgn] <;> omega
theorem sgn_add_lt (g : Bool) (m n : Nat) (h : m < n) : sgn g m + sgn (!g) n = sgn (!g) (n - m) := by cases g <;> simp [sgn] <;> omega
theorem len_of_le {l r : List Nat} (hl : Norm l) (hr : Norm r) (fl : Fit l) (h : mval r ≤ mval l) : r.length ≤ l.length := by
  by_cases hlt : l.length < r.length
  · have := norm_len_lt hl hr fl hlt; omega
  · omega
theorem Blk.same {w : World} {b : Nat} {cs cs' : Array Value} {t : TypeId} (h : Blk w b cs t) (e : cs = cs') : Blk w b cs' t := e ▸ h

set_option maxHeartbeats 2000000 in
theorem Add_same (g : Bool) (a a' : Option Addr) (n c n' c' : Nat) (l l' : List Nat) (w : World) (h1 : Wds w a n c l) (h1' : Wds w a' n' c' l') (h3 : n ≤ 512) (h3' : n' ≤ 512) :
    Calls Try.prog 61 #[.agg #[.bool g, .slice a n c], .agg #[.bool g, .slice a' n' c']] w (RetIE (lim (sgn g (mval l) + sgn g (mval l'))).1 (lim (sgn g (mval l) + sgn g (mval l'))).2 w) := by
  have hs := sgn_add_same g (mval l) (mval l')
  have HS := Lib.hid hs; have HA := Lib.hid h1; have HB := Lib.hid h1'
  clear hs h1 h1'
  go_enter Try.func61, Try.ntmps61
  go_wp2
  refine wp_gen (fun W => Ext w W ∧ At W w.heap.size #[.bool g, .slice a n c] ∧ At W (w.heap.size + 1) #[.bool g, .slice a' n' c'] ∧ Own W (w.heap.size + 2) 2)
    ⟨(by repeat (first | exact Ext.refl _ | assumption | refine Ext.setCell ?_ (by first | (simp; done) | (simp; omega) | omega) _ | refine Ext.alloc ?_ _ | refine Ext.drew ?_ | refine Ext.trans ?_ (by assumption))), (((Blk.at _ _ rfl).alloc _).alloc _).at', ((Blk.at _ _ (by simp)).alloc _).at', (Blk.at _ _ (by simp)).own _ (by simp) noIntW⟩ ?_
  rintro W ⟨E0, A0, A1, O2⟩
  go_region_held3 (fun w' => Ext w w' ∧ At w' w.heap.size #[.bool g, .slice a n c] ∧ At w' (w.heap.size + 1) #[.bool g, .slice a' n' c'] ∧ Own w' (w.heap.size + 2) 2)
    (first | exact ⟨E0.drew, A0, A1, O2⟩ | (go_split_ands; repeat' (first | with_reducible assumption | with_reducible apply And.intro | with_reducible exact Ext.refl _ | with_reducible refine Ext.setCell ?_ (by simp; omega) _ | with_reducible refine Ext.setCell ?_ (by simp) _ | with_reducible refine At.set ?_ (by omega) | with_reducible refine own1_set ?_ | with_reducible refine own2_set ?_ | with_reducible refine own3_set ?_ (by simp) | with_reducible refine Ext.drew ?_ | with_reducible refine At.drew ?_ | with_reducible refine own1_drew ?_ | with_reducible refine Ext.alloc ?_ _ | with_reducible refine At.alloc ?_ (by simp) | with_reducible refine own1_alloc ?_ | with_reducible refine cell_alloc ?_ | with_reducible refine cell_drew ?_ | with_reducible refine own2_drew ?_ | with_reducible refine own3_drew ?_ | with_reducible refine own2_alloc (by first | omega | (simp; omega)) ?_ | with_reducible refine own3_alloc (by first | omega | (simp; omega)) ?_ | with_reducible refine cell_set ?_ (by omega) | with_reducible exact Ext.trans' (by assumption) (by assumption) | with_reducible exact At.ext (by assumption) (by assumption) (by simp) | with_reducible exact Ext.cell (by assumption) (by assumption) | exact (Own.ext (by assumption) ⟨by assumption, by assumption, by assumption⟩ (by simp)).1 | exact (Own.ext (by assumption) ⟨by assumption, by assumption, by assumption⟩ (by simp)).2.1 | exact (Own.ext (by assumption) ⟨by assumption, by assumption, by assumption⟩ (by simp)).2.2)))
    (first
      | (go_at_call 62; refine (sum_c _ _ _ _ _ _ l l' _ (HA.out.in4 (by assumption)) (HB.out.in4 (by assumption)) (by omega) (by omega)).mono ?_; rintro e w2 ⟨aa, nn, cc, oo, rfl, hw, hv, hx⟩)
      | (go_at_call 40; refine (signed_c _ _ _ _ _ _ (by assumption)).mono ?_; rintro e w3 ⟨r, z, err, rfl, hr, hx3, hz⟩))
  have O3 := (Own.ext hx O2 (by simp)).ext hx3 (by simp)
  go_wp2
  refine bodyPost_ret (v := .tuple #[r.v, .int .i64 err]) (by simp [results, Try.results61, go_sem, O3]) rfl ?_
  have hl := lim_of hz
  rw [hv] at hl
  rw [HS.out]
  simp only [hl]
  exact ⟨r, rfl, hr.keep (IK.put2 O3 _ _ _ _), And.left (by assumption)⟩

set_option maxHeartbeats 2000000 in
theorem Add_other (g : Bool) (a a' : Option Addr) (n c n' c' : Nat) (l l' : List Nat) (w : World) (h1 : Wds w a n c l) (h1' : Wds w a' n' c' l') (h2 : Norm l) (h2' : Norm l') (h3 : n ≤ 512) (h3' : n' ≤ 512) :
    Calls Try.prog 61 #[.agg #[.bool g, .slice a n c], .agg #[.bool (!g), .slice a' n' c']] w (RetIE (lim (sgn g (mval l) + sgn (!g) (mval l'))).1 (lim (sgn g (mval l) + sgn (!g) (mval l'))).2 w) := by
  have HA := Lib.hid h1; have HB := Lib.hid h1'
  clear h1 h1'
  have hgg : (g == !g) = false := by cases g <;> rfl
  have hneg : (!(!g)) = g := by cases g <;> rfl
  have HNG := Lib.hid hneg; clear hneg
  by_cases hlt : mval l < mval l'
  all_goals
    have hcmp : cmpI (mval l : Int) (mval l' : Int) < 0 ↔ mval l < mval l' := by unfold cmpI; split <;> (try split) <;> simp <;> omega
    have HC := Lib.hid hcmp; have HLT := Lib.hid hlt; clear hcmp hlt
    go_enter Try.func61, Try.ntmps61
    go_upto_if 10 with (fail)
    refine wp_gen (fun W => Ext w W ∧ Blk W w.heap.size #[.bool g, .slice a n c] 48 ∧ Blk W (w.heap.size + 1) #[.bool (!g), .slice a' n' c'] 48 ∧ Own W (w.heap.size + 2) 2)
      ⟨(by repeat (first | exact Ext.refl _ | assumption | refine Ext.setCell ?_ (by first | (simp; done) | (simp; omega) | omega) _ | refine Ext.alloc ?_ _ | refine Ext.drew ?_ | refine Ext.trans ?_ (by assumption))), (((Blk.at _ _ rfl).alloc _).alloc _), ((Blk.at _ _ (by simp)).alloc _), (Blk.at _ _ (by simp)).own _ (by simp) noIntW⟩ ?_
    rintro W ⟨E0, B0, B1, O2⟩
    have A0 := B0.at'
    have A1 := B1.at'
    have HB0 := Lib.hid B0; have HB1 := Lib.hid B1; have HE0 := Lib.hid E0
    clear B0 B1 E0
    go_wp2_with fail
    refine (compare_c _ _ _ _ _ _ l l' _ (HA.out.keep HE0.out.ik) (HB.out.keep HE0.out.ik) h2 h2').mono ?_
    rintro e w2 ⟨rfl, hd⟩
    have B0 := HB0.out.ext hd.ext
    have B1 := HB1.out.ext hd.ext
    have O2 := O2.ext hd.ext (by simp)
    have E0 := HE0.out.trans hd.ext
    have A0 := B0.at'
    have A1 := B1.at'
    have F0 := B0.free
    have F1 := B1.free
    have HB0 := Lib.hid B0; have HB1 := Lib.hid B1; have HE0 := Lib.hid E0
    clear B0 B1 E0 hd
  · have hc : cmpI (mval l : Int) (mval l' : Int) < 0 := HC.out.2 HLT.out
    go_wp2
    refine wp_gen (fun W => Ext w W ∧ At W w.heap.size #[.bool (!g), .slice a' n' c'] ∧ At W (w.heap.size + 1) #[.bool g, .slice a n c] ∧ Own W (w.heap.size + 2) 2)
      ⟨(((HE0.out.setCell (by simp) _).setCell (by simp) _).setCell (by simp) _).setCell (by simp) _, ?_, ?_, ?_⟩ ?_
    · exact ((((HB0.out.set 0 _).set 1 _).setOther (by simp) _).setOther (by simp) _).at'
    · exact ((((HB1.out.setOther (by simp) _).setOther (by simp) _).set 0 _).set 1 _).at'
    · exact ⟨fun o ho => own1_set (own1_set (own1_set (own1_set O2.1))) o ho, fun o => own2_set (own2_set (own2_set (own2_set O2.2.1))) o, fun o k m => own3_set (own3_set (own3_set (own3_set O2.2.2 (by simp)) (by simp)) (by simp)) (by simp) o k m⟩
    have hle : n ≤ n' := by have := len_of_le h2' h2 HB.out.fit (by have := HLT.out; omega); rw [HA.out.len, HB.out.len] at this; exact this
    have HLE := Lib.hid hle; clear hle
    rintro W' ⟨E0, A0, A1, O2⟩
    go_region_held3 (fun w' => Ext w w' ∧ At w' w.heap.size #[.bool (!g), .slice a' n' c'] ∧ At w' (w.heap.size + 1) #[.bool g, .slice a n c] ∧ Own w' (w.heap.size + 2) 2)
      (first | exact ⟨E0.drew, A0, A1, O2⟩ | (go_split_ands; repeat' (first | with_reducible assumption | with_reducible apply And.intro | with_reducible exact Ext.refl _ | with_reducible refine Ext.setCell ?_ (by simp; omega) _ | with_reducible refine Ext.setCell ?_ (by simp) _ | with_reducible refine At.set ?_ (by omega) | with_reducible refine own1_set ?_ | with_reducible refine own2_set ?_ | with_reducible refine own3_set ?_ (by simp) | with_reducible refine Ext.drew ?_ | with_reducible refine At.drew ?_ | with_reducible refine own1_drew ?_ | with_reducible refine Ext.alloc ?_ _ | with_reducible refine At.alloc ?_ (by simp) | with_reducible refine own1_alloc ?_ | with_reducible refine cell_alloc ?_ | with_reducible refine cell_drew ?_ | with_reducible refine own2_drew ?_ | with_reducible refine own3_drew ?_ | with_reducible refine own2_alloc (by first | omega | (simp; omega)) ?_ | with_reducible refine own3_alloc (by first | omega | (simp; omega)) ?_ | with_reducible refine cell_set ?_ (by omega) | with_reducible exact Ext.trans' (by assumption) (by assumption) | with_reducible exact At.ext (by assumption) (by assumption) (by simp) | with_reducible exact Ext.cell (by assumption) (by assumption) | exact (Own.ext (by assumption) ⟨by assumption, by assumption, by assumption⟩ (by simp)).1 | exact (Own.ext (by assumption) ⟨by assumption, by assumption, by assumption⟩ (by simp)).2.1 | exact (Own.ext (by assumption) ⟨by assumption, by assumption, by assumption⟩ (by simp)).2.2)))
      (first
        | (go_at_call 63; refine (difference_c _ _ _ _ _ _ l' l _ (HB.out.in4 (by assumption)) (HA.out.in4 (by assumption)) (by omega) HLE.out (by have := HLT.out; omega)).mono ?_; rintro e w3 ⟨aa, nn, cc, oo, rfl, hw, hv, hx⟩)
        | (go_at_call 40; refine (signed_c _ _ _ _ _ _ (by assumption)).mono ?_; rintro e w4 ⟨r, z, err, rfl, hr, hx3, hz⟩))
    have O3 := (Own.ext hx O2 (by simp)).ext hx3 (by simp)
    go_wp2
    refine bodyPost_ret (v := .tuple #[r.v, .int .i64 err]) (by simp [results, Try.results61, go_sem, O3]) rfl ?_
    have hl := lim_of hz
    rw [hv] at hl
    rw [sgn_add_lt _ _ _ HLT.out]
    simp only [hl]
    exact ⟨r, rfl, hr.keep (IK.put2 O3 _ _ _ _), And.left (by assumption)⟩
  · have hc : ¬ cmpI (mval l : Int) (mval l' : Int) < 0 := fun h => HLT.out (HC.out.1 h)
    go_wp2
    have hle : n' ≤ n := by have := len_of_le h2 h2' HA.out.fit (by have := HLT.out; omega); rw [HA.out.len, HB.out.len] at this; exact this
    have HLE := Lib.hid hle; clear hle
    refine wp_gen (fun W => Ext w W ∧ At W w.heap.size #[.bool g, .slice a n c] ∧ At W (w.heap.size + 1) #[.bool (!g), .slice a' n' c'] ∧ Own W (w.heap.size + 2) 2) ⟨HE0.out, A0, A1, O2⟩ ?_
    rintro W' ⟨E0, A0, A1, O2⟩
    go_region_held3 (fun w' => Ext w w' ∧ At w' w.heap.size #[.bool g, .slice a n c] ∧ At w' (w.heap.size + 1) #[.bool (!g), .slice a' n' c'] ∧ Own w' (w.heap.size + 2) 2)
      (first | exact ⟨E0.drew, A0, A1, O2⟩ | (go_split_ands; repeat' (first | with_reducible assumption | with_reducible apply And.intro | with_reducible exact Ext.refl _ | with_reducible refine Ext.setCell ?_ (by simp; omega) _ | with_reducible refine Ext.setCell ?_ (by simp) _ | with_reducible refine At.set ?_ (by omega) | with_reducible refine own1_set ?_ | with_reducible refine own2_set ?_ | with_reducible refine own3_set ?_ (by simp) | with_reducible refine Ext.drew ?_ | with_reducible refine At.drew ?_ | with_reducible refine own1_drew ?_ | with_reducible refine Ext.alloc ?_ _ | with_reducible refine At.alloc ?_ (by simp) | with_reducible refine own1_alloc ?_ | with_reducible refine cell_alloc ?_ | with_reducible refine cell_drew ?_ | with_reducible refine own2_drew ?_ | with_reducible refine own3_drew ?_ | with_reducible refine own2_alloc (by first | omega | (simp; omega)) ?_ | with_reducible refine own3_alloc (by first | omega | (simp; omega)) ?_ | with_reducible refine cell_set ?_ (by omega) | with_reducible exact Ext.trans' (by assumption) (by assumption) | with_reducible exact At.ext (by assumption) (by assumption) (by simp) | with_reducible exact Ext.cell (by assumption) (by assumption) | exact (Own.ext (by assumption) ⟨by assumption, by assumption, by assumption⟩ (by simp)).1 | exact (Own.ext (by assumption) ⟨by assumption, by assumption, by assumption⟩ (by simp)).2.1 | exact (Own.ext (by assumption) ⟨by assumption, by assumption, by assumption⟩ (by simp)).2.2)))
      (first
        | (go_at_call 63; refine (difference_c _ _ _ _ _ _ l l' _ (HA.out.in4 (by assumption)) (HB.out.in4 (by assumption)) (by omega) HLE.out (by have := HLT.out; omega)).mono ?_; rintro e w3 ⟨aa, nn, cc, oo, rfl, hw, hv, hx⟩)
        | (go_at_call 40; refine (signed_c _ _ _ _ _ _ (by assumption)).mono ?_; rintro e w4 ⟨r, z, err, rfl, hr, hx3, hz⟩))
    have O3 := (Own.ext hx O2 (by simp)).ext hx3 (by simp)
    go_wp2
    refine bodyPost_ret (v := .tuple #[r.v, .int .i64 err]) (by simp [results, Try.results61, go_sem, O3]) rfl ?_
    have hl := lim_of hz
    rw [hv] at hl
    rw [sgn_add_ge _ _ _ (by have := HLT.out; omega)]
    simp only [hl]
    exact ⟨r, rfl, hr.keep (IK.put2 O3 _ _ _ _), And.left (by assumption)⟩

set_option maxHeartbeats 400000 in
theorem Add_c (p q : IV) (x y : Int) (w : World) (hp : IsI w p x) (hq : IsI w q y) : Calls Try.prog 61 #[p.v, q.v] w (RetIE (lim (x + y)).1 (lim (x + y)).2 w) := by
  obtain ⟨g, a, n, c⟩ := p
  obtain ⟨l, h1, h2, h3, h4, rfl⟩ := hp
  obtain ⟨g', a', n', c'⟩ := q
  obtain ⟨l', h1', h2', h3', h4', rfl⟩ := hq
  by_cases hg : g' = g
  · subst hg
    exact Add_same _ _ _ _ _ _ _ _ _ _ h1 h1' h3 h3'
  · have : g' = !g := by cases g <;> cases g' <;> simp_all
    subst this
    exact Add_other _ _ _ _ _ _ _ _ _ _ h1 h1' h2 h2' h3 h3'

set_option maxHeartbeats 2000000 in
theorem Sub_c (p q : IV) (x y : Int) (w : World) (hp : IsI w p x) (hq : IsI w q y) : Calls Try.prog 59 #[p.v, q.v] w (RetIE (lim (x - y)).1 (lim (x - y)).2 w) := by
  have HA := Lib.hid hp; have HB := Lib.hid hq; clear hp hq
  go_enter Try.func59, Try.ntmps59
  go_wp2
  refine wp_gen (fun W => Ext w W ∧ At W w.heap.size #[.bool p.neg, .slice p.a p.n p.c] ∧ At W (w.heap.size + 1) #[.bool q.neg, .slice q.a q.n q.c] ∧ Own W (w.heap.size + 2) 2)
    ⟨(by repeat (first | exact Ext.refl _ | assumption | refine Ext.setCell ?_ (by first | (simp; done) | (simp; omega) | omega) _ | refine Ext.alloc ?_ _ | refine Ext.drew ?_ | refine Ext.trans ?_ (by assumption))), (((Blk.at _ _ rfl).alloc _).alloc _).at', ((Blk.at _ _ (by simp)).alloc _).at', (Blk.at _ _ (by simp)).own _ (by simp) noIntW⟩ ?_
  rintro W ⟨E0, A0, A1, O2⟩
  go_region_held3 (fun w' => Ext w w' ∧ At w' w.heap.size #[.bool p.neg, .slice p.a p.n p.c] ∧ At w' (w.heap.size + 1) #[.bool q.neg, .slice q.a q.n q.c] ∧ Own w' (w.heap.size + 2) 2)
    (first | exact ⟨E0.drew, A0, A1, O2⟩ | (go_split_ands; repeat' (first | with_reducible assumption | with_reducible apply And.intro | with_reducible exact Ext.refl _ | with_reducible refine Ext.setCell ?_ (by simp; omega) _ | with_reducible refine Ext.setCell ?_ (by simp) _ | with_reducible refine At.set ?_ (by omega) | with_reducible refine own1_set ?_ | with_reducible refine own2_set ?_ | with_reducible refine own3_set ?_ (by simp) | with_reducible refine Ext.drew ?_ | with_reducible refine At.drew ?_ | with_reducible refine own1_drew ?_ | with_reducible refine Ext.alloc ?_ _ | with_reducible refine At.alloc ?_ (by simp) | with_reducible refine own1_alloc ?_ | with_reducible refine cell_alloc ?_ | with_reducible refine cell_drew ?_ | with_reducible refine own2_drew ?_ | with_reducible refine own3_drew ?_ | with_reducible refine own2_alloc (by first | omega | (simp; omega)) ?_ | with_reducible refine own3_alloc (by first | omega | (simp; omega)) ?_ | with_reducible refine cell_set ?_ (by omega) | with_reducible exact Ext.trans' (by assumption) (by assumption) | with_reducible exact At.ext (by assumption) (by assumption) (by simp) | with_reducible exact Ext.cell (by assumption) (by assumption) | exact (Own.ext (by assumption) ⟨by assumption, by assumption, by assumption⟩ (by simp)).1 | exact (Own.ext (by assumption) ⟨by assumption, by assumption, by assumption⟩ (by simp)).2.1 | exact (Own.ext (by assumption) ⟨by assumption, by assumption, by assumption⟩ (by simp)).2.2)))
    (first
      | (go_at_call 43; refine (Neg_c q y _ (HB.out.in4 (by assumption))).mono ?_; rintro e w2 ⟨t, rfl, ht, hx⟩)
      | (go_at_call 61; refine (Add_c p t x (-y) _ (HA.out.in4 (by assumption)) ht).mono ?_; rintro e w3 ⟨r, rfl, hr, hx3⟩))
  have O3 := (Own.ext hx O2 (by simp)).ext hx3 (by simp)
  go_wp2
  refine bodyPost_ret (v := .tuple #[r.v, .int .i64 (lim (x + -y)).2]) (by simp [results, Try.results59, go_sem, O3]) rfl ?_
  rw [Int.sub_eq_add_neg]
  exact ⟨r, rfl, hr.keep (IK.put2 O3 _ _ _ _), And.left (by assumption)⟩
end Go.Proofs.Ytlnmgcmpbbklhaa
