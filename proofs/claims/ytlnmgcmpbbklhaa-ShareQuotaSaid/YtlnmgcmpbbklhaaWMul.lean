/- wide: Mul, Add, Sub. -/
import Derived.Test.YtlnmgcmpbbklhaaWReg
namespace Go.Proofs.Ytlnmgcmpbbklhaa
set_option linter.unusedSimpArgs false
set_option linter.unusedVariables false
open Go.RowKit

/-- A number, or 0 with ErrLimit where it is too great. -/
def lim (x : Int) : Int × Int := if x.natAbs < WTop then (x, 0) else (0, 4)
theorem lim_of {g : Bool} {m : Nat} {z err : Int} (h : if m < WTop then z = sgn g m ∧ err = 0 else z = 0 ∧ err = 4) : lim (sgn g m) = (z, err) := by
  unfold lim
  rw [sgn_natAbs]
  by_cases hb : m < WTop
  · rw [if_pos hb] at h ⊢; rw [h.1, h.2]
  · rw [if_neg hb] at h ⊢; rw [h.1, h.2]
theorem sgn_mul (g h : Bool) (m n : Nat) : sgn g m * sgn h n = sgn (g != h) (m * n) := by
  cases g <;> cases h <;> simp [sgn, Int.natCast_mul, Int.neg_mul, Int.mul_neg]

set_option maxHeartbeats 1000000 in
theorem Mul_c (p q : IV) (x y : Int) (w : World) (hp : IsI w p x) (hq : IsI w q y) : Calls Try.prog 27 #[p.v, q.v] w (RetIE (lim (x * y)).1 (lim (x * y)).2 w) := by
  obtain ⟨g, a, n, c⟩ := p
  obtain ⟨l, h1, h2, h3, h4, rfl⟩ := hp
  obtain ⟨g', a', n', c'⟩ := q
  obtain ⟨l', h1', h2', h3', h4', rfl⟩ := hq
  have hs := sgn_mul g g' (mval l) (mval l')
  have HS := Lib.hid hs; have HA := Lib.hid h1; have HB := Lib.hid h1'
  clear hs h1 h1' h4 h4' h2 h2'
  simp only at h3 h3'
  go_enter Try.func27, Try.ntmps27
  go_wp2
  refine wp_gen (fun W => Ext w W ∧ At W w.heap.size #[.bool g, .slice a n c] ∧ At W (w.heap.size + 1) #[.bool g', .slice a' n' c'] ∧ Own W (w.heap.size + 2) 2)
    ⟨(by repeat (first | exact Ext.refl _ | assumption | refine Ext.setCell ?_ (by first | (simp; done) | (simp; omega) | omega) _ | refine Ext.alloc ?_ _ | refine Ext.drew ?_ | refine Ext.trans ?_ (by assumption))), (((Blk.at _ _ rfl).alloc _).alloc _).at', ((Blk.at _ _ (by simp)).alloc _).at', (Blk.at _ _ (by simp)).own _ (by simp) noIntW⟩ ?_
  rintro W ⟨E0, A0, A1, O2⟩
  go_region_held3 (fun w' => Ext w w' ∧ At w' w.heap.size #[.bool g, .slice a n c] ∧ At w' (w.heap.size + 1) #[.bool g', .slice a' n' c'] ∧ Own w' (w.heap.size + 2) 2)
    (first | exact ⟨E0.drew, A0, A1, O2⟩ | (go_split_ands; repeat' (first | with_reducible assumption | with_reducible apply And.intro | with_reducible exact Ext.refl _ | with_reducible refine Ext.setCell ?_ (by simp; omega) _ | with_reducible refine Ext.setCell ?_ (by simp) _ | with_reducible refine At.set ?_ (by omega) | with_reducible refine own1_set ?_ | with_reducible refine own2_set ?_ | with_reducible refine own3_set ?_ (by simp) | with_reducible refine Ext.drew ?_ | with_reducible refine At.drew ?_ | with_reducible refine own1_drew ?_ | with_reducible refine Ext.alloc ?_ _ | with_reducible refine At.alloc ?_ (by simp) | with_reducible refine own1_alloc ?_ | with_reducible refine cell_alloc ?_ | with_reducible refine cell_drew ?_ | with_reducible refine own2_drew ?_ | with_reducible refine own3_drew ?_ | with_reducible refine own2_alloc (by first | omega | (simp; omega)) ?_ | with_reducible refine own3_alloc (by first | omega | (simp; omega)) ?_ | with_reducible refine cell_set ?_ (by omega) | with_reducible exact Ext.trans' (by assumption) (by assumption) | with_reducible exact At.ext (by assumption) (by assumption) (by simp) | with_reducible exact Ext.cell (by assumption) (by assumption) | exact (Own.ext (by assumption) ⟨by assumption, by assumption, by assumption⟩ (by simp)).1 | exact (Own.ext (by assumption) ⟨by assumption, by assumption, by assumption⟩ (by simp)).2.1 | exact (Own.ext (by assumption) ⟨by assumption, by assumption, by assumption⟩ (by simp)).2.2)))
    (first
      | (go_at_call 41; refine (times_c _ _ _ _ _ _ l l' _ (HA.out.in4 (by assumption)) (HB.out.in4 (by assumption)) (by omega)).mono ?_; rintro e w2 ⟨aa, nn, cc, oo, rfl, hw, hv, hx⟩)
      | (go_at_call 40; refine (signed_c _ _ _ _ _ _ (by assumption)).mono ?_; rintro e w3 ⟨r, z, err, rfl, hr, hx3, hz⟩))
  have O3 := (Own.ext hx O2 (by simp)).ext hx3 (by simp)
  go_wp2
  refine bodyPost_ret (v := .tuple #[r.v, .int .i64 err]) (by simp [results, Try.results27, go_sem, O3]) rfl ?_
  rw [show (!(g == g')) = (g != g') from rfl] at hz
  have hl := lim_of hz
  rw [hv] at hl
  rw [HS.out]
  simp only [hl]
  exact ⟨r, rfl, hr.keep (IK.put2 O3 _ _ _ _), And.left (by assumption)⟩
end Go.Proofs.Ytlnmgcmpbbklhaa
