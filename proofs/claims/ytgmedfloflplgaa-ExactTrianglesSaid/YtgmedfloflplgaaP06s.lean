/- Plain laws of chapter 06: the points in turn. -/
import Derived.Test.YtgmedfloflplgaaP06
import Derived.Test.YtgmedfloflplgaaR06a
import Derived.Test.YtgmedfloflplgaaR06r
namespace Go.Proofs.Ytgmedfloflplgaa
set_option linter.unusedSimpArgs false
set_option linter.unusedVariables false
open Go.RowKit

theorem areaRP_swap (a b c : RP) : a.d * areaRP b a c = -b.d * areaRP a b c := by unfold areaRP; grind
theorem areaRP_turn (a b c : RP) : areaRP a b c * ((c.d * b.d) * (a.d * b.d)) = areaRP b c a * ((b.d * a.d) * (c.d * a.d)) := by unfold areaRP; grind
theorem sg_neg' (a : Int) : sg (-a) = -sg a := by
  rcases sg_cases a with ⟨h, e⟩ | ⟨h, e⟩ | ⟨h, e⟩ <;> rw [e]
  · exact sg_neg (by omega)
  · rw [h]; rfl
  · exact sg_pos (by omega)
theorem side_swap {a b c : RP} (ha : 1 ≤ a.d) (hb : 1 ≤ b.d) : cmpI (areaRP b a c) 0 = -cmpI (areaRP a b c) 0 := by
  have h := congrArg sg (areaRP_swap a b c)
  rw [sg_mul, sg_mul, sg_neg', sg_pos (show 0 < a.d by omega), sg_pos (show 0 < b.d by omega), Int.one_mul] at h
  show sg (areaRP b a c) = -sg (areaRP a b c)
  rw [h]; omega
theorem cmpI_self (a : Int) : cmpI a a = 0 := by unfold cmpI; rw [if_neg (by omega), if_neg (by omega)]
theorem area_turn (a b c : RP) : cmpI (areaRP a b c * ((c.d * b.d) * (a.d * b.d))) (areaRP b c a * ((b.d * a.d) * (c.d * a.d))) = 0 := by rw [areaRP_turn]; exact cmpI_self _
theorem rgcd_zero (n : Int) : rgcd n 0 = (n.natAbs : Int) := by unfold rgcd; simp
theorem mk_low {n d : Int} (hd : 1 ≤ d) : makeF n 0 d = ⟨n / rgcd n d, 0 / rgcd n d, d / rgcd n d⟩ := by
  rw [makeF_pos hd]
  unfold mkF
  rw [rgcd_zero]
  have : rgcd ((n.natAbs : Nat) : Int) d = rgcd n d := by unfold rgcd; simp
  rw [this]
/-- The fraction of an area, in lowest terms, is what the reference gives. -/
theorem area_low {w : World} {f : FV} {a b c : RP} {k : Nat} (ha : 1 ≤ a.d) (hb : 1 ≤ b.d) (hc : 1 ≤ c.d) (h : IsR w f (areaRP a b c) ((b.d * a.d) * (c.d * a.d)) k) : IsF w f (makeF (areaRP a b c) 0 (denRP a b c)).x (makeF (areaRP a b c) 0 (denRP a b c)).d := by
  obtain ⟨N, D, h1, h2, _⟩ := h
  have hd : 1 ≤ denRP a b c := by unfold denRP; exact pos_mul (pos_mul (pos_mul ha ha) hb) hc
  have hl := low_of (areaRP a b c) (denRP a b c) hd
  have hg : gcdI (areaRP a b c) (denRP a b c) = rgcd (areaRP a b c) (denRP a b c) := rfl
  rw [mk_low hd]
  simp only
  rw [← hg]
  have e : EqQ N D (areaRP a b c / gcdI (areaRP a b c) (denRP a b c)) (denRP a b c / gcdI (areaRP a b c) (denRP a b c)) := by
    refine h2.trans' ?_ hl.pos
    have e1 := hl.eq
    have e2 : (b.d * a.d) * (c.d * a.d) = denRP a b c := by unfold denRP; grind
    rw [e2]
    exact e1.symm
  obtain ⟨e1, e2⟩ := e.uniq h1.low hl.low
  rw [← e1, ← e2]
  exact h1
theorem low_bd {a b c : RP} (ha : RIn a 288) (hb : RIn b 288) (hc : RIn c 288) : -4611686018427387904 < (makeF (areaRP a b c) 0 (denRP a b c)).x ∧ (makeF (areaRP a b c) 0 (denRP a b c)).x < 4611686018427387904 ∧ 0 < (makeF (areaRP a b c) 0 (denRP a b c)).d ∧ (makeF (areaRP a b c) 0 (denRP a b c)).d < 4611686018427387904 := by
  have h := areaRP_bd a b c ha hb hc
  have hd := h.2.2.1
  have hg := rgcd_pos (x := areaRP a b c) (y := denRP a b c) (by omega)
  have hv := rgcd_dvd (areaRP a b c) (denRP a b c)
  rw [mk_low hd]
  have e1 := div_bd hg (m := 14984002142208) (by omega) (by omega) hv.1
  have e2 := div_bd hg (m := 6879707136) (by omega) (by omega) hv.2
  have e3 : 0 < denRP a b c / rgcd (areaRP a b c) (denRP a b c) := by
    have := (Int.le_ediv_iff_mul_le (show 0 < rgcd (areaRP a b c) (denRP a b c) by omega)).2 (show 1 * rgcd (areaRP a b c) (denRP a b c) ≤ denRP a b c by rw [Int.one_mul]; exact Int.le_of_dvd (by omega) hv.2)
    omega
  simp only
  exact ⟨by omega, by omega, e3, by omega⟩
end Go.Proofs.Ytgmedfloflplgaa
