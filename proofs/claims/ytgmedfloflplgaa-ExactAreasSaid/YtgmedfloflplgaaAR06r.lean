/- meresmanref06: Points. -/
import Derived.Test.YtgmedfloflplgaaAR06p
import Derived.Test.YtgmedfloflplgaaALRow
namespace Go.Proofs.Ytgmedfloflplgaa
set_option linter.unusedSimpArgs false
set_option linter.unusedVariables false
open Go.RowKit

def encRP : Enc RP := ⟨fun p => [.int .i64 p.x, .int .i64 p.y, .int .i64 p.d], 3, fun _ => rfl, fun p u hu => by
 simp at hu
 rcases hu with rfl | rfl | rfl <;> rfl, by omega⟩
theorem rpInfo : (Try.prog.info? 68).map (fun i => (i.zero, i.size, i.bytes)) = some (some (.agg #[.int .i64 0, .int .i64 0, .int .i64 0]), 3, 24) := by kernel_rfl
/-- The values of the four elements. -/
abbrev cells4 (a b c d : RP) : Array Value := #[.int .i64 a.x, .int .i64 a.y, .int .i64 a.d, .int .i64 b.x, .int .i64 b.y, .int .i64 b.d, .int .i64 c.x, .int .i64 c.y, .int .i64 c.d, .int .i64 d.x, .int .i64 d.y, .int .i64 d.d]
theorem GAt.four {w : World} {b : Nat} {p q r s : RP} (h : GAt encRP w b [p, q, r, s]) : At w b (cells4 p q r s) := fun o ho => by
 match o, ho with
 | 0, _ => exact h 0 p rfl 0 (by decide)
 | 1, _ => exact h 0 p rfl 1 (by decide)
 | 2, _ => exact h 0 p rfl 2 (by decide)
 | 3, _ => exact h 1 q rfl 0 (by decide)
 | 4, _ => exact h 1 q rfl 1 (by decide)
 | 5, _ => exact h 1 q rfl 2 (by decide)
 | 6, _ => exact h 2 r rfl 0 (by decide)
 | 7, _ => exact h 2 r rfl 1 (by decide)
 | 8, _ => exact h 2 r rfl 2 (by decide)
 | 9, _ => exact h 3 s rfl 0 (by decide)
 | 10, _ => exact h 3 s rfl 1 (by decide)
 | 11, _ => exact h 3 s rfl 2 (by decide)
 | o + 12, ho => simp at ho; omega
theorem GAt.put {w : World} {b k : Nat} {l : List RP} {p : RP} (h : GAt encRP w b l) :
  GAt encRP (((w.setCell ⟨b, k * 3, none⟩ (.int .i64 p.x)).setCell ⟨b, k * 3 + 1, none⟩ (.int .i64 p.y)).setCell ⟨b, k * 3 + 2, none⟩ (.int .i64 p.d)) b (l.set k p) := fun i a hi j hj => by
 have hj3 : j < 3 := hj
 have hs : ∀ x y z u : Nat, x ≠ y → (⟨b, x, none⟩ : Addr) ≠ ⟨b, y, none⟩ := fun x y _ _ h e => by injection e with _ e2; exact h e2
 show (((w.setCell ⟨b, k * 3, none⟩ (.int .i64 p.x)).setCell ⟨b, k * 3 + 1, none⟩ (.int .i64 p.y)).setCell ⟨b, k * 3 + 2, none⟩ (.int .i64 p.d)).cell? ⟨b, i * 3 + j, none⟩ = _
 by_cases hki : k = i
 ·subst hki
  have hl : k < l.length := by
   rcases Nat.lt_or_ge k l.length with h | h
   ·exact h
   ·rw [List.getElem?_eq_none (by simpa using h)] at hi; cases hi
  rw [List.getElem?_set_self hl] at hi
  injection hi with hi
  subst hi
  have hl2 := List.getElem?_eq_getElem hl
  have c0 := h k _ hl2 0 (by decide)
  have c1 := h k _ hl2 1 (by decide)
  have c2 := h k _ hl2 2 (by decide)
  change w.cell? ⟨b, k * 3 + 0, none⟩ = some _ at c0
  change w.cell? ⟨b, k * 3 + 1, none⟩ = some _ at c1
  change w.cell? ⟨b, k * 3 + 2, none⟩ = some _ at c2
  rcases (show j = 0 ∨ j = 1 ∨ j = 2 by omega) with rfl | rfl | rfl
  ·rw [World.cell?_setCell_other _ _ _ _ (hs _ _ 0 0 (by omega)), World.cell?_setCell_other _ _ _ _ (hs _ _ 0 0 (by omega))]
   exact World.cell?_setCell_same _ _ _ c0
  ·rw [World.cell?_setCell_other _ _ _ _ (hs _ _ 0 0 (by omega))]
   refine World.cell?_setCell_same' _ _ _ ?_
   rw [World.cell?_setCell_other _ _ _ _ (hs _ _ 0 0 (by omega)), c1]; rfl
  ·refine World.cell?_setCell_same' _ _ _ ?_
   rw [World.cell?_setCell_other _ _ _ _ (hs _ _ 0 0 (by omega)), World.cell?_setCell_other _ _ _ _ (hs _ _ 0 0 (by omega)), c2]; rfl
 ·rw [List.getElem?_set_ne hki] at hi
  rw [World.cell?_setCell_other _ _ _ _ (hs _ _ 0 0 (by omega)), World.cell?_setCell_other _ _ _ _ (hs _ _ 0 0 (by omega)), World.cell?_setCell_other _ _ _ _ (hs _ _ 0 0 (by omega))]
  exact h i a hi j hj
/-- The points before the last turn. -/
def someL (zs : List Int) : Nat → List RP
 | 0 => []
 | n + 1 => someL zs n ++ [someF (pickF zs n 1048576)]
theorem someL_length (zs : List Int) (n : Nat) : (someL zs n).length = n := by
 induction n with
 | zero => rfl
 | succ n ih => simp [someL, ih]
def pointsF (zs : List Int) : List RP :=
 let a := someF (pickF zs 0 1048576)
 let b := someF (pickF zs 1 1048576)
 let l := [a, b, someF (pickF zs 2 1048576), someF (pickF zs 3 1048576)]
 let k := pickF zs 4 5
 if k = 0 then l.set 3 (midF a b) else if k = 1 then l.set 2 (midF a b) else if k = 2 then l.set (pickF zs 5 4).toNat (l.getD (pickF zs 6 4).toNat a) else l
theorem mk_dvd {x g d : Int} (hg : 1 ≤ g) (hx : g ∣ x) (hd : g ∣ d) (m : Int) (h : x ≤ m * d) : x / g ≤ m * (d / g) := by
 obtain ⟨c, rfl⟩ := hx
 obtain ⟨e, rfl⟩ := hd
 rw [Int.mul_ediv_cancel_left _ (by omega), Int.mul_ediv_cancel_left _ (by omega)]
 rw [show m * (g * e) = g * (m * e) by grind] at h
 exact Int.le_of_mul_le_mul_left h (by omega)
theorem mk_dvd' {x g d : Int} (hg : 1 ≤ g) (hx : g ∣ x) (hd : g ∣ d) (h : -d ≤ x) : -(d / g) ≤ x / g := by
 have := mk_dvd hg (Int.dvd_neg.2 hx) hd 1 (by omega)
 rw [Int.neg_ediv_of_dvd hx] at this
 omega
theorem mkF_in {x y d : Int} (hd : 1 ≤ d) (h1 : -d ≤ x) (h2 : x ≤ 32 * d) (h3 : -d ≤ y) (h4 : y ≤ 32 * d) : RIn (mkF x y d) d := by
 have d1 := rgcd_dvd x y
 have b2 := rgcd_pos (x := rgcd x y) (y := d) (by omega)
 have d2 := rgcd_dvd (rgcd x y) d
 have e1 := Int.dvd_trans d2.1 d1.1
 have e2 := Int.dvd_trans d2.1 d1.2
 have hq : 1 ≤ d / rgcd (rgcd x y) d := (Int.le_ediv_iff_mul_le (by omega)).2 (by rw [Int.one_mul]; exact Int.le_of_dvd (by omega) d2.2)
 exact ⟨hq, Int.ediv_le_self _ (by omega), mk_dvd' b2 e1 d2.2 h1, mk_dvd b2 e1 d2.2 32 h2, mk_dvd' b2 e2 d2.2 h3, mk_dvd b2 e2 d2.2 32 h4⟩
theorem makeF_pos {x y d : Int} (hd : 1 ≤ d) : makeF x y d = mkF x y d := if_neg (by omega)
theorem midF_in {a b : RP} {m n : Int} (ha : RIn a m) (hb : RIn b n) : RIn (midF a b) (2 * (m * n)) := by
 have p := den_mul ha.d1 ha.dm hb.d1 hb.dm
 have x1 := box_mul ha.x1 ha.x2 hb.d1
 have x2 := box_mul hb.x1 hb.x2 ha.d1
 have y1 := box_mul ha.y1 ha.y2 hb.d1
 have y2 := box_mul hb.y1 hb.y2 ha.d1
 rw [Int.mul_comm b.d a.d] at x2 y2
 unfold midF
 rw [Int.mul_assoc 2 a.d b.d]
 rw [makeF_pos (by omega)]
 exact (mkF_in (by omega) (by omega) (by omega) (by omega) (by omega)).le (by omega)
theorem denF_bd (k : Int) : denF k = 1 ∨ denF k = 2 ∨ denF k = 3 ∨ denF k = 5 ∨ denF k = 12 := by
 have h1 := Int.emod_nonneg k (show (8 : Int) ≠ 0 by decide)
 have h2 := Int.emod_lt_of_pos k (show (0 : Int) < 8 by decide)
 unfold denF dens
 rcases (show k % 8 = 0 ∨ k % 8 = 1 ∨ k % 8 = 2 ∨ k % 8 = 3 ∨ k % 8 = 4 ∨ k % 8 = 5 ∨ k % 8 = 6 ∨ k % 8 = 7 by omega) with h | h | h | h | h | h | h | h <;> rw [h] <;> decide
theorem someF_in (n : Int) : RIn (someF n) 12 := by
 have hk := aroundF_bd n 1048576 (by omega)
 unfold someF
 simp only
 generalize aroundF n 1048576 = k at hk
 obtain ⟨g1, g2, g3, g4⟩ := gridF_tiny (k / 8)
 have hd := denF_bd k
 have r1 := Int.emod_nonneg (k / 64) (show denF k ≠ 0 by omega)
 have r2 := Int.emod_lt_of_pos (k / 64) (show 0 < denF k by omega)
 have r3 := Int.emod_nonneg (k / 256) (show denF k ≠ 0 by omega)
 have r4 := Int.emod_lt_of_pos (k / 256) (show 0 < denF k by omega)
 generalize gridF (k / 8) = p at *
 generalize k / 64 % denF k = u at *
 generalize k / 256 % denF k = v at *
 split
 ·exact ⟨by simp, by simp, by simp; omega, by simp; omega, by simp; omega, by simp; omega⟩
 ·rcases hd with hd | hd | hd | hd | hd
  ·omega
  all_goals
   rw [hd] at r2 r4 ⊢
   rw [makeF_pos (by omega)]
   exact (mkF_in (by omega) (by omega) (by omega) (by omega) (by omega)).le (by omega)
theorem pointsF_in (zs : List Int) : ∃ a b c d : RP, pointsF zs = [a, b, c, d] ∧ RIn a 12 ∧ RIn b 12 ∧ RIn c 288 ∧ RIn d 288 := by
 have ha := someF_in (pickF zs 0 1048576)
 have hb := someF_in (pickF zs 1 1048576)
 have hc := someF_in (pickF zs 2 1048576)
 have hd := someF_in (pickF zs 3 1048576)
 have hm := midF_in ha hb
 have k5 := pickF_bd zs 5 4 (by omega)
 have k6 := pickF_bd zs 6 4 (by omega)
 unfold pointsF
 simp only
 generalize someF (pickF zs 0 1048576) = a at *
 generalize someF (pickF zs 1 1048576) = b at *
 generalize someF (pickF zs 2 1048576) = c at *
 generalize someF (pickF zs 3 1048576) = d at *
 split
 ·exact ⟨a, b, c, _, rfl, ha, hb, hc.le (by omega), hm.le (by omega)⟩
 ·split
  ·exact ⟨a, b, _, d, rfl, ha, hb, hm.le (by omega), hd.le (by omega)⟩
  ·split
   ·have hr : RIn (([a, b, c, d] : List RP).getD (pickF zs 6 4).toNat a) 12 := by
     rcases (show (pickF zs 6 4).toNat = 0 ∨ (pickF zs 6 4).toNat = 1 ∨ (pickF zs 6 4).toNat = 2 ∨ (pickF zs 6 4).toNat = 3 by omega) with h | h | h | h <;> rw [h] <;> assumption
    rcases (show (pickF zs 5 4).toNat = 0 ∨ (pickF zs 5 4).toNat = 1 ∨ (pickF zs 5 4).toNat = 2 ∨ (pickF zs 5 4).toNat = 3 by omega) with h | h | h | h <;> rw [h]
    ·exact ⟨_, b, c, d, rfl, hr, hb, hc.le (by omega), hd.le (by omega)⟩
    ·exact ⟨a, _, c, d, rfl, ha, hr, hc.le (by omega), hd.le (by omega)⟩
    ·exact ⟨a, b, _, d, rfl, ha, hb, hr.le (by omega), hd.le (by omega)⟩
    ·exact ⟨a, b, c, _, rfl, ha, hb, hc.le (by omega), hr.le (by omega)⟩
   ·exact ⟨a, b, c, d, rfl, ha, hb, hc.le (by omega), hd.le (by omega)⟩
end Go.Proofs.Ytgmedfloflplgaa
