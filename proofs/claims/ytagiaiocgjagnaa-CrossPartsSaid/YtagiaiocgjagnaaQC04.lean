/- Plain laws of chapter 07: points and segments of the reference. -/
import Derived.Test.YtagiaiocgjagnaaQC03
import Derived.Test.YtagiaiocgjagnaaQR7b
namespace Go.Proofs.Ytagiaiocgjagnaa
set_option linter.unusedSimpArgs false
set_option linter.unusedVariables false

/-- The point that the reference's point stands for. -/
def RP.q (p : RP) : QP := ⟨(p.x : Rat) / (p.d : Rat), (p.y : Rat) / (p.d : Rat)⟩
theorem RP.qx {p : RP} (h : 1 ≤ p.d) : p.q.x * (p.d : Rat) = (p.x : Rat) := Rat.div_mul_cancel (dcast_ne h)
theorem RP.qy {p : RP} (h : 1 ≤ p.d) : p.q.y * (p.d : Rat) = (p.y : Rat) := Rat.div_mul_cancel (dcast_ne h)
theorem of_q (p : Pt) : RP.q ⟨p.x, p.y, 1⟩ = p.q := by
 unfold RP.q
 refine QP.ext' ?_ ?_
 ·simp only; rw [Rat.div_def]; grind
 ·simp only; rw [Rat.div_def]; grind
/-- In lowest terms. -/
def NormR (p : RP) : Prop := 1 ≤ p.d ∧ rgcd (rgcd p.x p.y) p.d = 1
theorem normR_of (p : Pt) : NormR ⟨p.x, p.y, 1⟩ := ⟨Int.le_refl 1, by unfold rgcd; simp⟩
theorem mkF_props (x y d : Int) (hd : 1 ≤ d) : NormR (mkF x y d) ∧ ∃ g, 1 ≤ g ∧ x = (mkF x y d).x * g ∧ y = (mkF x y d).y * g ∧ d = (mkF x y d).d * g := by
 have b2 := rgcd_pos (x := rgcd x y) (y := d) (by omega)
 have d1 := rgcd_dvd x y
 have d2 := rgcd_dvd (rgcd x y) d
 have ex := Int.ediv_mul_cancel (Int.dvd_trans d2.1 d1.1)
 have ey := Int.ediv_mul_cancel (Int.dvd_trans d2.1 d1.2)
 have ed := Int.ediv_mul_cancel d2.2
 have hpos : 1 ≤ d / rgcd (rgcd x y) d := by
  rcases Int.lt_or_le 0 (d / rgcd (rgcd x y) d) with h | h
  ·omega
  ·have := Int.mul_nonpos_of_nonpos_of_nonneg h (show 0 ≤ rgcd (rgcd x y) d by omega)
   omega
 refine ⟨⟨hpos, ?_⟩, _, b2, ex.symm, ey.symm, ed.symm⟩
 show rgcd (rgcd (x / rgcd (rgcd x y) d) (y / rgcd (rgcd x y) d)) (d / rgcd (rgcd x y) d) = 1
 obtain ⟨g, hg⟩ : ∃ g, rgcd (rgcd x y) d = g := ⟨_, rfl⟩
 rw [hg] at ex ey ed b2 ⊢
 generalize x / g = X at *
 generalize y / g = Y at *
 generalize d / g = D at *
 subst ex; subst ey; subst ed
 unfold rgcd at hg ⊢
 have e1 : Nat.gcd (X * g).natAbs (Y * g).natAbs = Nat.gcd X.natAbs Y.natAbs * g.natAbs := by rw [Int.natAbs_mul, Int.natAbs_mul, Nat.gcd_mul_right]
 rw [e1] at hg
 simp only [Int.natAbs_natCast] at hg ⊢
 rw [Int.natAbs_mul, Nat.gcd_mul_right] at hg
 have h3 : ((Nat.gcd (Nat.gcd X.natAbs Y.natAbs) D.natAbs : Nat) : Int) * g = 1 * g := by
  rw [← show ((Nat.gcd (Nat.gcd X.natAbs Y.natAbs) D.natAbs * g.natAbs : Nat) : Int) = ((Nat.gcd (Nat.gcd X.natAbs Y.natAbs) D.natAbs : Nat) : Int) * g by rw [Int.natCast_mul, Int.natAbs_of_nonneg (by omega)], hg, Int.one_mul]
 exact Int.eq_of_mul_eq_mul_right (by omega) h3
theorem mkF_q {x y d : Int} (hd : 1 ≤ d) {u v : Rat} (hu : u * (d : Rat) = (x : Rat)) (hv : v * (d : Rat) = (y : Rat)) : (mkF x y d).q = ⟨u, v⟩ := by
 obtain ⟨⟨hp, _⟩, g, hg, e1, e2, e3⟩ := mkF_props x y d hd
 have qx := RP.qx hp
 have qy := RP.qy hp
 have gne := dcast_ne hg
 have dne := dcast_ne hp
 generalize mkF x y d = m at *
 have f1 : (x : Rat) = (m.x : Rat) * (g : Rat) := by rw [← Rat.intCast_mul, ← e1]
 have f2 : (y : Rat) = (m.y : Rat) * (g : Rat) := by rw [← Rat.intCast_mul, ← e2]
 have f3 : (d : Rat) = (m.d : Rat) * (g : Rat) := by rw [← Rat.intCast_mul, ← e3]
 rw [f1, f3, ← qx] at hu
 rw [f2, f3, ← qy] at hv
 have cancel : ∀ a b : Rat, a * ((m.d : Rat) * (g : Rat)) = b * (m.d : Rat) * (g : Rat) → b = a := fun a b h => by
  have : (b - a) * (m.d : Rat) * (g : Rat) = 0 := by grind
  rcases Rat.mul_eq_zero.1 this with h1 | h1
  ·rcases Rat.mul_eq_zero.1 h1 with h2 | h2
   ·grind
   ·exact absurd h2 dne
  ·exact absurd h1 gne
 exact QP.ext' (cancel _ _ hu) (cancel _ _ hv)
theorem makeF_norm {x y d : Int} (hd : d ≠ 0) : NormR (makeF x y d) := by
 unfold makeF; split
 ·exact (mkF_props _ _ _ (by omega)).1
 ·exact (mkF_props _ _ _ (by omega)).1
theorem makeF_q {x y d : Int} (hd : d ≠ 0) {u v : Rat} (hu : u * (d : Rat) = (x : Rat)) (hv : v * (d : Rat) = (y : Rat)) : (makeF x y d).q = ⟨u, v⟩ := by
 unfold makeF; split
 ·refine mkF_q (by omega) ?_ ?_
  ·rw [Rat.intCast_neg, Rat.intCast_neg, ← hu]; grind
  ·rw [Rat.intCast_neg, Rat.intCast_neg, ← hv]; grind
 ·exact mkF_q (by omega) hu hv
/-- Points in lowest terms that stand for the same point are the same. -/
theorem normR_uniq {p r : RP} (hp : NormR p) (hr : NormR r) (h : p.q = r.q) : p = r := by
 have px := RP.qx hp.1; have py := RP.qy hp.1
 have rx := RP.qx hr.1; have ry := RP.qy hr.1
 rw [h] at px py
 have e1 : p.x * r.d = r.x * p.d := icast_eq.1 (by rw [Rat.intCast_mul, Rat.intCast_mul, ← px, ← rx]; grind)
 have e2 : p.y * r.d = r.y * p.d := icast_eq.1 (by rw [Rat.intCast_mul, Rat.intCast_mul, ← py, ← ry]; grind)
 obtain ⟨hp1, hp2⟩ := hp
 obtain ⟨hr1, hr2⟩ := hr
 obtain ⟨x, y, d⟩ := p
 obtain ⟨u, v, e⟩ := r
 simp only at *
 have key : ∀ (x y d u v e : Int), 1 ≤ d → rgcd (rgcd x y) d = 1 → x * e = u * d → y * e = v * d → d.natAbs ∣ e.natAbs := fun x y d u v e hd hg h1 h2 => by
  have hc : Nat.Coprime d.natAbs (Nat.gcd x.natAbs y.natAbs) := by
   rw [Nat.coprime_comm]
   unfold rgcd at hg
   simp only [Int.natAbs_natCast] at hg
   unfold Nat.Coprime
   omega
  have d1 : d.natAbs ∣ x.natAbs * e.natAbs := by rw [← Int.natAbs_mul, h1, Int.natAbs_mul]; exact Nat.dvd_mul_left _ _
  have d2 : d.natAbs ∣ y.natAbs * e.natAbs := by rw [← Int.natAbs_mul, h2, Int.natAbs_mul]; exact Nat.dvd_mul_left _ _
  have d3 := Nat.dvd_gcd d1 d2
  rw [Nat.gcd_mul_right] at d3
  exact hc.dvd_of_dvd_mul_left d3
 have k1 := key x y d u v e hp1 hp2 e1 e2
 have k2 := key u v e x y d hr1 hr2 e1.symm e2.symm
 have k3 := Nat.dvd_antisymm k1 k2
 have : d = e := by omega
 subst this
 have h1 : x = u := Int.eq_of_mul_eq_mul_right (by omega) e1
 have h2 : y = v := Int.eq_of_mul_eq_mul_right (by omega) e2
 rw [h1, h2]
theorem cmp5_q {a b : RP} (ha : 1 ≤ a.d) (hb : 1 ≤ b.d) : cmp5 a b = cmpP a.q b.q := by
 unfold cmp5 cmpP
 rw [cmpI_cmpQ ha hb (RP.qx ha) (RP.qx hb), cmpI_cmpQ ha hb (RP.qy ha) (RP.qy hb)]
/-- Whether the reference's point lies on a segment. -/
def onF (s : Sg) (p : RP) : Bool :=
 let x := p.x - s.a.x * p.d
 let y := p.y - s.a.y * p.d
 let u := s.b.x - s.a.x
 let v := s.b.y - s.a.y
 if u * y = v * x then decide (0 ≤ u * x + v * y ∧ u * x + v * y ≤ (u * u + v * v) * p.d) else false
theorem onF_on {s : Sg} {p : RP} (hs : s.a ≠ s.b) (hp : 1 ≤ p.d) : onF s p = true ↔ OnQ s.q p.q := by
 have qx := RP.qx hp
 have qy := RP.qy hp
 have dp := dcast_pos hp
 have dne := dcast_ne hp
 have hab : s.a.q ≠ s.b.q := fun e => hs (Pt.q_inj.1 e)
 show _ ↔ OnQ ⟨s.a.q, s.b.q⟩ p.q
 rw [on_way hab]
 unfold onF
 simp only
 have hx : ((p.x - s.a.x * p.d : Int) : Rat) = (p.q.x - (s.a.x : Rat)) * (p.d : Rat) := by rw [Rat.intCast_sub, Rat.intCast_mul, ← qx]; grind
 have hy : ((p.y - s.a.y * p.d : Int) : Rat) = (p.q.y - (s.a.y : Rat)) * (p.d : Rat) := by rw [Rat.intCast_sub, Rat.intCast_mul, ← qy]; grind
 have hu : ((s.b.x - s.a.x : Int) : Rat) = (s.b.x : Rat) - (s.a.x : Rat) := by rw [Rat.intCast_sub]
 have hv : ((s.b.y - s.a.y : Int) : Rat) = (s.b.y : Rat) - (s.a.y : Rat) := by rw [Rat.intCast_sub]
 have huv : s.b.x - s.a.x ≠ 0 ∨ s.b.y - s.a.y ≠ 0 := by
  by_cases h1 : s.b.x - s.a.x = 0
  ·right; intro h2; exact hs (Pt.ext' (by omega) (by omega))
  ·exact .inl h1
 generalize p.x - s.a.x * p.d = X at *
 generalize p.y - s.a.y * p.d = Y at *
 generalize hU : s.b.x - s.a.x = U at *
 generalize hV : s.b.y - s.a.y = V at *
 have hsq : (0 : Rat) < (U : Rat) * (U : Rat) + (V : Rat) * (V : Rat) := by
  have : 0 < U * U + V * V := by
   have a1 : 0 ≤ U * U := by rcases Int.le_total 0 U with h | h; exact Int.mul_nonneg h h; exact Int.mul_nonneg_of_nonpos_of_nonpos h h
   have a2 : 0 ≤ V * V := by rcases Int.le_total 0 V with h | h; exact Int.mul_nonneg h h; exact Int.mul_nonneg_of_nonpos_of_nonpos h h
   rcases huv with h | h
   ·have : U * U ≠ 0 := Int.mul_ne_zero h h
    omega
   ·have : V * V ≠ 0 := Int.mul_ne_zero h h
    omega
  rw [← Rat.intCast_mul, ← Rat.intCast_mul, ← Rat.intCast_add]
  exact (icast_lt (a := 0)).2 this
 have hline : U * Y = V * X ↔ crs s.a.q s.b.q p.q = 0 := by
  rw [← icast_eq, Rat.intCast_mul, Rat.intCast_mul, hx, hy]
  unfold crs
  simp only
  rw [← hu, ← hv]
  constructor
  ·intro h
   have : ((U : Rat) * (p.q.y - (s.a.y : Rat)) - (V : Rat) * (p.q.x - (s.a.x : Rat))) * (p.d : Rat) = 0 := by grind
   rcases Rat.mul_eq_zero.1 this with h1 | h1
   ·exact h1
   ·exact absurd h1 dne
  ·intro h
   have : (U : Rat) * (p.q.y - (s.a.y : Rat)) = (V : Rat) * (p.q.x - (s.a.x : Rat)) := by grind
   grind
 have hway : ∀ l, p.q = wayQ s.a.q s.b.q l → ((U * X + V * Y : Int) : Rat) = l * (((U : Rat) * (U : Rat) + (V : Rat) * (V : Rat)) * (p.d : Rat)) := fun l hl => by
  rw [Rat.intCast_add, Rat.intCast_mul, Rat.intCast_mul, hx, hy, hl]
  unfold wayQ
  simp only
  rw [← hu, ← hv]
  grind
 have hpos := Rat.mul_pos hsq dp
 by_cases c : U * Y = V * X
 ·rw [if_pos c, decide_eq_true_iff]
  obtain ⟨l, hl⟩ := line_way hab (hline.1 c)
  have hw := hway l hl
  have h0 : 0 ≤ U * X + V * Y ↔ 0 ≤ l := by
   rw [← icast_le (a := 0), hw]
   constructor
   ·intro h; exact le_of_mul_pos hpos h
   ·intro h; exact Rat.mul_nonneg h (by grind)
  have h1 : U * X + V * Y ≤ (U * U + V * V) * p.d ↔ l ≤ 1 := by
   rw [← icast_le, hw, Rat.intCast_mul, Rat.intCast_add, Rat.intCast_mul, Rat.intCast_mul]
   constructor
   ·intro h
    have := le_of_mul_pos (l := 1 - l) hpos (by grind)
    grind
   ·intro h
    have := Rat.mul_nonneg (show 0 ≤ 1 - l by grind) (show 0 ≤ ((U : Rat) * (U : Rat) + (V : Rat) * (V : Rat)) * (p.d : Rat) by grind)
    grind
  rw [h0, h1]
  constructor
  ·rintro ⟨a, b⟩; exact ⟨l, a, b, hl⟩
  ·rintro ⟨m, a, b, e⟩
   have : l = m := way_inj hab (hl.symm.trans e)
   rw [this]; exact ⟨a, b⟩
 ·rw [if_neg c]
  constructor
  ·intro h; cases h
  ·rintro ⟨l, _, _, e⟩
   exact absurd (hline.2 (by rw [e]; exact way_line _ _ _)) c
end Go.Proofs.Ytagiaiocgjagnaa
