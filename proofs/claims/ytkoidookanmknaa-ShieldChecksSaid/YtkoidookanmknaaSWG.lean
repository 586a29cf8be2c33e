/- wide: division in general, Gcd, Div. -/
import Derived.Test.YtkoidookanmknaaSWDivL
import Derived.Test.YtkoidookanmknaaSWS
/- wide: divide. -/
namespace Go.Proofs.Ytkoidookanmknaa
set_option linter.unusedSimpArgs false
set_option linter.unusedVariables false
open Go.RowKit

theorem divide_c (a b : Option Addr) (n m c d : Nat) (l k : List Nat) (w : World) (hl : Wds w a n c l) (hk : Wds w b m d k) (nl : Norm l) (nk : Norm k) (hn : n ≤ 512) (hm : m ≤ 512) (h0 : 0 < mval k) :
  Calls Try.prog 71 #[.slice a n c, .slice b m d] w (RetWW (mval l / mval k) (mval l % mval k) w) := by
 by_cases h1 : mval l < mval k ∨ mval k < B32
 ·exact divide1_c a b n m c d l k w hl hk nl nk hn h0 h1
 ·have h2 : mval k ≤ mval l := by omega
  have h3 : B32 ≤ mval k := by omega
  refine divideL_c a b n m c d l k w hl hk nl nk hn ?_ h2
  apply Nat.le_of_not_lt
  intro h4
  have h5 := (norm_len_le nk hk.fit 1).2 (by rw [hk.len]; omega)
  rw [Nat.pow_one] at h5
  omega
end Go.Proofs.Ytkoidookanmknaa
/- wide: Gcd (as far as divide goes). -/
namespace Go.Proofs.Ytkoidookanmknaa
set_option linter.unusedSimpArgs false
set_option linter.unusedVariables false
open Go.RowKit

/-- The magnitude that a slice of words holds. -/
def wvalF (w : World) (v : Value) : Nat :=
 match v with
 | .slice (some ⟨b, off, _⟩) n _ => mval ((List.range n).map fun i => match w.cell? ⟨b, off + i, none⟩ with | some (.int _ z) => z.toNat | _ => 0)
 | _ => 0
theorem Wds.val {w : World} {a : Option Addr} {n c : Nat} {l : List Nat} (h : Wds w a n c l) : wvalF w (.slice a n c) = mval l := by
 obtain ⟨h1, h2, h3, h4, ⟨rfl, rfl, rfl⟩ | ⟨b, off, rfl, hb, hc⟩⟩ := h
 ·have : l = [] := List.eq_nil_of_length_eq_zero h1
  subst this; rfl
 ·show mval ((List.range n).map fun i => match w.cell? ⟨b, off + i, none⟩ with | some (.int _ z) => z.toNat | _ => 0) = mval l
  refine congrArg mval ?_
  apply List.ext_getElem
  ·simp [h1]
  ·intro i hi1 hi2
   have hi : i < n := by simpa using hi1
   simp [hc i hi, dg, List.getD_eq_getElem?_getD, hi2]
theorem put2_cells {w : World} {b : Nat} (h : Own w b 2) (x y : Value) : ((w.setCell ⟨b, 0, none⟩ x).setCell ⟨b, 1, none⟩ y).cell? ⟨b, 0, none⟩ = some x ∧ ((w.setCell ⟨b, 0, none⟩ x).setCell ⟨b, 1, none⟩ y).cell? ⟨b, 1, none⟩ = some y := by
 constructor
 ·rw [World.cell?_setCell_other _ _ _ _ (by simp)]
  exact World.cell?_setCell_same' _ _ _ (by rw [h.1 0 (by omega)]; rfl)
 ·refine World.cell?_setCell_same' _ _ _ ?_
  rw [World.cell?_setCell_other _ _ _ _ (by simp), h.1 1 (by omega)]; rfl
theorem gcd_step (x y : Nat) : Nat.gcd y (x % y) = Nat.gcd x y := by rw [Nat.gcd_comm y, ← Nat.gcd_rec, Nat.gcd_comm]
set_option maxRecDepth 100000 in
set_option maxHeartbeats 1000000 in
theorem Gcd_c (p q : IV) (x y : Int) (w : World) (hp : IsI w p x) (hq : IsI w q y) : Calls Try.prog 50 #[p.v, q.v] w (RetI ((Nat.gcd x.natAbs y.natAbs : Nat) : Int) w) := by
 obtain ⟨g, a, n, c⟩ := p
 obtain ⟨l, h1, h2, h3, h4, rfl⟩ := hp
 obtain ⟨g', a', n', c'⟩ := q
 obtain ⟨l', h1', h2', h3', h4', rfl⟩ := hq
 rw [sgn_natAbs, sgn_natAbs]
 obtain ⟨G, hG⟩ : ∃ G, Nat.gcd (mval l) (mval l') = G := ⟨_, rfl⟩
 rw [hG]
 simp only at h1 h1' h3 h3'
 have HS := Lib.hid (And.intro h1 (And.intro h2 (And.intro h1' (And.intro h2' hG))))
 clear h1 h1' h4 h4' h2 h2' hG
 go_enter Try.func50, Try.ntmps50
 go_wp2_with fail
 refine wp_gen (fun W => Ext w W ∧ At W w.heap.size #[.bool g, .slice a n c] ∧ At W (w.heap.size + 1) #[.bool g', .slice a' n' c'] ∧ Own W (w.heap.size + 2) 2)
  ⟨(by repeat (first | exact Ext.refl _ | assumption | refine Ext.setCell ?_ (by first | (simp; done) | (simp; omega) | omega) _ | refine Ext.alloc ?_ _ | refine Ext.drew ?_ | refine Ext.trans ?_ (by assumption))), (((Blk.at _ _ rfl).alloc _).alloc _).at', ((Blk.at _ _ (by simp)).alloc _).at', (Blk.at _ _ (by simp)).own _ (by simp) noIntW⟩ ?_
 rintro W ⟨E0, A0, A1, O2⟩
 have l0 := A0.lt (by simp)
 have l1 := A1.lt (by simp)
 have l2 := O2.lt (by omega)
 have c0 := A0 1 (by simp)
 have c1 := A1 1 (by simp)
 generalize hw0 : w.heap.size = B at *
 simp at c0 c1
 go_quiet (fail)
 have HE := Lib.hid (show Ext w (W.drewN nq) ∧ Own (W.drewN nq) (B + 2) 2 from ⟨E0.drewN nq, O2⟩)
 clear E0 O2 A0 A1 c0 c1
 go_wp2_with fail
 go_loopw [5, 6] (fun av bv ws => ∃ (a : Option Addr) (n c : Nat) (l : List Nat) (b : Option Addr) (m d : Nat) (k : List Nat), av = .slice a n c ∧ bv = .slice b m d ∧ Wds ws a n c l ∧ Norm l ∧ n ≤ 512 ∧ Wds ws b m d k ∧ Norm k ∧ m ≤ 512 ∧
  Nat.gcd (mval l) (mval k) = G ∧ Ext (W.drewN nq) ws) (fun _ bv ws => wvalF ws bv)
 case atStart => exact ⟨_, _, _, l, _, _, _, l', rfl, rfl, HS.out.1.keep HE.out.1.ik, HS.out.2.1, h3, HS.out.2.2.1.keep HE.out.1.ik, HS.out.2.2.2.1, h3', HS.out.2.2.2.2, Ext.refl _⟩
 case round =>
  obtain ⟨a1, n1, c1, L, b1, m1, d1, K, rfl, rfl, hL, nL, hn1, hK, nK, hm1, hgc, hE⟩ := hrel
  have HL := Lib.hid hL; have HK := Lib.hid hK; have NL := Lib.hid nL; have NK := Lib.hid nK; have HEr := Lib.hid hE
  have O3 := HE.out.2.ext hE (by omega)
  by_cases h0 : m1 = 0
  ·subst h0
   have hK0 : K = [] := List.eq_nil_of_length_eq_zero hK.len
   subst hK0
   have hG : mval L = G := by rw [← hgc]; simp [mval]
   have htop := WTop_ge hL.fit (by rw [hL.len]; exact hn1)
   have HG := Lib.hid hG; have HT := Lib.hid htop
   clear hgc hL hK nL nK hE hG htop
   go_wp2_with fail
   refine (signed_c false a1 n1 c1 L _ HL.out).mono ?_
   rintro e w5 ⟨r, z, err, rfl, hr, hx5, hz⟩
   rw [if_pos HT.out] at hz
   obtain ⟨rfl, rfl⟩ := hz
   have O5 := O3.ext hx5 (by omega)
   have l5 := O5.lt (by omega)
   have HR := Lib.hid hr; have HX5 := Lib.hid hx5
   clear O3 hr hx5
   have O6 : Own w5 (B + 1 + 1) 2 := O5
   go_wp2_with fail
   have hc0 := cell_alloc (o := .cells #[.bool r.neg, .slice r.a r.n r.c] 56) (put2_cells O6 (.bool r.neg) (.slice r.a r.n r.c)).1
   have hc1 := cell_alloc (o := .cells #[.bool r.neg, .slice r.a r.n r.c] 56) (put2_cells O6 (.bool r.neg) (.slice r.a r.n r.c)).2
   refine bodyPost_ret (v := r.v) (by simp [results, Try.results50, go_sem, hc0, hc1]) rfl ?_
   refine ⟨r, rfl, ?_, ?_⟩
   ·rw [← HG.out]; exact (HR.out.keep (IK.put2 O6 _ _ _ _)).keep (IK.alloc (IK.refl _) _)
   ·exact (((HE.out.1.trans HEr.out).trans HX5.out).setCell (by simp; omega) _).setCell (by simp; omega) _ |>.alloc _
  ·have hpos : 0 < mval K := pos_of_norm nK hK.len (by omega)
   have HPOS := Lib.hid hpos; have HGC := Lib.hid hgc
   have hmx : (0 : Int) < (m1 : Int) := by omega
   clear hgc hL hK nL nK hE hpos O3
   go_wp2_with fail
   refine (divide_c a1 b1 n1 m1 c1 d1 L K _ HL.out HK.out NL.out NK.out hn1 hm1 HPOS.out).mono ?_
   rintro e w5 ⟨qa, qn, qc, ql, ra, rn, rc, rl, rfl, hq1, hq2, hq3, hr1, hr2, hr3, hx5⟩
   have hlt : mval rl < mval K := by rw [hr3]; exact Nat.mod_lt _ HPOS.out
   have hrl := len_of_le NK.out hr2 HK.out.fit (by omega)
   rw [HK.out.len, hr1.len] at hrl
   have HF := Lib.hid (And.intro hr1 (And.intro hr2 (And.intro hr3 (And.intro hx5 hlt))))
   clear hq1 hq2 hq3 hr1 hr2 hr3 hx5 hlt
   go_wp2_with fail
   go_roundw
   case rel => exact ⟨b1, m1, d1, K, ra, rn, rc, rl, rfl, rfl, HK.out.keep HF.out.2.2.2.1.ik, NK.out, hm1, HF.out.1, HF.out.2.1, by omega, by rw [HF.out.2.2.1, gcd_step]; exact HGC.out, HEr.out.trans HF.out.2.2.2.1⟩
   case measure => rw [HF.out.1.val, HK.out.val]; exact HF.out.2.2.2.2
end Go.Proofs.Ytkoidookanmknaa
/- wide: Div (as far as divide goes). -/
namespace Go.Proofs.Ytkoidookanmknaa
set_option linter.unusedSimpArgs false
set_option linter.unusedVariables false
open Go.RowKit

theorem div_uniq {x y q r : Int} (h : x = q * y + r) (h0 : 0 ≤ r) (h1 : r < y.natAbs) : x / y = q ∧ x % y = r := by
 have hy : y ≠ 0 := by omega
 have e : x / y = q := by
  have h5 : r / y = 0 := by
   rcases Int.lt_or_gt_of_ne hy with h6 | h6
   ·obtain ⟨b, rfl⟩ : ∃ b, y = -b := ⟨-y, by omega⟩
    rw [Int.ediv_neg, Int.ediv_eq_zero_of_lt h0 (by omega)]; rfl
   ·exact Int.ediv_eq_zero_of_lt h0 (by omega)
  rw [h, Int.add_comm, Int.add_mul_ediv_right _ _ hy, h5, Int.zero_add]
 refine ⟨e, ?_⟩
 have h2 := Int.mul_ediv_add_emod x y
 rw [e] at h2
 rw [Int.mul_comm] at h2
 omega
theorem div_law1 {g g' : Bool} {l k : Nat} (hk : 0 < k) (h : g = false ∨ l % k = 0) : sgn g l / sgn g' k = sgn (g != g') (l / k) ∧ sgn g l % sgn g' k = ((l % k : Nat) : Int) := by
 have h1 := Nat.div_add_mod l k
 have h2 := Nat.mod_lt l hk
 have h3 : (l : Int) = (l / k : Nat) * (k : Int) + (l % k : Nat) := by
  rw [← Int.natCast_mul, ← Int.natCast_add, Nat.mul_comm]; exact congrArg _ h1.symm
 generalize l / k = q at *
 generalize l % k = r at *
 refine div_uniq ?_ (by omega) (by rw [sgn_natAbs]; omega)
 rcases h with rfl | rfl
 ·cases g' <;> simp [sgn] <;> grind
 ·cases g <;> cases g' <;> simp [sgn] <;> grind
theorem div_law2 {g' : Bool} {l k : Nat} (hk : 0 < k) (h : 0 < l % k) : sgn true l / sgn g' k = sgn (true != g') (l / k + 1) ∧ sgn true l % sgn g' k = ((k - l % k : Nat) : Int) := by
 have h1 := Nat.div_add_mod l k
 have h2 := Nat.mod_lt l hk
 have h3 : (l : Int) = (l / k : Nat) * (k : Int) + (l % k : Nat) := by
  rw [← Int.natCast_mul, ← Int.natCast_add, Nat.mul_comm]; exact congrArg _ h1.symm
 generalize l / k = q at *
 generalize l % k = r at *
 refine div_uniq ?_ (by omega) (by rw [sgn_natAbs]; omega)
 have h4 : ((k - r : Nat) : Int) = (k : Int) - r := by omega
 rw [h4]
 cases g' <;> simp [sgn] <;> rw [h3] <;> grind
theorem div_small {l k : Nat} (hk : 0 < k) (h : 0 < l % k) : l / k + 1 ≤ l := by
 have h1 := Nat.div_add_mod l k
 have h2 := Nat.mod_lt l hk
 have h3 : l / k * 2 ≤ l / k * k := Nat.mul_le_mul_left _ (by omega)
 rw [Nat.mul_comm k] at h1
 omega
/-- What 'Div' returns. -/
def RetQR (x y : Int) (w : World) (e : Ending) (w' : World) : Prop := ∃ r s : IV, e = .returned (.tuple #[r.v, s.v, .int .i64 0]) ∧ IsI w' r x ∧ IsI w' s y ∧ Ext w w'
theorem own_put2 {w : World} {b b' : Nat} (h : Own w b' 2) (g : Bool) (a : Option Addr) (n c : Nat) : Own ((w.setCell ⟨b, 0, none⟩ (.bool g)).setCell ⟨b, 1, none⟩ (.slice a n c)) b' 2 :=
 ⟨own1_set (own1_set h.1), own2_set (own2_set h.2.1), own3_set (own3_set h.2.2 (by simp)) (by simp)⟩
theorem put4_cells {w : World} {b b' : Nat} (hne : b ≠ b') (h : Own w b 2) (h' : Own w b' 2) (g g' : Bool) (a a' : Option Addr) (n c n' c' : Nat) :
  ((((w.setCell ⟨b, 0, none⟩ (.bool g)).setCell ⟨b, 1, none⟩ (.slice a n c)).setCell ⟨b', 0, none⟩ (.bool g')).setCell ⟨b', 1, none⟩ (.slice a' n' c')).cell? ⟨b, 0, none⟩ = some (.bool g) ∧
  ((((w.setCell ⟨b, 0, none⟩ (.bool g)).setCell ⟨b, 1, none⟩ (.slice a n c)).setCell ⟨b', 0, none⟩ (.bool g')).setCell ⟨b', 1, none⟩ (.slice a' n' c')).cell? ⟨b, 1, none⟩ = some (.slice a n c) ∧
  ((((w.setCell ⟨b, 0, none⟩ (.bool g)).setCell ⟨b, 1, none⟩ (.slice a n c)).setCell ⟨b', 0, none⟩ (.bool g')).setCell ⟨b', 1, none⟩ (.slice a' n' c')).cell? ⟨b', 0, none⟩ = some (.bool g') ∧
  ((((w.setCell ⟨b, 0, none⟩ (.bool g)).setCell ⟨b, 1, none⟩ (.slice a n c)).setCell ⟨b', 0, none⟩ (.bool g')).setCell ⟨b', 1, none⟩ (.slice a' n' c')).cell? ⟨b', 1, none⟩ = some (.slice a' n' c') := by
 have h1 := put2_cells h (.bool g) (.slice a n c)
 have h2 := put2_cells (own_put2 (b := b) h' g a n c) (.bool g') (.slice a' n' c')
 refine ⟨?_, ?_, h2.1, h2.2⟩
 ·rw [World.cell?_setCell_other _ _ _ _ (by simp [hne]), World.cell?_setCell_other _ _ _ _ (by simp [hne])]; exact h1.1
 ·rw [World.cell?_setCell_other _ _ _ _ (by simp [hne]), World.cell?_setCell_other _ _ _ _ (by simp [hne])]; exact h1.2
/-- What is known of quotient and rest. -/
structure TailF (w : World) (qa : Option Addr) (qn qc : Nat) (ql : List Nat) (ra : Option Addr) (rn rc : Nat) (rl : List Nat) (s : Nat → Int) (x y : Int) : Prop where
 q : Wds w qa qn qc ql
 r : Wds w ra rn rc rl
 q1 : mval ql < WTop
 r1 : mval rl < WTop
 q2 : s (mval ql) = x
 r2 : ((mval rl : Nat) : Int) = y
set_option maxRecDepth 100000 in
set_option maxHeartbeats 1000000 in
theorem Div_c (p q : IV) (x y : Int) (w : World) (hp : IsI w p x) (hq : IsI w q y) (hy0 : y ≠ 0) : Calls Try.prog 74 #[p.v, q.v] w (RetQR (x / y) (x % y) w) := by
 obtain ⟨g, a, n, c⟩ := p
 obtain ⟨l, h1, h2, h3, h4, rfl⟩ := hp
 obtain ⟨g', a', n', c'⟩ := q
 obtain ⟨l', h1', h2', h3', h4', rfl⟩ := hq
 simp only at h1 h1' h3 h3'
 have hk0 : 0 < mval l' := by
  rcases Nat.eq_zero_or_pos (mval l') with h | h
  ·rw [h, sgn_zero] at hy0; exact absurd rfl hy0
  ·exact h
 have hn0 : 0 < n' := by
  rcases Nat.eq_zero_or_pos n' with h | h
  ·subst h
   have : l' = [] := List.eq_nil_of_length_eq_zero h1'.len
   subst this; simp [mval] at hk0
  ·exact h
 have HS := Lib.hid (And.intro h1 (And.intro h2 (And.intro h1' (And.intro h2' hk0))))
 have htop := (norm_top h2 h1.fit).2 (by rw [h1.len]; exact h3)
 have htop' := (norm_top h2' h1'.fit).2 (by rw [h1'.len]; exact h3')
 have HTOP := Lib.hid htop; have HTOP2 := Lib.hid htop'
 clear h1 h1' h4 h4' h2 h2' hy0 hk0 htop htop'
 have t0 : (n' == 0) = false := by rw [beq_eq_false_iff_ne]; omega
 have t1 : ((n' : Int) == 0) = false := by rw [beq_eq_false_iff_ne]; omega
 go_enter Try.func74, Try.ntmps74
 go_wp2_with fail
 refine (divide_c a a' n n' c c' l l' _ (HS.out.1.keep (by repeat (first | exact IK.refl _ | refine IK.alloc ?_ _ | refine IK.drew ?_ | refine IK.setCell ?_ (by simp [hc, go_sem]) _))) (HS.out.2.2.1.keep (by repeat (first | exact IK.refl _ | refine IK.alloc ?_ _ | refine IK.drew ?_ | refine IK.setCell ?_ (by simp [hc, go_sem]) _))) HS.out.2.1 HS.out.2.2.2.1 h3 h3' HS.out.2.2.2.2).mono ?_
 rintro e w5 ⟨qa, qn, qc, ql, ra, rn, rc, rl, rfl, hq1, hq2, hq3, hr1, hr2, hr3, hx5⟩
 have hql := len_of_le HS.out.2.1 hq2 HS.out.1.fit (by rw [hq3]; exact Nat.div_le_self _ _)
 rw [HS.out.1.len, hq1.len] at hql
 have hrl := len_of_le HS.out.2.2.2.1 hr2 HS.out.2.2.1.fit (by rw [hr3]; exact Nat.le_of_lt (Nat.mod_lt _ HS.out.2.2.2.2))
 rw [HS.out.2.2.1.len, hr1.len] at hrl
 have HQ := Lib.hid (And.intro hq1 (And.intro hq2 hq3)); have HR := Lib.hid (And.intro hr1 (And.intro hr2 hr3))
 clear hq1 hq2 hq3 hr1 hr2 hr3
 have hE5 : Ext w w5 := Ext.trans (by repeat (first | exact Ext.refl _ | assumption | refine Ext.setCell ?_ (by first | (simp; done) | (simp; omega) | omega) _ | refine Ext.alloc ?_ _ | refine Ext.drew ?_ | refine Ext.trans ?_ (by assumption))) hx5
 have A0 : At w5 w.heap.size #[.bool g, .slice a n c] := At.ext hx5 ((((Blk.at _ _ rfl).alloc _).alloc _).alloc _).at' (by simp)
 have A1 : At w5 (w.heap.size + 1) #[.bool g', .slice a' n' c'] := At.ext hx5 (((Blk.at _ _ (by simp)).alloc _).alloc _).at' (by simp)
 have O2 : Own w5 (w.heap.size + 2) 2 := Own.ext hx5 (((Blk.at #[.bool false, .slice none 0 0] 56 (by simp)).alloc _).own _ (by simp) noIntW) (by omega)
 have O3 : Own w5 (w.heap.size + 3) 2 := Own.ext hx5 ((Blk.at #[.bool false, .slice none 0 0] 56 (by simp)).own _ (by simp) noIntW) (by omega)
 clear hx5
 obtain ⟨B, hB⟩ : ∃ B, w.heap.size = B := ⟨_, rfl⟩
 rw [hB] at A0 A1 O2 O3
 have l0 := A0.lt (by simp)
 have l1 := A1.lt (by simp)
 have l2 := O2.lt (by omega)
 have l3 := O3.lt (by omega)
 have HE5 := Lib.hid hE5
 clear hE5
 have HF := Lib.hid (show Ext w w5 ∧ At w5 B #[.bool g, .slice a n c] ∧ At w5 (B + 1) #[.bool g', .slice a' n' c'] ∧ Own w5 (B + 2) 2 ∧ Own w5 (B + 3) 2 from ⟨HE5.out, A0, A1, O2, O3⟩)
 have c00 := A0 0 (by simp)
 have c01 := A0 1 (by simp)
 have c10 := A1 0 (by simp)
 have c11 := A1 1 (by simp)
 simp at c00 c01 c10 c11
 clear A0 A1 O2 O3 HE5
 by_cases hadj : g = true ∧ 0 < rn
 ·obtain ⟨rfl, hrn⟩ := hadj
  have hr0 : 0 < mval rl := pos_of_norm HR.out.2.1 HR.out.1.len hrn
  have hlaw := div_law2 (g' := g') (l := mval l) (k := mval l') HS.out.2.2.2.2 (by rw [← HR.out.2.2]; exact hr0)
  have hsm := div_small (l := mval l) (k := mval l') HS.out.2.2.2.2 (by rw [← HR.out.2.2]; exact hr0)
  have hml := Nat.mod_lt (mval l) HS.out.2.2.2.2
  have HLAW := Lib.hid hlaw; have HSM := Lib.hid hsm; have HML := Lib.hid hml
  clear hlaw hsm hml
  have t2 : (0 : Int) < (rn : Int) := by omega
  go_wp2_with fail
  refine (sum_c qa _ qn 1 qc 1 ql [1] _ (HQ.out.1.keep ((Ext.refl w5).alloc _).ik) (Wds.new w5 #[.int .u32 1] 85 _ rfl [1] (Fit.nil.cons (by rw [B32_eq]; omega)) (by simp) (fun i hi => by
   have : i = 0 := by simpa using hi
   subst this; rfl)) (by omega) (by omega)).mono ?_
  rintro e w6 ⟨a6, n6, d6, l6, rfl, h6, hv6, hx6⟩
  have hx56 : Ext w5 w6 := ((Ext.refl w5).alloc _).trans hx6
  have d00 := hx56.cell c00
  have d01 := hx56.cell c01
  have d10 := hx56.cell c10
  have d11 := hx56.cell c11
  have H6 := Lib.hid (And.intro h6 (And.intro hv6 hx56))
  clear c00 c01 c10 c11 h6 hv6 hx6 hx56
  go_wp2_with fail
  refine (difference_c a' ra n' rn c' rc l' rl _ (HS.out.2.2.1.keep (HF.out.1.trans H6.out.2.2).ik) (HR.out.1.keep H6.out.2.2.ik) (by omega) hrl (by rw [HR.out.2.2]; exact Nat.le_of_lt HML.out)).mono ?_
  rintro e w7 ⟨a7, n7, d7, l7, rfl, h7, hv7, hx7⟩
  have H7 := Lib.hid (And.intro h7 (And.intro hv7 (H6.out.2.2.trans hx7)))
  have H67 := Lib.hid hx7
  have c00 := hx7.cell d00
  have c10 := hx7.cell d10
  clear d00 d01 d10 d11 h7 hv7 hx7
  have hx := H7.out.2.2
  have HT := Lib.hid (show TailF w7 a6 n6 d6 l6 a7 n7 d7 l7 (sgn (true != g')) (sgn true (mval l) / sgn g' (mval l')) (sgn true (mval l) % sgn g' (mval l')) from
   ⟨H6.out.1.keep H67.out.ik, H7.out.1, by rw [H6.out.2.1, HQ.out.2.2]; exact Nat.lt_of_le_of_lt HSM.out HTOP.out, by rw [H7.out.2.1]; exact Nat.lt_of_le_of_lt (Nat.sub_le _ _) HTOP2.out,
    by rw [HLAW.out.1, H6.out.2.1, HQ.out.2.2]; simp [mval], by rw [HLAW.out.2, H7.out.2.1, HR.out.2.2]⟩)
  have HF7 := Lib.hid (show Ext w w7 ∧ Own w7 (B + 2) 2 ∧ Own w7 (B + 3) 2 from ⟨HF.out.1.trans hx, Own.ext hx HF.out.2.2.2.1 (by omega), Own.ext hx HF.out.2.2.2.2 (by omega)⟩)
  clear hx
  go_wp2_with fail; refine (signed_c _ a6 n6 d6 l6 _ HT.out.q).mono ?_; rintro e w8 ⟨r, z, err, rfl, hr, hx8, hz⟩; rw [if_pos HT.out.q1] at hz; obtain ⟨hz, rfl⟩ := hz; have HX8 := Lib.hid (And.intro hx8 hr); have s8 := hx8.size; clear hx8 hr; go_wp2_with fail; refine (signed_c false a7 n7 d7 l7 _ (HT.out.r.keep (HX8.out.1.alloc _).ik)).mono ?_; rintro e w9 ⟨s, y, err, rfl, hs, hx9, hy⟩; rw [if_pos HT.out.r1] at hy; obtain ⟨hy, rfl⟩ := hy; have HX9 := Lib.hid (And.intro hx9 hs); have s9 := hx9.size; simp only [World.size_alloc] at s9; have lw := (HF7.out.2.2).lt (by omega); clear hx9 hs; go_upto_region 9 with (fail); have e89 : Ext w8 w9 := ((Ext.refl w8).alloc _).trans HX9.out.1; refine wp_gen (fun V => (Ext w V ∧ At V w8.heap.size #[.bool r.neg, .slice r.a r.n r.c] ∧ At V w9.heap.size #[.bool s.neg, .slice s.a s.n s.c] ∧ Own V (B + 1 + 1) 2 ∧ Own V (B + 1 + 1 + 1) 2) ∧ IsI V r z ∧ IsI V s y) ⟨⟨((HF7.out.1.trans HX8.out.1).trans e89).alloc _, At.alloc (At.ext HX9.out.1 (Blk.at _ _ rfl).at' (by simp)) (by simp), (Blk.at _ _ rfl).at', Own.ext ((HX8.out.1.trans e89).alloc _) HF7.out.2.1 (by omega), Own.ext ((HX8.out.1.trans e89).alloc _) HF7.out.2.2 (by omega)⟩, HX8.out.2.keep (e89.alloc _).ik, HX9.out.2.keep ((Ext.refl w9).alloc _).ik⟩ ?_; clear e89; rintro V ⟨⟨E0, A8, A9, O2, O3⟩, hr, hs⟩; have HRS := Lib.hid (And.intro hr hs); clear hr hs; refine wp_region_held_drew (S := fun w' => Ext w w' ∧ At w' w8.heap.size #[.bool r.neg, .slice r.a r.n r.c] ∧ At w' w9.heap.size #[.bool s.neg, .slice s.a s.n s.c] ∧ Own w' (B + 1 + 1) 2 ∧ Own w' (B + 1 + 1 + 1) 2) (by kernel_rfl) ?_ (fun hHeld => ?_); (focus (exact ⟨E0.drew, A8, A9, O2, O3⟩)); refine takeL (i := 0) (v := ?_) rfl (by kernel_rfl) (by kernel_rfl) (by kernel_rfl) (fun _ _ _ h => h) (Or.inl ⟨by rfl, ?_⟩) (by assumption) ?_; rotate_left; (focus (intro wq hSw; (try dsimp only at hSw); go_simp; try with_reducible rfl)); (try simp only [Act.put, List.setIfInBounds_toArray, List.set_cons_zero, List.set_cons_succ]); refine takeL (i := 1) (v := ?_) rfl (by kernel_rfl) (by kernel_rfl) (by kernel_rfl) (fun _ _ _ h => h) (Or.inl ⟨by rfl, ?_⟩) (by assumption) ?_; rotate_left; (focus (intro wq hSw; (try dsimp only at hSw); go_simp; try with_reducible rfl)); (try simp only [Act.put, List.setIfInBounds_toArray, List.set_cons_zero, List.set_cons_succ]); refine consL (i := 2) (by kernel_rfl) rfl (fun K hK => ?_); go_simp; refine hK.out _ _ ?_ (fun hHeld => ?_); rotate_left; clear hK K; rotate_right; (focus ((try dsimp only); exact kept)); (try simp only [Act.put, List.setIfInBounds_toArray, List.set_cons_zero, List.set_cons_succ]); refine consL (i := 3) (by kernel_rfl) rfl (fun K hK => ?_); go_simp; refine hK.out _ _ ?_ (fun hHeld => ?_); rotate_left; clear hK K; rotate_right; (focus ((try dsimp only); exact kept)); (try simp only [Act.put, List.setIfInBounds_toArray, List.set_cons_zero, List.set_cons_succ]); refine consL (i := 4) (by kernel_rfl) rfl (fun K hK => ?_); go_simp; refine hK.out _ _ ?_ (fun hHeld => ?_); rotate_left; clear hK K; rotate_right; (focus ((try dsimp only); exact kept)); (try simp only [Act.put, List.setIfInBounds_toArray, List.set_cons_zero, List.set_cons_succ]); refine doneL (by kernel_rfl) ?_; go_wp2_with fail; have hp := put4_cells (b := B + 1 + 1) (b' := B + 1 + 1 + 1) (by omega) O2 O3 r.neg s.neg r.a s.a r.n r.c s.n s.c; obtain ⟨p0, p1, p2, p3⟩ := hp; refine bodyPost_ret (v := .tuple #[r.v, s.v, .int .i64 0]) (by simp [results, Try.results74, go_sem, p0, p1, p2, p3]) rfl ?_; have hI := (IK.trans (IK.put2 O2 r.neg r.a r.n r.c) (IK.put2 (own_put2 O3 r.neg r.a r.n r.c) s.neg s.a s.n s.c)).drew; rw [← HT.out.q2, ← HT.out.r2, show sgn (true != g') (mval l6) = z from by rw [hz]; cases g' <;> rfl, show ((mval l7 : Nat) : Int) = y from by rw [hy]; rfl]; exact ⟨r, s, rfl, HRS.out.1.keep hI, HRS.out.2.keep hI, And.left (by assumption)⟩
 ·have hlaw := div_law1 (g := g) (g' := g') (l := mval l) (k := mval l') HS.out.2.2.2.2 (by
   rcases Bool.eq_false_or_eq_true g with h | h
   ·right
    have : rl = [] := List.eq_nil_of_length_eq_zero (by rw [HR.out.1.len]; by_cases h9 : 0 < rn; exact absurd ⟨h, h9⟩ hadj; omega)
    rw [← HR.out.2.2, this]; rfl
   ·left; exact h)
  have HLAW := Lib.hid hlaw
  clear hlaw
  have hgo : g = false ∨ (g = true ∧ rn = 0) := by
   rcases Bool.eq_false_or_eq_true g with h | h
   ·right; exact ⟨h, by by_cases h9 : 0 < rn; exact absurd ⟨h, h9⟩ hadj; omega⟩
   ·left; exact h
  clear hadj
  have HT := Lib.hid (show TailF w5 qa qn qc ql ra rn rc rl (sgn (g != g')) (sgn g (mval l) / sgn g' (mval l')) (sgn g (mval l) % sgn g' (mval l')) from
   ⟨HQ.out.1, HR.out.1, by rw [HQ.out.2.2]; exact Nat.lt_of_le_of_lt (Nat.div_le_self _ _) HTOP.out, by rw [HR.out.2.2]; exact Nat.lt_of_lt_of_le (Nat.mod_lt _ HS.out.2.2.2.2) (Nat.le_of_lt HTOP2.out),
    by rw [HLAW.out.1, HQ.out.2.2], by rw [HLAW.out.2, HR.out.2.2]⟩)
  have HF7 := Lib.hid (show Ext w w5 ∧ Own w5 (B + 2) 2 ∧ Own w5 (B + 3) 2 from ⟨HF.out.1, HF.out.2.2.2.1, HF.out.2.2.2.2⟩)
  rcases hgo with rfl | ⟨rfl, rfl⟩
  ·go_wp2_with fail; refine (signed_c _ qa qn qc ql _ HT.out.q).mono ?_; rintro e w8 ⟨r, z, err, rfl, hr, hx8, hz⟩; rw [if_pos HT.out.q1] at hz; obtain ⟨hz, rfl⟩ := hz; have HX8 := Lib.hid (And.intro hx8 hr); have s8 := hx8.size; clear hx8 hr; go_wp2_with fail; refine (signed_c false ra rn rc rl _ (HT.out.r.keep (HX8.out.1.alloc _).ik)).mono ?_; rintro e w9 ⟨s, y, err, rfl, hs, hx9, hy⟩; rw [if_pos HT.out.r1] at hy; obtain ⟨hy, rfl⟩ := hy; have HX9 := Lib.hid (And.intro hx9 hs); have s9 := hx9.size; simp only [World.size_alloc] at s9; have lw := (HF7.out.2.2).lt (by omega); clear hx9 hs; go_upto_region 9 with (fail); have e89 : Ext w8 w9 := ((Ext.refl w8).alloc _).trans HX9.out.1; refine wp_gen (fun V => (Ext w V ∧ At V w8.heap.size #[.bool r.neg, .slice r.a r.n r.c] ∧ At V w9.heap.size #[.bool s.neg, .slice s.a s.n s.c] ∧ Own V (B + 1 + 1) 2 ∧ Own V (B + 1 + 1 + 1) 2) ∧ IsI V r z ∧ IsI V s y) ⟨⟨((HF7.out.1.trans HX8.out.1).trans e89).alloc _, At.alloc (At.ext HX9.out.1 (Blk.at _ _ rfl).at' (by simp)) (by simp), (Blk.at _ _ rfl).at', Own.ext ((HX8.out.1.trans e89).alloc _) HF7.out.2.1 (by omega), Own.ext ((HX8.out.1.trans e89).alloc _) HF7.out.2.2 (by omega)⟩, HX8.out.2.keep (e89.alloc _).ik, HX9.out.2.keep ((Ext.refl w9).alloc _).ik⟩ ?_; clear e89; rintro V ⟨⟨E0, A8, A9, O2, O3⟩, hr, hs⟩; have HRS := Lib.hid (And.intro hr hs); clear hr hs; refine wp_region_held_drew (S := fun w' => Ext w w' ∧ At w' w8.heap.size #[.bool r.neg, .slice r.a r.n r.c] ∧ At w' w9.heap.size #[.bool s.neg, .slice s.a s.n s.c] ∧ Own w' (B + 1 + 1) 2 ∧ Own w' (B + 1 + 1 + 1) 2) (by kernel_rfl) ?_ (fun hHeld => ?_); (focus (exact ⟨E0.drew, A8, A9, O2, O3⟩)); refine takeL (i := 0) (v := ?_) rfl (by kernel_rfl) (by kernel_rfl) (by kernel_rfl) (fun _ _ _ h => h) (Or.inl ⟨by rfl, ?_⟩) (by assumption) ?_; rotate_left; (focus (intro wq hSw; (try dsimp only at hSw); go_simp; try with_reducible rfl)); (try simp only [Act.put, List.setIfInBounds_toArray, List.set_cons_zero, List.set_cons_succ]); refine takeL (i := 1) (v := ?_) rfl (by kernel_rfl) (by kernel_rfl) (by kernel_rfl) (fun _ _ _ h => h) (Or.inl ⟨by rfl, ?_⟩) (by assumption) ?_; rotate_left; (focus (intro wq hSw; (try dsimp only at hSw); go_simp; try with_reducible rfl)); (try simp only [Act.put, List.setIfInBounds_toArray, List.set_cons_zero, List.set_cons_succ]); refine consL (i := 2) (by kernel_rfl) rfl (fun K hK => ?_); go_simp; refine hK.out _ _ ?_ (fun hHeld => ?_); rotate_left; clear hK K; rotate_right; (focus ((try dsimp only); exact kept)); (try simp only [Act.put, List.setIfInBounds_toArray, List.set_cons_zero, List.set_cons_succ]); refine consL (i := 3) (by kernel_rfl) rfl (fun K hK => ?_); go_simp; refine hK.out _ _ ?_ (fun hHeld => ?_); rotate_left; clear hK K; rotate_right; (focus ((try dsimp only); exact kept)); (try simp only [Act.put, List.setIfInBounds_toArray, List.set_cons_zero, List.set_cons_succ]); refine consL (i := 4) (by kernel_rfl) rfl (fun K hK => ?_); go_simp; refine hK.out _ _ ?_ (fun hHeld => ?_); rotate_left; clear hK K; rotate_right; (focus ((try dsimp only); exact kept)); (try simp only [Act.put, List.setIfInBounds_toArray, List.set_cons_zero, List.set_cons_succ]); refine doneL (by kernel_rfl) ?_; go_wp2_with fail; have hp := put4_cells (b := B + 1 + 1) (b' := B + 1 + 1 + 1) (by omega) O2 O3 r.neg s.neg r.a s.a r.n r.c s.n s.c; obtain ⟨p0, p1, p2, p3⟩ := hp; refine bodyPost_ret (v := .tuple #[r.v, s.v, .int .i64 0]) (by simp [results, Try.results74, go_sem, p0, p1, p2, p3]) rfl ?_; have hI := (IK.trans (IK.put2 O2 r.neg r.a r.n r.c) (IK.put2 (own_put2 O3 r.neg r.a r.n r.c) s.neg s.a s.n s.c)).drew; rw [← HT.out.q2, ← HT.out.r2, show sgn (false != g') (mval ql) = z from by rw [hz]; cases g' <;> rfl, show ((mval rl : Nat) : Int) = y from by rw [hy]; rfl]; exact ⟨r, s, rfl, HRS.out.1.keep hI, HRS.out.2.keep hI, And.left (by assumption)⟩
  ·go_wp2_with fail; refine (signed_c _ qa qn qc ql _ HT.out.q).mono ?_; rintro e w8 ⟨r, z, err, rfl, hr, hx8, hz⟩; rw [if_pos HT.out.q1] at hz; obtain ⟨hz, rfl⟩ := hz; have HX8 := Lib.hid (And.intro hx8 hr); have s8 := hx8.size; clear hx8 hr; go_wp2_with fail; refine (signed_c false ra 0 rc rl _ (HT.out.r.keep (HX8.out.1.alloc _).ik)).mono ?_; rintro e w9 ⟨s, y, err, rfl, hs, hx9, hy⟩; rw [if_pos HT.out.r1] at hy; obtain ⟨hy, rfl⟩ := hy; have HX9 := Lib.hid (And.intro hx9 hs); have s9 := hx9.size; simp only [World.size_alloc] at s9; have lw := (HF7.out.2.2).lt (by omega); clear hx9 hs; go_upto_region 9 with (fail); have e89 : Ext w8 w9 := ((Ext.refl w8).alloc _).trans HX9.out.1; refine wp_gen (fun V => (Ext w V ∧ At V w8.heap.size #[.bool r.neg, .slice r.a r.n r.c] ∧ At V w9.heap.size #[.bool s.neg, .slice s.a s.n s.c] ∧ Own V (B + 1 + 1) 2 ∧ Own V (B + 1 + 1 + 1) 2) ∧ IsI V r z ∧ IsI V s y) ⟨⟨((HF7.out.1.trans HX8.out.1).trans e89).alloc _, At.alloc (At.ext HX9.out.1 (Blk.at _ _ rfl).at' (by simp)) (by simp), (Blk.at _ _ rfl).at', Own.ext ((HX8.out.1.trans e89).alloc _) HF7.out.2.1 (by omega), Own.ext ((HX8.out.1.trans e89).alloc _) HF7.out.2.2 (by omega)⟩, HX8.out.2.keep (e89.alloc _).ik, HX9.out.2.keep ((Ext.refl w9).alloc _).ik⟩ ?_; clear e89; rintro V ⟨⟨E0, A8, A9, O2, O3⟩, hr, hs⟩; have HRS := Lib.hid (And.intro hr hs); clear hr hs; refine wp_region_held_drew (S := fun w' => Ext w w' ∧ At w' w8.heap.size #[.bool r.neg, .slice r.a r.n r.c] ∧ At w' w9.heap.size #[.bool s.neg, .slice s.a s.n s.c] ∧ Own w' (B + 1 + 1) 2 ∧ Own w' (B + 1 + 1 + 1) 2) (by kernel_rfl) ?_ (fun hHeld => ?_); (focus (exact ⟨E0.drew, A8, A9, O2, O3⟩)); refine takeL (i := 0) (v := ?_) rfl (by kernel_rfl) (by kernel_rfl) (by kernel_rfl) (fun _ _ _ h => h) (Or.inl ⟨by rfl, ?_⟩) (by assumption) ?_; rotate_left; (focus (intro wq hSw; (try dsimp only at hSw); go_simp; try with_reducible rfl)); (try simp only [Act.put, List.setIfInBounds_toArray, List.set_cons_zero, List.set_cons_succ]); refine takeL (i := 1) (v := ?_) rfl (by kernel_rfl) (by kernel_rfl) (by kernel_rfl) (fun _ _ _ h => h) (Or.inl ⟨by rfl, ?_⟩) (by assumption) ?_; rotate_left; (focus (intro wq hSw; (try dsimp only at hSw); go_simp; try with_reducible rfl)); (try simp only [Act.put, List.setIfInBounds_toArray, List.set_cons_zero, List.set_cons_succ]); refine consL (i := 2) (by kernel_rfl) rfl (fun K hK => ?_); go_simp; refine hK.out _ _ ?_ (fun hHeld => ?_); rotate_left; clear hK K; rotate_right; (focus ((try dsimp only); exact kept)); (try simp only [Act.put, List.setIfInBounds_toArray, List.set_cons_zero, List.set_cons_succ]); refine consL (i := 3) (by kernel_rfl) rfl (fun K hK => ?_); go_simp; refine hK.out _ _ ?_ (fun hHeld => ?_); rotate_left; clear hK K; rotate_right; (focus ((try dsimp only); exact kept)); (try simp only [Act.put, List.setIfInBounds_toArray, List.set_cons_zero, List.set_cons_succ]); refine consL (i := 4) (by kernel_rfl) rfl (fun K hK => ?_); go_simp; refine hK.out _ _ ?_ (fun hHeld => ?_); rotate_left; clear hK K; rotate_right; (focus ((try dsimp only); exact kept)); (try simp only [Act.put, List.setIfInBounds_toArray, List.set_cons_zero, List.set_cons_succ]); refine doneL (by kernel_rfl) ?_; go_wp2_with fail; have hp := put4_cells (b := B + 1 + 1) (b' := B + 1 + 1 + 1) (by omega) O2 O3 r.neg s.neg r.a s.a r.n r.c s.n s.c; obtain ⟨p0, p1, p2, p3⟩ := hp; refine bodyPost_ret (v := .tuple #[r.v, s.v, .int .i64 0]) (by simp [results, Try.results74, go_sem, p0, p1, p2, p3]) rfl ?_; have hI := (IK.trans (IK.put2 O2 r.neg r.a r.n r.c) (IK.put2 (own_put2 O3 r.neg r.a r.n r.c) s.neg s.a s.n s.c)).drew; rw [← HT.out.q2, ← HT.out.r2, show sgn (true != g') (mval ql) = z from by rw [hz]; cases g' <;> rfl, show ((mval rl : Nat) : Int) = y from by rw [hy]; rfl]; exact ⟨r, s, rfl, HRS.out.1.keep hI, HRS.out.2.keep hI, And.left (by assumption)⟩
end Go.Proofs.Ytkoidookanmknaa
