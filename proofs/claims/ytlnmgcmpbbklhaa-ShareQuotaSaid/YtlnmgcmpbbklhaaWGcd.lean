/- wide: Gcd (as far as divide goes). -/
import Derived.Test.YtlnmgcmpbbklhaaWDiv1
namespace Go.Proofs.Ytlnmgcmpbbklhaa
set_option linter.unusedSimpArgs false
set_option linter.unusedVariables false
open Go.RowKit

/-- The magnitude that a slice of words holds. -/
def wvalF (w : World) (v : Value) : Nat :=
  match v with
  | .slice (some ⟨b, off, _⟩) n _ => mval ((List.range n).map fun i => match w.cell? ⟨b, off + i, none⟩ with | some (.int _ z) => z.toNat | _ => 0)
  | _ => 0
theorem Wds.val {w : World} {a : Option Addr} {n c : Nat} {l : List Nat} (h : Wds w a n c l) : wvalF w (.slice a n c) = mval l := by
  obtain ⟨h1, h2, h3, h4, ⟨rfl, rfl, rfl⟩ | ⟨b, off, rfl, hb, hc⟩⟩ := h
  · have : l = [] := List.eq_nil_of_length_eq_zero h1
    subst this; rfl
  · show mval ((List.range n).map fun i => match w.cell? ⟨b, off + i, none⟩ with | some (.int _ z) => z.toNat | _ => 0) = mval l
    refine congrArg mval ?_
    apply List.ext_getElem
    · simp [h1]
    · intro i hi1 hi2
      have hi : i < n := by simpa using hi1
      simp [hc i hi, dg, List.getD_eq_getElem?_getD, hi2]
theorem put2_cells {w : World} {b : Nat} (h : Own w b 2) (x y : Value) : ((w.setCell ⟨b, 0, none⟩ x).setCell ⟨b, 1, none⟩ y).cell? ⟨b, 0, none⟩ = some x ∧ ((w.setCell ⟨b, 0, none⟩ x).setCell ⟨b, 1, none⟩ y).cell? ⟨b, 1, none⟩ = some y := by
  constructor
  · rw [World.cell?_setCell_other _ _ _ _ (by simp)]
    exact World.cell?_setCell_same' _ _ _ (by rw [h.1 0 (by omega)]; rfl)
  · refine World.cell?_setCell_same' _ _ _ ?_
    rw [World.cell?_setCell_other _ _ _ _ (by simp), h.1 1 (by omega)]; rfl
theorem gcd_step (x y : Nat) : Nat.gcd y (x % y) = Nat.gcd x y := by rw [Nat.gcd_comm y, ← Nat.gcd_rec, Nat.gcd_comm]
set_option maxRecDepth 100000 in
set_option maxHeartbeats 1000000 in
theorem Gcd_c (p q : IV) (x y : Int) (w : World) (hp : IsI w p x) (hq : IsI w q y) (hy : y.natAbs < B32) : Calls Try.prog 44 #[p.v, q.v] w (RetI ((Nat.gcd x.natAbs y.natAbs : Nat) : Int) w) := by
  obtain ⟨g, a, n, c⟩ := p
  obtain ⟨l, h1, h2, h3, h4, rfl⟩ := hp
  obtain ⟨g', a', n', c'⟩ := q
  obtain ⟨l', h1', h2', h3', h4', rfl⟩ := hq
  rw [sgn_natAbs] at hy
  rw [sgn_natAbs, sgn_natAbs]
  obtain ⟨G, hG⟩ : ∃ G, Nat.gcd (mval l) (mval l') = G := ⟨_, rfl⟩
  rw [hG]
  simp only at h1 h1' h3 h3'
  have HS := Lib.hid (And.intro h1 (And.intro h2 (And.intro h1' (And.intro h2' (And.intro hy hG)))))
  clear h1 h1' h4 h4' h2 h2' hy hG
  go_enter Try.func44, Try.ntmps44
  go_wp2_with fail
  refine wp_gen (fun W => Ext w W ∧ At W w.heap.size #[.bool g, .slice a n c] ∧ At W (w.heap.size + 1) #[.bool g', .slice a' n' c'] ∧ Own W (w.heap.size + 2) 2)
    ⟨(by repeat (first | exact Ext.refl _ | assumption | refine Ext.setCell ?_ (by first | (simp; done) | (simp; omega) | omega) _ | refine Ext.alloc ?_ _ | refine Ext.drew ?_ | refine Ext.trans ?_ (by assumption))), (((Blk.at _ _ rfl).alloc _).alloc _).at', ((Blk.at _ _ (by simp)).alloc _).at', (Blk.at _ _ (by simp)).own _ (by simp) noIntW⟩ ?_
  rintro W ⟨E0, A0, A1, O2⟩
  have l0 := A0.lt (by simp)
  have l1 := A1.lt (by simp)
  have l2 := O2.lt (by omega)
  have c0 := A0 1 (by simp)
  have c1 := A1 1 (by simp)
  generalize hw0 : w.heap.size = B at *
  simp at c0 c1
  go_quiet (fail)
  have HE := Lib.hid (show Ext w (W.drewN nq) ∧ Own (W.drewN nq) (B + 2) 2 from ⟨E0.drewN nq, O2⟩)
  clear E0 O2 A0 A1 c0 c1
  go_wp2_with fail
  go_loopw [5, 6] (fun av bv ws => ∃ (a : Option Addr) (n c : Nat) (l : List Nat) (b : Option Addr) (m d : Nat) (k : List Nat), av = .slice a n c ∧ bv = .slice b m d ∧ Wds ws a n c l ∧ Norm l ∧ n ≤ 512 ∧ Wds ws b m d k ∧ Norm k ∧ m ≤ 512 ∧ mval k < B32 ∧
    Nat.gcd (mval l) (mval k) = G ∧ Ext (W.drewN nq) ws) (fun _ bv ws => wvalF ws bv)
  case atStart => exact ⟨_, _, _, l, _, _, _, l', rfl, rfl, HS.out.1.keep HE.out.1.ik, HS.out.2.1, h3, HS.out.2.2.1.keep HE.out.1.ik, HS.out.2.2.2.1, h3', HS.out.2.2.2.2.1, HS.out.2.2.2.2.2, Ext.refl _⟩
  case round =>
    obtain ⟨a1, n1, c1, L, b1, m1, d1, K, rfl, rfl, hL, nL, hn1, hK, nK, hm1, hone, hgc, hE⟩ := hrel
    have HL := Lib.hid hL; have HK := Lib.hid hK; have NL := Lib.hid nL; have NK := Lib.hid nK; have HEr := Lib.hid hE
    have O3 := HE.out.2.ext hE (by omega)
    by_cases h0 : m1 = 0
    · subst h0
      have hK0 : K = [] := List.eq_nil_of_length_eq_zero hK.len
      subst hK0
      have hG : mval L = G := by rw [← hgc]; simp [mval]
      have htop := WTop_ge hL.fit (by rw [hL.len]; exact hn1)
      have HG := Lib.hid hG; have HT := Lib.hid htop
      clear hgc hL hK nL nK hE hG htop hone
      go_wp2_with fail
      refine (signed_c false a1 n1 c1 L _ HL.out).mono ?_
      rintro e w5 ⟨r, z, err, rfl, hr, hx5, hz⟩
      rw [if_pos HT.out] at hz
      obtain ⟨rfl, rfl⟩ := hz
      have O5 := O3.ext hx5 (by omega)
      have l5 := O5.lt (by omega)
      have HR := Lib.hid hr; have HX5 := Lib.hid hx5
      clear O3 hr hx5
      have O6 : Own w5 (B + 1 + 1) 2 := O5
      go_wp2_with fail
      have hc0 := cell_alloc (o := .cells #[.bool r.neg, .slice r.a r.n r.c] 48) (put2_cells O6 (.bool r.neg) (.slice r.a r.n r.c)).1
      have hc1 := cell_alloc (o := .cells #[.bool r.neg, .slice r.a r.n r.c] 48) (put2_cells O6 (.bool r.neg) (.slice r.a r.n r.c)).2
      refine bodyPost_ret (v := r.v) (by simp [results, Try.results44, go_sem, hc0, hc1]) rfl ?_
      refine ⟨r, rfl, ?_, ?_⟩
      · rw [← HG.out]; exact (HR.out.keep (IK.put2 O6 _ _ _ _)).keep (IK.alloc (IK.refl _) _)
      · exact (((HE.out.1.trans HEr.out).trans HX5.out).setCell (by simp; omega) _).setCell (by simp; omega) _ |>.alloc _
    · have hpos : 0 < mval K := pos_of_norm nK hK.len (by omega)
      have HPOS := Lib.hid hpos; have HONE := Lib.hid hone; have HGC := Lib.hid hgc
      have hmx : (0 : Int) < (m1 : Int) := by omega
      clear hgc hL hK nL nK hE hpos hone O3
      go_wp2_with fail
      refine (divide_c a1 b1 n1 m1 c1 d1 L K _ HL.out HK.out NL.out NK.out hn1 HPOS.out (.inr HONE.out)).mono ?_
      rintro e w5 ⟨qa, qn, qc, ql, ra, rn, rc, rl, rfl, hq1, hq2, hq3, hr1, hr2, hr3, hx5⟩
      have hlt : mval rl < mval K := by rw [hr3]; exact Nat.mod_lt _ HPOS.out
      have hrl := len_of_le NK.out hr2 HK.out.fit (by omega)
      rw [HK.out.len, hr1.len] at hrl
      have HF := Lib.hid (And.intro hr1 (And.intro hr2 (And.intro hr3 (And.intro hx5 hlt))))
      clear hq1 hq2 hq3 hr1 hr2 hr3 hx5 hlt
      go_wp2_with fail
      go_roundw
      case rel => exact ⟨b1, m1, d1, K, ra, rn, rc, rl, rfl, rfl, HK.out.keep HF.out.2.2.2.1.ik, NK.out, hm1, HF.out.1, HF.out.2.1, by omega, by have := HF.out.2.2.2.2; have := HONE.out; omega, by rw [HF.out.2.2.1, gcd_step]; exact HGC.out, HEr.out.trans HF.out.2.2.2.1⟩
      case measure => rw [HF.out.1.val, HK.out.val]; exact HF.out.2.2.2.2
end Go.Proofs.Ytlnmgcmpbbklhaa
