/- meresmanlaw06: own, four. -/
import Derived.Test.YtgmedfloflplgaaAFPt2
import Derived.Test.YtgmedfloflplgaaAFDv
import Derived.Test.YtgmedfloflplgaaAR06r
namespace Go.Proofs.Ytgmedfloflplgaa
set_option linter.unusedSimpArgs false
set_option linter.unusedVariables false
open Go.RowKit

def encPV : Enc PV := ⟨fun p => p.cs.toList, 8, fun _ => rfl, fun p u hu => by
 simp at hu
 rcases hu with rfl | rfl | rfl | rfl | rfl | rfl | rfl | rfl <;> rfl, by omega⟩
theorem pInfo : (Try.prog.info? 51).map (fun i => (i.zero, i.size, i.bytes)) = some (some (.agg #[.bool false, .slice none 0 0, .bool false, .slice none 0 0, .bool false, .slice none 0 0, .bool false, .slice none 0 0]), 8, 128) := by kernel_rfl
/-- The numbers of a point of the reference are small. -/
structure RB (p : RP) (k : Nat) : Prop where
 d1 : 1 ≤ p.d
 dk : p.d.natAbs < 2 ^ k
 xk : p.x.natAbs < 2 ^ k
 yk : p.y.natAbs < 2 ^ k
theorem RIn.b {p : RP} (h : RIn p 6912) : RB p 20 := by
 obtain ⟨h1, h2, h3, h4, h5, h6⟩ := h
 exact ⟨h1, by omega, by omega, by omega⟩
/-- q stands for the point p of the reference. -/
abbrev IsRP (w : World) (q : PV) (p : RP) (k : Nat) : Prop := IsPt w q p.x p.d p.y p.d k
theorem int64_of {x : Int} {k : Nat} (hk : k ≤ 62) (h : x.natAbs < 2 ^ k) : -9223372036854775808 ≤ x ∧ x ≤ 9223372036854775807 := by
 have := Nat.pow_le_pow_right (show 0 < 2 by decide) hk
 have h62 : (2 : Nat) ^ 62 = 4611686018427387904 := by decide
 omega
set_option maxRecDepth 100000 in
set_option maxHeartbeats 4000000 in
theorem own_c (p : RP) (k : Nat) (w : World) (h : RB p k) (hk : k ≤ 62) :
  Calls Try.prog 65 #[p.v] w fun e w' => ∃ q : PV, e = .returned (.tuple #[q.v, .bool true]) ∧ IsRP w' q p k ∧ Ext w w' := by
 have b1 := int64_of hk h.dk
 have b2 := int64_of hk h.xk
 have b3 := int64_of hk h.yk
 have hd := h.d1
 have HH := Lib.hid h
 clear h
 obtain ⟨x, y, d⟩ := p
 simp only at b1 b2 b3 hd
 obtain ⟨B, hB⟩ : ∃ B, w.heap.size = B := ⟨_, rfl⟩
 go_enter Try.func65, Try.ntmps65
 go_wp2_with fail
 refine (Of_c x d _ b2.1 b2.2 hd b1.2).mono ?_
 rintro e w2 ⟨f, rfl, hf, hx2⟩
 have A2 : At w2 B #[.int .i64 x, .int .i64 y, .int .i64 d] := (((Blk.at _ 68 hB.symm).alloc _).ext hx2).at'
 have O2 : Own w2 (B + 1) 8 := Own.ext hx2 ((Blk.at zeroP 51 (by simp [hB])).own _ (by simp) noInt8) (by omega)
 have HF := Lib.hid (And.intro (low_isR hd hf HH.out.xk HH.out.dk) (show Ext w w2 from Ext.trans (by repeat (first | exact Ext.refl _ | assumption | refine Ext.setCell ?_ (by first | (simp; done) | (simp; omega) | omega) _ | refine Ext.alloc ?_ _ | refine Ext.drew ?_ | refine Ext.trans ?_ (by assumption))) hx2))
 have hs2 := A2.lt (by simp)
 have hs3 := O2.lt (by omega)
 have c0 := A2 0 (by simp); have c1 := A2 1 (by simp); have c2 := A2 2 (by simp)
 simp at c0 c1 c2
 have HO := Lib.hid (And.intro A2 O2)
 clear hf hx2 O2 A2
 go_wp2_with fail
 refine (Of_c y d _ b3.1 b3.2 hd b1.2).mono ?_
 rintro e w3 ⟨g, rfl, hg, hx3⟩
 have hE : Ext w2 w3 := Ext.trans ((Ext.refl _).alloc _) hx3
 have O3 : Own w3 (B + 1) 8 := Own.ext hE HO.out.2 (by omega)
 have A3 : At w3 w2.heap.size #[.bool f.n.neg, .slice f.n.a f.n.n f.n.c, .bool f.d.neg, .slice f.d.a f.d.n f.d.c] := ((Blk.at _ 49 rfl).ext hx3).at'
 have HG := Lib.hid (And.intro (HF.out.1.keep hE.ik) (And.intro (low_isR hd hg HH.out.yk HH.out.dk) (HF.out.2.trans hE)))
 have hs4 := A3.lt (by simp)
 have q0 := A3 0 (by simp); have q1 := A3 1 (by simp); have q2 := A3 2 (by simp); have q3 := A3 3 (by simp)
 simp at q0 q1 q2 q3
 have O4 : Own (w3.alloc (.cells g.cs 49)) (B + 1) 8 := Own.ext ((Ext.refl _).alloc _) O3 (by omega)
 clear hg hx3 hE c0 c1 c2
 have o0 := O4.1 0 (by omega); have o1 := O4.1 1 (by omega); have o2 := O4.1 2 (by omega); have o3 := O4.1 3 (by omega); have o4 := O4.1 4 (by omega); have o5 := O4.1 5 (by omega); have o6 := O4.1 6 (by omega); have o7 := O4.1 7 (by omega)
 have of := O4.2.1
 obtain ⟨p0, p1, p2, p3, p4, p5, p6, p7⟩ := putP_cells O4 ⟨f, g⟩
 have HO4 := Lib.hid O4
 clear O3 O4 A3
 go_wp2_with fail
 refine bodyPost_ret (v := .tuple #[PV.v ⟨f, g⟩, .bool true]) (by simp [results, Try.results65, go_sem, p0, p1, p2, p3, p4, p5, p6, p7]) rfl ?_
 exact ⟨⟨f, g⟩, rfl, IsPt.keep (IsPt.keep ⟨HG.out.1, HG.out.2.1⟩ ((Ext.refl _).alloc _).ik) (IK.putP HO4.out ⟨f, g⟩), ext_putP (HG.out.2.2.alloc _) (by omega) ⟨f, g⟩⟩
end Go.Proofs.Ytgmedfloflplgaa
