/- meresmanlaw06: steps. -/
import Derived.Test.YtgmedfloflplgaaWT
import Derived.Test.YtgmedfloflplgaaAFAs
import Derived.Test.YtgmedfloflplgaaALNi
import Derived.Test.YtgmedfloflplgaaAFDv
import Derived.Great.BuildSlice
namespace Go.Proofs.Ytgmedfloflplgaa
set_option linter.unusedSimpArgs false
set_option linter.unusedVariables false
open Go.RowKit

def encFV : Enc FV := ⟨fun f => [.bool f.n.neg, .slice f.n.a f.n.n f.n.c, .bool f.d.neg, .slice f.d.a f.d.n f.d.c], 4, fun _ => rfl, fun f u hu => by
 simp at hu
 rcases hu with rfl | rfl | rfl | rfl <;> rfl, by omega⟩
theorem frInfo : (Try.prog.info? 49).map (fun i => (i.zero, i.size, i.bytes)) = some (some (.agg #[.bool false, .slice none 0 0, .bool false, .slice none 0 0]), 4, 64) := by kernel_rfl
theorem fr4Info : (Try.prog.info? 107).map (fun i => (i.zero, i.size, i.bytes)) = some (some (.agg #[.bool false, .slice none 0 0, .bool false, .slice none 0 0, .bool false, .slice none 0 0, .bool false, .slice none 0 0, .bool false, .slice none 0 0, .bool false, .slice none 0 0, .bool false, .slice none 0 0, .bool false, .slice none 0 0]), 16, 256) := by kernel_rfl
theorem encFV_ni (l : List FV) : ∀ u ∈ gcells encFV l, ∀ k m, u ≠ Value.int k m := by
 intro u hu k m
 simp [gcells] at hu
 obtain ⟨p, _, hp⟩ := hu
 simp [encFV] at hp
 rcases hp with rfl | rfl | rfl | rfl <;> simp
theorem fz_ni : ∀ u ∈ (Value.agg #[.bool false, .slice none 0 0, .bool false, .slice none 0 0]).cells, ∀ k m, u ≠ Value.int k m := by
 intro u hu k m
 simp [Value.cells] at hu
 rcases hu with rfl | rfl | rfl | rfl <;> simp
theorem GAt.fv {w : World} {h : Nat} {l : List FV} (H : GAt encFV w h l) {i : Nat} {f : FV} (hi : l[i]? = some f) : w.cell? ⟨h, i * 4, none⟩ = some (.bool f.n.neg) ∧ w.cell? ⟨h, i * 4 + 1, none⟩ = some (.slice f.n.a f.n.n f.n.c) ∧ w.cell? ⟨h, i * 4 + 2, none⟩ = some (.bool f.d.neg) ∧ w.cell? ⟨h, i * 4 + 3, none⟩ = some (.slice f.d.a f.d.n f.d.c) :=
 ⟨H i f hi 0 (by decide), H i f hi 1 (by decide), H i f hi 2 (by decide), H i f hi 3 (by decide)⟩
/-- The four fractions of a row. -/
def RowC (W : World) (L i : Nat) (f1 f2 f3 f4 : FV) : Prop := (W.cell? ⟨L, i * 16, none⟩ = some (.bool f1.n.neg) ∧ W.cell? ⟨L, i * 16 + 1, none⟩ = some (.slice f1.n.a f1.n.n f1.n.c) ∧ W.cell? ⟨L, i * 16 + 2, none⟩ = some (.bool f1.d.neg) ∧ W.cell? ⟨L, i * 16 + 3, none⟩ = some (.slice f1.d.a f1.d.n f1.d.c)) ∧ (W.cell? ⟨L, i * 16 + 4, none⟩ = some (.bool f2.n.neg) ∧ W.cell? ⟨L, i * 16 + 5, none⟩ = some (.slice f2.n.a f2.n.n f2.n.c) ∧ W.cell? ⟨L, i * 16 + 6, none⟩ = some (.bool f2.d.neg) ∧ W.cell? ⟨L, i * 16 + 7, none⟩ = some (.slice f2.d.a f2.d.n f2.d.c)) ∧ (W.cell? ⟨L, i * 16 + 8, none⟩ = some (.bool f3.n.neg) ∧ W.cell? ⟨L, i * 16 + 9, none⟩ = some (.slice f3.n.a f3.n.n f3.n.c) ∧ W.cell? ⟨L, i * 16 + 10, none⟩ = some (.bool f3.d.neg) ∧ W.cell? ⟨L, i * 16 + 11, none⟩ = some (.slice f3.d.a f3.d.n f3.d.c)) ∧ (W.cell? ⟨L, i * 16 + 12, none⟩ = some (.bool f4.n.neg) ∧ W.cell? ⟨L, i * 16 + 13, none⟩ = some (.slice f4.n.a f4.n.n f4.n.c) ∧ W.cell? ⟨L, i * 16 + 14, none⟩ = some (.bool f4.d.neg) ∧ W.cell? ⟨L, i * 16 + 15, none⟩ = some (.slice f4.d.a f4.d.n f4.d.c))
theorem row_pick {w : World} {L : Nat} {a b c : PV} (h : At w L #[.bool b.x.n.neg, .slice b.x.n.a b.x.n.n b.x.n.c, .bool b.x.d.neg, .slice b.x.d.a b.x.d.n b.x.d.c, .bool a.x.n.neg, .slice a.x.n.a a.x.n.n a.x.n.c, .bool a.x.d.neg, .slice a.x.d.a a.x.d.n a.x.d.c, .bool c.y.n.neg, .slice c.y.n.a c.y.n.n c.y.n.c, .bool c.y.d.neg, .slice c.y.d.a c.y.d.n c.y.d.c, .bool a.y.n.neg, .slice a.y.n.a a.y.n.n a.y.n.c, .bool a.y.d.neg, .slice a.y.d.a a.y.d.n a.y.d.c, .bool b.y.n.neg, .slice b.y.n.a b.y.n.n b.y.n.c, .bool b.y.d.neg, .slice b.y.d.a b.y.d.n b.y.d.c, .bool a.y.n.neg, .slice a.y.n.a a.y.n.n a.y.n.c, .bool a.y.d.neg, .slice a.y.d.a a.y.d.n a.y.d.c, .bool c.x.n.neg, .slice c.x.n.a c.x.n.n c.x.n.c, .bool c.x.d.neg, .slice c.x.d.a c.x.d.n c.x.d.c, .bool a.x.n.neg, .slice a.x.n.a a.x.n.n a.x.n.c, .bool a.x.d.neg, .slice a.x.d.a a.x.d.n a.x.d.c]) (i : Nat) (hi : i < 2) : (i = 0 ∧ RowC w L i b.x a.x c.y a.y) ∨ (i = 1 ∧ RowC w L i b.y a.y c.x a.x) := by
 rcases (show i = 0 ∨ i = 1 by omega) with rfl | rfl
 ·exact .inl ⟨rfl, ⟨h 0 (by simp), h 1 (by simp), h 2 (by simp), h 3 (by simp)⟩, ⟨h 4 (by simp), h 5 (by simp), h 6 (by simp), h 7 (by simp)⟩, ⟨h 8 (by simp), h 9 (by simp), h 10 (by simp), h 11 (by simp)⟩, ⟨h 12 (by simp), h 13 (by simp), h 14 (by simp), h 15 (by simp)⟩⟩
 ·exact .inr ⟨rfl, ⟨h 16 (by simp), h 17 (by simp), h 18 (by simp), h 19 (by simp)⟩, ⟨h 20 (by simp), h 21 (by simp), h 22 (by simp), h 23 (by simp)⟩, ⟨h 24 (by simp), h 25 (by simp), h 26 (by simp), h 27 (by simp)⟩, ⟨h 28 (by simp), h 29 (by simp), h 30 (by simp), h 31 (by simp)⟩⟩
set_option maxRecDepth 100000 in
set_option maxHeartbeats 8000000 in
theorem stepsO_c (a b c : PV) (va vb vc : PQ) (A : Option Q2) (w : World) (ha : IsPG w a va) (hb : IsPG w b vb) (hc : IsPG w c vc) (hA : areaE va vb vc = A) :
  Calls Try.prog 36 #[a.v, b.v, c.v] w (RetO A w) := by
 obtain ⟨i0, hi0, hz0, hz1, hz2⟩ := info_parts frInfo
 obtain ⟨j0, hj0, hy0, hy1, hy2⟩ := info_parts fr4Info
 have HP := Lib.hid (And.intro ha (And.intro hb hc))
 obtain ⟨M1, hM1⟩ : ∃ M, mulO (subE vb.1 va.1) (subE vc.2 va.2) = M := ⟨_, rfl⟩
 obtain ⟨M2, hM2⟩ : ∃ M, mulO (subE vb.2 va.2) (subE vc.1 va.1) = M := ⟨_, rfl⟩
 have HM := Lib.hid (And.intro hM1 hM2)
 have HA := Lib.hid (show M1.bind (fun x => M2.bind fun y => subE x y) = A from by rw [← hA, ← hM1, ← hM2]; rfl)
 clear ha hb hc hM1 hM2 hA
 obtain ⟨B, hB⟩ : ∃ B, w.heap.size = B := ⟨_, rfl⟩
 go_enter Try.func36, Try.ntmps36
 go_upto_region 1 with (fail)
 refine wp_gen (fun W => Ext w W ∧ At W B #[.bool a.x.n.neg, .slice a.x.n.a a.x.n.n a.x.n.c, .bool a.x.d.neg, .slice a.x.d.a a.x.d.n a.x.d.c, .bool a.y.n.neg, .slice a.y.n.a a.y.n.n a.y.n.c, .bool a.y.d.neg, .slice a.y.d.a a.y.d.n a.y.d.c] ∧ At W (B + 1) #[.bool b.x.n.neg, .slice b.x.n.a b.x.n.n b.x.n.c, .bool b.x.d.neg, .slice b.x.d.a b.x.d.n b.x.d.c, .bool b.y.n.neg, .slice b.y.n.a b.y.n.n b.y.n.c, .bool b.y.d.neg, .slice b.y.d.a b.y.d.n b.y.d.c] ∧ At W (B + 1 + 1) #[.bool c.x.n.neg, .slice c.x.n.a c.x.n.n c.x.n.c, .bool c.x.d.neg, .slice c.x.d.a c.x.d.n c.x.d.c, .bool c.y.n.neg, .slice c.y.n.a c.y.n.n c.y.n.c, .bool c.y.d.neg, .slice c.y.d.a c.y.d.n c.y.d.c] ∧ Own W (B + 1 + 1 + 1) 4 ∧ W.heap.size = B + 1 + 1 + 1 + 1) ⟨(by repeat (first | exact Ext.refl _ | assumption | refine Ext.setCell ?_ (by first | (simp; done) | (simp; omega) | omega) _ | refine Ext.alloc ?_ _ | refine Ext.drew ?_ | refine Ext.trans ?_ (by assumption))), ((((Blk.at _ 51 hB.symm).alloc _).alloc _).alloc _).at', (((Blk.at _ 51 (by simp [hB])).alloc _).alloc _).at', ((Blk.at _ 51 (by simp [hB])).alloc _).at', (Blk.at #[.bool false, .slice none 0 0, .bool false, .slice none 0 0] 49 (by simp [hB])).own _ (by simp) (noIntF _ _ _ _ _ _ _ _), by simp [hB]⟩ ?_
 rintro V ⟨E0, A0, A1, A2, O3, hV⟩
 have ka0 := A0 0 (by simp)
 have ka1 := A0 1 (by simp)
 have ka2 := A0 2 (by simp)
 have ka3 := A0 3 (by simp)
 have ka4 := A0 4 (by simp)
 have ka5 := A0 5 (by simp)
 have ka6 := A0 6 (by simp)
 have ka7 := A0 7 (by simp)
 have kb0 := A1 0 (by simp)
 have kb1 := A1 1 (by simp)
 have kb2 := A1 2 (by simp)
 have kb3 := A1 3 (by simp)
 have kb4 := A1 4 (by simp)
 have kb5 := A1 5 (by simp)
 have kb6 := A1 6 (by simp)
 have kb7 := A1 7 (by simp)
 have kc0 := A2 0 (by simp)
 have kc1 := A2 1 (by simp)
 have kc2 := A2 2 (by simp)
 have kc3 := A2 3 (by simp)
 have kc4 := A2 4 (by simp)
 have kc5 := A2 5 (by simp)
 have kc6 := A2 6 (by simp)
 have kc7 := A2 7 (by simp)
 simp at ka0 ka1 ka2 ka3 ka4 ka5 ka6 ka7 kb0 kb1 kb2 kb3 kb4 kb5 kb6 kb7 kc0 kc1 kc2 kc3 kc4 kc5 kc6 kc7
 have HV := Lib.hid (And.intro E0 O3)
 clear A0 A1 A2 E0 O3
 go_upto_region 2 with (refine wpList_buildSlice rfl 108 107 2 _ rfl #[.bool b.x.n.neg, .slice b.x.n.a b.x.n.n b.x.n.c, .bool b.x.d.neg, .slice b.x.d.a b.x.d.n b.x.d.c, .bool a.x.n.neg, .slice a.x.n.a a.x.n.n a.x.n.c, .bool a.x.d.neg, .slice a.x.d.a a.x.d.n a.x.d.c, .bool c.y.n.neg, .slice c.y.n.a c.y.n.n c.y.n.c, .bool c.y.d.neg, .slice c.y.d.a c.y.d.n c.y.d.c, .bool a.y.n.neg, .slice a.y.n.a a.y.n.n a.y.n.c, .bool a.y.d.neg, .slice a.y.d.a a.y.d.n a.y.d.c, .bool b.y.n.neg, .slice b.y.n.a b.y.n.n b.y.n.c, .bool b.y.d.neg, .slice b.y.d.a b.y.d.n b.y.d.c, .bool a.y.n.neg, .slice a.y.n.a a.y.n.n a.y.n.c, .bool a.y.d.neg, .slice a.y.d.a a.y.d.n a.y.d.c, .bool c.x.n.neg, .slice c.x.n.a c.x.n.n c.x.n.c, .bool c.x.d.neg, .slice c.x.d.a c.x.d.n c.x.d.c, .bool a.x.n.neg, .slice a.x.n.a a.x.n.n a.x.n.c, .bool a.x.d.neg, .slice a.x.d.a a.x.d.n a.x.d.c] j0 _ Try.underlying108 hj0 hy0 (by rw [hy1]; decide) (by rw [hy1]; decide) (by rw [hy1]; kernel_rfl) ?_)
 obtain ⟨L, hL⟩ : ∃ L, B + 1 + 1 + 1 + 1 = L := ⟨_, rfl⟩
 rw [hL]
 refine wp_gen (fun W => At W L #[.bool b.x.n.neg, .slice b.x.n.a b.x.n.n b.x.n.c, .bool b.x.d.neg, .slice b.x.d.a b.x.d.n b.x.d.c, .bool a.x.n.neg, .slice a.x.n.a a.x.n.n a.x.n.c, .bool a.x.d.neg, .slice a.x.d.a a.x.d.n a.x.d.c, .bool c.y.n.neg, .slice c.y.n.a c.y.n.n c.y.n.c, .bool c.y.d.neg, .slice c.y.d.a c.y.d.n c.y.d.c, .bool a.y.n.neg, .slice a.y.n.a a.y.n.n a.y.n.c, .bool a.y.d.neg, .slice a.y.d.a a.y.d.n a.y.d.c, .bool b.y.n.neg, .slice b.y.n.a b.y.n.n b.y.n.c, .bool b.y.d.neg, .slice b.y.d.a b.y.d.n b.y.d.c, .bool a.y.n.neg, .slice a.y.n.a a.y.n.n a.y.n.c, .bool a.y.d.neg, .slice a.y.d.a a.y.d.n a.y.d.c, .bool c.x.n.neg, .slice c.x.n.a c.x.n.n c.x.n.c, .bool c.x.d.neg, .slice c.x.d.a c.x.d.n c.x.d.c, .bool a.x.n.neg, .slice a.x.n.a a.x.n.n a.x.n.c, .bool a.x.d.neg, .slice a.x.d.a a.x.d.n a.x.d.c] ∧ Ext V W) ⟨(Blk.at _ 107 (by rw [← hL, hV])).at', (Ext.refl V).alloc _⟩ ?_
 clear ka0 ka1 ka2 ka3 ka4 ka5 ka6 ka7 kb0 kb1 kb2 kb3 kb4 kb5 kb6 kb7 kc0 kc1 kc2 kc3 kc4 kc5 kc6 kc7
 rintro V1 ⟨AL, EV⟩
 have HL := Lib.hid (And.intro AL (And.intro (HV.out.1.trans EV) (HV.out.2.ext EV (by omega))))
 clear AL EV
 go_wp2_with fail
 go_loopw [9, 10] (fun pv iv ws => ∃ (i : Nat) (fs : List FV), i ≤ 2 ∧ iv = .int .i64 (i : Int) ∧ fs.length = i ∧ GRow encFV 49 ws V1.heap.size pv fs ∧ NIv ws pv ∧ (1 ≤ i → ∃ (m : Q2) (f : FV), M1 = some m ∧ fs[0]? = some f ∧ IsF ws f m.1 m.2) ∧ (2 ≤ i → ∃ (m : Q2) (f : FV), M2 = some m ∧ fs[1]? = some f ∧ IsF ws f m.1 m.2) ∧ Ext V1 ws) (fun _ v _ => 2 - (intOf v).toNat)
 case atStart => exact ⟨0, [], by omega, rfl, rfl, GRow.nil encFV 49 V1 _, NIv.nil V1, fun h => absurd h (by omega), fun h => absurd h (by omega), Ext.refl V1⟩
 case round =>
  obtain ⟨i, fs, hi, rfl, hfl, hP, hN, h1, h2, hE⟩ := hrel
  have HG := Lib.hid (And.intro hfl (And.intro hP (And.intro hN (And.intro h1 h2))))
  have HE := Lib.hid hE
  have hsz := hE.size
  clear hfl hP hN h1 h2
  by_cases hlt : i < 2
  ·obtain ⟨f1, f2, f3, f4, x1, x2, x3, x4, hR, g1, g2, g3, g4, hK1, hK2⟩ : ∃ (f1 f2 f3 f4 : FV) (x1 x2 x3 x4 : Q2), RowC wr L i f1 f2 f3 f4 ∧ IsF wr f1 x1.1 x1.2 ∧ IsF wr f2 x2.1 x2.2 ∧ IsF wr f3 x3.1 x3.2 ∧ IsF wr f4 x4.1 x4.2 ∧ (mulO (subE x1 x2) (subE x3 x4) = none → A = none) ∧ (mulO (subE x1 x2) (subE x3 x4) = if i = 0 then M1 else M2) := by
    have hk := (HL.out.2.1.trans hE).ik
    rcases row_pick (HL.out.1.ext hE (by simp)) i hlt with ⟨h0, hr⟩ | ⟨h0, hr⟩
    ·refine ⟨_, _, _, _, _, _, _, _, hr, HP.out.2.1.1.keep hk, HP.out.1.1.keep hk, HP.out.2.2.2.keep hk, HP.out.1.2.keep hk, fun h => ?_, ?_⟩
     ·rw [HM.out.1] at h; rw [← HA.out, h]; rfl
     ·rw [HM.out.1, if_pos h0]
    ·refine ⟨_, _, _, _, _, _, _, _, hr, HP.out.2.1.2.keep hk, HP.out.1.2.keep hk, HP.out.2.2.1.keep hk, HP.out.1.1.keep hk, fun h => ?_, ?_⟩
     ·rw [HM.out.2] at h; rw [← HA.out, h]; cases M1 <;> rfl
     ·rw [HM.out.2, if_neg (by omega)]
   have HX := Lib.hid (And.intro g1 (And.intro g2 (And.intro g3 g4)))
   have HRA := Lib.hid (fun W (e : Ext wr W) => (show (W.cell? ⟨L, i * 16, none⟩ = some (.bool f1.n.neg) ∧ W.cell? ⟨L, i * 16 + 1, none⟩ = some (.slice f1.n.a f1.n.n f1.n.c) ∧ W.cell? ⟨L, i * 16 + 2, none⟩ = some (.bool f1.d.neg) ∧ W.cell? ⟨L, i * 16 + 3, none⟩ = some (.slice f1.d.a f1.d.n f1.d.c)) from ⟨e.cell hR.1.1, e.cell hR.1.2.1, e.cell hR.1.2.2.1, e.cell hR.1.2.2.2⟩))
   have HRB := Lib.hid (fun W (e : Ext wr W) => (show (W.cell? ⟨L, i * 16 + 4, none⟩ = some (.bool f2.n.neg) ∧ W.cell? ⟨L, i * 16 + 5, none⟩ = some (.slice f2.n.a f2.n.n f2.n.c) ∧ W.cell? ⟨L, i * 16 + 6, none⟩ = some (.bool f2.d.neg) ∧ W.cell? ⟨L, i * 16 + 7, none⟩ = some (.slice f2.d.a f2.d.n f2.d.c)) from ⟨e.cell hR.2.1.1, e.cell hR.2.1.2.1, e.cell hR.2.1.2.2.1, e.cell hR.2.1.2.2.2⟩))
   have HRC := Lib.hid (fun W (e : Ext wr W) => (show (W.cell? ⟨L, i * 16 + 8, none⟩ = some (.bool f3.n.neg) ∧ W.cell? ⟨L, i * 16 + 9, none⟩ = some (.slice f3.n.a f3.n.n f3.n.c) ∧ W.cell? ⟨L, i * 16 + 10, none⟩ = some (.bool f3.d.neg) ∧ W.cell? ⟨L, i * 16 + 11, none⟩ = some (.slice f3.d.a f3.d.n f3.d.c)) from ⟨e.cell hR.2.2.1.1, e.cell hR.2.2.1.2.1, e.cell hR.2.2.1.2.2.1, e.cell hR.2.2.1.2.2.2⟩))
   have HRD := Lib.hid (fun W (e : Ext wr W) => (show (W.cell? ⟨L, i * 16 + 12, none⟩ = some (.bool f4.n.neg) ∧ W.cell? ⟨L, i * 16 + 13, none⟩ = some (.slice f4.n.a f4.n.n f4.n.c) ∧ W.cell? ⟨L, i * 16 + 14, none⟩ = some (.bool f4.d.neg) ∧ W.cell? ⟨L, i * 16 + 15, none⟩ = some (.slice f4.d.a f4.d.n f4.d.c)) from ⟨e.cell hR.2.2.2.1, e.cell hR.2.2.2.2.1, e.cell hR.2.2.2.2.2.1, e.cell hR.2.2.2.2.2.2⟩))
   obtain ⟨d1, hd1⟩ : ∃ d, subE x1 x2 = d := ⟨_, rfl⟩
   obtain ⟨d2, hd2⟩ : ∃ d, subE x3 x4 = d := ⟨_, rfl⟩
   rw [hd1, hd2] at hK1 hK2
   have HK := Lib.hid (And.intro hK1 hK2)
   have HD := Lib.hid (And.intro hd1 hd2)
   have hV1 : V1.heap.size ≤ wr.heap.size := hsz
   clear hR g1 g2 g3 g4 hd1 hd2 hK1 hK2 hE
   have t0 : (0 : Int) ≤ (i : Int) := by omega
   have t1 : (i : Int) < 2 := by omega
   obtain ⟨er, her⟩ : ∃ z, errO d1 = z := ⟨_, rfl⟩
   have HER := Lib.hid (show errO (subE x1 x2) = er from by rw [HD.out.1]; exact her)
   clear her
   go_upto_region 6 with (fail)
   go_cut [11, 12] (fun s11 s12 wx => ∃ (X : Nat) (f : FV), s11 = .pointer (some ⟨X, 0, none⟩) ∧ s12 = .int .i64 er ∧ Ext wr wx ∧ At wx X #[.bool f.n.neg, .slice f.n.a f.n.n f.n.c, .bool f.d.neg, .slice f.d.a f.d.n f.d.c] ∧ IsF wx f (valO (subE x1 x2)).1 (valO (subE x1 x2)).2)
   case first =>
    refine wp_region_held_drew (S := fun W => Ext wr W) (by kernel_rfl) (Ext.refl wr).drew (fun hHeld => ?_); refine tkW (i := 0) (h := ?_); refine tkW (i := 1) (h := ?_); refine tkW (i := 2) (h := ?_); refine tkW (i := 3) (h := ?_); refine takeL (i := 4) (v := ?_) rfl (by kernel_rfl) (by kernel_rfl) (by kernel_rfl) (fun _ _ _ h => h) (Or.inl ⟨by rfl, ?_⟩) (by assumption) ?_; rotate_left; (focus (intro wq hSw; have hcc := HRA.out wq (Ext.trans (Ext.refl wr) hSw); clear hSw; go_split_ands; go_simp; try with_reducible rfl)); (try simp only [Act.put, List.setIfInBounds_toArray, List.set_cons_zero, List.set_cons_succ]); refine tkW (i := 5) (h := ?_); refine tkW (i := 6) (h := ?_); refine tkW (i := 7) (h := ?_); refine tkW (i := 8) (h := ?_); refine takeL (i := 9) (v := ?_) rfl (by kernel_rfl) (by kernel_rfl) (by kernel_rfl) (fun _ _ _ h => h) (Or.inl ⟨by rfl, ?_⟩) (by assumption) ?_; rotate_left; (focus (intro wq hSw; have hcc := HRB.out wq (Ext.trans (Ext.refl wr) hSw); clear hSw; go_split_ands; go_simp; try with_reducible rfl)); (try simp only [Act.put, List.setIfInBounds_toArray, List.set_cons_zero, List.set_cons_succ]); refine cons2L (i := 10) (j := 14) (by kernel_rfl) rfl rfl (fun K hK => ?_) (fun K hK => ?_); rotate_left; (focus (go_simp; refine hK.out _ _ ?_ ?_; rotate_left; clear hK K; (try clear hHeld); intro hHeld; rotate_right; (focus ((try dsimp only); exact kept)); (try simp only [Act.put, List.setIfInBounds_toArray, List.set_cons_zero, List.set_cons_succ]); refine consL (i := 10) (by kernel_rfl) rfl (fun K hK => ?_); go_simp; go_at_call 72; refine (fSubO_c f1 f2 x1 x2 _ (HX.out.1.keep (Ext.ik (by assumption))) (HX.out.2.1.keep (Ext.ik (by assumption)))).mono ?_; rintro e w6 ⟨f, rfl, hf, hx6⟩; rw [HER.out]; have sz := Ext.size hx6; (try simp only [World.size_alloc, World.size_drew] at sz); (first | (have OG := Own.ext hx6 ((Blk.at #[.bool false, .slice none 0 0, .bool false, .slice none 0 0] 49 rfl).own 4 (by simp) (noIntF _ _ _ _ _ _ _ _)) (by omega)) | skip); (try simp only [World.size_alloc] at OG); go_wp2_with fail; refine hK.out _ _ ?_ ?_; rotate_left; clear hK K; (try clear hHeld); intro hHeld; rotate_right; (focus ((try dsimp only); exact kept)); (try simp only [Act.put, List.setIfInBounds_toArray, List.set_cons_zero, List.set_cons_succ]); refine tkW (i := 11) (h := ?_); refine tkW (i := 12) (h := ?_); refine tkW (i := 13) (h := ?_); refine consL (i := 15) (by kernel_rfl) rfl (fun K hK => ?_); go_simp; refine hK.out _ _ ?_ ?_; rotate_left; clear hK K; (try clear hHeld); intro hHeld; rotate_right; (focus ((try dsimp only); exact kept)); (try simp only [Act.put, List.setIfInBounds_toArray, List.set_cons_zero, List.set_cons_succ]); refine tkW (i := 16) (h := ?_); refine doneL (by kernel_rfl) ?_; go_wp2_with fail; go_meet; refine ⟨_, f, rfl, rfl, hHeld, ?_, ?_⟩; (focus (first | exact At.putF' OG f | exact (Blk.at _ 49 rfl).at')); (focus (first | exact hf.keep (IK.putF OG f) | exact hf.keep ((Ext.refl _).alloc _).ik)))); go_simp; go_at_call 72; refine (fSubO_c f1 f2 x1 x2 _ (HX.out.1.keep (Ext.ik (by assumption))) (HX.out.2.1.keep (Ext.ik (by assumption)))).mono ?_; rintro e w6 ⟨f, rfl, hf, hx6⟩; rw [HER.out]; have sz := Ext.size hx6; (try simp only [World.size_alloc, World.size_drew] at sz); (first | (have OG := Own.ext hx6 ((Blk.at #[.bool false, .slice none 0 0, .bool false, .slice none 0 0] 49 rfl).own 4 (by simp) (noIntF _ _ _ _ _ _ _ _)) (by omega)) | skip); (try simp only [World.size_alloc] at OG); go_wp2_with fail; refine hK.out _ _ ?_ ?_; rotate_left; clear hK K; (try clear hHeld); intro hHeld; rotate_right; (focus ((try dsimp only); exact kept)); (try simp only [Act.put, List.setIfInBounds_toArray, List.set_cons_zero, List.set_cons_succ]); have hH6 := hHeld; refine tkW (i := 11) (h := ?_); refine tkW (i := 12) (h := ?_); refine tkW (i := 13) (h := ?_); refine consL (i := 14) (by kernel_rfl) rfl (fun K hK => ?_); go_simp; refine hK.out _ _ ?_ ?_; rotate_left; clear hK K; (try clear hHeld); intro hHeld; rotate_right; (focus ((try dsimp only); exact kept)); (try simp only [Act.put, List.setIfInBounds_toArray, List.set_cons_zero, List.set_cons_succ]); refine consL (i := 15) (by kernel_rfl) rfl (fun K hK => ?_); go_simp; refine hK.out _ _ ?_ ?_; rotate_left; clear hK K; (try clear hHeld); intro hHeld; rotate_right; (focus ((try dsimp only); exact kept)); (try simp only [Act.put, List.setIfInBounds_toArray, List.set_cons_zero, List.set_cons_succ]); refine tkW (i := 16) (h := ?_); refine doneL (by kernel_rfl) ?_; go_wp2_with fail; go_meet; refine ⟨_, f, rfl, rfl, hHeld, ?_, ?_⟩; (focus (first | exact At.putF' OG f | exact (Blk.at _ 49 rfl).at')); (focus (first | exact hf.keep (IK.putF OG f) | exact hf.keep ((Ext.refl _).alloc _).ik))
   case rest =>
    obtain ⟨X, f, rfl, rfl, hE6, AX, hfx⟩ := hcut
    obtain ⟨w6, hw6⟩ : ∃ w6, w6 = wc := ⟨_, rfl⟩
    subst hw6
    rw [HD.out.1] at hfx HER
    cases d1 with
    | none =>
     obtain rfl : (4 : Int) = er := HER.out
     have HO := Lib.hid (And.intro (HL.out.2.1.trans (HE.out.trans hE6)) (HL.out.2.2.ext (HE.out.trans hE6) (by omega)))
     have HN := Lib.hid (show A = none from HK.out.1 rfl)
     clear AX hfx hE6
     (have o0 := HO.out.2.1 0 (by omega); have o1 := HO.out.2.1 1 (by omega); have o2 := HO.out.2.1 2 (by omega); have o3 := HO.out.2.1 3 (by omega); have of := HO.out.2.2.1; have ol := HO.out.2.lt (by omega); obtain ⟨p0, p1, p2, p3⟩ := putF_cells HO.out.2 fvz; dsimp only [putF, fvz] at p0 p1 p2 p3; go_wp2_with fail; (try rw [Exit.noGoto_ret]); refine bodyPost_ret (v := .tuple #[fvz.v, .int .i64 4]) (by simp [results, Try.results36, go_sem, fvz, p0, p1, p2, p3]) rfl ?_; exact ⟨fvz, by rw [HN.out]; rfl, by rw [HN.out]; exact fvz_isF _, ext_putF HO.out.1 (by omega) fvz⟩)
    | some u1 =>
     obtain rfl : (0 : Int) = er := HER.out
     have hs6 := hE6.size
     have HF1 := Lib.hid (And.intro (show IsF w6 f u1.1 u1.2 from hfx) (And.intro AX hE6))
     have HRC6 := Lib.hid (fun W (e : Ext w6 W) => HRC.out W (hE6.trans e))
     have HRD6 := Lib.hid (fun W (e : Ext w6 W) => HRD.out W (hE6.trans e))
     have HX6 := Lib.hid (And.intro (HX.out.2.2.1.keep hE6.ik) (HX.out.2.2.2.keep hE6.ik))
     clear AX hfx hE6 HER
     obtain ⟨er, her⟩ : ∃ z, errO d2 = z := ⟨_, rfl⟩
     have HER := Lib.hid (show errO (subE x3 x4) = er from by rw [HD.out.2]; exact her)
     clear her
     obtain ⟨ff, hff⟩ : ∃ ff, f = ff := ⟨_, rfl⟩
     subst hff
     go_upto_region 9 with (fail)
     go_cut [13, 14] (fun s11 s12 wx => ∃ (X : Nat) (f : FV), s11 = .pointer (some ⟨X, 0, none⟩) ∧ s12 = .int .i64 er ∧ Ext w6 wx ∧ At wx X #[.bool f.n.neg, .slice f.n.a f.n.n f.n.c, .bool f.d.neg, .slice f.d.a f.d.n f.d.c] ∧ IsF wx f (valO (subE x3 x4)).1 (valO (subE x3 x4)).2)
     case first =>
      refine wp_region_held_drew (S := fun W => Ext w6 W) (by kernel_rfl) (Ext.refl w6).drew (fun hHeld => ?_); refine tkW (i := 0) (h := ?_); refine tkW (i := 1) (h := ?_); refine tkW (i := 2) (h := ?_); refine tkW (i := 3) (h := ?_); refine takeL (i := 4) (v := ?_) rfl (by kernel_rfl) (by kernel_rfl) (by kernel_rfl) (fun _ _ _ h => h) (Or.inl ⟨by rfl, ?_⟩) (by assumption) ?_; rotate_left; (focus (intro wq hSw; have hcc := HRC6.out wq (Ext.trans (Ext.refl w6) hSw); clear hSw; go_split_ands; go_simp; try with_reducible rfl)); (try simp only [Act.put, List.setIfInBounds_toArray, List.set_cons_zero, List.set_cons_succ]); refine tkW (i := 5) (h := ?_); refine tkW (i := 6) (h := ?_); refine tkW (i := 7) (h := ?_); refine tkW (i := 8) (h := ?_); refine takeL (i := 9) (v := ?_) rfl (by kernel_rfl) (by kernel_rfl) (by kernel_rfl) (fun _ _ _ h => h) (Or.inl ⟨by rfl, ?_⟩) (by assumption) ?_; rotate_left; (focus (intro wq hSw; have hcc := HRD6.out wq (Ext.trans (Ext.refl w6) hSw); clear hSw; go_split_ands; go_simp; try with_reducible rfl)); (try simp only [Act.put, List.setIfInBounds_toArray, List.set_cons_zero, List.set_cons_succ]); refine cons2L (i := 10) (j := 14) (by kernel_rfl) rfl rfl (fun K hK => ?_) (fun K hK => ?_); rotate_left; (focus (go_simp; refine hK.out _ _ ?_ ?_; rotate_left; clear hK K; (try clear hHeld); intro hHeld; rotate_right; (focus ((try dsimp only); exact kept)); (try simp only [Act.put, List.setIfInBounds_toArray, List.set_cons_zero, List.set_cons_succ]); refine consL (i := 10) (by kernel_rfl) rfl (fun K hK => ?_); go_simp; go_at_call 72; refine (fSubO_c f3 f4 x3 x4 _ (HX6.out.1.keep (Ext.ik (by assumption))) (HX6.out.2.keep (Ext.ik (by assumption)))).mono ?_; rintro e w6 ⟨f, rfl, hf, hx6⟩; rw [HER.out]; have sz := Ext.size hx6; (try simp only [World.size_alloc, World.size_drew] at sz); (first | (have OG := Own.ext hx6 ((Blk.at #[.bool false, .slice none 0 0, .bool false, .slice none 0 0] 49 rfl).own 4 (by simp) (noIntF _ _ _ _ _ _ _ _)) (by omega)) | skip); (try simp only [World.size_alloc] at OG); go_wp2_with fail; refine hK.out _ _ ?_ ?_; rotate_left; clear hK K; (try clear hHeld); intro hHeld; rotate_right; (focus ((try dsimp only); exact kept)); (try simp only [Act.put, List.setIfInBounds_toArray, List.set_cons_zero, List.set_cons_succ]); refine tkW (i := 11) (h := ?_); refine tkW (i := 12) (h := ?_); refine tkW (i := 13) (h := ?_); refine consL (i := 15) (by kernel_rfl) rfl (fun K hK => ?_); go_simp; refine hK.out _ _ ?_ ?_; rotate_left; clear hK K; (try clear hHeld); intro hHeld; rotate_right; (focus ((try dsimp only); exact kept)); (try simp only [Act.put, List.setIfInBounds_toArray, List.set_cons_zero, List.set_cons_succ]); refine tkW (i := 16) (h := ?_); refine doneL (by kernel_rfl) ?_; go_wp2_with fail; go_meet; refine ⟨_, f, rfl, rfl, hHeld, ?_, ?_⟩; (focus (first | exact At.putF' OG f | exact (Blk.at _ 49 rfl).at')); (focus (first | exact hf.keep (IK.putF OG f) | exact hf.keep ((Ext.refl _).alloc _).ik)))); go_simp; go_at_call 72; refine (fSubO_c f3 f4 x3 x4 _ (HX6.out.1.keep (Ext.ik (by assumption))) (HX6.out.2.keep (Ext.ik (by assumption)))).mono ?_; rintro e w6 ⟨f, rfl, hf, hx6⟩; rw [HER.out]; have sz := Ext.size hx6; (try simp only [World.size_alloc, World.size_drew] at sz); (first | (have OG := Own.ext hx6 ((Blk.at #[.bool false, .slice none 0 0, .bool false, .slice none 0 0] 49 rfl).own 4 (by simp) (noIntF _ _ _ _ _ _ _ _)) (by omega)) | skip); (try simp only [World.size_alloc] at OG); go_wp2_with fail; refine hK.out _ _ ?_ ?_; rotate_left; clear hK K; (try clear hHeld); intro hHeld; rotate_right; (focus ((try dsimp only); exact kept)); (try simp only [Act.put, List.setIfInBounds_toArray, List.set_cons_zero, List.set_cons_succ]); have hH6 := hHeld; refine tkW (i := 11) (h := ?_); refine tkW (i := 12) (h := ?_); refine tkW (i := 13) (h := ?_); refine consL (i := 14) (by kernel_rfl) rfl (fun K hK => ?_); go_simp; refine hK.out _ _ ?_ ?_; rotate_left; clear hK K; (try clear hHeld); intro hHeld; rotate_right; (focus ((try dsimp only); exact kept)); (try simp only [Act.put, List.setIfInBounds_toArray, List.set_cons_zero, List.set_cons_succ]); refine consL (i := 15) (by kernel_rfl) rfl (fun K hK => ?_); go_simp; refine hK.out _ _ ?_ ?_; rotate_left; clear hK K; (try clear hHeld); intro hHeld; rotate_right; (focus ((try dsimp only); exact kept)); (try simp only [Act.put, List.setIfInBounds_toArray, List.set_cons_zero, List.set_cons_succ]); refine tkW (i := 16) (h := ?_); refine doneL (by kernel_rfl) ?_; go_wp2_with fail; go_meet; refine ⟨_, f, rfl, rfl, hHeld, ?_, ?_⟩; (focus (first | exact At.putF' OG f | exact (Blk.at _ 49 rfl).at')); (focus (first | exact hf.keep (IK.putF OG f) | exact hf.keep ((Ext.refl _).alloc _).ik))
     case rest =>
      obtain ⟨Y, g, rfl, rfl, hE7, AY, hgy⟩ := hcut
      obtain ⟨w7, hw7⟩ : ∃ w7, w7 = wc := ⟨_, rfl⟩
      subst hw7
      rw [HD.out.2] at hgy HER
      have hE67 : Ext wr w7 := HF1.out.2.2.trans hE7
      cases d2 with
      | none =>
       obtain rfl : (4 : Int) = er := HER.out
       have HO := Lib.hid (And.intro (HL.out.2.1.trans (HE.out.trans hE67)) (HL.out.2.2.ext (HE.out.trans hE67) (by omega)))
       have HN := Lib.hid (show A = none from HK.out.1 rfl)
       clear AY hgy hE7 hE67
       (have o0 := HO.out.2.1 0 (by omega); have o1 := HO.out.2.1 1 (by omega); have o2 := HO.out.2.1 2 (by omega); have o3 := HO.out.2.1 3 (by omega); have of := HO.out.2.2.1; have ol := HO.out.2.lt (by omega); obtain ⟨p0, p1, p2, p3⟩ := putF_cells HO.out.2 fvz; dsimp only [putF, fvz] at p0 p1 p2 p3; go_wp2_with fail; (try rw [Exit.noGoto_ret]); refine bodyPost_ret (v := .tuple #[fvz.v, .int .i64 4]) (by simp [results, Try.results36, go_sem, fvz, p0, p1, p2, p3]) rfl ?_; exact ⟨fvz, by rw [HN.out]; rfl, by rw [HN.out]; exact fvz_isF _, ext_putF HO.out.1 (by omega) fvz⟩)
      | some u2 =>
       obtain rfl : (0 : Int) = er := HER.out
       have hs7 := hE7.size
       have HF2 := Lib.hid (And.intro (HF1.out.1.keep hE7.ik) (And.intro (show IsF w7 g u2.1 u2.2 from hgy) hE67))
       obtain ⟨a0, a1, a2, a3⟩ : w7.cell? ⟨X, 0, none⟩ = some (.bool f.n.neg) ∧ w7.cell? ⟨X, 1, none⟩ = some (.slice f.n.a f.n.n f.n.c) ∧ w7.cell? ⟨X, 2, none⟩ = some (.bool f.d.neg) ∧ w7.cell? ⟨X, 3, none⟩ = some (.slice f.d.a f.d.n f.d.c) := ⟨(HF1.out.2.1.ext hE7 (by simp)) 0 (by simp), (HF1.out.2.1.ext hE7 (by simp)) 1 (by simp), (HF1.out.2.1.ext hE7 (by simp)) 2 (by simp), (HF1.out.2.1.ext hE7 (by simp)) 3 (by simp)⟩
       obtain ⟨b0, b1, b2, b3⟩ : w7.cell? ⟨Y, 0, none⟩ = some (.bool g.n.neg) ∧ w7.cell? ⟨Y, 1, none⟩ = some (.slice g.n.a g.n.n g.n.c) ∧ w7.cell? ⟨Y, 2, none⟩ = some (.bool g.d.neg) ∧ w7.cell? ⟨Y, 3, none⟩ = some (.slice g.d.a g.d.n g.d.c) := ⟨AY 0 (by simp), AY 1 (by simp), AY 2 (by simp), AY 3 (by simp)⟩
       obtain ⟨m, hm⟩ : ∃ m, mulE u1 u2 = m := ⟨_, rfl⟩
       have HKM := Lib.hid (show m = (if i = 0 then M1 else M2) ∧ (m = none → A = none) ∧ mulE u1 u2 = m from ⟨by rw [← HK.out.2]; exact hm.symm, fun h => HK.out.1 (hm.trans h), hm⟩)
       clear AY hgy hE7 hE67 HER hm
       go_wp2_with fail
       refine (fMulO_c f g u1 u2 _ HF2.out.1 HF2.out.2.1).mono ?_
       rw [HKM.out.2.2]
       rintro e w8 ⟨q, rfl, hq, hx8⟩
       have hs8 := hx8.size
       have HQ := Lib.hid hq
       have HE8 := Lib.hid (HF2.out.2.2.trans hx8)
       clear hq hx8 a0 a1 a2 a3 b0 b1 b2 b3
       cases m with
       | none =>
        dsimp only [errO]
        go_upto_region 13 with (fail)
        refine wp_gen (fun W => Ext w8 W) ((Ext.refl w8).alloc _) ?_
        intro w9 hx9
        have HO := Lib.hid (And.intro (HL.out.2.1.trans (HE.out.trans (HE8.out.trans hx9))) (HL.out.2.2.ext (HE.out.trans (HE8.out.trans hx9)) (by omega)))
        have HN := Lib.hid (show A = none from HKM.out.2.1 (by simp))
        clear hx9
        (have o0 := HO.out.2.1 0 (by omega); have o1 := HO.out.2.1 1 (by omega); have o2 := HO.out.2.1 2 (by omega); have o3 := HO.out.2.1 3 (by omega); have of := HO.out.2.2.1; have ol := HO.out.2.lt (by omega); obtain ⟨p0, p1, p2, p3⟩ := putF_cells HO.out.2 fvz; dsimp only [putF, fvz] at p0 p1 p2 p3; go_wp2_with fail; (try rw [Exit.noGoto_ret]); refine bodyPost_ret (v := .tuple #[fvz.v, .int .i64 4]) (by simp [results, Try.results36, go_sem, fvz, p0, p1, p2, p3]) rfl ?_; exact ⟨fvz, by rw [HN.out]; rfl, by rw [HN.out]; exact fvz_isF _, ext_putF HO.out.1 (by omega) fvz⟩)
       | some m =>
        dsimp only [errO]
        have hP8 := Lib.hid (HG.out.2.1.ext HE8.out)
        have hN8 := Lib.hid (NIv.ext HE8.out HG.out.2.1 HG.out.2.2.1)
        have hnw := Lib.hid (gAt_one (F := encFV) (a := q) (w := (w8.alloc (.cells q.cs 49)).alloc (.cells q.cs 49)) (b := w8.heap.size + 1) (fun j hj => by
         rw [Blk.cell (Blk.at _ 49 (by simp))]
         exact Array.getElem?_toList.symm))
        have hfb : fs.length ≤ 2 := by have := HG.out.1; omega
        go_wp2_with (refine wpList_append_ni _ rfl _ _ _ rfl V1.heap.size 49 i0 _ 4 64 Try.underlying109 hi0 hz0 hz1 hz2 rfl (by omega) _ _ _ rfl (hP8.out.ext (by repeat (first | exact Ext.refl _ | assumption | refine Ext.setCell ?_ (by first | (simp; done) | (simp; omega) | omega) _ | refine Ext.alloc ?_ _ | refine Ext.drew ?_ | refine Ext.trans ?_ (by assumption)))) ⟨w8.heap.size + 1, 0, none⟩ 1 1 (gcells encFV [q]) rfl rfl (gnews_at hnw.out) (gcells_one _ _) (by omega) (by rw [maxLen]; omega) (by omega) (by simp; omega) _ rfl (NIv.ext (((Ext.refl _).alloc _).alloc _) hP8.out hN8.out) (encFV_ni _) (encFV_ni _) fz_ni ?_)
        intro h' cap' w1 hown hgrow hat hlt1 hik hni
        have hfl := HG.out.1
        have hik8 : IK w8 w1 := ((((Ext.refl _).alloc _).alloc _).ik.trans hik)
        have hikr : IK wr w1 := HE8.out.ik.trans hik8
        have hR := Lib.hid (show GRow encFV 49 w1 V1.heap.size (.slice (some ⟨h', 0, none⟩) (fs.length + 1) cap') (fs ++ [q]) ∧ NIv w1 (.slice (some ⟨h', 0, none⟩) (fs.length + 1) cap') ∧ (1 ≤ i + 1 → ∃ (m : Q2) (f : FV), M1 = some m ∧ (fs ++ [q])[0]? = some f ∧ IsF w1 f m.1 m.2) ∧ (2 ≤ i + 1 → ∃ (m : Q2) (f : FV), M2 = some m ∧ (fs ++ [q])[1]? = some f ∧ IsF w1 f m.1 m.2) ∧ Ext V1 w1 from
         ⟨GRow.app hown rfl, (fun g hg => by simp [Value.ownBlock] at hg; subst hg; exact hni), fun _ => by
          rcases (show i = 0 ∨ i = 1 by omega) with h0 | h0
          ·refine ⟨m, q, ?_, ?_, HQ.out.keep hik8⟩
           ·rw [HKM.out.1, if_pos h0]
           ·rw [List.getElem?_append_right (by omega), show 0 - fs.length = 0 from by omega]; rfl
          ·obtain ⟨m', f', e1, e2, e3⟩ := HG.out.2.2.2.1 (by omega)
           exact ⟨m', f', e1, by rw [List.getElem?_append_left (by omega)]; exact e2, e3.keep hikr⟩, fun h => by
          have h1 : i = 1 := by omega
          refine ⟨m, q, ?_, ?_, HQ.out.keep hik8⟩
          ·rw [HKM.out.1, if_neg (by omega)]
          ·rw [List.getElem?_append_right (by omega), show 1 - fs.length = 0 from by omega]; rfl, gext_grown ((((HE.out.trans HE8.out)).alloc _).alloc _) hgrow (fun g hg => (gowns_lt hP8.out hg).1)⟩)
        clear hown hgrow hat hik hni hik8 hikr hfl
        go_wp2_with fail
        go_roundw
        case rel => exact ⟨i + 1, fs ++ [q], by omega, by go_num, by simp [HG.out.1], hR.out.1, hR.out.2.1, hR.out.2.2.1, hR.out.2.2.2.1, hR.out.2.2.2.2⟩
        case measure => simp [intOf]; omega
  ·obtain rfl : i = 2 := by omega
   obtain ⟨h', cap', rfl, hgb, hgl⟩ := World.ownsRow.form HG.out.2.1 (by rw [HG.out.1]; omega)
   obtain ⟨m1, q1, k1, k2, k3⟩ := HG.out.2.2.2.1 (by omega)
   obtain ⟨m2, q2, l1, l2, l3⟩ := HG.out.2.2.2.2 (by omega)
   have hgat := HG.out.2.1.gat
   have HRA := Lib.hid (fun W (e : Ext wr W) => (show (W.cell? ⟨h', 0, none⟩ = some (.bool q1.n.neg) ∧ W.cell? ⟨h', 1, none⟩ = some (.slice q1.n.a q1.n.n q1.n.c) ∧ W.cell? ⟨h', 2, none⟩ = some (.bool q1.d.neg) ∧ W.cell? ⟨h', 3, none⟩ = some (.slice q1.d.a q1.d.n q1.d.c)) from (hgat.ext e).fv (i := 0) k2))
   have HRB := Lib.hid (fun W (e : Ext wr W) => (show (W.cell? ⟨h', 4, none⟩ = some (.bool q2.n.neg) ∧ W.cell? ⟨h', 5, none⟩ = some (.slice q2.n.a q2.n.n q2.n.c) ∧ W.cell? ⟨h', 6, none⟩ = some (.bool q2.d.neg) ∧ W.cell? ⟨h', 7, none⟩ = some (.slice q2.d.a q2.d.n q2.d.c)) from (hgat.ext e).fv (i := 1) l2))
   have HX := Lib.hid (And.intro k3 l3)
   have hAA : subE m1 m2 = A := by rw [← HA.out, k1, l1]; rfl
   obtain ⟨er, her⟩ : ∃ z, errO A = z := ⟨_, rfl⟩
   have HER := Lib.hid (show errO (subE m1 m2) = er from by rw [hAA]; exact her)
   have HAA := Lib.hid hAA
   rw [HG.out.1]
   clear hgat k1 k2 k3 l1 l2 l3 hAA her hE
   go_upto_region 16 with (fail)
   go_cut [17, 18] (fun s11 s12 wx => ∃ (X : Nat) (f : FV), s11 = .pointer (some ⟨X, 0, none⟩) ∧ s12 = .int .i64 er ∧ Ext wr wx ∧ At wx X #[.bool f.n.neg, .slice f.n.a f.n.n f.n.c, .bool f.d.neg, .slice f.d.a f.d.n f.d.c] ∧ IsF wx f (valO (subE m1 m2)).1 (valO (subE m1 m2)).2)
   case first =>
    refine wp_region_held_drew (S := fun W => Ext wr W) (by kernel_rfl) (Ext.refl wr).drew (fun hHeld => ?_)
    refine tkW (i := 0) (h := ?_)
    refine tkW (i := 1) (h := ?_)
    refine takeL (i := 2) (v := ?_) rfl (by kernel_rfl) (by kernel_rfl) (by kernel_rfl) (fun _ _ _ h => h) (Or.inl ⟨by rfl, ?_⟩) (by assumption) ?_; rotate_left; (focus (intro wq hSw; have hcc := HRA.out wq (Ext.trans (Ext.refl wr) hSw); clear hSw; go_split_ands; go_simp; try with_reducible rfl)); (try simp only [Act.put, List.setIfInBounds_toArray, List.set_cons_zero, List.set_cons_succ])
    refine tkW (i := 3) (h := ?_)
    refine tkW (i := 4) (h := ?_)
    refine takeL (i := 5) (v := ?_) rfl (by kernel_rfl) (by kernel_rfl) (by kernel_rfl) (fun _ _ _ h => h) (Or.inl ⟨by rfl, ?_⟩) (by assumption) ?_; rotate_left; (focus (intro wq hSw; have hcc := HRB.out wq (Ext.trans (Ext.refl wr) hSw); clear hSw; go_split_ands; go_simp; try with_reducible rfl)); (try simp only [Act.put, List.setIfInBounds_toArray, List.set_cons_zero, List.set_cons_succ])
    refine cons2L (i := 6) (j := 10) (by kernel_rfl) rfl rfl (fun K hK => ?_) (fun K hK => ?_)
    ·go_simp; go_at_call 72; refine (fSubO_c q1 q2 m1 m2 _ (HX.out.1.keep (Ext.ik (by assumption))) (HX.out.2.keep (Ext.ik (by assumption)))).mono ?_; rintro e w6 ⟨f, rfl, hf, hx6⟩; rw [HER.out]; have sz := Ext.size hx6; (try simp only [World.size_alloc, World.size_drew] at sz); (first | (have OG := Own.ext hx6 ((Blk.at #[.bool false, .slice none 0 0, .bool false, .slice none 0 0] 49 rfl).own 4 (by simp) (noIntF _ _ _ _ _ _ _ _)) (by omega)) | skip); (try simp only [World.size_alloc] at OG); go_wp2_with fail; refine hK.out _ _ ?_ ?_; rotate_left; clear hK K; (try clear hHeld); intro hHeld; rotate_right; (focus ((try dsimp only); exact kept)); (try simp only [Act.put, List.setIfInBounds_toArray, List.set_cons_zero, List.set_cons_succ])
     have hH6 := hHeld
     refine tkW (i := 7) (h := ?_)
     refine tkW (i := 8) (h := ?_)
     refine tkW (i := 9) (h := ?_)
     refine consL (i := 10) (by kernel_rfl) rfl (fun K hK => ?_); go_simp; refine hK.out _ _ ?_ ?_; rotate_left; clear hK K; (try clear hHeld); intro hHeld; rotate_right; (focus ((try dsimp only); exact kept)); (try simp only [Act.put, List.setIfInBounds_toArray, List.set_cons_zero, List.set_cons_succ])
     refine consL (i := 11) (by kernel_rfl) rfl (fun K hK => ?_); go_simp; refine hK.out _ _ ?_ ?_; rotate_left; clear hK K; (try clear hHeld); intro hHeld; rotate_right; (focus ((try dsimp only); exact kept)); (try simp only [Act.put, List.setIfInBounds_toArray, List.set_cons_zero, List.set_cons_succ])
     refine tkW (i := 12) (h := ?_)
     refine doneL (by kernel_rfl) ?_; go_wp2_with fail; go_meet; refine ⟨_, f, rfl, rfl, hHeld, ?_, ?_⟩; (focus (first | exact At.putF' OG f | exact (Blk.at _ 49 rfl).at')); (focus (first | exact hf.keep (IK.putF OG f) | exact hf.keep ((Ext.refl _).alloc _).ik))
    ·go_simp; refine hK.out _ _ ?_ ?_; rotate_left; clear hK K; (try clear hHeld); intro hHeld; rotate_right; (focus ((try dsimp only); exact kept)); (try simp only [Act.put, List.setIfInBounds_toArray, List.set_cons_zero, List.set_cons_succ])
     refine consL (i := 6) (by kernel_rfl) rfl (fun K hK => ?_)
     go_simp; go_at_call 72; refine (fSubO_c q1 q2 m1 m2 _ (HX.out.1.keep (Ext.ik (by assumption))) (HX.out.2.keep (Ext.ik (by assumption)))).mono ?_; rintro e w6 ⟨f, rfl, hf, hx6⟩; rw [HER.out]; have sz := Ext.size hx6; (try simp only [World.size_alloc, World.size_drew] at sz); (first | (have OG := Own.ext hx6 ((Blk.at #[.bool false, .slice none 0 0, .bool false, .slice none 0 0] 49 rfl).own 4 (by simp) (noIntF _ _ _ _ _ _ _ _)) (by omega)) | skip); (try simp only [World.size_alloc] at OG); go_wp2_with fail; refine hK.out _ _ ?_ ?_; rotate_left; clear hK K; (try clear hHeld); intro hHeld; rotate_right; (focus ((try dsimp only); exact kept)); (try simp only [Act.put, List.setIfInBounds_toArray, List.set_cons_zero, List.set_cons_succ])
     refine tkW (i := 7) (h := ?_)
     refine tkW (i := 8) (h := ?_)
     refine tkW (i := 9) (h := ?_)
     refine consL (i := 11) (by kernel_rfl) rfl (fun K hK => ?_); go_simp; refine hK.out _ _ ?_ ?_; rotate_left; clear hK K; (try clear hHeld); intro hHeld; rotate_right; (focus ((try dsimp only); exact kept)); (try simp only [Act.put, List.setIfInBounds_toArray, List.set_cons_zero, List.set_cons_succ])
     refine tkW (i := 12) (h := ?_)
     refine doneL (by kernel_rfl) ?_; go_wp2_with fail; go_meet; refine ⟨_, f, rfl, rfl, hHeld, ?_, ?_⟩; (focus (first | exact At.putF' OG f | exact (Blk.at _ 49 rfl).at')); (focus (first | exact hf.keep (IK.putF OG f) | exact hf.keep ((Ext.refl _).alloc _).ik))
   case rest =>
    obtain ⟨X, f, rfl, rfl, hE6, AX, hfx⟩ := hcut
    obtain ⟨w6, hw6⟩ : ∃ w6, w6 = wc := ⟨_, rfl⟩
    subst hw6
    rw [HAA.out] at hfx HER
    have HO := Lib.hid (And.intro (HL.out.2.1.trans (HE.out.trans hE6)) (HL.out.2.2.ext (HE.out.trans hE6) (by omega)))
    cases A with
    | none =>
     obtain rfl : (4 : Int) = er := HER.out
     clear AX hfx hE6
     (have o0 := HO.out.2.1 0 (by omega); have o1 := HO.out.2.1 1 (by omega); have o2 := HO.out.2.1 2 (by omega); have o3 := HO.out.2.1 3 (by omega); have of := HO.out.2.2.1; have ol := HO.out.2.lt (by omega); obtain ⟨p0, p1, p2, p3⟩ := putF_cells HO.out.2 fvz; dsimp only [putF, fvz] at p0 p1 p2 p3; go_wp2_with fail; (try rw [Exit.noGoto_ret]); refine bodyPost_ret (v := .tuple #[fvz.v, .int .i64 4]) (by simp [results, Try.results36, go_sem, fvz, p0, p1, p2, p3]) rfl ?_; exact ⟨fvz, rfl, fvz_isF _, ext_putF HO.out.1 (by omega) fvz⟩)
    | some u =>
     obtain rfl : (0 : Int) = er := HER.out
     have HF := Lib.hid (show IsF w6 f u.1 u.2 from hfx)
     obtain ⟨a0, a1, a2, a3⟩ : w6.cell? ⟨X, 0, none⟩ = some (.bool f.n.neg) ∧ w6.cell? ⟨X, 1, none⟩ = some (.slice f.n.a f.n.n f.n.c) ∧ w6.cell? ⟨X, 2, none⟩ = some (.bool f.d.neg) ∧ w6.cell? ⟨X, 3, none⟩ = some (.slice f.d.a f.d.n f.d.c) := ⟨AX 0 (by simp), AX 1 (by simp), AX 2 (by simp), AX 3 (by simp)⟩
     have o0 := HO.out.2.1 0 (by omega)
     have o1 := HO.out.2.1 1 (by omega)
     have o2 := HO.out.2.1 2 (by omega)
     have o3 := HO.out.2.1 3 (by omega)
     have of := HO.out.2.2.1
     have ol := HO.out.2.lt (by omega)
     obtain ⟨p0, p1, p2, p3⟩ := putF_cells HO.out.2 f
     clear AX hfx hE6
     go_wp2_with fail
     refine bodyPost_ret (v := .tuple #[f.v, .int .i64 0]) (by simp [results, Try.results36, go_sem, p0, p1, p2, p3]) rfl ?_
     exact ⟨f, rfl, HF.out.keep (IK.putF HO.out.2 f), ext_putF HO.out.1 (by omega) f⟩
end Go.Proofs.Ytgmedfloflplgaa
