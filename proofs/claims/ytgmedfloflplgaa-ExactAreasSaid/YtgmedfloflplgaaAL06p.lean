/- meresmanlaw06: four. -/
import Derived.Test.YtgmedfloflplgaaAL06o
import Derived.Test.YtgmedfloflplgaaALNi
namespace Go.Proofs.Ytgmedfloflplgaa
set_option linter.unusedSimpArgs false
set_option linter.unusedVariables false
open Go.RowKit

/-- The points qs stand for the first ones of l. -/
def Stand (w : World) (qs : List PV) (l : List RP) (k : Nat) : Prop := ∀ (j : Nat) (q : PV) (p : RP), qs[j]? = some q → l[j]? = some p → IsRP w q p k
theorem Stand.keep {w w' : World} {qs : List PV} {l : List RP} {k : Nat} (h : Stand w qs l k) (e : IK w w') : Stand w' qs l k := fun j q p h1 h2 => (h j q p h1 h2).keep e
theorem Stand.snoc {w : World} {qs : List PV} {l : List RP} {k i : Nat} {q : PV} {p : RP} (h : Stand w qs l k) (hi : qs.length = i) (hp : l[i]? = some p) (hq : IsRP w q p k) : Stand w (qs ++ [q]) l k := fun j q' p' h1 h2 => by
 rcases Nat.lt_trichotomy j qs.length with h3 | h3 | h3
 ·rw [List.getElem?_append_left h3] at h1
  exact h j q' p' h1 h2
 ·subst h3
  rw [List.getElem?_append_right (Nat.le_refl _), Nat.sub_self] at h1
  simp at h1
  rw [← hi] at hp
  rw [hp] at h2
  injection h2 with h2
  subst h1; subst h2
  exact hq
 ·rw [List.getElem?_append_right (by omega)] at h1
  rw [List.getElem?_eq_none (by simp; omega)] at h1; cases h1
theorem encPV_ni (l : List PV) : ∀ u ∈ gcells encPV l, ∀ k m, u ≠ Value.int k m := by
 intro u hu k m
 simp [gcells] at hu
 obtain ⟨p, _, hp⟩ := hu
 simp [encPV] at hp
 rcases hp with rfl | rfl | rfl | rfl | rfl | rfl | rfl | rfl <;> simp
theorem pz_ni : ∀ u ∈ (Value.agg #[.bool false, .slice none 0 0, .bool false, .slice none 0 0, .bool false, .slice none 0 0, .bool false, .slice none 0 0]).cells, ∀ k m, u ≠ Value.int k m := by
 intro u hu k m
 simp [Value.cells] at hu
 rcases hu with rfl | rfl | rfl | rfl | rfl | rfl | rfl | rfl <;> simp
def RetFour (l : List RP) (k : Nat) (w : World) (e : Ending) (w' : World) : Prop := ∃ (h cap : Nat) (qs : List PV), e = .returned (.tuple #[.slice (some ⟨h, 0, none⟩) 4 cap, .bool true]) ∧ qs.length = 4 ∧ GAt encPV w' h qs ∧ Stand w' qs l k ∧ w.heap.size ≤ h ∧ h < w'.heap.size ∧ Ext w w' ∧ (∀ o, w'.frozen? ⟨h, o, none⟩ = false) ∧ NI w' h
set_option maxRecDepth 100000 in
set_option maxHeartbeats 8000000 in
theorem four_c (g cap : Nat) (l : List RP) (k : Nat) (w : World) (hg : GAt encRP w g l) (hl : l.length = 4) (hb : ∀ (j : Nat) (p : RP), l[j]? = some p → RB p k) (hk : k ≤ 62) : Calls Try.prog 30 #[.slice (some ⟨g, 0, none⟩) 4 cap] w (RetFour l k w) := by
 obtain ⟨i0, hi0, hz0, hz1, hz2⟩ := info_parts pInfo
 have HG := Lib.hid (And.intro hg hb)
 have HL := Lib.hid hl
 clear hg hb hl
 go_enter Try.func30, Try.ntmps30
 go_wp2_with fail
 go_loopw [4, 5] (fun qv iv ws => ∃ (i : Nat) (qs : List PV), i ≤ 4 ∧ iv = .int .i64 (i : Int) ∧ qs.length = i ∧ GRow encPV 51 ws w.heap.size qv qs ∧ NIv ws qv ∧ Stand ws qs l k ∧ Ext w ws) (fun _ v _ => 4 - (intOf v).toNat)
 case atStart => exact ⟨0, [], by omega, rfl, rfl, GRow.nil encPV 51 w _, NIv.nil w, fun j q p h => by simp at h, Ext.refl w⟩
 case round =>
  obtain ⟨i, qs, hi, rfl, hql, hP, hN, hS, hE⟩ := hrel
  have HN := Lib.hid hN
  have HQL := Lib.hid hql
  have HP := Lib.hid hP; have HE := Lib.hid hE; have HS := Lib.hid hS
  clear hP hS hql hN
  have hsz := hE.size
  by_cases hlt : i < 4
  ·obtain ⟨p, hp⟩ : ∃ p, l[i]? = some p := ⟨_, List.getElem?_eq_getElem (by rw [HL.out]; exact hlt)⟩
   have a0 : wr.cell? ⟨g, i * 3, none⟩ = some (.int .i64 p.x) := (HG.out.1.ext hE) i p hp 0 (by decide)
   have a1 : wr.cell? ⟨g, i * 3 + 1, none⟩ = some (.int .i64 p.y) := (HG.out.1.ext hE) i p hp 1 (by decide)
   have a2 : wr.cell? ⟨g, i * 3 + 2, none⟩ = some (.int .i64 p.d) := (HG.out.1.ext hE) i p hp 2 (by decide)
   have HI := Lib.hid hp
   clear hE hp
   go_wp2_with fail
   refine (own_c p k _ (HG.out.2 i p HI.out) hk).mono ?_
   rintro e w3 ⟨q, rfl, hq, hx3⟩
   have HE3X := Lib.hid hx3
   have hE3 := HE.out.trans hx3
   have hs3 := hE3.size
   have hP3 := Lib.hid (HP.out.ext hx3)
   have hS3 := Lib.hid ((HS.out.keep hx3.ik).snoc HQL.out HI.out hq)
   have HE3 := Lib.hid hE3
   clear hx3 hE3 hq a0 a1 a2
   have hnw := Lib.hid (gAt_one (F := encPV) (a := q) (w := (w3.alloc (.cells q.cs 51)).alloc (.cells q.cs 51)) (b := w3.heap.size + 1) (fun j hj => by
    rw [Blk.cell (Blk.at _ 51 (by simp))]
    exact Array.getElem?_toList.symm))
   go_wp2_with (refine wpList_append_ni _ rfl _ _ _ rfl w.heap.size 51 i0 _ 8 128 Try.underlying53 hi0 hz0 hz1 hz2 rfl (by omega) _ _ _ rfl (hP3.out.ext (by repeat (first | exact Ext.refl _ | assumption | refine Ext.setCell ?_ (by first | (simp; done) | (simp; omega) | omega) _ | refine Ext.alloc ?_ _ | refine Ext.drew ?_ | refine Ext.trans ?_ (by assumption)))) ⟨w3.heap.size + 1, 0, none⟩ 1 1 (gcells encPV [q]) rfl rfl (gnews_at hnw.out) (gcells_one _ _) (by omega) (by rw [HQL.out, maxLen]; omega) (by rw [HQL.out]; omega) (by simp; omega) _ rfl (NIv.ext ((HE3X.out.alloc _).alloc _) HP.out HN.out) (encPV_ni _) (encPV_ni _) pz_ni ?_)
   intro h' cap' w1 hown hgrow hat hlt1 hik hni
   have hR := Lib.hid (show GRow encPV 51 w1 w.heap.size (.slice (some ⟨h', 0, none⟩) (qs.length + 1) cap') (qs ++ [q]) ∧ NIv w1 (.slice (some ⟨h', 0, none⟩) (qs.length + 1) cap') ∧ Stand w1 (qs ++ [q]) l k ∧ Ext w w1 from
    ⟨GRow.app hown rfl, (fun g hg => by simp [Value.ownBlock] at hg; subst hg; exact hni), hS3.out.keep ((((Ext.refl _).alloc _).alloc _).ik.trans hik), gext_grown ((HE3.out.alloc _).alloc _) hgrow (fun g hg => (gowns_lt HP.out hg).1)⟩)
   clear hown hgrow hat hik hni
   go_wp2_with fail
   go_roundw
   case rel => exact ⟨i + 1, qs ++ [q], by omega, by go_num, by simp [HQL.out], hR.out.1, hR.out.2.1, hR.out.2.2.1, hR.out.2.2.2⟩
   case measure => simp [intOf]; omega
  ·obtain rfl : i = 4 := by omega
   obtain ⟨h', cap', rfl, hgb, hgl⟩ := World.ownsRow.form HP.out (by rw [HQL.out]; omega)
   rw [HQL.out]
   go_wp2_with fail
   go_ret2
   exact ⟨h', cap', qs, rfl, HQL.out, HP.out.gat, HS.out, hgb, hgl, HE.out, HP.out.free, HN.out h' rfl⟩
theorem GAt.pv {w : World} {h : Nat} {l : List PV} (H : GAt encPV w h l) {i : Nat} {p : PV} (hi : l[i]? = some p) : w.cell? ⟨h, i * 8, none⟩ = some (.bool p.x.n.neg) ∧ w.cell? ⟨h, i * 8 + 1, none⟩ = some (.slice p.x.n.a p.x.n.n p.x.n.c) ∧ w.cell? ⟨h, i * 8 + 2, none⟩ = some (.bool p.x.d.neg) ∧ w.cell? ⟨h, i * 8 + 3, none⟩ = some (.slice p.x.d.a p.x.d.n p.x.d.c) ∧ w.cell? ⟨h, i * 8 + 4, none⟩ = some (.bool p.y.n.neg) ∧ w.cell? ⟨h, i * 8 + 5, none⟩ = some (.slice p.y.n.a p.y.n.n p.y.n.c) ∧ w.cell? ⟨h, i * 8 + 6, none⟩ = some (.bool p.y.d.neg) ∧ w.cell? ⟨h, i * 8 + 7, none⟩ = some (.slice p.y.d.a p.y.d.n p.y.d.c) :=
 ⟨H i p hi 0 (by decide), H i p hi 1 (by decide), H i p hi 2 (by decide), H i p hi 3 (by decide), H i p hi 4 (by decide), H i p hi 5 (by decide), H i p hi 6 (by decide), H i p hi 7 (by decide)⟩
abbrev cs32 (a b c d : PV) : Array Value := #[.bool a.x.n.neg, .slice a.x.n.a a.x.n.n a.x.n.c, .bool a.x.d.neg, .slice a.x.d.a a.x.d.n a.x.d.c, .bool a.y.n.neg, .slice a.y.n.a a.y.n.n a.y.n.c, .bool a.y.d.neg, .slice a.y.d.a a.y.d.n a.y.d.c,
 .bool b.x.n.neg, .slice b.x.n.a b.x.n.n b.x.n.c, .bool b.x.d.neg, .slice b.x.d.a b.x.d.n b.x.d.c, .bool b.y.n.neg, .slice b.y.n.a b.y.n.n b.y.n.c, .bool b.y.d.neg, .slice b.y.d.a b.y.d.n b.y.d.c,
 .bool c.x.n.neg, .slice c.x.n.a c.x.n.n c.x.n.c, .bool c.x.d.neg, .slice c.x.d.a c.x.d.n c.x.d.c, .bool c.y.n.neg, .slice c.y.n.a c.y.n.n c.y.n.c, .bool c.y.d.neg, .slice c.y.d.a c.y.d.n c.y.d.c,
 .bool d.x.n.neg, .slice d.x.n.a d.x.n.n d.x.n.c, .bool d.x.d.neg, .slice d.x.d.a d.x.d.n d.x.d.c, .bool d.y.n.neg, .slice d.y.n.a d.y.n.n d.y.n.c, .bool d.y.d.neg, .slice d.y.d.a d.y.d.n d.y.d.c]
/-- What the walk knows behind the making of the points. -/
structure Known (w0 : World) (g h : Nat) (l : List RP) (qs : List PV) : Prop where
 r : GAt encRP w0 g l
 q : GAt encPV w0 h qs
 s : Stand w0 qs l 20
 n : qs.length = 4
end Go.Proofs.Ytgmedfloflplgaa
