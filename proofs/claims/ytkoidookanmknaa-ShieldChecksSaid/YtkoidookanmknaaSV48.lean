/- meresmanref30: Spoilt, its memory. -/
import Derived.Test.YtkoidookanmknaaSV32
import Derived.Test.YtkoidookanmknaaSV40
namespace Go.Proofs.Ytkoidookanmknaa
set_option linter.unusedSimpArgs false
set_option linter.unusedVariables false
open Go.RowKit

/-- A sheet of the call's own, whose sets are rows of the call's own. -/
structure Cpy (W : World) (base : Nat) (vS vV : Value) (gs : List Sl) (Ls : List (List Int)) (zs : List Int) : Prop where
 sh : GSh W base vS vV gs Ls zs
 rows : ∀ k, k < Ls.length → VRow W base (gs.getD k sl0).v (Ls.getD k [])
 dis : ∀ i j, i < j → j < Ls.length → (gs.getD i sl0).a ≠ (gs.getD j sl0).a
theorem Cpy.nil (W : World) (base : Nat) : Cpy W base (.slice none 0 0) (.slice none 0 0) [] [] [] :=
 ⟨GSh.nil W base, fun k hk => absurd hk (by simp), fun i j _ hj => absurd hj (by simp)⟩
theorem Cpy.ext {W W' : World} {base : Nat} {vS vV : Value} {gs : List Sl} {Ls : List (List Int)} {zs : List Int} (h : Cpy W base vS vV gs Ls zs) (k : Ext W W') : Cpy W' base vS vV gs Ls zs :=
 ⟨h.sh.ext k, fun i hi => (h.rows i hi).ext k, h.dis⟩
theorem Cpy.low {W : World} {base b o : Nat} {u vS vV : Value} {gs : List Sl} {Ls : List (List Int)} {zs : List Int} (h : Cpy W base vS vV gs Ls zs) (hb : b < base) : Cpy (W.setCell ⟨b, o, none⟩ u) base vS vV gs Ls zs :=
 ⟨h.sh.low hb, fun i hi => owns_grown (h.rows i hi) (grown_setCell W b o u) (fun g hg e => by have := (owns_lt (h.rows i hi) hg).1; injection e with e; omega), h.dis⟩
theorem Cpy.addS {W W1 : World} {base g cap b n c : Nat} {vS vV : Value} {gs : List Sl} {Ls : List (List Int)} {zs : List Int} {L : List Int} (h : Cpy W base vS vV gs Ls zs) (hR : VRow W base (.slice (some ⟨b, 0, none⟩) n c) L) (hn : L.length = n) (hl : n ≤ 1000) (h64 : ∀ x, x ∈ L → Int64 x) (h1 : vS.ownBlock ≠ some b) (h2 : vV.ownBlock ≠ some b)
  (hfr : ∀ k, k < Ls.length → (gs.getD k sl0).a ≠ some ⟨b, 0, none⟩)
  (hown : W1.ownsRow base 22 1 (.slice (some ⟨g, 0, none⟩) (Ls.length + 1) cap) (Ls.length + 1) (gs.map Sl.v ++ [.slice (some ⟨b, 0, none⟩) n c])) (hgr : W.grownBy W1 vS.ownBlock) (hat : vS.ownBlock = some g ∨ g = W.heap.size) :
  Cpy W1 base (.slice (some ⟨g, 0, none⟩) (Ls.length + 1) cap) vV (gs ++ [⟨some ⟨b, 0, none⟩, n, c⟩]) (Ls ++ [L]) zs := by
 have hb := owns_lt hR (g := b) rfl
 have hI : Ints W (some ⟨b, 0, none⟩) n L := by
  obtain ⟨a, c', e, hI⟩ := hR.ints (by omega) (fun i hi => by rw [getD_get hi]; exact h64 _ (List.getElem_mem hi))
  injection e with e1 e2 e3
  rw [hn] at hI
  rw [← e1] at hI
  exact hI
 refine ⟨h.sh.addS hI hb.1 hb.2 h1 h2 hown hgr hat, fun k hk => ?_, fun i j hij hj => ?_⟩
 ·by_cases hk' : k < Ls.length
  ·rw [getD_app (by rw [h.sh.n1]; exact hk'), getD_app hk']
   obtain ⟨y, y1, _, _, _, y5, _⟩ := h.sh.sets k hk'
   exact owns_grown (h.rows k hk') hgr (fun x hx e => by
    obtain ⟨⟨ka, kn, kc⟩, hs⟩ : ∃ s, gs.getD k sl0 = s := ⟨_, rfl⟩
    rw [hs] at hx y1
    simp only at y1
    subst y1
    simp [Sl.v, Value.ownBlock] at hx
    subst hx
    exact y5 e)
  ·have e : k = Ls.length := by simp at hk; omega
   rw [getD_last (by rw [h.sh.n1]; exact e), getD_last e]
   exact owns_grown hR hgr (fun x hx e => by simp [Value.ownBlock] at hx; subst hx; exact h1 e)
 ·rw [List.length_append, List.length_singleton] at hj
  rw [getD_app (show i < gs.length by rw [h.sh.n1]; omega)]
  by_cases hj' : j < Ls.length
  ·rw [getD_app (show j < gs.length by rw [h.sh.n1]; omega)]
   exact h.dis i j hij hj'
  ·rw [getD_last (show j = gs.length by rw [h.sh.n1]; omega)]
   exact hfr i (by omega)
theorem GSh.addVs {W W1 : World} {base g cap m : Nat} {vS vV : Value} {gs : List Sl} {Ls : List (List Int)} {zs ys : List Int} (h : GSh W base vS vV gs Ls zs) (hm : ys.length = m)
  (hown : W1.ownsRow base 3 1 (.slice (some ⟨g, 0, none⟩) (zs.length + m) cap) (zs.length + m) (ivals zs ++ ivals ys)) (hgr : W.grownBy W1 vV.ownBlock) (hat : vV.ownBlock = some g ∨ g = W.heap.size) :
  GSh W1 base vS (.slice (some ⟨g, 0, none⟩) (zs.length + m) cap) gs Ls (zs ++ ys) := by
 have hgb : ∀ y, y < W.heap.size → vV.ownBlock ≠ some y → g ≠ y := fun y hy hn e => by
  rcases hat with hat | hat
  ·rw [hat, e] at hn; exact hn rfl
  ·omega
 refine ⟨h.n1, owns_grown h.S hgr (fun y hy e => h.ne y hy e), VRow.app hm hown, fun y hy e => ?_, fun k hk => ?_⟩
 ·simp [Value.ownBlock] at e
  exact hgb y (owns_lt h.S hy).2 (h.ne y hy) e
 ·obtain ⟨y, y1, y2, y3, y4, y5, y6⟩ := h.sets k hk
  exact ⟨y, y1, y2, Nat.lt_of_lt_of_le y3 hgr.size, ints_grown y4 hgr y3 y6, y5, (fun e => by simp [Value.ownBlock] at e; exact hgb y y3 y6 e)⟩
theorem Cpy.addVs {W W1 : World} {base g cap m : Nat} {vS vV : Value} {gs : List Sl} {Ls : List (List Int)} {zs ys : List Int} (h : Cpy W base vS vV gs Ls zs) (hm : ys.length = m)
  (hown : W1.ownsRow base 3 1 (.slice (some ⟨g, 0, none⟩) (zs.length + m) cap) (zs.length + m) (ivals zs ++ ivals ys)) (hgr : W.grownBy W1 vV.ownBlock) (hat : vV.ownBlock = some g ∨ g = W.heap.size) :
  Cpy W1 base vS (.slice (some ⟨g, 0, none⟩) (zs.length + m) cap) gs Ls (zs ++ ys) :=
 ⟨h.sh.addVs hm hown hgr hat, fun k hk => owns_grown (h.rows k hk) hgr (fun x hx e => by
  obtain ⟨y, y1, _, _, _, _, y6⟩ := h.sh.sets k hk
  obtain ⟨⟨ka, kn, kc⟩, hs⟩ : ∃ s, gs.getD k sl0 = s := ⟨_, rfl⟩
  rw [hs] at hx y1
  simp only at y1
  subst y1
  simp [Sl.v, Value.ownBlock] at hx
  subst hx
  exact y6 e), h.dis⟩
/-- All of a sheet lies in blocks from base on. -/
structure Away (base : Nat) (ss vs : Sl) (gs : List Sl) (m : Nat) : Prop where
 s : ∀ b o r, ss.a = some ⟨b, o, r⟩ → base ≤ b
 v : ∀ b o r, vs.a = some ⟨b, o, r⟩ → base ≤ b
 g : ∀ i, i < m → ∀ b o r, (gs.getD i sl0).a = some ⟨b, o, r⟩ → base ≤ b
theorem ints_far {W W' : World} {x : Nat} {a : Option Addr} {n : Nat} {l : List Int} (h : Ints W a n l) (hgr : W.grownBy W' (some x)) (hne : ∀ b o r, a = some ⟨b, o, r⟩ → b ≠ x) : Ints W' a n l := by
 obtain ⟨h1, h2, h3, h4⟩ := h
 refine ⟨h1, h2, h3, ?_⟩
 rcases h4 with h4 | ⟨b, off, ha, hb, hc⟩
 ·exact .inl h4
 ·exact .inr ⟨b, off, ha, Nat.lt_of_lt_of_le hb hgr.size, fun i hi => by rw [hgr.cell_far _ hb (fun e => hne b off none ha (by simpa using e))]; exact hc i hi⟩
/-- A write, or an append, elsewhere. -/
theorem ShIn.far {W W' : World} {x : Nat} {n : Int} {ss vs : Sl} {gs : List Sl} {Ls : List (List Int)} {zs : List Int} (h : ShIn W n ss vs gs Ls zs) (hgr : W.grownBy W' (some x)) (h1 : ∀ b o r, ss.a = some ⟨b, o, r⟩ → b ≠ x) (h2 : ∀ b o r, vs.a = some ⟨b, o, r⟩ → b ≠ x)
  (h3 : ∀ i, i < ss.n → ∀ b o r, (gs.getD i sl0).a = some ⟨b, o, r⟩ → b ≠ x) : ShIn W' n ss vs gs Ls zs := by
 obtain ⟨⟨g1, g2, g3, g4, g5⟩, hv, hl⟩ := h
 refine ⟨⟨g1, g2, g3, ?_, fun i hi => ints_far (g5 i hi) hgr (h3 i hi)⟩, ints_far hv hgr h2, hl⟩
 rcases g4 with g4 | ⟨b, off, ha, hb, hc⟩
 ·exact .inl g4
 ·exact .inr ⟨b, off, ha, Nat.lt_of_lt_of_le hb hgr.size, fun i hi => by rw [hgr.cell_far _ hb (fun e => h1 b off none ha (by simpa using e))]; exact hc i hi⟩
theorem ShIn.put {W : World} {base R o : Nat} {u : Value} {n : Int} {ss vs : Sl} {gs : List Sl} {Ls : List (List Int)} {zs : List Int} (h : ShIn W n ss vs gs Ls zs) (ha : Away base ss vs gs ss.n) (hR : R < base) : ShIn (W.setCell ⟨R, o, none⟩ u) n ss vs gs Ls zs :=
 h.far (grown_setCell W R o u) (fun b o r e => by have := ha.s b o r e; omega) (fun b o r e => by have := ha.v b o r e; omega) (fun i hi b o r e => by have := ha.g i hi b o r e; omega)
/-- Another set in the place of one. -/
theorem ShIn.setS {W : World} {sg so k : Nat} {s : Sl} {l : List Int} {n : Int} {ss vs : Sl} {gs : List Sl} {Ls : List (List Int)} {zs : List Int} (h : ShIn W n ss vs gs Ls zs) (ha : ss.a = some ⟨sg, so, none⟩) (hk : k < ss.n) (hl : Ints W s.a s.n l) (hl2 : l.length ≤ 1000)
  (h1 : ∀ b o r, vs.a = some ⟨b, o, r⟩ → b ≠ sg) (h2 : ∀ i, i < ss.n → ∀ b o r, (gs.getD i sl0).a = some ⟨b, o, r⟩ → b ≠ sg) (h3 : ∀ b o r, s.a = some ⟨b, o, r⟩ → b ≠ sg) :
  ShIn (W.setCell ⟨sg, so + k, none⟩ s.v) n ss vs (gs.set k s) (Ls.set k l) zs := by
 have hgr := grown_setCell W sg (so + k) s.v
 obtain ⟨⟨g1, g2, g3, g4, g5⟩, hv, hll⟩ := h
 have gg : ∀ i, (gs.set k s).getD i sl0 = if k = i then s else gs.getD i sl0 := fun i => by
  by_cases e : k = i
  ·subst e; rw [if_pos rfl]; simp [List.getD_eq_getElem?_getD, show k < gs.length by omega]
  ·rw [if_neg e]; simp [List.getD_eq_getElem?_getD, List.getElem?_set_ne e]
 have gl : ∀ i, (Ls.set k l).getD i [] = if k = i then l else Ls.getD i [] := fun i => by
  by_cases e : k = i
  ·subst e; rw [if_pos rfl]; simp [List.getD_eq_getElem?_getD, show k < Ls.length by omega]
  ·rw [if_neg e]; simp [List.getD_eq_getElem?_getD, List.getElem?_set_ne e]
 refine ⟨⟨by simpa using g1, by simpa using g2, g3, ?_, fun i hi => ?_⟩, ints_far hv hgr h1, fun i => ?_⟩
 ·rcases g4 with g4 | ⟨b, off, hb0, hb, hc⟩
  ·exact .inl g4
  ·rw [ha] at hb0
   injection hb0 with hb0; injection hb0 with e1 e2
   subst e1; subst e2
   refine .inr ⟨sg, so, ha, Nat.lt_of_lt_of_le hb hgr.size, fun i hi => ?_⟩
   rw [gg]
   by_cases e : k = i
   ·subst e
    rw [if_pos rfl]
    first | exact World.cell?_setCell_same _ _ _ (hc k hk) | exact World.cell?_setCell_same _ _ (hc k hk) | exact World.cell?_setCell_same _ _ _ _ (hc k hk)
   ·rw [if_neg e]
    refine Eq.trans ?_ (hc i hi)
    have hq : ∀ b o, (⟨b, o + k, none⟩ : Addr) ≠ ⟨b, o + i, none⟩ := fun b o q => by injection q with _ q; omega
    first | exact World.cell?_setCell_other _ _ _ (hq _ _) | exact World.cell?_setCell_other _ _ _ _ (hq _ _) | exact World.cell?_setCell_other _ _ (hq _ _)
 ·rw [gg, gl]
  by_cases e : k = i
  ·rw [if_pos e, if_pos e]; exact ints_far hl hgr h3
  ·rw [if_neg e, if_neg e]; exact ints_far (g5 i hi) hgr (h2 i hi)
 ·rw [gl]
  split
  ·exact hl2
  ·exact hll i
/-- Another set in the place of one, behind an append to its row. -/
theorem ShIn.setS2 {W : World} {sg so k : Nat} {s : Sl} {l : List Int} {n : Int} {ss vs : Sl} {gs : List Sl} {Ls : List (List Int)} {zs : List Int} (g1 : gs.length = ss.n) (g2 : Ls.length = ss.n) (g3 : ss.n ≤ 1000000) (ha : ss.a = some ⟨sg, so, none⟩) (hb : sg < W.heap.size) (hc : ∀ i, i < ss.n → W.cell? ⟨sg, so + i, none⟩ = some (gs.getD i sl0).v)
  (g5 : ∀ i, i < ss.n → i ≠ k → Ints W (gs.getD i sl0).a (gs.getD i sl0).n (Ls.getD i [])) (hv : Ints W vs.a vs.n zs) (hll : ∀ k, (Ls.getD k []).length ≤ 1000) (hk : k < ss.n) (hl : Ints W s.a s.n l) (hl2 : l.length ≤ 1000)
  (h1 : ∀ b o r, vs.a = some ⟨b, o, r⟩ → b ≠ sg) (h2 : ∀ i, i < ss.n → ∀ b o r, (gs.getD i sl0).a = some ⟨b, o, r⟩ → b ≠ sg) (h3 : ∀ b o r, s.a = some ⟨b, o, r⟩ → b ≠ sg) :
  ShIn (W.setCell ⟨sg, so + k, none⟩ s.v) n ss vs (gs.set k s) (Ls.set k l) zs := by
 have hgr := grown_setCell W sg (so + k) s.v
 have gg : ∀ i, (gs.set k s).getD i sl0 = if k = i then s else gs.getD i sl0 := fun i => by
  by_cases e : k = i
  ·subst e; rw [if_pos rfl]; simp [List.getD_eq_getElem?_getD, show k < gs.length by omega]
  ·rw [if_neg e]; simp [List.getD_eq_getElem?_getD, List.getElem?_set_ne e]
 have gl : ∀ i, (Ls.set k l).getD i [] = if k = i then l else Ls.getD i [] := fun i => by
  by_cases e : k = i
  ·subst e; rw [if_pos rfl]; simp [List.getD_eq_getElem?_getD, show k < Ls.length by omega]
  ·rw [if_neg e]; simp [List.getD_eq_getElem?_getD, List.getElem?_set_ne e]
 refine ⟨⟨by simpa using g1, by simpa using g2, g3, .inr ⟨sg, so, ha, Nat.lt_of_lt_of_le hb hgr.size, fun i hi => ?_⟩, fun i hi => ?_⟩, ints_far hv hgr h1, fun i => ?_⟩
 ·rw [gg]
  by_cases e : k = i
  ·subst e
   rw [if_pos rfl]
   exact World.cell?_setCell_same _ _ _ (hc k hk)
  ·rw [if_neg e]
   refine Eq.trans ?_ (hc i hi)
   have hq : ∀ b o, (⟨b, o + k, none⟩ : Addr) ≠ ⟨b, o + i, none⟩ := fun b o q => by injection q with _ q; omega
   first | exact World.cell?_setCell_other _ _ _ (hq _ _) | exact World.cell?_setCell_other _ _ _ _ (hq _ _) | exact World.cell?_setCell_other _ _ (hq _ _)
 ·rw [gg, gl]
  by_cases e : k = i
  ·rw [if_pos e, if_pos e]; exact ints_far hl hgr h3
  ·rw [if_neg e, if_neg e]; exact ints_far (g5 i hi (fun e' => e e'.symm)) hgr (h2 i hi)
 ·rw [gl]
  split
  ·exact hl2
  ·exact hll i
/-- Another value in the place of one. -/
theorem ShIn.setV {W : World} {vg vo k : Nat} {x : Int} {n : Int} {ss vs : Sl} {gs : List Sl} {Ls : List (List Int)} {zs : List Int} (h : ShIn W n ss vs gs Ls zs) (ha : vs.a = some ⟨vg, vo, none⟩) (hk : k < vs.n) (hx : Int64 x)
  (h1 : ∀ b o r, ss.a = some ⟨b, o, r⟩ → b ≠ vg) (h2 : ∀ i, i < ss.n → ∀ b o r, (gs.getD i sl0).a = some ⟨b, o, r⟩ → b ≠ vg) :
  ShIn (W.setCell ⟨vg, vo + k, none⟩ (.int .i64 x)) n ss vs gs Ls (zs.set k x) := by
 have hgr := grown_setCell W vg (vo + k) (.int .i64 x)
 obtain ⟨⟨g1, g2, g3, g4, g5⟩, ⟨v1, v2, v3, v4⟩, hll⟩ := h
 have gg : ∀ i, (zs.set k x).getD i 0 = if k = i then x else zs.getD i 0 := fun i => by
  by_cases e : k = i
  ·subst e; rw [if_pos rfl]; simp [List.getD_eq_getElem?_getD, show k < zs.length by omega]
  ·rw [if_neg e]; simp [List.getD_eq_getElem?_getD, List.getElem?_set_ne e]
 refine ⟨⟨g1, g2, g3, ?_, fun i hi => ints_far (g5 i hi) hgr (h2 i hi)⟩, ⟨by simpa using v1, v2, fun i hi => ?_, ?_⟩, hll⟩
 ·rcases g4 with g4 | ⟨b, off, hb0, hb, hc⟩
  ·exact .inl g4
  ·exact .inr ⟨b, off, hb0, Nat.lt_of_lt_of_le hb hgr.size, fun i hi => by rw [hgr.cell_far _ hb (fun e => h1 b off none hb0 (by simpa using e))]; exact hc i hi⟩
 ·rw [gg]
  split
  ·exact hx
  ·exact v3 i hi
 ·rcases v4 with v4 | ⟨b, off, hb0, hb, hc⟩
  ·exact .inl v4
  ·rw [ha] at hb0
   injection hb0 with hb0; injection hb0 with e1 e2
   subst e1; subst e2
   refine .inr ⟨vg, vo, ha, Nat.lt_of_lt_of_le hb hgr.size, fun i hi => ?_⟩
   rw [gg]
   by_cases e : k = i
   ·subst e
    rw [if_pos rfl]
    first | exact World.cell?_setCell_same _ _ _ (hc k hk) | exact World.cell?_setCell_same _ _ (hc k hk) | exact World.cell?_setCell_same _ _ _ _ (hc k hk)
   ·rw [if_neg e]
    refine Eq.trans ?_ (hc i hi)
    have hq : ∀ b o, (⟨b, o + k, none⟩ : Addr) ≠ ⟨b, o + i, none⟩ := fun b o q => by injection q with _ q; omega
    first | exact World.cell?_setCell_other _ _ _ (hq _ _) | exact World.cell?_setCell_other _ _ _ _ (hq _ _) | exact World.cell?_setCell_other _ _ (hq _ _)
/-- The first values alone. -/
theorem ShIn.cutV {W : World} {k c : Nat} {n : Int} {ss vs : Sl} {gs : List Sl} {Ls : List (List Int)} {zs : List Int} (h : ShIn W n ss vs gs Ls zs) (hk : k ≤ vs.n) : ShIn W n ss ⟨vs.a, k, c⟩ gs Ls (zs.take k) := by
 obtain ⟨hg, ⟨v1, v2, v3, v4⟩, hll⟩ := h
 have gg : ∀ i, i < k → (zs.take k).getD i 0 = zs.getD i 0 := fun i hi => by simp [List.getD_eq_getElem?_getD, List.getElem?_take_of_lt hi]
 refine ⟨hg, ⟨by simp [v1]; omega, by simp only; omega, fun i hi => by rw [gg i hi]; exact v3 i (by simp only at hi; omega), ?_⟩, hll⟩
 rcases v4 with v4 | ⟨b, off, hb0, hb, hc⟩
 ·exact .inl (by simp only; omega)
 ·exact .inr ⟨b, off, hb0, hb, fun i hi => by rw [gg i hi]; exact hc i (by simp only at hi; omega)⟩
structure SpI (w W : World) (B N : Nat) (sv vv vS vV : Value) (gs : List Sl) (Ls : List (List Int)) (zs : List Int) : Prop where
 sz : w.heap.size = B
 ext : Ext w W
 src : Blk W B #[.int .i64 (N : Int), sv, vv] 25
 res : Blk W (B + 1) #[.int .i64 0, .slice none 0 0, .slice none 0 0] 25
 box : Blk W (B + 1 + 1) #[.int .i64 (N : Int), vS, vV] 25
 own : Cpy W (B + 1 + 1 + 1) vS vV gs Ls zs
theorem SpI.keep {w W W' : World} {B N : Nat} {sv vv vS vV : Value} {gs : List Sl} {Ls : List (List Int)} {zs : List Int} (h : SpI w W B N sv vv vS vV gs Ls zs) (k : Ext W W') : SpI w W' B N sv vv vS vV gs Ls zs :=
 ⟨h.sz, h.ext.trans k, h.src.ext k, h.res.ext k, h.box.ext k, h.own.ext k⟩
theorem SpI.addS {w W W1 : World} {B N g cap b n c : Nat} {sv vv vS vV : Value} {gs : List Sl} {Ls : List (List Int)} {zs : List Int} {L : List Int} (h : SpI w W B N sv vv vS vV gs Ls zs) (hR : VRow W (B + 1 + 1 + 1) (.slice (some ⟨b, 0, none⟩) n c) L) (hn : L.length = n) (hl : n ≤ 1000) (h64 : ∀ x, x ∈ L → Int64 x) (h1 : vS.ownBlock ≠ some b) (h2 : vV.ownBlock ≠ some b)
  (hfr : ∀ k, k < Ls.length → (gs.getD k sl0).a ≠ some ⟨b, 0, none⟩)
  (hown : W1.ownsRow (B + 1 + 1 + 1) 22 1 (.slice (some ⟨g, 0, none⟩) (Ls.length + 1) cap) (Ls.length + 1) (gs.map Sl.v ++ [.slice (some ⟨b, 0, none⟩) n c])) (hgr : W.grownBy W1 vS.ownBlock) (hat : vS.ownBlock = some g ∨ g = W.heap.size) :
  Ext w W1 ∧ W1.cell? ⟨B, 1, none⟩ = some sv ∧ W1.cell? ⟨B + 1 + 1, 1, none⟩ = some vS ∧ W1.frozen? ⟨B + 1 + 1, 1, none⟩ = false ∧ SpI w (W1.setCell ⟨B + 1 + 1, 1, none⟩ (.slice (some ⟨g, 0, none⟩) (Ls.length + 1) cap)) B N sv vv (.slice (some ⟨g, 0, none⟩) (Ls.length + 1) cap) vV (gs ++ [⟨some ⟨b, 0, none⟩, n, c⟩]) (Ls ++ [L]) zs := by
 have hge : ∀ x, vS.ownBlock = some x → B + 1 + 1 + 1 ≤ x := fun x hx => (owns_lt h.own.sh.S hx).1
 have hA := blk_grown2 h.src hgr (fun e => by have := hge _ e; omega)
 have hX := blk_grown2 h.box hgr (fun e => by have := hge _ e; omega)
 have hR' := blk_grown2 h.res hgr (fun e => by have := hge _ e; omega)
 have hs := h.sz
 have hE := ext_grown h.ext hgr (fun x hx => by have := hge x hx; omega)
 exact ⟨hE, hA.cell 1, hX.cell 1, hX.free 1, hs, hE.setCell (by simp; omega) _, hA.setOther (by simp; omega) _, hR'.setOther (by simp) _, hX.set 1 _, (h.own.addS hR hn hl h64 h1 h2 hfr hown hgr hat).low (by omega)⟩
theorem SpI.addVs {w W W1 : World} {B N g cap m : Nat} {sv vv vS vV : Value} {gs : List Sl} {Ls : List (List Int)} {zs ys : List Int} (h : SpI w W B N sv vv vS vV gs Ls zs) (hm : ys.length = m)
  (hown : W1.ownsRow (B + 1 + 1 + 1) 3 1 (.slice (some ⟨g, 0, none⟩) (zs.length + m) cap) (zs.length + m) (ivals zs ++ ivals ys)) (hgr : W.grownBy W1 vV.ownBlock) (hat : vV.ownBlock = some g ∨ g = W.heap.size) :
  W1.cell? ⟨B + 1 + 1, 2, none⟩ = some vV ∧ W1.frozen? ⟨B + 1 + 1, 2, none⟩ = false ∧ SpI w (W1.setCell ⟨B + 1 + 1, 2, none⟩ (.slice (some ⟨g, 0, none⟩) (zs.length + m) cap)) B N sv vv vS (.slice (some ⟨g, 0, none⟩) (zs.length + m) cap) gs Ls (zs ++ ys) := by
 have hge : ∀ x, vV.ownBlock = some x → B + 1 + 1 + 1 ≤ x := fun x hx => (owns_lt h.own.sh.V hx).1
 have hA := blk_grown2 h.src hgr (fun e => by have := hge _ e; omega)
 have hX := blk_grown2 h.box hgr (fun e => by have := hge _ e; omega)
 have hR' := blk_grown2 h.res hgr (fun e => by have := hge _ e; omega)
 have hs := h.sz
 have hE := ext_grown h.ext hgr (fun x hx => by have := hge x hx; omega)
 exact ⟨hX.cell 2, hX.free 2, hs, hE.setCell (by simp; omega) _, hA.setOther (by simp; omega) _, hR'.setOther (by simp) _, hX.set 2 _, (h.own.addVs hm hown hgr hat).low (by omega)⟩
/-- Where all of it lies. -/
theorem GSh.away {W : World} {base : Nat} {ss vs : Sl} {gs : List Sl} {Ls : List (List Int)} {zs : List Int} (h : GSh W base ss.v vs.v gs Ls zs) : Away base ss vs gs Ls.length := by
 refine ⟨fun b o r e => ?_, fun b o r e => ?_, fun i hi b o r e => ?_⟩
 ·obtain ⟨_, ⟨hv, _⟩ | ⟨g', cap', cur, hv, hb, _⟩⟩ := h.S
  ·unfold Sl.v at hv; rw [e] at hv; injection hv with hv; cases hv
  ·unfold Sl.v at hv; rw [e] at hv; injection hv with hv; injection hv with hv; injection hv with hv; omega
 ·obtain ⟨_, ⟨hv, _⟩ | ⟨g', cap', cur, hv, hb, _⟩⟩ := h.V
  ·unfold Sl.v at hv; rw [e] at hv; injection hv with hv; cases hv
  ·unfold Sl.v at hv; rw [e] at hv; injection hv with hv; injection hv with hv; injection hv with hv; omega
 ·obtain ⟨y, y1, y2, _⟩ := h.sets i hi
  rw [e] at y1
  injection y1 with y1; injection y1 with y1
  omega
/- meresmanref30: Spoilt. -/
open Go.RowKit

theorem item_sorted' {n : Int} {Ls : List (List Int)} {zs : List Int} {i : Nat} (h : itemBad n Ls zs i = false) : SetOK n (Ls.getD i []) ∧ (Ls.getD i []).length ≠ 0 := by
 have hc := item_cells h
 unfold itemBad at h
 simp only [Bool.or_eq_false_iff] at h
 obtain ⟨⟨⟨h1, _⟩, _⟩, h4⟩ := h
 generalize Ls.getD i [] = L at *
 have hb : ∀ k, k < L.length → badC n L k = false := fun k hk => by
  cases hc : badC n L k with
  | false => rfl
  | true => rw [List.any_eq_true.2 ⟨k, List.mem_range.2 hk, hc⟩] at h4; cases h4
 have hs : ∀ a b, a < b → b < L.length → L.getD a 0 < L.getD b 0 := fun a b => by
  induction b with
  | zero => intro hab; omega
  | succ b ih =>
   intro hab hb'
   have := hb (b + 1) hb'
   unfold badC at this
   simp only [Bool.or_eq_false_iff, decide_eq_false_iff_not, Bool.and_eq_false_iff, Nat.add_sub_cancel] at this
   by_cases e : a = b
   ·subst e; omega
   ·have := ih (by omega) (by omega); omega
 refine ⟨⟨List.pairwise_iff_getElem.2 fun a b ha hb hab => ?_, fun x hx => ?_⟩, fun e => hc.1 (List.eq_nil_of_length_eq_zero e)⟩
 ·have := hs a b hab hb
  rwa [getD_get ha, getD_get hb] at this
 ·obtain ⟨k, hk, rfl⟩ := List.getElem_of_mem hx
  have := hc.2 k hk
  rw [getD_get hk] at this
  omega
def SpoPost (w : World) (N : Nat) (Ls : List (List Int)) (e : Ending) (w' : World) : Prop := Ext w w' ∧ ∃ (n' : Int) (ss' vs' : Sl) (gs' : List Sl) (Ls' : List (List Int)) (zs' : List Int), e = .returned (.agg #[.int .i64 n', ss'.v, vs'.v]) ∧ ShIn w' n' ss' vs' gs' Ls' zs' ∧ Int64 n' ∧ (n' = N ∨ Ls' = Ls) ∧ ss'.n ≤ 900
theorem SpoPost.of {w : World} {N : Nat} {Ls : List (List Int)} {e : Ending} {w' : World} (h : Ext w w' ∧ ∃ (n' : Int) (ss' vs' : Sl) (gs' : List Sl) (Ls' : List (List Int)) (zs' : List Int), e = .returned (.agg #[.int .i64 n', ss'.v, vs'.v]) ∧ ShIn w' n' ss' vs' gs' Ls' zs' ∧ Int64 n' ∧ (n' = N ∨ Ls' = Ls) ∧ ss'.n ≤ 900) : SpoPost w N Ls e w' := h
set_option maxRecDepth 100000 in
set_option maxHeartbeats 4000000 in
theorem Spoilt_c (N : Nat) (ss vs : Sl) (gs : List Sl) (Ls : List (List Int)) (zs : List Int) (a1 a2 a3 : Int) (w : World) (h : ShIn w N ss vs gs Ls zs) (hv : validE N Ls zs = 0) (hN1 : 1 ≤ N) (hN6 : N ≤ 6) (hL1 : 1 ≤ Ls.length) (hL9 : Ls.length ≤ 9) (h1 : Int64 a1) (h2 : Int64 a2) (h3 : Int64 a3) :
  Calls Try.prog 11 #[.agg #[.int .i64 (N : Int), ss.v, vs.v], .int .i64 a1, .int .i64 a2, .int .i64 a3] w fun e w' => SpoPost w N Ls e w' := by
 obtain ⟨i0, hi0, hz0, hz1, hz2⟩ := info_parts intInfo
 obtain ⟨j0, hj0, hy0, hy1, hy2⟩ := info_parts intsInfo
 have hsn := h.grps.2.1
 have hvn := h.vals.1
 obtain ⟨_, _, _, hzl, hv5⟩ := validE_of hv
 have hok : ∀ k, k < Ls.length → SetOK N (Ls.getD k []) ∧ (Ls.getD k []).length ≠ 0 := fun k hk => item_sorted' (hv5 k hk)
 obtain ⟨sa, sn, sc⟩ := ss
 obtain ⟨va, vn, vc⟩ := vs
 simp only at hsn hvn
 simp only [Sl.v]
 obtain ⟨sb, so, rfl, _, _⟩ := h.grps.at 0 (by simp only; omega)
 obtain ⟨vb, vo, rfl, _, _⟩ := h.vals.at 0 (by simp only; omega)
 obtain ⟨B, hB⟩ : ∃ B, w.heap.size = B := ⟨_, rfl⟩
 have hs1 : 1 ≤ sn := by omega
 have hs9 : sn ≤ 9 := by omega
 have hvs : vn = sn := by omega
 subst hvs
 have H := Lib.hid (And.intro h (And.intro hok (And.intro hsn hvn)))
 have H1 := Lib.hid h1; have H2 := Lib.hid h2; have H3 := Lib.hid h3
 clear h hv hv5 hok h1 h2 h3 hsn hvn hzl hL1 hL9
 go_enter Try.func11, Try.ntmps11
 go_upto_region 2 with (fail)
 refine wp_gen (fun W => SpI w W B N (.slice (some ⟨sb, so, none⟩) vn sc) (.slice (some ⟨vb, vo, none⟩) vn vc) (.slice none 0 0) (.slice none 0 0) [] [] []) ⟨hB, (by repeat (first | exact Ext.refl _ | assumption | refine Ext.setCell ?_ (by first | (simp; done) | (simp; omega) | omega) _ | refine Ext.alloc ?_ _ | refine Ext.drew ?_ | refine Ext.trans ?_ (by assumption))), ((Blk.at _ _ hB.symm).alloc _).alloc _, (Blk.at _ _ (by simp [hB])).alloc _, Blk.at _ _ (by simp [hB]), Cpy.nil _ _⟩ ?_
 intro V hV
 have HV := Lib.hid hV
 clear hV
 go_wp2_with fail
 go_loopw [10] (fun iv ws => ∃ (i : Nat) (vS : Value) (gs' : List Sl), i ≤ vn ∧ iv = .int .i64 (i : Int) ∧ SpI w ws B N (.slice (some ⟨sb, so, none⟩) vn sc) (.slice (some ⟨vb, vo, none⟩) vn vc) vS (.slice none 0 0) gs' (Ls.take i) []) (fun iv _ => vn - (intOf iv).toNat)
 case atStart => exact ⟨0, _, [], by omega, rfl, HV.out⟩
 case round =>
  obtain ⟨i, vS, gs', hi, rfl, hS⟩ := hrel
  have x1 : wr.cell? ⟨B, 1, none⟩ = some (.slice (some ⟨sb, so, none⟩) vn sc) := hS.src.cell 1
  have HS := Lib.hid hS
  have hbx := hS.box.lt
  clear hS
  by_cases hlt : i < vn
  ·--{{
   have hEw := HS.out.ext
   obtain ⟨_, _, e, _, hcell0⟩ := H.out.1.grps.at i hlt
   injection e with e; injection e with e1 e2
   subst e1; subst e2
   have hin := (H.out.1.grps.ext hEw).2.2.2.2 i hlt
   obtain ⟨⟨ta, tn, tc⟩, hgi⟩ : ∃ s, gs.getD i sl0 = s := ⟨_, rfl⟩
   obtain ⟨L, hL⟩ : ∃ L, Ls.getD i [] = L := ⟨_, rfl⟩
   obtain ⟨hok1, hok2⟩ := H.out.2.1 i (by have := H.out.2.2.1; omega)
   have hcell := hEw.cell hcell0
   rw [hgi] at hcell hcell0 hin
   rw [hL] at hin hok1 hok2
   simp only [Sl.v] at hcell hcell0
   simp only at hin
   have htn := hin.1
   have htl := hok1.len
   rw [htn] at htl hok2
   obtain ⟨tb, tof, rfl, _, _⟩ := hin.at 0 (by omega)
   have hlL := H.out.2.2.1
   have htk : Ls.take (i + 1) = Ls.take i ++ [L] := by
    rw [← hL, List.take_add_one, List.getElem?_eq_getElem (by omega), List.getD_eq_getElem?_getD, List.getElem?_eq_getElem (by omega)]; rfl
   have htkl : (Ls.take i).length = i := by rw [List.length_take]; omega
   have HI := Lib.hid (And.intro hin (And.intro htk (And.intro hok1 htn)))
   have z1 : wr.cell? ⟨B + 1 + 1, 1, none⟩ = some vS := HS.out.box.cell 1
   have i0' : (0 : Int) ≤ (i : Int) := by omega
   have i1' : (i : Int) < (vn : Int) := by omega
   have hsz := HS.out.sz
   have hSt : wr.cell? ⟨B + 1 + 1, 1, none⟩ = some vS ∧ wr.cell? ⟨B, 1, none⟩ = some (.slice (some ⟨sb, so, none⟩) vn sc) ∧ wr.cell? ⟨sb, so + i, none⟩ = some (.slice (some ⟨tb, tof, none⟩) tn tc) := ⟨z1, x1, hcell⟩
   have HSt := Lib.hid (And.intro hSt hcell0)
   clear hcell0
   clear hin htk hok1 htn hgi hL hlL
   go_upto_region 6 with (fail)
   refine wp_region_E (fun W => W.cell? ⟨B + 1 + 1, 1, none⟩ = some vS ∧ W.cell? ⟨B, 1, none⟩ = some (.slice (some ⟨sb, so, none⟩) vn sc) ∧ W.cell? ⟨sb, so + i, none⟩ = some (.slice (some ⟨tb, tof, none⟩) tn tc)) [12] (by kernel_rfl) hSt (fun _ => ?_)
   have z1' : wr.drew.cell? ⟨B + 1 + 1, 1, none⟩ = some vS ∧ wr.drew.cell? ⟨B, 1, none⟩ = some (.slice (some ⟨sb, so, none⟩) vn sc) ∧ wr.drew.cell? ⟨sb, so + i, none⟩ = some (.slice (some ⟨tb, tof, none⟩) tn tc) := hSt
   refine takeP (i := 0) (v := ?_) rfl (by kernel_rfl) (by kernel_rfl) (by kernel_rfl) (fun _ _ _ h => h) (Or.inl ⟨by rfl, ?_⟩) ?_; rotate_left; (focus (intro wq hSw; clear hSw; go_simp; try with_reducible rfl)); (try simp only [Act.put, List.setIfInBounds_toArray, List.set_cons_zero, List.set_cons_succ])
   refine takeE (i := 1) (v := ?_) rfl (by kernel_rfl) (by kernel_rfl) (by kernel_rfl) (fun _ _ _ h => h) (by kernel_rfl) (by kernel_rfl) (Or.inl ⟨by rfl, ?_⟩) (by assumption) ?_; rotate_left; (focus (intro wq hSw; obtain ⟨hSa, hSb, hSc⟩ := hSw; go_simp; try with_reducible rfl)); (try simp only [Act.put, List.setIfInBounds_toArray, List.set_cons_zero, List.set_cons_succ])
   refine takeP (i := 2) (v := ?_) rfl (by kernel_rfl) (by kernel_rfl) (by kernel_rfl) (fun _ _ _ h => h) (Or.inl ⟨by rfl, ?_⟩) ?_; rotate_left; (focus (intro wq hSw; clear hSw; go_simp; try with_reducible rfl)); (try simp only [Act.put, List.setIfInBounds_toArray, List.set_cons_zero, List.set_cons_succ])
   refine takeP (i := 3) (v := ?_) rfl (by kernel_rfl) (by kernel_rfl) (by kernel_rfl) (fun _ _ _ h => h) (Or.inl ⟨by rfl, ?_⟩) ?_; rotate_left; (focus (intro wq hSw; clear hSw; go_simp; try with_reducible rfl)); (try simp only [Act.put, List.setIfInBounds_toArray, List.set_cons_zero, List.set_cons_succ])
   refine takeE (i := 4) (v := ?_) rfl (by kernel_rfl) (by kernel_rfl) (by kernel_rfl) (fun _ _ _ h => h) (by kernel_rfl) (by kernel_rfl) (Or.inl ⟨by rfl, ?_⟩) (by assumption) ?_; rotate_left; (focus (intro wq hSw; obtain ⟨hSa, hSb, hSc⟩ := hSw; go_simp; try with_reducible rfl)); (try simp only [Act.put, List.setIfInBounds_toArray, List.set_cons_zero, List.set_cons_succ])
   refine takeP (i := 5) (v := ?_) rfl (by kernel_rfl) (by kernel_rfl) (by kernel_rfl) (fun _ _ _ h => h) (Or.inl ⟨by rfl, ?_⟩) ?_; rotate_left; (focus (intro wq hSw; clear hSw; go_simp; try with_reducible rfl)); (try simp only [Act.put, List.setIfInBounds_toArray, List.set_cons_zero, List.set_cons_succ])
   refine takeP (i := 6) (v := ?_) rfl (by kernel_rfl) (by kernel_rfl) (by kernel_rfl) (fun _ _ _ h => h) (Or.inl ⟨by rfl, ?_⟩) ?_; rotate_left; (focus (intro wq hSw; clear hSw; go_simp; try with_reducible rfl)); (try simp only [Act.put, List.setIfInBounds_toArray, List.set_cons_zero, List.set_cons_succ])
   refine takeE (i := 7) (v := ?_) rfl (by kernel_rfl) (by kernel_rfl) (by kernel_rfl) (fun _ _ _ h => h) (by kernel_rfl) (by kernel_rfl) (Or.inl ⟨by rfl, ?_⟩) (by assumption) ?_; rotate_left; (focus (intro wq hSw; obtain ⟨hSa, hSb, hSc⟩ := hSw; go_simp; try with_reducible rfl)); (try simp only [Act.put, List.setIfInBounds_toArray, List.set_cons_zero, List.set_cons_succ])
   refine consE (i := 8) (by kernel_rfl) rfl (fun K hK => ?_)
   refine step_append_lies rfl _ _ _ rfl (B + 1 + 1 + 1) 3 i0 _ 1 8 Try.underlying22 hi0 hz0 hz1 hz2 rfl (by omega) (.slice none 0 0) 0 [] rfl ⟨rfl, .inl ⟨rfl, rfl⟩⟩ ⟨tb, tof, none⟩ tn tc (ivals L) rfl (by simp [ivals, HI.out.2.2.2]) (fun j u hu => ints_news HI.out.1 (by omega) j u hu) (ivals_one _) (by omega) (by rw [maxLen]; omega) (by omega) (by simp; omega) _ rfl ?_
   intro g1 cap1 w1 hown1 hgrow1 hat1 hlt1
   have hE1 : Ext wr w1 := ext_grown (Ext.refl wr).drew hgrow1 (fun g hg => by simp [Value.ownBlock] at hg)
   have hg1 : g1 = wr.heap.size := by
    rcases hat1 with hat1 | hat1
    ·simp [Value.ownBlock] at hat1
    ·exact hat1
   have hR1 : VRow w1 (B + 1 + 1 + 1) (.slice (some ⟨g1, 0, none⟩) tn cap1) L := by
    unfold VRow; rw [HI.out.2.2.2]; simpa using hown1
   have HR := Lib.hid (And.intro hE1 (And.intro hg1 hR1))
   clear hown1 hgrow1 hat1 hE1 hg1 hR1
   rw [Nat.zero_add]
   refine hK.out _ _ ?_ (fun _ => ?_); rotate_left; clear hK K; rotate_right; (focus (exact .inr (.inl ⟨HR.out.1.cell HSt.out.1.1, HR.out.1.cell HSt.out.1.2.1, HR.out.1.cell HSt.out.1.2.2⟩))); (try simp only [Act.put, List.setIfInBounds_toArray, List.set_cons_zero, List.set_cons_succ])
   refine consE (i := 9) (by kernel_rfl) rfl (fun K hK => ?_)
   go_simp
   refine hK.out _ _ ?_ (fun _ => ?_); rotate_left; clear hK K; rotate_right; (focus (exact .inr (.inl ⟨(HR.out.1.alloc _).cell HSt.out.1.1, (HR.out.1.alloc _).cell HSt.out.1.2.1, (HR.out.1.alloc _).cell HSt.out.1.2.2⟩))); (try simp only [Act.put, List.setIfInBounds_toArray, List.set_cons_zero, List.set_cons_succ])
   refine consE (i := 10) (by kernel_rfl) rfl (fun K hK => ?_)
   have hw1 := HR.out.1.size
   refine step_append_lies rfl _ _ _ rfl (B + 1 + 1 + 1) 22 j0 _ 1 24 Try.underlying23 hj0 hy0 hy1 hy2 rfl (by omega) _ (Ls.take i).length (gs'.map Sl.v) rfl (owns_ext (HR.out.1.alloc _) HS.out.own.sh.S) ⟨w1.heap.size, 0, none⟩ 1 1 [.slice (some ⟨g1, 0, none⟩) tn cap1] rfl rfl (World.news_of_block (cs := #[.slice (some ⟨g1, 0, none⟩) tn cap1]) (t := 22) (fr := (0, 0)) (heap_alloc_new w1 _)) (by simp [Value.oneCell']) (by omega) (by rw [maxLen]; omega) (by omega) (by simp; omega) _ rfl ?_
   intro g3 cap3 w3 hown3 hgrow3 hat3 hlt3
   obtain ⟨hEx, t1, t2, t3, hS3⟩ := (HS.out.keep (HR.out.1.alloc _)).addS (HR.out.2.2.ext ((Ext.refl w1).alloc _)) HI.out.2.2.2 (by omega) (fun x hx => by have := HI.out.2.2.1.2 x hx; exact ⟨by omega, by omega⟩) (fun e => by have := (owns_lt HS.out.own.sh.S e).2; have := HR.out.2.1; omega) (fun e => by simp [Value.ownBlock] at e) (fun k hk e => by
    obtain ⟨y, y1, _, y3, _⟩ := HS.out.own.sh.sets k hk
    rw [e] at y1
    injection y1 with y1; injection y1 with y1
    have := HR.out.2.1
    omega) hown3 hgrow3 hat3
   rw [htkl, ← HI.out.2.1] at hS3
   have HS3 := Lib.hid hS3
   have t4 := hEx.cell HSt.out.2
   rw [htkl]
   clear hown3 hgrow3 hat3 hS3 hEx
   refine hK.out _ _ ?_ (fun _ => ?_); rotate_left; clear hK K; rotate_right; (focus (exact .inr (.inl ⟨t2, t1, t4⟩))); (try simp only [Act.put, List.setIfInBounds_toArray, List.set_cons_zero, List.set_cons_succ])
   refine takeP (i := 11) (v := ?_) rfl (by kernel_rfl) (by kernel_rfl) (by kernel_rfl) (fun _ _ _ h => h) (Or.inl ⟨by rfl, ?_⟩) ?_; rotate_left; (focus (intro wq hSw; clear hSw; go_simp; try with_reducible rfl)); (try simp only [Act.put, List.setIfInBounds_toArray, List.set_cons_zero, List.set_cons_succ])
   refine consE (i := 12) (by kernel_rfl) rfl (fun K hK => ?_)
   go_simp
   refine hK.out _ _ ?_ (fun _ => ?_); rotate_left; clear hK K; rotate_right; (focus (exact .inl (by simp))); (try simp only [Act.put, List.setIfInBounds_toArray, List.set_cons_zero, List.set_cons_succ])
   refine doneE (by kernel_rfl) ?_ _
   go_wp2_with fail
   go_roundw
   case rel => exact ⟨i + 1, _, _, by omega, by go_num, HS3.out⟩
   case measure => simp [intOf]; omega
   --}}
  ·obtain rfl : i = vn := by omega
   rw [List.take_of_length_le (by have := H.out.2.2.1; omega)] at HS
   have z2 : wr.cell? ⟨B + 1 + 1, 2, none⟩ = some (.slice none 0 0) := HS.out.box.cell 2
   have y2 : wr.cell? ⟨B, 2, none⟩ = some (.slice (some ⟨vb, vo, none⟩) i vc) := HS.out.src.cell 2
   have hvals := H.out.1.vals.keep HS.out.ext.ik
   have hvl := H.out.2.2.2
   have HVL := Lib.hid (show Ints wr (some ⟨vb, vo, none⟩) i zs ∧ zs.length = i ∧ (ivals zs).length = i * 1 ∧ 0 + i ≤ maxLen ∧ (0 + i) * 8 ≤ 140737488355328 from ⟨hvals, hvl, by simp [ivals]; exact hvl, by rw [maxLen]; omega, by omega⟩)
   have hbx1 : B + 1 + 1 + 1 ≤ wr.heap.size := hbx
   have hsz := HS.out.sz
   clear hvals hvl
   go_wp2_with (at_builtin; go_loud (refine wpList_append_lies wr rfl _ _ _ rfl (B + 1 + 1 + 1) 3 i0 _ 1 8 Try.underlying22 hi0 hz0 hz1 hz2 rfl (Nat.lt_add_one 0) (.slice none 0 0) 0 [] rfl ⟨rfl, .inl ⟨rfl, rfl⟩⟩ ⟨vb, vo, none⟩ i vc (ivals zs) rfl HVL.out.2.2.1 (ints_news HVL.out.1 hs1) (ivals_one _) hs1 HVL.out.2.2.2.1 HVL.out.2.2.2.2 hbx1 _ rfl ?_))
   intro g5 cap5 w5 hown hgrow hat hlt5
   obtain ⟨t1, t2, hS5⟩ := HS.out.addVs (ys := zs) HVL.out.2.1 (g := g5) (cap := cap5) (by simpa [ivals] using hown) hgrow hat
   simp only [List.length_nil, Nat.zero_add, List.nil_append] at hS5
   have HS5 := Lib.hid hS5
   clear hown hgrow hat hS5 x1 z2 y2 HVL
   have hlL := H.out.2.2.1
   have hzL := H.out.2.2.2
   go_upto_region 8 with (fail)
   obtain ⟨sg, scap, rfl, hsg, hsgl⟩ := World.ownsRow.form HS5.out.own.sh.S (by omega)
   rw [hlL] at HS5
   refine wp_gen (fun W => SpI w W B N (.slice (some ⟨sb, so, none⟩) i sc) (.slice (some ⟨vb, vo, none⟩) i vc) (.slice (some ⟨sg, 0, none⟩) i scap) (.slice (some ⟨g5, 0, none⟩) i cap5) gs' Ls zs) HS5.out ?_
   clear HS5 HS t1 t2 hsgl hlt5
   intro W hS
   have hcl : ∀ k, (Ls.getD k []).length ≤ 1000 := fun k => by
    by_cases hk : k < Ls.length
    ·have := (H.out.2.1 k hk).1.len; omega
    ·rw [List.getD_eq_getElem?_getD, List.getElem?_eq_none (by omega)]; simp
   have hSh : ShIn W N ⟨some ⟨sg, 0, none⟩, i, scap⟩ ⟨some ⟨g5, 0, none⟩, i, cap5⟩ gs' Ls zs := by
    obtain ⟨⟨s1, s2, s3⟩, ⟨v1, v2, v3⟩, e1, e2, _, _, hh⟩ := hS.own.sh.shin (n := (N : Int)) (by omega) (by omega) (fun k hk => by have := H.out.1.vals.2.2.1 k (by simp only; omega); exact this) hcl
    simp only [Sl.v] at e1 e2
    injection e1 with p1 p2 p3
    injection e2 with p4 p5 p6
    subst p1; subst p2; subst p3; subst p4; subst p5; subst p6
    exact hh
   have hAw : Away (B + 1 + 1 + 1) ⟨some ⟨sg, 0, none⟩, i, scap⟩ ⟨some ⟨g5, 0, none⟩, i, cap5⟩ gs' i := by
    have := GSh.away (ss := ⟨some ⟨sg, 0, none⟩, i, scap⟩) (vs := ⟨some ⟨g5, 0, none⟩, i, cap5⟩) hS.own.sh
    rwa [hlL] at this
   have y0 : W.cell? ⟨B + 1 + 1, 0, none⟩ = some (.int .i64 (N : Int)) := hS.box.cell 0
   have y1 : W.cell? ⟨B + 1 + 1, 1, none⟩ = some (.slice (some ⟨sg, 0, none⟩) i scap) := hS.box.cell 1
   have y2 : W.cell? ⟨B + 1 + 1, 2, none⟩ = some (.slice (some ⟨g5, 0, none⟩) i cap5) := hS.box.cell 2
   have f0 : W.frozen? ⟨B + 1 + 1, 0, none⟩ = false := hS.box.free 0
   have f1 : W.frozen? ⟨B + 1 + 1, 1, none⟩ = false := hS.box.free 1
   have f2 : W.frozen? ⟨B + 1 + 1, 2, none⟩ = false := hS.box.free 2
   have hbW := hS.box.lt
   have hcap : i ≤ cap5 := by
    obtain ⟨_, ⟨hv, _⟩ | ⟨g', cap', cur, hv, _, _, hle, _⟩⟩ := hS.own.sh.V
    ·simp at hv
    ·simp at hv
     obtain ⟨rfl, hln, rfl⟩ := hv
     omega
   have hSb : ∃ cur, Blk W sg cur 22 := by
    obtain ⟨_, ⟨hv, _⟩ | ⟨g', cap', cur, hv, _, hh, _⟩⟩ := hS.own.sh.S
    ·simp at hv
    ·simp at hv
     obtain ⟨rfl, _⟩ := hv
     exact ⟨cur, hh⟩
   have hVb : ∃ cur, Blk W g5 cur 3 := by
    obtain ⟨_, ⟨hv, _⟩ | ⟨g', cap', cur, hv, _, hh, _⟩⟩ := hS.own.sh.V
    ·simp at hv
    ·simp at hv
     obtain ⟨rfl, _⟩ := hv
     exact ⟨cur, hh⟩
   have hne : sg ≠ g5 := fun e => hS.own.sh.ne sg rfl (by rw [e]; rfl)
   have hg5 := (owns_lt hS.own.sh.V (g := g5) rfl).1
   have hgk : ∀ k, k < i → ∀ b o r, (gs'.getD k sl0).a = some ⟨b, o, r⟩ → b ≠ sg ∧ b ≠ g5 := fun k hk b o r e => by
    obtain ⟨y, y1, _, _, _, y5, y6⟩ := hS.own.sh.sets k (by omega)
    rw [e] at y1
    injection y1 with y1; injection y1 with y1
    subst y1
    exact ⟨fun e => y5 (by rw [e]; rfl), fun e => y6 (by rw [e]; rfl)⟩
   have HS := Lib.hid (And.intro hS (And.intro hSh (And.intro hAw hcl)))
   have HNE := Lib.hid (And.intro hSb (And.intro hVb (And.intro hne hgk)))
   clear hS hSh hAw hcl hlL hzL hSb hVb hne hgk
   have hi0' : ((i : Int) == 0) = false := by simp; omega
   go_upto_region 10 with (fail)
   go_wp2_with fail
   refine (around_c _ _ _ (by omega) (by omega) H1.out).mono ?_
   rintro e w4 ⟨rfl, rfl⟩
   have hk := aroundF_bd a1 i (by omega)
   obtain ⟨kz, hkz⟩ : ∃ kz, aroundF a1 i = kz := ⟨_, rfl⟩
   rw [hkz] at hk ⊢
   clear hkz
   obtain ⟨KI, rfl⟩ : ∃ K : Nat, kz = (K : Int) := ⟨kz.toNat, by omega⟩
   go_upto_region 11 with (fail)
   go_wp2_with fail
   refine (around_c _ _ _ (by omega) (by omega) H2.out).mono ?_
   rintro e w4 ⟨rfl, rfl⟩
   have hh := aroundF_bd a2 6 (by omega)
   obtain ⟨hz, hhz⟩ : ∃ hz, aroundF a2 6 = hz := ⟨_, rfl⟩
   rw [hhz] at hh ⊢
   clear hhz
   have hKi : KI < i := by omega
   have hk0 : (0 : Int) ≤ (KI : Int) := by omega
   have hk1 : (KI : Int) < (i : Int) := by omega
   clear hk hlt hi
   have hcase : hz = 0 ∨ hz = 1 ∨ hz = 2 ∨ hz = 3 ∨ hz = 4 ∨ hz = 5 := by omega
   clear hh
   rcases hcase with rfl | rfl | rfl | rfl | rfl | rfl
   ·--{{
    go_upto_region 18 with (fail)
    go_wp2_with fail
    refine (around_c _ _ _ (by omega) (by omega) H3.out).mono ?_
    rintro e w4 ⟨rfl, rfl⟩
    have hq := aroundF_bd a3 5 (by omega)
    obtain ⟨qz, hqz⟩ : ∃ kz, aroundF a3 5 = kz := ⟨_, rfl⟩
    rw [hqz] at hq ⊢
    clear hqz
    obtain ⟨Q, rfl⟩ : ∃ K : Nat, qz = (K : Int) := ⟨qz.toNat, by omega⟩
    have z9 : (W.alloc (.cells #[.int .i64 a3, .int .i64 (-1), .int .i64 0, .int .i64 32, .int .i64 33] 3)).cell? ⟨W.heap.size, Q, none⟩ = some (.int .i64 ([a3, -1, 0, 32, 33].getD Q 0)) := by
     have hc : Q = 0 ∨ Q = 1 ∨ Q = 2 ∨ Q = 3 ∨ Q = 4 := by omega
     have hb9 := Blk.at (w := W) #[.int .i64 a3, .int .i64 (-1), .int .i64 0, .int .i64 32, .int .i64 33] 3 rfl
     rcases hc with rfl | rfl | rfl | rfl | rfl
     ·exact hb9.cell 0
     ·exact hb9.cell 1
     ·exact hb9.cell 2
     ·exact hb9.cell 3
     ·exact hb9.cell 4
    have hx64 : Int64 ([a3, -1, 0, 32, 33].getD Q 0) := by
     have hc : Q = 0 ∨ Q = 1 ∨ Q = 2 ∨ Q = 3 ∨ Q = 4 := by omega
     have h3 := H3.out
     rcases hc with rfl | rfl | rfl | rfl | rfl
     ·exact h3
     ·exact ⟨by simp, by simp⟩
     ·exact ⟨by simp, by simp⟩
     ·exact ⟨by simp, by simp⟩
     ·exact ⟨by simp, by simp⟩
    obtain ⟨x5, hx5⟩ : ∃ x, [a3, -1, 0, 32, 33].getD Q 0 = x := ⟨_, rfl⟩
    rw [hx5] at z9 hx64
    have HX := Lib.hid hx64
    clear hx5 hx64
    go_upto_region 27 with (fail)
    refine wp_gen (fun W => (Ext w W ∧ Blk W (B + 1) #[.int .i64 0, .slice none 0 0, .slice none 0 0] 25 ∧ Blk W (B + 1 + 1) #[.int .i64 x5, Sl.v ⟨some ⟨sg, 0, none⟩, i, scap⟩, Sl.v ⟨some ⟨g5, 0, none⟩, i, cap5⟩] 25 ∧ ShIn W x5 ⟨some ⟨sg, 0, none⟩, i, scap⟩ ⟨some ⟨g5, 0, none⟩, i, cap5⟩ gs' Ls zs ∧ Away (B + 1 + 1 + 1) ⟨some ⟨sg, 0, none⟩, i, scap⟩ ⟨some ⟨g5, 0, none⟩, i, cap5⟩ gs' i)) ⟨(HS.out.1.ext.setCell (by have := HS.out.1.sz; simp; omega) _).alloc _, (HS.out.1.res.setOther (by simp) _).alloc _, (HS.out.1.box.set 0 _).alloc _, ((show ShIn W x5 _ _ gs' Ls zs from ⟨HS.out.2.1.grps, HS.out.2.1.vals, HS.out.2.1.len⟩).put HS.out.2.2.1 (by omega)).ext ((Ext.refl _).alloc _), HS.out.2.2.1⟩ ?_
    clear z9 y0 y1 y2 f0 f1 f2
    (intro W9 h9; have HF := Lib.hid h9; have y0 : W9.cell? ⟨B + 1 + 1, 0, none⟩ = some (.int .i64 x5) := h9.2.2.1.cell 0; have y1 : W9.cell? ⟨B + 1 + 1, 1, none⟩ = some (Sl.v ⟨some ⟨sg, 0, none⟩, i, scap⟩) := h9.2.2.1.cell 1; have y2 : W9.cell? ⟨B + 1 + 1, 2, none⟩ = some (Sl.v ⟨some ⟨g5, 0, none⟩, i, cap5⟩) := h9.2.2.1.cell 2; have r0 : W9.cell? ⟨B + 1, 0, none⟩ = some (.int .i64 0) := h9.2.1.cell 0; have r1 : W9.cell? ⟨B + 1, 1, none⟩ = some (.slice none 0 0) := h9.2.1.cell 1; have r2 : W9.cell? ⟨B + 1, 2, none⟩ = some (.slice none 0 0) := h9.2.1.cell 2; have g0 : W9.frozen? ⟨B + 1, 0, none⟩ = false := h9.2.1.free 0; have g1 : W9.frozen? ⟨B + 1, 1, none⟩ = false := h9.2.1.free 1; have g2 : W9.frozen? ⟨B + 1, 2, none⟩ = false := h9.2.1.free 2; clear h9; simp only [Sl.v] at y1 y2; go_wp2_with fail; have hbl := ((HF.out.2.1.set 0 (.int .i64 x5)).set 1 (Sl.v ⟨some ⟨sg, 0, none⟩, i, scap⟩)).set 2 (Sl.v ⟨some ⟨g5, 0, none⟩, i, cap5⟩); have q0 := hbl.cell 0; have q1 := hbl.cell 1; have q2 := hbl.cell 2; simp [Sl.v] at q0 q1 q2; refine bodyPost_ret (v := .agg #[.int .i64 x5, Sl.v ⟨some ⟨sg, 0, none⟩, i, scap⟩, Sl.v ⟨some ⟨g5, 0, none⟩, i, cap5⟩]) (by simp [results, Try.results11, go_sem, Sl.v, q0, q1, q2]) rfl ?_; exact SpoPost.of ⟨((HF.out.1.setCell (by simp; omega) _).setCell (by simp; omega) _).setCell (by simp; omega) _, x5, ⟨some ⟨sg, 0, none⟩, i, scap⟩, ⟨some ⟨g5, 0, none⟩, i, cap5⟩, gs', Ls, zs, rfl, ((HF.out.2.2.2.1.put HF.out.2.2.2.2 (by omega)).put HF.out.2.2.2.2 (by omega)).put HF.out.2.2.2.2 (by omega), HX.out, (.inr rfl), by simp only; omega⟩)
    --}}
   ·have hq := aroundF_bd a3 4 (by omega)
    obtain ⟨Q, hQ⟩ : ∃ K : Nat, aroundF a3 4 = (K : Int) := ⟨(aroundF a3 4).toNat, by omega⟩
    rw [hQ] at hq
    have hb9 : ∀ W' : World, (W'.alloc (.cells #[.int .i64 a3, .int .i64 (-1), .int .i64 (N : Int), .int .i64 ((N : Int) - 1)] 3)).cell? ⟨W'.heap.size, Q, none⟩ = some (.int .i64 ([a3, -1, (N : Int), (N : Int) - 1].getD Q 0)) := fun W' => by
     have hc : Q = 0 ∨ Q = 1 ∨ Q = 2 ∨ Q = 3 := by omega
     have hb9 := Blk.at (w := W') #[.int .i64 a3, .int .i64 (-1), .int .i64 (N : Int), .int .i64 ((N : Int) - 1)] 3 rfl
     rcases hc with rfl | rfl | rfl | rfl
     ·exact hb9.cell 0
     ·exact hb9.cell 1
     ·exact hb9.cell 2
     ·exact hb9.cell 3
    have hx64 : Int64 ([a3, -1, (N : Int), (N : Int) - 1].getD Q 0) := by
     have hc : Q = 0 ∨ Q = 1 ∨ Q = 2 ∨ Q = 3 := by omega
     have h3 := H3.out
     rcases hc with rfl | rfl | rfl | rfl
     ·exact h3
     ·exact ⟨by simp, by simp⟩
     ·exact ⟨by simp <;> omega, by simp <;> omega⟩
     ·exact ⟨by simp <;> omega, by simp <;> omega⟩
    obtain ⟨x5, hx5⟩ : ∃ x, [a3, -1, (N : Int), (N : Int) - 1].getD Q 0 = x := ⟨_, rfl⟩
    rw [hx5] at hx64
    have HB9 := Lib.hid (fun W' : World => (by rw [hb9 W', hx5] : (W'.alloc (.cells #[.int .i64 a3, .int .i64 (-1), .int .i64 (N : Int), .int .i64 ((N : Int) - 1)] 3)).cell? ⟨W'.heap.size, Q, none⟩ = some (.int .i64 x5)))
    have HX := Lib.hid hx64
    have HQ := Lib.hid hQ
    clear hx5 hx64 hb9 hQ
    have hlL := H.out.2.2.1
    obtain ⟨_, _, e, hsglt, hcell⟩ := HS.out.2.1.grps.at KI hKi
    injection e with e; injection e with e1 e2
    subst e1; subst e2
    simp only [Nat.zero_add] at hcell
    obtain ⟨ob, hob1, hob2, hob3, _, hob5, hob6⟩ := HS.out.1.own.sh.sets KI (by omega)
    have hrow := HS.out.1.own.rows KI (by omega)
    have hint := HS.out.2.1.grps.2.2.2.2 KI hKi
    have hoth : ∀ k, k < i → k ≠ KI → ∀ b o r, (gs'.getD k sl0).a = some ⟨b, o, r⟩ → b ≠ ob := fun k hk hne b o r e eb => by
     obtain ⟨y, y1, _⟩ := HS.out.1.own.sh.sets k (by omega)
     have hd : (gs'.getD k sl0).a ≠ (gs'.getD KI sl0).a := by
      rcases Nat.lt_or_ge k KI with h1 | h1
      ·exact HS.out.1.own.dis k KI h1 (by omega)
      ·exact fun e => HS.out.1.own.dis KI k (by omega) (by omega) e.symm
     rw [y1, hob1] at hd
     rw [e] at y1
     injection y1 with y1; injection y1 with y1
     exact hd (by rw [← y1, eb])
    obtain ⟨⟨ka, kn, kc⟩, hgK⟩ : ∃ s, gs'.getD KI sl0 = s := ⟨_, rfl⟩
    obtain ⟨L, hL⟩ : ∃ L, Ls.getD KI [] = L := ⟨_, rfl⟩
    have hokL := (H.out.2.1 KI (by omega)).1
    rw [hgK] at hcell hob1 hrow hint
    rw [hL] at hrow hint hokL
    simp only at hob1 hint
    subst hob1
    simp only [Sl.v] at hcell hrow
    have hkn := hint.1
    have hLn := hokL.len
    have fz : W.frozen? ⟨sg, KI, none⟩ = false := by obtain ⟨cur, hb⟩ := HNE.out.1; exact hb.free KI
    have HO := Lib.hid (And.intro hrow (And.intro hoth (And.intro hint (And.intro hokL hkn))))
    have hsgo : sg ≠ ob := fun e => hob5 (by rw [e]; rfl)
    have hg5o : g5 ≠ ob := fun e => hob6 (by rw [e]; rfl)
    have hkn9 : kn ≤ 9 := by omega
    clear hrow hint hoth hokL hL hgK hob5 hob6 hlL hLn
    have hSt : W.cell? ⟨B + 1 + 1, 1, none⟩ = some (.slice (some ⟨sg, 0, none⟩) i scap) ∧ W.cell? ⟨B + 1 + 1, 0, none⟩ = some (.int .i64 (N : Int)) ∧ W.cell? ⟨sg, KI, none⟩ = some (.slice (some ⟨ob, 0, none⟩) kn kc) := ⟨y1, y0, hcell⟩
    have HSt := Lib.hid hSt
    have z9 := HB9.out W
    have hwN : IntKind.i64.wrap ((N : Int) - 1) = (N : Int) - 1 := IntWalk.i64_in _ (by omega)
    have HwN := Lib.hid hwN
    clear hwN hkn
    go_upto_region 20 with (fail)
    refine wp_region_E (fun W => W.cell? ⟨B + 1 + 1, 1, none⟩ = some (.slice (some ⟨sg, 0, none⟩) i scap) ∧ W.cell? ⟨B + 1 + 1, 0, none⟩ = some (.int .i64 (N : Int)) ∧ W.cell? ⟨sg, KI, none⟩ = some (.slice (some ⟨ob, 0, none⟩) kn kc)) [22] (by kernel_rfl) hSt (fun _ => ?_)
    have hSt' : W.drew.cell? ⟨B + 1 + 1, 1, none⟩ = some (.slice (some ⟨sg, 0, none⟩) i scap) ∧ W.drew.cell? ⟨B + 1 + 1, 0, none⟩ = some (.int .i64 (N : Int)) ∧ W.drew.cell? ⟨sg, KI, none⟩ = some (.slice (some ⟨ob, 0, none⟩) kn kc) := hSt
    refine takeP (i := 0) (v := ?_) rfl (by kernel_rfl) (by kernel_rfl) (by kernel_rfl) (fun _ _ _ h => h) (Or.inl ⟨by rfl, ?_⟩) ?_; rotate_left; (focus (intro wq hSw; clear hSw; go_simp; try with_reducible rfl)); (try simp only [Act.put, List.setIfInBounds_toArray, List.set_cons_zero, List.set_cons_succ])
    refine takeE (i := 1) (v := ?_) rfl (by kernel_rfl) (by kernel_rfl) (by kernel_rfl) (fun _ _ _ h => h) (by kernel_rfl) (by kernel_rfl) (Or.inl ⟨by rfl, ?_⟩) (by assumption) ?_; rotate_left; (focus (intro wq hSw; obtain ⟨hSa, hSb, hSc⟩ := hSw; go_simp; try with_reducible rfl)); (try simp only [Act.put, List.setIfInBounds_toArray, List.set_cons_zero, List.set_cons_succ])
    refine takeP (i := 2) (v := ?_) rfl (by kernel_rfl) (by kernel_rfl) (by kernel_rfl) (fun _ _ _ h => h) (Or.inl ⟨by rfl, ?_⟩) ?_; rotate_left; (focus (intro wq hSw; clear hSw; go_simp; try with_reducible rfl)); (try simp only [Act.put, List.setIfInBounds_toArray, List.set_cons_zero, List.set_cons_succ])
    refine takeP (i := 3) (v := ?_) rfl (by kernel_rfl) (by kernel_rfl) (by kernel_rfl) (fun _ _ _ h => h) (Or.inl ⟨by rfl, ?_⟩) ?_; rotate_left; (focus (intro wq hSw; clear hSw; go_simp; try with_reducible rfl)); (try simp only [Act.put, List.setIfInBounds_toArray, List.set_cons_zero, List.set_cons_succ])
    refine takeE (i := 4) (v := ?_) rfl (by kernel_rfl) (by kernel_rfl) (by kernel_rfl) (fun _ _ _ h => h) (by kernel_rfl) (by kernel_rfl) (Or.inl ⟨by rfl, ?_⟩) (by assumption) ?_; rotate_left; (focus (intro wq hSw; obtain ⟨hSa, hSb, hSc⟩ := hSw; go_simp; try with_reducible rfl)); (try simp only [Act.put, List.setIfInBounds_toArray, List.set_cons_zero, List.set_cons_succ])
    refine takeP (i := 5) (v := ?_) rfl (by kernel_rfl) (by kernel_rfl) (by kernel_rfl) (fun _ _ _ h => h) (Or.inl ⟨by rfl, ?_⟩) ?_; rotate_left; (focus (intro wq hSw; clear hSw; go_simp; try with_reducible rfl)); (try simp only [Act.put, List.setIfInBounds_toArray, List.set_cons_zero, List.set_cons_succ])
    refine takeP (i := 6) (v := ?_) rfl (by kernel_rfl) (by kernel_rfl) (by kernel_rfl) (fun _ _ _ h => h) (Or.inl ⟨by rfl, ?_⟩) ?_; rotate_left; (focus (intro wq hSw; clear hSw; go_simp; try with_reducible rfl)); (try simp only [Act.put, List.setIfInBounds_toArray, List.set_cons_zero, List.set_cons_succ])
    refine takeE (i := 7) (v := ?_) rfl (by kernel_rfl) (by kernel_rfl) (by kernel_rfl) (fun _ _ _ h => h) (by kernel_rfl) (by kernel_rfl) (Or.inl ⟨by rfl, ?_⟩) (by assumption) ?_; rotate_left; (focus (intro wq hSw; obtain ⟨hSa, hSb, hSc⟩ := hSw; go_simp; try with_reducible rfl)); (try simp only [Act.put, List.setIfInBounds_toArray, List.set_cons_zero, List.set_cons_succ])
    refine takeP (i := 8) (v := ?_) rfl (by kernel_rfl) (by kernel_rfl) (by kernel_rfl) (fun _ _ _ h => h) (Or.inl ⟨by rfl, ?_⟩) ?_; rotate_left; (focus (intro wq hSw; clear hSw; go_simp; try with_reducible rfl)); (try simp only [Act.put, List.setIfInBounds_toArray, List.set_cons_zero, List.set_cons_succ])
    refine takeP (i := 9) (v := ?_) rfl (by kernel_rfl) (by kernel_rfl) (by kernel_rfl) (fun _ _ _ h => h) (Or.inl ⟨by rfl, ?_⟩) ?_; rotate_left; (focus (intro wq hSw; clear hSw; go_simp; try with_reducible rfl)); (try simp only [Act.put, List.setIfInBounds_toArray, List.set_cons_zero, List.set_cons_succ])
    refine takeE (i := 10) (v := ?_) rfl (by kernel_rfl) (by kernel_rfl) (by kernel_rfl) (fun _ _ _ h => h) (by kernel_rfl) (by kernel_rfl) (Or.inl ⟨by rfl, ?_⟩) (by assumption) ?_; rotate_left; (focus (intro wq hSw; obtain ⟨hSa, hSb, hSc⟩ := hSw; go_simp; try with_reducible rfl)); (try simp only [Act.put, List.setIfInBounds_toArray, List.set_cons_zero, List.set_cons_succ])
    refine takeP (i := 11) (v := ?_) rfl (by kernel_rfl) (by kernel_rfl) (by kernel_rfl) (fun _ _ _ h => h) (Or.inl ⟨by rfl, ?_⟩) ?_; rotate_left; (focus (intro wq hSw; clear hSw; go_simp; try with_reducible rfl)); (try simp only [Act.put, List.setIfInBounds_toArray, List.set_cons_zero, List.set_cons_succ])
    refine takeE (i := 12) (v := ?_) rfl (by kernel_rfl) (by kernel_rfl) (by kernel_rfl) (fun _ _ _ h => h) (by kernel_rfl) (by kernel_rfl) (Or.inl ⟨by rfl, ?_⟩) (by assumption) ?_; rotate_left; (focus (intro wq hSw; obtain ⟨hSa, hSb, hSc⟩ := hSw; go_simp; try with_reducible rfl)); (try simp only [Act.put, List.setIfInBounds_toArray, List.set_cons_zero, List.set_cons_succ])
    refine takeP (i := 13) (v := ?_) rfl (by kernel_rfl) (by kernel_rfl) (by kernel_rfl) (fun _ _ _ h => h) (Or.inl ⟨by rfl, ?_⟩) ?_; rotate_left; (focus (intro wq hSw; clear hSw; go_simp; try with_reducible rfl)); (try simp only [Act.put, List.setIfInBounds_toArray, List.set_cons_zero, List.set_cons_succ])
    refine takeP (i := 15) (v := ?_) rfl (by kernel_rfl) (by kernel_rfl) (by kernel_rfl) (fun _ _ _ h => h) (Or.inl ⟨by rfl, ?_⟩) ?_; rotate_left; (focus (intro wq hSw; clear hSw; go_simp; try with_reducible rfl)); (try simp only [Act.put, List.setIfInBounds_toArray, List.set_cons_zero, List.set_cons_succ])
    simp only [HwN.out]
    have HT := Lib.hid (show ∀ (g7 cap7 : Nat) (w7 : World), w7.ownsRow (B + 1 + 1 + 1) 3 1 (.slice (some ⟨g7, 0, none⟩) (kn + 1) cap7) (kn + 1) (ivals L ++ ivals [x5]) → ((W.drew.alloc (.cells #[.int .i64 a3, .int .i64 (-1), .int .i64 (N : Int), .int .i64 ((N : Int) - 1)] 3)).alloc (.cells #[.int .i64 x5] 3)).grownBy w7 (some ob) → (some ob = some g7 ∨ g7 = W.heap.size + 1 + 1) →
      (w7.cell? ⟨B + 1 + 1, 1, none⟩ = some (.slice (some ⟨sg, 0, none⟩) i scap) ∧ w7.cell? ⟨B + 1 + 1, 0, none⟩ = some (.int .i64 (N : Int)) ∧ w7.cell? ⟨sg, KI, none⟩ = some (.slice (some ⟨ob, 0, none⟩) kn kc)) ∧ w7.frozen? ⟨sg, KI, none⟩ = false ∧ (Ext w (w7.setCell ⟨sg, KI, none⟩ (.slice (some ⟨g7, 0, none⟩) (kn + 1) cap7)) ∧ Blk (w7.setCell ⟨sg, KI, none⟩ (.slice (some ⟨g7, 0, none⟩) (kn + 1) cap7)) (B + 1) #[.int .i64 0, .slice none 0 0, .slice none 0 0] 25 ∧ Blk (w7.setCell ⟨sg, KI, none⟩ (.slice (some ⟨g7, 0, none⟩) (kn + 1) cap7)) (B + 1 + 1) #[.int .i64 (N : Int), Sl.v ⟨some ⟨sg, 0, none⟩, i, scap⟩, Sl.v ⟨some ⟨g5, 0, none⟩, i, cap5⟩] 25 ∧ ShIn (w7.setCell ⟨sg, KI, none⟩ (.slice (some ⟨g7, 0, none⟩) (kn + 1) cap7)) (N : Int) ⟨some ⟨sg, 0, none⟩, i, scap⟩ ⟨some ⟨g5, 0, none⟩, i, cap5⟩ (gs'.set KI ⟨some ⟨g7, 0, none⟩, kn + 1, cap7⟩) (Ls.set KI (L ++ [x5])) zs ∧ Away (B + 1 + 1 + 1) ⟨some ⟨sg, 0, none⟩, i, scap⟩ ⟨some ⟨g5, 0, none⟩, i, cap5⟩ (gs'.set KI ⟨some ⟨g7, 0, none⟩, kn + 1, cap7⟩) i) from fun g7 cap7 w7 hown hgrow hat => by
     have hEX : Ext W ((W.drew.alloc (.cells #[.int .i64 a3, .int .i64 (-1), .int .i64 (N : Int), .int .i64 ((N : Int) - 1)] 3)).alloc (.cells #[.int .i64 x5] 3)) := ((Ext.refl W).drew.alloc _).alloc _
     have hsX := hEX.size
     have far : ∀ b o v, b ≠ ob → b < W.heap.size → W.cell? ⟨b, o, none⟩ = some v → w7.cell? ⟨b, o, none⟩ = some v := fun b o v hb hlt hc => by
      rw [hgrow.cell_far ⟨b, o, none⟩ (show b < _ by omega) (fun e => hb (by simpa using e))]
      exact hEX.cell hc
     have hsw := HS.out.1.sz
     have hE7 : Ext w w7 := ext_grown (HS.out.1.ext.trans hEX) hgrow (fun x hx => by injection hx with hx; omega)
     have hg7 := owns_lt hown (g := g7) rfl
     have hsg7 : g7 ≠ sg := fun e => by
      rcases hat with hat | hat
      ·injection hat with hat; exact hsgo (by rw [← e, hat])
      ·omega
     have hI7 : Ints w7 (some ⟨g7, 0, none⟩) (kn + 1) (L ++ [x5]) := by
      have hv := VRow.app2 HO.out.2.2.2.2 rfl hown
      obtain ⟨a, c, e, hI⟩ := hv.ints (by simp; have := HO.out.2.2.2.2; omega) (fun y hy => by
       rw [getD_get hy]
       have hm := List.getElem_mem hy
       rcases List.mem_append.1 hm with hm | hm
       ·have := HO.out.2.2.2.1.2 _ hm; exact ⟨by omega, by omega⟩
       ·rw [List.mem_singleton] at hm; rw [hm]; exact HX.out)
      injection e with e1 e2 e3
      rw [← e1] at hI
      rwa [show (L ++ [x5]).length = kn + 1 by simp; exact HO.out.2.2.2.2] at hI
     obtain ⟨cur, hcur⟩ := HNE.out.1
     have hb7 := blk_grown2 (hcur.ext hEX) hgrow (fun e => by injection e with e; exact hsgo e.symm)
     refine ⟨⟨far _ _ _ (by omega) (by omega) HSt.out.1, far _ _ _ (by omega) (by omega) HSt.out.2.1, far _ _ _ hsgo hsglt HSt.out.2.2⟩, hb7.free KI, hE7.setCell (by simp; omega) _, (blk_grown2 (HS.out.1.res.ext hEX) hgrow (fun e => by injection e with e; omega)).setOther (by simp; omega) _, (blk_grown2 (HS.out.1.box.ext hEX) hgrow (fun e => by injection e with e; omega)).setOther (by simp; omega) _, ?_, HS.out.2.2.1.s, HS.out.2.2.1.v, fun k hk b o r e => ?_⟩
     ·have h9 := ShIn.setS2 (W := w7) (n := (N : Int)) (ss := ⟨some ⟨sg, 0, none⟩, i, scap⟩) (vs := ⟨some ⟨g5, 0, none⟩, i, cap5⟩) (gs := gs') (Ls := Ls) (zs := zs) (s := ⟨some ⟨g7, 0, none⟩, kn + 1, cap7⟩) (l := L ++ [x5]) (k := KI) HS.out.2.1.grps.1 HS.out.2.1.grps.2.1 HS.out.2.1.grps.2.2.1 rfl hb7.lt (fun k hk => by
       obtain ⟨_, _, e, _, hc⟩ := HS.out.2.1.grps.at k hk
       injection e with e; injection e with e1 e2
       subst e1; subst e2
       exact far _ _ _ hsgo hsglt hc) (fun k hk hne => ints_far ((HS.out.2.1.grps.2.2.2.2 k hk).keep hEX.ik) hgrow (fun b o r e => HO.out.2.1 k hk hne b o r e)) (ints_far (HS.out.2.1.vals.keep hEX.ik) hgrow (fun b o r e => by injection e with e; injection e with e; omega)) HS.out.2.1.len hKi hI7 (by simp; have := HO.out.2.2.2.2; omega) (fun b o r e => by injection e with e; injection e with e; have := HNE.out.2.2.1; omega) (fun k hk b o r e => (HNE.out.2.2.2 k hk b o r e).1) (fun b o r e => by injection e with e; injection e with e; omega)
      simpa only [Nat.zero_add] using h9
     ·by_cases ek : KI = k
      ·subst ek
       rw [show (gs'.set KI (⟨some ⟨g7, 0, none⟩, kn + 1, cap7⟩ : Sl)).getD KI sl0 = ⟨some ⟨g7, 0, none⟩, kn + 1, cap7⟩ by have := HS.out.2.1.grps.1; simp only at this; simp [List.getD_eq_getElem?_getD, this, hKi]] at e
       injection e with e; injection e with e; omega
      ·rw [show (gs'.set KI (⟨some ⟨g7, 0, none⟩, kn + 1, cap7⟩ : Sl)).getD k sl0 = gs'.getD k sl0 by simp [List.getD_eq_getElem?_getD, List.getElem?_set_ne ek]] at e
       exact HS.out.2.2.1.g k hk b o r e)
    have HNI := Lib.hid (fun W' : World => ints_news (ints_one W' x5 HX.out) (by omega))
    have hEA : Ext W (W.drew.alloc (.cells #[.int .i64 a3, .int .i64 (-1), .int .i64 (N : Int), .int .i64 ((N : Int) - 1)] 3)) := (Ext.refl W).drew.alloc _
    have HEA := Lib.hid hEA
    clear hEA
    refine cons2E (i := 14) (j := 16) (by kernel_rfl) rfl rfl (fun K hK => ?_) (fun K hK => ?_)
    ·go_simp
     refine hK.out _ _ ?_ (fun _ => ?_); rotate_left; clear hK K; rotate_right; (focus (exact .inr (.inl ⟨HEA.out.cell HSt.out.1, HEA.out.cell HSt.out.2.1, HEA.out.cell HSt.out.2.2⟩))); (try simp only [Act.put, List.setIfInBounds_toArray, List.set_cons_zero, List.set_cons_succ])
     refine consE (i := 16) (by kernel_rfl) rfl (fun K hK => ?_)
     go_simp
     go_at_call 16
     refine (around_c _ _ _ (by omega) (by omega) H3.out).mono ?_
     rintro e w9 ⟨rfl, rfl⟩
     go_wp2_with fail
     rw [HQ.out]
     refine hK.out _ _ ?_ (fun _ => ?_); rotate_left; clear hK K; rotate_right; (focus (exact .inr (.inr rfl))); (try simp only [Act.put, List.setIfInBounds_toArray, List.set_cons_zero, List.set_cons_succ])
     ((refine takeP (i := 17) (v := ?_) rfl (by kernel_rfl) (by kernel_rfl) (by kernel_rfl) (fun _ _ _ h => h) (Or.inl ⟨by rfl, ?_⟩) ?_; rotate_left; (focus (intro wq hSw; clear hSw; go_simp; try with_reducible rfl)); (try simp only [Act.put, List.setIfInBounds_toArray, List.set_cons_zero, List.set_cons_succ])); refine consE (i := 18) (by kernel_rfl) rfl (fun K hK => ?_); go_simp; (refine hK.out _ _ ?_ (fun _ => ?_); rotate_left; clear hK K; rotate_right; (focus (exact .inr (.inr rfl))); (try simp only [Act.put, List.setIfInBounds_toArray, List.set_cons_zero, List.set_cons_succ])); refine consE (i := 19) (by kernel_rfl) rfl (fun K hK => ?_); go_simp; (refine hK.out _ _ ?_ (fun _ => ?_); rotate_left; clear hK K; rotate_right; (focus (exact .inr (.inl ⟨(HEA.out.alloc _).cell HSt.out.1, (HEA.out.alloc _).cell HSt.out.2.1, (HEA.out.alloc _).cell HSt.out.2.2⟩))); (try simp only [Act.put, List.setIfInBounds_toArray, List.set_cons_zero, List.set_cons_succ])); refine consE (i := 20) (by kernel_rfl) rfl (fun K hK => ?_); refine step_append_lies rfl _ _ _ rfl (B + 1 + 1 + 1) 3 i0 _ 1 8 Try.underlying22 hi0 hz0 hz1 hz2 rfl (by omega) (.slice (some ⟨ob, 0, none⟩) kn kc) kn (ivals L) rfl (by have h9 := owns_ext (HEA.out.alloc (.cells #[.int .i64 x5] 3)) HO.out.1; rw [HO.out.2.2.2.2] at h9; exact h9) ⟨W.heap.size + 1, 0, none⟩ 1 1 (ivals [x5]) rfl rfl (fun j u hu => by have h9 := HNI.out (W.drew.alloc (.cells #[.int .i64 a3, .int .i64 (-1), .int .i64 (N : Int), .int .i64 ((N : Int) - 1)] 3)) j u hu; rw [World.size_alloc] at h9; exact h9) (ivals_one _) (by omega) (by rw [maxLen]; omega) (by omega) (by simp; omega) _ rfl ?_; intro g7 cap7 w7 hown hgrow hat hlt7; obtain ⟨t1, f7, hEnd⟩ := HT.out g7 cap7 w7 hown hgrow (hat.imp (fun e => e) (fun e => e.trans (by show (World.alloc _ _).heap.size = _; rw [World.size_alloc, World.size_alloc]))); obtain ⟨t1, t2, t3⟩ := t1; have HEN := Lib.hid hEnd; clear hEnd hown hgrow hat; (refine hK.out _ _ ?_ (fun _ => ?_); rotate_left; clear hK K; rotate_right; (focus (exact .inr (.inl ⟨t1, t2, t3⟩))); (try simp only [Act.put, List.setIfInBounds_toArray, List.set_cons_zero, List.set_cons_succ])); (refine takeP (i := 21) (v := ?_) rfl (by kernel_rfl) (by kernel_rfl) (by kernel_rfl) (fun _ _ _ h => h) (Or.inl ⟨by rfl, ?_⟩) ?_; rotate_left; (focus (intro wq hSw; clear hSw; go_simp; try with_reducible rfl)); (try simp only [Act.put, List.setIfInBounds_toArray, List.set_cons_zero, List.set_cons_succ])); refine consE (i := 22) (by kernel_rfl) rfl (fun K hK => ?_); go_simp; (refine hK.out _ _ ?_ (fun _ => ?_); rotate_left; clear hK K; rotate_right; (focus (exact .inl (by simp))); (try simp only [Act.put, List.setIfInBounds_toArray, List.set_cons_zero, List.set_cons_succ])); refine doneE (by kernel_rfl) ?_ _; go_upto_region 27 with (fail); refine wp_gen (fun W => (Ext w W ∧ Blk W (B + 1) #[.int .i64 0, .slice none 0 0, .slice none 0 0] 25 ∧ Blk W (B + 1 + 1) #[.int .i64 (N : Int), Sl.v ⟨some ⟨sg, 0, none⟩, i, scap⟩, Sl.v ⟨some ⟨g5, 0, none⟩, i, cap5⟩] 25 ∧ ShIn W (N : Int) ⟨some ⟨sg, 0, none⟩, i, scap⟩ ⟨some ⟨g5, 0, none⟩, i, cap5⟩ (gs'.set KI ⟨some ⟨g7, 0, none⟩, kn + 1, cap7⟩) (Ls.set KI (L ++ [x5])) zs ∧ Away (B + 1 + 1 + 1) ⟨some ⟨sg, 0, none⟩, i, scap⟩ ⟨some ⟨g5, 0, none⟩, i, cap5⟩ (gs'.set KI ⟨some ⟨g7, 0, none⟩, kn + 1, cap7⟩) i)) HEN.out ?_; clear HEN t1 t2 t3 f7 y0 y1 y2 f0 f1 f2 fz hcell z9 hSt hSt'; ((intro W9 h9; have HF := Lib.hid h9; have y0 : W9.cell? ⟨B + 1 + 1, 0, none⟩ = some (.int .i64 (N : Int)) := h9.2.2.1.cell 0; have y1 : W9.cell? ⟨B + 1 + 1, 1, none⟩ = some (Sl.v ⟨some ⟨sg, 0, none⟩, i, scap⟩) := h9.2.2.1.cell 1; have y2 : W9.cell? ⟨B + 1 + 1, 2, none⟩ = some (Sl.v ⟨some ⟨g5, 0, none⟩, i, cap5⟩) := h9.2.2.1.cell 2; have r0 : W9.cell? ⟨B + 1, 0, none⟩ = some (.int .i64 0) := h9.2.1.cell 0; have r1 : W9.cell? ⟨B + 1, 1, none⟩ = some (.slice none 0 0) := h9.2.1.cell 1; have r2 : W9.cell? ⟨B + 1, 2, none⟩ = some (.slice none 0 0) := h9.2.1.cell 2; have g0 : W9.frozen? ⟨B + 1, 0, none⟩ = false := h9.2.1.free 0; have g1 : W9.frozen? ⟨B + 1, 1, none⟩ = false := h9.2.1.free 1; have g2 : W9.frozen? ⟨B + 1, 2, none⟩ = false := h9.2.1.free 2; clear h9; simp only [Sl.v] at y1 y2; go_wp2_with fail; have hbl := ((HF.out.2.1.set 0 (.int .i64 (N : Int))).set 1 (Sl.v ⟨some ⟨sg, 0, none⟩, i, scap⟩)).set 2 (Sl.v ⟨some ⟨g5, 0, none⟩, i, cap5⟩); have q0 := hbl.cell 0; have q1 := hbl.cell 1; have q2 := hbl.cell 2; simp [Sl.v] at q0 q1 q2; refine bodyPost_ret (v := .agg #[.int .i64 (N : Int), Sl.v ⟨some ⟨sg, 0, none⟩, i, scap⟩, Sl.v ⟨some ⟨g5, 0, none⟩, i, cap5⟩]) (by simp [results, Try.results11, go_sem, Sl.v, q0, q1, q2]) rfl ?_; exact SpoPost.of ⟨((HF.out.1.setCell (by simp; omega) _).setCell (by simp; omega) _).setCell (by simp; omega) _, (N : Int), ⟨some ⟨sg, 0, none⟩, i, scap⟩, ⟨some ⟨g5, 0, none⟩, i, cap5⟩, (gs'.set KI ⟨some ⟨g7, 0, none⟩, kn + 1, cap7⟩), (Ls.set KI (L ++ [x5])), zs, rfl, ((HF.out.2.2.2.1.put HF.out.2.2.2.2 (by omega)).put HF.out.2.2.2.2 (by omega)).put HF.out.2.2.2.2 (by omega), ⟨by omega, by omega⟩, (.inl rfl), by simp only; omega⟩)))
    ·go_simp
     go_at_call 16
     refine (around_c _ _ _ (by omega) (by omega) H3.out).mono ?_
     rintro e w9 ⟨rfl, rfl⟩
     go_wp2_with fail
     rw [HQ.out]
     refine hK.out _ _ ?_ (fun _ => ?_); rotate_left; clear hK K; rotate_right; (focus (exact .inr (.inr rfl))); (try simp only [Act.put, List.setIfInBounds_toArray, List.set_cons_zero, List.set_cons_succ])
     refine consE (i := 14) (by kernel_rfl) rfl (fun K hK => ?_)
     go_simp
     refine hK.out _ _ ?_ (fun _ => ?_); rotate_left; clear hK K; rotate_right; (focus (exact .inr (.inl ⟨HEA.out.cell HSt.out.1, HEA.out.cell HSt.out.2.1, HEA.out.cell HSt.out.2.2⟩))); (try simp only [Act.put, List.setIfInBounds_toArray, List.set_cons_zero, List.set_cons_succ])
     ((refine takeP (i := 17) (v := ?_) rfl (by kernel_rfl) (by kernel_rfl) (by kernel_rfl) (fun _ _ _ h => h) (Or.inl ⟨by rfl, ?_⟩) ?_; rotate_left; (focus (intro wq hSw; clear hSw; go_simp; try with_reducible rfl)); (try simp only [Act.put, List.setIfInBounds_toArray, List.set_cons_zero, List.set_cons_succ])); refine consE (i := 18) (by kernel_rfl) rfl (fun K hK => ?_); go_simp; (refine hK.out _ _ ?_ (fun _ => ?_); rotate_left; clear hK K; rotate_right; (focus (exact .inr (.inr rfl))); (try simp only [Act.put, List.setIfInBounds_toArray, List.set_cons_zero, List.set_cons_succ])); refine consE (i := 19) (by kernel_rfl) rfl (fun K hK => ?_); go_simp; (refine hK.out _ _ ?_ (fun _ => ?_); rotate_left; clear hK K; rotate_right; (focus (exact .inr (.inl ⟨(HEA.out.alloc _).cell HSt.out.1, (HEA.out.alloc _).cell HSt.out.2.1, (HEA.out.alloc _).cell HSt.out.2.2⟩))); (try simp only [Act.put, List.setIfInBounds_toArray, List.set_cons_zero, List.set_cons_succ])); refine consE (i := 20) (by kernel_rfl) rfl (fun K hK => ?_); refine step_append_lies rfl _ _ _ rfl (B + 1 + 1 + 1) 3 i0 _ 1 8 Try.underlying22 hi0 hz0 hz1 hz2 rfl (by omega) (.slice (some ⟨ob, 0, none⟩) kn kc) kn (ivals L) rfl (by have h9 := owns_ext (HEA.out.alloc (.cells #[.int .i64 x5] 3)) HO.out.1; rw [HO.out.2.2.2.2] at h9; exact h9) ⟨W.heap.size + 1, 0, none⟩ 1 1 (ivals [x5]) rfl rfl (fun j u hu => by have h9 := HNI.out (W.drew.alloc (.cells #[.int .i64 a3, .int .i64 (-1), .int .i64 (N : Int), .int .i64 ((N : Int) - 1)] 3)) j u hu; rw [World.size_alloc] at h9; exact h9) (ivals_one _) (by omega) (by rw [maxLen]; omega) (by omega) (by simp; omega) _ rfl ?_; intro g7 cap7 w7 hown hgrow hat hlt7; obtain ⟨t1, f7, hEnd⟩ := HT.out g7 cap7 w7 hown hgrow (hat.imp (fun e => e) (fun e => e.trans (by show (World.alloc _ _).heap.size = _; rw [World.size_alloc, World.size_alloc]))); obtain ⟨t1, t2, t3⟩ := t1; have HEN := Lib.hid hEnd; clear hEnd hown hgrow hat; (refine hK.out _ _ ?_ (fun _ => ?_); rotate_left; clear hK K; rotate_right; (focus (exact .inr (.inl ⟨t1, t2, t3⟩))); (try simp only [Act.put, List.setIfInBounds_toArray, List.set_cons_zero, List.set_cons_succ])); (refine takeP (i := 21) (v := ?_) rfl (by kernel_rfl) (by kernel_rfl) (by kernel_rfl) (fun _ _ _ h => h) (Or.inl ⟨by rfl, ?_⟩) ?_; rotate_left; (focus (intro wq hSw; clear hSw; go_simp; try with_reducible rfl)); (try simp only [Act.put, List.setIfInBounds_toArray, List.set_cons_zero, List.set_cons_succ])); refine consE (i := 22) (by kernel_rfl) rfl (fun K hK => ?_); go_simp; (refine hK.out _ _ ?_ (fun _ => ?_); rotate_left; clear hK K; rotate_right; (focus (exact .inl (by simp))); (try simp only [Act.put, List.setIfInBounds_toArray, List.set_cons_zero, List.set_cons_succ])); refine doneE (by kernel_rfl) ?_ _; go_upto_region 27 with (fail); refine wp_gen (fun W => (Ext w W ∧ Blk W (B + 1) #[.int .i64 0, .slice none 0 0, .slice none 0 0] 25 ∧ Blk W (B + 1 + 1) #[.int .i64 (N : Int), Sl.v ⟨some ⟨sg, 0, none⟩, i, scap⟩, Sl.v ⟨some ⟨g5, 0, none⟩, i, cap5⟩] 25 ∧ ShIn W (N : Int) ⟨some ⟨sg, 0, none⟩, i, scap⟩ ⟨some ⟨g5, 0, none⟩, i, cap5⟩ (gs'.set KI ⟨some ⟨g7, 0, none⟩, kn + 1, cap7⟩) (Ls.set KI (L ++ [x5])) zs ∧ Away (B + 1 + 1 + 1) ⟨some ⟨sg, 0, none⟩, i, scap⟩ ⟨some ⟨g5, 0, none⟩, i, cap5⟩ (gs'.set KI ⟨some ⟨g7, 0, none⟩, kn + 1, cap7⟩) i)) HEN.out ?_; clear HEN t1 t2 t3 f7 y0 y1 y2 f0 f1 f2 fz hcell z9 hSt hSt'; ((intro W9 h9; have HF := Lib.hid h9; have y0 : W9.cell? ⟨B + 1 + 1, 0, none⟩ = some (.int .i64 (N : Int)) := h9.2.2.1.cell 0; have y1 : W9.cell? ⟨B + 1 + 1, 1, none⟩ = some (Sl.v ⟨some ⟨sg, 0, none⟩, i, scap⟩) := h9.2.2.1.cell 1; have y2 : W9.cell? ⟨B + 1 + 1, 2, none⟩ = some (Sl.v ⟨some ⟨g5, 0, none⟩, i, cap5⟩) := h9.2.2.1.cell 2; have r0 : W9.cell? ⟨B + 1, 0, none⟩ = some (.int .i64 0) := h9.2.1.cell 0; have r1 : W9.cell? ⟨B + 1, 1, none⟩ = some (.slice none 0 0) := h9.2.1.cell 1; have r2 : W9.cell? ⟨B + 1, 2, none⟩ = some (.slice none 0 0) := h9.2.1.cell 2; have g0 : W9.frozen? ⟨B + 1, 0, none⟩ = false := h9.2.1.free 0; have g1 : W9.frozen? ⟨B + 1, 1, none⟩ = false := h9.2.1.free 1; have g2 : W9.frozen? ⟨B + 1, 2, none⟩ = false := h9.2.1.free 2; clear h9; simp only [Sl.v] at y1 y2; go_wp2_with fail; have hbl := ((HF.out.2.1.set 0 (.int .i64 (N : Int))).set 1 (Sl.v ⟨some ⟨sg, 0, none⟩, i, scap⟩)).set 2 (Sl.v ⟨some ⟨g5, 0, none⟩, i, cap5⟩); have q0 := hbl.cell 0; have q1 := hbl.cell 1; have q2 := hbl.cell 2; simp [Sl.v] at q0 q1 q2; refine bodyPost_ret (v := .agg #[.int .i64 (N : Int), Sl.v ⟨some ⟨sg, 0, none⟩, i, scap⟩, Sl.v ⟨some ⟨g5, 0, none⟩, i, cap5⟩]) (by simp [results, Try.results11, go_sem, Sl.v, q0, q1, q2]) rfl ?_; exact SpoPost.of ⟨((HF.out.1.setCell (by simp; omega) _).setCell (by simp; omega) _).setCell (by simp; omega) _, (N : Int), ⟨some ⟨sg, 0, none⟩, i, scap⟩, ⟨some ⟨g5, 0, none⟩, i, cap5⟩, (gs'.set KI ⟨some ⟨g7, 0, none⟩, kn + 1, cap7⟩), (Ls.set KI (L ++ [x5])), zs, rfl, ((HF.out.2.2.2.1.put HF.out.2.2.2.2 (by omega)).put HF.out.2.2.2.2 (by omega)).put HF.out.2.2.2.2 (by omega), ⟨by omega, by omega⟩, (.inl rfl), by simp only; omega⟩)))
   ·--{{
    obtain ⟨_, _, e, _, hcell⟩ := HS.out.2.1.grps.at KI hKi
    injection e with e; injection e with e1 e2
    subst e1; subst e2
    simp only [Nat.zero_add] at hcell
    obtain ⟨⟨ka, kn, kc⟩, hgK⟩ : ∃ s, gs'.getD KI sl0 = s := ⟨_, rfl⟩
    rw [hgK] at hcell
    simp only [Sl.v] at hcell
    have fz : W.frozen? ⟨sg, KI, none⟩ = false := by obtain ⟨cur, hb⟩ := HNE.out.1; exact hb.free KI
    have hsgY : sg ≠ B + 1 + 1 := by omega
    have hsgR : sg ≠ B + 1 := by omega
    go_upto_region 27 with (fail)
    refine wp_gen (fun W => (Ext w W ∧ Blk W (B + 1) #[.int .i64 0, .slice none 0 0, .slice none 0 0] 25 ∧ Blk W (B + 1 + 1) #[.int .i64 (N : Int), Sl.v ⟨some ⟨sg, 0, none⟩, i, scap⟩, Sl.v ⟨some ⟨g5, 0, none⟩, i, cap5⟩] 25 ∧ ShIn W (N : Int) ⟨some ⟨sg, 0, none⟩, i, scap⟩ ⟨some ⟨g5, 0, none⟩, i, cap5⟩ (gs'.set KI ⟨none, 0, 0⟩) (Ls.set KI []) zs ∧ Away (B + 1 + 1 + 1) ⟨some ⟨sg, 0, none⟩, i, scap⟩ ⟨some ⟨g5, 0, none⟩, i, cap5⟩ (gs'.set KI ⟨none, 0, 0⟩) i)) ⟨HS.out.1.ext.setCell (by have := HS.out.1.sz; simp; omega) _, HS.out.1.res.setOther (by simp; omega) _, HS.out.1.box.setOther (by simp; omega) _, by
     have := HS.out.2.1.setS (s := ⟨none, 0, 0⟩) (l := []) (k := KI) rfl hKi ⟨rfl, by simp, fun k hk => absurd hk (by simp), .inl rfl⟩ (by simp) (fun b o r e => by injection e with e; injection e with e; have := HNE.out.2.2.1; omega) (fun k hk b o r e => (HNE.out.2.2.2 k hk b o r e).1) (fun b o r e => by cases e)
     simpa only [Nat.zero_add] using this, ⟨HS.out.2.2.1.s, HS.out.2.2.1.v, fun k hk b o r e => by
      by_cases ek : KI = k
      ·subst ek
       rw [show (gs'.set KI (⟨none, 0, 0⟩ : Sl)).getD KI sl0 = ⟨none, 0, 0⟩ by have := HS.out.2.1.grps.1; simp only at this; simp [List.getD_eq_getElem?_getD, this, hKi]] at e
       cases e
      ·rw [show (gs'.set KI (⟨none, 0, 0⟩ : Sl)).getD k sl0 = gs'.getD k sl0 by simp [List.getD_eq_getElem?_getD, List.getElem?_set_ne ek]] at e
       exact HS.out.2.2.1.g k hk b o r e⟩⟩ ?_
    clear y0 y1 y2 f0 f1 f2 fz hcell
    (intro W9 h9; have HF := Lib.hid h9; have y0 : W9.cell? ⟨B + 1 + 1, 0, none⟩ = some (.int .i64 (N : Int)) := h9.2.2.1.cell 0; have y1 : W9.cell? ⟨B + 1 + 1, 1, none⟩ = some (Sl.v ⟨some ⟨sg, 0, none⟩, i, scap⟩) := h9.2.2.1.cell 1; have y2 : W9.cell? ⟨B + 1 + 1, 2, none⟩ = some (Sl.v ⟨some ⟨g5, 0, none⟩, i, cap5⟩) := h9.2.2.1.cell 2; have r0 : W9.cell? ⟨B + 1, 0, none⟩ = some (.int .i64 0) := h9.2.1.cell 0; have r1 : W9.cell? ⟨B + 1, 1, none⟩ = some (.slice none 0 0) := h9.2.1.cell 1; have r2 : W9.cell? ⟨B + 1, 2, none⟩ = some (.slice none 0 0) := h9.2.1.cell 2; have g0 : W9.frozen? ⟨B + 1, 0, none⟩ = false := h9.2.1.free 0; have g1 : W9.frozen? ⟨B + 1, 1, none⟩ = false := h9.2.1.free 1; have g2 : W9.frozen? ⟨B + 1, 2, none⟩ = false := h9.2.1.free 2; clear h9; simp only [Sl.v] at y1 y2; go_wp2_with fail; have hbl := ((HF.out.2.1.set 0 (.int .i64 (N : Int))).set 1 (Sl.v ⟨some ⟨sg, 0, none⟩, i, scap⟩)).set 2 (Sl.v ⟨some ⟨g5, 0, none⟩, i, cap5⟩); have q0 := hbl.cell 0; have q1 := hbl.cell 1; have q2 := hbl.cell 2; simp [Sl.v] at q0 q1 q2; refine bodyPost_ret (v := .agg #[.int .i64 (N : Int), Sl.v ⟨some ⟨sg, 0, none⟩, i, scap⟩, Sl.v ⟨some ⟨g5, 0, none⟩, i, cap5⟩]) (by simp [results, Try.results11, go_sem, Sl.v, q0, q1, q2]) rfl ?_; exact SpoPost.of ⟨((HF.out.1.setCell (by simp; omega) _).setCell (by simp; omega) _).setCell (by simp; omega) _, (N : Int), ⟨some ⟨sg, 0, none⟩, i, scap⟩, ⟨some ⟨g5, 0, none⟩, i, cap5⟩, (gs'.set KI ⟨none, 0, 0⟩), (Ls.set KI []), zs, rfl, ((HF.out.2.2.2.1.put HF.out.2.2.2.2 (by omega)).put HF.out.2.2.2.2 (by omega)).put HF.out.2.2.2.2 (by omega), ⟨by omega, by omega⟩, (.inl rfl), by simp only; omega⟩)
    --}}
   ·--{{
    have hq := aroundF_bd a3 5 (by omega)
    obtain ⟨Q, hQ⟩ : ∃ K : Nat, aroundF a3 5 = (K : Int) := ⟨(aroundF a3 5).toNat, by omega⟩
    rw [hQ] at hq
    have hb9 : ∀ W' : World, (W'.alloc (.cells #[.int .i64 a3, .int .i64 (-1), .int .i64 0, .int .i64 1099511627776, .int .i64 1099511627777] 3)).cell? ⟨W'.heap.size, Q, none⟩ = some (.int .i64 ([a3, -1, 0, 1099511627776, 1099511627777].getD Q 0)) := fun W' => by
     have hc : Q = 0 ∨ Q = 1 ∨ Q = 2 ∨ Q = 3 ∨ Q = 4 := by omega
     have hb9 := Blk.at (w := W') #[.int .i64 a3, .int .i64 (-1), .int .i64 0, .int .i64 1099511627776, .int .i64 1099511627777] 3 rfl
     rcases hc with rfl | rfl | rfl | rfl | rfl
     ·exact hb9.cell 0
     ·exact hb9.cell 1
     ·exact hb9.cell 2
     ·exact hb9.cell 3
     ·exact hb9.cell 4
    have hx64 : Int64 ([a3, -1, 0, 1099511627776, 1099511627777].getD Q 0) := by
     have hc : Q = 0 ∨ Q = 1 ∨ Q = 2 ∨ Q = 3 ∨ Q = 4 := by omega
     have h3 := H3.out
     rcases hc with rfl | rfl | rfl | rfl | rfl
     ·exact h3
     ·exact ⟨by simp, by simp⟩
     ·exact ⟨by simp, by simp⟩
     ·exact ⟨by simp, by simp⟩
     ·exact ⟨by simp, by simp⟩
    obtain ⟨x5, hx5⟩ : ∃ x, [a3, -1, 0, 1099511627776, 1099511627777].getD Q 0 = x := ⟨_, rfl⟩
    rw [hx5] at hx64
    have HB9 := Lib.hid (fun W' : World => (by rw [hb9 W', hx5] : (W'.alloc (.cells #[.int .i64 a3, .int .i64 (-1), .int .i64 0, .int .i64 1099511627776, .int .i64 1099511627777] 3)).cell? ⟨W'.heap.size, Q, none⟩ = some (.int .i64 x5)))
    have HX := Lib.hid hx64
    have HQ := Lib.hid hQ
    clear hx5 hx64 hb9 hQ
    obtain ⟨_, _, e, hg5lt, hcell⟩ := HS.out.2.1.vals.at KI hKi
    injection e with e; injection e with e1 e2
    subst e1; subst e2
    simp only [Nat.zero_add] at hcell
    have fz : W.frozen? ⟨g5, KI, none⟩ = false := by obtain ⟨cur, hb⟩ := HNE.out.2.1; exact hb.free KI
    have z9 := HB9.out W
    go_upto_region 24 with (fail)
    refine wp_region_E (fun W => W.cell? ⟨B + 1 + 1, 2, none⟩ = some (.slice (some ⟨g5, 0, none⟩) i cap5)) [10] (by kernel_rfl) y2 (fun _ => ?_)
    have y2' : W.drew.cell? ⟨B + 1 + 1, 2, none⟩ = some (.slice (some ⟨g5, 0, none⟩) i cap5) := y2
    refine takeP (i := 0) (v := ?_) rfl (by kernel_rfl) (by kernel_rfl) (by kernel_rfl) (fun _ _ _ h => h) (Or.inl ⟨by rfl, ?_⟩) ?_; rotate_left; (focus (intro wq hSw; clear hSw; go_simp; try with_reducible rfl)); (try simp only [Act.put, List.setIfInBounds_toArray, List.set_cons_zero, List.set_cons_succ])
    refine takeE (i := 1) (v := ?_) rfl (by kernel_rfl) (by kernel_rfl) (by kernel_rfl) (fun _ _ _ h => h) (by kernel_rfl) (by kernel_rfl) (Or.inl ⟨by rfl, ?_⟩) (by assumption) ?_; rotate_left; (focus (intro wq hSw; go_simp; try with_reducible rfl)); (try simp only [Act.put, List.setIfInBounds_toArray, List.set_cons_zero, List.set_cons_succ])
    refine takeP (i := 2) (v := ?_) rfl (by kernel_rfl) (by kernel_rfl) (by kernel_rfl) (fun _ _ _ h => h) (Or.inl ⟨by rfl, ?_⟩) ?_; rotate_left; (focus (intro wq hSw; clear hSw; go_simp; try with_reducible rfl)); (try simp only [Act.put, List.setIfInBounds_toArray, List.set_cons_zero, List.set_cons_succ])
    refine takeP (i := 3) (v := ?_) rfl (by kernel_rfl) (by kernel_rfl) (by kernel_rfl) (fun _ _ _ h => h) (Or.inl ⟨by rfl, ?_⟩) ?_; rotate_left; (focus (intro wq hSw; clear hSw; go_simp; try with_reducible rfl)); (try simp only [Act.put, List.setIfInBounds_toArray, List.set_cons_zero, List.set_cons_succ])
    refine takeP (i := 5) (v := ?_) rfl (by kernel_rfl) (by kernel_rfl) (by kernel_rfl) (fun _ _ _ h => h) (Or.inl ⟨by rfl, ?_⟩) ?_; rotate_left; (focus (intro wq hSw; clear hSw; go_simp; try with_reducible rfl)); (try simp only [Act.put, List.setIfInBounds_toArray, List.set_cons_zero, List.set_cons_succ])
    refine cons2E (i := 4) (j := 6) (by kernel_rfl) rfl rfl (fun K hK => ?_) (fun K hK => ?_)
    ·go_simp
     refine hK.out _ _ ?_ (fun _ => ?_); rotate_left; clear hK K; rotate_right; (focus (exact .inr (.inl (((Ext.refl W).drew.alloc _).cell y2)))); (try simp only [Act.put, List.setIfInBounds_toArray, List.set_cons_zero, List.set_cons_succ])
     refine consE (i := 6) (by kernel_rfl) rfl (fun K hK => ?_)
     go_simp
     go_at_call 16
     refine (around_c _ _ _ (by omega) (by omega) H3.out).mono ?_
     rintro e w9 ⟨rfl, rfl⟩
     go_wp2_with fail
     rw [HQ.out]
     refine hK.out _ _ ?_ (fun _ => ?_); rotate_left; clear hK K; rotate_right; (focus (exact .inr (.inr rfl))); (try simp only [Act.put, List.setIfInBounds_toArray, List.set_cons_zero, List.set_cons_succ])
     refine takeP (i := 7) (v := ?_) rfl (by kernel_rfl) (by kernel_rfl) (by kernel_rfl) (fun _ _ _ h => h) (Or.inl ⟨by rfl, ?_⟩) ?_; rotate_left; (focus (intro wq hSw; clear hSw; go_simp; try with_reducible rfl)); (try simp only [Act.put, List.setIfInBounds_toArray, List.set_cons_zero, List.set_cons_succ])
     (refine consE (i := 8) (by kernel_rfl) rfl (fun K hK => ?_); go_simp; (refine hK.out _ _ ?_ (fun _ => ?_); rotate_left; clear hK K; rotate_right; (focus (exact .inr (.inr rfl))); (try simp only [Act.put, List.setIfInBounds_toArray, List.set_cons_zero, List.set_cons_succ])); (refine takeP (i := 9) (v := ?_) rfl (by kernel_rfl) (by kernel_rfl) (by kernel_rfl) (fun _ _ _ h => h) (Or.inl ⟨by rfl, ?_⟩) ?_; rotate_left; (focus (intro wq hSw; clear hSw; go_simp; try with_reducible rfl)); (try simp only [Act.put, List.setIfInBounds_toArray, List.set_cons_zero, List.set_cons_succ])); refine consE (i := 10) (by kernel_rfl) rfl (fun K hK => ?_); go_simp; (refine hK.out _ _ ?_ (fun _ => ?_); rotate_left; clear hK K; rotate_right; (focus (exact .inl (by simp))); (try simp only [Act.put, List.setIfInBounds_toArray, List.set_cons_zero, List.set_cons_succ])); refine doneE (by kernel_rfl) ?_ _; go_upto_region 27 with (fail); refine wp_gen (fun W => (Ext w W ∧ Blk W (B + 1) #[.int .i64 0, .slice none 0 0, .slice none 0 0] 25 ∧ Blk W (B + 1 + 1) #[.int .i64 (N : Int), Sl.v ⟨some ⟨sg, 0, none⟩, i, scap⟩, Sl.v ⟨some ⟨g5, 0, none⟩, i, cap5⟩] 25 ∧ ShIn W (N : Int) ⟨some ⟨sg, 0, none⟩, i, scap⟩ ⟨some ⟨g5, 0, none⟩, i, cap5⟩ gs' Ls (zs.set KI x5) ∧ Away (B + 1 + 1 + 1) ⟨some ⟨sg, 0, none⟩, i, scap⟩ ⟨some ⟨g5, 0, none⟩, i, cap5⟩ gs' i)) ⟨((HS.out.1.ext.setCell (by have := HS.out.1.sz; simp; omega) _).alloc _).drew, ((HS.out.1.res.setOther (by simp; omega) _).alloc _).drew, ((HS.out.1.box.setOther (by simp; omega) _).alloc _).drew, (show ShIn (W.setCell ⟨g5, KI, none⟩ (.int .i64 x5)) (N : Int) ⟨some ⟨sg, 0, none⟩, i, scap⟩ ⟨some ⟨g5, 0, none⟩, i, cap5⟩ gs' Ls (zs.set KI x5) from by have h9 := HS.out.2.1.setV (k := KI) (x := x5) rfl hKi HX.out (fun b o r e => by injection e with e; injection e with e; have := HNE.out.2.2.1; omega) (fun k hk b o r e => (HNE.out.2.2.2 k hk b o r e).2); simpa only [Nat.zero_add] using h9).ext ((Ext.refl _).alloc _).drew, HS.out.2.2.1⟩ ?_; clear y0 y1 y2 f0 f1 f2 fz hcell z9 y2'; ((intro W9 h9; have HF := Lib.hid h9; have y0 : W9.cell? ⟨B + 1 + 1, 0, none⟩ = some (.int .i64 (N : Int)) := h9.2.2.1.cell 0; have y1 : W9.cell? ⟨B + 1 + 1, 1, none⟩ = some (Sl.v ⟨some ⟨sg, 0, none⟩, i, scap⟩) := h9.2.2.1.cell 1; have y2 : W9.cell? ⟨B + 1 + 1, 2, none⟩ = some (Sl.v ⟨some ⟨g5, 0, none⟩, i, cap5⟩) := h9.2.2.1.cell 2; have r0 : W9.cell? ⟨B + 1, 0, none⟩ = some (.int .i64 0) := h9.2.1.cell 0; have r1 : W9.cell? ⟨B + 1, 1, none⟩ = some (.slice none 0 0) := h9.2.1.cell 1; have r2 : W9.cell? ⟨B + 1, 2, none⟩ = some (.slice none 0 0) := h9.2.1.cell 2; have g0 : W9.frozen? ⟨B + 1, 0, none⟩ = false := h9.2.1.free 0; have g1 : W9.frozen? ⟨B + 1, 1, none⟩ = false := h9.2.1.free 1; have g2 : W9.frozen? ⟨B + 1, 2, none⟩ = false := h9.2.1.free 2; clear h9; simp only [Sl.v] at y1 y2; go_wp2_with fail; have hbl := ((HF.out.2.1.set 0 (.int .i64 (N : Int))).set 1 (Sl.v ⟨some ⟨sg, 0, none⟩, i, scap⟩)).set 2 (Sl.v ⟨some ⟨g5, 0, none⟩, i, cap5⟩); have q0 := hbl.cell 0; have q1 := hbl.cell 1; have q2 := hbl.cell 2; simp [Sl.v] at q0 q1 q2; refine bodyPost_ret (v := .agg #[.int .i64 (N : Int), Sl.v ⟨some ⟨sg, 0, none⟩, i, scap⟩, Sl.v ⟨some ⟨g5, 0, none⟩, i, cap5⟩]) (by simp [results, Try.results11, go_sem, Sl.v, q0, q1, q2]) rfl ?_; exact SpoPost.of ⟨((HF.out.1.setCell (by simp; omega) _).setCell (by simp; omega) _).setCell (by simp; omega) _, (N : Int), ⟨some ⟨sg, 0, none⟩, i, scap⟩, ⟨some ⟨g5, 0, none⟩, i, cap5⟩, gs', Ls, (zs.set KI x5), rfl, ((HF.out.2.2.2.1.put HF.out.2.2.2.2 (by omega)).put HF.out.2.2.2.2 (by omega)).put HF.out.2.2.2.2 (by omega), ⟨by omega, by omega⟩, (.inl rfl), by simp only; omega⟩)))
    ·go_simp
     go_at_call 16
     refine (around_c _ _ _ (by omega) (by omega) H3.out).mono ?_
     rintro e w9 ⟨rfl, rfl⟩
     go_wp2_with fail
     rw [HQ.out]
     refine hK.out _ _ ?_ (fun _ => ?_); rotate_left; clear hK K; rotate_right; (focus (exact .inr (.inr rfl))); (try simp only [Act.put, List.setIfInBounds_toArray, List.set_cons_zero, List.set_cons_succ])
     refine consE (i := 4) (by kernel_rfl) rfl (fun K hK => ?_)
     go_simp
     refine hK.out _ _ ?_ (fun _ => ?_); rotate_left; clear hK K; rotate_right; (focus (exact .inr (.inl (((Ext.refl W).drew.alloc _).cell y2)))); (try simp only [Act.put, List.setIfInBounds_toArray, List.set_cons_zero, List.set_cons_succ])
     refine takeP (i := 7) (v := ?_) rfl (by kernel_rfl) (by kernel_rfl) (by kernel_rfl) (fun _ _ _ h => h) (Or.inl ⟨by rfl, ?_⟩) ?_; rotate_left; (focus (intro wq hSw; clear hSw; go_simp; try with_reducible rfl)); (try simp only [Act.put, List.setIfInBounds_toArray, List.set_cons_zero, List.set_cons_succ])
     (refine consE (i := 8) (by kernel_rfl) rfl (fun K hK => ?_); go_simp; (refine hK.out _ _ ?_ (fun _ => ?_); rotate_left; clear hK K; rotate_right; (focus (exact .inr (.inr rfl))); (try simp only [Act.put, List.setIfInBounds_toArray, List.set_cons_zero, List.set_cons_succ])); (refine takeP (i := 9) (v := ?_) rfl (by kernel_rfl) (by kernel_rfl) (by kernel_rfl) (fun _ _ _ h => h) (Or.inl ⟨by rfl, ?_⟩) ?_; rotate_left; (focus (intro wq hSw; clear hSw; go_simp; try with_reducible rfl)); (try simp only [Act.put, List.setIfInBounds_toArray, List.set_cons_zero, List.set_cons_succ])); refine consE (i := 10) (by kernel_rfl) rfl (fun K hK => ?_); go_simp; (refine hK.out _ _ ?_ (fun _ => ?_); rotate_left; clear hK K; rotate_right; (focus (exact .inl (by simp))); (try simp only [Act.put, List.setIfInBounds_toArray, List.set_cons_zero, List.set_cons_succ])); refine doneE (by kernel_rfl) ?_ _; go_upto_region 27 with (fail); refine wp_gen (fun W => (Ext w W ∧ Blk W (B + 1) #[.int .i64 0, .slice none 0 0, .slice none 0 0] 25 ∧ Blk W (B + 1 + 1) #[.int .i64 (N : Int), Sl.v ⟨some ⟨sg, 0, none⟩, i, scap⟩, Sl.v ⟨some ⟨g5, 0, none⟩, i, cap5⟩] 25 ∧ ShIn W (N : Int) ⟨some ⟨sg, 0, none⟩, i, scap⟩ ⟨some ⟨g5, 0, none⟩, i, cap5⟩ gs' Ls (zs.set KI x5) ∧ Away (B + 1 + 1 + 1) ⟨some ⟨sg, 0, none⟩, i, scap⟩ ⟨some ⟨g5, 0, none⟩, i, cap5⟩ gs' i)) ⟨((HS.out.1.ext.setCell (by have := HS.out.1.sz; simp; omega) _).alloc _).drew, ((HS.out.1.res.setOther (by simp; omega) _).alloc _).drew, ((HS.out.1.box.setOther (by simp; omega) _).alloc _).drew, (show ShIn (W.setCell ⟨g5, KI, none⟩ (.int .i64 x5)) (N : Int) ⟨some ⟨sg, 0, none⟩, i, scap⟩ ⟨some ⟨g5, 0, none⟩, i, cap5⟩ gs' Ls (zs.set KI x5) from by have h9 := HS.out.2.1.setV (k := KI) (x := x5) rfl hKi HX.out (fun b o r e => by injection e with e; injection e with e; have := HNE.out.2.2.1; omega) (fun k hk b o r e => (HNE.out.2.2.2 k hk b o r e).2); simpa only [Nat.zero_add] using h9).ext ((Ext.refl _).alloc _).drew, HS.out.2.2.1⟩ ?_; clear y0 y1 y2 f0 f1 f2 fz hcell z9 y2'; ((intro W9 h9; have HF := Lib.hid h9; have y0 : W9.cell? ⟨B + 1 + 1, 0, none⟩ = some (.int .i64 (N : Int)) := h9.2.2.1.cell 0; have y1 : W9.cell? ⟨B + 1 + 1, 1, none⟩ = some (Sl.v ⟨some ⟨sg, 0, none⟩, i, scap⟩) := h9.2.2.1.cell 1; have y2 : W9.cell? ⟨B + 1 + 1, 2, none⟩ = some (Sl.v ⟨some ⟨g5, 0, none⟩, i, cap5⟩) := h9.2.2.1.cell 2; have r0 : W9.cell? ⟨B + 1, 0, none⟩ = some (.int .i64 0) := h9.2.1.cell 0; have r1 : W9.cell? ⟨B + 1, 1, none⟩ = some (.slice none 0 0) := h9.2.1.cell 1; have r2 : W9.cell? ⟨B + 1, 2, none⟩ = some (.slice none 0 0) := h9.2.1.cell 2; have g0 : W9.frozen? ⟨B + 1, 0, none⟩ = false := h9.2.1.free 0; have g1 : W9.frozen? ⟨B + 1, 1, none⟩ = false := h9.2.1.free 1; have g2 : W9.frozen? ⟨B + 1, 2, none⟩ = false := h9.2.1.free 2; clear h9; simp only [Sl.v] at y1 y2; go_wp2_with fail; have hbl := ((HF.out.2.1.set 0 (.int .i64 (N : Int))).set 1 (Sl.v ⟨some ⟨sg, 0, none⟩, i, scap⟩)).set 2 (Sl.v ⟨some ⟨g5, 0, none⟩, i, cap5⟩); have q0 := hbl.cell 0; have q1 := hbl.cell 1; have q2 := hbl.cell 2; simp [Sl.v] at q0 q1 q2; refine bodyPost_ret (v := .agg #[.int .i64 (N : Int), Sl.v ⟨some ⟨sg, 0, none⟩, i, scap⟩, Sl.v ⟨some ⟨g5, 0, none⟩, i, cap5⟩]) (by simp [results, Try.results11, go_sem, Sl.v, q0, q1, q2]) rfl ?_; exact SpoPost.of ⟨((HF.out.1.setCell (by simp; omega) _).setCell (by simp; omega) _).setCell (by simp; omega) _, (N : Int), ⟨some ⟨sg, 0, none⟩, i, scap⟩, ⟨some ⟨g5, 0, none⟩, i, cap5⟩, gs', Ls, (zs.set KI x5), rfl, ((HF.out.2.2.2.1.put HF.out.2.2.2.2 (by omega)).put HF.out.2.2.2.2 (by omega)).put HF.out.2.2.2.2 (by omega), ⟨by omega, by omega⟩, (.inl rfl), by simp only; omega⟩)))
    --}}
   ·--{{
    have hkc : KI ≤ cap5 := by omega
    go_upto_region 27 with (fail)
    refine wp_gen (fun W => (Ext w W ∧ Blk W (B + 1) #[.int .i64 0, .slice none 0 0, .slice none 0 0] 25 ∧ Blk W (B + 1 + 1) #[.int .i64 (N : Int), Sl.v ⟨some ⟨sg, 0, none⟩, i, scap⟩, Sl.v ⟨some ⟨g5, 0, none⟩, KI, cap5⟩] 25 ∧ ShIn W (N : Int) ⟨some ⟨sg, 0, none⟩, i, scap⟩ ⟨some ⟨g5, 0, none⟩, KI, cap5⟩ gs' Ls (zs.take KI) ∧ Away (B + 1 + 1 + 1) ⟨some ⟨sg, 0, none⟩, i, scap⟩ ⟨some ⟨g5, 0, none⟩, KI, cap5⟩ gs' i)) ⟨HS.out.1.ext.setCell (by have := HS.out.1.sz; simp; omega) _, HS.out.1.res.setOther (by simp) _, HS.out.1.box.set 2 _, (HS.out.2.1.cutV (k := KI) (c := cap5) (by simp only; omega)).put (base := B + 1 + 1 + 1) ⟨HS.out.2.2.1.s, HS.out.2.2.1.v, HS.out.2.2.1.g⟩ (by omega), ⟨HS.out.2.2.1.s, HS.out.2.2.1.v, HS.out.2.2.1.g⟩⟩ ?_
    clear y0 y1 y2 f0 f1 f2
    (intro W9 h9; have HF := Lib.hid h9; have y0 : W9.cell? ⟨B + 1 + 1, 0, none⟩ = some (.int .i64 (N : Int)) := h9.2.2.1.cell 0; have y1 : W9.cell? ⟨B + 1 + 1, 1, none⟩ = some (Sl.v ⟨some ⟨sg, 0, none⟩, i, scap⟩) := h9.2.2.1.cell 1; have y2 : W9.cell? ⟨B + 1 + 1, 2, none⟩ = some (Sl.v ⟨some ⟨g5, 0, none⟩, KI, cap5⟩) := h9.2.2.1.cell 2; have r0 : W9.cell? ⟨B + 1, 0, none⟩ = some (.int .i64 0) := h9.2.1.cell 0; have r1 : W9.cell? ⟨B + 1, 1, none⟩ = some (.slice none 0 0) := h9.2.1.cell 1; have r2 : W9.cell? ⟨B + 1, 2, none⟩ = some (.slice none 0 0) := h9.2.1.cell 2; have g0 : W9.frozen? ⟨B + 1, 0, none⟩ = false := h9.2.1.free 0; have g1 : W9.frozen? ⟨B + 1, 1, none⟩ = false := h9.2.1.free 1; have g2 : W9.frozen? ⟨B + 1, 2, none⟩ = false := h9.2.1.free 2; clear h9; simp only [Sl.v] at y1 y2; go_wp2_with fail; have hbl := ((HF.out.2.1.set 0 (.int .i64 (N : Int))).set 1 (Sl.v ⟨some ⟨sg, 0, none⟩, i, scap⟩)).set 2 (Sl.v ⟨some ⟨g5, 0, none⟩, KI, cap5⟩); have q0 := hbl.cell 0; have q1 := hbl.cell 1; have q2 := hbl.cell 2; simp [Sl.v] at q0 q1 q2; refine bodyPost_ret (v := .agg #[.int .i64 (N : Int), Sl.v ⟨some ⟨sg, 0, none⟩, i, scap⟩, Sl.v ⟨some ⟨g5, 0, none⟩, KI, cap5⟩]) (by simp [results, Try.results11, go_sem, Sl.v, q0, q1, q2]) rfl ?_; exact SpoPost.of ⟨((HF.out.1.setCell (by simp; omega) _).setCell (by simp; omega) _).setCell (by simp; omega) _, (N : Int), ⟨some ⟨sg, 0, none⟩, i, scap⟩, ⟨some ⟨g5, 0, none⟩, KI, cap5⟩, gs', Ls, (zs.take KI), rfl, ((HF.out.2.2.2.1.put HF.out.2.2.2.2 (by omega)).put HF.out.2.2.2.2 (by omega)).put HF.out.2.2.2.2 (by omega), ⟨by omega, by omega⟩, (.inl rfl), by simp only; omega⟩)
    --}}
   ·have hq := aroundF_bd a3 12 (by omega)
    obtain ⟨Q, hQ⟩ : ∃ K : Nat, aroundF a3 12 = (K : Int) := ⟨(aroundF a3 12).toNat, by omega⟩
    rw [hQ] at hq
    have HQ := Lib.hid hQ
    have hQ12 : Q < 12 := by omega
    clear hQ hq y0 y1 y2 f0 f1 f2
    go_wp2_with fail
    go_loopw [13] (fun jv ws => ∃ (j : Nat) (vS' vV' : Value) (gs2 : List Sl), j ≤ 118 + Q ∧ jv = .int .i64 (j : Int) ∧ SpI w ws B N (.slice (some ⟨sb, so, none⟩) i sc) (.slice (some ⟨vb, vo, none⟩) i vc) vS' vV' gs2 (Ls ++ List.replicate j [0]) (zs ++ List.replicate j 1)) (fun jv _ => 118 + Q - (intOf jv).toNat)
    case atStart => exact ⟨0, _, _, _, by omega, rfl, by simpa using HS.out.1⟩
    case round =>
     rename World => ws
     obtain ⟨j, vS', vV', gs2, hj, rfl, hS2⟩ := hrel
     have hlL := H.out.2.2.1
     have hzL := H.out.2.2.2
     have hl1 : (Ls ++ List.replicate j [(0 : Int)]).length = i + j := by simp [hlL]
     have hl2 : (zs ++ List.replicate j (1 : Int)).length = i + j := by simp [hzL]
     obtain ⟨LJ, hLJ⟩ : ∃ l, Ls ++ List.replicate j [(0 : Int)] = l := ⟨_, rfl⟩
     obtain ⟨ZJ, hZJ⟩ : ∃ l, zs ++ List.replicate j (1 : Int) = l := ⟨_, rfl⟩
     rw [hLJ, hZJ] at hS2
     rw [hLJ] at hl1
     rw [hZJ] at hl2
     have HS2 := Lib.hid hS2
     have hb2 := hS2.box.lt
     have hszB := hS2.sz
     have y1 : ws.cell? ⟨B + 1 + 1, 1, none⟩ = some vS' := hS2.box.cell 1
     have HLE := Lib.hid (And.intro hl1 (And.intro hl2 (And.intro hLJ hZJ)))
     clear hS2 hlL hzL hl1 hl2 hLJ hZJ
     go_wp2_with fail
     refine (around_c _ _ _ (by omega) (by omega) H3.out).mono ?_
     rintro e w9 ⟨rfl, rfl⟩
     rw [HQ.out]
     by_cases hjl : j < 118 + Q
     ·have hjl' : (j : Int) < 118 + (Q : Int) := by omega
      have HVI := Lib.hid (VRow.one (w := ws) (base := B + 1 + 1 + 1) 0 hb2)
      go_wp2_with (at_builtin; refine wpList_append_lies _ rfl _ _ _ rfl (B + 1 + 1 + 1) 22 j0 _ 1 24 Try.underlying23 hj0 hy0 hy1 hy2 rfl (by omega) vS' LJ.length (gs2.map Sl.v) rfl (owns_ext (((Ext.refl ws).alloc _).alloc _) HS2.out.own.sh.S) ⟨ws.heap.size + 1, 0, none⟩ 1 1 [.slice (some ⟨ws.heap.size, 0, none⟩) 1 1] rfl rfl (World.news_of_block (cs := #[.slice (some ⟨ws.heap.size, 0, none⟩) 1 1]) (t := 22) (fr := (0, 0)) (by have := heap_alloc_new (ws.alloc (.cells #[.int .i64 0] 3)) (.cells #[.slice (some ⟨ws.heap.size, 0, none⟩) 1 1] 22); rw [World.size_alloc] at this; exact this)) (by simp [Value.oneCell']) (by omega) (by have := HLE.out.1; rw [maxLen]; omega) (by have := HLE.out.1; omega) (by simp; omega) _ rfl ?_)
      intro g7 cap7 w7 hown hgrow hat hlt7
      have hltS : ∀ x, vS'.ownBlock = some x → x < ws.heap.size := fun x hx => (owns_lt HS2.out.own.sh.S hx).2
      have hltV : ∀ x, vV'.ownBlock = some x → x < ws.heap.size := fun x hx => (owns_lt HS2.out.own.sh.V hx).2
      have hltG : ∀ k, k < LJ.length → (gs2.getD k sl0).a ≠ some ⟨ws.heap.size, 0, none⟩ := fun k hk e => by
       obtain ⟨y, y1, _, y3, _⟩ := HS2.out.own.sh.sets k hk
       rw [e] at y1
       injection y1 with y1; injection y1 with y1
       omega
      obtain ⟨hEx, t0, t1, t2, hS3⟩ := (HS2.out.keep (((Ext.refl ws).alloc (.cells #[.int .i64 0] 3)).alloc (.cells #[.slice (some ⟨ws.heap.size, 0, none⟩) 1 1] 22))).addS (L := [0]) (HVI.out.ext ((Ext.refl _).alloc _)) rfl (by omega) (fun x hx => by simp at hx; subst hx; exact ⟨by omega, by omega⟩) (fun e => by have := hltS _ e; omega) (fun e => by have := hltV _ e; omega) hltG hown hgrow (by rw [World.size_alloc, World.size_alloc]; exact hat)
      have HS3 := Lib.hid hS3
      clear hown hgrow hat hS3 hltS hltV hltG hEx t0
      go_upto_region 16 with (fail)
      refine wp_gen (fun W => SpI w W B N (.slice (some ⟨sb, so, none⟩) i sc) (.slice (some ⟨vb, vo, none⟩) i vc) (.slice (some ⟨g7, 0, none⟩) (LJ.length + 1) cap7) vV' (gs2 ++ [⟨some ⟨ws.heap.size, 0, none⟩, 1, 1⟩]) (LJ ++ [[0]]) ZJ) HS3.out ?_
      clear HS3 t1 t2 y1
      intro W4 hS4
      have HS4 := Lib.hid hS4
      have z2 : W4.cell? ⟨B + 1 + 1, 2, none⟩ = some vV' := hS4.box.cell 2
      have hb4 := hS4.box.lt
      clear hS4
      have HNW := Lib.hid (ints_news (ints_one W4 1 ⟨by omega, by omega⟩) (by omega))
      go_wp2_with (at_builtin; refine wpList_append_lies _ rfl _ _ _ rfl (B + 1 + 1 + 1) 3 i0 _ 1 8 Try.underlying22 hi0 hz0 hz1 hz2 rfl (by omega) vV' ZJ.length (ivals ZJ) rfl (owns_ext ((Ext.refl W4).alloc _) HS4.out.own.sh.V) ⟨W4.heap.size, 0, none⟩ 1 1 (ivals [1]) rfl rfl HNW.out (ivals_one _) (by omega) (by have := HLE.out.2.1; rw [maxLen]; omega) (by have := HLE.out.2.1; omega) (by simp; omega) _ rfl ?_)
      intro g8 cap8 w8 hown hgrow hat hlt8
      obtain ⟨t1, t2, hS5⟩ := (HS4.out.keep ((Ext.refl W4).alloc _)).addVs (ys := [1]) rfl hown hgrow (by rw [World.size_alloc]; exact hat)
      have HS5 := Lib.hid hS5
      clear hown hgrow hat hS5
      go_wp2_with fail
      go_roundw
      case rel => exact ⟨j + 1, _, _, _, by omega, by go_num, by rw [List.replicate_succ', List.replicate_succ', ← List.append_assoc, ← List.append_assoc, HLE.out.2.2.1, HLE.out.2.2.2]; exact HS5.out⟩
      case measure => first | (simp [intOf]; done) | (simp [intOf]; omega)
     ·have hjl' : ¬ (j : Int) < 118 + (Q : Int) := by omega
      have hlL := H.out.2.2.1
      have hzL := H.out.2.2.2
      have hl1 := HLE.out.1
      have hl2 := HLE.out.2.1
      have hLJ := HLE.out.2.2.1
      have hZJ := HLE.out.2.2.2
      have hcl2 : ∀ k, (LJ.getD k []).length ≤ 1000 := fun k => by
       rw [← hLJ]
       by_cases hk : k < Ls.length
       ·rw [getD_app hk]; exact HS.out.2.2.2 k
       ·rw [List.getD_eq_getElem?_getD, List.getElem?_append_right (by omega)]
        by_cases hk2 : k - Ls.length < j
        ·rw [List.getElem?_replicate, if_pos hk2]; simp
        ·rw [List.getElem?_eq_none (by simp; omega)]; simp
      have hz64 : ∀ k, k < ZJ.length → Int64 (ZJ.getD k 0) := fun k hk => by
       rw [← hZJ]
       rw [hl2] at hk
       by_cases hk' : k < zs.length
       ·rw [getD_app hk']; exact H.out.1.vals.2.2.1 k (by simp only; omega)
       ·rw [List.getD_eq_getElem?_getD, List.getElem?_append_right (by omega)]
        rw [List.getElem?_replicate, if_pos (by omega)]
        exact ⟨by simp, by simp⟩
      obtain ⟨ss3, vs3, rfl, rfl, hn3, hn4, hSh3⟩ := HS2.out.own.sh.shin (n := (N : Int)) (by omega) (by omega) hz64 hcl2
      have hAw3 := HS2.out.own.sh.away
      have hl3 := hl1
      rw [← hn3] at hAw3
      obtain ⟨s3a, s3n, s3c⟩ := ss3
      obtain ⟨v3a, v3n, v3c⟩ := vs3
      simp only at hn3 hAw3
      have hsn3 : s3n ≤ 900 := by omega
      simp only [Sl.v] at y1
      have HE3 := Lib.hid (And.intro HS2.out.ext (And.intro HS2.out.res (And.intro HS2.out.box (And.intro hSh3 hAw3))))
      clear hSh3 hAw3 hcl2 hz64 hn3 hn4 hl3 HS2 y1 hLJ hZJ hl1 hl2
      go_upto_region 27 with (fail)
      refine wp_gen (fun W => (Ext w W ∧ Blk W (B + 1) #[.int .i64 0, .slice none 0 0, .slice none 0 0] 25 ∧ Blk W (B + 1 + 1) #[.int .i64 (N : Int), Sl.v ⟨s3a, s3n, s3c⟩, Sl.v ⟨v3a, v3n, v3c⟩] 25 ∧ ShIn W (N : Int) ⟨s3a, s3n, s3c⟩ ⟨v3a, v3n, v3c⟩ gs2 LJ ZJ ∧ Away (B + 1 + 1 + 1) ⟨s3a, s3n, s3c⟩ ⟨v3a, v3n, v3c⟩ gs2 s3n)) HE3.out ?_
      clear HE3
      (intro W9 h9; have HF := Lib.hid h9; have y0 : W9.cell? ⟨B + 1 + 1, 0, none⟩ = some (.int .i64 (N : Int)) := h9.2.2.1.cell 0; have y1 : W9.cell? ⟨B + 1 + 1, 1, none⟩ = some (Sl.v ⟨s3a, s3n, s3c⟩) := h9.2.2.1.cell 1; have y2 : W9.cell? ⟨B + 1 + 1, 2, none⟩ = some (Sl.v ⟨v3a, v3n, v3c⟩) := h9.2.2.1.cell 2; have r0 : W9.cell? ⟨B + 1, 0, none⟩ = some (.int .i64 0) := h9.2.1.cell 0; have r1 : W9.cell? ⟨B + 1, 1, none⟩ = some (.slice none 0 0) := h9.2.1.cell 1; have r2 : W9.cell? ⟨B + 1, 2, none⟩ = some (.slice none 0 0) := h9.2.1.cell 2; have g0 : W9.frozen? ⟨B + 1, 0, none⟩ = false := h9.2.1.free 0; have g1 : W9.frozen? ⟨B + 1, 1, none⟩ = false := h9.2.1.free 1; have g2 : W9.frozen? ⟨B + 1, 2, none⟩ = false := h9.2.1.free 2; clear h9; simp only [Sl.v] at y1 y2; go_wp2_with fail; have hbl := ((HF.out.2.1.set 0 (.int .i64 (N : Int))).set 1 (Sl.v ⟨s3a, s3n, s3c⟩)).set 2 (Sl.v ⟨v3a, v3n, v3c⟩); have q0 := hbl.cell 0; have q1 := hbl.cell 1; have q2 := hbl.cell 2; simp [Sl.v] at q0 q1 q2; refine bodyPost_ret (v := .agg #[.int .i64 (N : Int), Sl.v ⟨s3a, s3n, s3c⟩, Sl.v ⟨v3a, v3n, v3c⟩]) (by simp [results, Try.results11, go_sem, Sl.v, q0, q1, q2]) rfl ?_; exact SpoPost.of ⟨((HF.out.1.setCell (by simp; omega) _).setCell (by simp; omega) _).setCell (by simp; omega) _, (N : Int), ⟨s3a, s3n, s3c⟩, ⟨v3a, v3n, v3c⟩, gs2, LJ, ZJ, rfl, ((HF.out.2.2.2.1.put HF.out.2.2.2.2 (by omega)).put HF.out.2.2.2.2 (by omega)).put HF.out.2.2.2.2 (by omega), ⟨by omega, by omega⟩, (.inl rfl), by simp only; omega⟩)
end Go.Proofs.Ytkoidookanmknaa
