/- ShieldChecks: a list of small integers and the same as fractions, that grow side by side. -/
import Derived.Test.YtkoidookanmknaaSV64
import Derived.Test.YtkoidookanmknaaSV14
namespace Go.Proofs.Ytkoidookanmknaa
set_option linter.unusedSimpArgs false
set_option linter.unusedVariables false
open Go.RowKit

theorem isF_Q {w : World} {f : FV} {x : Int} (h : IsF w f x 1) : IsQ w f (x : Rat) := ⟨x, 1, h, by simp⟩
theorem BB_ge : 2000 ≤ BB := by unfold BB; decide +kernel
theorem sm_int {x : Int} (h : x.natAbs ≤ 2000) : SmB BB ((x : Int) : Rat) := ⟨x, 1, by omega, by have := BB_ge; omega, by have := BB_ge; omega, by simp⟩
theorem small_sums {ds : List Int} (h : ∀ c, -2 ≤ ds.getD c 0 ∧ ds.getD c 0 ≤ 2) (L : List Int) (j : Nat) (hj : j ≤ 1000) : SmB BB (sumV (vecI ds) L j) := by
 rw [sumV_I]
 have := sumI_bd (l := L) h j
 exact sm_int (by omega)
/-- Check, with small integers. -/
theorem CheckI_c (n : Int) (ss vs : Sl) (gs : List Sl) (Ls : List (List Int)) (zs : List Int) (ha : Option Addr) (m hc : Nat) (hs : List Bool) (set : Int) (ca : Option Addr) (cm cc : Nat) (ds : List Int) (w : World) (h : ShIn w n ss vs gs Ls zs) (hH : Bls w ha m hs) (hm : m ≤ 1000) (hv : VecOf w ca cm (vecI ds)) (hcm : cm ≤ 1000) (hb : ∀ c, -2 ≤ ds.getD c 0 ∧ ds.getD c 0 ≤ 2) :
  Calls Try.prog 25 #[.agg #[.int .i64 n, ss.v, vs.v], .slice ha m hc, .int .i64 set, .slice ca cm cc] w fun e w' => e = .returned (.int .i64 (rchkE n Ls zs hs m set cm ds)) ∧ Ext w w' := by
 have := Check_c n ss vs gs Ls zs ha m hc hs set ca cm cc (vecI ds) w h hH hm hv hcm (fun _ => ⟨fun k j hj => small_sums hb _ j (Nat.le_trans hj (h.len k)), fun c => sm_int (by have := hb c; omega)⟩)
 rw [chk_same] at this
 exact this
/-- The two lists. -/
structure PC (w : World) (base : Nat) (pv cv : Value) (ds : List Int) (fs : List FV) : Prop where
 p : VRow w base pv ds
 pn : NUv w pv
 c : GRow encF 58 w base cv fs
 cn : NUv w cv
theorem PC.nil (w : World) (base : Nat) : PC w base (.slice none 0 0) (.slice none 0 0) [] [] := ⟨⟨rfl, .inl ⟨rfl, rfl⟩⟩, NUv.nil w, GRow.nil encF 58 w base, NUv.nil w⟩
theorem PC.ext {w w' : World} {base : Nat} {pv cv : Value} {ds : List Int} {fs : List FV} (h : PC w base pv cv ds fs) (k : Ext w w') : PC w' base pv cv ds fs := ⟨gowns_ext k h.p, h.pn.ext k h.p, h.c.ext k, h.cn.ext k h.c⟩
theorem nu_other {w w' : World} {b b' : Nat} {e e' : TypeId} {s s' : Nat} {v u : Value} {n m : Nat} {xs ys : List Value} (h : w.ownsRow b e s v n xs) (h' : w.ownsRow b' e' s' u m ys) (he : e ≠ e') (g : w.grownBy w' u.ownBlock) (hn : NUv w v) : w'.ownsRow b e s v n xs ∧ NUv w' v := by
 have hne := owns_ne h h' he
 refine ⟨h.kept g hne, fun k hk o x => ?_⟩
 have hlt := (gowns_lt h hk).2
 rw [World.cell?_of_block (g.block k hlt (by rw [← hk]; rcases hne with h1 | h1; rw [h1] at hk; cases hk; exact h1))]
 exact hn k hk o x
theorem PC.addP {w w' : World} {base g cap : Nat} {pv cv : Value} {ds : List Int} {fs : List FV} {x : Int} (h : PC w base pv cv ds fs) (hown : w'.ownsRow base 3 1 (.slice (some ⟨g, 0, none⟩) (ds.length + 1) cap) (ds.length + 1) (ivals ds ++ ivals [x])) (hgr : w.grownBy w' pv.ownBlock) (hn : NU w' g) : PC w' base (.slice (some ⟨g, 0, none⟩) (ds.length + 1) cap) cv (ds ++ [x]) fs :=
 ⟨VRow.app rfl hown, fun k hk => by simp [Value.ownBlock] at hk; subst hk; exact hn, (nu_other h.c h.p (by decide) hgr h.cn).1, (nu_other h.c h.p (by decide) hgr h.cn).2⟩
theorem PC.addC {w w' : World} {base g cap : Nat} {pv cv : Value} {ds : List Int} {fs : List FV} {f : FV} (h : PC w base pv cv ds fs) (hown : w'.ownsRow base 58 4 (.slice (some ⟨g, 0, none⟩) (fs.length + 1) cap) (fs.length + 1) (gcells encF fs ++ gcells encF [f])) (hgr : w.grownBy w' cv.ownBlock) (hn : NU w' g) : PC w' base pv (.slice (some ⟨g, 0, none⟩) (fs.length + 1) cap) ds (fs ++ [f]) :=
 ⟨(nu_other h.p h.c (by decide) hgr h.pn).1, (nu_other h.p h.c (by decide) hgr h.pn).2, GRow.app hown rfl, fun k hk => by simp [Value.ownBlock] at hk; subst hk; exact hn⟩
/-- The fractions stand for the integers. -/
def FV1 (w : World) (ds : List Int) (fs : List FV) : Prop := ∀ j f, fs[j]? = some f → IsQ w f ((ds.getD j 0 : Int) : Rat)
theorem FV1.keepU {w w' : World} {ds : List Int} {fs : List FV} (h : FV1 w ds fs) (k : IU w w') : FV1 w' ds fs := fun j f hj => (h j f hj).keepU k
theorem FV1.more {w : World} {ds : List Int} {fs : List FV} {x : Int} (h : FV1 w ds fs) (hl : fs.length = ds.length) : FV1 w (ds ++ [x]) fs := fun j f hj => by
 have := h j f hj
 have hj2 : j < ds.length := by rw [← hl]; exact (List.getElem?_eq_some_iff.1 hj).1
 rwa [List.getD_eq_getElem?_getD, List.getElem?_append_left hj2, ← List.getD_eq_getElem?_getD]
theorem FV1.add {w : World} {ds : List Int} {fs : List FV} {x : Int} {f : FV} (h : FV1 w (ds ++ [x]) fs) (hl : fs.length = ds.length) (hf : IsQ w f (x : Rat)) : FV1 w (ds ++ [x]) (fs ++ [f]) := fun j g hj => by
 rcases Nat.lt_trichotomy j fs.length with h3 | h3 | h3
 ·rw [List.getElem?_append_left h3] at hj
  exact h j g hj
 ·subst h3
  rw [List.getElem?_append_right (Nat.le_refl _), Nat.sub_self] at hj
  simp at hj
  subst hj
  rw [hl, List.getD_eq_getElem?_getD, List.getElem?_append_right (Nat.le_refl _), Nat.sub_self]
  exact hf
 ·rw [List.getElem?_eq_none (by simp; omega)] at hj; cases hj
theorem encF_nu (l : List FV) : ∀ u ∈ gcells encF l, ∀ m, u ≠ Value.int .u32 m := by
 intro u hu m
 simp [gcells] at hu
 obtain ⟨p, _, hp⟩ := hu
 simp [encF] at hp
 rcases hp with rfl | rfl | rfl | rfl <;> simp
theorem ivals_nu (l : List Int) : ∀ u ∈ ivals l, ∀ m, u ≠ Value.int .u32 m := by
 intro u hu m
 simp [ivals] at hu
 obtain ⟨p, _, rfl⟩ := hu
 simp
theorem frInfo : (Try.prog.info? 58).map (fun i => (i.zero, i.size, i.bytes)) = some (some (.agg #[.bool false, .slice none 0 0, .bool false, .slice none 0 0]), 4, 64) := by kernel_rfl
theorem bd_snoc {ds : List Int} {x : Int} (h : ∀ c, -2 ≤ ds.getD c 0 ∧ ds.getD c 0 ≤ 2) (hx : -2 ≤ x ∧ x ≤ 2) : ∀ c, -2 ≤ (ds ++ [x]).getD c 0 ∧ (ds ++ [x]).getD c 0 ≤ 2 := fun c => by
 rw [List.getD_eq_getElem?_getD]
 rcases Nat.lt_trichotomy c ds.length with h3 | h3 | h3
 ·rw [List.getElem?_append_left h3, ← List.getD_eq_getElem?_getD]; exact h c
 ·subst h3
  rw [List.getElem?_append_right (Nat.le_refl _), Nat.sub_self]; exact hx
 ·rw [List.getElem?_eq_none (by simp; omega)]; simp
/-- What is read of both. -/
structure PRd (w : World) (pa ca : Option Addr) (m : Nat) (ds : List Int) : Prop where
 i : Ints w pa m ds
 v : VecOf w ca m (vecI ds)
theorem PRd.keep {w w' : World} {pa ca : Option Addr} {m : Nat} {ds : List Int} (h : PRd w pa ca m ds) (k : Ext w w') : PRd w' pa ca m ds := ⟨h.i.keep k.ik, h.v.ext k⟩
theorem PC.none0 {w : World} {base : Nat} {pv cv : Value} {ds : List Int} {fs : List FV} (h : PC w base pv cv ds fs) (hl : fs.length = ds.length) (h0 : ds.length = 0) : ∃ pa pc ca cc, pv = .slice pa 0 pc ∧ cv = .slice ca 0 cc ∧ PRd w pa ca 0 [] := by
 have e1 : ds = [] := List.eq_nil_of_length_eq_zero h0
 have e2 : fs = [] := List.eq_nil_of_length_eq_zero (by omega)
 subst e1; subst e2
 obtain ⟨_, ⟨hv, _⟩ | ⟨g, cap, cur, hv, _⟩⟩ := h.p
 ·obtain ⟨_, ⟨hu, _⟩ | ⟨g', cap', cur', hu, _⟩⟩ := h.c
  ·exact ⟨_, _, _, _, hv, hu, ⟨⟨rfl, by omega, fun i hi => absurd hi (by omega), .inl rfl⟩, fun i hi => absurd hi (by omega)⟩⟩
  ·exact ⟨_, _, _, _, hv, hu, ⟨⟨rfl, by omega, fun i hi => absurd hi (by omega), .inl rfl⟩, fun i hi => absurd hi (by omega)⟩⟩
 ·obtain ⟨_, ⟨hu, _⟩ | ⟨g', cap', cur', hu, _⟩⟩ := h.c
  ·exact ⟨_, _, _, _, hv, hu, ⟨⟨rfl, by omega, fun i hi => absurd hi (by omega), .inl rfl⟩, fun i hi => absurd hi (by omega)⟩⟩
  ·exact ⟨_, _, _, _, hv, hu, ⟨⟨rfl, by omega, fun i hi => absurd hi (by omega), .inl rfl⟩, fun i hi => absurd hi (by omega)⟩⟩
theorem getD_drop1 (ds : List Int) (c : Nat) : (ds.drop 1).getD c 0 = ds.getD (c + 1) 0 := by
 rw [List.getD_eq_getElem?_getD, List.getElem?_drop, Nat.add_comm, ← List.getD_eq_getElem?_getD]
/-- At least one: the whole, and all but the first. -/
theorem PC.whole {w : World} {base : Nat} {pv cv : Value} {ds : List Int} {fs : List FV} (h : PC w base pv cv ds fs) (hq : FV1 w ds fs) (hb : ∀ c, -2 ≤ ds.getD c 0 ∧ ds.getD c 0 ≤ 2) (hl : fs.length = ds.length) (hm : ds.length ≤ 1000) (h0 : 0 < ds.length) :
  ∃ (g : Nat) (pc : Nat) (k : Nat) (cc : Nat), pv = .slice (some ⟨g, 0, none⟩) ds.length pc ∧ cv = .slice (some ⟨k, 0, none⟩) ds.length cc ∧ ds.length ≤ pc ∧ ds.length ≤ cc ∧ pc ≤ maxLen ∧ cc ≤ maxLen ∧ PRd w (some ⟨g, 0, none⟩) (some ⟨k, 0, none⟩) ds.length ds ∧ ∀ o o' : Nat, (1 < ds.length → o = 1 ∧ o' = 4) → PRd w (some ⟨g, o, none⟩) (some ⟨k, o', none⟩) (ds.length - 1) (ds.drop 1) := by
 have hp := h.p
 have hc := h.c
 obtain ⟨_, ⟨_, h9⟩ | ⟨g, pc, cur, rfl, hgb, hgh, hgn, hgm, hgr⟩⟩ := hp
 ·omega
 obtain ⟨_, ⟨_, h9⟩ | ⟨k, cc, cur', rfl, hkb, hkh, hkn, hkm, hkr⟩⟩ := hc
 ·omega
 have hcell : ∀ i, i < ds.length → w.cell? ⟨g, i, none⟩ = Option.some (.int .i64 (ds.getD i 0)) := fun i hi => VRow.cells h.p i hi
 have hgat := h.c.gat
 have hlt : g < w.heap.size := lt_of_cell (hcell 0 h0)
 have hkl : k < w.heap.size := (gowns_lt h.c rfl).2
 have hQ : ∀ i, i < ds.length → ∃ f, Quad w k (0 + i * 4) f ∧ IsQ w f (vecI ds i) := fun i hi => by
  obtain ⟨f, hf⟩ : ∃ f, fs[i]? = Option.some f := ⟨_, List.getElem?_eq_getElem (by omega)⟩
  refine ⟨f, ?_, hq i f hf⟩
  rw [Nat.zero_add]
  exact ⟨hgat i f hf 0 (by decide), hgat i f hf 1 (by decide), hgat i f hf 2 (by decide), hgat i f hf 3 (by decide)⟩
 refine ⟨g, pc, k, cc, rfl, by rw [← hl], by omega, by omega, by omega, by omega, ⟨⟨rfl, by omega, fun i hi => ⟨by have := hb i; omega, by have := hb i; omega⟩, .inr ⟨g, 0, rfl, hlt, fun i hi => by rw [Nat.zero_add]; exact hcell i hi⟩⟩, fun i hi => ?_⟩, fun o o' ho => ⟨⟨by rw [List.length_drop], by omega, fun i hi => by rw [getD_drop1]; exact ⟨by have := hb (i + 1); omega, by have := hb (i + 1); omega⟩, ?_⟩, fun i hi => ?_⟩⟩
 ·obtain ⟨f, h1, h2⟩ := hQ i hi
  exact ⟨k, 0, f, rfl, hkl, h1, h2⟩
 ·by_cases h1 : 1 < ds.length
  ·obtain ⟨rfl, rfl⟩ := ho h1
   refine .inr ⟨g, 1, rfl, hlt, fun i hi => ?_⟩
   rw [getD_drop1, Nat.add_comm 1 i]
   exact hcell (i + 1) (by omega)
  ·exact .inl (by omega)
 ·obtain ⟨rfl, rfl⟩ := ho (by omega)
  obtain ⟨f, h1, h2⟩ := hQ (i + 1) (by omega)
  refine ⟨k, 4, f, rfl, hkl, ?_, ?_⟩
  ·rw [show 4 + i * 4 = 0 + (i + 1) * 4 from by omega]; exact h1
  ·unfold vecI at h2 ⊢
   rw [getD_drop1]; exact h2
theorem bd_drop {ds : List Int} (h : ∀ c, -2 ≤ ds.getD c 0 ∧ ds.getD c 0 ≤ 2) : ∀ c, -2 ≤ (ds.drop 1).getD c 0 ∧ (ds.drop 1).getD c 0 ≤ 2 := fun c => by rw [getD_drop1]; exact h (c + 1)
end Go.Proofs.Ytkoidookanmknaa
