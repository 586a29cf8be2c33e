/- shield: Hide. -/
import Derived.Test.YtkoidookanmknaaSV21
import Derived.Deep.LoopGhost
namespace Go.Proofs.Ytkoidookanmknaa
set_option linter.unusedSimpArgs false
set_option linter.unusedVariables false
open Go.RowKit

/-- The first number that has a property, or -1. -/
def firstF (Q : Nat → Bool) : Nat → Nat → Int
 | _, 0 => -1
 | i, n + 1 => if Q i = true then (i : Int) else firstF Q (i + 1) n
theorem firstF_none (Q : Nat → Bool) : ∀ n i, (∀ j, i ≤ j → j < i + n → Q j = false) → firstF Q i n = -1
 | 0, _, _ => rfl
 | n + 1, i, h => by
  unfold firstF
  rw [if_neg (by rw [h i (Nat.le_refl _) (by omega)]; simp), firstF_none Q n (i + 1) (fun j h1 h2 => h j (by omega) (by omega))]
theorem firstF_some (Q : Nat → Bool) : ∀ n i k, i ≤ k → k < i + n → Q k = true → (∀ j, i ≤ j → j < k → Q j = false) → firstF Q i n = (k : Int)
 | 0, i, k, h1, h2, _, _ => by omega
 | n + 1, i, k, h1, h2, h3, h4 => by
  unfold firstF
  by_cases hk : k = i
  ·subst hk; rw [if_pos h3]
  ·rw [if_neg (by rw [h4 i (Nat.le_refl _) (by omega)]; simp)]
   exact firstF_some Q n (i + 1) k (by omega) (by omega) h3 (fun j h5 h6 => h4 j (by omega) h6)
/-- The set that is hidden next. -/
def moreF (D : List Bool → Nat → Bool) (zs : List Int) (hs : List Bool) (m h : Nat) : Int :=
 if bestF zs hs (fun i => !D (hs.set i true) h) m < 0 then bestF zs hs (fun _ => true) m else bestF zs hs (fun i => !D (hs.set i true) h) m
def nextF (D : List Bool → Nat → Bool) (hs : List Bool) (m : Nat) : Int := firstF (fun i => hs.getD i false && D hs i) 0 m
def hideF (D : List Bool → Nat → Bool) (zs : List Int) (m : Nat) : Nat → List Bool → List Bool
 | 0, hs => hs
 | f + 1, hs => if nextF D hs m < 0 then hs else hideF D zs m f (hs.set (moreF D zs hs m (nextF D hs m).toNat).toNat true)
/-- How many sets are published. -/
def pubN (hs : List Bool) : Nat := hs.count false
theorem pubN_set : ∀ (hs : List Bool) (k : Nat), k < hs.length → hs.getD k false = false → pubN (hs.set k true) + 1 = pubN hs
 | [], k, h, _ => by simp at h
 | b :: hs, 0, _, h => by
  simp at h
  subst h
  simp [pubN]
 | b :: hs, k + 1, h, h2 => by
  have := pubN_set hs k (by simpa using h) (by simpa using h2)
  unfold pubN at *
  rw [List.set_cons_succ, List.count_cons, List.count_cons]
  omega
def hidA (zs : List Int) (lim : Int) (m i : Nat) : List Bool := (List.range m).map fun j => decide (j < i) && (decide (1 ≤ zs.getD j 0) && decide (zs.getD j 0 < lim))
/-- The first hidden sets. -/
def hide0 (zs : List Int) (lim : Int) (m : Nat) : List Bool := (List.range m).map fun j => decide (1 ≤ zs.getD j 0) && decide (zs.getD j 0 < lim)
theorem hide0_len (zs : List Int) (lim : Int) (m : Nat) : (hide0 zs lim m).length = m := by simp [hide0]
theorem hidA_done (zs : List Int) (lim : Int) (m : Nat) : hidA zs lim m m = hide0 zs lim m := by
 unfold hidA hide0
 refine List.map_congr_left fun j hj => ?_
 rw [decide_eq_true (List.mem_range.1 hj)]; rfl
theorem hidA_zero (zs : List Int) (lim : Int) (m : Nat) : hidA zs lim m 0 = List.replicate m false := by
 refine List.ext_getElem (by simp [hidA]) fun i h1 h2 => ?_
 simp [hidA]
theorem hidA_step (zs : List Int) (lim : Int) (m i : Nat) (hi : i < m) (b : Bool) (hb : (decide (1 ≤ zs.getD i 0) && decide (zs.getD i 0 < lim)) = b) : (hidA zs lim m i).set i b = hidA zs lim m (i + 1) := by
 refine List.ext_getElem (by simp [hidA]) fun j h1 h2 => ?_
 have hj : j < m := by simpa [hidA] using h2
 rw [List.getElem_set]
 simp only [hidA, List.getElem_map, List.getElem_range]
 by_cases h : i = j
 ·subst h
  rw [if_pos rfl, decide_eq_true (show i < i + 1 by omega), ← hb]; rfl
 ·rw [if_neg h]
  congr 1
  rw [decide_eq_decide]; omega
theorem make_bools (n : Nat) (x y : Int) (hx : x = (n : Int)) (hy : y = (n : Int)) (hn : n ≤ 1000000) (w : World) :
  (Instr.makeSlice 34 (.int .i64 x) (.int .i64 y)).run Try.prog w = .ok (.slice (some ⟨w.heap.size, 0, none⟩) n n) (w.alloc (.cells (bvals (List.replicate n false)).toArray 4)) := by
 obtain ⟨i0, hi, hz0, hz1, hz2⟩ := info_parts boolInfo
 have h := run_make (P := Try.prog) w 34 4 i0 (.bool false) Try.underlying34 hi hz0 .i64 .i64 n n (by omega) (Int.le_refl _) (by rw [hz2]; omega) (by omega)
 subst hx; subst hy
 rw [h, hz1]
 simp only [Int.toNat_natCast, Nat.mul_one]
 rw [show (Value.cells (.bool false)) = #[.bool false] from rfl]
 have e : madeCells #[Value.bool false] n = (bvals (List.replicate n false)).toArray := by
  apply Array.toList_inj.1
  rw [toList_madeCells_one]
  simp [bvals]
 rw [e]
theorem blk_bls {w : World} {b n : Nat} {l : List Bool} {t : TypeId} (h : Blk w b (bvals l).toArray t) (hl : l.length = n) : Bls w (some ⟨b, 0, none⟩) n l :=
 ⟨hl, .inr ⟨b, 0, rfl, h.lt, fun i hi => by
  rw [Nat.zero_add, Blk.cell h]
  simp [bvals, show i < l.length by omega]⟩⟩
/-- A variable in a box of its own. -/
def VarC (w : World) (b : Nat) (v : Value) : Prop := w.cell? ⟨b, 0, none⟩ = some v ∧ ∀ o, w.frozen? ⟨b, o, none⟩ = false
theorem VarC.ext {w w' : World} {b : Nat} {v : Value} (h : VarC w b v) (k : Ext w w') : VarC w' b v := ⟨k.cell h.1, fun o => by rw [k.see.2.1 b o (lt_of_cell h.1)]; exact h.2 o⟩
/-- What the loop of Hide keeps. -/
structure HLoop (w W : World) (n m sb hx hb : Nat) (ss vs : Sl) (hs : List Bool) : Prop where
 ext : Ext w W
 s0 : W.cell? ⟨sb, 0, none⟩ = some (.int .i64 (n : Int))
 s1 : W.cell? ⟨sb, 1, none⟩ = some ss.v
 s2 : W.cell? ⟨sb, 2, none⟩ = some vs.v
 h0 : W.cell? ⟨hx, 0, none⟩ = some (.slice (some ⟨hb, 0, none⟩) m m)
 bls : Bls W (some ⟨hb, 0, none⟩) m hs
 free : ∀ o, W.frozen? ⟨hb, o, none⟩ = false
 ge : w.heap.size ≤ hb
 lt : hb < W.heap.size
theorem HLoop.next {w W W' : World} {n m sb hx hb : Nat} {ss vs : Sl} {hs : List Bool} (h : HLoop w W n m sb hx hb ss vs hs) (k : Ext W W') : HLoop w W' n m sb hx hb ss vs hs :=
 ⟨h.ext.trans k, k.cell h.s0, k.cell h.s1, k.cell h.s2, k.cell h.h0, h.bls.ext k, fun o => by rw [k.see.2.1 hb o h.lt]; exact h.free o, h.ge, Nat.lt_of_lt_of_le h.lt k.size⟩
theorem HLoop.put {w W : World} {n m sb hx hb k : Nat} {ss vs : Sl} {hs : List Bool} {b : Bool} (h : HLoop w W n m sb hx hb ss vs hs) (hk : k < m) (h1 : sb ≠ hb) (h2 : hx ≠ hb) : HLoop w (W.setCell ⟨hb, k, none⟩ (.bool b)) n m sb hx hb ss vs (hs.set k b) :=
 ⟨h.ext.setCell h.ge _, cell_set h.s0 h1, cell_set h.s1 h1, cell_set h.s2 h1, cell_set h.h0 h2, h.bls.set hk, own2_set h.free, h.ge, by simpa using h.lt⟩
theorem HLoop.var {w W : World} {n m sb hx hb hv : Nat} {ss vs : Sl} {hs : List Bool} {x : Value} (h : HLoop w W n m sb hx hb ss vs hs) (h1 : sb ≠ hv) (h2 : hx ≠ hv) (h3 : hb ≠ hv) (h4 : w.heap.size ≤ hv) : HLoop w (W.setCell ⟨hv, 0, none⟩ x) n m sb hx hb ss vs hs := by
 refine ⟨h.ext.setCell h4 _, cell_set h.s0 h1, cell_set h.s1 h1, cell_set h.s2 h1, cell_set h.h0 h2, ⟨h.bls.1, ?_⟩, own2_set h.free, h.ge, by simpa using h.lt⟩
 obtain ⟨_, h0 | ⟨b, off, ha, hb', hc⟩⟩ := h.bls
 ·exact .inl h0
 ·injection ha with ha; injection ha with e1 e2
  subst e1; subst e2
  exact .inr ⟨hb, 0, rfl, by simpa using hb', fun i hi => cell_set (hc i hi) h3⟩
theorem HLoop.ctx {w W : World} {n m sb hx hb : Nat} {ss vs : Sl} {hs : List Bool} {gs : List Sl} {Ls : List (List Int)} {zs : List Int} (h : HLoop w W n m sb hx hb ss vs hs) (ok : SheetOK w n ss gs Ls) (vals : Ints w vs.a vs.n zs) (lm : Ls.length = m) (zm : zs.length = m) (few : FewOK Ls) (n32 : n ≤ 1000) : HCtx W n m sb hx hb ss vs gs Ls zs hs :=
 ⟨h.s0, h.s1, h.s2, h.h0, ok.ext h.ext, vals.keep h.ext.ik, h.bls, lm, zm, few, n32⟩
/-- The error of Hide. -/
def hideE (n : Int) (Ls : List (List Int)) (zs : List Int) (lim : Int) : Int := if validE n Ls zs ≠ 0 then validE n Ls zs else if lim < 0 ∨ 1099511627776 < lim then 1 else 0
/-- A determined hidden set comes with a published one. -/
theorem pub_of_det {Ls : List (List Int)} {hs : List Bool} {k : Nat} (h : Det Ls hs k) (hne : Ls.getD k [] ≠ []) (hpos : ∀ x, x ∈ Ls.getD k [] → 0 ≤ x) : ∃ j, j < Ls.length ∧ hs.getD j false = false := by
 apply Classical.byContradiction
 intro hno
 have hz : ∀ c, rowV (Ls.getD k []) c = 0 := fun c =>
  Sp.lin (fun v => v c) rfl (fun v u a => rfl) (fun u hu => by
   obtain ⟨j, hj, h1, _⟩ := hu
   exact absurd ⟨j, hj, h1⟩ hno) h
 obtain ⟨x, hx⟩ := List.exists_mem_of_ne_nil _ hne
 have := hz x.toNat
 unfold rowV at this
 rw [if_pos (by rw [Int.toNat_of_nonneg (hpos x hx)]; exact hx)] at this
 exact absurd this (by decide)
theorem more_ok {Ls : List (List Int)} {zs : List Int} {hs : List Bool} {m h : Nat} {D : List Bool → Nat → Bool} (hp : ∃ j, j < m ∧ hs.getD j false = false) : 0 ≤ moreF D zs hs m h ∧ moreF D zs hs m h < m ∧ hs.getD (moreF D zs hs m h).toNat false = false := by
 obtain ⟨j, hj, h1⟩ := hp
 unfold moreF
 split
 ·have h2 := bestF_some zs hs (fun _ => true) m j hj h1 rfl
  exact ⟨h2, (bestF_bd _ _ _ _).2, (bestF_pub _ _ _ _ h2).1⟩
 ·rename_i h3
  exact ⟨by omega, (bestF_bd _ _ _ _).2, (bestF_pub zs hs (fun i => !D (hs.set i true) h) m (by omega)).1⟩
end Go.Proofs.Ytkoidookanmknaa
