/- Magnitudes and memory: words, slices, rows, sums and products. -/
import Derived.Test.YtkoidookanmknaaRows
import Derived.WalkKit
import Derived.WalkSpells
import Derived.WalkLawsBesides
import Derived.Lib.Hide
import Derived.Deep.RegionHeld3
import Derived.Deep.QuietTactic
import Derived.BigQuiet
import Derived.OneCell
import Derived.Laws.CopyOwn
import Derived.Deep.DeepCutAuto
/- Plain arithmetic of magnitudes: lists of words, least significant first. No program here. -/
namespace Go.Proofs.Ytkoidookanmknaa
set_option linter.unusedSimpArgs false
set_option linter.unusedVariables false

/-- The base of the words. -/
@[irreducible] def B32 : Nat := 4294967296
theorem B32_eq : B32 = 4294967296 := by unfold B32; rfl
theorem B32_pos : 0 < B32 := by rw [B32_eq]; omega
theorem getD_lt (l : List Nat) (i : Nat) (h : i < l.length) : l.getD i 0 = l[i] := by simp [List.getD_eq_getElem?_getD, h]
theorem getD_ge (l : List Nat) (i : Nat) (h : l.length ≤ i) : l.getD i 0 = 0 := by simp [List.getD_eq_getElem?_getD, h]

/-- The number of a list of words. -/
def mval : List Nat → Nat
 | [] => 0
 | d :: l => d + B32 * mval l

/-- All words fit. -/
def Fit (l : List Nat) : Prop := ∀ d, d ∈ l → d < B32

theorem Fit.nil : Fit [] := fun _ h => by cases h
theorem Fit.cons {d : Nat} {l : List Nat} (h : d < B32) (k : Fit l) : Fit (d :: l) := fun x hx => by
 rcases List.mem_cons.1 hx with rfl | hx
 ·exact h
 ·exact k x hx
theorem Fit.head {d : Nat} {l : List Nat} (h : Fit (d :: l)) : d < B32 := h d (List.mem_cons_self)
theorem Fit.tail {d : Nat} {l : List Nat} (h : Fit (d :: l)) : Fit l := fun x hx => h x (List.mem_cons_of_mem _ hx)
theorem Fit.append {l k : List Nat} (h : Fit l) (g : Fit k) : Fit (l ++ k) := fun x hx => by
 rcases List.mem_append.1 hx with hx | hx
 ·exact h x hx
 ·exact g x hx
theorem Fit.take {l : List Nat} (h : Fit l) (k : Nat) : Fit (l.take k) := fun x hx => h x (List.mem_of_mem_take hx)
theorem Fit.drop {l : List Nat} (h : Fit l) (k : Nat) : Fit (l.drop k) := fun x hx => h x (List.mem_of_mem_drop hx)
theorem Fit.getD {l : List Nat} (h : Fit l) (i : Nat) : l.getD i 0 < B32 := by
 by_cases hi : i < l.length
 ·rw [getD_lt _ _ hi]; exact h _ (List.getElem_mem hi)
 ·rw [getD_ge _ _ (by omega)]; exact B32_pos

theorem mval_append (l k : List Nat) : mval (l ++ k) = mval l + B32 ^ l.length * mval k := by
 induction l with
 | nil => simp [mval]
 | cons d l ih => simp only [List.cons_append, mval, ih, List.length_cons, Nat.pow_succ]; grind
theorem mval_lt {l : List Nat} (h : Fit l) : mval l < B32 ^ l.length := by
 induction l with
 | nil => simp [mval]
 | cons d l ih =>
  have h1 := h.head
  have h2 := ih h.tail
  simp only [mval, List.length_cons, Nat.pow_succ]
  have h3 : B32 * (mval l + 1) ≤ B32 * B32 ^ l.length := Nat.mul_le_mul_left _ h2
  rw [Nat.mul_comm (B32 ^ l.length)]
  rw [Nat.mul_add] at h3
  omega
theorem mval_snoc (l : List Nat) (d : Nat) : mval (l ++ [d]) = mval l + B32 ^ l.length * d := by
 rw [mval_append]; simp [mval]
theorem mval_zeros (n : Nat) : mval (List.replicate n 0) = 0 := by
 induction n with
 | zero => rfl
 | succ n ih => rw [List.replicate_succ, mval, ih]; simp
/-- A list and the sum of its first and last parts. -/
theorem mval_take_drop (l : List Nat) (k : Nat) (h : k ≤ l.length) : mval l = mval (l.take k) + B32 ^ k * mval (l.drop k) := by
 have h1 := mval_append (l.take k) (l.drop k)
 rw [List.take_append_drop, List.length_take, Nat.min_eq_left h] at h1
 exact h1
theorem mval_take_succ (l : List Nat) (k : Nat) (h : k < l.length) : mval (l.take (k + 1)) = mval (l.take k) + B32 ^ k * l.getD k 0 := by
 rw [List.take_succ_eq_append_getElem h, mval_snoc, List.length_take, Nat.min_eq_left (by omega), getD_lt _ _ h]

/-- The length without zeros at the end. -/
def nlen (l : List Nat) : Nat → Nat
 | 0 => 0
 | k + 1 => if l.getD k 0 = 0 then nlen l k else k + 1
theorem nlen_le (l : List Nat) : ∀ k, nlen l k ≤ k
 | 0 => Nat.le_refl _
 | k + 1 => by
  unfold nlen; split
  ·exact Nat.le_succ_of_le (nlen_le l k)
  ·exact Nat.le_refl _
/-- Without zeros at the end. -/
def trim (l : List Nat) : List Nat := l.take (nlen l l.length)
/-- No zero at the end. -/
def Norm (l : List Nat) : Prop := l = [] ∨ l.getD (l.length - 1) 0 ≠ 0
theorem nlen_last (l : List Nat) : ∀ k, nlen l k = 0 ∨ l.getD (nlen l k - 1) 0 ≠ 0
 | 0 => .inl rfl
 | k + 1 => by
  unfold nlen; split
  ·exact nlen_last l k
  ·rename_i h; exact .inr (by simpa using h)
theorem trim_length (l : List Nat) : (trim l).length = nlen l l.length := by
 rw [trim, List.length_take, Nat.min_eq_left (nlen_le _ _)]
theorem getD_take (l : List Nat) (k i : Nat) (h : i < k) : (l.take k).getD i 0 = l.getD i 0 := by
 simp [List.getD_eq_getElem?_getD, h]
theorem trim_norm (l : List Nat) : Norm (trim l) := by
 have h := nlen_last l l.length
 have hl := trim_length l
 rcases h with h | h
 ·left; exact List.eq_nil_of_length_eq_zero (by omega)
 ·by_cases h0 : nlen l l.length = 0
  ·left; exact List.eq_nil_of_length_eq_zero (by omega)
  ·right; rw [hl, trim, getD_take _ _ _ (by omega)]; exact h
theorem mval_take_nlen (l : List Nat) : ∀ k, k ≤ l.length → mval (l.take (nlen l k)) = mval (l.take k)
 | 0, _ => rfl
 | k + 1, hk => by
  unfold nlen; split
  ·rename_i h; rw [mval_take_nlen l k (by omega), mval_take_succ l k (by omega), h]; simp
  ·rfl
theorem mval_trim (l : List Nat) : mval (trim l) = mval l := by
 rw [trim, mval_take_nlen l _ (Nat.le_refl _), List.take_of_length_le (Nat.le_refl _)]
theorem trim_fit {l : List Nat} (h : Fit l) : Fit (trim l) := h.take _
theorem norm_pos {l : List Nat} (h : Norm l) (hl : l ≠ []) : B32 ^ (l.length - 1) ≤ mval l := by
 have h0 : 0 < l.length := List.length_pos_iff.2 hl
 rcases h with h | h
 ·exact absurd h hl
 ·have h1 := mval_take_succ l (l.length - 1) (by omega)
  rw [show l.length - 1 + 1 = l.length from by omega, List.take_of_length_le (Nat.le_refl _)] at h1
  have h2 : B32 ^ (l.length - 1) * 1 ≤ B32 ^ (l.length - 1) * l.getD (l.length - 1) 0 := Nat.mul_le_mul_left _ (by omega)
  omega
theorem norm_zero {l : List Nat} (h : Norm l) (h0 : mval l = 0) : l = [] := by
 by_cases hl : l = []
 ·exact hl
 ·have h1 := norm_pos h hl
  have h2 : 0 < B32 ^ (l.length - 1) := Nat.pow_pos B32_pos
  omega
theorem norm_len_lt {a b : List Nat} (_ha : Norm a) (hb : Norm b) (fa : Fit a) (h : a.length < b.length) : mval a < mval b := by
 have h1 := norm_pos hb (by intro h0; rw [h0] at h; exact absurd h (by simp))
 have h2 := mval_lt fa
 have h3 : B32 ^ a.length ≤ B32 ^ (b.length - 1) := Nat.pow_le_pow_right B32_pos (by omega)
 omega
/-- The length tells the size. -/
theorem norm_len_le {l : List Nat} (h : Norm l) (f : Fit l) (n : Nat) : mval l < B32 ^ n ↔ l.length ≤ n := by
 constructor
 ·intro hv
  by_cases hl : l = []
  ·simp [hl]
  ·have h1 := norm_pos h hl
   have h2 : B32 ^ (l.length - 1) < B32 ^ n := by omega
   have h3 := (Nat.pow_lt_pow_iff_right (a := B32) (by rw [B32_eq]; omega)).1 h2
   omega
 ·intro hn
  have h1 := mval_lt f
  have h2 : B32 ^ l.length ≤ B32 ^ n := Nat.pow_le_pow_right B32_pos hn
  omega
/-- Equal lengths: the first place from the top where they differ decides. -/
theorem mval_cmp {a b : List Nat} (fa : Fit a) (h : a.length = b.length) (k : Nat) (hk : k < a.length) (htop : a.drop (k + 1) = b.drop (k + 1))
  (hlt : a.getD k 0 < b.getD k 0) : mval a < mval b := by
 have ha := mval_take_drop a (k + 1) (by omega)
 have hb := mval_take_drop b (k + 1) (by omega)
 have ha2 := mval_take_succ a k hk
 have hb2 := mval_take_succ b k (by omega)
 have h1 := mval_lt (fa.take k)
 rw [List.length_take, Nat.min_eq_left (by omega)] at h1
 have h2 : B32 ^ k * (a.getD k 0 + 1) ≤ B32 ^ k * b.getD k 0 := Nat.mul_le_mul_left _ hlt
 rw [htop] at ha
 rw [Nat.mul_add] at h2
 omega
theorem drop_succ_eq {a b : List Nat} (h : a.length = b.length) (k : Nat) (hk : k < a.length) (htop : a.drop (k + 1) = b.drop (k + 1)) (he : a.getD k 0 = b.getD k 0) :
  a.drop k = b.drop k := by
 rw [List.drop_eq_getElem_cons hk, List.drop_eq_getElem_cons (by omega : k < b.length), htop]
 rw [getD_lt _ _ hk, getD_lt _ _ (by omega : k < b.length)] at he
 rw [he]
/-- The greatest number of words. -/
@[irreducible] def WMost : Nat := 512
theorem WMost_eq : WMost = 512 := by unfold WMost; rfl
/-- Magnitudes of wide integers are below this. -/
@[irreducible] def WTop : Nat := B32 ^ WMost
theorem norm_top {l : List Nat} (h : Norm l) (f : Fit l) : mval l < WTop ↔ l.length ≤ 512 := by unfold WTop; rw [norm_len_le h f WMost, WMost_eq]
theorem WTop_ge {l : List Nat} (f : Fit l) (h : l.length ≤ 512) : mval l < WTop := by
 have h2 := mval_lt f
 have h3 : B32 ^ l.length ≤ B32 ^ WMost := Nat.pow_le_pow_right B32_pos (by rw [WMost_eq]; exact h)
 unfold WTop; exact Nat.lt_of_lt_of_le h2 h3
end Go.Proofs.Ytkoidookanmknaa
/- Memory: worlds that extend one another; slices of words; wide integers. -/
namespace Go.Proofs.Ytkoidookanmknaa
set_option linter.unusedSimpArgs false
set_option linter.unusedVariables false
open Go.RowKit

/-- Nothing that was there has changed. -/
def Ext (w w' : World) : Prop := Below w.heap.size w w'
theorem Ext.below {w w' : World} (h : Ext w w') : Below w.heap.size w w' := h
theorem Ext.refl (w : World) : Ext w w := Below.refl _ _
theorem Ext.size {w w' : World} (h : Ext w w') : w.heap.size ≤ w'.heap.size := Below.size h
theorem Ext.trans {a b c : World} (h : Ext a b) (k : Ext b c) : Ext a c := Below.trans h (Below.mono k h.size)
theorem Ext.alloc {a w : World} (h : Ext a w) (o : Obj) : Ext a (w.alloc o) := Below.alloc h h.size o
theorem Ext.drew {a w : World} (h : Ext a w) : Ext a w.drew := Below.drew h
theorem Ext.drewN {a w : World} (h : Ext a w) : ∀ n, Ext a (w.drewN n)
 | _ => ⟨h.below.os, h.below.tape, h.below.output, h.below.size, h.below.block⟩
theorem Ext.setCell {a w : World} (h : Ext a w) {p : Addr} (hp : a.heap.size ≤ p.block) (u : Value) : Ext a (w.setCell p u) := Below.setCell h hp u
theorem Ext.cell {w w' : World} (h : Ext w w') {p : Addr} {v : Value} (hc : w.cell? p = some v) : w'.cell? p = some v := by
 rw [Below.cell h (World.block_lt_of_cell? w _ hc)]; exact hc
theorem Ext.frozen {w w' : World} (h : Ext w w') {p : Addr} (hp : p.block < w.heap.size) : w'.frozen? p = w.frozen? p := Below.frozen h hp
theorem lt_of_cell {w : World} {b o : Nat} {v : Value} (hc : w.cell? ⟨b, o, none⟩ = some v) : b < w.heap.size := World.block_lt_of_cell? w _ hc

/-- What the walk is told of a later world. -/
theorem Ext.see {w w' : World} (h : Ext w w') : (∀ b o, b < w.heap.size → w'.cell? ⟨b, o, none⟩ = w.cell? ⟨b, o, none⟩) ∧ (∀ b o, b < w.heap.size → w'.frozen? ⟨b, o, none⟩ = w.frozen? ⟨b, o, none⟩) ∧ w.heap.size ≤ w'.heap.size :=
 ⟨fun b o hb => Below.cell (p := ⟨b, o, none⟩) h hb, fun b o hb => Below.frozen (p := ⟨b, o, none⟩) h hb, h.size⟩

/-- All numbers that lay there lie there still. -/
def IK (w w' : World) : Prop := w.heap.size ≤ w'.heap.size ∧ ∀ a k n, w.cell? a = some (.int k n) → w'.cell? a = some (.int k n)
theorem IK.refl (w : World) : IK w w := ⟨Nat.le_refl _, fun _ _ _ h => h⟩
theorem Ext.ik {w w' : World} (h : Ext w w') : IK w w' := ⟨h.size, fun _ _ _ hc => h.cell hc⟩
theorem IK.trans {a b c : World} (h : IK a b) (k : IK b c) : IK a c := ⟨Nat.le_trans h.1 k.1, fun _ _ _ hc => k.2 _ _ _ (h.2 _ _ _ hc)⟩
theorem IK.alloc {a w : World} (h : IK a w) (o : Obj) : IK a (w.alloc o) := h.trans ((Ext.refl w).alloc o).ik
theorem IK.drew {a w : World} (h : IK a w) : IK a w.drew := h
theorem IK.drewN {a w : World} (h : IK a w) (n : Nat) : IK a (w.drewN n) := h
theorem IK.setCell {a w : World} (h : IK a w) {p : Addr} (hp : ∀ k n, w.cell? p ≠ some (.int k n)) (u : Value) : IK a (w.setCell p u) :=
 ⟨by rw [World.size_setCell]; exact h.1, fun q k n hc => by
  have h1 := h.2 q k n hc
  rw [World.cell?_setCell_other]
  ·exact h1
  ·rintro rfl; exact hp k n h1⟩

/-- The walk goes on from whatever world meets F. -/
theorem wp_gen {P : Program} {c : Code} {Q : Exit → Act → World → Prop} {a : Act} {W0 : World} (F : World → Prop) (h0 : F W0) (h : ∀ W, F W → c.wp P Q a W) : c.wp P Q a W0 := h _ h0

/-- Only draws lie between two worlds. -/
def Dr (w w' : World) : Prop := ∃ q, w' = w.drewN q
theorem Dr.refl (w : World) : Dr w w := ⟨0, rfl⟩
theorem Dr.drewN {a w : World} (h : Dr a w) (n : Nat) : Dr a (w.drewN n) := by
 obtain ⟨q, rfl⟩ := h; exact ⟨q + n, by rw [World.drewN_drewN]⟩
theorem Dr.trans {a b c : World} (h : Dr a b) (k : Dr b c) : Dr a c := by
 obtain ⟨q, rfl⟩ := k; exact h.drewN q
theorem Dr.ext {a w : World} (h : Dr a w) : Ext a w := by
 obtain ⟨q, rfl⟩ := h; exact (Ext.refl a).drewN q
theorem Dr.ik {a w : World} (h : Dr a w) : IK a w := h.ext.ik

/-- The word i of a list, as a number of the walk. -/
def dg (l : List Nat) (i : Nat) : Int := ((l.getD i 0 : Nat) : Int)
theorem dg_nonneg (l : List Nat) (i : Nat) : 0 ≤ dg l i := by unfold dg; omega
theorem dg_lt {l : List Nat} (h : Fit l) (i : Nat) : dg l i ≤ 4294967295 := by
 have := h.getD i; rw [B32_eq] at this; unfold dg; omega

/-- A slice of words: nil, or a row of cells. -/
def Wds (w : World) (a : Option Addr) (n c : Nat) (l : List Nat) : Prop :=
 l.length = n ∧ Fit l ∧ n ≤ c ∧ c ≤ 65536 ∧ ((a = none ∧ n = 0 ∧ c = 0) ∨ ∃ b off, a = some ⟨b, off, none⟩ ∧ b < w.heap.size ∧ ∀ i, i < n → w.cell? ⟨b, off + i, none⟩ = some (.int .u32 (dg l i)))
theorem Wds.len {w : World} {a : Option Addr} {n c : Nat} {l : List Nat} (h : Wds w a n c l) : l.length = n := h.1
theorem Wds.fit {w : World} {a : Option Addr} {n c : Nat} {l : List Nat} (h : Wds w a n c l) : Fit l := h.2.1
theorem Wds.cap {w : World} {a : Option Addr} {n c : Nat} {l : List Nat} (h : Wds w a n c l) : n ≤ c := h.2.2.1
theorem Wds.most {w : World} {a : Option Addr} {n c : Nat} {l : List Nat} (h : Wds w a n c l) : c ≤ 65536 := h.2.2.2.1
theorem Wds.at {w : World} {a : Option Addr} {n c : Nat} {l : List Nat} (h : Wds w a n c l) (i : Nat) (hi : i < n) :
  ∃ b off, a = some ⟨b, off, none⟩ ∧ b < w.heap.size ∧ w.cell? ⟨b, off + i, none⟩ = some (.int .u32 (dg l i)) := by
 obtain ⟨_, _, _, _, ⟨_, h0, _⟩ | ⟨b, off, ha, hb, hc⟩⟩ := h
 ·omega
 ·exact ⟨b, off, ha, hb, hc i hi⟩
theorem Wds.keep {w w' : World} {a : Option Addr} {n c : Nat} {l : List Nat} (h : Wds w a n c l) (k : IK w w') : Wds w' a n c l := by
 obtain ⟨h1, h2, h3, h4, h5⟩ := h
 refine ⟨h1, h2, h3, h4, ?_⟩
 rcases h5 with h5 | ⟨b, off, ha, hb, hc⟩
 ·exact .inl h5
 ·exact .inr ⟨b, off, ha, Nat.lt_of_lt_of_le hb k.1, fun i hi => k.2 _ _ _ (hc i hi)⟩
theorem Wds.nil (w : World) : Wds w none 0 0 [] := ⟨rfl, Fit.nil, Nat.le_refl _, by omega, .inl ⟨rfl, rfl, rfl⟩⟩
/-- A new block. -/
theorem Wds.new (w : World) (cs : Array Value) (T : TypeId) (k : Nat) (hk : k = w.heap.size) (l : List Nat) (hf : Fit l) (hn : l.length ≤ 65536) (hc : ∀ i, i < l.length → cs[i]? = some (.int .u32 (dg l i))) :
  Wds (w.alloc (.cells cs T)) (some ⟨k, 0, none⟩) l.length l.length l := by
 subst hk
 exact ⟨rfl, hf, Nat.le_refl _, hn, .inr ⟨_, 0, rfl, by simp, fun i hi => by rw [Nat.zero_add, World.cell?_alloc_new]; exact hc i hi⟩⟩
/-- A first part. -/
theorem Wds.take {w : World} {a : Option Addr} {n c : Nat} {l : List Nat} (h : Wds w a n c l) (k : Nat) (hk : k ≤ n) : Wds w a k c (l.take k) := by
 obtain ⟨h1, h2, h3, h4, h5⟩ := h
 refine ⟨by rw [List.length_take]; omega, h2.take _, by omega, h4, ?_⟩
 rcases h5 with ⟨ha, hn, hc⟩ | ⟨b, off, ha, hb, hc⟩
 ·exact .inl ⟨ha, by omega, hc⟩
 ·refine .inr ⟨b, off, ha, hb, fun i hi => ?_⟩
  rw [hc i (by omega)]; unfold dg; rw [getD_take _ _ _ hi]

/-- A wide integer as a value: its sign and its slice. -/
structure IV where
 neg : Bool
 a : Option Addr
 n : Nat
 c : Nat
/-- The value. -/
abbrev IV.v (p : IV) : Value := .agg #[.bool p.neg, .slice p.a p.n p.c]
/-- The number of a sign and a magnitude. -/
def sgn (neg : Bool) (m : Nat) : Int := if neg then -(m : Int) else (m : Int)
/-- The value p stands for x in the world w. -/
def IsI (w : World) (p : IV) (x : Int) : Prop :=
 ∃ l, Wds w p.a p.n p.c l ∧ Norm l ∧ p.n ≤ 512 ∧ (p.neg = true → 0 < p.n) ∧ x = sgn p.neg (mval l)
theorem IsI.keep {w w' : World} {p : IV} {x : Int} (h : IsI w p x) (k : IK w w') : IsI w' p x := by
 obtain ⟨l, h1, h2⟩ := h
 exact ⟨l, h1.keep k, h2⟩
/-- Numbers that are wide integers. -/
def Big (x : Int) : Prop := x.natAbs < WTop
theorem sgn_natAbs (g : Bool) (m : Nat) : (sgn g m).natAbs = m := by unfold sgn; split <;> omega
theorem IsI.big {w : World} {p : IV} {x : Int} (h : IsI w p x) : Big x := by
 obtain ⟨l, h1, h2, h3, h4, rfl⟩ := h
 unfold Big; rw [sgn_natAbs]
 exact (norm_top h2 h1.fit).2 (by rw [h1.len]; exact h3)

/-- The order of numbers. -/
def cmpI (a b : Int) : Int := if a < b then -1 else if b < a then 1 else 0

theorem nanInt_c (a : Int) (w : World) : Calls Try.prog 89 #[.int .i64 a] w fun e w' => e = .returned (.bool false) ∧ w = w' := by
 go_enter Try.func89, Try.ntmps89
 go_wp2
 go_ret
 exact ⟨by simp, rfl⟩
theorem nanU32_c (a : Int) (w : World) : Calls Try.prog 90 #[.int .u32 a] w fun e w' => e = .returned (.bool false) ∧ w = w' := by
 go_enter Try.func90, Try.ntmps90
 go_wp2
 go_ret
 exact ⟨by simp, rfl⟩
theorem cmpInt_c (a b : Int) (w : World) : Calls Try.prog 76 #[.int .i64 a, .int .i64 b] w fun e w' => e = .returned (.int .i64 (cmpI a b)) ∧ w = w' := by
 by_cases h1 : a < b
 ·go_enter Try.func76, Try.ntmps76
  go_wp2_with (go_at_call 89; refine (nanInt_c _ _).mono ?_; rintro e w' ⟨rfl, rfl⟩)
  go_ret
  exact ⟨by simp [cmpI, h1], rfl⟩
 ·by_cases h2 : b < a
  ·go_enter Try.func76, Try.ntmps76
   go_wp2_with (go_at_call 89; refine (nanInt_c _ _).mono ?_; rintro e w' ⟨rfl, rfl⟩)
   go_ret
   exact ⟨by rw [cmpI, if_neg (by omega), if_pos (by omega)]; rfl, rfl⟩
  ·go_enter Try.func76, Try.ntmps76
   go_wp2_with (go_at_call 89; refine (nanInt_c _ _).mono ?_; rintro e w' ⟨rfl, rfl⟩)
   go_ret
   exact ⟨by rw [cmpI, if_neg (by omega), if_neg (by omega)]; rfl, rfl⟩
theorem cmpU32_c (a b : Int) (w : World) : Calls Try.prog 77 #[.int .u32 a, .int .u32 b] w fun e w' => e = .returned (.int .i64 (cmpI a b)) ∧ w = w' := by
 by_cases h1 : a < b
 ·go_enter Try.func77, Try.ntmps77
  go_wp2_with (go_at_call 90; refine (nanU32_c _ _).mono ?_; rintro e w' ⟨rfl, rfl⟩)
  go_ret
  exact ⟨by simp [cmpI, h1], rfl⟩
 ·by_cases h2 : b < a
  ·go_enter Try.func77, Try.ntmps77
   go_wp2_with (go_at_call 90; refine (nanU32_c _ _).mono ?_; rintro e w' ⟨rfl, rfl⟩)
   go_ret
   exact ⟨by rw [cmpI, if_neg (by omega), if_pos (by omega)]; rfl, rfl⟩
  ·go_enter Try.func77, Try.ntmps77
   go_wp2_with (go_at_call 90; refine (nanU32_c _ _).mono ?_; rintro e w' ⟨rfl, rfl⟩)
   go_ret
   exact ⟨by rw [cmpI, if_neg (by omega), if_neg (by omega)]; rfl, rfl⟩
end Go.Proofs.Ytkoidookanmknaa
/- wide: normal, signed, From, Neg, compare, Compare, Sign. -/
namespace Go.Proofs.Ytkoidookanmknaa
set_option linter.unusedSimpArgs false
set_option linter.unusedVariables false
open Go.RowKit

theorem dg_zero {l : List Nat} {i : Nat} (h : l.getD i 0 = 0) : dg l i = 0 := by unfold dg; omega
theorem dg_ne {l : List Nat} {i : Nat} (h : ¬ l.getD i 0 = 0) : (dg l i == 0) = false := by unfold dg; rw [beq_eq_false_iff_ne]; omega

theorem nlen_zero {l : List Nat} {j : Nat} (h : l.getD j 0 = 0) : nlen l (j + 1) = nlen l j := by rw [nlen, if_pos h]
theorem nlen_ne {l : List Nat} {j : Nat} (h : ¬ l.getD j 0 = 0) : nlen l (j + 1) = j + 1 := by rw [nlen, if_neg h]

set_option maxHeartbeats 400000 in
theorem normal_c (a : Option Addr) (n c : Nat) (l : List Nat) (w : World) (h : Wds w a n c l) :
  Calls Try.prog 69 #[.slice a n c] w fun e w' => e = .returned (.slice a (nlen l n) c) ∧ w = w' := by
 have hm := h.most
 have hc := h.cap
 have HH := Lib.hid h; clear h
 go_enter Try.func69, Try.ntmps69
 go_wp2
 go_loop [0] (fun v => ∃ k : Nat, k ≤ n ∧ nlen l k = nlen l n ∧ v = .slice a k c) (fun v => match v with | .slice _ k _ => k | _ => 0)
 case atStart => exact ⟨n, Nat.le_refl _, rfl, rfl⟩
 case round =>
  obtain ⟨k, hk, hn, rfl⟩ := hrel
  have HN := Lib.hid hn; clear hn
  by_cases h0 : 0 < k
  ·obtain ⟨j, rfl⟩ : ∃ j, k = j + 1 := ⟨k - 1, by omega⟩
   obtain ⟨b, off, rfl, hb, hcell⟩ := HH.out.at j (by omega)
   by_cases hz : l.getD j 0 = 0
   ·have hz' := dg_zero hz
    rw [hz'] at hcell
    have HZ := Lib.hid hz; clear hz hz'
    go_wp2
    go_round
    case rel => exact ⟨j, by omega, by rw [← HN.out, nlen_zero HZ.out], rfl⟩
    case measure => simp
   ·have hz' := dg_ne hz
    have HZ := Lib.hid hz; clear hz
    go_wp2
    go_ret
    refine ⟨?_, rfl⟩
    rw [← HN.out, nlen_ne HZ.out]; rfl
  ·obtain rfl : k = 0 := by omega
   go_wp2
   go_ret
   rw [← HN.out]
   exact ⟨rfl, rfl⟩

theorem normal_w {w : World} {a : Option Addr} {n c : Nat} {l : List Nat} (h : Wds w a n c l) : Wds w a (nlen l n) c (trim l) := by
 have h1 := h.take (nlen l n) (nlen_le _ _)
 have h2 := h.len
 rw [trim, h2]; exact h1

/-- What 'signed' returns. -/
def SignedR (g : Bool) (l : List Nat) (w : World) (e : Ending) (w' : World) : Prop :=
 ∃ (r : IV) (x : Int) (err : Int), e = .returned (.tuple #[r.v, .int .i64 err]) ∧ IsI w' r x ∧ Ext w w' ∧ (if mval l < WTop then x = sgn g (mval l) ∧ err = 0 else x = 0 ∧ err = 4)

theorem sgn_zero (g : Bool) : sgn g 0 = 0 := by unfold sgn; split <;> rfl

set_option maxHeartbeats 400000 in
theorem signed_c (g : Bool) (a : Option Addr) (n c : Nat) (l : List Nat) (w : World) (h : Wds w a n c l) :
  Calls Try.prog 46 #[.bool g, .slice a n c] w (SignedR g l w) := by
 have hw := normal_w h
 have hle := nlen_le l n
 have hm := h.most
 have hc := h.cap
 have hN := trim_norm l
 have hV := mval_trim l
 have hkey := norm_top hN (trim_fit h.fit)
 rw [trim_length, h.len] at hkey
 have HW := Lib.hid hw; have HV := Lib.hid hV; have HK := Lib.hid hkey; have HN := Lib.hid hN; have HH := Lib.hid h
 clear hw hV hkey h hN
 by_cases hb : 512 < nlen l n
 ·go_enter Try.func46, Try.ntmps46
  go_wp2_with (go_at_call 69; refine (normal_c _ _ _ _ _ (HH.out.keep ((IK.refl _).alloc _))).mono ?_; rintro e w' ⟨rfl, rfl⟩)
  refine bodyPost_ret (v := .tuple #[.agg #[.bool false, .slice none 0 0], .int .i64 4]) (by simp [results, Try.results46, go_sem]) rfl ?_
  refine ⟨⟨false, none, 0, 0⟩, 0, 4, rfl, ⟨[], (Wds.nil _), .inl rfl, by simp, by simp, by simp [sgn, mval]⟩, (Ext.refl _).alloc _, ?_⟩
  rw [if_neg (by rw [← HV.out, HK.out]; omega)]; exact ⟨rfl, rfl⟩
 ·have hb' : nlen l n ≤ 512 := by omega
  by_cases h0 : 0 < nlen l n
  ·cases g
   ·go_enter Try.func46, Try.ntmps46
    go_wp2_with (go_at_call 69; refine (normal_c _ _ _ _ _ (HH.out.keep ((IK.refl _).alloc _))).mono ?_; rintro e w' ⟨rfl, rfl⟩)
    refine bodyPost_ret (v := .tuple #[.agg #[.bool false, .slice a (nlen l n) c], .int .i64 0]) (by simp [results, Try.results46, go_sem]) rfl ?_
    refine ⟨⟨false, a, nlen l n, c⟩, _, 0, rfl, ⟨trim l, HW.out.keep ((IK.refl _).alloc _), HN.out, hb', by simp, rfl⟩, (Ext.refl _).alloc _, ?_⟩
    rw [HV.out, if_pos (by rw [← HV.out, HK.out]; omega)]; exact ⟨rfl, rfl⟩
   ·go_enter Try.func46, Try.ntmps46
    go_wp2_with (go_at_call 69; refine (normal_c _ _ _ _ _ (HH.out.keep ((IK.refl _).alloc _))).mono ?_; rintro e w' ⟨rfl, rfl⟩)
    refine bodyPost_ret (v := .tuple #[.agg #[.bool true, .slice a (nlen l n) c], .int .i64 0]) (by simp [results, Try.results46, go_sem]) rfl ?_
    refine ⟨⟨true, a, nlen l n, c⟩, _, 0, rfl, ⟨trim l, HW.out.keep ((IK.refl _).alloc _), HN.out, hb', fun _ => h0, rfl⟩, (Ext.refl _).alloc _, ?_⟩
    rw [HV.out, if_pos (by rw [← HV.out, HK.out]; omega)]; exact ⟨rfl, rfl⟩
  ·have hz : nlen l n = 0 := by omega
   have HZ := Lib.hid hz; clear hz
   have hv0 : mval l = 0 := by
    rw [← HV.out, trim, HH.out.len, HZ.out]; rfl
   have HV0 := Lib.hid hv0; clear hv0
   have e1 : ¬ (0 : Int) < (nlen l n : Int) := by rw [HZ.out]; omega
   cases g
   all_goals
    go_enter Try.func46, Try.ntmps46
    go_wp2_with (go_at_call 69; refine (normal_c _ _ _ _ _ (HH.out.keep ((IK.refl _).alloc _))).mono ?_; rintro e w' ⟨rfl, rfl⟩)
    refine bodyPost_ret (v := .tuple #[.agg #[.bool false, .slice a (nlen l n) c], .int .i64 0]) (by simp [results, Try.results46, go_sem]) rfl ?_
    refine ⟨⟨false, a, nlen l n, c⟩, 0, 0, rfl, ⟨trim l, HW.out.keep ((IK.refl _).alloc _), HN.out, hb', by simp, by rw [HV.out, HV0.out]; rfl⟩, (Ext.refl _).alloc _, ?_⟩
    rw [if_pos (by rw [← HV.out, HK.out]; omega), HV0.out, sgn_zero]; exact ⟨rfl, rfl⟩

/-- What 'From' and others return: the number x. -/
def RetI (x : Int) (w : World) (e : Ending) (w' : World) : Prop := ∃ r : IV, e = .returned r.v ∧ IsI w' r x ∧ Ext w w'
def RetIE (x : Int) (err : Int) (w : World) (e : Ending) (w' : World) : Prop := ∃ r : IV, e = .returned (.tuple #[r.v, .int .i64 err]) ∧ IsI w' r x ∧ Ext w w'

end Go.Proofs.Ytkoidookanmknaa
/- wide: From, Neg, compare, Compare, Sign. -/
namespace Go.Proofs.Ytkoidookanmknaa
set_option linter.unusedSimpArgs false
set_option linter.unusedVariables false
open Go.RowKit

theorem mval_two (m : Nat) : mval [m % B32, m / B32] = m := by
 simp only [mval]; have := Nat.mod_add_div m B32; omega
theorem fit_two (m : Nat) (h : m < 18446744073709551616) : Fit [m % B32, m / B32] := by
 refine (Fit.nil.cons ?_).cons (Nat.mod_lt _ B32_pos)
 rw [B32_eq]; omega
theorem wrap_neg (n : Int) (h1 : -9223372036854775808 ≤ n) (hn : n < 0) : IntKind.u64.wrap (-IntKind.u64.wrap n) = -n := by
 rw [IntKind.wrap_u64, IntKind.wrap_u64]; omega

theorem two_cells (m : Nat) (x y : Int) (hx : x = (m : Int) % 4294967296) (hy : y = (m : Int) / 4294967296) : ∀ i, i < [m % B32, m / B32].length → (#[Value.int .u32 x, Value.int .u32 y])[i]? = some (.int .u32 (dg [m % B32, m / B32] i)) := by
 intro i hi
 have hi' : i = 0 ∨ i = 1 := by simp at hi; omega
 rcases hi' with rfl | rfl
 ·simp [dg, hx, B32_eq]
 ·simp [dg, hy, B32_eq]

set_option maxHeartbeats 400000 in
theorem From_c (n : Int) (w : World) (h1 : -9223372036854775808 ≤ n) (h2 : n ≤ 9223372036854775807) :
  Calls Try.prog 27 #[.int .i64 n] w (RetI n w) := by
 obtain ⟨m, hm⟩ : ∃ m : Nat, m = n.natAbs := ⟨_, rfl⟩
 have hm2 : m < 18446744073709551616 := by omega
 have f2 := fit_two m hm2
 have v2 := mval_two m
 have lt2 : mval [m % B32, m / B32] < WTop := WTop_ge f2 (by simp)
 by_cases hn : n < 0
 ·have e1 := wrap_neg n h1 hn
  have hs : sgn true m = n := by unfold sgn; simp; omega
  have tc := two_cells m (-n % 4294967296) (-n / 4294967296 % 4294967296) (by omega) (by omega)
  have E1 := Lib.hid e1; have HM := Lib.hid hm; have V2 := Lib.hid v2; have HS := Lib.hid hs; have TC := Lib.hid tc
  clear e1 hm v2 hs tc
  go_enter Try.func27, Try.ntmps27
  go_wp2_with fail
  rw [E1.out]
  refine (signed_c true _ 2 2 [m % B32, m / B32] _ (Wds.new _ _ _ _ (by simp) _ f2 (by simp) TC.out)).mono ?_
  rintro e w1 ⟨r, x, err, rfl, hr, hx, hv⟩
  rw [if_pos lt2] at hv
  obtain ⟨rfl, rfl⟩ := hv
  rw [V2.out, HS.out] at hr
  obtain ⟨hc, hf, hs⟩ := hx.see
  simp only [World.size_alloc] at hc hf hs
  have s0 : w.heap.size < w1.heap.size := by omega
  have c0 : w1.cell? ⟨w.heap.size, 0, none⟩ = some (.bool false) := by simp [hc, go_sem]
  have c1 : w1.cell? ⟨w.heap.size, 1, none⟩ = some (.slice none 0 0) := by simp [hc, go_sem]
  go_wp2
  refine bodyPost_ret (v := r.v) (by simp [results, Try.results27, go_sem, c0, c1, hf, s0]) rfl ?_
  exact ⟨r, rfl, hr.keep (by repeat (first | exact IK.refl _ | refine IK.alloc ?_ _ | refine IK.drew ?_ | refine IK.setCell ?_ (by simp [hc, go_sem]) _)), (by repeat (first | exact Ext.refl _ | assumption | refine Ext.setCell ?_ (by first | (simp; done) | (simp; omega) | omega) _ | refine Ext.alloc ?_ _ | refine Ext.drew ?_ | refine Ext.trans ?_ (by assumption)))⟩
 ·have hs : sgn false m = n := by unfold sgn; simp; omega
  have tc := two_cells m (n % 4294967296) (n / 4294967296) (by omega) (by omega)
  have HM := Lib.hid hm; have V2 := Lib.hid v2; have HS := Lib.hid hs; have TC := Lib.hid tc
  clear hm v2 hs tc
  go_enter Try.func27, Try.ntmps27
  go_wp2_with fail
  refine (signed_c false _ 2 2 [m % B32, m / B32] _ (Wds.new _ _ _ _ (by simp) _ f2 (by simp) TC.out)).mono ?_
  rintro e w1 ⟨r, x, err, rfl, hr, hx, hv⟩
  rw [if_pos lt2] at hv
  obtain ⟨rfl, rfl⟩ := hv
  rw [V2.out, HS.out] at hr
  obtain ⟨hc, hf, hs⟩ := hx.see
  simp only [World.size_alloc] at hc hf hs
  have s0 : w.heap.size < w1.heap.size := by omega
  have c0 : w1.cell? ⟨w.heap.size, 0, none⟩ = some (.bool false) := by simp [hc, go_sem]
  have c1 : w1.cell? ⟨w.heap.size, 1, none⟩ = some (.slice none 0 0) := by simp [hc, go_sem]
  go_wp2
  refine bodyPost_ret (v := r.v) (by simp [results, Try.results27, go_sem, c0, c1, hf, s0]) rfl ?_
  exact ⟨r, rfl, hr.keep (by repeat (first | exact IK.refl _ | refine IK.alloc ?_ _ | refine IK.drew ?_ | refine IK.setCell ?_ (by simp [hc, go_sem]) _)), (by repeat (first | exact Ext.refl _ | assumption | refine Ext.setCell ?_ (by first | (simp; done) | (simp; omega) | omega) _ | refine Ext.alloc ?_ _ | refine Ext.drew ?_ | refine Ext.trans ?_ (by assumption)))⟩

set_option maxHeartbeats 400000 in
theorem Neg_c (p : IV) (x : Int) (w : World) (h : IsI w p x) : Calls Try.prog 49 #[p.v] w (RetI (-x) w) := by
 obtain ⟨g, a, n, c⟩ := p
 obtain ⟨l, h1, h2, h3, h4, rfl⟩ := h
 by_cases h0 : 0 < n
 ·cases g
  ·have HH := Lib.hid h1; clear h1
   go_enter Try.func49, Try.ntmps49
   go_wp2
   refine bodyPost_ret (v := .agg #[.bool true, .slice a n c]) (by simp [results, Try.results49, go_sem]) rfl ?_
   exact ⟨⟨true, a, n, c⟩, rfl, ⟨l, HH.out.keep (by repeat (first | exact IK.refl _ | refine IK.alloc ?_ _ | refine IK.drew ?_ | refine IK.setCell ?_ (by simp [hc, go_sem]) _)), h2, h3, fun _ => h0, by simp [sgn]⟩, (by repeat (first | exact Ext.refl _ | assumption | refine Ext.setCell ?_ (by first | (simp; done) | (simp; omega) | omega) _ | refine Ext.alloc ?_ _ | refine Ext.drew ?_ | refine Ext.trans ?_ (by assumption)))⟩
  ·have HH := Lib.hid h1; clear h1
   go_enter Try.func49, Try.ntmps49
   go_wp2
   refine bodyPost_ret (v := .agg #[.bool false, .slice a n c]) (by simp [results, Try.results49, go_sem]) rfl ?_
   exact ⟨⟨false, a, n, c⟩, rfl, ⟨l, HH.out.keep (by repeat (first | exact IK.refl _ | refine IK.alloc ?_ _ | refine IK.drew ?_ | refine IK.setCell ?_ (by simp [hc, go_sem]) _)), h2, h3, by simp, by simp [sgn]⟩, (by repeat (first | exact Ext.refl _ | assumption | refine Ext.setCell ?_ (by first | (simp; done) | (simp; omega) | omega) _ | refine Ext.alloc ?_ _ | refine Ext.drew ?_ | refine Ext.trans ?_ (by assumption)))⟩
 ·have hn : n = 0 := by omega
  subst hn
  have hl : l = [] := List.eq_nil_of_length_eq_zero h1.len
  subst hl
  cases g
  ·have HH := Lib.hid h1; clear h1
   go_enter Try.func49, Try.ntmps49
   go_wp2
   refine bodyPost_ret (v := .agg #[.bool false, .slice a 0 c]) (by simp [results, Try.results49, go_sem]) rfl ?_
   exact ⟨⟨false, a, 0, c⟩, rfl, ⟨[], HH.out.keep (by repeat (first | exact IK.refl _ | refine IK.alloc ?_ _ | refine IK.drew ?_ | refine IK.setCell ?_ (by simp [hc, go_sem]) _)), h2, h3, by simp, by simp [sgn, mval]⟩, (by repeat (first | exact Ext.refl _ | assumption | refine Ext.setCell ?_ (by first | (simp; done) | (simp; omega) | omega) _ | refine Ext.alloc ?_ _ | refine Ext.drew ?_ | refine Ext.trans ?_ (by assumption)))⟩
  ·exact absurd (h4 rfl) (by simp)

set_option maxHeartbeats 400000 in
theorem compare_c (a b : Option Addr) (n m c d : Nat) (l k : List Nat) (w : World) (hl : Wds w a n c l) (hk : Wds w b m d k) (nl : Norm l) (nk : Norm k) :
  Calls Try.prog 54 #[.slice a n c, .slice b m d] w fun e w' => e = .returned (.int .i64 (cmpI (mval l) (mval k))) ∧ Dr w w' := by
 have h1 := hl.cap
 have h2 := hl.most
 have h3 := hk.cap
 have h4 := hk.most
 by_cases hlt : n < m
 ·have hv := norm_len_lt nl nk hl.fit (by rw [hl.len, hk.len]; exact hlt)
  have e1 : cmpI (n : Int) (m : Int) = -1 := by rw [cmpI, if_pos (by omega)]
  have e2 : cmpI (mval l : Int) (mval k : Int) = -1 := by rw [cmpI, if_pos (by omega)]
  have E1 := Lib.hid e1; have E2 := Lib.hid e2; clear e1 e2
  go_enter Try.func54, Try.ntmps54
  go_wp2_with (go_at_call 76; refine (cmpInt_c _ _ _).mono ?_; rintro e w' ⟨rfl, rfl⟩; rw [E1.out])
  go_ret
  exact ⟨by rw [E2.out]; rfl, Dr.refl _⟩
 ·by_cases hgt : m < n
  ·have hv := norm_len_lt nk nl hk.fit (by rw [hl.len, hk.len]; exact hgt)
   have e1 : cmpI (n : Int) (m : Int) = 1 := by rw [cmpI, if_neg (by omega), if_pos (by omega)]
   have e2 : cmpI (mval l : Int) (mval k : Int) = 1 := by rw [cmpI, if_neg (by omega), if_pos (by omega)]
   have E1 := Lib.hid e1; have E2 := Lib.hid e2; clear e1 e2
   go_enter Try.func54, Try.ntmps54
   go_wp2_with (go_at_call 76; refine (cmpInt_c _ _ _).mono ?_; rintro e w' ⟨rfl, rfl⟩; rw [E1.out])
   go_ret
   exact ⟨by rw [E2.out]; rfl, Dr.refl _⟩
  ·obtain rfl : n = m := by omega
   have e1 : cmpI (n : Int) (n : Int) = 0 := by rw [cmpI, if_neg (by omega), if_neg (by omega)]
   have E1 := Lib.hid e1; have HL := Lib.hid hl; have HK := Lib.hid hk; clear e1 hl hk
   go_enter Try.func54, Try.ntmps54
   go_wp2_with (go_at_call 76; refine (cmpInt_c _ _ _).mono ?_; rintro e w' ⟨rfl, rfl⟩; rw [E1.out])
   go_loopw [6, 7] (fun v _ wr => ∃ (j : Nat), j ≤ n ∧ l.drop j = k.drop j ∧ v = .int .i64 ((j : Int) - 1) ∧ Dr w wr) (fun v _ _ => (intOf v + 1).toNat)
   case atStart => exact ⟨n, Nat.le_refl _, by rw [List.drop_of_length_le (by rw [HL.out.len]; omega), List.drop_of_length_le (by rw [HK.out.len]; omega)], rfl, Dr.refl _⟩
   case round =>
    obtain ⟨j, hj, hd, rfl, hdr⟩ := hrel
    have HD := Lib.hid hd; clear hd
    rename_i wr _
    have HL := Lib.hid (HL.out.keep hdr.ik); have HK := Lib.hid (HK.out.keep hdr.ik)
    by_cases h0 : 0 < j
    ·obtain ⟨i, rfl⟩ : ∃ i, j = i + 1 := ⟨j - 1, by omega⟩
     obtain ⟨b1, o1, rfl, _, hc1⟩ := HL.out.at i (by omega)
     obtain ⟨b2, o2, rfl, _, hc2⟩ := HK.out.at i (by omega)
     rw [show (((i + 1 : Nat) : Int) - 1) = (i : Int) from by omega]
     have i0 : (0 : Int) ≤ (i : Int) := by omega
     have i1 : (i : Int) < (n : Int) := by omega
     by_cases he : l.getD i 0 = k.getD i 0
     ·have e3 : cmpI (dg l i) (dg k i) = 0 := by unfold dg; rw [he, cmpI, if_neg (by omega), if_neg (by omega)]
      have E3 := Lib.hid e3; have HE := Lib.hid he; clear e3 he
      go_wp2
      go_quiet ((go_at_call 77; exact Calls.quiet_of_same ((cmpU32_c _ _ _).mono fun _ _ h => ⟨h.1, h.2.symm⟩)))
      simp only [E3.out]
      go_wp2
      go_roundw
      case rel => exact ⟨i, by omega, drop_succ_eq (by rw [HL.out.len, HK.out.len]) i (by rw [HL.out.len]; omega) HD.out HE.out, rfl, hdr.drewN _⟩
      case measure => simp [intOf]
     ·have hcmp : cmpI (mval l : Int) (mval k : Int) = cmpI (dg l i) (dg k i) ∧ cmpI (dg l i) (dg k i) ≠ 0 := by
       by_cases hlt : l.getD i 0 < k.getD i 0
       ·have := mval_cmp HL.out.fit (by rw [HL.out.len, HK.out.len]) i (by rw [HL.out.len]; omega) HD.out hlt
        unfold dg; rw [cmpI, if_pos (by omega), cmpI, if_pos (by omega)]; simp
       ·have := mval_cmp HK.out.fit (by rw [HL.out.len, HK.out.len]) i (by rw [HK.out.len]; omega) HD.out.symm (by omega : k.getD i 0 < l.getD i 0)
        unfold dg; rw [cmpI, if_neg (by omega), if_pos (by omega), cmpI, if_neg (by omega), if_pos (by omega)]; simp
      obtain ⟨e4, e5⟩ := hcmp
      have e6 : (cmpI (dg l i) (dg k i) != 0) = true := by rw [bne_iff_ne]; exact e5
      have E4 := Lib.hid e4; clear e4 e5
      go_wp2
      go_quiet ((go_at_call 77; exact Calls.quiet_of_same ((cmpU32_c _ _ _).mono fun _ _ h => ⟨h.1, h.2.symm⟩)))
      go_wp2
      go_ret
      exact ⟨by rw [E4.out]; rfl, hdr.drewN _⟩
    ·obtain rfl : j = 0 := by omega
     have hlk : l = k := by simpa using HD.out
     subst hlk
     have e7 : cmpI (mval l : Int) (mval l : Int) = 0 := by rw [cmpI, if_neg (by omega), if_neg (by omega)]
     have E7 := Lib.hid e7; clear e7
     go_wp2
     go_ret
     exact ⟨by rw [E7.out]; rfl, hdr⟩

theorem sgn_cmp (g h : Bool) (m n : Nat) (hg : g = true → 0 < m) (hh : h = true → 0 < n) : cmpI (sgn g m) (sgn h n) =
  if g then (if h then cmpI n m else -1) else (if h then 1 else cmpI m n) := by
 cases g <;> cases h <;> simp [sgn, cmpI] at * <;> omega
theorem pos_of_norm {l : List Nat} {n : Nat} (h : Norm l) (hl : l.length = n) (hn : 0 < n) : 0 < mval l := by
 by_cases h0 : mval l = 0
 ·have := norm_zero h h0; subst this; simp at hl; omega
 ·omega

set_option maxHeartbeats 400000 in
theorem Compare_c (p q : IV) (x y : Int) (w : World) (hp : IsI w p x) (hq : IsI w q y) :
  Calls Try.prog 70 #[p.v, q.v] w fun e w' => e = .returned (.int .i64 (cmpI x y)) ∧ Ext w w' := by
 obtain ⟨g, a, n, c⟩ := p
 obtain ⟨l, h1, h2, h3, h4, rfl⟩ := hp
 obtain ⟨g', a', n', c'⟩ := q
 obtain ⟨l', h1', h2', h3', h4', rfl⟩ := hq
 have hs := sgn_cmp g g' (mval l) (mval l') (fun h => pos_of_norm h2 h1.len (h4 h)) (fun h => pos_of_norm h2' h1'.len (h4' h))
 have HS := Lib.hid hs; have HA := Lib.hid h1; have HB := Lib.hid h1'
 clear hs h1 h1' h4 h4'
 cases g <;> cases g'
 ·go_enter Try.func70, Try.ntmps70
  go_wp2_with (go_at_call 54; refine (compare_c _ _ _ _ _ _ l l' _ (HA.out.keep (by repeat (first | exact IK.refl _ | refine IK.alloc ?_ _ | refine IK.drew ?_ | refine IK.setCell ?_ (by simp [hc, go_sem]) _))) (HB.out.keep (by repeat (first | exact IK.refl _ | refine IK.alloc ?_ _ | refine IK.drew ?_ | refine IK.setCell ?_ (by simp [hc, go_sem]) _))) h2 h2').mono ?_; rintro e w' ⟨rfl, hd⟩)
  go_ret
  exact ⟨by rw [HS.out]; rfl, Ext.trans (by repeat (first | exact Ext.refl _ | assumption | refine Ext.setCell ?_ (by first | (simp; done) | (simp; omega) | omega) _ | refine Ext.alloc ?_ _ | refine Ext.drew ?_ | refine Ext.trans ?_ (by assumption))) hd.ext⟩
 ·go_enter Try.func70, Try.ntmps70
  go_wp2_with fail
  go_ret
  exact ⟨by rw [HS.out]; rfl, (by repeat (first | exact Ext.refl _ | assumption | refine Ext.setCell ?_ (by first | (simp; done) | (simp; omega) | omega) _ | refine Ext.alloc ?_ _ | refine Ext.drew ?_ | refine Ext.trans ?_ (by assumption)))⟩
 ·go_enter Try.func70, Try.ntmps70
  go_wp2_with fail
  go_ret
  exact ⟨by rw [HS.out]; rfl, (by repeat (first | exact Ext.refl _ | assumption | refine Ext.setCell ?_ (by first | (simp; done) | (simp; omega) | omega) _ | refine Ext.alloc ?_ _ | refine Ext.drew ?_ | refine Ext.trans ?_ (by assumption)))⟩
 ·go_enter Try.func70, Try.ntmps70
  go_wp2_with (go_at_call 54; refine (compare_c _ _ _ _ _ _ l' l _ (HB.out.keep (by repeat (first | exact IK.refl _ | refine IK.alloc ?_ _ | refine IK.drew ?_ | refine IK.setCell ?_ (by simp [hc, go_sem]) _))) (HA.out.keep (by repeat (first | exact IK.refl _ | refine IK.alloc ?_ _ | refine IK.drew ?_ | refine IK.setCell ?_ (by simp [hc, go_sem]) _))) h2' h2).mono ?_; rintro e w' ⟨rfl, hd⟩)
  go_ret
  exact ⟨by rw [HS.out]; rfl, Ext.trans (by repeat (first | exact Ext.refl _ | assumption | refine Ext.setCell ?_ (by first | (simp; done) | (simp; omega) | omega) _ | refine Ext.alloc ?_ _ | refine Ext.drew ?_ | refine Ext.trans ?_ (by assumption))) hd.ext⟩

theorem isI_zero (w : World) : IsI w ⟨false, none, 0, 0⟩ 0 := ⟨[], Wds.nil _, .inl rfl, by simp, by simp, rfl⟩

set_option maxHeartbeats 400000 in
theorem Sign_c (p : IV) (x : Int) (w : World) (hp : IsI w p x) :
  Calls Try.prog 48 #[p.v] w fun e w' => e = .returned (.int .i64 (cmpI x 0)) ∧ Ext w w' := by
 go_enter Try.func48, Try.ntmps48
 go_wp2_with (go_at_call 70; refine (Compare_c p ⟨false, none, 0, 0⟩ x 0 _ (hp.keep (by repeat (first | exact IK.refl _ | refine IK.alloc ?_ _ | refine IK.drew ?_ | refine IK.setCell ?_ (by simp [hc, go_sem]) _))) (isI_zero _)).mono ?_; rintro e w' ⟨rfl, hd⟩)
 go_ret
 exact ⟨rfl, Ext.trans (by repeat (first | exact Ext.refl _ | assumption | refine Ext.setCell ?_ (by first | (simp; done) | (simp; omega) | omega) _ | refine Ext.alloc ?_ _ | refine Ext.drew ?_ | refine Ext.trans ?_ (by assumption))) hd⟩
end Go.Proofs.Ytkoidookanmknaa
/- Whole blocks; rows of words that a call has made; the product of magnitudes. -/
namespace Go.Proofs.Ytkoidookanmknaa
set_option linter.unusedSimpArgs false
set_option linter.unusedVariables false
open Go.RowKit

/-- A block that is known whole, and may be written. -/
def Blk (w : World) (b : Nat) (cs : Array Value) (t : TypeId) : Prop := w.heap[b]? = some (.cells cs t (0, 0))
theorem Blk.lt {w : World} {b : Nat} {cs : Array Value} {t : TypeId} (h : Blk w b cs t) : b < w.heap.size := lt_of_block h
theorem Blk.cell {w : World} {b : Nat} {cs : Array Value} {t : TypeId} (h : Blk w b cs t) (o : Nat) : w.cell? ⟨b, o, none⟩ = cs[o]? := by
 unfold Blk at h; simp [World.cell?, h]
theorem Blk.free {w : World} {b : Nat} {cs : Array Value} {t : TypeId} (h : Blk w b cs t) (o : Nat) : w.frozen? ⟨b, o, none⟩ = false := by
 unfold Blk at h; simp [World.frozen?, h]
theorem Blk.ext {w w' : World} {b : Nat} {cs : Array Value} {t : TypeId} (h : Blk w b cs t) (k : Ext w w') : Blk w' b cs t := by
 unfold Blk; rw [k.below.block b h.lt]; exact h
theorem Blk.new (w : World) (cs : Array Value) (t : TypeId) : Blk (w.alloc (.cells cs t)) w.heap.size cs t := heap_alloc_new w _
theorem Blk.at {w : World} {b : Nat} (cs : Array Value) (t : TypeId) (hb : b = w.heap.size) : Blk (w.alloc (.cells cs t)) b cs t := by subst hb; exact Blk.new w cs t
theorem Blk.alloc {w : World} {b : Nat} {cs : Array Value} {t : TypeId} (h : Blk w b cs t) (o : Obj) : Blk (w.alloc o) b cs t := h.ext ((Ext.refl w).alloc o)
theorem Blk.drewN {w : World} {b : Nat} {cs : Array Value} {t : TypeId} (h : Blk w b cs t) (n : Nat) : Blk (w.drewN n) b cs t := h
theorem Blk.drew {w : World} {b : Nat} {cs : Array Value} {t : TypeId} (h : Blk w b cs t) : Blk w.drew b cs t := h
theorem Blk.setOther {w : World} {b : Nat} {cs : Array Value} {t : TypeId} (h : Blk w b cs t) {p : Addr} (hp : b ≠ p.block) (u : Value) : Blk (w.setCell p u) b cs t := by
 unfold Blk; rw [Below.heap_setCell _ _ _ _ hp]; exact h
theorem Blk.set {w : World} {b : Nat} {cs : Array Value} {t : TypeId} (h : Blk w b cs t) (o : Nat) (u : Value) : Blk (w.setCell ⟨b, o, none⟩ u) b (cs.setIfInBounds o u) t := by
 have hlt := h.lt
 have h' : w.heap[b] = .cells cs t (0, 0) := by unfold Blk at h; simpa [Array.getElem?_eq_getElem hlt] using h
 show (w.heap.modify b _)[b]? = _
 rw [Array.getElem?_eq_getElem (by simpa using hlt), Array.getElem_modify_self, h']
 rfl

/-- The cells of a list of words. -/
def wcells (l : List Nat) : Array Value := (l.map fun d : Nat => Value.int .u32 (d : Int)).toArray
theorem wcells_get (l : List Nat) (i : Nat) (hi : i < l.length) : (wcells l)[i]? = some (.int .u32 (dg l i)) := by
 simp [wcells, hi, dg]
theorem wcells_set (l : List Nat) (i : Nat) (d : Nat) : (wcells l).setIfInBounds i (.int .u32 (d : Int)) = wcells (l.set i d) := by
 simp [wcells, List.map_set]

/-- The row of words l lies in block b. -/
def Row (w : World) (b : Nat) (l : List Nat) : Prop := Blk w b (wcells l) 85
theorem Row.cell {w : World} {b : Nat} {l : List Nat} (h : Row w b l) (i : Nat) (hi : i < l.length) : w.cell? ⟨b, i, none⟩ = some (.int .u32 (dg l i)) := by
 rw [Blk.cell h, wcells_get _ _ hi]
theorem Row.free {w : World} {b : Nat} {l : List Nat} (h : Row w b l) (i : Nat) : w.frozen? ⟨b, i, none⟩ = false := Blk.free h i
theorem Row.lt {w : World} {b : Nat} {l : List Nat} (h : Row w b l) : b < w.heap.size := Blk.lt h
theorem Row.ext {w w' : World} {b : Nat} {l : List Nat} (h : Row w b l) (k : Ext w w') : Row w' b l := Blk.ext h k
theorem Row.drewN {w : World} {b : Nat} {l : List Nat} (h : Row w b l) (n : Nat) : Row (w.drewN n) b l := h
theorem Row.set {w : World} {b : Nat} {l : List Nat} (h : Row w b l) (i : Nat) (d : Nat) (x : Int) (hx : x = (d : Int)) : Row (w.setCell ⟨b, i, none⟩ (.int .u32 x)) b (l.set i d) := by
 subst hx
 have := Blk.set h i (.int .u32 (d : Int))
 rw [wcells_set] at this
 exact this
theorem Row.wds {w : World} {b : Nat} {l : List Nat} (h : Row w b l) (hf : Fit l) (hn : l.length ≤ 65536) {n c : Nat} (h1 : l.length = n) (h2 : n ≤ c) (h3 : c ≤ 65536) : Wds w (some ⟨b, 0, none⟩) n c l :=
 ⟨h1, hf, h2, h3, .inr ⟨b, 0, rfl, h.lt, fun i hi => by rw [Nat.zero_add]; exact h.cell i (by omega)⟩⟩

theorem infoU32 : (Try.prog.info? 85).map (fun i => (i.zero, i.size, i.bytes)) = some (some (.int .u32 0), 1, 4) := by kernel_rfl

/-- 'make([]uint32, n)'. -/
theorem make_words (n : Nat) (x y : Int) (hx : x = (n : Int)) (hy : y = (n : Int)) (hn : n ≤ 65536) (w : World) :
  (Instr.makeSlice 54 (.int .i64 x) (.int .i64 y)).run Try.prog w = .ok (.slice (some ⟨w.heap.size, 0, none⟩) n n) (w.alloc (.cells (wcells (List.replicate n 0)) 85)) := by
 obtain ⟨i0, hi, hz0, hz1, hz2⟩ := info_parts infoU32
 have h := run_make (P := Try.prog) w 54 85 i0 (.int .u32 0) Try.underlying54 hi hz0 .i64 .i64 n n (by omega) (Int.le_refl _) (by rw [hz2]; omega) (by omega)
 subst hx; subst hy
 rw [h, hz1]
 simp only [Int.toNat_natCast, Nat.mul_one]
 rw [show (Value.cells (.int .u32 0)) = #[.int .u32 0] from rfl]
 have e : madeCells #[Value.int .u32 0] n = wcells (List.replicate n 0) := by
  apply Array.toList_inj.1
  rw [toList_madeCells_one]
  simp [wcells]
 rw [e]
end Go.Proofs.Ytkoidookanmknaa
/- Plain arithmetic of magnitudes: products. -/
namespace Go.Proofs.Ytkoidookanmknaa
set_option linter.unusedSimpArgs false
set_option linter.unusedVariables false

theorem set_take (l : List Nat) (j x : Nat) : (l.set j x).take j = l.take j := by
 rw [List.take_set]; exact List.set_eq_of_length_le (by rw [List.length_take]; omega)
theorem set_drop (l : List Nat) (j x : Nat) : (l.set j x).drop (j + 1) = l.drop (j + 1) := by
 rw [List.drop_set]; simp
theorem getD_set_same (l : List Nat) (j x : Nat) (h : j < l.length) : (l.set j x).getD j 0 = x := by
 simp [List.getD_eq_getElem?_getD, h]
theorem getD_set_other (l : List Nat) (j i x : Nat) (h : j ≠ i) : (l.set j x).getD i 0 = l.getD i 0 := by
 simp [List.getD_eq_getElem?_getD, List.getElem?_set, h]
theorem mval_set (l : List Nat) (j x : Nat) (h : j < l.length) : mval (l.set j x) + B32 ^ j * l.getD j 0 = mval l + B32 ^ j * x := by
 have h1 := mval_take_drop l (j + 1) (by omega)
 have h2 := mval_take_drop (l.set j x) (j + 1) (by rw [List.length_set]; omega)
 rw [mval_take_succ l j h] at h1
 rw [mval_take_succ _ j (by rw [List.length_set]; exact h), set_take, set_drop, getD_set_same _ _ _ h] at h2
 omega
theorem Fit.set {l : List Nat} (h : Fit l) (j x : Nat) (hx : x < B32) : Fit (l.set j x) := fun d hd => by
 rcases List.mem_or_eq_of_mem_set hd with hd | rfl
 ·exact h d hd
 ·exact hx
theorem fit_zeros (n : Nat) : Fit (List.replicate n 0) := fun d hd => by
 rw [List.eq_of_mem_replicate hd]; exact B32_pos
theorem getD_zeros (n i : Nat) : (List.replicate n 0).getD i 0 = 0 := by
 simp [List.getD_eq_getElem?_getD, List.getElem?_replicate]; split <;> rfl

/-- The product of two words with two words more still fits. -/
theorem word_prod {x y u v : Nat} (hx : x < B32) (hy : y < B32) (hu : u < B32) (hv : v < B32) : x * y + u + v < B32 * B32 := by
 have h1 : x * y ≤ (B32 - 1) * (B32 - 1) := Nat.mul_le_mul (by omega) (by omega)
 obtain ⟨c, hc⟩ : ∃ c, B32 = c + 1 := ⟨B32 - 1, by have := B32_pos; omega⟩
 rw [hc] at hx hy hu hv h1 ⊢
 rw [Nat.add_sub_cancel] at h1
 have h2 : (c + 1) * (c + 1) = c * c + 2 * c + 1 := by grind
 omega

/-- What holds of the product's row in the midst of the rounds: i words of l are done, and k words of r for the next one. -/
structure Mid (l r o : List Nat) (i k c : Nat) : Prop where
 len : o.length = l.length + r.length
 fit : Fit o
 carry : c < B32
 zero : ∀ j, i + r.length ≤ j → o.getD j 0 = 0
 eq : mval o + B32 ^ (i + k) * c = mval (l.take i) * mval r + l.getD i 0 * B32 ^ i * mval (r.take k)

theorem Mid.begin {l r o : List Nat} {i : Nat} (len : o.length = l.length + r.length) (fit : Fit o) (zero : ∀ j, i + r.length ≤ j → o.getD j 0 = 0) (eq : mval o = mval (l.take i) * mval r) : Mid l r o i 0 0 :=
 ⟨len, fit, B32_pos, zero, by simp [mval, eq]⟩
theorem Mid.step {l r o : List Nat} {i k c : Nat} (h : Mid l r o i k c) (hl : Fit l) (hr : Fit r) (hi : i < l.length) (hk : k < r.length) (t : Nat) (ht : t = l.getD i 0 * r.getD k 0 + o.getD (i + k) 0 + c) :
  Mid l r (o.set (i + k) (t % B32)) i (k + 1) (t / B32) := by
 obtain ⟨h1, h2, h3, h4, h5⟩ := h
 have hb : t < B32 * B32 := by rw [ht]; exact word_prod (hl.getD i) (hr.getD k) (h2.getD _) h3
 refine ⟨by rw [List.length_set]; exact h1, h2.set _ _ (Nat.mod_lt _ B32_pos), (Nat.div_lt_iff_lt_mul B32_pos).2 hb, fun j hj => ?_, ?_⟩
 ·rw [getD_set_other _ _ _ _ (by omega)]; exact h4 j hj
 ·have hs := mval_set o (i + k) (t % B32) (by omega)
  have hd := Nat.mod_add_div t B32
  have hk := mval_take_succ r k hk
  rw [hk, show i + (k + 1) = (i + k) + 1 from by omega, Nat.pow_succ]
  generalize hP : B32 ^ (i + k) = P at *
  have hP2 : P = B32 ^ i * B32 ^ k := by rw [← hP, Nat.pow_add]
  generalize B32 ^ i = Pi at *
  generalize B32 ^ k = Pk at *
  generalize mval (o.set (i + k) (t % B32)) = M' at *
  generalize t % B32 = tm at *
  generalize t / B32 = td at *
  generalize mval (l.take i) * mval r = S at *
  generalize mval (r.take k) = R at *
  generalize mval o = M at *
  generalize o.getD (i + k) 0 = ok at *
  generalize l.getD i 0 = li at *
  generalize r.getD k 0 = rk at *
  generalize B32 = B at *
  clear h1 h2 h3 h4 hl hr hi hb hk
  subst hP2
  grind
theorem Mid.done {l r o : List Nat} {i c : Nat} (h : Mid l r o i r.length c) (hi : i < l.length) :
  (o.set (i + r.length) c).length = l.length + r.length ∧ Fit (o.set (i + r.length) c) ∧ (∀ j, (i + 1) + r.length ≤ j → (o.set (i + r.length) c).getD j 0 = 0) ∧ mval (o.set (i + r.length) c) = mval (l.take (i + 1)) * mval r := by
 obtain ⟨h1, h2, h3, h4, h5⟩ := h
 refine ⟨by rw [List.length_set]; exact h1, h2.set _ _ h3, fun j hj => ?_, ?_⟩
 ·rw [getD_set_other _ _ _ _ (by omega)]; exact h4 j (by omega)
 ·have hs := mval_set o (i + r.length) c (by omega)
  rw [h4 _ (Nat.le_refl _)] at hs
  rw [List.take_of_length_le (Nat.le_refl _)] at h5
  rw [mval_take_succ l i hi, Nat.add_mul]
  have e : B32 ^ i * l.getD i 0 * mval r = l.getD i 0 * B32 ^ i * mval r := by rw [Nat.mul_comm (B32 ^ i)]
  omega
end Go.Proofs.Ytkoidookanmknaa
/- wide: times. -/
namespace Go.Proofs.Ytkoidookanmknaa
set_option linter.unusedSimpArgs false
set_option linter.unusedVariables false
open Go.RowKit

/-- A new slice of words that stands for v. -/
def RetW (v : Nat) (w : World) (e : Ending) (w' : World) : Prop := ∃ (a : Option Addr) (n c : Nat) (o : List Nat), e = .returned (.slice a n c) ∧ Wds w' a n c o ∧ mval o = v ∧ Ext w w'

theorem dg_div (t : Nat) (T : Int) (h : T = (t : Int)) : T % 4294967296 = ((t % B32 : Nat) : Int) ∧ T / 4294967296 = ((t / B32 : Nat) : Int) := by
 subst h; rw [B32_eq]; omega

set_option maxHeartbeats 1000000 in
theorem times_c (a b : Option Addr) (n m c d : Nat) (l r : List Nat) (w : World) (hl : Wds w a n c l) (hr : Wds w b m d r) (hnm : n + m ≤ 4096) :
  Calls Try.prog 47 #[.slice a n c, .slice b m d] w (RetW (mval l * mval r) w) := by
 have hmk := make_words (n + m) ((n : Int) + (m : Int)) ((n : Int) + (m : Int)) (by omega) (by omega) (by omega)
 have HL := Lib.hid hl; have HR := Lib.hid hr; clear hl hr
 go_enter Try.func47, Try.ntmps47
 go_wp2
 go_loopw [20] (fun v wr => ∃ (i : Nat) (o : List Nat), i ≤ n ∧ v = .int .i64 (i : Int) ∧ Row wr w.heap.size o ∧ o.length = n + m ∧ Fit o ∧ (∀ j, i + m ≤ j → o.getD j 0 = 0) ∧ mval o = mval (l.take i) * mval r ∧ Ext w wr)
  (fun v _ => n - (intOf v).toNat)
 case atStart =>
  exact ⟨0, List.replicate (n + m) 0, by omega, rfl, Blk.new _ _ _, by simp, fit_zeros _, fun j _ => getD_zeros _ _, by rw [mval_zeros]; simp [mval], (by repeat (first | exact Ext.refl _ | assumption | refine Ext.setCell ?_ (by first | (simp; done) | (simp; omega) | omega) _ | refine Ext.alloc ?_ _ | refine Ext.drew ?_ | refine Ext.trans ?_ (by assumption)))⟩
 case round =>
  obtain ⟨i, o, hi, rfl, hrow, hlen, hfit, hz, hv, hx⟩ := hrel
  by_cases hlt : i < n
  ·rename_i wr _
   have HL1 := HL.out.keep hx.ik
   have HR1 := Lib.hid (HR.out.keep hx.ik)
   obtain ⟨b1, o1, rfl, hb1, hc1⟩ := HL1.at i hlt
   have HX := Lib.hid hx; have HROW := Lib.hid hrow; have HLEN := Lib.hid hlen; have HZ := Lib.hid hz; have HV := Lib.hid hv
   clear HL1 hx hrow hlen hz hv hmk
   go_wp2
   go_loopw [8, 27] (fun cv kv ws => ∃ (k cy : Nat) (q : List Nat), k ≤ m ∧ kv = .int .i64 (k : Int) ∧ cv = .int .u64 (cy : Int) ∧ Row ws w.heap.size q ∧ Mid l r q i k cy ∧ Ext w ws)
    (fun _ kv _ => m - (intOf kv).toNat)
   case atStart =>
    exact ⟨0, 0, o, by omega, rfl, rfl, HROW.out, Mid.begin (by rw [HL.out.len, HR.out.len, HLEN.out]) hfit (by rw [HR.out.len]; exact HZ.out) HV.out, HX.out⟩
   case round =>
    obtain ⟨k, cy, q, hk, rfl, rfl, hrow, hmid, hx⟩ := hrel
    rename_i ws _
    have hcy := hmid.carry
    rw [B32_eq] at hcy
    by_cases hkm : k < m
    ·have HR2 := HR.out.keep hx.ik
     obtain ⟨b2, o2, rfl, hb2, hc2⟩ := HR2.at k hkm
     have hql := hmid.len
     rw [HL.out.len, HR.out.len] at hql
     have hq := hrow.cell (i + k) (by omega)
     have hqf := hrow.free (i + k)
     have p1 := dg_nonneg l i
     have p2 := dg_lt HL.out.fit i
     have p3 := dg_nonneg r k
     have p4 := dg_lt HR.out.fit k
     have p5 := dg_nonneg q (i + k)
     have p6 := dg_lt hmid.fit (i + k)
     have p7 : (0 : Int) ≤ dg l i * dg r k := Int.mul_nonneg p1 p3
     have p8 : dg l i * dg r k + dg q (i + k) + (cy : Int) ≤ 18446744073709551615 := by
      have := word_prod (HL.out.fit.getD i) (HR.out.fit.getD k) (hmid.fit.getD (i + k)) hmid.carry
      rw [B32_eq] at this
      have e : dg l i * dg r k = ((l.getD i 0 * r.getD k 0 : Nat) : Int) := by unfold dg; omega
      unfold dg at *; omega
     have HQL := Lib.hid hql; have HRO := Lib.hid hrow; have HM := Lib.hid hmid; have HX2 := Lib.hid hx
     clear hql hrow hmid hx HR2
     go_wp2
     go_roundw
     case rel =>
      have hT : dg l i * dg r k + dg q (i + k) + (cy : Int) = ((l.getD i 0 * r.getD k 0 + q.getD (i + k) 0 + cy : Nat) : Int) := by unfold dg; omega
      have hd := dg_div _ _ hT
      exact ⟨k + 1, _, _, by omega, by go_num, by rw [hd.2], Row.set HRO.out _ _ _ hd.1, HM.out.step HL.out.fit HR.out.fit (by rw [HL.out.len]; exact hlt) (by rw [HR.out.len]; exact hkm) _ rfl, HX2.out.setCell (Nat.le_refl _) _⟩
     case measure => simp [intOf]; omega
    ·obtain rfl : k = m := by omega
     have hql := hmid.len
     rw [HL.out.len, HR.out.len] at hql
     have hq := hrow.cell (i + k) (by omega)
     have hqf := hrow.free (i + k)
     have HQL := Lib.hid hql; have HRO := Lib.hid hrow; have HM := Lib.hid hmid; have HX2 := Lib.hid hx
     clear hql hrow hmid hx
     go_wp2
     go_roundw
     case rel =>
      have hM := HM.out
      rw [← HR.out.len] at hM
      have hD := hM.done (by rw [HL.out.len]; exact hlt)
      rw [HL.out.len, HR.out.len] at hD
      exact ⟨i + 1, _, by omega, by go_num, Row.set HRO.out _ _ _ (by omega), hD.1, hD.2.1, hD.2.2.1, hD.2.2.2, HX2.out.setCell (Nat.le_refl _) _⟩
     case measure => simp [intOf]; omega
  ·obtain rfl : i = n := by omega
   clear hmk
   go_wp2
   go_ret
   exact ⟨_, _, _, o, rfl, hrow.wds hfit (by omega) hlen (Nat.le_refl _) (by omega), by rw [hv, List.take_of_length_le (by rw [HL.out.len]; omega)], hx⟩
end Go.Proofs.Ytkoidookanmknaa
/- Plain arithmetic of magnitudes: sums and differences. -/
namespace Go.Proofs.Ytkoidookanmknaa
set_option linter.unusedSimpArgs false
set_option linter.unusedVariables false

theorem mval_take_next (l : List Nat) (k : Nat) : mval (l.take (k + 1)) = mval (l.take k) + B32 ^ k * l.getD k 0 := by
 by_cases h : k < l.length
 ·exact mval_take_succ l k h
 ·rw [List.take_of_length_le (by omega), List.take_of_length_le (by omega), getD_ge _ _ (by omega)]; simp
theorem take_all (l : List Nat) (k : Nat) (h : l.length ≤ k) : l.take k = l := List.take_of_length_le h
theorem take_set_next (o : List Nat) (i x : Nat) (h : i < o.length) : mval ((o.set i x).take (i + 1)) = mval (o.take i) + B32 ^ i * x := by
 rw [mval_take_next, set_take, getD_set_same _ _ _ h]

theorem two_le_B32 : 2 ≤ B32 := by rw [B32_eq]; omega
/-- The sum in the midst of the rounds. -/
structure SumMid (l r o : List Nat) (i c : Nat) : Prop where
 len : o.length = l.length + 1
 fit : Fit o
 carry : c ≤ 1
 eq : mval (o.take i) + B32 ^ i * c = mval (l.take i) + mval (r.take i)
theorem SumMid.begin (l r o : List Nat) (h : o.length = l.length + 1) (f : Fit o) : SumMid l r o 0 0 := ⟨h, f, by omega, by simp [mval]⟩
theorem SumMid.step {l r o : List Nat} {i c : Nat} (h : SumMid l r o i c) (fl : Fit l) (fr : Fit r) (hi : i < l.length + 1) (t : Nat) (ht : t = c + (l.getD i 0 + r.getD i 0)) :
  SumMid l r (o.set i (t % B32)) (i + 1) (t / B32) := by
 obtain ⟨h1, h2, h3, h4⟩ := h
 have a1 := fl.getD i
 have a2 := fr.getD i
 refine ⟨by rw [List.length_set]; exact h1, h2.set _ _ (Nat.mod_lt _ B32_pos), ?_, ?_⟩
 ·have : t / B32 < 2 := (Nat.div_lt_iff_lt_mul B32_pos).2 (by omega)
  omega
 ·rw [take_set_next _ _ _ (by omega), mval_take_next l, mval_take_next r, Nat.pow_succ]
  have hd := Nat.mod_add_div t B32
  generalize B32 ^ i = P at *
  generalize t % B32 = tm at *
  generalize t / B32 = td at *
  have e : P * tm + P * B32 * td = P * t := by rw [← hd, Nat.mul_add, Nat.mul_assoc]
  rw [ht, Nat.mul_add, Nat.mul_add] at e
  omega
theorem no_carry {P1 P2 P3 o l r c : Nat} (h4 : o + P1 * c = l + r) (b1 : l < P2) (b2 : r < P3) (b3 : P3 ≤ P2) (b4 : P2 * 2 ≤ P1) : o = l + r := by
 have hc : c = 0 := by
  by_cases hc : c = 0
  ·exact hc
  ·obtain ⟨d, rfl⟩ : ∃ d, c = d + 1 := ⟨c - 1, by omega⟩
   rw [Nat.mul_add] at h4
   omega
 subst hc
 omega
theorem SumMid.done {l r o : List Nat} {c : Nat} (h : SumMid l r o (l.length + 1) c) (fl : Fit l) (fr : Fit r) (hlr : r.length ≤ l.length) : mval o = mval l + mval r := by
 obtain ⟨h1, h2, h3, h4⟩ := h
 rw [take_all o _ (by omega), take_all l _ (by omega), take_all r _ (by omega)] at h4
 exact no_carry h4 (mval_lt fl) (mval_lt fr) (Nat.pow_le_pow_right B32_pos hlr) (by rw [Nat.pow_succ]; exact Nat.mul_le_mul_left _ two_le_B32)

/-- The difference in the midst of the rounds: a is the first number, q what lies in its row now. -/
structure SubMid (l r q : List Nat) (i b : Nat) : Prop where
 len : q.length = l.length
 fit : Fit q
 borrow : b ≤ 1
 rest : ∀ j, i ≤ j → q.getD j 0 = l.getD j 0
 eq : mval (q.take i) + mval (r.take i) = mval (l.take i) + B32 ^ i * b
theorem SubMid.begin (l r : List Nat) (f : Fit l) : SubMid l r l 0 0 := ⟨rfl, f, by omega, fun _ _ => rfl, by simp [mval]⟩
/-- One round: v is what is taken off, the low word is raised by the base where it is less. -/
theorem SubMid.step {l r q : List Nat} {i b : Nat} (h : SubMid l r q i b) (fr : Fit r) (hi : i < l.length) (x b' : Nat)
  (hx : x + (b + r.getD i 0) = q.getD i 0 + B32 * b') (hxB : x < B32) (hb' : b' ≤ 1) : SubMid l r (q.set i x) (i + 1) b' := by
 obtain ⟨h1, h2, h3, h4, h5⟩ := h
 refine ⟨by rw [List.length_set]; exact h1, h2.set _ _ hxB, hb', fun j hj => ?_, ?_⟩
 ·rw [getD_set_other _ _ _ _ (by omega)]; exact h4 j (by omega)
 ·rw [take_set_next _ _ _ (by omega), mval_take_next l, mval_take_next r, Nat.pow_succ]
  rw [h4 i (Nat.le_refl _)] at hx
  generalize B32 ^ i = P at *
  have e : P * (x + (b + r.getD i 0)) = P * (l.getD i 0 + B32 * b') := by rw [hx]
  rw [Nat.mul_add, Nat.mul_add, Nat.mul_add, ← Nat.mul_assoc] at e
  omega
theorem SubMid.done {l r q : List Nat} {b : Nat} (h : SubMid l r q l.length b) (hlr : r.length ≤ l.length) (hge : mval r ≤ mval l) : b = 0 ∧ mval q = mval l - mval r := by
 obtain ⟨h1, h2, h3, h4, h5⟩ := h
 rw [take_all q _ (by omega), take_all l _ (by omega), take_all r _ (by omega)] at h5
 have b1 := mval_lt h2
 rw [h1] at b1
 generalize B32 ^ l.length = P2 at *
 have hc : b = 0 := by
  by_cases hc : b = 0
  ·exact hc
  ·have h6 : b = 1 := by omega
   subst h6
   omega
 subst hc
 exact ⟨rfl, by omega⟩
end Go.Proofs.Ytkoidookanmknaa
/- wide: carrier, sum, subtract, difference. -/
namespace Go.Proofs.Ytkoidookanmknaa
set_option linter.unusedSimpArgs false
set_option linter.unusedVariables false
open Go.RowKit

theorem Blk.grown {w w' : World} {b g : Nat} {cs : Array Value} {t : TypeId} (h : Blk w b cs t) (k : w.grownBy w' (some g)) (hne : b ≠ g) : Blk w' b cs t := by
 unfold Blk; rw [k.block b h.lt (fun e => hne (by injection e))]; exact h
theorem Ext.grown {a w w' : World} {g : Nat} (h : Ext a w) (k : w.grownBy w' (some g)) (hg : a.heap.size ≤ g) : Ext a w' :=
 Below.grown h k h.size (fun x hx => by injection hx with hx; omega)

theorem grown_setCell (w : World) (g o : Nat) (u : Value) : w.grownBy (w.setCell ⟨g, o, none⟩ u) (some g) :=
 ⟨rfl, rfl, rfl, by simp, fun k _ hne => Below.heap_setCell _ _ _ _ (fun e => hne (by rw [e]))⟩
theorem grown_trans {a b c : World} {g : Nat} (h : a.grownBy b (some g)) (k : b.grownBy c (some g)) : a.grownBy c (some g) :=
 ⟨k.os.trans h.os, k.tape.trans h.tape, k.output.trans h.output, Nat.le_trans h.size k.size, fun x hx hne => (k.block x (Nat.lt_of_lt_of_le hx h.size) hne).trans (h.block x hx hne)⟩

set_option maxHeartbeats 400000 in
theorem carrier1_c (cb : Nat) (V : Int) (v cy : Nat) (w : World) (hV : V = (v : Int)) (h : Blk w cb #[.int .u64 (cy : Int)] 83) (hv : cy + v ≤ 18446744073709551615) :
  Calls Try.prog 88 #[.int .u64 V, .pointer (some ⟨cb, 0, none⟩)] w fun e w' => e = .returned (.int .u32 (((cy + v) % B32 : Nat) : Int)) ∧ Blk w' cb #[.int .u64 (((cy + v) / B32 : Nat) : Int)] 83 ∧ w.grownBy w' (some cb) := by
 subst hV
 have c0 : w.cell? ⟨cb, 0, none⟩ = some (.int .u64 (cy : Int)) := h.cell 0
 have f0 := h.free 0
 have l0 := h.lt
 have hs : (0 : Int) ≤ (cy : Int) + (v : Int) ∧ (cy : Int) + (v : Int) ≤ 18446744073709551615 := by omega
 obtain ⟨hs1, hs2⟩ := hs
 have hd := dg_div (cy + v) ((cy : Int) + (v : Int)) (by omega)
 have HD := Lib.hid hd; clear hd
 have HB := Lib.hid h; clear h
 go_enter Try.func88, Try.ntmps88
 go_wp2
 go_ret
 refine ⟨by rw [← HD.out.1]; rfl, ?_, grown_trans (grown_setCell _ _ _ _) (grown_setCell _ _ _ _)⟩
 rw [← HD.out.2]
 exact (HB.out.set 0 _).set 0 _

set_option maxHeartbeats 400000 in
theorem carrier_c (w : World) :
  Calls Try.prog 75 #[] w fun e w' => e = .returned (.func (.func 88) #[] #[.pointer (some ⟨w.heap.size, 0, none⟩)]) ∧ Blk w' w.heap.size #[.int .u64 0] 83 ∧ Ext w w' := by
 go_enter Try.func75, Try.ntmps75
 go_wp2
 go_ret
 exact ⟨rfl, Blk.new _ _ _, (by repeat (first | exact Ext.refl _ | assumption | refine Ext.setCell ?_ (by first | (simp; done) | (simp; omega) | omega) _ | refine Ext.alloc ?_ _ | refine Ext.drew ?_ | refine Ext.trans ?_ (by assumption)))⟩

set_option maxHeartbeats 1000000 in
theorem sum_c (a b : Option Addr) (n m c d : Nat) (l r : List Nat) (w : World) (hl : Wds w a n c l) (hr : Wds w b m d r) (hn : n ≤ 4096) (hm : m ≤ 4096) :
  Calls Try.prog 53 #[.slice a n c, .slice b m d] w (RetW (mval l + mval r) w) := by
 have HL := Lib.hid hl; have HR := Lib.hid hr; clear hl hr
 go_enter Try.func53, Try.ntmps53
 go_upto_if 13 with (fail)
 go_cut [0, 1] (fun s0 s1 wx => ∃ (A A' : Option Addr) (N M C D : Nat) (L R : List Nat), s0 = .slice A N C ∧ s1 = .slice A' M D ∧ Wds w A N C L ∧ Wds w A' M D R ∧ M ≤ N ∧ N ≤ 4096 ∧ mval L + mval R = mval l + mval r ∧ w = wx)
 case first =>
  go_wp2
  ·go_meet
   exact ⟨b, a, m, n, d, c, r, l, rfl, rfl, HR.out, HL.out, by omega, hm, Nat.add_comm _ _, rfl⟩
  ·go_meet
   exact ⟨a, b, n, m, c, d, l, r, rfl, rfl, HL.out, HR.out, by omega, hn, rfl, rfl⟩
 case rest =>
  obtain ⟨A, A', N, M, C, D, L, R, rfl, rfl, hL, hR, hMN, hN, hv, rfl⟩ := hcut
  have HA := Lib.hid hL; have HB := Lib.hid hR; have HV := Lib.hid hv; clear hL hR hv HL HR
  have hmk := make_words (N + 1) ((N : Int) + 1) ((N : Int) + 1) (by omega) (by omega) (by omega)
  go_wp2_with (go_at_call 75; refine (carrier_c _).mono ?_; rintro e w1 ⟨rfl, hB1, hx1⟩; have hR1 := (Blk.new w (wcells (List.replicate (N + 1) 0)) 85).ext hx1; have HX1 := Lib.hid (((Ext.refl w).alloc _).trans hx1); have HB1 := Lib.hid hB1; have HR1 := Lib.hid hR1; clear hB1 hR1 hx1)
  go_loopw [23] (fun v ws => ∃ (i cy : Nat) (o : List Nat), i ≤ N + 1 ∧ v = .int .i64 (i : Int) ∧ Row ws w.heap.size o ∧ Blk ws (w.heap.size + 1) #[.int .u64 (cy : Int)] 83 ∧ SumMid L R o i cy ∧ Ext w ws)
   (fun v _ => N + 1 - (intOf v).toNat)
  case atStart =>
   exact ⟨0, 0, List.replicate (N + 1) 0, by omega, rfl, HR1.out, by have := HB1.out; simpa using this, SumMid.begin L R _ (by rw [HA.out.len]; simp) (fit_zeros _), HX1.out⟩
  case round =>
   clear hmk
   obtain ⟨i, cy, o, hi, rfl, hrow, hblk, hmid, hx⟩ := hrel
   have hA := HA.out.keep hx.ik
   have hB := HB.out.keep hx.ik
   have hol := hmid.len
   rw [HA.out.len] at hol
   have hcy := hmid.carry
   have fL := HA.out.fit.getD i
   have fR := HB.out.fit.getD i
   rw [B32_eq] at fL fR
   by_cases hlt : i < N + 1
   ·have hsz := hrow.lt
    have rc := hrow.cell i (by omega)
    have rf := hrow.free i
    have RO := Lib.hid hrow; have BK := Lib.hid hblk; have MD := Lib.hid hmid; have HX := Lib.hid hx; have OL := Lib.hid hol
    clear hrow hblk hmid hx hol
    by_cases hiM : i < M
    ·obtain ⟨b1, o1, rfl, hb1, hc1⟩ := hA.at i (by omega)
     obtain ⟨b2, o2, rfl, hb2, hc2⟩ := hB.at i hiM
     have p1 := dg_nonneg L i
     have p2 := dg_lt HA.out.fit i
     have p3 := dg_nonneg R i
     have p4 := dg_lt HB.out.fit i
     have hiN : i < N := by omega
     have hV : dg L i + dg R i = ((L.getD i 0 + R.getD i 0 : Nat) : Int) := by unfold dg; omega
     have hb : cy + (L.getD i 0 + R.getD i 0) ≤ 18446744073709551615 := by omega
     have HV1 := Lib.hid hV; have HBD := Lib.hid hb
     clear hA hB hV hb fL fR
     go_wp2_with (go_at_call 88; refine (carrier1_c _ _ _ _ _ HV1.out BK.out HBD.out).mono ?_; rintro e w2 ⟨rfl, hB2, hG2⟩; have hx2 := Lib.hid (HX.out.grown hG2 (by omega)); have RO2 := Blk.grown RO.out hG2 (by omega); have BK2 := Lib.hid hB2; clear hB2 hG2; have rc2 := Row.cell RO2 i (by rw [OL.out]; omega); have rf2 := Row.free RO2 i; have RO3 := Lib.hid RO2; clear RO2)
     go_roundw
     case rel =>
      exact ⟨i + 1, _, _, by omega, by go_num, Row.set RO3.out _ _ _ rfl, BK2.out.setOther (by simp) _, MD.out.step HA.out.fit HB.out.fit (by rw [HA.out.len]; omega) _ rfl, hx2.out.setCell (Nat.le_refl _) _⟩
     case measure => simp [intOf]; omega
    ·by_cases hiN : i < N
     ·obtain ⟨b1, o1, rfl, hb1, hc1⟩ := hA.at i (by omega)
      have p1 := dg_nonneg L i
      have p2 := dg_lt HA.out.fit i
      have hz : R.getD i 0 = 0 := getD_ge _ _ (by rw [HB.out.len]; omega)
      have hV : dg L i = ((L.getD i 0 + R.getD i 0 : Nat) : Int) := by unfold dg; omega
      have hb : cy + (L.getD i 0 + R.getD i 0) ≤ 18446744073709551615 := by omega
      have HV1 := Lib.hid hV; have HBD := Lib.hid hb
      clear hA hB hV hb fL fR hz
      go_wp2_with (go_at_call 88; refine (carrier1_c _ _ _ _ _ HV1.out BK.out HBD.out).mono ?_; rintro e w2 ⟨rfl, hB2, hG2⟩; have hx2 := Lib.hid (HX.out.grown hG2 (by omega)); have RO2 := Blk.grown RO.out hG2 (by omega); have BK2 := Lib.hid hB2; clear hB2 hG2; have rc2 := Row.cell RO2 i (by rw [OL.out]; omega); have rf2 := Row.free RO2 i; have RO3 := Lib.hid RO2; clear RO2)
      go_roundw
      case rel =>
       exact ⟨i + 1, _, _, by omega, by go_num, Row.set RO3.out _ _ _ rfl, BK2.out.setOther (by simp) _, MD.out.step HA.out.fit HB.out.fit (by rw [HA.out.len]; omega) _ rfl, hx2.out.setCell (Nat.le_refl _) _⟩
      case measure => simp [intOf]; omega
     ·have hz : R.getD i 0 = 0 := getD_ge _ _ (by rw [HB.out.len]; omega)
      have hz2 : L.getD i 0 = 0 := getD_ge _ _ (by rw [HA.out.len]; omega)
      have hV : (0 : Int) = ((L.getD i 0 + R.getD i 0 : Nat) : Int) := by omega
      have hb : cy + (L.getD i 0 + R.getD i 0) ≤ 18446744073709551615 := by omega
      have HV1 := Lib.hid hV; have HBD := Lib.hid hb
      clear hA hB hV hb fL fR hz hz2
      go_wp2_with (go_at_call 88; refine (carrier1_c _ _ _ _ _ HV1.out BK.out HBD.out).mono ?_; rintro e w2 ⟨rfl, hB2, hG2⟩; have hx2 := Lib.hid (HX.out.grown hG2 (by omega)); have RO2 := Blk.grown RO.out hG2 (by omega); have BK2 := Lib.hid hB2; clear hB2 hG2; have rc2 := Row.cell RO2 i (by rw [OL.out]; omega); have rf2 := Row.free RO2 i; have RO3 := Lib.hid RO2; clear RO2)
      go_roundw
      case rel =>
       exact ⟨i + 1, _, _, by omega, by go_num, Row.set RO3.out _ _ _ rfl, BK2.out.setOther (by simp) _, MD.out.step HA.out.fit HB.out.fit (by rw [HA.out.len]; omega) _ rfl, hx2.out.setCell (Nat.le_refl _) _⟩
      case measure => simp [intOf]; omega
   ·obtain rfl : i = N + 1 := by omega
    have hsum : mval o = mval L + mval R := by
     have h := hmid
     rw [← HA.out.len] at h
     exact h.done HA.out.fit HB.out.fit (by rw [HA.out.len, HB.out.len]; omega)
    have HS := Lib.hid hsum; have RO := Lib.hid hrow; have MD := Lib.hid hmid; have HX := Lib.hid hx
    have HOL := Lib.hid hol
    clear hA hB fL fR hsum hrow hblk hmid hx hol
    go_wp2
    go_ret
    exact ⟨_, _, _, o, rfl, RO.out.wds MD.out.fit (by rw [HOL.out]; omega) HOL.out (Nat.le_refl _) (by omega), by rw [HS.out, HV.out], HX.out⟩
end Go.Proofs.Ytkoidookanmknaa
/- wide: subtract, difference. -/
namespace Go.Proofs.Ytkoidookanmknaa
set_option linter.unusedSimpArgs false
set_option linter.unusedVariables false
open Go.RowKit

set_option maxHeartbeats 1000000 in
theorem subtract_c (W0 : World) (ab : Nat) (b : Option Addr) (n m cA d : Nat) (l r : List Nat) (w : World) (hl : Row w ab l) (hln : l.length = n) (hlf : Fit l) (hr : Wds W0 b m d r) (hx : Ext W0 w) (hab : W0.heap.size ≤ ab) (hn : n ≤ 4096) :
  Calls Try.prog 78 #[.slice (some ⟨ab, 0, none⟩) n cA, .slice b m d] w fun e w' => ∃ (q : List Nat) (bo : Nat), e = .returned (.int .u32 (bo : Int)) ∧ Row w' ab q ∧ SubMid l r q n bo ∧ Ext W0 w' := by
 have HR := Lib.hid hr; have HL := Lib.hid hl; have HN := Lib.hid hln; have HX := Lib.hid hx
 have hm4 := hr.most; have hm5 := hr.cap
 clear hl hr hln hx
 go_enter Try.func78, Try.ntmps78
 go_wp2
 go_loopw [5, 11] (fun bv v ws => ∃ (i bo : Nat) (q : List Nat), i ≤ n ∧ v = .int .i64 (i : Int) ∧ bv = .int .u64 (bo : Int) ∧ Row ws ab q ∧ SubMid l r q i bo ∧ Ext W0 ws)
  (fun _ v _ => n - (intOf v).toNat)
 case atStart => exact ⟨0, 0, l, by omega, rfl, rfl, HL.out, SubMid.begin l r hlf, HX.out⟩
 case round =>
  obtain ⟨i, bo, q, hi, rfl, rfl, hrow, hmid, hx⟩ := hrel
  have hB := HR.out.keep hx.ik
  have hol := hmid.len
  rw [HN.out] at hol
  have hbo := hmid.borrow
  have fq := hmid.fit.getD i
  have fr := HR.out.fit.getD i
  rw [B32_eq] at fq fr
  by_cases hlt : i < n
  ·have hsz := hrow.lt
   have rc := hrow.cell i (by omega)
   have rf := hrow.free i
   have p1 := dg_nonneg q i
   have p2 := dg_lt hmid.fit i
   have RO := Lib.hid hrow; have MD := Lib.hid hmid; have HX := Lib.hid hx; have OL := Lib.hid hol
   clear hrow hmid hx hol
   by_cases him : i < m
   ·obtain ⟨b2, o2, rfl, hb2, hc2⟩ := hB.at i him
    have p3 := dg_nonneg r i
    have p4 := dg_lt HR.out.fit i
    by_cases hgt : dg q i < (bo : Int) + dg r i
    ·obtain ⟨x, hxe⟩ : ∃ x : Nat, x + (bo + r.getD i 0) = q.getD i 0 + 4294967296 * 1 := ⟨q.getD i 0 + 4294967296 - (bo + r.getD i 0), by omega⟩
     have hval : dg q i + 4294967296 - ((bo : Int) + dg r i) = (x : Int) := by unfold dg at *; omega
     have hxB : x < 4294967296 := by unfold dg at hgt; omega
     have hwx : (x : Int) % 4294967296 = (x : Int) := by omega
     have hxb : (0 : Int) ≤ (x : Int) := by omega
     have HXE := Lib.hid hxe; have HVAL := Lib.hid hval; have HXB := Lib.hid hxB; have HWX := Lib.hid hwx
     clear hxe hval hxB hB fq fr hwx 
     go_wp2
     go_roundw
     case rel =>
      exact ⟨i + 1, 1, q.set i x, by omega, by go_num, rfl, Row.set RO.out _ _ _ (by first | exact HVAL.out | (rw [HVAL.out, HWX.out]) | (rw [← HVAL.out]; omega) | omega), MD.out.step HR.out.fit (by rw [HN.out]; exact hlt) x 1 (by rw [B32_eq]; exact HXE.out) (by rw [B32_eq]; exact HXB.out) (by omega), HX.out.setCell hab _⟩
     case measure => simp [intOf]; omega
    ·obtain ⟨x, hxe⟩ : ∃ x : Nat, x + (bo + r.getD i 0) = q.getD i 0 + 4294967296 * 0 := ⟨q.getD i 0 - (bo + r.getD i 0), by unfold dg at hgt; omega⟩
     have hval : dg q i - ((bo : Int) + dg r i) = (x : Int) := by unfold dg at *; omega
     have hxB : x < 4294967296 := by omega
     have hwx : (x : Int) % 4294967296 = (x : Int) := by omega
     have hxb : (0 : Int) ≤ (x : Int) := by omega
     have HXE := Lib.hid hxe; have HVAL := Lib.hid hval; have HXB := Lib.hid hxB; have HWX := Lib.hid hwx
     clear hxe hval hxB hB fq fr hwx 
     go_wp2
     go_roundw
     case rel =>
      exact ⟨i + 1, 0, q.set i x, by omega, by go_num, rfl, Row.set RO.out _ _ _ (by first | exact HVAL.out | (rw [HVAL.out, HWX.out]) | (rw [← HVAL.out]; omega) | omega), MD.out.step HR.out.fit (by rw [HN.out]; exact hlt) x 0 (by rw [B32_eq]; exact HXE.out) (by rw [B32_eq]; exact HXB.out) (by omega), HX.out.setCell hab _⟩
     case measure => simp [intOf]; omega
   ·have hz : r.getD i 0 = 0 := getD_ge _ _ (by rw [HR.out.len]; omega)
    by_cases hgt : dg q i < (bo : Int)
    ·obtain ⟨x, hxe⟩ : ∃ x : Nat, x + (bo + r.getD i 0) = q.getD i 0 + 4294967296 * 1 := ⟨q.getD i 0 + 4294967296 - (bo + r.getD i 0), by omega⟩
     have hval : dg q i + 4294967296 - (bo : Int) = (x : Int) := by unfold dg at *; omega
     have hxB : x < 4294967296 := by unfold dg at hgt; omega
     have hwx : (x : Int) % 4294967296 = (x : Int) := by omega
     have hxb : (0 : Int) ≤ (x : Int) := by omega
     have HXE := Lib.hid hxe; have HVAL := Lib.hid hval; have HXB := Lib.hid hxB; have HWX := Lib.hid hwx
     clear hxe hval hxB hB fq fr hwx hz
     go_wp2
     go_roundw
     case rel =>
      exact ⟨i + 1, 1, q.set i x, by omega, by go_num, rfl, Row.set RO.out _ _ _ (by first | exact HVAL.out | (rw [HVAL.out, HWX.out]) | (rw [← HVAL.out]; omega) | omega), MD.out.step HR.out.fit (by rw [HN.out]; exact hlt) x 1 (by rw [B32_eq]; exact HXE.out) (by rw [B32_eq]; exact HXB.out) (by omega), HX.out.setCell hab _⟩
     case measure => simp [intOf]; omega
    ·obtain ⟨x, hxe⟩ : ∃ x : Nat, x + (bo + r.getD i 0) = q.getD i 0 + 4294967296 * 0 := ⟨q.getD i 0 - (bo + r.getD i 0), by unfold dg at hgt; omega⟩
     have hval : dg q i - (bo : Int) = (x : Int) := by unfold dg at *; omega
     have hxB : x < 4294967296 := by omega
     have hwx : (x : Int) % 4294967296 = (x : Int) := by omega
     have hxb : (0 : Int) ≤ (x : Int) := by omega
     have HXE := Lib.hid hxe; have HVAL := Lib.hid hval; have HXB := Lib.hid hxB; have HWX := Lib.hid hwx
     clear hxe hval hxB hB fq fr hwx hz
     go_wp2
     go_roundw
     case rel =>
      exact ⟨i + 1, 0, q.set i x, by omega, by go_num, rfl, Row.set RO.out _ _ _ (by first | exact HVAL.out | (rw [HVAL.out, HWX.out]) | (rw [← HVAL.out]; omega) | omega), MD.out.step HR.out.fit (by rw [HN.out]; exact hlt) x 0 (by rw [B32_eq]; exact HXE.out) (by rw [B32_eq]; exact HXB.out) (by omega), HX.out.setCell hab _⟩
     case measure => simp [intOf]; omega
  ·obtain rfl : i = n := by omega
   have RO := Lib.hid hrow; have MD := Lib.hid hmid; have HX := Lib.hid hx
   clear hB fq fr hrow hmid hx hol
   go_wp2
   go_ret
   exact ⟨q, bo, rfl, RO.out, MD.out, HX.out⟩

/-- The cells of a list of words, as a list. -/
def wlist (l : List Nat) : List Value := l.map fun d : Nat => Value.int .u32 (d : Int)
theorem wlist_length (l : List Nat) : (wlist l).length = l.length := by simp [wlist]
theorem wlist_one (l : List Nat) : ∀ v ∈ wlist l, v.oneCell' = true := by
 intro v hv; obtain ⟨d, _, rfl⟩ := List.mem_map.1 hv; rfl
theorem wlist_get (l : List Nat) (j : Nat) (v : Value) (h : (wlist l)[j]? = some v) : j < l.length ∧ v = .int .u32 (dg l j) := by
 have hj : j < l.length := by
  by_cases hj : j < l.length
  ·exact hj
  ·simp [wlist, hj] at h
 refine ⟨hj, ?_⟩
 simp [wlist, hj] at h
 rw [← h]; simp [dg, hj]

theorem sizeU32 : (Try.prog.info? 85).map (·.size) = some 1 := by kernel_rfl

theorem addr_add (b o j : Nat) : (⟨b, o, none⟩ : Addr).add j = ⟨b, o + j, none⟩ := by
 unfold Addr.add; split
 ·rename_i h; subst h; rfl
 ·rfl
/-- 'copy(out, a)' of a slice into a new row of the same length. -/
theorem copy_words (w W0 : World) (B n c : Nat) (a : Option Addr) (l0 l : List Nat) (h0 : Row W0 B l0) (hlen : l0.length = n) (hl : Wds W0 a n c l) (hx : Ext w W0) (hB : w.heap.size ≤ B) :
  ∃ w1, (Builtin.copy_ #[54, 54] 3 #[.slice (some ⟨B, 0, none⟩) n n, .slice a n c]).run Try.prog W0 = .ok (.int .i64 (n : Int)) w1 ∧ Row w1 B l ∧ Ext w w1 := by
 have hll := hl.len
 by_cases hn : n = 0
 ·subst hn
  have e1 : l = [] := List.eq_nil_of_length_eq_zero hll
  have e2 : l0 = [] := List.eq_nil_of_length_eq_zero hlen
  subst e1; subst e2
  refine ⟨W0, ?_, h0, hx⟩
  rw [run_copy_none W0 54 54 3 85 _ _ _ _ _ _ Try.underlying54 sizeU32 (by simp)]
  rfl
 ·obtain ⟨b1, o1, rfl, hb1, _⟩ := hl.at 0 (by omega)
  refine ⟨W0.setRow B (wcells l), ?_, ?_, ?_⟩
  ·rw [run_copy_row Try.prog W0 54 54 3 85 B 0 n n ⟨b1, o1, none⟩ n c (wcells l0) 85 (wlist l) Try.underlying54 sizeU32 h0 (by rw [wlist_length, hll]; simp)
    (fun j v hv => by
     obtain ⟨hj, rfl⟩ := wlist_get _ _ _ hv
     obtain ⟨b2, o2, he, _, hc⟩ := hl.at j (by rw [← hll]; exact hj)
     cases he
     rw [addr_add]; exact hc) (by simp [wlist_length, wcells, hlen, hll]) (wlist_one l)]
   have e3 : List.drop n (List.map (fun d : Nat => Value.int .u32 (d : Int)) l0) = [] := List.drop_of_length_le (by rw [List.length_map, hlen]; exact Nat.le_refl _)
   simp [wlist, wcells, hll, goInt, e3]
  ·exact setRow_heap W0 B _ _ _ _ h0
  ·exact Below.trans hx ⟨rfl, rfl, rfl, by simp [World.setRow], fun k hk => setRow_other W0 B k _ (by have := hx.size; omega)⟩

set_option maxHeartbeats 1000000 in
theorem difference_c (a b : Option Addr) (n m c d : Nat) (l r : List Nat) (w : World) (hl : Wds w a n c l) (hr : Wds w b m d r) (hn : n ≤ 4096) (hmn : m ≤ n) (hge : mval r ≤ mval l) :
  Calls Try.prog 55 #[.slice a n c, .slice b m d] w (RetW (mval l - mval r) w) := by
 have HL := Lib.hid hl; have HR := Lib.hid hr; have HG := Lib.hid hge; clear hl hr hge
 have hmk := make_words n (n : Int) (n : Int) rfl rfl (by omega)
 have hB0 := Lib.hid (Blk.new w (wcells (List.replicate n 0)) 85)
 have hE0 : Ext w (w.alloc (.cells (wcells (List.replicate n 0)) 85)) := (by repeat (first | exact Ext.refl _ | assumption | refine Ext.setCell ?_ (by first | (simp; done) | (simp; omega) | omega) _ | refine Ext.alloc ?_ _ | refine Ext.drew ?_ | refine Ext.trans ?_ (by assumption)))
 have HE0 := Lib.hid hE0; clear hE0
 go_enter Try.func55, Try.ntmps55
 go_upto_region 2 with (fail)
 clear hmk
 refine wp_gen (fun W => Ext w W ∧ Row W w.heap.size (List.replicate n 0)) ⟨HE0.out, hB0.out⟩ ?_
 rintro w0 ⟨hE0, hB0⟩
 obtain ⟨w1, hcp, hR1, hE1⟩ := copy_words w w0 w.heap.size n c a _ l hB0 (by simp) (HL.out.keep hE0.ik) hE0 (Nat.le_refl _)
 have HR1 := Lib.hid hR1; have HE1 := Lib.hid hE1; clear hR1 hE1 hB0 hE0 HE0
 go_wp2_with (go_at_call 78; refine (subtract_c w w.heap.size b n m n d l r _ HR1.out HL.out.len HL.out.fit HR.out HE1.out (Nat.le_refl _) hn).mono ?_; rintro e w2 ⟨q, bo, rfl, hq, hs, hx⟩; have HQ := Lib.hid hq; have HS := Lib.hid hs; have HX := Lib.hid hx; clear hq hs hx)
 go_ret
 have hs := HS.out
 rw [← HL.out.len] at hs
 have hd := hs.done (by rw [HL.out.len, HR.out.len]; exact hmn) HG.out
 have hql := hs.len
 rw [HL.out.len] at hql
 exact ⟨_, _, _, q, rfl, HQ.out.wds hs.fit (by omega) hql (Nat.le_refl _) (by omega), hd.2, HX.out⟩
end Go.Proofs.Ytkoidookanmknaa
/- What a region that draws its order keeps: blocks that are known, and blocks of the call's own that it writes. -/
namespace Go.Proofs.Ytkoidookanmknaa
set_option linter.unusedSimpArgs false
set_option linter.unusedVariables false
open Go.RowKit

/-- The cells of block b, as rules of the walk. -/
abbrev At (w : World) (b : Nat) (cs : Array Value) : Prop := ∀ o, o < cs.size → w.cell? ⟨b, o, none⟩ = cs[o]?
theorem At.mk2 {w : World} {b : Nat} {x y : Value} (h0 : w.cell? ⟨b, 0, none⟩ = some x) (h1 : w.cell? ⟨b, 1, none⟩ = some y) : At w b #[x, y] := fun o ho => by
 match o, ho with
 | 0, _ => exact h0
 | 1, _ => exact h1
 | o + 2, ho => simp at ho; omega
/-- What a cell holds. -/
def cellAt (w : World) (a : Addr) : Value := (w.cell? a).getD undef
/-- k cells of block b are there, and may be written. -/
abbrev Own (w : World) (b : Nat) (k : Nat) : Prop := (∀ o, o < k → w.cell? ⟨b, o, none⟩ = some (cellAt w ⟨b, o, none⟩)) ∧ (∀ o, w.frozen? ⟨b, o, none⟩ = false) ∧ ∀ o k m, w.cell? ⟨b, o, none⟩ ≠ some (Value.int k m)
theorem Blk.at' {w : World} {b : Nat} {cs : Array Value} {t : TypeId} (h : Blk w b cs t) : At w b cs := fun o _ => h.cell o
theorem Blk.own {w : World} {b : Nat} {cs : Array Value} {t : TypeId} (h : Blk w b cs t) (k : Nat) (hk : k ≤ cs.size) (hn : ∀ (o : Nat) x y, cs[o]? ≠ some (Value.int x y)) : Own w b k :=
 ⟨fun o ho => by unfold cellAt; rw [h.cell]; simp [show o < cs.size by omega], fun o => h.free o, fun o x y => by rw [h.cell]; exact hn o x y⟩
theorem noInt2 (x y : Value) (hx : ∀ k m, x ≠ .int k m) (hy : ∀ k m, y ≠ .int k m) : ∀ (o : Nat) k m, (#[x, y] : Array Value)[o]? ≠ some (Value.int k m) := by
 intro o k m h
 match o with
 | 0 => exact hx k m (by simpa using h)
 | 1 => exact hy k m (by simpa using h)
 | o + 2 => simp at h
theorem noIntW : ∀ (o : Nat) k m, (#[Value.bool false, Value.slice none 0 0] : Array Value)[o]? ≠ some (Value.int k m) := noInt2 _ _ (by simp) (by simp)
theorem At.lt {w : World} {b : Nat} {cs : Array Value} (h : At w b cs) (h0 : 0 < cs.size) : b < w.heap.size := by
 have := h 0 h0
 rw [Array.getElem?_eq_getElem h0] at this
 exact lt_of_cell this
theorem Own.lt {w : World} {b : Nat} {k : Nat} (h : Own w b k) (h0 : 0 < k) : b < w.heap.size := lt_of_cell (h.1 0 h0)
theorem Ext.trans' {a b c : World} (k : Ext b c) (h : Ext a b) : Ext a c := h.trans k
theorem At.ext {w w' : World} {b : Nat} {cs : Array Value} (k : Ext w w') (h : At w b cs) (h0 : 0 < cs.size) : At w' b cs := fun o ho => by
 rw [k.see.1 b o (h.lt h0)]; exact h o ho
theorem Own.ext {w w' : World} {b : Nat} {n : Nat} (k : Ext w w') (h : Own w b n) (h0 : 0 < n) : Own w' b n :=
 ⟨fun o ho => by unfold cellAt; rw [k.see.1 b o (h.lt h0), h.1 o ho]; rfl, fun o => by rw [k.see.2.1 b o (h.lt h0)]; exact h.2.1 o, fun o x y => by rw [k.see.1 b o (h.lt h0)]; exact h.2.2 o x y⟩
theorem At.set {w : World} {b b' o' : Nat} {cs : Array Value} {u : Value} (h : At w b cs) (hne : b ≠ b') : At (w.setCell ⟨b', o', none⟩ u) b cs := fun o ho => by
 rw [World.cell?_setCell_other]
 ·exact h o ho
 ·intro e; injection e with e1; exact hne e1.symm
theorem own1_set {w : World} {b b' o' : Nat} {n : Nat} {u : Value} (h : ∀ o, o < n → w.cell? ⟨b, o, none⟩ = some (cellAt w ⟨b, o, none⟩)) (o : Nat) (ho : o < n) : (w.setCell ⟨b', o', none⟩ u).cell? ⟨b, o, none⟩ = some (cellAt (w.setCell ⟨b', o', none⟩ u) ⟨b, o, none⟩) := by
 obtain ⟨v', hv⟩ := cell?_setCell_some (w := w) (p := ⟨b', o', none⟩) (x := u) (q := ⟨b, o, none⟩) (h o ho)
 unfold cellAt; rw [hv]; rfl
theorem own2_set {w : World} {b b' o' : Nat} {u : Value} (h : ∀ o, w.frozen? ⟨b, o, none⟩ = false) (o : Nat) : (w.setCell ⟨b', o', none⟩ u).frozen? ⟨b, o, none⟩ = false := by
 rw [World.frozen?_setCell]; exact h o
theorem own3_set {w : World} {b b' o' : Nat} {u : Value} (h : ∀ o k m, w.cell? ⟨b, o, none⟩ ≠ some (.int k m)) (hu : ∀ k m, u ≠ .int k m) (o : Nat) (k : IntKind) (m : Int) : (w.setCell ⟨b', o', none⟩ u).cell? ⟨b, o, none⟩ ≠ some (.int k m) := by
 by_cases he : (⟨b', o', none⟩ : Addr) = ⟨b, o, none⟩
 ·rw [← he]
  intro hc
  cases h0 : w.cell? ⟨b', o', none⟩ with
  | none =>
   have := h o k m
   unfold World.setCell World.cell? at hc
   unfold World.cell? at h0
   simp only [Array.getElem?_modify] at hc
   cases hb : w.heap[b']? with
   | none => simp [hb] at hc
   | some ob =>
    cases ob <;> simp [hb] at hc h0
    rw [Array.getElem?_eq_none (by simpa using h0)] at hc
    cases hc
  | some v =>
   rw [World.cell?_setCell_same _ _ _ h0] at hc
   injection hc with hc
   exact hu k m hc
 ·rw [World.cell?_setCell_other _ _ _ _ he]; exact h o k m
theorem At.alloc {w : World} {b : Nat} {cs : Array Value} {o : Obj} (h : At w b cs) (h0 : 0 < cs.size) : At (w.alloc o) b cs := At.ext ((Ext.refl w).alloc o) h h0
theorem At.drew {w : World} {b : Nat} {cs : Array Value} (h : At w b cs) : At w.drew b cs := h
theorem own1_drew {w : World} {b n : Nat} (h : ∀ o, o < n → w.cell? ⟨b, o, none⟩ = some (cellAt w ⟨b, o, none⟩)) (o : Nat) (ho : o < n) : w.drew.cell? ⟨b, o, none⟩ = some (cellAt w.drew ⟨b, o, none⟩) := h o ho
theorem own1_alloc {w : World} {b n : Nat} {ob : Obj} (h : ∀ o, o < n → w.cell? ⟨b, o, none⟩ = some (cellAt w ⟨b, o, none⟩)) (o : Nat) (ho : o < n) : (w.alloc ob).cell? ⟨b, o, none⟩ = some (cellAt (w.alloc ob) ⟨b, o, none⟩) := by
 have := ((Ext.refl w).alloc ob).cell (h o ho)
 unfold cellAt; rw [this]; rfl
theorem At.put2 {w : World} {b : Nat} {x y : Value} (h0 : (w.cell? ⟨b, 0, none⟩).isSome = true) (h1 : (w.cell? ⟨b, 1, none⟩).isSome = true) : At ((w.setCell ⟨b, 0, none⟩ x).setCell ⟨b, 1, none⟩ y) b #[x, y] := by
 refine At.mk2 ?_ ?_
 ·rw [World.cell?_setCell_other _ _ _ _ (by simp)]; exact World.cell?_setCell_same' _ _ _ h0
 ·refine World.cell?_setCell_same' _ _ _ ?_
  rw [World.cell?_setCell_other _ _ _ _ (by simp)]; exact h1
theorem Wds.in4 {w w1 : World} {a : Option Addr} {n c : Nat} {l : List Nat} {X : Prop} (h : Wds w a n c l) (k : Ext w w1 ∧ X) : Wds w1 a n c l := h.keep k.1.ik
theorem IsI.in4 {w w1 : World} {p : IV} {x : Int} {X : Prop} (h : IsI w p x) (k : Ext w w1 ∧ X) : IsI w1 p x := h.keep k.1.ik
/-- The two cells of a wide integer of the call's own are written. -/
theorem IK.put2 {w : World} {b : Nat} (h : Own w b 2) (g : Bool) (a : Option Addr) (n c : Nat) : IK w ((w.setCell ⟨b, 0, none⟩ (.bool g)).setCell ⟨b, 1, none⟩ (.slice a n c)) :=
 ((IK.refl w).setCell (h.2.2 0) _).setCell (own3_set h.2.2 (by simp) 1) _
theorem cell_alloc {w : World} {p : Addr} {v : Value} {o : Obj} (h : w.cell? p = some v) : (w.alloc o).cell? p = some v := ((Ext.refl w).alloc o).cell h
theorem own2_drew {w : World} {b : Nat} (h : ∀ o, w.frozen? ⟨b, o, none⟩ = false) (o : Nat) : w.drew.frozen? ⟨b, o, none⟩ = false := h o
theorem own3_drew {w : World} {b : Nat} (h : ∀ o k m, w.cell? ⟨b, o, none⟩ ≠ some (.int k m)) (o : Nat) (k : IntKind) (m : Int) : w.drew.cell? ⟨b, o, none⟩ ≠ some (.int k m) := h o k m
theorem own2_alloc {w : World} {b : Nat} {ob : Obj} (hb : b < w.heap.size) (h : ∀ o, w.frozen? ⟨b, o, none⟩ = false) (o : Nat) : (w.alloc ob).frozen? ⟨b, o, none⟩ = false := by
 rw [((Ext.refl w).alloc ob).see.2.1 b o hb]; exact h o
theorem own3_alloc {w : World} {b : Nat} {ob : Obj} (hb : b < w.heap.size) (h : ∀ o k m, w.cell? ⟨b, o, none⟩ ≠ some (.int k m)) (o : Nat) (k : IntKind) (m : Int) : (w.alloc ob).cell? ⟨b, o, none⟩ ≠ some (.int k m) := by
 rw [((Ext.refl w).alloc ob).see.1 b o hb]; exact h o k m
theorem cell_drew {w : World} {p : Addr} {v : Value} (h : w.cell? p = some v) : w.drew.cell? p = some v := h
theorem cell_set {w : World} {b o b' o' : Nat} {u v : Value} (h : w.cell? ⟨b, o, none⟩ = some v) (hne : b ≠ b') : (w.setCell ⟨b', o', none⟩ u).cell? ⟨b, o, none⟩ = some v := by
 rw [World.cell?_setCell_other _ _ _ _ (by intro e; injection e with e1; exact hne e1.symm)]; exact h
/-- What is kept from state to state of a region; the proof is found where the lemma is used. -/
theorem kept {P : Prop} (h : P := by (go_split_ands; repeat' (first | with_reducible assumption | with_reducible apply And.intro | with_reducible exact Ext.refl _ | with_reducible refine Ext.setCell ?_ (by simp; omega) _ | with_reducible refine Ext.setCell ?_ (by simp) _ | with_reducible refine At.set ?_ (by omega) | with_reducible refine own1_set ?_ | with_reducible refine own2_set ?_ | with_reducible refine own3_set ?_ (by simp) | with_reducible refine Ext.drew ?_ | with_reducible refine At.drew ?_ | with_reducible refine own1_drew ?_ | with_reducible refine Ext.alloc ?_ _ | with_reducible refine At.alloc ?_ (by simp) | with_reducible refine own1_alloc ?_ | with_reducible refine cell_alloc ?_ | with_reducible refine cell_drew ?_ | with_reducible refine own2_drew ?_ | with_reducible refine own3_drew ?_ | with_reducible refine own2_alloc (by first | omega | (simp; omega)) ?_ | with_reducible refine own3_alloc (by first | omega | (simp; omega)) ?_ | with_reducible refine cell_set ?_ (by omega) | with_reducible exact Ext.trans' (by assumption) (by assumption) | with_reducible exact At.ext (by assumption) (by assumption) (by simp) | with_reducible exact Ext.cell (by assumption) (by assumption) | exact (Own.ext (by assumption) ⟨by assumption, by assumption, by assumption⟩ (by simp)).1 | exact (Own.ext (by assumption) ⟨by assumption, by assumption, by assumption⟩ (by simp)).2.1 | exact (Own.ext (by assumption) ⟨by assumption, by assumption, by assumption⟩ (by simp)).2.2))) : P := h
end Go.Proofs.Ytkoidookanmknaa
