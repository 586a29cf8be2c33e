/- Memory: worlds that extend one another; slices of words; wide integers. -/
import Derived.Test.YtlnmgcmpbbklhaaRows
import Derived.Test.YtlnmgcmpbbklhaaWArith
import Derived.WalkKit
import Derived.WalkSpells
import Derived.WalkLawsBesides
import Derived.Lib.Hide
import Derived.Deep.RegionHeld3
import Derived.Deep.QuietTactic
import Derived.BigQuiet
namespace Go.Proofs.Ytlnmgcmpbbklhaa
set_option linter.unusedSimpArgs false
set_option linter.unusedVariables false
open Go.RowKit

/-- Nothing that was there has changed. -/
def Ext (w w' : World) : Prop := Below w.heap.size w w'
theorem Ext.below {w w' : World} (h : Ext w w') : Below w.heap.size w w' := h
theorem Ext.refl (w : World) : Ext w w := Below.refl _ _
theorem Ext.size {w w' : World} (h : Ext w w') : w.heap.size ≤ w'.heap.size := Below.size h
theorem Ext.trans {a b c : World} (h : Ext a b) (k : Ext b c) : Ext a c := Below.trans h (Below.mono k h.size)
theorem Ext.alloc {a w : World} (h : Ext a w) (o : Obj) : Ext a (w.alloc o) := Below.alloc h h.size o
theorem Ext.drew {a w : World} (h : Ext a w) : Ext a w.drew := Below.drew h
theorem Ext.drewN {a w : World} (h : Ext a w) : ∀ n, Ext a (w.drewN n)
  | _ => ⟨h.below.os, h.below.tape, h.below.output, h.below.size, h.below.block⟩
theorem Ext.setCell {a w : World} (h : Ext a w) {p : Addr} (hp : a.heap.size ≤ p.block) (u : Value) : Ext a (w.setCell p u) := Below.setCell h hp u
theorem Ext.cell {w w' : World} (h : Ext w w') {p : Addr} {v : Value} (hc : w.cell? p = some v) : w'.cell? p = some v := by
  rw [Below.cell h (World.block_lt_of_cell? w _ hc)]; exact hc
theorem Ext.frozen {w w' : World} (h : Ext w w') {p : Addr} (hp : p.block < w.heap.size) : w'.frozen? p = w.frozen? p := Below.frozen h hp
theorem lt_of_cell {w : World} {b o : Nat} {v : Value} (hc : w.cell? ⟨b, o, none⟩ = some v) : b < w.heap.size := World.block_lt_of_cell? w _ hc

/-- What the walk is told of a later world. -/
theorem Ext.see {w w' : World} (h : Ext w w') : (∀ b o, b < w.heap.size → w'.cell? ⟨b, o, none⟩ = w.cell? ⟨b, o, none⟩) ∧ (∀ b o, b < w.heap.size → w'.frozen? ⟨b, o, none⟩ = w.frozen? ⟨b, o, none⟩) ∧ w.heap.size ≤ w'.heap.size :=
  ⟨fun b o hb => Below.cell (p := ⟨b, o, none⟩) h hb, fun b o hb => Below.frozen (p := ⟨b, o, none⟩) h hb, h.size⟩

/-- All numbers that lay there lie there still. -/
def IK (w w' : World) : Prop := w.heap.size ≤ w'.heap.size ∧ ∀ a k n, w.cell? a = some (.int k n) → w'.cell? a = some (.int k n)
theorem IK.refl (w : World) : IK w w := ⟨Nat.le_refl _, fun _ _ _ h => h⟩
theorem Ext.ik {w w' : World} (h : Ext w w') : IK w w' := ⟨h.size, fun _ _ _ hc => h.cell hc⟩
theorem IK.trans {a b c : World} (h : IK a b) (k : IK b c) : IK a c := ⟨Nat.le_trans h.1 k.1, fun _ _ _ hc => k.2 _ _ _ (h.2 _ _ _ hc)⟩
theorem IK.alloc {a w : World} (h : IK a w) (o : Obj) : IK a (w.alloc o) := h.trans ((Ext.refl w).alloc o).ik
theorem IK.drew {a w : World} (h : IK a w) : IK a w.drew := h
theorem IK.drewN {a w : World} (h : IK a w) (n : Nat) : IK a (w.drewN n) := h
theorem drewN_zero (w : World) : w.drewN 0 = w := rfl
theorem IK.setCell {a w : World} (h : IK a w) {p : Addr} (hp : ∀ k n, w.cell? p ≠ some (.int k n)) (u : Value) : IK a (w.setCell p u) :=
  ⟨by rw [World.size_setCell]; exact h.1, fun q k n hc => by
    have h1 := h.2 q k n hc
    rw [World.cell?_setCell_other]
    · exact h1
    · rintro rfl; exact hp k n h1⟩

/-- The walk goes on from whatever world meets F. -/
theorem wp_gen {P : Program} {c : Code} {Q : Exit → Act → World → Prop} {a : Act} {W0 : World} (F : World → Prop) (h0 : F W0) (h : ∀ W, F W → c.wp P Q a W) : c.wp P Q a W0 := h _ h0

theorem quiet_left {P : Program} {f : FuncId} {args : Array Value} {w : World} {n : Nat} {v : Value}
    (h : Calls P f args (w.drewN n) fun e w' => e = .returned v ∧ w.drewN n = w') : Calls P f args (w.drewN n) fun e w'' => e = .returned v ∧ ∃ m, w'' = w.drewN m :=
  h.mono fun _ _ ⟨he, hm⟩ => ⟨he, n, hm.symm⟩

/-- Only draws lie between two worlds. -/
def Dr (w w' : World) : Prop := ∃ q, w' = w.drewN q
theorem Dr.refl (w : World) : Dr w w := ⟨0, rfl⟩
theorem Dr.drewN {a w : World} (h : Dr a w) (n : Nat) : Dr a (w.drewN n) := by
  obtain ⟨q, rfl⟩ := h; exact ⟨q + n, by rw [World.drewN_drewN]⟩
theorem Dr.trans {a b c : World} (h : Dr a b) (k : Dr b c) : Dr a c := by
  obtain ⟨q, rfl⟩ := k; exact h.drewN q
theorem Dr.ext {a w : World} (h : Dr a w) : Ext a w := by
  obtain ⟨q, rfl⟩ := h; exact (Ext.refl a).drewN q
theorem Dr.ik {a w : World} (h : Dr a w) : IK a w := h.ext.ik

/-- The word i of a list, as a number of the walk. -/
def dg (l : List Nat) (i : Nat) : Int := ((l.getD i 0 : Nat) : Int)
theorem dg_nonneg (l : List Nat) (i : Nat) : 0 ≤ dg l i := by unfold dg; omega
theorem dg_lt {l : List Nat} (h : Fit l) (i : Nat) : dg l i ≤ 4294967295 := by
  have := h.getD i; rw [B32_eq] at this; unfold dg; omega

/-- A slice of words: nil, or a row of cells. -/
def Wds (w : World) (a : Option Addr) (n c : Nat) (l : List Nat) : Prop :=
  l.length = n ∧ Fit l ∧ n ≤ c ∧ c ≤ 65536 ∧ ((a = none ∧ n = 0 ∧ c = 0) ∨ ∃ b off, a = some ⟨b, off, none⟩ ∧ b < w.heap.size ∧ ∀ i, i < n → w.cell? ⟨b, off + i, none⟩ = some (.int .u32 (dg l i)))
theorem Wds.len {w : World} {a : Option Addr} {n c : Nat} {l : List Nat} (h : Wds w a n c l) : l.length = n := h.1
theorem Wds.fit {w : World} {a : Option Addr} {n c : Nat} {l : List Nat} (h : Wds w a n c l) : Fit l := h.2.1
theorem Wds.cap {w : World} {a : Option Addr} {n c : Nat} {l : List Nat} (h : Wds w a n c l) : n ≤ c := h.2.2.1
theorem Wds.most {w : World} {a : Option Addr} {n c : Nat} {l : List Nat} (h : Wds w a n c l) : c ≤ 65536 := h.2.2.2.1
theorem Wds.at {w : World} {a : Option Addr} {n c : Nat} {l : List Nat} (h : Wds w a n c l) (i : Nat) (hi : i < n) :
    ∃ b off, a = some ⟨b, off, none⟩ ∧ b < w.heap.size ∧ w.cell? ⟨b, off + i, none⟩ = some (.int .u32 (dg l i)) := by
  obtain ⟨_, _, _, _, ⟨_, h0, _⟩ | ⟨b, off, ha, hb, hc⟩⟩ := h
  · omega
  · exact ⟨b, off, ha, hb, hc i hi⟩
theorem Wds.keep {w w' : World} {a : Option Addr} {n c : Nat} {l : List Nat} (h : Wds w a n c l) (k : IK w w') : Wds w' a n c l := by
  obtain ⟨h1, h2, h3, h4, h5⟩ := h
  refine ⟨h1, h2, h3, h4, ?_⟩
  rcases h5 with h5 | ⟨b, off, ha, hb, hc⟩
  · exact .inl h5
  · exact .inr ⟨b, off, ha, Nat.lt_of_lt_of_le hb k.1, fun i hi => k.2 _ _ _ (hc i hi)⟩
theorem Wds.nil (w : World) : Wds w none 0 0 [] := ⟨rfl, Fit.nil, Nat.le_refl _, by omega, .inl ⟨rfl, rfl, rfl⟩⟩
/-- A new block. -/
theorem Wds.new (w : World) (cs : Array Value) (T : TypeId) (k : Nat) (hk : k = w.heap.size) (l : List Nat) (hf : Fit l) (hn : l.length ≤ 65536) (hc : ∀ i, i < l.length → cs[i]? = some (.int .u32 (dg l i))) :
    Wds (w.alloc (.cells cs T)) (some ⟨k, 0, none⟩) l.length l.length l := by
  subst hk
  exact ⟨rfl, hf, Nat.le_refl _, hn, .inr ⟨_, 0, rfl, by simp, fun i hi => by rw [Nat.zero_add, World.cell?_alloc_new]; exact hc i hi⟩⟩
/-- A first part. -/
theorem Wds.take {w : World} {a : Option Addr} {n c : Nat} {l : List Nat} (h : Wds w a n c l) (k : Nat) (hk : k ≤ n) : Wds w a k c (l.take k) := by
  obtain ⟨h1, h2, h3, h4, h5⟩ := h
  refine ⟨by rw [List.length_take]; omega, h2.take _, by omega, h4, ?_⟩
  rcases h5 with ⟨ha, hn, hc⟩ | ⟨b, off, ha, hb, hc⟩
  · exact .inl ⟨ha, by omega, hc⟩
  · refine .inr ⟨b, off, ha, hb, fun i hi => ?_⟩
    rw [hc i (by omega)]; unfold dg; rw [getD_take _ _ _ hi]

/-- A wide integer as a value: its sign and its slice. -/
structure IV where
  neg : Bool
  a : Option Addr
  n : Nat
  c : Nat
/-- The value. -/
abbrev IV.v (p : IV) : Value := .agg #[.bool p.neg, .slice p.a p.n p.c]
/-- The number of a sign and a magnitude. -/
def sgn (neg : Bool) (m : Nat) : Int := if neg then -(m : Int) else (m : Int)
/-- The value p stands for x in the world w. -/
def IsI (w : World) (p : IV) (x : Int) : Prop :=
  ∃ l, Wds w p.a p.n p.c l ∧ Norm l ∧ p.n ≤ 512 ∧ (p.neg = true → 0 < p.n) ∧ x = sgn p.neg (mval l)
theorem IsI.keep {w w' : World} {p : IV} {x : Int} (h : IsI w p x) (k : IK w w') : IsI w' p x := by
  obtain ⟨l, h1, h2⟩ := h
  exact ⟨l, h1.keep k, h2⟩
/-- Numbers that are wide integers. -/
def Big (x : Int) : Prop := x.natAbs < WTop
theorem sgn_natAbs (g : Bool) (m : Nat) : (sgn g m).natAbs = m := by unfold sgn; split <;> omega
theorem IsI.big {w : World} {p : IV} {x : Int} (h : IsI w p x) : Big x := by
  obtain ⟨l, h1, h2, h3, h4, rfl⟩ := h
  unfold Big; rw [sgn_natAbs]
  exact (norm_top h2 h1.fit).2 (by rw [h1.len]; exact h3)

/-- The order of numbers. -/
def cmpI (a b : Int) : Int := if a < b then -1 else if b < a then 1 else 0

theorem nanInt_c (a : Int) (w : World) : Calls Try.prog 77 #[.int .i64 a] w fun e w' => e = .returned (.bool false) ∧ w = w' := by
  go_enter Try.func77, Try.ntmps77
  go_wp2
  go_ret
  exact ⟨by simp, rfl⟩
theorem nanU32_c (a : Int) (w : World) : Calls Try.prog 80 #[.int .u32 a] w fun e w' => e = .returned (.bool false) ∧ w = w' := by
  go_enter Try.func80, Try.ntmps80
  go_wp2
  go_ret
  exact ⟨by simp, rfl⟩
theorem cmpInt_c (a b : Int) (w : World) : Calls Try.prog 68 #[.int .i64 a, .int .i64 b] w fun e w' => e = .returned (.int .i64 (cmpI a b)) ∧ w = w' := by
  by_cases h1 : a < b
  · go_enter Try.func68, Try.ntmps68
    go_wp2_with (go_at_call 77; refine (nanInt_c _ _).mono ?_; rintro e w' ⟨rfl, rfl⟩)
    go_ret
    exact ⟨by simp [cmpI, h1], rfl⟩
  · by_cases h2 : b < a
    · go_enter Try.func68, Try.ntmps68
      go_wp2_with (go_at_call 77; refine (nanInt_c _ _).mono ?_; rintro e w' ⟨rfl, rfl⟩)
      go_ret
      exact ⟨by rw [cmpI, if_neg (by omega), if_pos (by omega)]; rfl, rfl⟩
    · go_enter Try.func68, Try.ntmps68
      go_wp2_with (go_at_call 77; refine (nanInt_c _ _).mono ?_; rintro e w' ⟨rfl, rfl⟩)
      go_ret
      exact ⟨by rw [cmpI, if_neg (by omega), if_neg (by omega)]; rfl, rfl⟩
theorem cmpU32_c (a b : Int) (w : World) : Calls Try.prog 75 #[.int .u32 a, .int .u32 b] w fun e w' => e = .returned (.int .i64 (cmpI a b)) ∧ w = w' := by
  by_cases h1 : a < b
  · go_enter Try.func75, Try.ntmps75
    go_wp2_with (go_at_call 80; refine (nanU32_c _ _).mono ?_; rintro e w' ⟨rfl, rfl⟩)
    go_ret
    exact ⟨by simp [cmpI, h1], rfl⟩
  · by_cases h2 : b < a
    · go_enter Try.func75, Try.ntmps75
      go_wp2_with (go_at_call 80; refine (nanU32_c _ _).mono ?_; rintro e w' ⟨rfl, rfl⟩)
      go_ret
      exact ⟨by rw [cmpI, if_neg (by omega), if_pos (by omega)]; rfl, rfl⟩
    · go_enter Try.func75, Try.ntmps75
      go_wp2_with (go_at_call 80; refine (nanU32_c _ _).mono ?_; rintro e w' ⟨rfl, rfl⟩)
      go_ret
      exact ⟨by rw [cmpI, if_neg (by omega), if_neg (by omega)]; rfl, rfl⟩
end Go.Proofs.Ytlnmgcmpbbklhaa
