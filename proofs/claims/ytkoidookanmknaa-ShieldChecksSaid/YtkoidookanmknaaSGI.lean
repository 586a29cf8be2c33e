/- Rows of ints, slices of slices of ints (for seats without package share). -/
import Derived.Test.YtkoidookanmknaaSR01
import Derived.Deep.AppendLies
namespace Go.Proofs.Ytkoidookanmknaa
set_option linter.unusedSimpArgs false
set_option linter.unusedVariables false
open Go.RowKit

def icells (l : List Int) : Array Value := (l.map (Value.int .i64)).toArray
theorem icells_get (l : List Int) (i : Nat) (hi : i < l.length) : (icells l)[i]? = some (.int .i64 (l.getD i 0)) := by simp [icells, hi]
theorem icells_set (l : List Int) (i : Nat) (d : Int) : (icells l).setIfInBounds i (.int .i64 d) = icells (l.set i d) := by simp [icells, List.map_set]
/-- The row of ints l lies in block b. -/
def IRow (w : World) (b : Nat) (l : List Int) : Prop := Blk w b (icells l) 3
theorem IRow.cell {w : World} {b : Nat} {l : List Int} (h : IRow w b l) (i : Nat) (hi : i < l.length) : w.cell? ⟨b, i, none⟩ = some (.int .i64 (l.getD i 0)) := by
 rw [Blk.cell h, icells_get _ _ hi]
theorem IRow.free {w : World} {b : Nat} {l : List Int} (h : IRow w b l) (i : Nat) : w.frozen? ⟨b, i, none⟩ = false := Blk.free h i
theorem IRow.lt {w : World} {b : Nat} {l : List Int} (h : IRow w b l) : b < w.heap.size := Blk.lt h
theorem IRow.ext {w w' : World} {b : Nat} {l : List Int} (h : IRow w b l) (k : Ext w w') : IRow w' b l := Blk.ext h k
theorem IRow.set {w : World} {b : Nat} {l : List Int} (h : IRow w b l) (i : Nat) (d : Int) : IRow (w.setCell ⟨b, i, none⟩ (.int .i64 d)) b (l.set i d) := by
 have := Blk.set h i (.int .i64 d)
 rw [icells_set] at this
 exact this
theorem IRow.other {w : World} {b : Nat} {l : List Int} (h : IRow w b l) {b' o : Nat} (hne : b ≠ b') (u : Value) : IRow (w.setCell ⟨b', o, none⟩ u) b l := Blk.setOther h hne u
theorem IRow.ints {w : World} {b n : Nat} {l : List Int} (h : IRow w b l) (hn : l.length = n) (h1 : n ≤ 9223372036854775807) (h64 : ∀ i, i < n → Int64 (l.getD i 0)) : Ints w (some ⟨b, 0, none⟩) n l :=
 ⟨hn, h1, h64, .inr ⟨b, 0, rfl, h.lt, fun i hi => by rw [Nat.zero_add]; exact h.cell i (by omega)⟩⟩
theorem intInfo : (Try.prog.info? 3).map (fun i => (i.zero, i.size, i.bytes)) = some (some (.int .i64 0), 1, 8) := by kernel_rfl
/-- A slice, as a value. -/
structure Sl where
 a : Option Addr
 n : Nat
 c : Nat
abbrev Sl.v (s : Sl) : Value := .slice s.a s.n s.c
def sl0 : Sl := ⟨none, 0, 0⟩
/-- A slice of slices of ints. -/
def Grps (w : World) (ga : Option Addr) (m : Nat) (gs : List Sl) (Ls : List (List Int)) : Prop :=
 gs.length = m ∧ Ls.length = m ∧ m ≤ 1000000 ∧ (m = 0 ∨ ∃ b off, ga = some ⟨b, off, none⟩ ∧ b < w.heap.size ∧ ∀ i, i < m → w.cell? ⟨b, off + i, none⟩ = some (gs.getD i sl0).v) ∧
  ∀ i, i < m → Ints w (gs.getD i sl0).a (gs.getD i sl0).n (Ls.getD i [])
theorem Grps.ext {w w' : World} {ga : Option Addr} {m : Nat} {gs : List Sl} {Ls : List (List Int)} (k : Ext w w') (h : Grps w ga m gs Ls) : Grps w' ga m gs Ls := by
 obtain ⟨h1, h2, h3, h4, h5⟩ := h
 refine ⟨h1, h2, h3, ?_, fun i hi => (h5 i hi).keep k.ik⟩
 rcases h4 with h4 | ⟨b, off, ha, hb, hc⟩
 ·exact .inl h4
 ·exact .inr ⟨b, off, ha, Nat.lt_of_lt_of_le hb k.size, fun i hi => k.cell (hc i hi)⟩
theorem Grps.at {w : World} {ga : Option Addr} {m : Nat} {gs : List Sl} {Ls : List (List Int)} (h : Grps w ga m gs Ls) (i : Nat) (hi : i < m) :
  ∃ b off, ga = some ⟨b, off, none⟩ ∧ b < w.heap.size ∧ w.cell? ⟨b, off + i, none⟩ = some (gs.getD i sl0).v := by
 obtain ⟨_, _, _, h0 | ⟨b, off, ha, hb, hc⟩, _⟩ := h
 ·omega
 ·exact ⟨b, off, ha, hb, hc i hi⟩
def ivals (l : List Int) : List Value := l.map (Value.int .i64)
/-- A slice of ints of the call's own. -/
def VRow (w : World) (base : Nat) (v : Value) (l : List Int) : Prop := w.ownsRow base 3 1 v l.length (ivals l)
theorem owns_lt {w : World} {base : Nat} {e : TypeId} {s : Nat} {v : Value} {n : Nat} {xs : List Value} (h : w.ownsRow base e s v n xs) {g : Nat} (hg : v.ownBlock = some g) : base ≤ g ∧ g < w.heap.size := by
 obtain ⟨_, ⟨hv, _⟩ | ⟨g', cap, cur, hv, hb, hh, _⟩⟩ := h
 ·subst hv; simp [Value.ownBlock] at hg
 ·subst hv; simp [Value.ownBlock] at hg; subst hg; exact ⟨hb, lt_of_block hh⟩
theorem owns_ext {w w' : World} {base : Nat} {e : TypeId} {s : Nat} {v : Value} {n : Nat} {xs : List Value} (k : Ext w w') (h : w.ownsRow base e s v n xs) : w'.ownsRow base e s v n xs := by
 obtain ⟨h0, ⟨hv, hn⟩ | ⟨g', cap, cur, hv, hb, hh, r⟩⟩ := h
 ·exact ⟨h0, .inl ⟨hv, hn⟩⟩
 ·exact ⟨h0, .inr ⟨g', cap, cur, hv, hb, by rw [k.below.block g' (lt_of_block hh)]; exact hh, r⟩⟩
theorem ext_grown {a w w' : World} {row : Option Nat} (h : Ext a w) (k : w.grownBy w' row) (hr : ∀ g, row = some g → a.heap.size ≤ g) : Ext a w' := Below.grown h k h.size hr
theorem VRow.nil (w : World) (base : Nat) : VRow w base (.slice none 0 0) [] := ⟨rfl, .inl ⟨rfl, rfl⟩⟩
theorem VRow.base {w : World} {b b' : Nat} {v : Value} {l : List Int} (h : VRow w b v l) (hb : b' ≤ b) : VRow w b' v l := by
 obtain ⟨h0, ⟨hv, hn⟩ | ⟨g', cap, cur, hv, hg, r⟩⟩ := h
 ·exact ⟨h0, .inl ⟨hv, hn⟩⟩
 ·exact ⟨h0, .inr ⟨g', cap, cur, hv, Nat.le_trans hb hg, r⟩⟩
theorem VRow.ext {w w' : World} {base : Nat} {v : Value} {l : List Int} (k : Ext w w') (h : VRow w base v l) : VRow w' base v l := owns_ext k h
theorem VRow.cells {w : World} {base g n cap : Nat} {l : List Int} (h : VRow w base (.slice (some ⟨g, 0, none⟩) n cap) l) (i : Nat) (hi : i < l.length) : w.cell? ⟨g, i, none⟩ = some (.int .i64 (l.getD i 0)) := by
 obtain ⟨h0, ⟨hv, _⟩ | ⟨g', cap', cur, hv, hb, hh, hle, hc, hsz, htk⟩⟩ := h
 ·simp at hv
 ·simp at hv
  obtain ⟨rfl, rfl, rfl⟩ := hv
  have p1 : (ivals l)[i]? = some (.int .i64 (l.getD i 0)) := by simp [ivals, hi]
  rw [← htk, List.getElem?_take_of_lt (by omega)] at p1
  simp [World.cell?, hh]; simpa using p1
/-- What it is, as a slice of ints. -/
theorem VRow.ints {w : World} {base : Nat} {v : Value} {l : List Int} (h : VRow w base v l) (hl : l.length ≤ 1000000) (h64 : ∀ i, i < l.length → Int64 (l.getD i 0)) :
  ∃ a c, v = .slice a l.length c ∧ Ints w a l.length l := by
 have h' := h
 obtain ⟨h0, ⟨hv, hn⟩ | ⟨g', cap', cur, hv, hb, hh, _⟩⟩ := h
 ·exact ⟨none, 0, by rw [hv, hn], rfl, by omega, h64, .inl hn⟩
 ·subst hv
  exact ⟨_, _, rfl, rfl, by omega, h64, .inr ⟨g', 0, rfl, lt_of_block hh, fun i hi => by rw [Nat.zero_add]; exact h'.cells i hi⟩⟩
theorem VRow.app {w1 : World} {base g cap m : Nat} {l k : List Int} (hm : k.length = m) (h : w1.ownsRow base 3 1 (.slice (some ⟨g, 0, none⟩) (l.length + m) cap) (l.length + m) (ivals l ++ ivals k)) :
  VRow w1 base (.slice (some ⟨g, 0, none⟩) (l.length + m) cap) (l ++ k) := by
 unfold VRow; rw [List.length_append, hm]; unfold ivals at *; rw [List.map_append]; exact h
theorem ints_news {w : World} {b off n : Nat} {l : List Int} (h : Ints w (some ⟨b, off, none⟩) n l) (h0 : 0 < n) : ∀ (j : Nat) (u : Value), (ivals l)[j]? = some u → w.cell? ((⟨b, off, none⟩ : Addr).add j) = some u := fun j u hu => by
 have hadd : (⟨b, off, none⟩ : Addr).add j = ⟨b, off + j, none⟩ := by unfold Addr.add; split <;> simp_all
 rw [hadd]
 have hj : j < l.length := by
  rcases Nat.lt_or_ge j (ivals l).length with h | h
  ·simpa [ivals] using h
  ·rw [List.getElem?_eq_none h] at hu; cases hu
 obtain ⟨b', off', he, _, hc⟩ := h.at j (by rw [← h.1]; exact hj)
 injection he with he; injection he with e1 e2
 subst e1; subst e2
 rw [hc, ← hu]; simp [ivals, hj]
theorem ivals_one (l : List Int) : ∀ u ∈ ivals l, u.oneCell' = true := by
 intro u hu
 simp [ivals] at hu
 obtain ⟨p, _, rfl⟩ := hu; rfl
end Go.Proofs.Ytkoidookanmknaa
