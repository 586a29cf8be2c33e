/- shield: rows of fractions that are written; the frame of the solver. -/
import Derived.Test.YtkoidookanmknaaFQ
import Derived.Test.YtkoidookanmknaaGI
import Derived.Test.YtkoidookanmknaaLNu
import Derived.Test.YtkoidookanmknaaWS
namespace Go.Proofs.Ytkoidookanmknaa
set_option linter.unusedSimpArgs false
set_option linter.unusedVariables false
open Go.RowKit

theorem IsQ.keepU {w w' : World} {f : FV} {q : Rat} (h : IsQ w f q) (k : IU w w') : IsQ w' f q := by
  obtain ⟨N, D, h1, h2⟩ := h
  exact ⟨N, D, ⟨h1.num.keepU k, h1.den.keepU k, h1.pos, h1.big, h1.low⟩, h2⟩
/-- A fraction as cells. -/
def encF : Enc FV := ⟨fun f => [.bool f.n.neg, .slice f.n.a f.n.n f.n.c, .bool f.d.neg, .slice f.d.a f.d.n f.d.c], 4, fun _ => rfl, fun f u hu => by
  simp at hu
  rcases hu with rfl | rfl | rfl | rfl <;> rfl, by omega⟩
def fcells (fs : List FV) : Array Value := (gcells encF fs).toArray
/-- The fractions fs lie in block b. -/
def FRow (w : World) (b : Nat) (fs : List FV) : Prop := Blk w b (fcells fs) 58
theorem FRow.ext {w w' : World} {b : Nat} {fs : List FV} (h : FRow w b fs) (k : Ext w w') : FRow w' b fs := Blk.ext h k
theorem FRow.lt {w : World} {b : Nat} {fs : List FV} (h : FRow w b fs) : b < w.heap.size := Blk.lt h
theorem fcells_at {fs : List FV} {i : Nat} {f : FV} (h : fs[i]? = some f) (j : Nat) (hj : j < 4) : (fcells fs)[i * 4 + j]? = (encF.f f)[j]? := by
  unfold fcells
  rw [List.getElem?_toArray]
  exact gcells_at encF fs i f h j hj
def Quad (w : World) (b o : Nat) (f : FV) : Prop := w.cell? ⟨b, o, none⟩ = some (.bool f.n.neg) ∧ w.cell? ⟨b, o + 1, none⟩ = some (.slice f.n.a f.n.n f.n.c) ∧ w.cell? ⟨b, o + 2, none⟩ = some (.bool f.d.neg) ∧ w.cell? ⟨b, o + 3, none⟩ = some (.slice f.d.a f.d.n f.d.c)
theorem Quad.ext {w w' : World} {b o : Nat} {f : FV} (h : Quad w b o f) (k : Ext w w') : Quad w' b o f := ⟨k.cell h.1, k.cell h.2.1, k.cell h.2.2.1, k.cell h.2.2.2⟩
theorem FRow.quad {w : World} {b : Nat} {fs : List FV} (h : FRow w b fs) {i : Nat} {f : FV} (hi : fs[i]? = some f) : Quad w b (i * 4) f :=
  ⟨by rw [Blk.cell h, show i * 4 = i * 4 + 0 from rfl, fcells_at hi 0 (by omega)]; rfl, by rw [Blk.cell h, fcells_at hi 1 (by omega)]; rfl, by rw [Blk.cell h, fcells_at hi 2 (by omega)]; rfl, by rw [Blk.cell h, fcells_at hi 3 (by omega)]; rfl⟩
/-- A fraction is stored into a row. -/
abbrev putQ (w : World) (b o : Nat) (f : FV) : World := (((w.setCell ⟨b, o, none⟩ (.bool f.n.neg)).setCell ⟨b, o + 1, none⟩ (.slice f.n.a f.n.n f.n.c)).setCell ⟨b, o + 2, none⟩ (.bool f.d.neg)).setCell ⟨b, o + 3, none⟩ (.slice f.d.a f.d.n f.d.c)
theorem gset (f : FV) : ∀ (fs : List FV) (i : Nat), i < fs.length → ((((gcells encF fs).set (i * 4) (.bool f.n.neg)).set (i * 4 + 1) (.slice f.n.a f.n.n f.n.c)).set (i * 4 + 2) (.bool f.d.neg)).set (i * 4 + 3) (.slice f.d.a f.d.n f.d.c) = gcells encF (fs.set i f)
  | [], i, h => by simp at h
  | g :: fs, 0, _ => by simp [gcells, encF]
  | g :: fs, i + 1, h => by
    have ih := gset f fs i (by simpa using h)
    have e1 : ∀ ls : List FV, gcells encF (g :: ls) = Value.bool g.n.neg :: .slice g.n.a g.n.n g.n.c :: .bool g.d.neg :: .slice g.d.a g.d.n g.d.c :: gcells encF ls := fun ls => by simp [gcells, encF]
    rw [e1, List.set_cons_succ, e1, ← ih, show (i + 1) * 4 = i * 4 + 1 + 1 + 1 + 1 by omega]
    rfl
theorem FRow.put {w : World} {b : Nat} {fs : List FV} (h : FRow w b fs) {i : Nat} (hi : i < fs.length) (f : FV) : FRow (putQ w b (i * 4) f) b (fs.set i f) := by
  have h4 := Blk.set (Blk.set (Blk.set (Blk.set h (i * 4) (.bool f.n.neg)) (i * 4 + 1) (.slice f.n.a f.n.n f.n.c)) (i * 4 + 2) (.bool f.d.neg)) (i * 4 + 3) (.slice f.d.a f.d.n f.d.c)
  unfold FRow
  rw [show fcells (fs.set i f) = ((((fcells fs).setIfInBounds (i * 4) (.bool f.n.neg)).setIfInBounds (i * 4 + 1) (.slice f.n.a f.n.n f.n.c)).setIfInBounds (i * 4 + 2) (.bool f.d.neg)).setIfInBounds (i * 4 + 3) (.slice f.d.a f.d.n f.d.c) by
    unfold fcells
    rw [← gset f fs i hi]
    simp]
  exact h4
theorem FRow.noInt {w : World} {b : Nat} {fs : List FV} (h : FRow w b fs) : ∀ o k m, w.cell? ⟨b, o, none⟩ ≠ some (.int k m) := by
  intro o k m hc
  rw [Blk.cell h] at hc
  unfold fcells at hc
  rw [List.getElem?_toArray] at hc
  have hm := List.mem_of_getElem? hc
  simp [gcells, encF] at hm
theorem FRow.other {w : World} {b b' o : Nat} {fs : List FV} {f : FV} (h : FRow w b fs) (hne : b ≠ b') : FRow (putQ w b' o f) b fs :=
  Blk.setOther (Blk.setOther (Blk.setOther (Blk.setOther h hne _) hne _) hne _) hne _
theorem IK.putQ {w : World} {b o : Nat} {fs : List FV} (h : FRow w b fs) (f : FV) : IK w (putQ w b o f) :=
  ((((IK.refl w).setCell (h.noInt _) _).setCell (own3_set h.noInt (by simp) _) _).setCell (own3_set (own3_set h.noInt (by simp)) (by simp) _) _).setCell (own3_set (own3_set (own3_set h.noInt (by simp)) (by simp)) (by simp) _) _
/-- Only the block b has changed. -/
structure Only (b : Nat) (w w' : World) : Prop where
  os : w'.os = w.os
  tape : w'.tape = w.tape
  output : w'.output = w.output
  size : w.heap.size ≤ w'.heap.size
  block : ∀ k, k < w.heap.size → k ≠ b → w'.heap[k]? = w.heap[k]?
  iu : IU w w'
theorem Only.refl (b : Nat) (w : World) : Only b w w := ⟨rfl, rfl, rfl, Nat.le_refl _, fun _ _ _ => rfl, IU.refl w⟩
theorem Ext.only {w w' : World} (h : Ext w w') (b : Nat) : Only b w w' := ⟨h.below.os, h.below.tape, h.below.output, h.size, fun k hk _ => h.below.block k hk, h.iu⟩
theorem Only.trans {b : Nat} {u v w : World} (h : Only b u v) (k : Only b v w) : Only b u w :=
  ⟨k.os.trans h.os, k.tape.trans h.tape, k.output.trans h.output, Nat.le_trans h.size k.size, fun j hj hne => by rw [k.block j (Nat.lt_of_lt_of_le hj h.size) hne, h.block j hj hne], h.iu.trans k.iu⟩
theorem Only.putQ {w : World} {b o : Nat} {fs : List FV} (h : FRow w b fs) (f : FV) : Only b w (putQ w b o f) :=
  ⟨rfl, rfl, rfl, by simp, fun k _ hne => by
    show ((((w.setCell _ _).setCell _ _).setCell _ _).setCell _ _).heap[k]? = _
    rw [Below.heap_setCell _ _ _ _ hne, Below.heap_setCell _ _ _ _ hne, Below.heap_setCell _ _ _ _ hne, Below.heap_setCell _ _ _ _ hne], (IK.putQ h f).iu⟩
theorem Only.blk {b : Nat} {w w' : World} (h : Only b w w') {k : Nat} {cs : Array Value} {t : TypeId} (hk : Blk w k cs t) (hne : k ≠ b) : Blk w' k cs t := by
  unfold Blk; rw [h.block k hk.lt hne]; exact hk
theorem Only.below {b base : Nat} {w w' : World} (h : Only b w w') (hb : base ≤ b) (hs : base ≤ w.heap.size) : Below base w w' :=
  ⟨h.os, h.tape, h.output, h.size, fun k hk => h.block k (by omega) (by omega)⟩
theorem fracInfo : (Try.prog.info? 58).map (fun i => (i.zero, i.size, i.bytes)) = some (some (.agg #[.bool false, .slice none 0 0, .bool false, .slice none 0 0]), 4, 64) := by kernel_rfl
def fv0 : FV := ⟨⟨false, none, 0, 0⟩, ⟨false, none, 0, 0⟩⟩
theorem zero_isQ (w : World) : IsQ w fv0 0 := ⟨0, 1, ⟨⟨[], Wds.nil w, .inl rfl, by decide, by simp [fv0], by simp [fv0, sgn, mval]⟩, ⟨[], Wds.nil w, .inl rfl, by decide, by simp [fv0], by simp [fv0, sgn, mval]⟩, by omega, big_one, by simp⟩, by simp⟩
/-- 'make([]frac.Frac, n)'. -/
theorem make_fracs (n : Nat) (x y : Int) (hx : x = (n : Int)) (hy : y = (n : Int)) (hn : n ≤ 1000000) (w : World) :
    (Instr.makeSlice 52 (.int .i64 x) (.int .i64 y)).run Try.prog w = .ok (.slice (some ⟨w.heap.size, 0, none⟩) n n) (w.alloc (.cells (fcells (List.replicate n fv0)) 58)) := by
  obtain ⟨i0, hi, hz0, hz1, hz2⟩ := info_parts fracInfo
  have h := run_make (P := Try.prog) w 52 58 i0 _ Try.underlying52 hi hz0 .i64 .i64 n n (by omega) (Int.le_refl _) (by rw [hz2]; omega) (by omega)
  subst hx; subst hy
  rw [h, hz1]
  simp only [Int.toNat_natCast]
  rw [show (Value.cells (.agg #[.bool false, .slice none 0 0, .bool false, .slice none 0 0])) = #[.bool false, .slice none 0 0, .bool false, .slice none 0 0] from rfl]
  have e : madeCells #[.bool false, .slice none 0 0, .bool false, .slice none 0 0] (n * 4) = fcells (List.replicate n fv0) := by
    apply Array.ext_getElem?
    intro i
    by_cases hi : i < n * 4
    · have hd : i / 4 < n := by omega
      have hm : i % 4 < 4 := Nat.mod_lt _ (by omega)
      have hg := fcells_at (fs := List.replicate n fv0) (i := i / 4) (f := fv0) (by rw [List.getElem?_replicate, if_pos hd]) (i % 4) hm
      rw [show i / 4 * 4 + i % 4 = i by omega] at hg
      rw [hg]
      unfold madeCells
      rw [Array.getElem?_map, Array.getElem?_range, if_pos hi]
      show some (_) = _
      rcases (show i % 4 = 0 ∨ i % 4 = 1 ∨ i % 4 = 2 ∨ i % 4 = 3 by omega) with h4 | h4 | h4 | h4 <;> rw [h4] <;> simp [h4, encF, fv0]
    · rw [Array.getElem?_eq_none (by rw [size_madeCells]; omega), Array.getElem?_eq_none (by
        unfold fcells
        rw [List.size_toArray, gcells_length, List.length_replicate]
        show n * 4 ≤ i
        omega)]
  rw [e]
end Go.Proofs.Ytkoidookanmknaa
