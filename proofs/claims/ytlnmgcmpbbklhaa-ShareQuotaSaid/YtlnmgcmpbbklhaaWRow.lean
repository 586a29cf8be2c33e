/- Whole blocks; rows of words that a call has made; the product of magnitudes. -/
import Derived.Test.YtlnmgcmpbbklhaaWLeaf2
import Derived.OneCell
namespace Go.Proofs.Ytlnmgcmpbbklhaa
set_option linter.unusedSimpArgs false
set_option linter.unusedVariables false
open Go.RowKit

/-- A block that is known whole, and may be written. -/
def Blk (w : World) (b : Nat) (cs : Array Value) (t : TypeId) : Prop := w.heap[b]? = some (.cells cs t (0, 0))
theorem Blk.lt {w : World} {b : Nat} {cs : Array Value} {t : TypeId} (h : Blk w b cs t) : b < w.heap.size := lt_of_block h
theorem Blk.cell {w : World} {b : Nat} {cs : Array Value} {t : TypeId} (h : Blk w b cs t) (o : Nat) : w.cell? ⟨b, o, none⟩ = cs[o]? := by
  unfold Blk at h; simp [World.cell?, h]
theorem Blk.free {w : World} {b : Nat} {cs : Array Value} {t : TypeId} (h : Blk w b cs t) (o : Nat) : w.frozen? ⟨b, o, none⟩ = false := by
  unfold Blk at h; simp [World.frozen?, h]
theorem Blk.ext {w w' : World} {b : Nat} {cs : Array Value} {t : TypeId} (h : Blk w b cs t) (k : Ext w w') : Blk w' b cs t := by
  unfold Blk; rw [k.below.block b h.lt]; exact h
theorem Blk.new (w : World) (cs : Array Value) (t : TypeId) : Blk (w.alloc (.cells cs t)) w.heap.size cs t := heap_alloc_new w _
theorem Blk.at {w : World} {b : Nat} (cs : Array Value) (t : TypeId) (hb : b = w.heap.size) : Blk (w.alloc (.cells cs t)) b cs t := by subst hb; exact Blk.new w cs t
theorem Blk.alloc {w : World} {b : Nat} {cs : Array Value} {t : TypeId} (h : Blk w b cs t) (o : Obj) : Blk (w.alloc o) b cs t := h.ext ((Ext.refl w).alloc o)
theorem Blk.drewN {w : World} {b : Nat} {cs : Array Value} {t : TypeId} (h : Blk w b cs t) (n : Nat) : Blk (w.drewN n) b cs t := h
theorem Blk.drew {w : World} {b : Nat} {cs : Array Value} {t : TypeId} (h : Blk w b cs t) : Blk w.drew b cs t := h
theorem Blk.setOther {w : World} {b : Nat} {cs : Array Value} {t : TypeId} (h : Blk w b cs t) {p : Addr} (hp : b ≠ p.block) (u : Value) : Blk (w.setCell p u) b cs t := by
  unfold Blk; rw [Below.heap_setCell _ _ _ _ hp]; exact h
theorem Blk.set {w : World} {b : Nat} {cs : Array Value} {t : TypeId} (h : Blk w b cs t) (o : Nat) (u : Value) : Blk (w.setCell ⟨b, o, none⟩ u) b (cs.setIfInBounds o u) t := by
  have hlt := h.lt
  have h' : w.heap[b] = .cells cs t (0, 0) := by unfold Blk at h; simpa [Array.getElem?_eq_getElem hlt] using h
  show (w.heap.modify b _)[b]? = _
  rw [Array.getElem?_eq_getElem (by simpa using hlt), Array.getElem_modify_self, h']
  rfl

/-- The cells of a list of words. -/
def wcells (l : List Nat) : Array Value := (l.map fun d : Nat => Value.int .u32 (d : Int)).toArray
theorem wcells_get (l : List Nat) (i : Nat) (hi : i < l.length) : (wcells l)[i]? = some (.int .u32 (dg l i)) := by
  simp [wcells, hi, dg]
theorem wcells_set (l : List Nat) (i : Nat) (d : Nat) : (wcells l).setIfInBounds i (.int .u32 (d : Int)) = wcells (l.set i d) := by
  simp [wcells, List.map_set]

/-- The row of words l lies in block b. -/
def Row (w : World) (b : Nat) (l : List Nat) : Prop := Blk w b (wcells l) 67
theorem Row.cell {w : World} {b : Nat} {l : List Nat} (h : Row w b l) (i : Nat) (hi : i < l.length) : w.cell? ⟨b, i, none⟩ = some (.int .u32 (dg l i)) := by
  rw [Blk.cell h, wcells_get _ _ hi]
theorem Row.free {w : World} {b : Nat} {l : List Nat} (h : Row w b l) (i : Nat) : w.frozen? ⟨b, i, none⟩ = false := Blk.free h i
theorem Row.lt {w : World} {b : Nat} {l : List Nat} (h : Row w b l) : b < w.heap.size := Blk.lt h
theorem Row.ext {w w' : World} {b : Nat} {l : List Nat} (h : Row w b l) (k : Ext w w') : Row w' b l := Blk.ext h k
theorem Row.drewN {w : World} {b : Nat} {l : List Nat} (h : Row w b l) (n : Nat) : Row (w.drewN n) b l := h
theorem Row.set {w : World} {b : Nat} {l : List Nat} (h : Row w b l) (i : Nat) (d : Nat) (x : Int) (hx : x = (d : Int)) : Row (w.setCell ⟨b, i, none⟩ (.int .u32 x)) b (l.set i d) := by
  subst hx
  have := Blk.set h i (.int .u32 (d : Int))
  rw [wcells_set] at this
  exact this
theorem Row.wds {w : World} {b : Nat} {l : List Nat} (h : Row w b l) (hf : Fit l) (hn : l.length ≤ 65536) {n c : Nat} (h1 : l.length = n) (h2 : n ≤ c) (h3 : c ≤ 65536) : Wds w (some ⟨b, 0, none⟩) n c l :=
  ⟨h1, hf, h2, h3, .inr ⟨b, 0, rfl, h.lt, fun i hi => by rw [Nat.zero_add]; exact h.cell i (by omega)⟩⟩

theorem infoU32 : (Try.prog.info? 67).map (fun i => (i.zero, i.size, i.bytes)) = some (some (.int .u32 0), 1, 4) := by kernel_rfl

/-- 'make([]uint32, n)'. -/
theorem make_words (n : Nat) (x y : Int) (hx : x = (n : Int)) (hy : y = (n : Int)) (hn : n ≤ 65536) (w : World) :
    (Instr.makeSlice 46 (.int .i64 x) (.int .i64 y)).run Try.prog w = .ok (.slice (some ⟨w.heap.size, 0, none⟩) n n) (w.alloc (.cells (wcells (List.replicate n 0)) 67)) := by
  obtain ⟨i0, hi, hz0, hz1, hz2⟩ := info_parts infoU32
  have h := run_make (P := Try.prog) w 46 67 i0 (.int .u32 0) Try.underlying46 hi hz0 .i64 .i64 n n (by omega) (Int.le_refl _) (by rw [hz2]; omega) (by omega)
  subst hx; subst hy
  rw [h, hz1]
  simp only [Int.toNat_natCast, Nat.mul_one]
  rw [show (Value.cells (.int .u32 0)) = #[.int .u32 0] from rfl]
  have e : madeCells #[Value.int .u32 0] n = wcells (List.replicate n 0) := by
    apply Array.toList_inj.1
    rw [toList_madeCells_one]
    simp [wcells]
  rw [e]
end Go.Proofs.Ytlnmgcmpbbklhaa
