/- V10 V11 V12: several texts of this proof in one. -/
import Derived.Test.YtkoidookanmknaaSFQ
import Derived.Test.YtkoidookanmknaaSGI
import Derived.Test.YtkoidookanmknaaSLNu
import Derived.Test.YtkoidookanmknaaSWS
namespace Go.Proofs.Ytkoidookanmknaa
set_option linter.unusedSimpArgs false
set_option linter.unusedVariables false
open Go.RowKit

theorem IsQ.keepU {w w' : World} {f : FV} {q : Rat} (h : IsQ w f q) (k : IU w w') : IsQ w' f q := by
 obtain ⟨N, D, h1, h2⟩ := h
 exact ⟨N, D, ⟨h1.num.keepU k, h1.den.keepU k, h1.pos, h1.big, h1.low⟩, h2⟩
/-- A fraction as cells. -/
def encF : Enc FV := ⟨fun f => [.bool f.n.neg, .slice f.n.a f.n.n f.n.c, .bool f.d.neg, .slice f.d.a f.d.n f.d.c], 4, fun _ => rfl, fun f u hu => by
 simp at hu
 rcases hu with rfl | rfl | rfl | rfl <;> rfl, by omega⟩
def fcells (fs : List FV) : Array Value := (gcells encF fs).toArray
/-- The fractions fs lie in block b. -/
def FRow (w : World) (b : Nat) (fs : List FV) : Prop := Blk w b (fcells fs) 58
theorem FRow.ext {w w' : World} {b : Nat} {fs : List FV} (h : FRow w b fs) (k : Ext w w') : FRow w' b fs := Blk.ext h k
theorem FRow.lt {w : World} {b : Nat} {fs : List FV} (h : FRow w b fs) : b < w.heap.size := Blk.lt h
theorem fcells_at {fs : List FV} {i : Nat} {f : FV} (h : fs[i]? = some f) (j : Nat) (hj : j < 4) : (fcells fs)[i * 4 + j]? = (encF.f f)[j]? := by
 unfold fcells
 rw [List.getElem?_toArray]
 exact gcells_at encF fs i f h j hj
def Quad (w : World) (b o : Nat) (f : FV) : Prop := w.cell? ⟨b, o, none⟩ = some (.bool f.n.neg) ∧ w.cell? ⟨b, o + 1, none⟩ = some (.slice f.n.a f.n.n f.n.c) ∧ w.cell? ⟨b, o + 2, none⟩ = some (.bool f.d.neg) ∧ w.cell? ⟨b, o + 3, none⟩ = some (.slice f.d.a f.d.n f.d.c)
theorem Quad.ext {w w' : World} {b o : Nat} {f : FV} (h : Quad w b o f) (k : Ext w w') : Quad w' b o f := ⟨k.cell h.1, k.cell h.2.1, k.cell h.2.2.1, k.cell h.2.2.2⟩
theorem FRow.quad {w : World} {b : Nat} {fs : List FV} (h : FRow w b fs) {i : Nat} {f : FV} (hi : fs[i]? = some f) : Quad w b (i * 4) f :=
 ⟨by rw [Blk.cell h, show i * 4 = i * 4 + 0 from rfl, fcells_at hi 0 (by omega)]; rfl, by rw [Blk.cell h, fcells_at hi 1 (by omega)]; rfl, by rw [Blk.cell h, fcells_at hi 2 (by omega)]; rfl, by rw [Blk.cell h, fcells_at hi 3 (by omega)]; rfl⟩
/-- A fraction is stored into a row. -/
abbrev putQ (w : World) (b o : Nat) (f : FV) : World := (((w.setCell ⟨b, o, none⟩ (.bool f.n.neg)).setCell ⟨b, o + 1, none⟩ (.slice f.n.a f.n.n f.n.c)).setCell ⟨b, o + 2, none⟩ (.bool f.d.neg)).setCell ⟨b, o + 3, none⟩ (.slice f.d.a f.d.n f.d.c)
theorem gset (f : FV) : ∀ (fs : List FV) (i : Nat), i < fs.length → ((((gcells encF fs).set (i * 4) (.bool f.n.neg)).set (i * 4 + 1) (.slice f.n.a f.n.n f.n.c)).set (i * 4 + 2) (.bool f.d.neg)).set (i * 4 + 3) (.slice f.d.a f.d.n f.d.c) = gcells encF (fs.set i f)
 | [], i, h => by simp at h
 | g :: fs, 0, _ => by simp [gcells, encF]
 | g :: fs, i + 1, h => by
  have ih := gset f fs i (by simpa using h)
  have e1 : ∀ ls : List FV, gcells encF (g :: ls) = Value.bool g.n.neg :: .slice g.n.a g.n.n g.n.c :: .bool g.d.neg :: .slice g.d.a g.d.n g.d.c :: gcells encF ls := fun ls => by simp [gcells, encF]
  rw [e1, List.set_cons_succ, e1, ← ih, show (i + 1) * 4 = i * 4 + 1 + 1 + 1 + 1 by omega]
  rfl
theorem FRow.put {w : World} {b : Nat} {fs : List FV} (h : FRow w b fs) {i : Nat} (hi : i < fs.length) (f : FV) : FRow (putQ w b (i * 4) f) b (fs.set i f) := by
 have h4 := Blk.set (Blk.set (Blk.set (Blk.set h (i * 4) (.bool f.n.neg)) (i * 4 + 1) (.slice f.n.a f.n.n f.n.c)) (i * 4 + 2) (.bool f.d.neg)) (i * 4 + 3) (.slice f.d.a f.d.n f.d.c)
 unfold FRow
 rw [show fcells (fs.set i f) = ((((fcells fs).setIfInBounds (i * 4) (.bool f.n.neg)).setIfInBounds (i * 4 + 1) (.slice f.n.a f.n.n f.n.c)).setIfInBounds (i * 4 + 2) (.bool f.d.neg)).setIfInBounds (i * 4 + 3) (.slice f.d.a f.d.n f.d.c) by
  unfold fcells
  rw [← gset f fs i hi]
  simp]
 exact h4
theorem FRow.noInt {w : World} {b : Nat} {fs : List FV} (h : FRow w b fs) : ∀ o k m, w.cell? ⟨b, o, none⟩ ≠ some (.int k m) := by
 intro o k m hc
 rw [Blk.cell h] at hc
 unfold fcells at hc
 rw [List.getElem?_toArray] at hc
 have hm := List.mem_of_getElem? hc
 simp [gcells, encF] at hm
theorem FRow.other {w : World} {b b' o : Nat} {fs : List FV} {f : FV} (h : FRow w b fs) (hne : b ≠ b') : FRow (putQ w b' o f) b fs :=
 Blk.setOther (Blk.setOther (Blk.setOther (Blk.setOther h hne _) hne _) hne _) hne _
theorem IK.putQ {w : World} {b o : Nat} {fs : List FV} (h : FRow w b fs) (f : FV) : IK w (putQ w b o f) :=
 ((((IK.refl w).setCell (h.noInt _) _).setCell (own3_set h.noInt (by simp) _) _).setCell (own3_set (own3_set h.noInt (by simp)) (by simp) _) _).setCell (own3_set (own3_set (own3_set h.noInt (by simp)) (by simp)) (by simp) _) _
/-- Only the block b has changed. -/
structure Only (b : Nat) (w w' : World) : Prop where
 os : w'.os = w.os
 tape : w'.tape = w.tape
 output : w'.output = w.output
 size : w.heap.size ≤ w'.heap.size
 block : ∀ k, k < w.heap.size → k ≠ b → w'.heap[k]? = w.heap[k]?
 iu : IU w w'
theorem Only.refl (b : Nat) (w : World) : Only b w w := ⟨rfl, rfl, rfl, Nat.le_refl _, fun _ _ _ => rfl, IU.refl w⟩
theorem Ext.only {w w' : World} (h : Ext w w') (b : Nat) : Only b w w' := ⟨h.below.os, h.below.tape, h.below.output, h.size, fun k hk _ => h.below.block k hk, h.iu⟩
theorem Only.trans {b : Nat} {u v w : World} (h : Only b u v) (k : Only b v w) : Only b u w :=
 ⟨k.os.trans h.os, k.tape.trans h.tape, k.output.trans h.output, Nat.le_trans h.size k.size, fun j hj hne => by rw [k.block j (Nat.lt_of_lt_of_le hj h.size) hne, h.block j hj hne], h.iu.trans k.iu⟩
theorem Only.putQ {w : World} {b o : Nat} {fs : List FV} (h : FRow w b fs) (f : FV) : Only b w (putQ w b o f) :=
 ⟨rfl, rfl, rfl, by simp, fun k _ hne => by
  show ((((w.setCell _ _).setCell _ _).setCell _ _).setCell _ _).heap[k]? = _
  rw [Below.heap_setCell _ _ _ _ hne, Below.heap_setCell _ _ _ _ hne, Below.heap_setCell _ _ _ _ hne, Below.heap_setCell _ _ _ _ hne], (IK.putQ h f).iu⟩
theorem Only.blk {b : Nat} {w w' : World} (h : Only b w w') {k : Nat} {cs : Array Value} {t : TypeId} (hk : Blk w k cs t) (hne : k ≠ b) : Blk w' k cs t := by
 unfold Blk; rw [h.block k hk.lt hne]; exact hk
theorem Only.below {b base : Nat} {w w' : World} (h : Only b w w') (hb : base ≤ b) (hs : base ≤ w.heap.size) : Below base w w' :=
 ⟨h.os, h.tape, h.output, h.size, fun k hk => h.block k (by omega) (by omega)⟩
theorem fracInfo : (Try.prog.info? 58).map (fun i => (i.zero, i.size, i.bytes)) = some (some (.agg #[.bool false, .slice none 0 0, .bool false, .slice none 0 0]), 4, 64) := by kernel_rfl
def fv0 : FV := ⟨⟨false, none, 0, 0⟩, ⟨false, none, 0, 0⟩⟩
theorem zero_isQ (w : World) : IsQ w fv0 0 := ⟨0, 1, ⟨⟨[], Wds.nil w, .inl rfl, by decide, by simp [fv0], by simp [fv0, sgn, mval]⟩, ⟨[], Wds.nil w, .inl rfl, by decide, by simp [fv0], by simp [fv0, sgn, mval]⟩, by omega, big_one, by simp⟩, by simp⟩
/-- 'make([]frac.Frac, n)'. -/
theorem make_fracs (n : Nat) (x y : Int) (hx : x = (n : Int)) (hy : y = (n : Int)) (hn : n ≤ 1000000) (w : World) :
  (Instr.makeSlice 52 (.int .i64 x) (.int .i64 y)).run Try.prog w = .ok (.slice (some ⟨w.heap.size, 0, none⟩) n n) (w.alloc (.cells (fcells (List.replicate n fv0)) 58)) := by
 obtain ⟨i0, hi, hz0, hz1, hz2⟩ := info_parts fracInfo
 have h := run_make (P := Try.prog) w 52 58 i0 _ Try.underlying52 hi hz0 .i64 .i64 n n (by omega) (Int.le_refl _) (by rw [hz2]; omega) (by omega)
 subst hx; subst hy
 rw [h, hz1]
 simp only [Int.toNat_natCast]
 rw [show (Value.cells (.agg #[.bool false, .slice none 0 0, .bool false, .slice none 0 0])) = #[.bool false, .slice none 0 0, .bool false, .slice none 0 0] from rfl]
 have e : madeCells #[.bool false, .slice none 0 0, .bool false, .slice none 0 0] (n * 4) = fcells (List.replicate n fv0) := by
  apply Array.ext_getElem?
  intro i
  by_cases hi : i < n * 4
  ·have hd : i / 4 < n := by omega
   have hm : i % 4 < 4 := Nat.mod_lt _ (by omega)
   have hg := fcells_at (fs := List.replicate n fv0) (i := i / 4) (f := fv0) (by rw [List.getElem?_replicate, if_pos hd]) (i % 4) hm
   rw [show i / 4 * 4 + i % 4 = i by omega] at hg
   rw [hg]
   unfold madeCells
   rw [Array.getElem?_map, Array.getElem?_range, if_pos hi]
   show some (_) = _
   rcases (show i % 4 = 0 ∨ i % 4 = 1 ∨ i % 4 = 2 ∨ i % 4 = 3 by omega) with h4 | h4 | h4 | h4 <;> rw [h4] <;> simp [h4, encF, fv0]
  ·rw [Array.getElem?_eq_none (by rw [size_madeCells]; omega), Array.getElem?_eq_none (by
    unfold fcells
    rw [List.size_toArray, gcells_length, List.length_replicate]
    show n * 4 ≤ i
    omega)]
 rw [e]
end Go.Proofs.Ytkoidookanmknaa
namespace Go.Proofs.Ytkoidookanmknaa
set_option linter.unusedSimpArgs false
set_option linter.unusedVariables false
open Go.RowKit

/-- A fraction in a box. -/
def Quad0 (w : World) (b : Nat) (f : FV) : Prop := w.cell? ⟨b, 0, none⟩ = some (.bool f.n.neg) ∧ w.cell? ⟨b, 1, none⟩ = some (.slice f.n.a f.n.n f.n.c) ∧ w.cell? ⟨b, 2, none⟩ = some (.bool f.d.neg) ∧ w.cell? ⟨b, 3, none⟩ = some (.slice f.d.a f.d.n f.d.c)
theorem Quad0.ext {w w' : World} {b : Nat} {f : FV} (h : Quad0 w b f) (k : Ext w w') : Quad0 w' b f := ⟨k.cell h.1, k.cell h.2.1, k.cell h.2.2.1, k.cell h.2.2.2⟩
theorem Blk.quad0 {w : World} {b : Nat} {f : FV} {t : TypeId} (h : Blk w b f.cs t) : Quad0 w b f := ⟨h.cell 0, h.cell 1, h.cell 2, h.cell 3⟩
theorem Quad0.putF {w : World} {b : Nat} (h : Own w b 4) (f : FV) : Quad0 (putF w b f) b f := putF_cells h f
theorem Only.cell {b : Nat} {w w' : World} (h : Only b w w') {k o : Nat} {v : Value} (hk : w.cell? ⟨k, o, none⟩ = some v) (hne : k ≠ b) : w'.cell? ⟨k, o, none⟩ = some v := by
 rw [World.cell?_of_block (h.block k (lt_of_cell hk) hne)]; exact hk
theorem Only.quad0 {b k : Nat} {w w' : World} (h : Only b w w') {f : FV} (hf : Quad0 w k f) (hne : k ≠ b) : Quad0 w' k f :=
 ⟨h.cell hf.1 hne, h.cell hf.2.1 hne, h.cell hf.2.2.1 hne, h.cell hf.2.2.2 hne⟩
theorem FRow.free {w : World} {b : Nat} {fs : List FV} (h : FRow w b fs) (o : Nat) : w.frozen? ⟨b, o, none⟩ = false := Blk.free h o
/-- The fractions of a block stand for the first n numbers of a vector. -/
def VecAt (w : World) (b n : Nat) (v : Vec) : Prop := ∃ fs, FRow w b fs ∧ fs.length = n ∧ ∀ i f, fs[i]? = some f → IsQ w f (v i)
theorem VecAt.ext {w w' : World} {b n : Nat} {v : Vec} (h : VecAt w b n v) (k : Ext w w') : VecAt w' b n v := by
 obtain ⟨fs, h1, h2, h3⟩ := h
 exact ⟨fs, h1.ext k, h2, fun i f hf => (h3 i f hf).keepU k.iu⟩
theorem VecAt.only {w w' : World} {b b' n : Nat} {v : Vec} (h : VecAt w b n v) (k : Only b' w w') (hne : b ≠ b') : VecAt w' b n v := by
 obtain ⟨fs, h1, h2, h3⟩ := h
 exact ⟨fs, k.blk h1 hne, h2, fun i f hf => (h3 i f hf).keepU k.iu⟩
theorem VecAt.lt {w : World} {b n : Nat} {v : Vec} (h : VecAt w b n v) : b < w.heap.size := by
 obtain ⟨fs, h1, _⟩ := h
 exact h1.lt
set_option maxRecDepth 100000 in
set_option maxHeartbeats 8000000 in
theorem less_c (ba bb n : Nat) (t : FV) (va vb : Vec) (q : Rat) (w : World) (hA : VecAt w ba n va) (hB : VecAt w bb n vb) (hn : n ≤ 1000) (hne : ba ≠ bb) (ht : IsQ w t q) (sq : SmB BB q) (sm : ∀ i, SmB BB (va i) ∧ SmB BB (vb i) ∧ SmB BB (vb i * q)) :
  Calls Try.prog 79 #[.slice (some ⟨ba, 0, none⟩) n n, .slice (some ⟨bb, 0, none⟩) n n, t.v] w fun e w' => e = .returned (.tuple #[]) ∧ VecAt w' ba n (vless va vb q) ∧ Only ba w w' := by
 obtain ⟨fa, a1, a2, a3⟩ := hA
 obtain ⟨fb, b1, b2, b3⟩ := hB
 obtain ⟨B, hBB⟩ : ∃ B, w.heap.size = B := ⟨_, rfl⟩
 have hlA := a1.lt
 have hlB := b1.lt
 have HA := Lib.hid (And.intro a1 (And.intro a2 a3))
 have HB := Lib.hid (And.intro b1 (And.intro b2 b3))
 have HT := Lib.hid ht
 have HSQ := Lib.hid sq
 have HSM := Lib.hid sm
 clear a1 a2 a3 b1 b2 b3 ht sq sm
 go_enter Try.func79, Try.ntmps79
 go_upto_region 1 with (fail)
 refine wp_gen (fun W => Ext w W ∧ Quad0 W B t) ⟨(by repeat (first | exact Ext.refl _ | assumption | refine Ext.setCell ?_ (by first | (simp; done) | (simp; omega) | omega) _ | refine Ext.alloc ?_ _ | refine Ext.drew ?_ | refine Ext.trans ?_ (by assumption))), (Blk.at t.cs 58 hBB.symm).quad0⟩ ?_
 try rw [hBB]
 rintro V ⟨E0, Q0⟩
 have HV := Lib.hid (And.intro E0 Q0)
 clear E0 Q0
 have hAV := Lib.hid (HA.out.1.ext HV.out.1)
 go_upto_region 2 with (fail)
 go_loopw [11] (fun iv ws => ∃ (i : Nat) (fc : List FV), i ≤ n ∧ iv = .int .i64 (i : Int) ∧ FRow ws ba fc ∧ fc.length = n ∧ (∀ j f, fc[j]? = some f → j < i → IsQ ws f (vless va vb q j)) ∧ (∀ j, i ≤ j → fc[j]? = fa[j]?) ∧ Only ba V ws) (fun iv _ => n - (intOf iv).toNat)
 case atStart => exact ⟨0, fa, by omega, rfl, hAV.out, HA.out.2.1, fun j f _ h => absurd h (by omega), fun _ _ => rfl, Only.refl ba V⟩
 case round =>
  obtain ⟨i, fc, hi, rfl, h1, h2, h3, h4, h5⟩ := hrel
  by_cases hlt : i < n
  ·obtain ⟨f, hf⟩ : ∃ f, fa[i]? = some f := ⟨_, List.getElem?_eq_getElem (by rw [HA.out.2.1]; exact hlt)⟩
   obtain ⟨g, hg⟩ : ∃ g, fb[i]? = some g := ⟨_, List.getElem?_eq_getElem (by rw [HB.out.2.1]; exact hlt)⟩
   have hfc : fc[i]? = some f := by rw [h4 i (Nat.le_refl _)]; exact hf
   have hiu : IU w wr := HV.out.1.iu.trans h5.iu
   have HBr := Lib.hid (h5.blk (HB.out.1.ext HV.out.1) (Ne.symm hne))
   have HFR := Lib.hid (And.intro h1 (And.intro h2 (And.intro h3 (And.intro h4 (And.intro h5 hfc)))))
   have HQ := Lib.hid (And.intro ((HA.out.2.2 i f hf).keepU hiu) (And.intro ((HB.out.2.2 i g hg).keepU hiu) (HT.out.keepU hiu)))
   have HM := Lib.hid (HSM.out i)
   have QB := Lib.hid (fun W (e : Ext wr W) => (FRow.quad HBr.out hg).ext e)
   have QT := Lib.hid (fun W (e : Ext wr W) => (h5.quad0 HV.out.2 (show B ≠ ba by omega)).ext e)
   have hszr := h5.size
   have hBV := HV.out.1.size
   clear h1 h2 h3 h4 h5 hf hg hfc hiu
   have i0 : (0 : Int) ≤ (i : Int) := by omega
   have i1 : (i : Int) < (n : Int) := by omega
   go_upto_region 4 with (fail)
   go_cut [7] (fun s7 wx => ∃ (P : Nat) (m : FV), s7 = .pointer (some ⟨P, 0, none⟩) ∧ wr.heap.size ≤ P ∧ Ext wr wx ∧ Quad0 wx P m ∧ IsQ wx m (vb i * q))
   case first =>
    refine wp_region_held_drew (S := fun W => Ext wr W) (by kernel_rfl) (Ext.refl wr).drew (fun hHeld => ?_)
    refine takeL (i := 0) (v := ?_) rfl (by kernel_rfl) (by kernel_rfl) (by kernel_rfl) (fun _ _ _ h => h) (Or.inl ⟨by rfl, ?_⟩) (by assumption) ?_; rotate_left; (focus (intro wq hSw; (try dsimp only at hSw); go_simp; try with_reducible rfl)); (try simp only [Act.put, List.setIfInBounds_toArray, List.set_cons_zero, List.set_cons_succ])
    refine takeL (i := 1) (v := ?_) rfl (by kernel_rfl) (by kernel_rfl) (by kernel_rfl) (fun _ _ _ h => h) (Or.inl ⟨by rfl, ?_⟩) (by assumption) ?_; rotate_left; (focus (intro wq hSw; (try dsimp only at hSw); go_simp; try with_reducible rfl)); (try simp only [Act.put, List.setIfInBounds_toArray, List.set_cons_zero, List.set_cons_succ])
    refine takeL (i := 2) (v := ?_) rfl (by kernel_rfl) (by kernel_rfl) (by kernel_rfl) (fun _ _ _ h => h) (Or.inl ⟨by rfl, ?_⟩) (by assumption) ?_; rotate_left; (focus (intro wq hSw; (try dsimp only at hSw); go_simp; try with_reducible rfl)); (try simp only [Act.put, List.setIfInBounds_toArray, List.set_cons_zero, List.set_cons_succ])
    refine takeL (i := 3) (v := ?_) rfl (by kernel_rfl) (by kernel_rfl) (by kernel_rfl) (fun _ _ _ h => h) (Or.inl ⟨by rfl, ?_⟩) (by assumption) ?_; rotate_left; (focus (intro wq hSw; have hcc := QB.out wq (hSw); clear hSw; obtain ⟨c0, c1, c2, c3⟩ := hcc; go_simp; try with_reducible rfl)); (try simp only [Act.put, List.setIfInBounds_toArray, List.set_cons_zero, List.set_cons_succ])
    refine takeL (i := 4) (v := ?_) rfl (by kernel_rfl) (by kernel_rfl) (by kernel_rfl) (fun _ _ _ h => h) (Or.inl ⟨by rfl, ?_⟩) (by assumption) ?_; rotate_left; (focus (intro wq hSw; have hcc := QT.out wq (hSw); clear hSw; obtain ⟨c0, c1, c2, c3⟩ := hcc; go_simp; try with_reducible rfl)); (try simp only [Act.put, List.setIfInBounds_toArray, List.set_cons_zero, List.set_cons_succ])
    refine cons2L (i := 5) (j := 9) (by kernel_rfl) rfl rfl (fun K hK => ?_) (fun K hK => ?_)
    ·go_simp; go_at_call 91; refine (mulQ_c g t (vb i) q BB BBk _ (HQ.out.2.1.keep (Ext.ik (by assumption))) (HQ.out.2.2.keep (Ext.ik (by assumption))) HM.out.2.1 HSQ.out BB_lt (by decide)).mono ?_; rintro e w5 ⟨m, rfl, hm, hx5⟩; have sz := Ext.size hx5; (try simp only [World.size_alloc, World.size_drew] at sz); (first | (have OG := Own.ext hx5 ((Blk.at #[.bool false, .slice none 0 0, .bool false, .slice none 0 0] 58 rfl).own 4 (by simp) (noIntF _ _ _ _ _ _ _ _)) (by omega)) | skip); (try simp only [World.size_alloc] at OG); go_wp2_with fail; refine hK.out _ _ ?_ ?_; rotate_left; clear hK K; (try clear hHeld); intro hHeld; rotate_right; (focus ((try dsimp only); exact kept)); (try simp only [Act.put, List.setIfInBounds_toArray, List.set_cons_zero, List.set_cons_succ])
     have hH6 := hHeld
     refine takeL (i := 6) (v := ?_) rfl (by kernel_rfl) (by kernel_rfl) (by kernel_rfl) (fun _ _ _ h => h) (Or.inl ⟨by rfl, ?_⟩) (by assumption) ?_; rotate_left; (focus (intro wq hSw; (try dsimp only at hSw); go_simp; try with_reducible rfl)); (try simp only [Act.put, List.setIfInBounds_toArray, List.set_cons_zero, List.set_cons_succ])
     refine takeL (i := 7) (v := ?_) rfl (by kernel_rfl) (by kernel_rfl) (by kernel_rfl) (fun _ _ _ h => h) (Or.inl ⟨by rfl, ?_⟩) (by assumption) ?_; rotate_left; (focus (intro wq hSw; (try dsimp only at hSw); go_simp; try with_reducible rfl)); (try simp only [Act.put, List.setIfInBounds_toArray, List.set_cons_zero, List.set_cons_succ])
     refine takeL (i := 8) (v := ?_) rfl (by kernel_rfl) (by kernel_rfl) (by kernel_rfl) (fun _ _ _ h => h) (Or.inl ⟨by rfl, ?_⟩) (by assumption) ?_; rotate_left; (focus (intro wq hSw; (try dsimp only at hSw); go_simp; try with_reducible rfl)); (try simp only [Act.put, List.setIfInBounds_toArray, List.set_cons_zero, List.set_cons_succ])
     refine consL (i := 9) (by kernel_rfl) rfl (fun K hK => ?_); go_simp; refine hK.out _ _ ?_ ?_; rotate_left; clear hK K; (try clear hHeld); intro hHeld; rotate_right; (focus ((try dsimp only); exact kept)); (try simp only [Act.put, List.setIfInBounds_toArray, List.set_cons_zero, List.set_cons_succ])
     refine consL (i := 10) (by kernel_rfl) rfl (fun K hK => ?_); go_simp; refine hK.out _ _ ?_ ?_; rotate_left; clear hK K; (try clear hHeld); intro hHeld; rotate_right; (focus ((try dsimp only); exact kept)); (try simp only [Act.put, List.setIfInBounds_toArray, List.set_cons_zero, List.set_cons_succ])
     refine takeL (i := 11) (v := ?_) rfl (by kernel_rfl) (by kernel_rfl) (by kernel_rfl) (fun _ _ _ h => h) (Or.inl ⟨by rfl, ?_⟩) (by assumption) ?_; rotate_left; (focus (intro wq hSw; (try dsimp only at hSw); go_simp; try with_reducible rfl)); (try simp only [Act.put, List.setIfInBounds_toArray, List.set_cons_zero, List.set_cons_succ])
     refine doneL (by kernel_rfl) ?_; go_wp2_with fail; go_meet; refine ⟨_, m, rfl, ?_, hHeld, ?_, ?_⟩; (focus (first | omega | (simp; done) | (simp; omega))); (focus (first | exact Quad0.putF OG m | exact (Blk.at _ 58 rfl).quad0)); (focus (first | exact hm.keep (IK.putF OG m) | exact hm.keep ((Ext.refl _).alloc _).ik))
    ·go_simp; refine hK.out _ _ ?_ ?_; rotate_left; clear hK K; (try clear hHeld); intro hHeld; rotate_right; (focus ((try dsimp only); exact kept)); (try simp only [Act.put, List.setIfInBounds_toArray, List.set_cons_zero, List.set_cons_succ])
     refine consL (i := 5) (by kernel_rfl) rfl (fun K hK => ?_)
     go_simp; go_at_call 91; refine (mulQ_c g t (vb i) q BB BBk _ (HQ.out.2.1.keep (Ext.ik (by assumption))) (HQ.out.2.2.keep (Ext.ik (by assumption))) HM.out.2.1 HSQ.out BB_lt (by decide)).mono ?_; rintro e w5 ⟨m, rfl, hm, hx5⟩; have sz := Ext.size hx5; (try simp only [World.size_alloc, World.size_drew] at sz); (first | (have OG := Own.ext hx5 ((Blk.at #[.bool false, .slice none 0 0, .bool false, .slice none 0 0] 58 rfl).own 4 (by simp) (noIntF _ _ _ _ _ _ _ _)) (by omega)) | skip); (try simp only [World.size_alloc] at OG); go_wp2_with fail; refine hK.out _ _ ?_ ?_; rotate_left; clear hK K; (try clear hHeld); intro hHeld; rotate_right; (focus ((try dsimp only); exact kept)); (try simp only [Act.put, List.setIfInBounds_toArray, List.set_cons_zero, List.set_cons_succ])
     refine takeL (i := 6) (v := ?_) rfl (by kernel_rfl) (by kernel_rfl) (by kernel_rfl) (fun _ _ _ h => h) (Or.inl ⟨by rfl, ?_⟩) (by assumption) ?_; rotate_left; (focus (intro wq hSw; (try dsimp only at hSw); go_simp; try with_reducible rfl)); (try simp only [Act.put, List.setIfInBounds_toArray, List.set_cons_zero, List.set_cons_succ])
     refine takeL (i := 7) (v := ?_) rfl (by kernel_rfl) (by kernel_rfl) (by kernel_rfl) (fun _ _ _ h => h) (Or.inl ⟨by rfl, ?_⟩) (by assumption) ?_; rotate_left; (focus (intro wq hSw; (try dsimp only at hSw); go_simp; try with_reducible rfl)); (try simp only [Act.put, List.setIfInBounds_toArray, List.set_cons_zero, List.set_cons_succ])
     refine takeL (i := 8) (v := ?_) rfl (by kernel_rfl) (by kernel_rfl) (by kernel_rfl) (fun _ _ _ h => h) (Or.inl ⟨by rfl, ?_⟩) (by assumption) ?_; rotate_left; (focus (intro wq hSw; (try dsimp only at hSw); go_simp; try with_reducible rfl)); (try simp only [Act.put, List.setIfInBounds_toArray, List.set_cons_zero, List.set_cons_succ])
     refine consL (i := 10) (by kernel_rfl) rfl (fun K hK => ?_); go_simp; refine hK.out _ _ ?_ ?_; rotate_left; clear hK K; (try clear hHeld); intro hHeld; rotate_right; (focus ((try dsimp only); exact kept)); (try simp only [Act.put, List.setIfInBounds_toArray, List.set_cons_zero, List.set_cons_succ])
     refine takeL (i := 11) (v := ?_) rfl (by kernel_rfl) (by kernel_rfl) (by kernel_rfl) (fun _ _ _ h => h) (Or.inl ⟨by rfl, ?_⟩) (by assumption) ?_; rotate_left; (focus (intro wq hSw; (try dsimp only at hSw); go_simp; try with_reducible rfl)); (try simp only [Act.put, List.setIfInBounds_toArray, List.set_cons_zero, List.set_cons_succ])
     refine doneL (by kernel_rfl) ?_; go_wp2_with fail; go_meet; refine ⟨_, m, rfl, ?_, hHeld, ?_, ?_⟩; (focus (first | omega | (simp; done) | (simp; omega))); (focus (first | exact Quad0.putF OG m | exact (Blk.at _ 58 rfl).quad0)); (focus (first | exact hm.keep (IK.putF OG m) | exact hm.keep ((Ext.refl _).alloc _).ik))
   case rest =>
    obtain ⟨P, m, rfl, hPl, hE4, hP, hm⟩ := hcut
    obtain ⟨w4, hw4⟩ : ∃ w4, w4 = wc := ⟨_, rfl⟩
    subst hw4
    have HE := Lib.hid hE4
    have HMM := Lib.hid hm
    have QP := Lib.hid (fun W (e : Ext w4 W) => hP.ext e)
    have hPne : P ≠ ba := by have := HFR.out.1.lt; omega
    have hrow4 := HFR.out.1.ext hE4
    obtain ⟨f0, f1, f2, f3⟩ := hrow4.quad HFR.out.2.2.2.2.2
    clear hE4 hP hm hrow4
    go_upto_region 5 with (fail)
    refine wp_region_held_drew (S := fun W => Only ba w4 W ∧ Quad0 W P m) (by kernel_rfl) ⟨(Ext.refl w4).drew.only ba, QP.out _ (Ext.refl w4).drew⟩ (fun hHeld => ?_)
    refine takeL (i := 0) (v := ?_) rfl (by kernel_rfl) (by kernel_rfl) (by kernel_rfl) (fun _ _ _ h => h) (Or.inl ⟨by rfl, ?_⟩) (by assumption) ?_; rotate_left; (focus (intro wq hSw; (try dsimp only at hSw); go_simp; try with_reducible rfl)); (try simp only [Act.put, List.setIfInBounds_toArray, List.set_cons_zero, List.set_cons_succ])
    refine takeL (i := 1) (v := ?_) rfl (by kernel_rfl) (by kernel_rfl) (by kernel_rfl) (fun _ _ _ h => h) (Or.inl ⟨by rfl, ?_⟩) (by assumption) ?_; rotate_left; (focus (intro wq hSw; (try dsimp only at hSw); go_simp; try with_reducible rfl)); (try simp only [Act.put, List.setIfInBounds_toArray, List.set_cons_zero, List.set_cons_succ])
    refine takeL (i := 2) (v := ?_) rfl (by kernel_rfl) (by kernel_rfl) (by kernel_rfl) (fun _ _ _ h => h) (Or.inl ⟨by rfl, ?_⟩) (by assumption) ?_; rotate_left; (focus (intro wq hSw; (try dsimp only at hSw); go_simp; try with_reducible rfl)); (try simp only [Act.put, List.setIfInBounds_toArray, List.set_cons_zero, List.set_cons_succ])
    refine takeL (i := 3) (v := ?_) rfl (by kernel_rfl) (by kernel_rfl) (by kernel_rfl) (fun _ _ _ h => h) (Or.inl ⟨by rfl, ?_⟩) (by assumption) ?_; rotate_left; (focus (intro wq hSw; (try dsimp only at hSw); go_simp; try with_reducible rfl)); (try simp only [Act.put, List.setIfInBounds_toArray, List.set_cons_zero, List.set_cons_succ])
    refine takeL (i := 4) (v := ?_) rfl (by kernel_rfl) (by kernel_rfl) (by kernel_rfl) (fun _ _ _ h => h) (Or.inl ⟨by rfl, ?_⟩) (by assumption) ?_; rotate_left; (focus (intro wq hSw; (try dsimp only at hSw); go_simp; try with_reducible rfl)); (try simp only [Act.put, List.setIfInBounds_toArray, List.set_cons_zero, List.set_cons_succ])
    refine takeL (i := 6) (v := ?_) rfl (by kernel_rfl) (by kernel_rfl) (by kernel_rfl) (fun _ _ _ h => h) (Or.inl ⟨by rfl, ?_⟩) (by assumption) ?_; rotate_left; (focus (intro wq hSw; have hcc := hSw.2; clear hSw; obtain ⟨c0, c1, c2, c3⟩ := hcc; go_simp; try with_reducible rfl)); (try simp only [Act.put, List.setIfInBounds_toArray, List.set_cons_zero, List.set_cons_succ])
    refine consL (i := 5) (by kernel_rfl) rfl (fun K hK => ?_); go_simp; refine hK.out _ _ ?_ (fun hHeld => ?_); rotate_left; clear hK K; rotate_right; (focus assumption); (try simp only [Act.put, List.setIfInBounds_toArray, List.set_cons_zero, List.set_cons_succ])
    refine consL (i := 7) (by kernel_rfl) rfl (fun K hK => ?_); go_simp; go_at_call 62; refine (subQ_c f m (va i) (vb i * q) BB BBk _ (HQ.out.1.keep (HE.out.drew.ik)) (HMM.out.keep ((Ext.refl w4).drew.ik)) HM.out.1 HM.out.2.2 BB_lt (by decide)).mono ?_; rintro e w5 ⟨r, rfl, hr, hx5⟩; go_wp2_with fail; refine hK.out _ _ ?_ ?_; rotate_left; clear hK K; (try clear hHeld); intro hHeld; rotate_right; (focus (exact ⟨(Ext.only ((Ext.refl w4).drew.trans hx5) ba), QP.out _ ((Ext.refl w4).drew.trans hx5)⟩)); (try simp only [Act.put, List.setIfInBounds_toArray, List.set_cons_zero, List.set_cons_succ])
    have HX5 := Lib.hid ((Ext.refl w4).drew.trans hx5)
    have HR := Lib.hid hr
    have hrow5 := HFR.out.1.ext (HE.out.trans HX5.out)
    have HRO := Lib.hid hrow5
    obtain ⟨o0, o1, o2, o3⟩ := hrow5.quad HFR.out.2.2.2.2.2
    have hfr5 := hrow5.free
    refine takeL (i := 8) (v := ?_) rfl (by kernel_rfl) (by kernel_rfl) (by kernel_rfl) (fun _ _ _ h => h) (Or.inl ⟨by rfl, ?_⟩) (by assumption) ?_; rotate_left; (focus (intro wq hSw; (try dsimp only at hSw); go_simp; try with_reducible rfl)); (try simp only [Act.put, List.setIfInBounds_toArray, List.set_cons_zero, List.set_cons_succ])
    refine takeL (i := 9) (v := ?_) rfl (by kernel_rfl) (by kernel_rfl) (by kernel_rfl) (fun _ _ _ h => h) (Or.inl ⟨by rfl, ?_⟩) (by assumption) ?_; rotate_left; (focus (intro wq hSw; (try dsimp only at hSw); go_simp; try with_reducible rfl)); (try simp only [Act.put, List.setIfInBounds_toArray, List.set_cons_zero, List.set_cons_succ])
    refine takeL (i := 10) (v := ?_) rfl (by kernel_rfl) (by kernel_rfl) (by kernel_rfl) (fun _ _ _ h => h) (Or.inl ⟨by rfl, ?_⟩) (by assumption) ?_; rotate_left; (focus (intro wq hSw; (try dsimp only at hSw); go_simp; try with_reducible rfl)); (try simp only [Act.put, List.setIfInBounds_toArray, List.set_cons_zero, List.set_cons_succ])
    refine takeL (i := 11) (v := ?_) rfl (by kernel_rfl) (by kernel_rfl) (by kernel_rfl) (fun _ _ _ h => h) (Or.inl ⟨by rfl, ?_⟩) (by assumption) ?_; rotate_left; (focus (intro wq hSw; (try dsimp only at hSw); go_simp; try with_reducible rfl)); (try simp only [Act.put, List.setIfInBounds_toArray, List.set_cons_zero, List.set_cons_succ])
    clear f0 f1 f2 f3 hr hx5 hrow5
    refine consL (i := 12) (by kernel_rfl) rfl (fun K hK => ?_); go_simp; refine hK.out _ _ ?_ ?_; rotate_left; clear hK K; (try clear hHeld); intro hHeld; rotate_right; (focus (exact ⟨(Ext.only HX5.out ba).trans (Only.putQ HRO.out r), (Only.putQ HRO.out r).quad0 (QP.out _ HX5.out) hPne⟩)); (try simp only [Act.put, List.setIfInBounds_toArray, List.set_cons_zero, List.set_cons_succ])
    refine doneL (by kernel_rfl) ?_
    have HO := Lib.hid (Only.putQ (o := i * 4) HRO.out r)
    have HP := Lib.hid (HRO.out.put (i := i) (by rw [HFR.out.2.1]; exact hlt) r)
    clear o0 o1 o2 o3 hfr5 hHeld
    go_wp2_with fail
    go_roundw
    case rel =>
     refine ⟨i + 1, fc.set i r, by omega, by go_num, HP.out, by rw [List.length_set]; exact HFR.out.2.1, fun j f' hj hji => ?_, fun j hj => ?_, (HFR.out.2.2.2.2.1.trans ((HE.out.trans HX5.out).only ba)).trans HO.out⟩
     ·by_cases hij : i = j
      ·subst hij
       rw [List.getElem?_set_self (by rw [HFR.out.2.1]; exact hlt)] at hj
       injection hj with hj
       subst hj
       exact HR.out.keepU HO.out.iu
      ·rw [List.getElem?_set_ne hij] at hj
       exact (HFR.out.2.2.1 j f' hj (by omega)).keepU ((HE.out.trans HX5.out).iu.trans HO.out.iu)
     ·rw [List.getElem?_set_ne (by omega)]
      exact HFR.out.2.2.2.1 j (by omega)
    case measure => simp [intOf]; omega
  ·obtain rfl : i = n := by omega
   go_wp2_with fail
   go_end0
   exact ⟨rfl, ⟨fc, h1, h2, fun j f hf => h3 j f hf (by
    rcases Nat.lt_or_ge j i with h9 | h9
    ·exact h9
    ·rw [List.getElem?_eq_none (by omega)] at hf; cases hf)⟩, (HV.out.1.only ba).trans h5⟩
end Go.Proofs.Ytkoidookanmknaa
namespace Go.Proofs.Ytkoidookanmknaa
set_option linter.unusedSimpArgs false
set_option linter.unusedVariables false
open Go.RowKit

theorem low_one (x : Int) : x / gcdI x 1 = x ∧ 1 / gcdI x 1 = (1 : Int) := by
 have : gcdI x 1 = 1 := by unfold gcdI; simp
 rw [this]; simp
set_option maxRecDepth 100000 in
set_option maxHeartbeats 1000000 in
theorem number_c (x : Int) (w : World) (h1 : -9223372036854775808 ≤ x) (h2 : x ≤ 9223372036854775807) :
  Calls Try.prog 45 #[.int .i64 x] w fun e w' => ∃ f : FV, e = .returned f.v ∧ IsQ w' f (x : Rat) ∧ Ext w w' := by
 go_enter Try.func45, Try.ntmps45
 go_wp2_with fail
 refine (Of_c x 1 _ h1 h2 (by omega) (by omega)).mono ?_
 rw [(low_one x).1, (low_one x).2]
 rintro e w2 ⟨f, rfl, hf, hx⟩
 have HF := Lib.hid (And.intro hf (show Ext w w2 from Ext.trans (by repeat (first | exact Ext.refl _ | assumption | refine Ext.setCell ?_ (by first | (simp; done) | (simp; omega) | omega) _ | refine Ext.alloc ?_ _ | refine Ext.drew ?_ | refine Ext.trans ?_ (by assumption))) hx))
 have O2 : Own (w2.alloc (.cells f.cs 58)) w.heap.size 4 := Own.ext ((Ext.refl _).alloc _) (Own.ext hx ((Blk.at #[.bool false, .slice none 0 0, .bool false, .slice none 0 0] 58 rfl).own _ (by simp) (noIntF _ _ _ _ _ _ _ _)) (by omega)) (by omega)
 clear hf hx
 have o0 := O2.1 0 (by omega)
 have o1 := O2.1 1 (by omega)
 have o2 := O2.1 2 (by omega)
 have o3 := O2.1 3 (by omega)
 have hf0 := O2.2.1
 obtain ⟨p0, p1, p2, p3⟩ := putF_cells O2 f
 go_wp2_with fail
 refine bodyPost_ret (v := f.v) (by simp [results, Try.results45, go_sem, p0, p1, p2, p3]) rfl ?_
 exact ⟨f, rfl, ⟨x, 1, (HF.out.1.keep ((Ext.refl _).alloc _).ik).keep (IK.putF O2 f), by simp⟩, ext_putF (HF.out.2.alloc _) (by omega) f⟩
/-- A function that tells whether a number is not 0. -/
def NzF (K : FuncId) : Prop := ∀ (f : FV) (q : Rat) (w : World), IsQ w f q → Calls Try.prog K #[f.v] w fun e w' => (∃ b : Bool, e = .returned (.bool b) ∧ (b = true ↔ q ≠ 0)) ∧ Ext w w'
set_option maxHeartbeats 1000000 in
theorem nz_add : NzF 80 := by
 intro f q w h; have H := Lib.hid h; clear h; go_enter Try.func80, Try.ntmps80; go_wp2_with fail; refine (signQ_c f q _ (H.out.keep (by repeat (first | exact IK.refl _ | refine IK.alloc ?_ _ | refine IK.drew ?_ | refine IK.setCell ?_ (by simp [hc, go_sem]) _)))).mono ?_; rintro e w2 ⟨⟨s, rfl, hs⟩, hx⟩; have HS := Lib.hid hs; have HX := Lib.hid (show Ext w w2 from Ext.trans (by repeat (first | exact Ext.refl _ | assumption | refine Ext.setCell ?_ (by first | (simp; done) | (simp; omega) | omega) _ | refine Ext.alloc ?_ _ | refine Ext.drew ?_ | refine Ext.trans ?_ (by assumption))) hx); clear hs hx; go_wp2_with fail; go_ret; exact ⟨⟨_, rfl, by rw [bne_iff_ne]; exact not_congr HS.out⟩, HX.out⟩
set_option maxHeartbeats 1000000 in
theorem nz_det : NzF 65 := by
 intro f q w h; have H := Lib.hid h; clear h; go_enter Try.func65, Try.ntmps65; go_wp2_with fail; refine (signQ_c f q _ (H.out.keep (by repeat (first | exact IK.refl _ | refine IK.alloc ?_ _ | refine IK.drew ?_ | refine IK.setCell ?_ (by simp [hc, go_sem]) _)))).mono ?_; rintro e w2 ⟨⟨s, rfl, hs⟩, hx⟩; have HS := Lib.hid hs; have HX := Lib.hid (show Ext w w2 from Ext.trans (by repeat (first | exact Ext.refl _ | assumption | refine Ext.setCell ?_ (by first | (simp; done) | (simp; omega) | omega) _ | refine Ext.alloc ?_ _ | refine Ext.drew ?_ | refine Ext.trans ?_ (by assumption))) hx); clear hs hx; go_wp2_with fail; go_ret; exact ⟨⟨_, rfl, by rw [bne_iff_ne]; exact not_congr HS.out⟩, HX.out⟩
/-- The first place that is not 0, or -1. -/
def leadI (v : Vec) (n : Nat) : Int := match leadOf v 0 n with | none => -1 | some l => (l : Int)
theorem leadI_bd (v : Vec) (n : Nat) : -1 ≤ leadI v n ∧ leadI v n < n := by
 unfold leadI
 cases h : leadOf v 0 n with
 | none => simp only; omega
 | some l =>
  obtain ⟨_, b, _⟩ := leadOf_some _ _ _ _ h
  simp only; omega
theorem leadOf_step (v : Vec) : ∀ (k n i : Nat), (∀ c, i ≤ c → c < i + k → v c = 0) → leadOf v i (k + n) = leadOf v (i + k) n
 | 0, n, i, _ => by rw [Nat.zero_add]; rfl
 | k + 1, n, i, h => by
  rw [show k + 1 + n = (k + n) + 1 by omega]
  unfold leadOf
  rw [if_pos (h i (by omega) (by omega)), leadOf_step v k n (i + 1) (fun c h1 h2 => h c (by omega) (by omega)), show i + 1 + k = i + (k + 1) by omega]
  cases n <;> rfl
theorem leadI_none {v : Vec} {n : Nat} (h : ∀ c, c < n → v c = 0) : leadI v n = -1 := by
 unfold leadI
 rw [(leadOf_none v n 0).2 (fun c _ hc => h c (by omega))]
theorem leadI_some {v : Vec} {n i : Nat} (hi : i < n) (h : ∀ c, c < i → v c = 0) (h0 : v i ≠ 0) : leadI v n = (i : Int) := by
 unfold leadI
 have e := leadOf_step v i (n - i) 0 (fun c _ hc => h c (by omega))
 rw [show i + (n - i) = n by omega, Nat.zero_add, show n - i = (n - i - 1) + 1 by omega] at e
 rw [e]
 unfold leadOf
 rw [if_neg h0]
set_option maxRecDepth 100000 in
set_option maxHeartbeats 2000000 in
theorem index_add (b n : Nat) (v : Vec) (w : World) (h : VecAt w b n v) (hn : n ≤ 1000) :
  Calls Try.prog 60 #[.slice (some ⟨b, 0, none⟩) n n, .func (.func 80) #[] #[]] w fun e w' => e = .returned (.int .i64 (leadI v n)) ∧ Ext w w' := by
 obtain ⟨fs, h1, h2, h3⟩ := h
 have H := Lib.hid (And.intro h1 (And.intro h2 h3))
 have HK := Lib.hid nz_add
 clear h1 h2 h3
 go_enter Try.func60, Try.ntmps60
 go_wp2_with fail
 go_loopw [8] (fun iv ws => ∃ i : Nat, i ≤ n ∧ iv = .int .i64 (i : Int) ∧ (∀ c, c < i → v c = 0) ∧ Ext w ws) (fun iv _ => n - (intOf iv).toNat)
 case atStart => exact ⟨0, by omega, rfl, fun c hc => absurd hc (by omega), Ext.refl w⟩
 case round =>
  obtain ⟨i, hi, rfl, hz, hE⟩ := hrel
  have HZ := Lib.hid hz
  clear hz
  by_cases hlt : i < n
  ·obtain ⟨f, hf⟩ : ∃ f, fs[i]? = some f := ⟨_, List.getElem?_eq_getElem (by rw [H.out.2.1]; exact hlt)⟩
   obtain ⟨c0, c1, c2, c3⟩ := (H.out.1.ext hE).quad hf
   have HF := Lib.hid (H.out.2.2 i f hf)
   have HE := Lib.hid hE
   clear hf hE
   have i0 : (0 : Int) ≤ (i : Int) := by omega
   have i1 : (i : Int) < (n : Int) := by omega
   by_cases hv : v i = 0
   ·have HV := Lib.hid hv
    clear hv
    go_wp2_with fail
    refine (HK.out f (v i) _ (HF.out.keep HE.out.ik)).mono ?_
    rintro e w2 ⟨⟨q, rfl, hq⟩, hx⟩
    have hqf : q = false := by
     cases q
     ·rfl
     ·exact absurd HV.out (hq.1 rfl)
    subst hqf
    have HX := Lib.hid (HE.out.trans hx)
    clear c0 c1 c2 c3 hq hx
    go_wp2_with fail
    go_roundw
    case rel => exact ⟨i + 1, by omega, by go_num, fun c hc => by
     by_cases hci : c = i
     ·rw [hci]; exact HV.out
     ·exact HZ.out c (by omega), HX.out⟩
    case measure => simp [intOf]; omega
   ·have HV := Lib.hid hv
    clear hv
    go_wp2_with fail
    refine (HK.out f (v i) _ (HF.out.keep HE.out.ik)).mono ?_
    rintro e w2 ⟨⟨q, rfl, hq⟩, hx⟩
    have hqf : q = true := hq.2 HV.out
    subst hqf
    have HX := Lib.hid (HE.out.trans hx)
    clear c0 c1 c2 c3 hq hx
    have HL := Lib.hid (leadI_some hlt HZ.out HV.out)
    go_wp2_with fail
    go_ret
    exact ⟨by rw [HL.out]; rfl, HX.out⟩
  ·obtain rfl : i = n := by omega
   have HL := Lib.hid (leadI_none HZ.out)
   go_wp2_with fail
   go_ret
   exact ⟨by rw [HL.out]; rfl, hE⟩
set_option maxRecDepth 100000 in
set_option maxHeartbeats 2000000 in
theorem index_det (b n : Nat) (v : Vec) (w : World) (h : VecAt w b n v) (hn : n ≤ 1000) :
  Calls Try.prog 60 #[.slice (some ⟨b, 0, none⟩) n n, .func (.func 65) #[] #[]] w fun e w' => e = .returned (.int .i64 (leadI v n)) ∧ Ext w w' := by
 obtain ⟨fs, h1, h2, h3⟩ := h
 have H := Lib.hid (And.intro h1 (And.intro h2 h3))
 have HK := Lib.hid nz_det
 clear h1 h2 h3
 go_enter Try.func60, Try.ntmps60
 go_wp2_with fail
 go_loopw [8] (fun iv ws => ∃ i : Nat, i ≤ n ∧ iv = .int .i64 (i : Int) ∧ (∀ c, c < i → v c = 0) ∧ Ext w ws) (fun iv _ => n - (intOf iv).toNat)
 case atStart => exact ⟨0, by omega, rfl, fun c hc => absurd hc (by omega), Ext.refl w⟩
 case round =>
  obtain ⟨i, hi, rfl, hz, hE⟩ := hrel
  have HZ := Lib.hid hz
  clear hz
  by_cases hlt : i < n
  ·obtain ⟨f, hf⟩ : ∃ f, fs[i]? = some f := ⟨_, List.getElem?_eq_getElem (by rw [H.out.2.1]; exact hlt)⟩
   obtain ⟨c0, c1, c2, c3⟩ := (H.out.1.ext hE).quad hf
   have HF := Lib.hid (H.out.2.2 i f hf)
   have HE := Lib.hid hE
   clear hf hE
   have i0 : (0 : Int) ≤ (i : Int) := by omega
   have i1 : (i : Int) < (n : Int) := by omega
   by_cases hv : v i = 0
   ·have HV := Lib.hid hv
    clear hv
    go_wp2_with fail
    refine (HK.out f (v i) _ (HF.out.keep HE.out.ik)).mono ?_
    rintro e w2 ⟨⟨q, rfl, hq⟩, hx⟩
    have hqf : q = false := by
     cases q
     ·rfl
     ·exact absurd HV.out (hq.1 rfl)
    subst hqf
    have HX := Lib.hid (HE.out.trans hx)
    clear c0 c1 c2 c3 hq hx
    go_wp2_with fail
    go_roundw
    case rel => exact ⟨i + 1, by omega, by go_num, fun c hc => by
     by_cases hci : c = i
     ·rw [hci]; exact HV.out
     ·exact HZ.out c (by omega), HX.out⟩
    case measure => simp [intOf]; omega
   ·have HV := Lib.hid hv
    clear hv
    go_wp2_with fail
    refine (HK.out f (v i) _ (HF.out.keep HE.out.ik)).mono ?_
    rintro e w2 ⟨⟨q, rfl, hq⟩, hx⟩
    have hqf : q = true := hq.2 HV.out
    subst hqf
    have HX := Lib.hid (HE.out.trans hx)
    clear c0 c1 c2 c3 hq hx
    have HL := Lib.hid (leadI_some hlt HZ.out HV.out)
    go_wp2_with fail
    go_ret
    exact ⟨by rw [HL.out]; rfl, HX.out⟩
  ·obtain rfl : i = n := by omega
   have HL := Lib.hid (leadI_none HZ.out)
   go_wp2_with fail
   go_ret
   exact ⟨by rw [HL.out]; rfl, hE⟩
set_option maxRecDepth 100000 in
set_option maxHeartbeats 2000000 in
theorem contains_det (b n : Nat) (v : Vec) (w : World) (h : VecAt w b n v) (hn : n ≤ 1000) :
  Calls Try.prog 64 #[.slice (some ⟨b, 0, none⟩) n n, .func (.func 65) #[] #[]] w fun e w' => e = .returned (.bool (decide (0 ≤ leadI v n))) ∧ Ext w w' := by
 have H := Lib.hid h
 clear h
 go_enter Try.func64, Try.ntmps64
 go_wp2_with fail
 refine (index_det b n v _ H.out hn).mono ?_
 rintro e w2 ⟨rfl, hx⟩
 go_wp2_with fail
 go_ret
 exact ⟨rfl, hx⟩
end Go.Proofs.Ytkoidookanmknaa
