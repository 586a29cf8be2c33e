/- Rank: how great its numbers get. -/
import Derived.Test.YtkoidookanmknaaSV03
import Derived.Test.YtkoidookanmknaaSV40
import Derived.Test.YtkoidookanmknaaSLNi
import Derived.Lib.AppendZeros
import Derived.Test.YtkoidookanmknaaSV19
import Derived.BigQuiet
namespace Go.Proofs.Ytkoidookanmknaa
set_option linter.unusedSimpArgs false
set_option linter.unusedVariables false

def MI : Nat → Nat | 0 => 1 | 1 => 1 | 2 => 2 | 3 => 8 | 4 => 128 | 5 => 32768 | _ => 2147483648
def PB (c : Nat) (x : Int) : Prop := if c = 0 then x = 0 ∨ x = 1 else x.natAbs ≤ MI c
theorem PB.zero (c : Nat) : PB c 0 := by
 unfold PB
 split
 ·exact .inl rfl
 ·simp
theorem PB.le {c : Nat} {x : Int} (h : PB c x) (hc : c ≤ 6) : x.natAbs ≤ MI c := by
 unfold PB at h
 split at h
 ·rename_i e; subst e
  rcases h with rfl | rfl <;> simp [MI]
 ·exact h
theorem MI_le {c : Nat} (h : c ≤ 6) : MI c ≤ 2147483648 := by
 match c, h with
 | 0, _ => simp [MI]
 | 1, _ => simp [MI]
 | 2, _ => simp [MI]
 | 3, _ => simp [MI]
 | 4, _ => simp [MI]
 | 5, _ => simp [MI]
 | 6, _ => simp [MI]
theorem PB.big {c : Nat} {x : Int} (h : PB c x) (hc : c ≤ 6) : x.natAbs ≤ 2147483648 := Nat.le_trans (h.le hc) (MI_le hc)
theorem MI_up {c : Nat} (h : c < 6) : MI c ≤ MI (c + 1) := by
 match c, h with
 | 0, _ => simp [MI]
 | 1, _ => simp [MI]
 | 2, _ => simp [MI]
 | 3, _ => simp [MI]
 | 4, _ => simp [MI]
 | 5, _ => simp [MI]
theorem MI_sq {c : Nat} (h0 : 0 < c) (h : c < 6) : 2 * (MI c * MI c) ≤ MI (c + 1) := by
 match c, h0, h with
 | 1, _, _ => simp [MI]
 | 2, _, _ => simp [MI]
 | 3, _, _ => simp [MI]
 | 4, _, _ => simp [MI]
 | 5, _, _ => simp [MI]
theorem PB.up {c : Nat} {x : Int} (h : PB c x) (hc : c < 6) : PB (c + 1) x := by
 have := h.le (by omega)
 have := MI_up hc
 unfold PB
 rw [if_neg (by omega)]
 omega
theorem PB.step {c : Nat} {x f y l : Int} (hc : c < 6) (hx : PB c x) (hf : PB c f) (hy : PB c y) (hl : PB c l) : PB (c + 1) (x * f - y * l) := by
 by_cases h0 : c = 0
 ·subst h0
  unfold PB at *
  rw [if_pos rfl] at hx hf hy hl
  rw [if_neg (by omega)]
  rcases hx with rfl | rfl <;> rcases hf with rfl | rfl <;> rcases hy with rfl | rfl <;> rcases hl with rfl | rfl <;> simp [MI]
 ·have a1 := hx.le (by omega)
  have a2 := hf.le (by omega)
  have a3 := hy.le (by omega)
  have a4 := hl.le (by omega)
  have s := MI_sq (by omega) hc
  have m1 : (x * f).natAbs ≤ MI c * MI c := by rw [Int.natAbs_mul]; exact Nat.mul_le_mul a1 a2
  have m2 : (y * l).natAbs ≤ MI c * MI c := by rw [Int.natAbs_mul]; exact Nat.mul_le_mul a3 a4
  unfold PB
  rw [if_neg (by omega)]
  omega
theorem MI_lt {c : Nat} (h : c < 6) : MI c ≤ 32768 := by
 match c, h with
 | 0, _ => simp [MI]
 | 1, _ => simp [MI]
 | 2, _ => simp [MI]
 | 3, _ => simp [MI]
 | 4, _ => simp [MI]
 | 5, _ => simp [MI]
theorem PB.prod {c : Nat} {x f : Int} (hc : c < 6) (hx : PB c x) (hf : PB c f) : -1073741824 ≤ x * f ∧ x * f ≤ 1073741824 := by
 have a1 := Nat.le_trans (hx.le (by omega)) (MI_lt hc)
 have a2 := Nat.le_trans (hf.le (by omega)) (MI_lt hc)
 have m1 : (x * f).natAbs ≤ 32768 * 32768 := by rw [Int.natAbs_mul]; exact Nat.mul_le_mul a1 a2
 omega
theorem PB.quot {c : Nat} {x u g : Int} (h : PB (c + 1) x) (hg : 1 ≤ g) (e : u * g = x) : PB (c + 1) u := by
 unfold PB at *
 rw [if_neg (by omega)] at *
 rw [← e, Int.natAbs_mul] at h
 have h2 : 1 ≤ g.natAbs := by omega
 have h3 : u.natAbs * 1 ≤ u.natAbs * g.natAbs := Nat.mul_le_mul_left _ h2
 omega
/-- An entry. -/
def ent (L : List (List Int)) (j y : Nat) : Int := (L.getD j []).getD y 0
theorem ent_set {L : List (List Int)} {k : Nat} {l : List Int} (j y : Nat) (hk : k < L.length) : ent (L.set k l) j y = if k = j then l.getD y 0 else ent L j y := by
 unfold ent
 by_cases e : k = j
 ·subst e; rw [if_pos rfl]; simp [List.getD_eq_getElem?_getD, hk]
 ·rw [if_neg e]; simp [List.getD_eq_getElem?_getD, List.getElem?_set_ne e]
theorem get_of {L : List (List Int)} {j : Nat} (h : j < L.length) : L[j]? = some (L.getD j []) := by
 rw [List.getD_eq_getElem?_getD, List.getElem?_eq_getElem h]; rfl
structure RkP (S : Vec → Prop) (n c rk : Nat) (L : List (List Int)) : Prop where
 inv : EInv S n c rk L
 pb : ∀ j y, PB (min c 6) (ent L j y)
 z6 : ∀ j y, 6 ≤ y → ent L j y = 0
structure RkQ (S : Vec → Prop) (n c rk i : Nat) (f : List Int) (L : List (List Int)) : Prop where
 mid : EMid S n c rk i f L
 c6 : c < 6
 hi : ∀ j y, PB (c + 1) (ent L j y)
 lo : ∀ j y, i ≤ j → PB c (ent L j y)
 fst : ∀ y, PB c (f.getD y 0)
 z6 : ∀ j y, 6 ≤ y → ent L j y = 0
 f6 : ∀ y, 6 ≤ y → f.getD y 0 = 0
theorem RkP.start {n : Nat} {L : List (List Int)} (h : ∀ l, l ∈ L → l.length = n) (h01 : ∀ l, l ∈ L → ∀ x, x ∈ l → x = 0 ∨ x = 1) (h6 : ∀ j y, 6 ≤ y → ent L j y = 0) : RkP (InL L) n 0 0 L :=
 ⟨EInv.start h, fun j y => by
  unfold ent PB
  rw [if_pos (show min 0 6 = 0 by omega)]
  by_cases hj : j < L.length
  ·rw [List.getD_eq_getElem?_getD (l := L), List.getElem?_eq_getElem hj]
   by_cases hy : y < L[j].length
   ·simp only [Option.getD_some]
    rw [List.getD_eq_getElem?_getD, List.getElem?_eq_getElem hy]
    exact h01 _ (List.getElem_mem hj) _ (List.getElem_mem hy)
   ·simp only [Option.getD_some]
    rw [List.getD_eq_getElem?_getD, List.getElem?_eq_none (by omega)]
    exact .inl rfl
  ·rw [List.getD_eq_getElem?_getD (l := L), List.getElem?_eq_none (by omega)]
   exact .inl (by simp), h6⟩
theorem RkP.skip {S : Vec → Prop} {n c rk : Nat} {L : List (List Int)} (h : RkP S n c rk L) (h0 : ∀ j, rk ≤ j → j < L.length → ent L j c = 0) : RkP S n (c + 1) rk L :=
 ⟨h.inv.skip fun i l hi hr => by
  have hlt : i < L.length := by
   rcases Nat.lt_or_ge i L.length with h1 | h1
   ·exact h1
   ·rw [List.getElem?_eq_none h1] at hi; cases hi
  have := h0 i hr hlt
  unfold ent at this
  rw [List.getD_eq_getElem?_getD (l := L), hi] at this
  exact this, fun j y => by
  have := h.pb j y
  by_cases hc : c < 6
  ·rw [show min c 6 = c by omega] at this
   rw [show min (c + 1) 6 = c + 1 by omega]
   exact this.up hc
  ·rw [show min c 6 = 6 by omega] at this
   rwa [show min (c + 1) 6 = 6 by omega], h.z6⟩
theorem RkQ.step {S : Vec → Prop} {n c rk i : Nat} {f u : List Int} {g : Int} {L : List (List Int)} (h : RkQ S n c rk i f L) (hi : i < L.length) (hu : u.length = n) (hg : 1 ≤ g) (hn : c < n)
  (he : ∀ j, j < n → u.getD j 0 * g = ent L i j * f.getD c 0 - f.getD j 0 * ent L i c) : RkQ S n c rk (i + 1) f (L.set i u) := by
 have hub : ∀ y, PB (c + 1) (u.getD y 0) := fun y => by
  by_cases hy : y < n
  ·exact PB.quot (PB.step h.c6 (h.lo i y (Nat.le_refl _)) (h.fst c) (h.fst y) (h.lo i c (Nat.le_refl _))) hg (he y hy)
  ·rw [List.getD_eq_getElem?_getD, List.getElem?_eq_none (by omega)]; exact PB.zero _
 refine ⟨h.mid.step (get_of hi) hu (by omega) hn he, h.c6, fun j y => ?_, fun j y hj => ?_, h.fst, fun j y hy => ?_, h.f6⟩
 ·rw [ent_set _ _ hi]
  split
  ·exact hub y
  ·exact h.hi j y
 ·rw [ent_set _ _ hi, if_neg (by omega)]
  exact h.lo j y (by omega)
 ·rw [ent_set _ _ hi]
  split
  ·by_cases hy' : y < n
   ·have e := he y hy'
    rw [h.z6 i y hy, h.f6 y hy, Int.zero_mul, Int.zero_mul, Int.sub_self] at e
    rcases Int.mul_eq_zero.1 e with e | e
    ·exact e
    ·omega
   ·rw [List.getD_eq_getElem?_getD, List.getElem?_eq_none (by omega)]; rfl
  ·exact h.z6 j y hy
theorem RkQ.done {S : Vec → Prop} {n c rk i : Nat} {f : List Int} {L : List (List Int)} (h : RkQ S n c rk i f L) (hi : i = L.length) : RkP S n (c + 1) (rk + 1) L := by
 subst hi
 refine ⟨h.mid.done, fun j y => ?_, h.z6⟩
 have := h.c6
 rw [show min (c + 1) 6 = c + 1 by omega]
 exact h.hi j y
/- meresmanref30: Rank. -/
open Go.RowKit

/-- The list of Rank: a block of slices, and the rows they stand for. -/
structure RkI (w W : World) (lb m n : Nat) (gs : List Sl) (L : List (List Int)) : Prop where
 ext : Ext w W
 ge : w.heap.size ≤ lb
 ni : NI W lb
 gl : gs.length = m
 Ll : L.length = m
 cells : ∃ cur, Blk W lb cur 22 ∧ ∀ i, i < m → cur[i]? = some (gs.getD i sl0).v
 rows : ∀ i, i < m → (gs.getD i sl0).n = n ∧ Ints W (gs.getD i sl0).a n (L.getD i [])
theorem RkI.lt {w W : World} {lb m n : Nat} {gs : List Sl} {L : List (List Int)} (h : RkI w W lb m n gs L) : lb < W.heap.size := by
 obtain ⟨cur, h1, _⟩ := h.cells
 exact h1.lt
theorem RkI.keep {w W W' : World} {lb m n : Nat} {gs : List Sl} {L : List (List Int)} (h : RkI w W lb m n gs L) (k : Ext W W') : RkI w W' lb m n gs L :=
 ⟨h.ext.trans k, h.ge, h.ni.ext k h.lt, h.gl, h.Ll, by obtain ⟨cur, h1, h2⟩ := h.cells; exact ⟨cur, h1.ext k, h2⟩, fun i hi => ⟨(h.rows i hi).1, (h.rows i hi).2.keep k.ik⟩⟩
theorem RkI.at {w W : World} {lb m n : Nat} {gs : List Sl} {L : List (List Int)} (h : RkI w W lb m n gs L) {i : Nat} (hi : i < m) : W.cell? ⟨lb, i, none⟩ = some (gs.getD i sl0).v := by
 obtain ⟨cur, h1, h2⟩ := h.cells
 rw [h1.cell]; exact h2 i hi
theorem RkI.free {w W : World} {lb m n : Nat} {gs : List Sl} {L : List (List Int)} (h : RkI w W lb m n gs L) (o : Nat) : W.frozen? ⟨lb, o, none⟩ = false := by
 obtain ⟨cur, h1, _⟩ := h.cells
 exact h1.free o
theorem ni_ik {w W : World} {lb o : Nat} {u : Value} (h : NI W lb) (k : IK w W) : IK w (W.setCell ⟨lb, o, none⟩ u) := k.setCell (fun x y => h o x y) u
theorem gsl_set {gs : List Sl} {k j : Nat} {s : Sl} (hk : k < gs.length) : (gs.set k s).getD j sl0 = if k = j then s else gs.getD j sl0 := by
 by_cases e : k = j
 ·subst e; rw [if_pos rfl]; simp [List.getD_eq_getElem?_getD, hk]
 ·rw [if_neg e]; simp [List.getD_eq_getElem?_getD, List.getElem?_set_ne e]
theorem lis_set {L : List (List Int)} {k j : Nat} {s : List Int} (hk : k < L.length) : (L.set k s).getD j [] = if k = j then s else L.getD j [] := by
 by_cases e : k = j
 ·subst e; rw [if_pos rfl]; simp [List.getD_eq_getElem?_getD, hk]
 ·rw [if_neg e]; simp [List.getD_eq_getElem?_getD, List.getElem?_set_ne e]
theorem RkI.put {w W : World} {lb m n k : Nat} {gs : List Sl} {L : List (List Int)} {s : Sl} {l : List Int} (h : RkI w W lb m n gs L) (hk : k < m) (hn : s.n = n) (hl : Ints W s.a n l) :
  RkI w (W.setCell ⟨lb, k, none⟩ s.v) lb m n (gs.set k s) (L.set k l) ∧ IK W (W.setCell ⟨lb, k, none⟩ s.v) := by
 have hik := ni_ik (o := k) (u := s.v) h.ni (IK.refl W)
 have hg := h.gl
 have hL := h.Ll
 obtain ⟨cur, h1, h2⟩ := h.cells
 refine ⟨⟨h.ext.setCell h.ge _, h.ge, fun o x y => own3_set (h.ni) (fun x y e => by cases e) o x y, by simp [hg], by simp [hL], ⟨_, h1.set k _, fun i hi => ?_⟩, fun i hi => ?_⟩, hik⟩
 ·rw [gsl_set (by omega)]
  by_cases e : k = i
  ·subst e
   rw [if_pos rfl, Array.getElem?_setIfInBounds_self]
   have := h2 k hk
   rw [Array.getElem?_eq_some_iff] at this
   obtain ⟨hs, _⟩ := this
   simp [hs]
  ·rw [if_neg e, Array.getElem?_setIfInBounds_ne e]; exact h2 i hi
 ·rw [gsl_set (by omega), lis_set (by omega)]
  by_cases e : k = i
  ·rw [if_pos e, if_pos e]; exact ⟨hn, hl.keep hik⟩
  ·rw [if_neg e, if_neg e]; exact ⟨(h.rows i hi).1, (h.rows i hi).2.keep hik⟩
/-- The row that takes the place of l. -/
def stepL (f l : List Int) (c j : Nat) : List Int := (List.range j).map fun y => l.getD y 0 * f.getD c 0 - f.getD y 0 * l.getD c 0
/-- What an append of the rows leaves. -/
theorem RkI.start {w W : World} {base g m n cap : Nat} {gs : List Sl} {L : List (List Int)} {ga : Option Addr} (hE : Ext w W) (hb : w.heap.size ≤ base) (hG : Grps W ga m gs L) (hn : ∀ i, i < m → (gs.getD i sl0).n = n) (hni : NI W g) (h : W.ownsRow base 22 1 (.slice (some ⟨g, 0, none⟩) m cap) m (gs.map Sl.v)) : RkI w W g m n gs L := by
 obtain ⟨_, ⟨hv, _⟩ | ⟨g', cap', cur, hv, hbg, hh, hle, _, _, htk⟩⟩ := h
 ·simp at hv
 ·simp at hv
  obtain ⟨rfl, rfl⟩ := hv
  refine ⟨hE, by omega, hni, hG.1, hG.2.1, ⟨cur, hh, fun i hi => ?_⟩, fun i hi => ⟨hn i hi, by have := hG.2.2.2.2 i hi; rwa [hn i hi] at this⟩⟩
  have p1 : (gs.map Sl.v)[i]? = some (gs.getD i sl0).v := by
   have : i < gs.length := by rw [hG.1]; exact hi
   simp [this]
  rw [← htk, List.getElem?_take_of_lt (by omega)] at p1
  simpa using p1
/- meresmanref30: Rank, the walk. -/
open Go.RowKit

/- meresmanref30: determined. -/
open Go.RowKit

/-- A list of rows of the call's own. -/
structure Rws (W : World) (base n : Nat) (v : Value) (rs : List Sl) (Rs : List (List Int)) : Prop where
 own : W.ownsRow base 22 1 v Rs.length (rs.map Sl.v)
 ni : NIv W v
 len : rs.length = Rs.length
 rows : ∀ i, i < Rs.length → (rs.getD i sl0).n = n ∧ Ints W (rs.getD i sl0).a n (Rs.getD i [])
theorem Rws.nil (W : World) (base n : Nat) : Rws W base n (.slice none 0 0) [] [] := ⟨⟨rfl, .inl ⟨rfl, rfl⟩⟩, NIv.nil W, rfl, fun i hi => absurd hi (by simp)⟩
theorem Rws.ext {W W' : World} {base n : Nat} {v : Value} {rs : List Sl} {Rs : List (List Int)} (h : Rws W base n v rs Rs) (k : Ext W W') : Rws W' base n v rs Rs :=
 ⟨owns_ext k h.own, h.ni.ext k h.own, h.len, fun i hi => ⟨(h.rows i hi).1, (h.rows i hi).2.keep k.ik⟩⟩
theorem Rws.add {W W' : World} {base n g cap rc : Nat} {v : Value} {rs : List Sl} {Rs : List (List Int)} {ra : Option Addr} {R : List Int} (h : Rws W base n v rs Rs) (hR : Ints W ra n R)
  (hown : W'.ownsRow base 22 1 (.slice (some ⟨g, 0, none⟩) (Rs.length + 1) cap) (Rs.length + 1) (rs.map Sl.v ++ [.slice ra n rc])) (hik : IK W W') (hni : NI W' g) :
  Rws W' base n (.slice (some ⟨g, 0, none⟩) (Rs.length + 1) cap) (rs ++ [⟨ra, n, rc⟩]) (Rs ++ [R]) := by
 refine ⟨by simpa using hown, fun g' hg => by simp [Value.ownBlock] at hg; subst hg; exact hni, by simp [h.len], fun i hi => ?_⟩
 by_cases hi' : i < Rs.length
 ·rw [getD_app (by rw [h.len]; exact hi'), getD_app hi']
  exact ⟨(h.rows i hi').1, (h.rows i hi').2.keep hik⟩
 ·have : i = Rs.length := by simp at hi; omega
  rw [getD_last (by rw [h.len]; exact this), getD_last this]
  exact ⟨rfl, hR.keep hik⟩
theorem Rws.grps {W : World} {base n : Nat} {v : Value} {rs : List Sl} {Rs : List (List Int)} (h : Rws W base n v rs Rs) (hl : Rs.length ≤ 1000) : ∃ a c, v = .slice a Rs.length c ∧ Grps W a Rs.length rs Rs := by
 have hrow : ∀ i, i < Rs.length → Ints W (rs.getD i sl0).a (rs.getD i sl0).n (Rs.getD i []) := fun i hi => by rw [(h.rows i hi).1]; exact (h.rows i hi).2
 obtain ⟨h0, ⟨hv, hn⟩ | ⟨g, cap, cur, hv, hb, hh, hle, _, _, htk⟩⟩ := h.own
 ·exact ⟨none, 0, by rw [hv, hn], h.len, rfl, by omega, .inl hn, hrow⟩
 ·refine ⟨some ⟨g, 0, none⟩, cap, hv, h.len, rfl, by omega, .inr ⟨g, 0, rfl, lt_of_block hh, fun i hi => ?_⟩, hrow⟩
  have p1 : (rs.map Sl.v)[i]? = some (rs.getD i sl0).v := by
   have : i < rs.length := by rw [h.len]; exact hi
   simp [this]
  rw [← htk, List.getElem?_take_of_lt (by omega)] at p1
  simp [World.cell?, hh]; simpa using p1
/-- The rows of the published ones of the first i sets. -/
def pubR (n : Nat) (Ls : List (List Int)) (hs : List Bool) : Nat → List (List Int)
 | 0 => []
 | i + 1 => if hs.getD i false = false then pubR n Ls hs i ++ [rowI n (Ls.getD i [])] else pubR n Ls hs i
/- meresmanref30: Valid, check, Determined. -/
open Go.RowKit

set_option maxRecDepth 100000 in
set_option maxHeartbeats 8000000 in
theorem rvalid_c (n : Int) (ss vs : Sl) (gs : List Sl) (Ls : List (List Int)) (zs : List Int) (w : World) (h : ShIn w n ss vs gs Ls zs) :
  Calls Try.prog 14 #[.agg #[.int .i64 n, ss.v, vs.v]] w fun e w' => e = .returned (.int .i64 (validE n Ls zs)) ∧ Ext w w' := by
 obtain ⟨sa, sn, sc⟩ := ss
 obtain ⟨va, vn, vc⟩ := vs
 have hsn := h.grps.2.1
 have hvn := h.vals.1
 have hs1 := h.grps.2.2.1
 have hv1 := h.vals.2.1
 simp only at hsn hvn hs1 hv1
 have H := Lib.hid h
 have HL := Lib.hid (And.intro hsn hvn)
 simp only [Sl.v]
 obtain ⟨B, hB⟩ : ∃ B, w.heap.size = B := ⟨_, rfl⟩
 have start : ∀ W, Ext w W → True := fun _ _ => trivial
 clear h start
 by_cases c1 : 32 < n
 ·have HV := Lib.hid (show validE n Ls zs = 4 by unfold validE; rw [if_pos (.inl c1)])
  clear hsn hvn
  go_enter Try.func14, Try.ntmps14
  go_wp2_with fail
  go_ret
  exact ⟨by rw [HV.out]; rfl, (by repeat (first | exact Ext.refl _ | assumption | refine Ext.setCell ?_ (by first | (simp; done) | (simp; omega) | omega) _ | refine Ext.alloc ?_ _ | refine Ext.drew ?_ | refine Ext.trans ?_ (by assumption)))⟩
 by_cases c2 : 128 < sn
 ·have HV := Lib.hid (show validE n Ls zs = 4 by unfold validE; rw [if_pos (.inr (by omega))])
  have c2' : (128 : Int) < (sn : Int) := by omega
  clear hsn hvn
  go_enter Try.func14, Try.ntmps14
  go_wp2_with fail
  go_ret
  exact ⟨by rw [HV.out]; rfl, (by repeat (first | exact Ext.refl _ | assumption | refine Ext.setCell ?_ (by first | (simp; done) | (simp; omega) | omega) _ | refine Ext.alloc ?_ _ | refine Ext.drew ?_ | refine Ext.trans ?_ (by assumption)))⟩
 by_cases c3 : n < 0
 ·have HV := Lib.hid (show validE n Ls zs = 1 by unfold validE; rw [if_neg (by omega), if_pos (.inl c3)])
  have c2' : ¬ (128 : Int) < (sn : Int) := by omega
  clear hsn hvn
  go_enter Try.func14, Try.ntmps14
  go_wp2_with fail
  go_ret
  exact ⟨by rw [HV.out]; rfl, (by repeat (first | exact Ext.refl _ | assumption | refine Ext.setCell ?_ (by first | (simp; done) | (simp; omega) | omega) _ | refine Ext.alloc ?_ _ | refine Ext.drew ?_ | refine Ext.trans ?_ (by assumption)))⟩
 have HC1 := Lib.hid (And.intro c1 c3)
 by_cases c4 : vn = sn
 ·subst c4
  have c2' : ¬ (128 : Int) < (vn : Int) := by omega
  go_enter Try.func14, Try.ntmps14
  go_upto_region 5 with (fail)
  refine wp_gen (fun W => Ext w W ∧ Blk W B #[.int .i64 n, .slice sa vn sc, .slice va vn vc] 25) ⟨(by repeat (first | exact Ext.refl _ | assumption | refine Ext.setCell ?_ (by first | (simp; done) | (simp; omega) | omega) _ | refine Ext.alloc ?_ _ | refine Ext.drew ?_ | refine Ext.trans ?_ (by assumption))), Blk.at _ 25 hB.symm⟩ ?_
  rintro V ⟨E0, B0⟩
  have HB := Lib.hid B0
  have HC := Lib.hid (And.intro (show ¬ 128 < Ls.length by omega) (And.intro (show zs.length = Ls.length by omega) (show Ls.length = vn by omega)))
  have HE := Lib.hid E0
  have x1 : V.cell? ⟨B, 1, none⟩ = some (.slice sa vn sc) := B0.cell 1
  clear hsn hvn E0 B0
  go_upto_region 6 with (fail)
  clear x1
  go_loopw [3] (fun iv ws => ∃ i : Nat, i ≤ vn ∧ iv = .int .i64 (i : Int) ∧ (∀ j, j < i → itemBad n Ls zs j = false) ∧ Ext V ws) (fun iv _ => vn - (intOf iv).toNat)
  case atStart => exact ⟨0, by omega, rfl, fun j hj => absurd hj (by omega), Ext.refl V⟩
  case round =>
   obtain ⟨i, hi, rfl, hz, hE⟩ := hrel
   have HZ := Lib.hid hz
   clear hz
   have y1 : wr.cell? ⟨B, 1, none⟩ = some (.slice sa vn sc) := (HB.out.ext hE).cell 1
   by_cases hlt : i < vn
   ·have hEw := HE.out.trans hE
    obtain ⟨gb, go, rfl, hgb, hgc⟩ := (H.out.grps.ext hEw).at i hlt
    obtain ⟨vb, vo, rfl, hvb, hvc⟩ := (H.out.vals.keep hEw.ik).at i hlt
    have HI := Lib.hid (H.out.grps.2.2.2.2 i hlt)
    have hln := (H.out.grps.2.2.2.2 i hlt).1
    have hlm := H.out.len i
    generalize hsg : gs.getD i sl0 = sg at HI hgc hln
    obtain ⟨ga, gn, gc⟩ := sg
    simp only at HI hgc hln
    simp only [Sl.v] at hgc
    have hBr := HB.out.ext hE
    have y0 : wr.cell? ⟨B, 0, none⟩ = some (.int .i64 n) := hBr.cell 0
    have y2 : wr.cell? ⟨B, 2, none⟩ = some (.slice (some ⟨vb, vo, none⟩) vn vc) := hBr.cell 2
    have HEw := Lib.hid hEw
    have HER := Lib.hid hE
    have i0 : (0 : Int) ≤ (i : Int) := by omega
    have i1 : (i : Int) < (vn : Int) := by omega
    clear hEw hE hBr hsg
    by_cases d1 : gn = 0
    ·have HV := Lib.hid (validE_bad (n := n) (zs := zs) (by have := HC1.out.1; omega) HC.out.1 (by rw [HC.out.2.2]; exact hlt) (show itemBad n Ls zs i = true by
      unfold itemBad
      rw [List.isEmpty_iff.2 (List.eq_nil_of_length_eq_zero (by omega))]; rfl))
     have d1' : ((gn : Int) == 0) = true := by rw [d1]; rfl
     clear hln hlm d1
     go_wp2_with fail
     go_ret
     exact ⟨by rw [HV.out]; rfl, HEw.out⟩
    have d1' : ((gn : Int) == 0) = false := by rw [beq_eq_false_iff_ne]; omega
    obtain ⟨z, hzz⟩ : ∃ z, zs.getD i 0 = z := ⟨_, rfl⟩
    rw [hzz] at hvc
    have HZZ := Lib.hid hzz
    clear hzz
    by_cases d2 : z < 0
    ·have HV := Lib.hid (validE_bad (n := n) (zs := zs) (by have := HC1.out.1; omega) HC.out.1 (by rw [HC.out.2.2]; exact hlt) (show itemBad n Ls zs i = true by
      unfold itemBad
      rw [HZZ.out, decide_eq_true d2]; simp))
     clear hln hlm d1
     go_wp2_with fail
     go_ret
     exact ⟨by rw [HV.out]; rfl, HEw.out⟩
    by_cases d3 : 1099511627776 < z
    ·have HV := Lib.hid (validE_bad (n := n) (zs := zs) (by have := HC1.out.1; omega) HC.out.1 (by rw [HC.out.2.2]; exact hlt) (show itemBad n Ls zs i = true by
      unfold itemBad
      rw [HZZ.out, decide_eq_true d3]; simp))
     clear hln hlm d1
     go_wp2_with fail
     go_ret
     exact ⟨by rw [HV.out]; rfl, HEw.out⟩
    obtain ⟨l, hl⟩ : ∃ l, Ls.getD i [] = l := ⟨_, rfl⟩
    rw [hl] at HI hln hlm
    have HLL := Lib.hid hl
    clear hl
    have glm : (gn : Int) ≤ 1000 := by omega
    have HD := Lib.hid (And.intro hln (And.intro d1 (And.intro d2 d3)))
    clear hln d1
    go_upto_region 12 with (fail)
    clear hgc hvc y0 y2 d1' d2 d3
    obtain ⟨wo, hwo⟩ : ∃ wo : World, wo = wr := ⟨_, rfl⟩
    subst hwo
    go_loopw [5] (fun kv ws => ∃ k : Nat, k ≤ gn ∧ kv = .int .i64 (k : Int) ∧ (∀ j, j < k → badC n l j = false) ∧ Ext wo ws) (fun kv _ => gn - (intOf kv).toNat)
    case atStart => exact ⟨0, by omega, rfl, fun j hj => absurd hj (by omega), Ext.refl wo⟩
    case round =>
     obtain ⟨k, hk, rfl, hz, hE⟩ := hrel
     have HZK := Lib.hid hz
     clear hz
     by_cases hlk : k < gn
     ·have hEw := HEw.out.trans hE
      have hin := HI.out.keep hEw.ik
      obtain ⟨lb, lo, rfl, hlb, hlc⟩ := hin.at k hlk
      have y0 : wr.cell? ⟨B, 0, none⟩ = some (.int .i64 n) := (HB.out.ext (HER.out.trans hE)).cell 0
      have HE2 := Lib.hid hE
      have HEw2 := Lib.hid hEw
      have HIN := Lib.hid hin
      have k0 : (0 : Int) ≤ (k : Int) := by omega
      have k1 : (k : Int) < (gn : Int) := by omega
      obtain ⟨c, hcc⟩ : ∃ c, l.getD k 0 = c := ⟨_, rfl⟩
      rw [hcc] at hlc
      have HCC := Lib.hid hcc
      clear hE hEw hin hcc
      by_cases f1 : c < 0
      ·have fd1 : decide (c < 0) = true := decide_eq_true f1
       have HV := Lib.hid (validE_bad (n := n) (zs := zs) (by have := HC1.out.1; omega) HC.out.1 (by rw [HC.out.2.2]; exact hlt) (itemBad_cell (zs := zs) (k := k) (by rw [HLL.out, HD.out.1]; exact hlk) (by rw [HLL.out]; exact badC_neg (by rw [HCC.out]; omega))))
       go_upto_region 14 with (fail)
       go_quiet (fail)
       go_wp2_with fail
       go_ret
       exact ⟨by rw [HV.out]; rfl, HEw2.out.drewN nq⟩
      have fd1 : decide (c < 0) = false := decide_eq_false f1
      by_cases f2 : n ≤ c
      ·have fd2 : decide (n ≤ c) = true := decide_eq_true f2
       have HV := Lib.hid (validE_bad (n := n) (zs := zs) (by have := HC1.out.1; omega) HC.out.1 (by rw [HC.out.2.2]; exact hlt) (itemBad_cell (zs := zs) (k := k) (by rw [HLL.out, HD.out.1]; exact hlk) (by rw [HLL.out]; exact badC_ge (by rw [HCC.out]; omega))))
       go_upto_region 14 with (fail)
       go_quiet (fail)
       go_wp2_with fail
       go_ret
       exact ⟨by rw [HV.out]; rfl, HEw2.out.drewN nq⟩
      have fd2 : decide (n ≤ c) = false := decide_eq_false f2
      by_cases f3 : 0 < k
      ·obtain ⟨j, hj⟩ : ∃ j : Nat, (k : Int) - 1 = (j : Int) := ⟨k - 1, by omega⟩
       have hjk : j = k - 1 := by omega
       obtain ⟨lb', lo', e1, _, hld⟩ := HIN.out.at j (by omega)
       injection e1 with e1
       injection e1 with e1 e2
       subst e1; subst e2
       obtain ⟨d, hdd⟩ : ∃ d, l.getD j 0 = d := ⟨_, rfl⟩
       rw [hdd] at hld
       have HDD := Lib.hid hdd
       have HJK := Lib.hid hjk
       have f3' : decide ((0 : Int) < (k : Int)) = true := decide_eq_true (by omega)
       have j0 : (0 : Int) ≤ (j : Int) := by omega
       have j1 : (j : Int) < (gn : Int) := by omega
       clear hdd hjk
       by_cases f4 : c ≤ d
       ·have f5 : decide (c ≤ d) = true := decide_eq_true f4
        have HV := Lib.hid (validE_bad (n := n) (zs := zs) (by have := HC1.out.1; omega) HC.out.1 (by rw [HC.out.2.2]; exact hlt) (itemBad_cell (zs := zs) (k := k) (by rw [HLL.out, HD.out.1]; exact hlk) (by rw [HLL.out]; exact badC_le f3 (by rw [HCC.out, ← HJK.out, HDD.out]; omega))))
        go_upto_region 14 with (fail)
        go_quiet (fail)
        go_wp2_with fail
        go_ret
        exact ⟨by rw [HV.out]; rfl, HEw2.out.drewN nq⟩
       ·have HN := Lib.hid (badC_no (n := n) (l := l) (k := k) (by rw [HCC.out]; omega) (by rw [HCC.out]; omega) (fun _ => by rw [HCC.out, ← HJK.out, HDD.out]; omega))
        have f5 : decide (c ≤ d) = false := by rw [decide_eq_false_iff_not]; omega
        clear f4
        go_upto_region 14 with (fail)
        go_quiet (fail)
        go_wp2_with fail
        go_roundw
        case rel => exact ⟨k + 1, by omega, by go_num, fun j hj => by
         by_cases e : j = k
         ·rw [e]; exact HN.out
         ·exact HZK.out j (by omega), HE2.out.drewN nq⟩
        case measure => simp [intOf]; omega
      ·have HN := Lib.hid (badC_no (n := n) (l := l) (k := k) (by rw [HCC.out]; omega) (by rw [HCC.out]; omega) (fun h => absurd h (by omega)))
       have f3' : decide ((0 : Int) < (k : Int)) = false := decide_eq_false (by omega)
       go_upto_region 14 with (fail)
       go_quiet (fail)
       go_wp2_with fail
       go_roundw
       case rel => exact ⟨k + 1, by omega, by go_num, fun j hj => by
        by_cases e : j = k
        ·rw [e]; exact HN.out
        ·exact HZK.out j (by omega), HE2.out.drewN nq⟩
       case measure => simp [intOf]; omega
     ·obtain rfl : gn = k := by omega
      have HN := Lib.hid (itemBad_no (n := n) (Ls := Ls) (zs := zs) (i := i) (by rw [HLL.out, HD.out.1]; exact HD.out.2.1) (by rw [HZZ.out]; have := HD.out.2.2.1; omega) (by rw [HZZ.out]; have := HD.out.2.2.2; omega) (fun k hk => by rw [HLL.out, HD.out.1] at hk; rw [HLL.out]; exact HZK.out k hk))
      have HEF := Lib.hid (HER.out.trans hE)
      clear hE
      go_wp2_with fail
      go_roundw
      case rel => exact ⟨i + 1, by omega, by go_num, fun j hj => by
       by_cases e : j = i
       ·rw [e]; exact HN.out
       ·exact HZ.out j (by omega), HEF.out⟩
      case measure => simp [intOf]; omega
   ·obtain rfl : vn = i := by omega
    have HV := Lib.hid (validE_ok (n := n) (by have := HC1.out.1; omega) HC.out.1 (by have := HC1.out.2; omega) HC.out.2.1 (fun j hj => HZ.out j (by rw [HC.out.2.2] at hj; exact hj)))
    go_wp2_with fail
    go_ret
    exact ⟨by rw [HV.out]; rfl, HE.out.trans hE⟩
 ·have HV := Lib.hid (show validE n Ls zs = 1 by unfold validE; rw [if_neg (by omega), if_pos (.inr (by omega))])
  have c2' : ¬ (128 : Int) < (sn : Int) := by omega
  have c4' : ((vn : Int) == (sn : Int)) = false := by rw [beq_eq_false_iff_ne]; omega
  clear hsn hvn c4
  go_enter Try.func14, Try.ntmps14
  go_wp2_with fail
  go_ret
  exact ⟨by rw [HV.out]; rfl, (by repeat (first | exact Ext.refl _ | assumption | refine Ext.setCell ?_ (by first | (simp; done) | (simp; omega) | omega) _ | refine Ext.alloc ?_ _ | refine Ext.drew ?_ | refine Ext.trans ?_ (by assumption)))⟩
set_option maxRecDepth 100000 in
set_option maxHeartbeats 4000000 in
theorem rcheck_c (n : Int) (ss vs : Sl) (gs : List Sl) (Ls : List (List Int)) (zs : List Int) (ha : Option Addr) (m hc : Nat) (set : Int) (w : World) (h : ShIn w n ss vs gs Ls zs) (hm : m ≤ 1000000) :
  Calls Try.prog 37 #[.agg #[.int .i64 n, ss.v, vs.v], .slice ha m hc, .int .i64 set] w fun e w' => e = .returned (.int .i64 (checkE n Ls zs m set)) ∧ Ext w w' := by
 have H := Lib.hid h
 have hsn := h.grps.2.1
 have hs1 := h.grps.2.2.1
 clear h
 obtain ⟨v, hv⟩ : ∃ v, validE n Ls zs = v := ⟨_, rfl⟩
 have hC : checkE n Ls zs m set = if v ≠ 0 then v else if m ≠ ss.n then 1 else if set < 0 ∨ (ss.n : Int) ≤ set then 7 else 0 := by unfold checkE; rw [hv, hsn]
 have HC := Lib.hid hC
 have HV := Lib.hid hv
 obtain ⟨sa, sn, sc⟩ := ss
 obtain ⟨va, vn, vc⟩ := vs
 simp only at HC hs1
 simp only [Sl.v]
 obtain ⟨B, hB⟩ : ∃ B, w.heap.size = B := ⟨_, rfl⟩
 clear hC hv hsn
 by_cases c1 : v = 0
 ·by_cases c2 : m = sn
  ·obtain rfl := c2.symm
   by_cases c3 : set < 0
   ·have HR := Lib.hid (show checkE n Ls zs sn set = 7 by rw [HC.out, if_neg (by omega), if_neg (by omega), if_pos (.inl c3)])
    subst c1
    go_enter Try.func37, Try.ntmps37; go_upto_region 1 with (fail); refine wp_gen (fun W => Ext w W ∧ Blk W B #[.int .i64 n, .slice sa sn sc, .slice va vn vc] 25) ⟨(by repeat (first | exact Ext.refl _ | assumption | refine Ext.setCell ?_ (by first | (simp; done) | (simp; omega) | omega) _ | refine Ext.alloc ?_ _ | refine Ext.drew ?_ | refine Ext.trans ?_ (by assumption))), Blk.at _ 25 hB.symm⟩ ?_; rintro V ⟨E0, B0⟩; have HB := Lib.hid (And.intro E0 B0); have x0 : V.cell? ⟨B, 0, none⟩ = some (.int .i64 n) := B0.cell 0; have x1 : V.cell? ⟨B, 1, none⟩ = some (.slice sa sn sc) := B0.cell 1; have x2 : V.cell? ⟨B, 2, none⟩ = some (.slice va vn vc) := B0.cell 2; clear E0 B0; go_wp2_with fail; refine (rvalid_c n ⟨sa, sn, sc⟩ ⟨va, vn, vc⟩ gs Ls zs _ (H.out.ext HB.out.1)).mono ?_; rw [HV.out]; rintro e w2 ⟨rfl, hx2⟩; have HX := Lib.hid (HB.out.1.trans hx2); have y1 : w2.cell? ⟨B, 1, none⟩ = some (.slice sa sn sc) := hx2.cell x1; clear x0 x1 x2 hx2; go_wp2_with fail; go_ret
    exact ⟨by rw [HR.out]; rfl, HX.out⟩
   ·by_cases c4 : (sn : Int) ≤ set
    ·have HR := Lib.hid (show checkE n Ls zs sn set = 7 by rw [HC.out, if_neg (by omega), if_neg (by omega), if_pos (.inr c4)])
     subst c1
     go_enter Try.func37, Try.ntmps37; go_upto_region 1 with (fail); refine wp_gen (fun W => Ext w W ∧ Blk W B #[.int .i64 n, .slice sa sn sc, .slice va vn vc] 25) ⟨(by repeat (first | exact Ext.refl _ | assumption | refine Ext.setCell ?_ (by first | (simp; done) | (simp; omega) | omega) _ | refine Ext.alloc ?_ _ | refine Ext.drew ?_ | refine Ext.trans ?_ (by assumption))), Blk.at _ 25 hB.symm⟩ ?_; rintro V ⟨E0, B0⟩; have HB := Lib.hid (And.intro E0 B0); have x0 : V.cell? ⟨B, 0, none⟩ = some (.int .i64 n) := B0.cell 0; have x1 : V.cell? ⟨B, 1, none⟩ = some (.slice sa sn sc) := B0.cell 1; have x2 : V.cell? ⟨B, 2, none⟩ = some (.slice va vn vc) := B0.cell 2; clear E0 B0; go_wp2_with fail; refine (rvalid_c n ⟨sa, sn, sc⟩ ⟨va, vn, vc⟩ gs Ls zs _ (H.out.ext HB.out.1)).mono ?_; rw [HV.out]; rintro e w2 ⟨rfl, hx2⟩; have HX := Lib.hid (HB.out.1.trans hx2); have y1 : w2.cell? ⟨B, 1, none⟩ = some (.slice sa sn sc) := hx2.cell x1; clear x0 x1 x2 hx2; go_wp2_with fail; go_ret
     exact ⟨by rw [HR.out]; rfl, HX.out⟩
    ·have HR := Lib.hid (show checkE n Ls zs sn set = 0 by rw [HC.out, if_neg (by omega), if_neg (by omega), if_neg (by omega)])
     subst c1
     go_enter Try.func37, Try.ntmps37; go_upto_region 1 with (fail); refine wp_gen (fun W => Ext w W ∧ Blk W B #[.int .i64 n, .slice sa sn sc, .slice va vn vc] 25) ⟨(by repeat (first | exact Ext.refl _ | assumption | refine Ext.setCell ?_ (by first | (simp; done) | (simp; omega) | omega) _ | refine Ext.alloc ?_ _ | refine Ext.drew ?_ | refine Ext.trans ?_ (by assumption))), Blk.at _ 25 hB.symm⟩ ?_; rintro V ⟨E0, B0⟩; have HB := Lib.hid (And.intro E0 B0); have x0 : V.cell? ⟨B, 0, none⟩ = some (.int .i64 n) := B0.cell 0; have x1 : V.cell? ⟨B, 1, none⟩ = some (.slice sa sn sc) := B0.cell 1; have x2 : V.cell? ⟨B, 2, none⟩ = some (.slice va vn vc) := B0.cell 2; clear E0 B0; go_wp2_with fail; refine (rvalid_c n ⟨sa, sn, sc⟩ ⟨va, vn, vc⟩ gs Ls zs _ (H.out.ext HB.out.1)).mono ?_; rw [HV.out]; rintro e w2 ⟨rfl, hx2⟩; have HX := Lib.hid (HB.out.1.trans hx2); have y1 : w2.cell? ⟨B, 1, none⟩ = some (.slice sa sn sc) := hx2.cell x1; clear x0 x1 x2 hx2; go_wp2_with fail; go_ret
     exact ⟨by rw [HR.out]; rfl, HX.out⟩
  ·have HR := Lib.hid (show checkE n Ls zs m set = 1 by rw [HC.out, if_neg (by omega), if_pos c2])
   have c2' : ((m : Int) == (sn : Int)) = false := by rw [beq_eq_false_iff_ne]; omega
   subst c1
   clear c2
   go_enter Try.func37, Try.ntmps37; go_upto_region 1 with (fail); refine wp_gen (fun W => Ext w W ∧ Blk W B #[.int .i64 n, .slice sa sn sc, .slice va vn vc] 25) ⟨(by repeat (first | exact Ext.refl _ | assumption | refine Ext.setCell ?_ (by first | (simp; done) | (simp; omega) | omega) _ | refine Ext.alloc ?_ _ | refine Ext.drew ?_ | refine Ext.trans ?_ (by assumption))), Blk.at _ 25 hB.symm⟩ ?_; rintro V ⟨E0, B0⟩; have HB := Lib.hid (And.intro E0 B0); have x0 : V.cell? ⟨B, 0, none⟩ = some (.int .i64 n) := B0.cell 0; have x1 : V.cell? ⟨B, 1, none⟩ = some (.slice sa sn sc) := B0.cell 1; have x2 : V.cell? ⟨B, 2, none⟩ = some (.slice va vn vc) := B0.cell 2; clear E0 B0; go_wp2_with fail; refine (rvalid_c n ⟨sa, sn, sc⟩ ⟨va, vn, vc⟩ gs Ls zs _ (H.out.ext HB.out.1)).mono ?_; rw [HV.out]; rintro e w2 ⟨rfl, hx2⟩; have HX := Lib.hid (HB.out.1.trans hx2); have y1 : w2.cell? ⟨B, 1, none⟩ = some (.slice sa sn sc) := hx2.cell x1; clear x0 x1 x2 hx2; go_wp2_with fail; go_ret
   exact ⟨by rw [HR.out]; rfl, HX.out⟩
 ·have HR := Lib.hid (show checkE n Ls zs m set = v by rw [HC.out, if_pos c1])
  have c1' : (v == 0) = false := by rw [beq_eq_false_iff_ne]; exact c1
  clear c1
  go_enter Try.func37, Try.ntmps37; go_upto_region 1 with (fail); refine wp_gen (fun W => Ext w W ∧ Blk W B #[.int .i64 n, .slice sa sn sc, .slice va vn vc] 25) ⟨(by repeat (first | exact Ext.refl _ | assumption | refine Ext.setCell ?_ (by first | (simp; done) | (simp; omega) | omega) _ | refine Ext.alloc ?_ _ | refine Ext.drew ?_ | refine Ext.trans ?_ (by assumption))), Blk.at _ 25 hB.symm⟩ ?_; rintro V ⟨E0, B0⟩; have HB := Lib.hid (And.intro E0 B0); have x0 : V.cell? ⟨B, 0, none⟩ = some (.int .i64 n) := B0.cell 0; have x1 : V.cell? ⟨B, 1, none⟩ = some (.slice sa sn sc) := B0.cell 1; have x2 : V.cell? ⟨B, 2, none⟩ = some (.slice va vn vc) := B0.cell 2; clear E0 B0; go_wp2_with fail; refine (rvalid_c n ⟨sa, sn, sc⟩ ⟨va, vn, vc⟩ gs Ls zs _ (H.out.ext HB.out.1)).mono ?_; rw [HV.out]; rintro e w2 ⟨rfl, hx2⟩; have HX := Lib.hid (HB.out.1.trans hx2); have y1 : w2.cell? ⟨B, 1, none⟩ = some (.slice sa sn sc) := hx2.cell x1; clear x0 x1 x2 hx2; go_wp2_with fail; go_ret
  exact ⟨by rw [HR.out]; rfl, HX.out⟩
end Go.Proofs.Ytkoidookanmknaa
