/- Rank: how great its numbers get. -/
import Derived.Test.YtkoidookanmknaaV03
import Derived.Test.YtkoidookanmknaaV40
import Derived.Test.YtkoidookanmknaaLNi
import Derived.Lib.AppendZeros
import Derived.Test.YtkoidookanmknaaV18
import Derived.BigQuiet
namespace Go.Proofs.Ytkoidookanmknaa
set_option linter.unusedSimpArgs false
set_option linter.unusedVariables false

def MI : Nat → Nat | 0 => 1 | 1 => 1 | 2 => 2 | 3 => 8 | 4 => 128 | 5 => 32768 | _ => 2147483648
def PB (c : Nat) (x : Int) : Prop := if c = 0 then x = 0 ∨ x = 1 else x.natAbs ≤ MI c
theorem PB.zero (c : Nat) : PB c 0 := by
  unfold PB
  split
  · exact .inl rfl
  · simp
theorem PB.le {c : Nat} {x : Int} (h : PB c x) (hc : c ≤ 6) : x.natAbs ≤ MI c := by
  unfold PB at h
  split at h
  · rename_i e; subst e
    rcases h with rfl | rfl <;> simp [MI]
  · exact h
theorem MI_le {c : Nat} (h : c ≤ 6) : MI c ≤ 2147483648 := by
  match c, h with
  | 0, _ => simp [MI]
  | 1, _ => simp [MI]
  | 2, _ => simp [MI]
  | 3, _ => simp [MI]
  | 4, _ => simp [MI]
  | 5, _ => simp [MI]
  | 6, _ => simp [MI]
theorem PB.big {c : Nat} {x : Int} (h : PB c x) (hc : c ≤ 6) : x.natAbs ≤ 2147483648 := Nat.le_trans (h.le hc) (MI_le hc)
theorem MI_up {c : Nat} (h : c < 6) : MI c ≤ MI (c + 1) := by
  match c, h with
  | 0, _ => simp [MI]
  | 1, _ => simp [MI]
  | 2, _ => simp [MI]
  | 3, _ => simp [MI]
  | 4, _ => simp [MI]
  | 5, _ => simp [MI]
theorem MI_sq {c : Nat} (h0 : 0 < c) (h : c < 6) : 2 * (MI c * MI c) ≤ MI (c + 1) := by
  match c, h0, h with
  | 1, _, _ => simp [MI]
  | 2, _, _ => simp [MI]
  | 3, _, _ => simp [MI]
  | 4, _, _ => simp [MI]
  | 5, _, _ => simp [MI]
theorem PB.up {c : Nat} {x : Int} (h : PB c x) (hc : c < 6) : PB (c + 1) x := by
  have := h.le (by omega)
  have := MI_up hc
  unfold PB
  rw [if_neg (by omega)]
  omega
theorem PB.step {c : Nat} {x f y l : Int} (hc : c < 6) (hx : PB c x) (hf : PB c f) (hy : PB c y) (hl : PB c l) : PB (c + 1) (x * f - y * l) := by
  by_cases h0 : c = 0
  · subst h0
    unfold PB at *
    rw [if_pos rfl] at hx hf hy hl
    rw [if_neg (by omega)]
    rcases hx with rfl | rfl <;> rcases hf with rfl | rfl <;> rcases hy with rfl | rfl <;> rcases hl with rfl | rfl <;> simp [MI]
  · have a1 := hx.le (by omega)
    have a2 := hf.le (by omega)
    have a3 := hy.le (by omega)
    have a4 := hl.le (by omega)
    have s := MI_sq (by omega) hc
    have m1 : (x * f).natAbs ≤ MI c * MI c := by rw [Int.natAbs_mul]; exact Nat.mul_le_mul a1 a2
    have m2 : (y * l).natAbs ≤ MI c * MI c := by rw [Int.natAbs_mul]; exact Nat.mul_le_mul a3 a4
    unfold PB
    rw [if_neg (by omega)]
    omega
theorem MI_lt {c : Nat} (h : c < 6) : MI c ≤ 32768 := by
  match c, h with
  | 0, _ => simp [MI]
  | 1, _ => simp [MI]
  | 2, _ => simp [MI]
  | 3, _ => simp [MI]
  | 4, _ => simp [MI]
  | 5, _ => simp [MI]
theorem PB.prod {c : Nat} {x f : Int} (hc : c < 6) (hx : PB c x) (hf : PB c f) : -1073741824 ≤ x * f ∧ x * f ≤ 1073741824 := by
  have a1 := Nat.le_trans (hx.le (by omega)) (MI_lt hc)
  have a2 := Nat.le_trans (hf.le (by omega)) (MI_lt hc)
  have m1 : (x * f).natAbs ≤ 32768 * 32768 := by rw [Int.natAbs_mul]; exact Nat.mul_le_mul a1 a2
  omega
theorem PB.quot {c : Nat} {x u g : Int} (h : PB (c + 1) x) (hg : 1 ≤ g) (e : u * g = x) : PB (c + 1) u := by
  unfold PB at *
  rw [if_neg (by omega)] at *
  rw [← e, Int.natAbs_mul] at h
  have h2 : 1 ≤ g.natAbs := by omega
  have h3 : u.natAbs * 1 ≤ u.natAbs * g.natAbs := Nat.mul_le_mul_left _ h2
  omega
/-- An entry. -/
def ent (L : List (List Int)) (j y : Nat) : Int := (L.getD j []).getD y 0
theorem ent_set {L : List (List Int)} {k : Nat} {l : List Int} (j y : Nat) (hk : k < L.length) : ent (L.set k l) j y = if k = j then l.getD y 0 else ent L j y := by
  unfold ent
  by_cases e : k = j
  · subst e; rw [if_pos rfl]; simp [List.getD_eq_getElem?_getD, hk]
  · rw [if_neg e]; simp [List.getD_eq_getElem?_getD, List.getElem?_set_ne e]
theorem get_of {L : List (List Int)} {j : Nat} (h : j < L.length) : L[j]? = some (L.getD j []) := by
  rw [List.getD_eq_getElem?_getD, List.getElem?_eq_getElem h]; rfl
structure RkP (S : Vec → Prop) (n c rk : Nat) (L : List (List Int)) : Prop where
  inv : EInv S n c rk L
  pb : ∀ j y, PB (min c 6) (ent L j y)
  z6 : ∀ j y, 6 ≤ y → ent L j y = 0
structure RkQ (S : Vec → Prop) (n c rk i : Nat) (f : List Int) (L : List (List Int)) : Prop where
  mid : EMid S n c rk i f L
  c6 : c < 6
  hi : ∀ j y, PB (c + 1) (ent L j y)
  lo : ∀ j y, i ≤ j → PB c (ent L j y)
  fst : ∀ y, PB c (f.getD y 0)
  z6 : ∀ j y, 6 ≤ y → ent L j y = 0
  f6 : ∀ y, 6 ≤ y → f.getD y 0 = 0
theorem RkP.start {n : Nat} {L : List (List Int)} (h : ∀ l, l ∈ L → l.length = n) (h01 : ∀ l, l ∈ L → ∀ x, x ∈ l → x = 0 ∨ x = 1) (h6 : ∀ j y, 6 ≤ y → ent L j y = 0) : RkP (InL L) n 0 0 L :=
  ⟨EInv.start h, fun j y => by
    unfold ent PB
    rw [if_pos (show min 0 6 = 0 by omega)]
    by_cases hj : j < L.length
    · rw [List.getD_eq_getElem?_getD (l := L), List.getElem?_eq_getElem hj]
      by_cases hy : y < L[j].length
      · simp only [Option.getD_some]
        rw [List.getD_eq_getElem?_getD, List.getElem?_eq_getElem hy]
        exact h01 _ (List.getElem_mem hj) _ (List.getElem_mem hy)
      · simp only [Option.getD_some]
        rw [List.getD_eq_getElem?_getD, List.getElem?_eq_none (by omega)]
        exact .inl rfl
    · rw [List.getD_eq_getElem?_getD (l := L), List.getElem?_eq_none (by omega)]
      exact .inl (by simp), h6⟩
theorem RkP.skip {S : Vec → Prop} {n c rk : Nat} {L : List (List Int)} (h : RkP S n c rk L) (h0 : ∀ j, rk ≤ j → j < L.length → ent L j c = 0) : RkP S n (c + 1) rk L :=
  ⟨h.inv.skip fun i l hi hr => by
    have hlt : i < L.length := by
      rcases Nat.lt_or_ge i L.length with h1 | h1
      · exact h1
      · rw [List.getElem?_eq_none h1] at hi; cases hi
    have := h0 i hr hlt
    unfold ent at this
    rw [List.getD_eq_getElem?_getD (l := L), hi] at this
    exact this, fun j y => by
    have := h.pb j y
    by_cases hc : c < 6
    · rw [show min c 6 = c by omega] at this
      rw [show min (c + 1) 6 = c + 1 by omega]
      exact this.up hc
    · rw [show min c 6 = 6 by omega] at this
      rwa [show min (c + 1) 6 = 6 by omega], h.z6⟩
theorem RkP.pivot {S : Vec → Prop} {n c rk k : Nat} {L : List (List Int)} (h : RkP S n c rk L) (hk : k < L.length) (hrk : rk ≤ k) (hf : ent L k c ≠ 0) :
    RkQ S n c rk (rk + 1) (L.getD k []) ((L.set k (L.getD rk [])).set rk (L.getD k [])) := by
  have hr : rk < L.length := by omega
  have c6 : c < 6 := by
    rcases Nat.lt_or_ge c 6 with h1 | h1
    · exact h1
    · exact absurd (h.z6 k c h1) hf
  have pb : ∀ j y, PB c (ent L j y) := fun j y => by
    have := h.pb j y
    rwa [show min c 6 = c by omega] at this
  have e : ∀ j y, ∃ q, ent ((L.set k (L.getD rk [])).set rk (L.getD k [])) j y = ent L q y := fun j y => by
    rw [ent_set _ _ (by simpa using hr)]
    split
    · exact ⟨k, rfl⟩
    · rw [ent_set _ _ hk]
      split
      · exact ⟨rk, rfl⟩
      · exact ⟨j, rfl⟩
  refine ⟨h.inv.pivot (get_of hk) hrk (get_of hr) hf, c6, fun j y => ?_, fun j y _ => ?_, fun y => pb k y, fun j y hy => ?_, fun y hy => h.z6 k y hy⟩
  · obtain ⟨q, hq⟩ := e j y
    rw [hq]; exact (pb q y).up c6
  · obtain ⟨q, hq⟩ := e j y
    rw [hq]; exact pb q y
  · obtain ⟨q, hq⟩ := e j y
    rw [hq]; exact h.z6 q y hy
theorem RkQ.step {S : Vec → Prop} {n c rk i : Nat} {f u : List Int} {g : Int} {L : List (List Int)} (h : RkQ S n c rk i f L) (hi : i < L.length) (hu : u.length = n) (hg : 1 ≤ g) (hn : c < n)
    (he : ∀ j, j < n → u.getD j 0 * g = ent L i j * f.getD c 0 - f.getD j 0 * ent L i c) : RkQ S n c rk (i + 1) f (L.set i u) := by
  have hub : ∀ y, PB (c + 1) (u.getD y 0) := fun y => by
    by_cases hy : y < n
    · exact PB.quot (PB.step h.c6 (h.lo i y (Nat.le_refl _)) (h.fst c) (h.fst y) (h.lo i c (Nat.le_refl _))) hg (he y hy)
    · rw [List.getD_eq_getElem?_getD, List.getElem?_eq_none (by omega)]; exact PB.zero _
  refine ⟨h.mid.step (get_of hi) hu (by omega) hn he, h.c6, fun j y => ?_, fun j y hj => ?_, h.fst, fun j y hy => ?_, h.f6⟩
  · rw [ent_set _ _ hi]
    split
    · exact hub y
    · exact h.hi j y
  · rw [ent_set _ _ hi, if_neg (by omega)]
    exact h.lo j y (by omega)
  · rw [ent_set _ _ hi]
    split
    · by_cases hy' : y < n
      · have e := he y hy'
        rw [h.z6 i y hy, h.f6 y hy, Int.zero_mul, Int.zero_mul, Int.sub_self] at e
        rcases Int.mul_eq_zero.1 e with e | e
        · exact e
        · omega
      · rw [List.getD_eq_getElem?_getD, List.getElem?_eq_none (by omega)]; rfl
    · exact h.z6 j y hy
theorem RkQ.done {S : Vec → Prop} {n c rk i : Nat} {f : List Int} {L : List (List Int)} (h : RkQ S n c rk i f L) (hi : i = L.length) : RkP S n (c + 1) (rk + 1) L := by
  subst hi
  refine ⟨h.mid.done, fun j y => ?_, h.z6⟩
  have := h.c6
  rw [show min (c + 1) 6 = c + 1 by omega]
  exact h.hi j y
/- meresmanref30: Rank. -/
open Go.RowKit

/-- The list of Rank: a block of slices, and the rows they stand for. -/
structure RkI (w W : World) (lb m n : Nat) (gs : List Sl) (L : List (List Int)) : Prop where
  ext : Ext w W
  ge : w.heap.size ≤ lb
  ni : NI W lb
  gl : gs.length = m
  Ll : L.length = m
  cells : ∃ cur, Blk W lb cur 22 ∧ ∀ i, i < m → cur[i]? = some (gs.getD i sl0).v
  rows : ∀ i, i < m → (gs.getD i sl0).n = n ∧ Ints W (gs.getD i sl0).a n (L.getD i [])
theorem RkI.lt {w W : World} {lb m n : Nat} {gs : List Sl} {L : List (List Int)} (h : RkI w W lb m n gs L) : lb < W.heap.size := by
  obtain ⟨cur, h1, _⟩ := h.cells
  exact h1.lt
theorem RkI.keep {w W W' : World} {lb m n : Nat} {gs : List Sl} {L : List (List Int)} (h : RkI w W lb m n gs L) (k : Ext W W') : RkI w W' lb m n gs L :=
  ⟨h.ext.trans k, h.ge, h.ni.ext k h.lt, h.gl, h.Ll, by obtain ⟨cur, h1, h2⟩ := h.cells; exact ⟨cur, h1.ext k, h2⟩, fun i hi => ⟨(h.rows i hi).1, (h.rows i hi).2.keep k.ik⟩⟩
theorem RkI.at {w W : World} {lb m n : Nat} {gs : List Sl} {L : List (List Int)} (h : RkI w W lb m n gs L) {i : Nat} (hi : i < m) : W.cell? ⟨lb, i, none⟩ = some (gs.getD i sl0).v := by
  obtain ⟨cur, h1, h2⟩ := h.cells
  rw [h1.cell]; exact h2 i hi
theorem RkI.free {w W : World} {lb m n : Nat} {gs : List Sl} {L : List (List Int)} (h : RkI w W lb m n gs L) (o : Nat) : W.frozen? ⟨lb, o, none⟩ = false := by
  obtain ⟨cur, h1, _⟩ := h.cells
  exact h1.free o
theorem ni_ik {w W : World} {lb o : Nat} {u : Value} (h : NI W lb) (k : IK w W) : IK w (W.setCell ⟨lb, o, none⟩ u) := k.setCell (fun x y => h o x y) u
theorem gsl_set {gs : List Sl} {k j : Nat} {s : Sl} (hk : k < gs.length) : (gs.set k s).getD j sl0 = if k = j then s else gs.getD j sl0 := by
  by_cases e : k = j
  · subst e; rw [if_pos rfl]; simp [List.getD_eq_getElem?_getD, hk]
  · rw [if_neg e]; simp [List.getD_eq_getElem?_getD, List.getElem?_set_ne e]
theorem lis_set {L : List (List Int)} {k j : Nat} {s : List Int} (hk : k < L.length) : (L.set k s).getD j [] = if k = j then s else L.getD j [] := by
  by_cases e : k = j
  · subst e; rw [if_pos rfl]; simp [List.getD_eq_getElem?_getD, hk]
  · rw [if_neg e]; simp [List.getD_eq_getElem?_getD, List.getElem?_set_ne e]
theorem RkI.put {w W : World} {lb m n k : Nat} {gs : List Sl} {L : List (List Int)} {s : Sl} {l : List Int} (h : RkI w W lb m n gs L) (hk : k < m) (hn : s.n = n) (hl : Ints W s.a n l) :
    RkI w (W.setCell ⟨lb, k, none⟩ s.v) lb m n (gs.set k s) (L.set k l) ∧ IK W (W.setCell ⟨lb, k, none⟩ s.v) := by
  have hik := ni_ik (o := k) (u := s.v) h.ni (IK.refl W)
  have hg := h.gl
  have hL := h.Ll
  obtain ⟨cur, h1, h2⟩ := h.cells
  refine ⟨⟨h.ext.setCell h.ge _, h.ge, fun o x y => own3_set (h.ni) (fun x y e => by cases e) o x y, by simp [hg], by simp [hL], ⟨_, h1.set k _, fun i hi => ?_⟩, fun i hi => ?_⟩, hik⟩
  · rw [gsl_set (by omega)]
    by_cases e : k = i
    · subst e
      rw [if_pos rfl, Array.getElem?_setIfInBounds_self]
      have := h2 k hk
      rw [Array.getElem?_eq_some_iff] at this
      obtain ⟨hs, _⟩ := this
      simp [hs]
    · rw [if_neg e, Array.getElem?_setIfInBounds_ne e]; exact h2 i hi
  · rw [gsl_set (by omega), lis_set (by omega)]
    by_cases e : k = i
    · rw [if_pos e, if_pos e]; exact ⟨hn, hl.keep hik⟩
    · rw [if_neg e, if_neg e]; exact ⟨(h.rows i hi).1, (h.rows i hi).2.keep hik⟩
theorem tints_run_none {w : World} (ty : TypeId) (a : Option Addr) (c : Nat) :
    (Builtin.append_ #[23, 23] ty #[.slice none 0 0, .slice a 0 c]).run Try.prog w = .ok (.slice none 0 0) w := by
  obtain ⟨i0, hi, hz0, hz1, hz2⟩ := info_parts intsInfo
  have hu := Try.underlying23
  cases a <;> simp [Builtin.append_, run_underlying hu, sizeOf, typeInfo, hi, Builtin.lenOf, Builtin.firstCells, loadCells, loadCellsFrom]
/-- The row that takes the place of l. -/
def stepL (f l : List Int) (c j : Nat) : List Int := (List.range j).map fun y => l.getD y 0 * f.getD c 0 - f.getD y 0 * l.getD c 0
theorem stepL_len (f l : List Int) (c j : Nat) : (stepL f l c j).length = j := by simp [stepL]
theorem stepL_succ (f l : List Int) (c j : Nat) : stepL f l c (j + 1) = stepL f l c j ++ [l.getD j 0 * f.getD c 0 - f.getD j 0 * l.getD c 0] := by simp [stepL, List.range_succ]
theorem stepL_get {f l : List Int} {c n j : Nat} (hj : j < n) : (stepL f l c n).getD j 0 = l.getD j 0 * f.getD c 0 - f.getD j 0 * l.getD c 0 := by simp [stepL, hj]
/-- Slices of slices of ints, whose first m are the members of a list: their cells. -/
theorem grps_news {w : World} {b off m : Nat} {gs : List Sl} {L : List (List Int)} (h : Grps w (some ⟨b, off, none⟩) m gs L) (h0 : 0 < m) : ∀ (j : Nat) (u : Value), (gs.map Sl.v)[j]? = some u → w.cell? ((⟨b, off, none⟩ : Addr).add j) = some u := fun j u hu => by
  have hadd : (⟨b, off, none⟩ : Addr).add j = ⟨b, off + j, none⟩ := by unfold Addr.add; split <;> simp_all
  rw [hadd]
  have hg := h.1
  have hj : j < gs.length := by
    rcases Nat.lt_or_ge j (gs.map Sl.v).length with h | h
    · simpa using h
    · rw [List.getElem?_eq_none h] at hu; cases hu
  obtain ⟨b', off', he, _, hc⟩ := h.at j (by omega)
  injection he with he; injection he with e1 e2
  subst e1; subst e2
  rw [hc, ← hu]; simp [hj]
theorem slv_one (gs : List Sl) : ∀ u ∈ gs.map Sl.v, u.oneCell' = true := by
  intro u hu
  simp at hu
  obtain ⟨p, _, rfl⟩ := hu; rfl
theorem slv_ni (gs : List Sl) : ∀ u ∈ gs.map Sl.v, ∀ k m, u ≠ Value.int k m := by
  intro u hu k m e
  simp at hu
  obtain ⟨p, _, rfl⟩ := hu
  cases e
/-- What an append of the rows leaves. -/
theorem RkI.start {w W : World} {base g m n cap : Nat} {gs : List Sl} {L : List (List Int)} {ga : Option Addr} (hE : Ext w W) (hb : w.heap.size ≤ base) (hG : Grps W ga m gs L) (hn : ∀ i, i < m → (gs.getD i sl0).n = n) (hni : NI W g) (h : W.ownsRow base 22 1 (.slice (some ⟨g, 0, none⟩) m cap) m (gs.map Sl.v)) : RkI w W g m n gs L := by
  obtain ⟨_, ⟨hv, _⟩ | ⟨g', cap', cur, hv, hbg, hh, hle, _, _, htk⟩⟩ := h
  · simp at hv
  · simp at hv
    obtain ⟨rfl, rfl⟩ := hv
    refine ⟨hE, by omega, hni, hG.1, hG.2.1, ⟨cur, hh, fun i hi => ?_⟩, fun i hi => ⟨hn i hi, by have := hG.2.2.2.2 i hi; rwa [hn i hi] at this⟩⟩
    have p1 : (gs.map Sl.v)[i]? = some (gs.getD i sl0).v := by
      have : i < gs.length := by rw [hG.1]; exact hi
      simp [this]
    rw [← htk, List.getElem?_take_of_lt (by omega)] at p1
    simpa using p1
/- meresmanref30: Rank, the walk. -/
open Go.RowKit

theorem cnt_none {P : Nat → Prop} (h : ∀ c, ¬ P c) : ∀ n, Cnt P n 0
  | 0 => Cnt.zero
  | n + 1 => Cnt.no (cnt_none h n) (h n)
theorem rank_nil (n : Nat) : RankN (InL []) n 0 := cnt_none (fun c h => by
  obtain ⟨v, hv, h1, _⟩ := h
  have : v c = 0 := Sp.lin (fun v => v c) rfl (fun _ _ _ => rfl) (fun u hu => by obtain ⟨l, hl, _⟩ := hu; simp at hl) hv
  exact h1 this) n
set_option maxRecDepth 100000 in
set_option maxHeartbeats 4000000 in
theorem Rank_c (ga : Option Addr) (m c n : Nat) (gs : List Sl) (L : List (List Int)) (w : World) (h : Grps w ga m gs L) (hm : m ≤ 1000) (hn : n ≤ 1000) (hl : ∀ i, i < m → (gs.getD i sl0).n = n)
    (h01 : ∀ l, l ∈ L → ∀ x, x ∈ l → x = 0 ∨ x = 1) (h6 : ∀ j y, 6 ≤ y → ent L j y = 0) :
    Calls Try.prog 67 #[.slice ga m c] w fun e w' => (∃ k : Nat, e = .returned (.int .i64 (k : Int)) ∧ RankN (InL L) n k) ∧ Ext w w' := by
  obtain ⟨i0, hi0, hz0, hz1, hz2⟩ := info_parts intInfo
  obtain ⟨j0, hj0, hy0, hy1, hy2⟩ := info_parts intsInfo
  have hLl := h.2.1
  have hll : ∀ l, l ∈ L → l.length = n := fun l hm => by
    obtain ⟨k, hk, rfl⟩ := List.getElem_of_mem hm
    have := (h.2.2.2.2 k (by omega)).1
    rw [hl k (by omega)] at this
    rw [List.getD_eq_getElem?_getD, List.getElem?_eq_getElem hk] at this
    exact this
  have hP0 := RkP.start hll h01 h6
  clear hll h01 h6
  have HP0 := Lib.hid hP0
  clear hP0
  go_enter Try.func67, Try.ntmps67
  by_cases h0 : m = 0
  · subst h0
    obtain rfl : L = [] := List.eq_nil_of_length_eq_zero hLl
    clear h hl
    have hra := fun ty => tints_run_none (w := w) ty ga c
    go_wp2_with (at_builtin; refine Lib.wpList_append_run _ rfl _ _ _ _ rfl _ _ rfl rfl _ _ (hra _) ?_)
    go_loopw [3, 6] (fun rv cv ws => cv = .int .i64 0 ∧ rv = .int .i64 0 ∧ ws = w) (fun _ _ _ => 0)
    case atStart => exact ⟨rfl, rfl, rfl⟩
    case round =>
      obtain ⟨rfl, rfl, rfl⟩ := hrel
      go_wp2_with fail
      go_ret
      exact ⟨⟨0, rfl, rank_nil n⟩, Ext.refl _⟩
  · obtain ⟨b, off, rfl, hbl, _⟩ := h.at 0 (by omega)
    have HG := Lib.hid (And.intro h hl)
    have hgl := h.1
    clear h hl
    go_wp2_with (at_builtin; refine wpList_append_ni _ rfl _ _ _ rfl w.heap.size 22 j0 _ 1 24 Try.underlying23 hj0 hy0 hy1 hy2 rfl (by omega) _ 0 [] rfl ⟨rfl, .inl ⟨rfl, rfl⟩⟩ ⟨b, off, none⟩ m c (gs.map Sl.v) rfl (by simp [hgl]) (grps_news HG.out.1 (by omega)) (slv_one gs) (by omega) (by rw [maxLen]; omega) (by omega) (by simp) _ rfl (NIv.nil _) (by simp) (slv_ni gs) (by simp [Value.cells]) ?_)
    intro g cap w1 hown hgrow hat hlt1 hik hni
    have hE1 : Ext w w1 := ext_grown (Ext.refl w) hgrow (fun g hg => by simp [Value.ownBlock] at hg)
    try simp only [Nat.zero_add, List.nil_append] at hown
    have hK1 := RkI.start hE1 (Nat.le_refl _) (HG.out.1.ext hE1) HG.out.2 hni hown
    have x0 := hK1.at (i := 0) (by omega)
    obtain ⟨⟨fa, fn, fc⟩, hf0⟩ : ∃ s, gs.getD 0 sl0 = s := ⟨_, rfl⟩
    have hfn := HG.out.2 0 (by omega)
    rw [hf0] at x0 hfn
    simp only at hfn
    subst hfn
    simp only [Sl.v] at x0
    have HK1 := Lib.hid hK1
    clear hown hgrow hat hik hni hE1 hK1 hf0
    try rw [Nat.zero_add]
    have hm0 : 0 < m := by omega
    go_wp2_with fail
    go_loopw [3, 6] (fun rv cv ws => ∃ (c' rk : Nat) (gs' : List Sl) (L' : List (List Int)), c' ≤ fn ∧ cv = .int .i64 (c' : Int) ∧ rv = .int .i64 (rk : Int) ∧ RkI w ws g m fn gs' L' ∧ RkP (InL L) fn c' rk L') (fun _ cv _ => fn - (intOf cv).toNat)
    case atStart => exact ⟨0, 0, gs, L, by omega, rfl, rfl, HK1.out, HP0.out⟩
    case round =>
      clear x0 HK1 HP0
      obtain ⟨c', rk, gs', L', hc, rfl, rfl, hK, hP⟩ := hrel
      have hrk := hP.inv.rkL
      rw [hK.Ll] at hrk
      have HK := Lib.hid (And.intro hK hP)
      clear hK hP
      by_cases hlt : c' < fn
      · go_wp2_with fail
        go_loopw [7] (fun kv ws => ∃ k : Nat, rk ≤ k ∧ k ≤ m ∧ kv = .int .i64 (k : Int) ∧ (∀ j, rk ≤ j → j < k → ent L' j c' = 0) ∧ Ext wr ws) (fun kv _ => m - (intOf kv).toNat)
        case atStart => exact ⟨rk, by omega, by omega, rfl, fun j h1 h2 => absurd h1 (by omega), Ext.refl _⟩
        case round =>
          rename World => ws
          obtain ⟨k, hk1, hk2, rfl, hz, hE⟩ := hrel
          have HZ := Lib.hid (And.intro hz hE)
          have c0 : (0 : Int) ≤ (c' : Int) := by omega
          have c1 : (c' : Int) < (fn : Int) := by omega
          by_cases hkm : k < m
          · have hKs := HK.out.1.keep hE
            have x1 := hKs.at hkm
            obtain ⟨hkn, hki⟩ := hKs.rows k hkm
            obtain ⟨⟨ka, kn, kc⟩, hgk⟩ : ∃ s, gs'.getD k sl0 = s := ⟨_, rfl⟩
            rw [hgk] at x1 hkn hki
            simp only at hkn
            subst hkn
            simp only [Sl.v] at x1 hki
            obtain ⟨kb, ko, rfl, _, x2⟩ := hki.at c' hlt
            have k0 : (0 : Int) ≤ (k : Int) := by omega
            have k1 : (k : Int) < (m : Int) := by omega
            obtain ⟨y, hy⟩ : ∃ y, (L'.getD k []).getD c' 0 = y := ⟨_, rfl⟩
            rw [hy] at x2
            have hy' : ent L' k c' = y := hy
            have HS := Lib.hid (And.intro hKs (And.intro hki (And.intro hgk hy')))
            clear hKs hki hz hE hgk hy'
            by_cases hy0 : y = 0
            · subst hy0
              clear hy
              go_wp2_with fail
              go_roundw
              case rel => exact ⟨k + 1, by omega, by omega, by go_num, fun j h1 h2 => by
                by_cases e : j = k
                · rw [e]; exact HS.out.2.2.2
                · exact HZ.out.1 j h1 (by omega), HZ.out.2⟩
              case measure => simp [intOf]; omega
            · have hLlm := HK.out.1.Ll
              have hQ0 := HK.out.2.pivot (k := k) (by omega) hk1 (by rw [HS.out.2.2.2]; exact hy0)
              obtain ⟨first, hfi⟩ : ∃ f, L'.getD k [] = f := ⟨_, rfl⟩
              obtain ⟨other, hot⟩ : ∃ f, L'.getD rk [] = f := ⟨_, rfl⟩
              have hfI := HS.out.2.1
              rw [hfi] at hQ0 hfI
              rw [hot] at hQ0
              obtain ⟨⟨oa, on, oc⟩, hgo⟩ : ∃ s, gs'.getD rk sl0 = s := ⟨_, rfl⟩
              have hrkm : rk < m := by omega
              obtain ⟨hon, hoI⟩ := HS.out.1.rows rk hrkm
              have x3 := HS.out.1.at hrkm
              rw [hgo] at hon hoI x3
              simp only at hon hoI
              rw [hot] at hoI
              subst hon
              simp only [Sl.v] at x3
              have f1 := HS.out.1.free k
              have r0 : (0 : Int) ≤ (rk : Int) := by omega
              have r1 : (rk : Int) < (m : Int) := by omega
              have hne : (y == 0) = false := by simpa using hy0
              have hkm' : ((k : Int) == (m : Int)) = false := by simp; omega
              obtain ⟨W1, hp1, hpi1⟩ : ∃ W1, W1 = ws.setCell ⟨g, k, none⟩ (.slice oa on oc) ∧ (RkI w W1 g m on (gs'.set k ⟨oa, on, oc⟩) (L'.set k other) ∧ IK ws W1) := ⟨_, rfl, HS.out.1.put (s := ⟨oa, on, oc⟩) (l := other) hkm rfl hoI⟩
              have f2 := hpi1.1.free rk
              have x4 := hpi1.1.at hrkm
              obtain ⟨W2, hp2, hpi2⟩ : ∃ W2, W2 = W1.setCell ⟨g, rk, none⟩ (.slice (some ⟨kb, ko, none⟩) on kc) ∧ (RkI w W2 g m on ((gs'.set k ⟨oa, on, oc⟩).set rk ⟨some ⟨kb, ko, none⟩, on, kc⟩) ((L'.set k other).set rk first) ∧ IK W1 W2) := ⟨_, rfl, hpi1.1.put (s := ⟨some ⟨kb, ko, none⟩, on, kc⟩) (l := first) hrkm rfl (hfI.keep hpi1.2)⟩
              have HN := Lib.hid (show RkI w W2 g m on _ _ ∧ RkQ (InL L) on c' rk (rk + 1) first _ ∧ Ints W2 (some ⟨kb, ko, none⟩) on first from ⟨hpi2.1, hQ0, hfI.keep (hpi1.2.trans hpi2.2)⟩)
              have HZ2 := Lib.hid hp1
              have HZ3 := Lib.hid hp2
              clear hpi1 hpi2 hQ0 hfI hoI hy hgo hot hfi hy0
              go_upto_region 15 with (fail)
              clear hp1 hp2
              go_upto_region 16 with (fail)
              rw [← HZ2.out]
              go_upto_region 17 with (fail)
              rw [← HZ3.out]
              clear x1 x2 x3 x4 f1 f2 HZ2 HZ3 HZ HS
              obtain ⟨gs2, hgs2⟩ : ∃ q, (gs'.set k ⟨oa, on, oc⟩).set rk ⟨some ⟨kb, ko, none⟩, on, kc⟩ = q := ⟨_, rfl⟩
              obtain ⟨L2, hL2⟩ : ∃ q, (L'.set k other).set rk first = q := ⟨_, rfl⟩
              rw [hgs2, hL2] at HN
              clear hgs2 hL2
              have hrk1 : (rk : Int) + 1 = ((rk + 1 : Nat) : Int) := by omega
              have HR1 := Lib.hid hrk1
              clear hrk1
              go_wp2_with fail
              go_loopw [9] (fun iv ws3 => ∃ (i : Nat) (gs3 : List Sl) (L3 : List (List Int)), rk + 1 ≤ i ∧ i ≤ m ∧ iv = .int .i64 (i : Int) ∧ RkI w ws3 g m on gs3 L3 ∧ RkQ (InL L) on c' rk i first L3 ∧ Ints ws3 (some ⟨kb, ko, none⟩) on first) (fun iv _ => m - (intOf iv).toNat)
              case atStart => exact ⟨rk + 1, gs2, L2, by omega, by omega, by rw [HR1.out], HN.out.1, HN.out.2.1, HN.out.2.2⟩
              case round =>
                rename World => ws3
                clear HN HK
                obtain ⟨i, gs3, L3, hi1, hi2, rfl, hK3, hQ3, hf3⟩ := hrel
                have HK := Lib.hid (And.intro hK3 (And.intro hQ3 hf3))
                have hL3 := hK3.Ll
                by_cases him : i < m
                · have x3 := hK3.at him
                  obtain ⟨hin, hiI⟩ := hK3.rows i him
                  obtain ⟨⟨ia, in', ic⟩, hgi⟩ : ∃ s, gs3.getD i sl0 = s := ⟨_, rfl⟩
                  rw [hgi] at x3 hin hiI
                  simp only at hin hiI
                  subst hin
                  simp only [Sl.v] at x3
                  obtain ⟨ib, io, rfl, _, x4⟩ := hiI.at c' hlt
                  obtain ⟨_, _, e, _, x5⟩ := hf3.at c' hlt
                  injection e with e; injection e with e1 e2
                  subst e1; subst e2
                  obtain ⟨li, hli⟩ : ∃ l, L3.getD i [] = l := ⟨_, rfl⟩
                  rw [hli] at x4 hiI
                  have HI := Lib.hid (And.intro hiI hli)
                  have hflen := hf3.1
                  have hlo : ∀ y, PB c' (li.getD y 0) := fun y => by have := hQ3.lo i y (Nat.le_refl _); unfold ent at this; rwa [hli] at this
                  have hfs := hQ3.fst
                  have hc6 := hQ3.c6
                  have HB := Lib.hid (And.intro hlo (And.intro hfs hc6))
                  have i0' : (0 : Int) ≤ (i : Int) := by omega
                  have i1' : (i : Int) < (m : Int) := by omega
                  have hsz3 := hK3.ext.size
                  clear hK3 hQ3 hf3 hiI hlo hfs hc6 hgi hli
                  go_wp2_with fail
                  go_loopw [10, 11] (fun nv jv ws4 => ∃ j : Nat, j ≤ in' ∧ jv = .int .i64 (j : Int) ∧ VRow ws4 ws3.heap.size nv (stepL first li c' j) ∧ Ext ws3 ws4) (fun _ jv _ => in' - (intOf jv).toNat)
                  case atStart => exact ⟨0, by omega, rfl, VRow.nil _ _, Ext.refl _⟩
                  case round =>
                    rename World => ws4
                    obtain ⟨j, hj, rfl, hV, hE4⟩ := hrel
                    have HV := Lib.hid (And.intro hV hE4)
                    clear hV hE4
                    by_cases hjn : j < in'
                    · obtain ⟨_, _, e, _, y1⟩ := HI.out.1.at j hjn
                      injection e with e; injection e with e1 e2
                      subst e1; subst e2
                      obtain ⟨_, _, e, _, y2⟩ := HK.out.2.2.at j hjn
                      injection e with e; injection e with e1 e2
                      subst e1; subst e2
                      have hb1 := HB.out.1 j
                      have hb2 := HB.out.2.1 c'
                      have hb3 := HB.out.2.1 j
                      have hb4 := HB.out.1 c'
                      have hc6 := HB.out.2.2
                      have HS1 := Lib.hid (stepL_succ first li c' j)
                      have hsl := stepL_len first li c' j
                      obtain ⟨lj, hlj⟩ : ∃ v, li.getD j 0 = v := ⟨_, rfl⟩
                      obtain ⟨fc', hfc⟩ : ∃ v, first.getD c' 0 = v := ⟨_, rfl⟩
                      obtain ⟨fj, hfj⟩ : ∃ v, first.getD j 0 = v := ⟨_, rfl⟩
                      obtain ⟨lc, hlc⟩ : ∃ v, li.getD c' 0 = v := ⟨_, rfl⟩
                      rw [hlj] at y1 hb1
                      rw [hfc] at x5 hb2
                      rw [hfj] at y2 hb3
                      rw [hlc] at x4 hb4
                      rw [hlj, hfc, hfj, hlc] at HS1
                      have p1 := PB.prod hc6 hb1 hb2
                      have p2 := PB.prod hc6 hb3 hb4
                      clear hb1 hb2 hb3 hb4 hlj hfc hfj hlc
                      have HX1 := Lib.hid (fun W (e : Ext ws3 W) => e.cell x3)
                      have HX2 := Lib.hid (fun W (e : Ext ws3 W) => e.cell y1)
                      have HX3 := Lib.hid (fun W (e : Ext ws3 W) => e.cell x5)
                      have HX4 := Lib.hid (fun W (e : Ext ws3 W) => e.cell y2)
                      have HX5 := Lib.hid (fun W (e : Ext ws3 W) => e.cell x4)
                      clear x3 x4 x5 y1 y2
                      have j0' : (0 : Int) ≤ (j : Int) := by omega
                      have j1' : (j : Int) < (in' : Int) := by omega
                      go_upto_region 24 with (fail)
                      refine wp_region_held_drew (S := fun W => Ext ws3 W) (by kernel_rfl) HV.out.2.drew (fun hHeld => ?_)
                      refine takeL (i := 0) (v := ?_) rfl (by kernel_rfl) (by kernel_rfl) (by kernel_rfl) (fun _ _ _ h => h) (Or.inl ⟨by rfl, ?_⟩) (by assumption) ?_; rotate_left; (focus (intro wq hSw; (try dsimp only at hSw); go_simp; try with_reducible rfl)); (try simp only [Act.put, List.setIfInBounds_toArray, List.set_cons_zero, List.set_cons_succ])
                      refine takeL (i := 1) (v := ?_) rfl (by kernel_rfl) (by kernel_rfl) (by kernel_rfl) (fun _ _ _ h => h) (Or.inl ⟨by rfl, ?_⟩) (by assumption) ?_; rotate_left; (focus (intro wq hSw; (try dsimp only at hSw); go_simp; try with_reducible rfl)); (try simp only [Act.put, List.setIfInBounds_toArray, List.set_cons_zero, List.set_cons_succ])
                      refine takeL (i := 2) (v := ?_) rfl (by kernel_rfl) (by kernel_rfl) (by kernel_rfl) (fun _ _ _ h => h) (Or.inl ⟨by rfl, ?_⟩) (by assumption) ?_; rotate_left; (focus (intro wq hSw; (try dsimp only at hSw); go_simp; try with_reducible rfl)); (try simp only [Act.put, List.setIfInBounds_toArray, List.set_cons_zero, List.set_cons_succ])
                      refine takeL (i := 3) (v := ?_) rfl (by kernel_rfl) (by kernel_rfl) (by kernel_rfl) (fun _ _ _ h => h) (Or.inl ⟨by rfl, ?_⟩) (by assumption) ?_; rotate_left; (focus (intro wq hSw; (try dsimp only at hSw); go_simp; try with_reducible rfl)); (try simp only [Act.put, List.setIfInBounds_toArray, List.set_cons_zero, List.set_cons_succ])
                      refine takeL (i := 4) (v := ?_) rfl (by kernel_rfl) (by kernel_rfl) (by kernel_rfl) (fun _ _ _ h => h) (Or.inl ⟨by rfl, ?_⟩) (by assumption) ?_; rotate_left; (focus (intro wq hSw; have hcc := HX1.out wq hSw; clear hSw; go_simp; try with_reducible rfl)); (try simp only [Act.put, List.setIfInBounds_toArray, List.set_cons_zero, List.set_cons_succ])
                      refine takeL (i := 5) (v := ?_) rfl (by kernel_rfl) (by kernel_rfl) (by kernel_rfl) (fun _ _ _ h => h) (Or.inl ⟨by rfl, ?_⟩) (by assumption) ?_; rotate_left; (focus (intro wq hSw; (try dsimp only at hSw); go_simp; try with_reducible rfl)); (try simp only [Act.put, List.setIfInBounds_toArray, List.set_cons_zero, List.set_cons_succ])
                      refine takeL (i := 6) (v := ?_) rfl (by kernel_rfl) (by kernel_rfl) (by kernel_rfl) (fun _ _ _ h => h) (Or.inl ⟨by rfl, ?_⟩) (by assumption) ?_; rotate_left; (focus (intro wq hSw; (try dsimp only at hSw); go_simp; try with_reducible rfl)); (try simp only [Act.put, List.setIfInBounds_toArray, List.set_cons_zero, List.set_cons_succ])
                      refine takeL (i := 7) (v := ?_) rfl (by kernel_rfl) (by kernel_rfl) (by kernel_rfl) (fun _ _ _ h => h) (Or.inl ⟨by rfl, ?_⟩) (by assumption) ?_; rotate_left; (focus (intro wq hSw; have hcc := HX2.out wq hSw; clear hSw; go_simp; try with_reducible rfl)); (try simp only [Act.put, List.setIfInBounds_toArray, List.set_cons_zero, List.set_cons_succ])
                      refine takeL (i := 8) (v := ?_) rfl (by kernel_rfl) (by kernel_rfl) (by kernel_rfl) (fun _ _ _ h => h) (Or.inl ⟨by rfl, ?_⟩) (by assumption) ?_; rotate_left; (focus (intro wq hSw; (try dsimp only at hSw); go_simp; try with_reducible rfl)); (try simp only [Act.put, List.setIfInBounds_toArray, List.set_cons_zero, List.set_cons_succ])
                      refine takeL (i := 9) (v := ?_) rfl (by kernel_rfl) (by kernel_rfl) (by kernel_rfl) (fun _ _ _ h => h) (Or.inl ⟨by rfl, ?_⟩) (by assumption) ?_; rotate_left; (focus (intro wq hSw; (try dsimp only at hSw); go_simp; try with_reducible rfl)); (try simp only [Act.put, List.setIfInBounds_toArray, List.set_cons_zero, List.set_cons_succ])
                      refine takeL (i := 10) (v := ?_) rfl (by kernel_rfl) (by kernel_rfl) (by kernel_rfl) (fun _ _ _ h => h) (Or.inl ⟨by rfl, ?_⟩) (by assumption) ?_; rotate_left; (focus (intro wq hSw; (try dsimp only at hSw); go_simp; try with_reducible rfl)); (try simp only [Act.put, List.setIfInBounds_toArray, List.set_cons_zero, List.set_cons_succ])
                      refine takeL (i := 11) (v := ?_) rfl (by kernel_rfl) (by kernel_rfl) (by kernel_rfl) (fun _ _ _ h => h) (Or.inl ⟨by rfl, ?_⟩) (by assumption) ?_; rotate_left; (focus (intro wq hSw; have hcc := HX3.out wq hSw; clear hSw; go_simp; try with_reducible rfl)); (try simp only [Act.put, List.setIfInBounds_toArray, List.set_cons_zero, List.set_cons_succ])
                      refine takeL (i := 12) (v := ?_) rfl (by kernel_rfl) (by kernel_rfl) (by kernel_rfl) (fun _ _ _ h => h) (Or.inl ⟨by rfl, ?_⟩) (by assumption) ?_; rotate_left; (focus (intro wq hSw; (try dsimp only at hSw); go_simp; try with_reducible rfl)); (try simp only [Act.put, List.setIfInBounds_toArray, List.set_cons_zero, List.set_cons_succ])
                      refine takeL (i := 13) (v := ?_) rfl (by kernel_rfl) (by kernel_rfl) (by kernel_rfl) (fun _ _ _ h => h) (Or.inl ⟨by rfl, ?_⟩) (by assumption) ?_; rotate_left; (focus (intro wq hSw; (try dsimp only at hSw); go_simp; try with_reducible rfl)); (try simp only [Act.put, List.setIfInBounds_toArray, List.set_cons_zero, List.set_cons_succ])
                      refine takeL (i := 14) (v := ?_) rfl (by kernel_rfl) (by kernel_rfl) (by kernel_rfl) (fun _ _ _ h => h) (Or.inl ⟨by rfl, ?_⟩) (by assumption) ?_; rotate_left; (focus (intro wq hSw; (try dsimp only at hSw); go_simp; try with_reducible rfl)); (try simp only [Act.put, List.setIfInBounds_toArray, List.set_cons_zero, List.set_cons_succ])
                      refine takeL (i := 15) (v := ?_) rfl (by kernel_rfl) (by kernel_rfl) (by kernel_rfl) (fun _ _ _ h => h) (Or.inl ⟨by rfl, ?_⟩) (by assumption) ?_; rotate_left; (focus (intro wq hSw; (try dsimp only at hSw); go_simp; try with_reducible rfl)); (try simp only [Act.put, List.setIfInBounds_toArray, List.set_cons_zero, List.set_cons_succ])
                      refine takeL (i := 16) (v := ?_) rfl (by kernel_rfl) (by kernel_rfl) (by kernel_rfl) (fun _ _ _ h => h) (Or.inl ⟨by rfl, ?_⟩) (by assumption) ?_; rotate_left; (focus (intro wq hSw; have hcc := HX4.out wq hSw; clear hSw; go_simp; try with_reducible rfl)); (try simp only [Act.put, List.setIfInBounds_toArray, List.set_cons_zero, List.set_cons_succ])
                      refine takeL (i := 17) (v := ?_) rfl (by kernel_rfl) (by kernel_rfl) (by kernel_rfl) (fun _ _ _ h => h) (Or.inl ⟨by rfl, ?_⟩) (by assumption) ?_; rotate_left; (focus (intro wq hSw; (try dsimp only at hSw); go_simp; try with_reducible rfl)); (try simp only [Act.put, List.setIfInBounds_toArray, List.set_cons_zero, List.set_cons_succ])
                      refine takeL (i := 18) (v := ?_) rfl (by kernel_rfl) (by kernel_rfl) (by kernel_rfl) (fun _ _ _ h => h) (Or.inl ⟨by rfl, ?_⟩) (by assumption) ?_; rotate_left; (focus (intro wq hSw; (try dsimp only at hSw); go_simp; try with_reducible rfl)); (try simp only [Act.put, List.setIfInBounds_toArray, List.set_cons_zero, List.set_cons_succ])
                      refine takeL (i := 19) (v := ?_) rfl (by kernel_rfl) (by kernel_rfl) (by kernel_rfl) (fun _ _ _ h => h) (Or.inl ⟨by rfl, ?_⟩) (by assumption) ?_; rotate_left; (focus (intro wq hSw; (try dsimp only at hSw); go_simp; try with_reducible rfl)); (try simp only [Act.put, List.setIfInBounds_toArray, List.set_cons_zero, List.set_cons_succ])
                      refine takeL (i := 20) (v := ?_) rfl (by kernel_rfl) (by kernel_rfl) (by kernel_rfl) (fun _ _ _ h => h) (Or.inl ⟨by rfl, ?_⟩) (by assumption) ?_; rotate_left; (focus (intro wq hSw; have hcc := HX1.out wq hSw; clear hSw; go_simp; try with_reducible rfl)); (try simp only [Act.put, List.setIfInBounds_toArray, List.set_cons_zero, List.set_cons_succ])
                      refine takeL (i := 21) (v := ?_) rfl (by kernel_rfl) (by kernel_rfl) (by kernel_rfl) (fun _ _ _ h => h) (Or.inl ⟨by rfl, ?_⟩) (by assumption) ?_; rotate_left; (focus (intro wq hSw; (try dsimp only at hSw); go_simp; try with_reducible rfl)); (try simp only [Act.put, List.setIfInBounds_toArray, List.set_cons_zero, List.set_cons_succ])
                      refine takeL (i := 22) (v := ?_) rfl (by kernel_rfl) (by kernel_rfl) (by kernel_rfl) (fun _ _ _ h => h) (Or.inl ⟨by rfl, ?_⟩) (by assumption) ?_; rotate_left; (focus (intro wq hSw; (try dsimp only at hSw); go_simp; try with_reducible rfl)); (try simp only [Act.put, List.setIfInBounds_toArray, List.set_cons_zero, List.set_cons_succ])
                      refine takeL (i := 23) (v := ?_) rfl (by kernel_rfl) (by kernel_rfl) (by kernel_rfl) (fun _ _ _ h => h) (Or.inl ⟨by rfl, ?_⟩) (by assumption) ?_; rotate_left; (focus (intro wq hSw; have hcc := HX5.out wq hSw; clear hSw; go_simp; try with_reducible rfl)); (try simp only [Act.put, List.setIfInBounds_toArray, List.set_cons_zero, List.set_cons_succ])
                      refine takeL (i := 24) (v := ?_) rfl (by kernel_rfl) (by kernel_rfl) (by kernel_rfl) (fun _ _ _ h => h) (Or.inl ⟨by rfl, ?_⟩) (by assumption) ?_; rotate_left; (focus (intro wq hSw; (try dsimp only at hSw); go_simp; try with_reducible rfl)); (try simp only [Act.put, List.setIfInBounds_toArray, List.set_cons_zero, List.set_cons_succ])
                      refine takeL (i := 25) (v := ?_) rfl (by kernel_rfl) (by kernel_rfl) (by kernel_rfl) (fun _ _ _ h => h) (Or.inl ⟨by rfl, ?_⟩) (by assumption) ?_; rotate_left; (focus (intro wq hSw; (try dsimp only at hSw); go_simp; try with_reducible rfl)); (try simp only [Act.put, List.setIfInBounds_toArray, List.set_cons_zero, List.set_cons_succ])
                      have hwr : IntKind.i64.wrap (IntKind.i64.wrap (lj * fc') - IntKind.i64.wrap (fj * lc)) = lj * fc' - fj * lc := by
                        rw [show IntKind.i64.wrap (lj * fc') = lj * fc' from IntWalk.i64_in _ (by omega), show IntKind.i64.wrap (fj * lc) = fj * lc from IntWalk.i64_in _ (by omega)]
                        exact IntWalk.i64_in _ (by omega)
                      simp only [hwr]
                      clear hwr
                      obtain ⟨d, hd⟩ : ∃ d, lj * fc' - fj * lc = d := ⟨_, rfl⟩
                      have hd64 : Int64 d := ⟨by omega, by omega⟩
                      rw [hd] at HS1 ⊢
                      clear p1 p2 hd
                      have hsz4 := HV.out.2.size
                      have HD := Lib.hid hd64
                      clear hd64
                      refine consL (i := 26) (by kernel_rfl) rfl (fun K hK => ?_); go_simp; refine hK.out _ _ ?_ (fun hHeld => ?_); rotate_left; clear hK K; rotate_right; (focus (exact hHeld.alloc _)); (try simp only [Act.put, List.setIfInBounds_toArray, List.set_cons_zero, List.set_cons_succ])
                      refine consL (i := 27) (by kernel_rfl) rfl (fun K hK => ?_)
                      refine step_append_lies rfl _ _ _ rfl ws3.heap.size 3 i0 _ 1 8 Try.underlying22 hi0 hz0 hz1 hz2 rfl (by omega) _ _ (ivals (stepL first li c' j)) rfl (owns_ext ((Ext.refl ws4).alloc _).drew HV.out.1) ⟨ws4.drew.heap.size, 0, none⟩ 1 1 (ivals [d]) rfl rfl (fun j u hu => ints_news (ints_one ws4 d HD.out) (by omega) j u hu) (ivals_one _) (by omega) (by rw [maxLen]; omega) (by omega) hHeld.size _ rfl ?_
                      intro g2 cap2 w5 hown hgrow hat hlt1
                      have HR := Lib.hid (show VRow w5 ws3.heap.size (.slice (some ⟨g2, 0, none⟩) (j + 1) cap2) (stepL first li c' (j + 1)) ∧ Ext ws3 w5 from
                        ⟨by rw [HS1.out]; have h5 := VRow.app (m := 1) rfl hown; rw [hsl] at h5; exact h5, ext_grown hHeld hgrow (fun g hg => (owns_lt HV.out.1 hg).1)⟩)
                      clear hown hgrow hat
                      refine hK.out _ _ ?_ (fun hHeld => ?_)
                      rotate_left
                      clear hK K
                      rotate_right
                      focus exact HR.out.2
                      (try simp only [Act.put, List.setIfInBounds_toArray, List.set_cons_zero, List.set_cons_succ])
                      refine consL (i := 28) (by kernel_rfl) rfl (fun K hK => ?_); go_simp; refine hK.out _ _ ?_ (fun hHeld => ?_); rotate_left; clear hK K; rotate_right; (focus (exact HR.out.2)); (try simp only [Act.put, List.setIfInBounds_toArray, List.set_cons_zero, List.set_cons_succ])
                      refine doneL (by kernel_rfl) ?_
                      go_wp2_with fail
                      go_roundw
                      case rel => exact ⟨j + 1, by omega, by go_num, HR.out.1, HR.out.2⟩
                      case measure => first | (simp [intOf]; done) | (simp [intOf]; omega)
                    · obtain rfl : j = in' := by omega
                      have hsl := stepL_len first li c' j
                      have hbd : ∀ y, y < j → ((stepL first li c' j).getD y 0).natAbs ≤ 2147483648 := fun y hy => by
                        rw [stepL_get hy]
                        exact (PB.step HB.out.2.2 (HB.out.1 y) (HB.out.2.1 c') (HB.out.2.1 y) (HB.out.1 c')).big (by have := HB.out.2.2; omega)
                      obtain ⟨na, nc, rfl, hnI⟩ := HV.out.1.ints (by omega) (fun y hy => by have := hbd y (by omega); exact ⟨by omega, by omega⟩)
                      rw [hsl] at hnI ⊢
                      have HNI := Lib.hid hnI
                      have HBD := Lib.hid hbd
                      clear hnI hbd
                      have x3' := HV.out.2.cell x3
                      clear x3 x4 x5
                      go_wp2_with fail
                      refine (divided_c na j nc _ _ HNI.out (by omega) (fun x hx => ?_)).mono ?_
                      · obtain ⟨y, hy, rfl⟩ := List.getElem_of_mem hx
                        have := HBD.out y (by omega)
                        rw [getD_get hy] at this
                        omega
                      rintro e w6 ⟨v, u, gq, rfl, hVu, hul, hgq, hqe, hx6⟩
                      have hqe' : ∀ y, y < j → u.getD y 0 * gq = ent L3 i y * first.getD c' 0 - first.getD y 0 * ent L3 i c' := fun y hy => by
                        unfold ent
                        rw [HI.out.2, ← stepL_get hy]
                        exact hqe y hy
                      have hub : ∀ y, y < j → (u.getD y 0).natAbs ≤ 2147483648 := fun y hy => by
                        have h1 := HBD.out y hy
                        rw [← hqe y hy, Int.natAbs_mul] at h1
                        have : (u.getD y 0).natAbs * 1 ≤ (u.getD y 0).natAbs * gq.natAbs := Nat.mul_le_mul_left _ (by omega)
                        omega
                      obtain ⟨ua, uc, rfl, huI⟩ := hVu.ints (by omega) (fun y hy => by have := hub y (by omega); exact ⟨by omega, by omega⟩)
                      rw [hul] at huI ⊢
                      have hK6 := HK.out.1.keep (HV.out.2.trans hx6)
                      have f6 := hK6.free i
                      have x6 := hK6.at him
                      obtain ⟨W7, hp7, hpi7⟩ : ∃ W7, W7 = w6.setCell ⟨g, i, none⟩ (.slice ua j uc) ∧ (RkI w W7 g m j (gs3.set i ⟨ua, j, uc⟩) (L3.set i u) ∧ IK w6 W7) := ⟨_, rfl, hK6.put (s := ⟨ua, j, uc⟩) (l := u) him rfl huI⟩
                      have HN := Lib.hid (show RkI w W7 g m j (gs3.set i ⟨ua, j, uc⟩) (L3.set i u) ∧ RkQ (InL L) j c' rk (i + 1) first (L3.set i u) ∧ Ints W7 (some ⟨kb, ko, none⟩) j first from
                        ⟨hpi7.1, HK.out.2.1.step (by omega) hul hgq hlt hqe', (HK.out.2.2.keep (HV.out.2.trans hx6).ik).keep hpi7.2⟩)
                      have HZ7 := Lib.hid hp7
                      clear hp7 hpi7 hK6 huI hub hqe' hqe hx6 hVu
                      go_wp2_with fail
                      rw [← HZ7.out]
                      clear HZ7
                      go_roundw
                      case rel => exact ⟨i + 1, _, _, by omega, by omega, by go_num, HN.out.1, HN.out.2.1, HN.out.2.2⟩
                      case measure => first | (simp [intOf]; done) | (simp [intOf]; omega)
                · obtain rfl : i = m := by omega
                  have hP := HK.out.2.1.done hL3.symm
                  have HP := Lib.hid hP
                  clear hK3 hQ3 hf3 hP
                  go_wp2_with fail
                  go_roundw
                  case rel => exact ⟨c' + 1, rk + 1, gs3, L3, by omega, by go_num, by go_num, HK.out.1, HP.out⟩
                  case measure => first | (simp [intOf]; done) | (simp [intOf]; omega)
          · obtain rfl : k = m := by omega
            clear hz hE
            go_wp2_with fail
            go_roundw
            case rel => exact ⟨c' + 1, rk, gs', L', by omega, by go_num, rfl, HK.out.1.keep HZ.out.2, HK.out.2.skip (fun j h1 h2 => HZ.out.1 j h1 (by rw [HK.out.1.Ll] at h2; exact h2))⟩
            case measure => simp [intOf]; omega
      · obtain rfl : c' = fn := by omega
        go_wp2_with fail
        go_ret
        exact ⟨⟨rk, rfl, HK.out.2.inv.cnt⟩, HK.out.1.ext⟩
/- meresmanref30: determined. -/
open Go.RowKit

/-- A list of rows of the call's own. -/
structure Rws (W : World) (base n : Nat) (v : Value) (rs : List Sl) (Rs : List (List Int)) : Prop where
  own : W.ownsRow base 22 1 v Rs.length (rs.map Sl.v)
  ni : NIv W v
  len : rs.length = Rs.length
  rows : ∀ i, i < Rs.length → (rs.getD i sl0).n = n ∧ Ints W (rs.getD i sl0).a n (Rs.getD i [])
theorem Rws.nil (W : World) (base n : Nat) : Rws W base n (.slice none 0 0) [] [] := ⟨⟨rfl, .inl ⟨rfl, rfl⟩⟩, NIv.nil W, rfl, fun i hi => absurd hi (by simp)⟩
theorem Rws.ext {W W' : World} {base n : Nat} {v : Value} {rs : List Sl} {Rs : List (List Int)} (h : Rws W base n v rs Rs) (k : Ext W W') : Rws W' base n v rs Rs :=
  ⟨owns_ext k h.own, h.ni.ext k h.own, h.len, fun i hi => ⟨(h.rows i hi).1, (h.rows i hi).2.keep k.ik⟩⟩
theorem Rws.add {W W' : World} {base n g cap rc : Nat} {v : Value} {rs : List Sl} {Rs : List (List Int)} {ra : Option Addr} {R : List Int} (h : Rws W base n v rs Rs) (hR : Ints W ra n R)
    (hown : W'.ownsRow base 22 1 (.slice (some ⟨g, 0, none⟩) (Rs.length + 1) cap) (Rs.length + 1) (rs.map Sl.v ++ [.slice ra n rc])) (hik : IK W W') (hni : NI W' g) :
    Rws W' base n (.slice (some ⟨g, 0, none⟩) (Rs.length + 1) cap) (rs ++ [⟨ra, n, rc⟩]) (Rs ++ [R]) := by
  refine ⟨by simpa using hown, fun g' hg => by simp [Value.ownBlock] at hg; subst hg; exact hni, by simp [h.len], fun i hi => ?_⟩
  by_cases hi' : i < Rs.length
  · rw [getD_app (by rw [h.len]; exact hi'), getD_app hi']
    exact ⟨(h.rows i hi').1, (h.rows i hi').2.keep hik⟩
  · have : i = Rs.length := by simp at hi; omega
    rw [getD_last (by rw [h.len]; exact this), getD_last this]
    exact ⟨rfl, hR.keep hik⟩
theorem Rws.grps {W : World} {base n : Nat} {v : Value} {rs : List Sl} {Rs : List (List Int)} (h : Rws W base n v rs Rs) (hl : Rs.length ≤ 1000) : ∃ a c, v = .slice a Rs.length c ∧ Grps W a Rs.length rs Rs := by
  have hrow : ∀ i, i < Rs.length → Ints W (rs.getD i sl0).a (rs.getD i sl0).n (Rs.getD i []) := fun i hi => by rw [(h.rows i hi).1]; exact (h.rows i hi).2
  obtain ⟨h0, ⟨hv, hn⟩ | ⟨g, cap, cur, hv, hb, hh, hle, _, _, htk⟩⟩ := h.own
  · exact ⟨none, 0, by rw [hv, hn], h.len, rfl, by omega, .inl hn, hrow⟩
  · refine ⟨some ⟨g, 0, none⟩, cap, hv, h.len, rfl, by omega, .inr ⟨g, 0, rfl, lt_of_block hh, fun i hi => ?_⟩, hrow⟩
    have p1 : (rs.map Sl.v)[i]? = some (rs.getD i sl0).v := by
      have : i < rs.length := by rw [h.len]; exact hi
      simp [this]
    rw [← htk, List.getElem?_take_of_lt (by omega)] at p1
    simp [World.cell?, hh]; simpa using p1
/-- The rows of the published ones of the first i sets. -/
def pubR (n : Nat) (Ls : List (List Int)) (hs : List Bool) : Nat → List (List Int)
  | 0 => []
  | i + 1 => if hs.getD i false = false then pubR n Ls hs i ++ [rowI n (Ls.getD i [])] else pubR n Ls hs i
theorem pubR_len (n : Nat) (Ls : List (List Int)) (hs : List Bool) : ∀ i, (pubR n Ls hs i).length ≤ i
  | 0 => Nat.le_refl _
  | i + 1 => by
    have := pubR_len n Ls hs i
    unfold pubR
    split
    · rw [List.length_append, List.length_singleton]; omega
    · omega
theorem pubR_mem (n : Nat) (Ls : List (List Int)) (hs : List Bool) : ∀ i l, l ∈ pubR n Ls hs i ↔ ∃ k, k < i ∧ hs.getD k false = false ∧ l = rowI n (Ls.getD k [])
  | 0, l => ⟨fun h => absurd h (by simp [pubR]), fun ⟨k, hk, _⟩ => absurd hk (by omega)⟩
  | i + 1, l => by
    have ih := pubR_mem n Ls hs i l
    unfold pubR
    constructor
    · intro h
      split at h
      · rename_i hp
        rcases List.mem_append.1 h with h | h
        · obtain ⟨k, h1, h2⟩ := ih.1 h
          exact ⟨k, by omega, h2⟩
        · simp at h
          exact ⟨i, by omega, hp, h⟩
      · obtain ⟨k, h1, h2⟩ := ih.1 h
        exact ⟨k, by omega, h2⟩
    · rintro ⟨k, h1, h2, h3⟩
      by_cases e : k = i
      · subst e
        rw [if_pos h2]
        exact List.mem_append.2 (.inr (by simp [h3]))
      · have := ih.2 ⟨k, by omega, h2, h3⟩
        split
        · exact List.mem_append.2 (.inl this)
        · exact this
theorem pubR_span {n : Nat} {Ls : List (List Int)} (hs : List Bool) (i : Nat) (hc : ∀ k x, x ∈ Ls.getD k [] → x < (n : Int)) : InL (pubR n Ls hs i) = Pub Ls hs i := funext fun u => propext ⟨fun ⟨l, hl, e⟩ => by
    obtain ⟨k, h1, h2, rfl⟩ := (pubR_mem n Ls hs i l).1 hl
    exact ⟨k, h1, h2, by rw [← e, rowI_vec (hc k)]⟩, fun ⟨k, h1, h2, e⟩ => ⟨rowI n (Ls.getD k []), (pubR_mem n Ls hs i _).2 ⟨k, h1, h2, rfl⟩, by rw [e, rowI_vec (hc k)]⟩⟩
theorem pubR_span1 {n : Nat} {Ls : List (List Int)} (hs : List Bool) (i k : Nat) (hc : ∀ k x, x ∈ Ls.getD k [] → x < (n : Int)) : InL (pubR n Ls hs i ++ [rowI n (Ls.getD k [])]) = fun u => Pub Ls hs i u ∨ u = rowV (Ls.getD k []) := by
  rw [← pubR_span hs i hc]
  refine funext fun u => propext ⟨fun ⟨l, hl, e⟩ => ?_, fun h => ?_⟩
  · rcases List.mem_append.1 hl with hl | hl
    · exact .inl ⟨l, hl, e⟩
    · rw [List.mem_singleton] at hl
      exact .inr (by rw [← e, hl, rowI_vec (hc k)])
  · rcases h with ⟨l, hl, e⟩ | e
    · exact ⟨l, List.mem_append.2 (.inl hl), e⟩
    · exact ⟨_, List.mem_append.2 (.inr (List.mem_singleton.2 rfl)), by rw [e, rowI_vec (hc k)]⟩
theorem rowI_6 {n : Nat} {L : List Int} (h : ∀ x, x ∈ L → x < 6) (y : Nat) (hy : 6 ≤ y) : (rowI n L).getD y 0 = 0 := by
  rw [rowI_get]
  split
  · rw [if_neg]
    intro hm
    have := h _ hm
    omega
  · rfl
theorem pubR_6 {n : Nat} {Ls : List (List Int)} {hs : List Bool} (i : Nat) (h : ∀ k x, x ∈ Ls.getD k [] → x < 6) (j y : Nat) (hy : 6 ≤ y) : ent (pubR n Ls hs i) j y = 0 := by
  unfold ent
  by_cases hj : j < (pubR n Ls hs i).length
  · have hm : (pubR n Ls hs i).getD j [] ∈ pubR n Ls hs i := by
      rw [List.getD_eq_getElem?_getD, List.getElem?_eq_getElem hj]; exact List.getElem_mem hj
    obtain ⟨k, _, _, e⟩ := (pubR_mem n Ls hs i _).1 hm
    rw [e]
    exact rowI_6 (h k) y hy
  · rw [List.getD_eq_getElem?_getD (l := pubR n Ls hs i), List.getElem?_eq_none (by omega)]; rfl
theorem app_6 {n : Nat} {Rs : List (List Int)} {L : List Int} (h : ∀ j y, 6 ≤ y → ent Rs j y = 0) (hL : ∀ x, x ∈ L → x < 6) (j y : Nat) (hy : 6 ≤ y) : ent (Rs ++ [rowI n L]) j y = 0 := by
  unfold ent
  by_cases hj : j < Rs.length
  · rw [getD_app hj]; exact h j y hy
  · by_cases e : j = Rs.length
    · rw [getD_last e]; exact rowI_6 hL y hy
    · rw [List.getD_eq_getElem?_getD (l := Rs ++ [rowI n L]), List.getElem?_eq_none (by simp; omega)]; rfl
theorem pubR_01 {n : Nat} {Ls : List (List Int)} {hs : List Bool} {i : Nat} (l : List Int) (hl : l ∈ pubR n Ls hs i) (x : Int) (hx : x ∈ l) : x = 0 ∨ x = 1 := by
  obtain ⟨k, _, _, rfl⟩ := (pubR_mem n Ls hs i l).1 hl
  exact rowI_01 _ _ x hx
/-- What the reference decides by ranks. -/
theorem rank_det {n : Nat} {Ls : List (List Int)} {hs : List Bool} (hf : FewOK Ls) (hc : ∀ k x, x ∈ Ls.getD k [] → x < (n : Int)) {k a b : Nat} (h1 : RankN (InL (pubR n Ls hs Ls.length)) n a) (h2 : RankN (InL (pubR n Ls hs Ls.length ++ [rowI n (Ls.getD k [])])) n b) :
    ((b : Int) == (a : Int)) = dB Ls hs k := by
  rw [pubR_span hs _ hc] at h1
  rw [pubR_span1 hs _ k hc] at h2
  have h := solve_ok hs hf hc Ls.length (Nat.le_refl _)
  have hr := rank_iff h.red h.redz h.supp (rowV_supp (hc k)) (fun x => solve_span hs hf hc Ls.length (Nat.le_refl _) x) h1 h2
  refine dB_of ?_
  unfold Det
  rw [← hr, beq_iff_eq]
  omega
set_option maxRecDepth 100000 in
set_option maxHeartbeats 4000000 in
theorem rdet_c (n m : Nat) (ss vs : Sl) (gs : List Sl) (Ls : List (List Int)) (ha : Option Addr) (hc : Nat) (hs : List Bool) (k : Nat) (w : World) (hG : SheetOK w n ss gs Ls) (hm : Ls.length = m) (hf : FewOK Ls) (hn : n ≤ 1000) (hm1 : m ≤ 900) (h6 : ∀ k x, x ∈ Ls.getD k [] → x < 6) (hH : Bls w ha m hs) (hk : k < m) :
    Calls Try.prog 38 #[.agg #[.int .i64 (n : Int), ss.v, vs.v], .slice ha m hc, .int .i64 (k : Int)] w fun e w' => e = .returned (.bool (dB Ls hs k)) ∧ Ext w w' := by
  obtain ⟨j0, hj0, hy0, hy1, hy2⟩ := info_parts intsInfo
  have hsn := hG.grps.2.1
  obtain ⟨sa, sn, sc⟩ := ss
  obtain ⟨va, vn, vc⟩ := vs
  simp only at hsn
  obtain rfl : sn = m := by omega
  simp only [Sl.v]
  obtain ⟨B, hB⟩ : ∃ B, w.heap.size = B := ⟨_, rfl⟩
  have HG := Lib.hid (And.intro hG (And.intro hf (And.intro h6 hH)))
  clear hG hf h6 hH
  go_enter Try.func38, Try.ntmps38
  go_upto_region 1 with (fail)
  refine wp_gen (fun W => Ext w W ∧ Blk W B #[.int .i64 (n : Int), .slice sa sn sc, .slice va vn vc] 25) ⟨(by repeat (first | exact Ext.refl _ | assumption | refine Ext.setCell ?_ (by first | (simp; done) | (simp; omega) | omega) _ | refine Ext.alloc ?_ _ | refine Ext.drew ?_ | refine Ext.trans ?_ (by assumption))), Blk.at _ _ hB.symm⟩ ?_
  rintro V ⟨E0, B0⟩
  have HV := Lib.hid (And.intro E0 B0)
  clear E0 B0
  go_wp2_with fail
  go_loopw [7, 8] (fun rv iv ws => ∃ (i : Nat) (rs : List Sl), i ≤ sn ∧ iv = .int .i64 (i : Int) ∧ Rws ws V.heap.size n rv rs (pubR n Ls hs i) ∧ Ext V ws) (fun _ iv _ => sn - (intOf iv).toNat)
  case atStart => exact ⟨0, [], by omega, rfl, Rws.nil _ _ _, Ext.refl _⟩
  case round =>
    obtain ⟨i, rs, hi, rfl, hR, hE⟩ := hrel
    have HR := Lib.hid (And.intro hR hE)
    have hb := HV.out.2.ext hE
    have x0 : wr.cell? ⟨B, 0, none⟩ = some (.int .i64 (n : Int)) := hb.cell 0
    have x1 : wr.cell? ⟨B, 1, none⟩ = some (.slice sa sn sc) := hb.cell 1
    have x2 : wr.cell? ⟨B, 2, none⟩ = some (.slice va vn vc) := hb.cell 2
    have hsz := hE.size
    clear hR hE hb
    by_cases hlt : i < sn
    · obtain ⟨hbk, ho, rfl, _, hcell⟩ := (HG.out.2.2.2.ext (HV.out.1.trans HR.out.2)).at i hlt
      have i0 : (0 : Int) ≤ (i : Int) := by omega
      have i1 : (i : Int) < (sn : Int) := by omega
      obtain ⟨y, hy⟩ : ∃ y, hs.getD i false = y := ⟨_, rfl⟩
      rw [hy] at hcell
      have HY := Lib.hid hy
      clear hy
      cases y with
      | true =>
        go_wp2_with fail
        go_roundw
        case rel => exact ⟨i + 1, rs, by omega, by go_num, by unfold pubR; rw [if_neg (by rw [HY.out]; simp)]; exact HR.out.1, HR.out.2⟩
        case measure => simp [intOf]; omega
      | false =>
        go_wp2_with fail
        refine (rrow_c n ⟨sa, sn, sc⟩ ⟨va, vn, vc⟩ gs Ls i _ (HG.out.1.grps.ext (HV.out.1.trans HR.out.2)) HG.out.1.len hn hlt).mono ?_
        rintro e w2 ⟨v, rfl, hV2, hx⟩
        have hpl := pubR_len n Ls hs i
        obtain ⟨ra, rc, rfl, hRI⟩ := hV2.ints (by rw [rowI_len]; omega) (fun y hy => by rw [rowI_get]; split <;> (try split) <;> exact ⟨by omega, by omega⟩)
        rw [rowI_len] at hRI ⊢
        have HX := Lib.hid (show Rws w2 V.heap.size n u7 rs (pubR n Ls hs i) ∧ Ext V w2 ∧ Ints w2 ra n (rowI n (Ls.getD i [])) from ⟨HR.out.1.ext hx, HR.out.2.trans hx, hRI⟩)
        have hsz2 := HX.out.2.1.size
        have HP := Lib.hid (show pubR n Ls hs (i + 1) = pubR n Ls hs i ++ [rowI n (Ls.getD i [])] from by rw [pubR, if_pos HY.out])
        obtain ⟨P, hP⟩ : ∃ P, pubR n Ls hs i = P := ⟨_, rfl⟩
        rw [hP] at HX HP hpl
        have hrl : (rs.map Sl.v).length = P.length := by simpa using HX.out.1.len
        clear hV2 hx hRI x0 x1 x2 hcell hP
        go_wp2_with (at_builtin; refine wpList_append_ni _ rfl _ _ _ rfl V.heap.size 22 j0 _ 1 24 Try.underlying23 hj0 hy0 hy1 hy2 rfl (by omega) _ P.length (rs.map Sl.v) rfl (owns_ext ((Ext.refl w2).alloc _) HX.out.1.own) ⟨w2.heap.size, 0, none⟩ 1 1 [.slice ra n rc] rfl rfl (World.news_of_block (cs := #[.slice ra n rc]) (t := 22) (fr := (0, 0)) (heap_alloc_new w2 _)) (by simp [Value.oneCell']) (by omega) (by rw [maxLen]; omega) (by omega) (by simp; omega) _ rfl (HX.out.1.ni.ext ((Ext.refl w2).alloc _) HX.out.1.own) (slv_ni rs) (slv_ni [⟨ra, n, rc⟩]) (by simp [Value.cells]) ?_)
        intro g cap w3 hown hgrow hat hlt1 hik hni
        have HN := Lib.hid (show Rws w3 V.heap.size n (.slice (some ⟨g, 0, none⟩) (P.length + 1) cap) (rs ++ [⟨ra, n, rc⟩]) (pubR n Ls hs (i + 1)) ∧ Ext V w3 from
          ⟨by rw [HP.out]; exact (HX.out.1.ext ((Ext.refl w2).alloc _)).add (HX.out.2.2.keep ((Ext.refl w2).alloc _).ik) hown hik hni, ext_grown (HX.out.2.1.alloc _) hgrow (fun g hg => (owns_lt HX.out.1.own hg).1)⟩)
        clear hown hgrow hat hlt1 hik hni
        go_wp2_with fail
        go_roundw
        case rel => exact ⟨i + 1, _, by omega, by go_num, HN.out.1, HN.out.2⟩
        case measure => simp [intOf]; omega
    · obtain rfl : i = sn := by omega
      have hpl := pubR_len n Ls hs i
      obtain ⟨ga, gc, rfl, hGr⟩ := HR.out.1.grps (by omega)
      have hcl : ∀ k x, x ∈ Ls.getD k [] → x < (n : Int) := fun k x hx => (HG.out.1.cell k x hx).2
      have HC := Lib.hid hcl
      have HGr := Lib.hid hGr
      clear hcl hGr
      go_wp2_with fail
      refine (Rank_c ga _ gc n rs _ _ HGr.out (by omega) hn (fun j hj => (HR.out.1.rows j hj).1) pubR_01 (pubR_6 i HG.out.2.2.1)).mono ?_
      rintro e w4 ⟨⟨a, rfl, hra⟩, hx4⟩
      have hb4 := HV.out.2.ext (HR.out.2.trans hx4)
      have x0 : w4.cell? ⟨B, 0, none⟩ = some (.int .i64 (n : Int)) := hb4.cell 0
      have x1 : w4.cell? ⟨B, 1, none⟩ = some (.slice sa i sc) := hb4.cell 1
      have x2 : w4.cell? ⟨B, 2, none⟩ = some (.slice va vn vc) := hb4.cell 2
      have HR4 := Lib.hid (show Rws w4 V.heap.size n _ rs (pubR n Ls hs i) ∧ Ext V w4 from ⟨HR.out.1.ext hx4, HR.out.2.trans hx4⟩)
      have HA := Lib.hid hra
      clear hra hx4 hb4
      go_wp2_with fail
      refine (rrow_c n ⟨sa, i, sc⟩ ⟨va, vn, vc⟩ gs Ls k _ (HG.out.1.grps.ext (HV.out.1.trans HR4.out.2)) HG.out.1.len hn hk).mono ?_
      rintro e w2 ⟨v, rfl, hV2, hx⟩
      obtain ⟨ra, rc, rfl, hRI⟩ := hV2.ints (by rw [rowI_len]; omega) (fun y hy => by rw [rowI_get]; split <;> (try split) <;> exact ⟨by omega, by omega⟩)
      rw [rowI_len] at hRI ⊢
      have HX := Lib.hid (show Rws w2 V.heap.size n (.slice ga (pubR n Ls hs i).length gc) rs (pubR n Ls hs i) ∧ Ext V w2 ∧ Ints w2 ra n (rowI n (Ls.getD k [])) from ⟨HR4.out.1.ext hx, HR4.out.2.trans hx, hRI⟩)
      have hsz2 := HX.out.2.1.size
      have HP6 := Lib.hid (show (∀ j y, 6 ≤ y → ent (pubR n Ls hs i ++ [rowI n (Ls.getD k [])]) j y = 0) ∧ (∀ l, l ∈ pubR n Ls hs i ++ [rowI n (Ls.getD k [])] → ∀ x, x ∈ l → x = 0 ∨ x = 1) from ⟨app_6 (pubR_6 i HG.out.2.2.1) (HG.out.2.2.1 k), fun l hl => by
        rcases List.mem_append.1 hl with hl | hl
        · exact pubR_01 l hl
        · rw [List.mem_singleton] at hl; subst hl; exact rowI_01 _ _⟩)
      have HRD := Lib.hid (fun b hb => rank_det (hs := hs) (k := k) (a := a) (b := b) HG.out.2.1 HC.out (by rw [hm]; exact HA.out) (by rw [hm]; exact hb))
      obtain ⟨P, hP⟩ : ∃ P, pubR n Ls hs i = P := ⟨_, rfl⟩
      rw [hP] at HX HP6 hpl HRD ⊢
      have hrl : (rs.map Sl.v).length = P.length := by simpa using HX.out.1.len
      clear hV2 hx hRI x0 x1 x2 hP HA
      go_wp2_with (at_builtin; refine wpList_append_ni _ rfl _ _ _ rfl V.heap.size 22 j0 _ 1 24 Try.underlying23 hj0 hy0 hy1 hy2 rfl (by omega) _ P.length (rs.map Sl.v) rfl (owns_ext ((Ext.refl w2).alloc _) HX.out.1.own) ⟨w2.heap.size, 0, none⟩ 1 1 [.slice ra n rc] rfl rfl (World.news_of_block (cs := #[.slice ra n rc]) (t := 22) (fr := (0, 0)) (heap_alloc_new w2 _)) (by simp [Value.oneCell']) (by omega) (by rw [maxLen]; omega) (by omega) (by simp; omega) _ rfl (HX.out.1.ni.ext ((Ext.refl w2).alloc _) HX.out.1.own) (slv_ni rs) (slv_ni [⟨ra, n, rc⟩]) (by simp [Value.cells]) ?_)
      intro g cap w3 hown hgrow hat hlt1 hik hni
      have hN := (HX.out.1.ext ((Ext.refl w2).alloc _)).add (HX.out.2.2.keep ((Ext.refl w2).alloc _).ik) hown hik hni
      have hN2 : Ext V w3 := ext_grown (HX.out.2.1.alloc _) hgrow (fun g hg => (owns_lt HX.out.1.own hg).1)
      obtain ⟨ga', gc', e, hGr'⟩ := hN.grps (by simp; omega)
      rw [List.length_append, List.length_singleton] at e hGr'
      injection e with e1 e2 e3
      subst e1; subst e3
      clear e2
      have HN := Lib.hid (And.intro hN (And.intro hN2 hGr'))
      clear hown hgrow hat hlt1 hik hni hN hN2 hGr'
      go_wp2_with fail
      have hP1 : P.length + 1 ≤ 1000 := by omega
      have hrn : ∀ j, j < P.length + 1 → ((rs ++ [(⟨ra, n, rc⟩ : Sl)]).getD j sl0).n = n := fun j hj => (HN.out.1.rows j (by simpa using hj)).1
      have HRN := Lib.hid hrn
      clear hrn
      refine (Rank_c (some ⟨g, 0, none⟩) (P.length + 1) cap n (rs ++ [⟨ra, n, rc⟩]) (P ++ [rowI n (Ls.getD k [])]) _ HN.out.2.2 hP1 hn HRN.out HP6.out.2 HP6.out.1).mono ?_
      rintro e w5 ⟨⟨b, rfl, hrb⟩, hx5⟩
      have hfin := HRD.out b hrb
      have HF := Lib.hid (And.intro hfin (HV.out.1.trans (HN.out.2.1.trans hx5)))
      clear hfin hrb hx5
      go_wp2_with fail
      go_ret
      exact ⟨by rw [← HF.out.1]; rfl, HF.out.2⟩
/- meresmanref30: Valid, check, Determined. -/
open Go.RowKit

set_option maxRecDepth 100000 in
set_option maxHeartbeats 8000000 in
theorem rvalid_c (n : Int) (ss vs : Sl) (gs : List Sl) (Ls : List (List Int)) (zs : List Int) (w : World) (h : ShIn w n ss vs gs Ls zs) :
    Calls Try.prog 14 #[.agg #[.int .i64 n, ss.v, vs.v]] w fun e w' => e = .returned (.int .i64 (validE n Ls zs)) ∧ Ext w w' := by
  obtain ⟨sa, sn, sc⟩ := ss
  obtain ⟨va, vn, vc⟩ := vs
  have hsn := h.grps.2.1
  have hvn := h.vals.1
  have hs1 := h.grps.2.2.1
  have hv1 := h.vals.2.1
  simp only at hsn hvn hs1 hv1
  have H := Lib.hid h
  have HL := Lib.hid (And.intro hsn hvn)
  simp only [Sl.v]
  obtain ⟨B, hB⟩ : ∃ B, w.heap.size = B := ⟨_, rfl⟩
  have start : ∀ W, Ext w W → True := fun _ _ => trivial
  clear h start
  by_cases c1 : 32 < n
  · have HV := Lib.hid (show validE n Ls zs = 4 by unfold validE; rw [if_pos (.inl c1)])
    clear hsn hvn
    go_enter Try.func14, Try.ntmps14
    go_wp2_with fail
    go_ret
    exact ⟨by rw [HV.out]; rfl, (by repeat (first | exact Ext.refl _ | assumption | refine Ext.setCell ?_ (by first | (simp; done) | (simp; omega) | omega) _ | refine Ext.alloc ?_ _ | refine Ext.drew ?_ | refine Ext.trans ?_ (by assumption)))⟩
  by_cases c2 : 128 < sn
  · have HV := Lib.hid (show validE n Ls zs = 4 by unfold validE; rw [if_pos (.inr (by omega))])
    have c2' : (128 : Int) < (sn : Int) := by omega
    clear hsn hvn
    go_enter Try.func14, Try.ntmps14
    go_wp2_with fail
    go_ret
    exact ⟨by rw [HV.out]; rfl, (by repeat (first | exact Ext.refl _ | assumption | refine Ext.setCell ?_ (by first | (simp; done) | (simp; omega) | omega) _ | refine Ext.alloc ?_ _ | refine Ext.drew ?_ | refine Ext.trans ?_ (by assumption)))⟩
  by_cases c3 : n < 0
  · have HV := Lib.hid (show validE n Ls zs = 1 by unfold validE; rw [if_neg (by omega), if_pos (.inl c3)])
    have c2' : ¬ (128 : Int) < (sn : Int) := by omega
    clear hsn hvn
    go_enter Try.func14, Try.ntmps14
    go_wp2_with fail
    go_ret
    exact ⟨by rw [HV.out]; rfl, (by repeat (first | exact Ext.refl _ | assumption | refine Ext.setCell ?_ (by first | (simp; done) | (simp; omega) | omega) _ | refine Ext.alloc ?_ _ | refine Ext.drew ?_ | refine Ext.trans ?_ (by assumption)))⟩
  have HC1 := Lib.hid (And.intro c1 c3)
  by_cases c4 : vn = sn
  · subst c4
    have c2' : ¬ (128 : Int) < (vn : Int) := by omega
    go_enter Try.func14, Try.ntmps14
    go_upto_region 5 with (fail)
    refine wp_gen (fun W => Ext w W ∧ Blk W B #[.int .i64 n, .slice sa vn sc, .slice va vn vc] 25) ⟨(by repeat (first | exact Ext.refl _ | assumption | refine Ext.setCell ?_ (by first | (simp; done) | (simp; omega) | omega) _ | refine Ext.alloc ?_ _ | refine Ext.drew ?_ | refine Ext.trans ?_ (by assumption))), Blk.at _ 25 hB.symm⟩ ?_
    rintro V ⟨E0, B0⟩
    have HB := Lib.hid B0
    have HC := Lib.hid (And.intro (show ¬ 128 < Ls.length by omega) (And.intro (show zs.length = Ls.length by omega) (show Ls.length = vn by omega)))
    have HE := Lib.hid E0
    have x1 : V.cell? ⟨B, 1, none⟩ = some (.slice sa vn sc) := B0.cell 1
    clear hsn hvn E0 B0
    go_upto_region 6 with (fail)
    clear x1
    go_loopw [3] (fun iv ws => ∃ i : Nat, i ≤ vn ∧ iv = .int .i64 (i : Int) ∧ (∀ j, j < i → itemBad n Ls zs j = false) ∧ Ext V ws) (fun iv _ => vn - (intOf iv).toNat)
    case atStart => exact ⟨0, by omega, rfl, fun j hj => absurd hj (by omega), Ext.refl V⟩
    case round =>
      obtain ⟨i, hi, rfl, hz, hE⟩ := hrel
      have HZ := Lib.hid hz
      clear hz
      have y1 : wr.cell? ⟨B, 1, none⟩ = some (.slice sa vn sc) := (HB.out.ext hE).cell 1
      by_cases hlt : i < vn
      · have hEw := HE.out.trans hE
        obtain ⟨gb, go, rfl, hgb, hgc⟩ := (H.out.grps.ext hEw).at i hlt
        obtain ⟨vb, vo, rfl, hvb, hvc⟩ := (H.out.vals.keep hEw.ik).at i hlt
        have HI := Lib.hid (H.out.grps.2.2.2.2 i hlt)
        have hln := (H.out.grps.2.2.2.2 i hlt).1
        have hlm := H.out.len i
        generalize hsg : gs.getD i sl0 = sg at HI hgc hln
        obtain ⟨ga, gn, gc⟩ := sg
        simp only at HI hgc hln
        simp only [Sl.v] at hgc
        have hBr := HB.out.ext hE
        have y0 : wr.cell? ⟨B, 0, none⟩ = some (.int .i64 n) := hBr.cell 0
        have y2 : wr.cell? ⟨B, 2, none⟩ = some (.slice (some ⟨vb, vo, none⟩) vn vc) := hBr.cell 2
        have HEw := Lib.hid hEw
        have HER := Lib.hid hE
        have i0 : (0 : Int) ≤ (i : Int) := by omega
        have i1 : (i : Int) < (vn : Int) := by omega
        clear hEw hE hBr hsg
        by_cases d1 : gn = 0
        · have HV := Lib.hid (validE_bad (n := n) (zs := zs) (by have := HC1.out.1; omega) HC.out.1 (by rw [HC.out.2.2]; exact hlt) (show itemBad n Ls zs i = true by
            unfold itemBad
            rw [List.isEmpty_iff.2 (List.eq_nil_of_length_eq_zero (by omega))]; rfl))
          have d1' : ((gn : Int) == 0) = true := by rw [d1]; rfl
          clear hln hlm d1
          go_wp2_with fail
          go_ret
          exact ⟨by rw [HV.out]; rfl, HEw.out⟩
        have d1' : ((gn : Int) == 0) = false := by rw [beq_eq_false_iff_ne]; omega
        obtain ⟨z, hzz⟩ : ∃ z, zs.getD i 0 = z := ⟨_, rfl⟩
        rw [hzz] at hvc
        have HZZ := Lib.hid hzz
        clear hzz
        by_cases d2 : z < 0
        · have HV := Lib.hid (validE_bad (n := n) (zs := zs) (by have := HC1.out.1; omega) HC.out.1 (by rw [HC.out.2.2]; exact hlt) (show itemBad n Ls zs i = true by
            unfold itemBad
            rw [HZZ.out, decide_eq_true d2]; simp))
          clear hln hlm d1
          go_wp2_with fail
          go_ret
          exact ⟨by rw [HV.out]; rfl, HEw.out⟩
        by_cases d3 : 1099511627776 < z
        · have HV := Lib.hid (validE_bad (n := n) (zs := zs) (by have := HC1.out.1; omega) HC.out.1 (by rw [HC.out.2.2]; exact hlt) (show itemBad n Ls zs i = true by
            unfold itemBad
            rw [HZZ.out, decide_eq_true d3]; simp))
          clear hln hlm d1
          go_wp2_with fail
          go_ret
          exact ⟨by rw [HV.out]; rfl, HEw.out⟩
        obtain ⟨l, hl⟩ : ∃ l, Ls.getD i [] = l := ⟨_, rfl⟩
        rw [hl] at HI hln hlm
        have HLL := Lib.hid hl
        clear hl
        have glm : (gn : Int) ≤ 1000 := by omega
        have HD := Lib.hid (And.intro hln (And.intro d1 (And.intro d2 d3)))
        clear hln d1
        go_upto_region 12 with (fail)
        clear hgc hvc y0 y2 d1' d2 d3
        obtain ⟨wo, hwo⟩ : ∃ wo : World, wo = wr := ⟨_, rfl⟩
        subst hwo
        go_loopw [5] (fun kv ws => ∃ k : Nat, k ≤ gn ∧ kv = .int .i64 (k : Int) ∧ (∀ j, j < k → badC n l j = false) ∧ Ext wo ws) (fun kv _ => gn - (intOf kv).toNat)
        case atStart => exact ⟨0, by omega, rfl, fun j hj => absurd hj (by omega), Ext.refl wo⟩
        case round =>
          obtain ⟨k, hk, rfl, hz, hE⟩ := hrel
          have HZK := Lib.hid hz
          clear hz
          by_cases hlk : k < gn
          · have hEw := HEw.out.trans hE
            have hin := HI.out.keep hEw.ik
            obtain ⟨lb, lo, rfl, hlb, hlc⟩ := hin.at k hlk
            have y0 : wr.cell? ⟨B, 0, none⟩ = some (.int .i64 n) := (HB.out.ext (HER.out.trans hE)).cell 0
            have HE2 := Lib.hid hE
            have HEw2 := Lib.hid hEw
            have HIN := Lib.hid hin
            have k0 : (0 : Int) ≤ (k : Int) := by omega
            have k1 : (k : Int) < (gn : Int) := by omega
            obtain ⟨c, hcc⟩ : ∃ c, l.getD k 0 = c := ⟨_, rfl⟩
            rw [hcc] at hlc
            have HCC := Lib.hid hcc
            clear hE hEw hin hcc
            by_cases f1 : c < 0
            · have fd1 : decide (c < 0) = true := decide_eq_true f1
              have HV := Lib.hid (validE_bad (n := n) (zs := zs) (by have := HC1.out.1; omega) HC.out.1 (by rw [HC.out.2.2]; exact hlt) (itemBad_cell (zs := zs) (k := k) (by rw [HLL.out, HD.out.1]; exact hlk) (by rw [HLL.out]; exact badC_neg (by rw [HCC.out]; omega))))
              go_upto_region 14 with (fail)
              go_quiet (fail)
              go_wp2_with fail
              go_ret
              exact ⟨by rw [HV.out]; rfl, HEw2.out.drewN nq⟩
            have fd1 : decide (c < 0) = false := decide_eq_false f1
            by_cases f2 : n ≤ c
            · have fd2 : decide (n ≤ c) = true := decide_eq_true f2
              have HV := Lib.hid (validE_bad (n := n) (zs := zs) (by have := HC1.out.1; omega) HC.out.1 (by rw [HC.out.2.2]; exact hlt) (itemBad_cell (zs := zs) (k := k) (by rw [HLL.out, HD.out.1]; exact hlk) (by rw [HLL.out]; exact badC_ge (by rw [HCC.out]; omega))))
              go_upto_region 14 with (fail)
              go_quiet (fail)
              go_wp2_with fail
              go_ret
              exact ⟨by rw [HV.out]; rfl, HEw2.out.drewN nq⟩
            have fd2 : decide (n ≤ c) = false := decide_eq_false f2
            by_cases f3 : 0 < k
            · obtain ⟨j, hj⟩ : ∃ j : Nat, (k : Int) - 1 = (j : Int) := ⟨k - 1, by omega⟩
              have hjk : j = k - 1 := by omega
              obtain ⟨lb', lo', e1, _, hld⟩ := HIN.out.at j (by omega)
              injection e1 with e1
              injection e1 with e1 e2
              subst e1; subst e2
              obtain ⟨d, hdd⟩ : ∃ d, l.getD j 0 = d := ⟨_, rfl⟩
              rw [hdd] at hld
              have HDD := Lib.hid hdd
              have HJK := Lib.hid hjk
              have f3' : decide ((0 : Int) < (k : Int)) = true := decide_eq_true (by omega)
              have j0 : (0 : Int) ≤ (j : Int) := by omega
              have j1 : (j : Int) < (gn : Int) := by omega
              clear hdd hjk
              by_cases f4 : c ≤ d
              · have f5 : decide (c ≤ d) = true := decide_eq_true f4
                have HV := Lib.hid (validE_bad (n := n) (zs := zs) (by have := HC1.out.1; omega) HC.out.1 (by rw [HC.out.2.2]; exact hlt) (itemBad_cell (zs := zs) (k := k) (by rw [HLL.out, HD.out.1]; exact hlk) (by rw [HLL.out]; exact badC_le f3 (by rw [HCC.out, ← HJK.out, HDD.out]; omega))))
                go_upto_region 14 with (fail)
                go_quiet (fail)
                go_wp2_with fail
                go_ret
                exact ⟨by rw [HV.out]; rfl, HEw2.out.drewN nq⟩
              · have HN := Lib.hid (badC_no (n := n) (l := l) (k := k) (by rw [HCC.out]; omega) (by rw [HCC.out]; omega) (fun _ => by rw [HCC.out, ← HJK.out, HDD.out]; omega))
                have f5 : decide (c ≤ d) = false := by rw [decide_eq_false_iff_not]; omega
                clear f4
                go_upto_region 14 with (fail)
                go_quiet (fail)
                go_wp2_with fail
                go_roundw
                case rel => exact ⟨k + 1, by omega, by go_num, fun j hj => by
                  by_cases e : j = k
                  · rw [e]; exact HN.out
                  · exact HZK.out j (by omega), HE2.out.drewN nq⟩
                case measure => simp [intOf]; omega
            · have HN := Lib.hid (badC_no (n := n) (l := l) (k := k) (by rw [HCC.out]; omega) (by rw [HCC.out]; omega) (fun h => absurd h (by omega)))
              have f3' : decide ((0 : Int) < (k : Int)) = false := decide_eq_false (by omega)
              go_upto_region 14 with (fail)
              go_quiet (fail)
              go_wp2_with fail
              go_roundw
              case rel => exact ⟨k + 1, by omega, by go_num, fun j hj => by
                by_cases e : j = k
                · rw [e]; exact HN.out
                · exact HZK.out j (by omega), HE2.out.drewN nq⟩
              case measure => simp [intOf]; omega
          · obtain rfl : gn = k := by omega
            have HN := Lib.hid (itemBad_no (n := n) (Ls := Ls) (zs := zs) (i := i) (by rw [HLL.out, HD.out.1]; exact HD.out.2.1) (by rw [HZZ.out]; have := HD.out.2.2.1; omega) (by rw [HZZ.out]; have := HD.out.2.2.2; omega) (fun k hk => by rw [HLL.out, HD.out.1] at hk; rw [HLL.out]; exact HZK.out k hk))
            have HEF := Lib.hid (HER.out.trans hE)
            clear hE
            go_wp2_with fail
            go_roundw
            case rel => exact ⟨i + 1, by omega, by go_num, fun j hj => by
              by_cases e : j = i
              · rw [e]; exact HN.out
              · exact HZ.out j (by omega), HEF.out⟩
            case measure => simp [intOf]; omega
      · obtain rfl : vn = i := by omega
        have HV := Lib.hid (validE_ok (n := n) (by have := HC1.out.1; omega) HC.out.1 (by have := HC1.out.2; omega) HC.out.2.1 (fun j hj => HZ.out j (by rw [HC.out.2.2] at hj; exact hj)))
        go_wp2_with fail
        go_ret
        exact ⟨by rw [HV.out]; rfl, HE.out.trans hE⟩
  · have HV := Lib.hid (show validE n Ls zs = 1 by unfold validE; rw [if_neg (by omega), if_pos (.inr (by omega))])
    have c2' : ¬ (128 : Int) < (sn : Int) := by omega
    have c4' : ((vn : Int) == (sn : Int)) = false := by rw [beq_eq_false_iff_ne]; omega
    clear hsn hvn c4
    go_enter Try.func14, Try.ntmps14
    go_wp2_with fail
    go_ret
    exact ⟨by rw [HV.out]; rfl, (by repeat (first | exact Ext.refl _ | assumption | refine Ext.setCell ?_ (by first | (simp; done) | (simp; omega) | omega) _ | refine Ext.alloc ?_ _ | refine Ext.drew ?_ | refine Ext.trans ?_ (by assumption)))⟩
set_option maxRecDepth 100000 in
set_option maxHeartbeats 4000000 in
theorem rcheck_c (n : Int) (ss vs : Sl) (gs : List Sl) (Ls : List (List Int)) (zs : List Int) (ha : Option Addr) (m hc : Nat) (set : Int) (w : World) (h : ShIn w n ss vs gs Ls zs) (hm : m ≤ 1000000) :
    Calls Try.prog 37 #[.agg #[.int .i64 n, ss.v, vs.v], .slice ha m hc, .int .i64 set] w fun e w' => e = .returned (.int .i64 (checkE n Ls zs m set)) ∧ Ext w w' := by
  have H := Lib.hid h
  have hsn := h.grps.2.1
  have hs1 := h.grps.2.2.1
  clear h
  obtain ⟨v, hv⟩ : ∃ v, validE n Ls zs = v := ⟨_, rfl⟩
  have hC : checkE n Ls zs m set = if v ≠ 0 then v else if m ≠ ss.n then 1 else if set < 0 ∨ (ss.n : Int) ≤ set then 7 else 0 := by unfold checkE; rw [hv, hsn]
  have HC := Lib.hid hC
  have HV := Lib.hid hv
  obtain ⟨sa, sn, sc⟩ := ss
  obtain ⟨va, vn, vc⟩ := vs
  simp only at HC hs1
  simp only [Sl.v]
  obtain ⟨B, hB⟩ : ∃ B, w.heap.size = B := ⟨_, rfl⟩
  clear hC hv hsn
  by_cases c1 : v = 0
  · by_cases c2 : m = sn
    · obtain rfl := c2.symm
      by_cases c3 : set < 0
      · have HR := Lib.hid (show checkE n Ls zs sn set = 7 by rw [HC.out, if_neg (by omega), if_neg (by omega), if_pos (.inl c3)])
        subst c1
        go_enter Try.func37, Try.ntmps37; go_upto_region 1 with (fail); refine wp_gen (fun W => Ext w W ∧ Blk W B #[.int .i64 n, .slice sa sn sc, .slice va vn vc] 25) ⟨(by repeat (first | exact Ext.refl _ | assumption | refine Ext.setCell ?_ (by first | (simp; done) | (simp; omega) | omega) _ | refine Ext.alloc ?_ _ | refine Ext.drew ?_ | refine Ext.trans ?_ (by assumption))), Blk.at _ 25 hB.symm⟩ ?_; rintro V ⟨E0, B0⟩; have HB := Lib.hid (And.intro E0 B0); have x0 : V.cell? ⟨B, 0, none⟩ = some (.int .i64 n) := B0.cell 0; have x1 : V.cell? ⟨B, 1, none⟩ = some (.slice sa sn sc) := B0.cell 1; have x2 : V.cell? ⟨B, 2, none⟩ = some (.slice va vn vc) := B0.cell 2; clear E0 B0; go_wp2_with fail; refine (rvalid_c n ⟨sa, sn, sc⟩ ⟨va, vn, vc⟩ gs Ls zs _ (H.out.ext HB.out.1)).mono ?_; rw [HV.out]; rintro e w2 ⟨rfl, hx2⟩; have HX := Lib.hid (HB.out.1.trans hx2); have y1 : w2.cell? ⟨B, 1, none⟩ = some (.slice sa sn sc) := hx2.cell x1; clear x0 x1 x2 hx2; go_wp2_with fail; go_ret
        exact ⟨by rw [HR.out]; rfl, HX.out⟩
      · by_cases c4 : (sn : Int) ≤ set
        · have HR := Lib.hid (show checkE n Ls zs sn set = 7 by rw [HC.out, if_neg (by omega), if_neg (by omega), if_pos (.inr c4)])
          subst c1
          go_enter Try.func37, Try.ntmps37; go_upto_region 1 with (fail); refine wp_gen (fun W => Ext w W ∧ Blk W B #[.int .i64 n, .slice sa sn sc, .slice va vn vc] 25) ⟨(by repeat (first | exact Ext.refl _ | assumption | refine Ext.setCell ?_ (by first | (simp; done) | (simp; omega) | omega) _ | refine Ext.alloc ?_ _ | refine Ext.drew ?_ | refine Ext.trans ?_ (by assumption))), Blk.at _ 25 hB.symm⟩ ?_; rintro V ⟨E0, B0⟩; have HB := Lib.hid (And.intro E0 B0); have x0 : V.cell? ⟨B, 0, none⟩ = some (.int .i64 n) := B0.cell 0; have x1 : V.cell? ⟨B, 1, none⟩ = some (.slice sa sn sc) := B0.cell 1; have x2 : V.cell? ⟨B, 2, none⟩ = some (.slice va vn vc) := B0.cell 2; clear E0 B0; go_wp2_with fail; refine (rvalid_c n ⟨sa, sn, sc⟩ ⟨va, vn, vc⟩ gs Ls zs _ (H.out.ext HB.out.1)).mono ?_; rw [HV.out]; rintro e w2 ⟨rfl, hx2⟩; have HX := Lib.hid (HB.out.1.trans hx2); have y1 : w2.cell? ⟨B, 1, none⟩ = some (.slice sa sn sc) := hx2.cell x1; clear x0 x1 x2 hx2; go_wp2_with fail; go_ret
          exact ⟨by rw [HR.out]; rfl, HX.out⟩
        · have HR := Lib.hid (show checkE n Ls zs sn set = 0 by rw [HC.out, if_neg (by omega), if_neg (by omega), if_neg (by omega)])
          subst c1
          go_enter Try.func37, Try.ntmps37; go_upto_region 1 with (fail); refine wp_gen (fun W => Ext w W ∧ Blk W B #[.int .i64 n, .slice sa sn sc, .slice va vn vc] 25) ⟨(by repeat (first | exact Ext.refl _ | assumption | refine Ext.setCell ?_ (by first | (simp; done) | (simp; omega) | omega) _ | refine Ext.alloc ?_ _ | refine Ext.drew ?_ | refine Ext.trans ?_ (by assumption))), Blk.at _ 25 hB.symm⟩ ?_; rintro V ⟨E0, B0⟩; have HB := Lib.hid (And.intro E0 B0); have x0 : V.cell? ⟨B, 0, none⟩ = some (.int .i64 n) := B0.cell 0; have x1 : V.cell? ⟨B, 1, none⟩ = some (.slice sa sn sc) := B0.cell 1; have x2 : V.cell? ⟨B, 2, none⟩ = some (.slice va vn vc) := B0.cell 2; clear E0 B0; go_wp2_with fail; refine (rvalid_c n ⟨sa, sn, sc⟩ ⟨va, vn, vc⟩ gs Ls zs _ (H.out.ext HB.out.1)).mono ?_; rw [HV.out]; rintro e w2 ⟨rfl, hx2⟩; have HX := Lib.hid (HB.out.1.trans hx2); have y1 : w2.cell? ⟨B, 1, none⟩ = some (.slice sa sn sc) := hx2.cell x1; clear x0 x1 x2 hx2; go_wp2_with fail; go_ret
          exact ⟨by rw [HR.out]; rfl, HX.out⟩
    · have HR := Lib.hid (show checkE n Ls zs m set = 1 by rw [HC.out, if_neg (by omega), if_pos c2])
      have c2' : ((m : Int) == (sn : Int)) = false := by rw [beq_eq_false_iff_ne]; omega
      subst c1
      clear c2
      go_enter Try.func37, Try.ntmps37; go_upto_region 1 with (fail); refine wp_gen (fun W => Ext w W ∧ Blk W B #[.int .i64 n, .slice sa sn sc, .slice va vn vc] 25) ⟨(by repeat (first | exact Ext.refl _ | assumption | refine Ext.setCell ?_ (by first | (simp; done) | (simp; omega) | omega) _ | refine Ext.alloc ?_ _ | refine Ext.drew ?_ | refine Ext.trans ?_ (by assumption))), Blk.at _ 25 hB.symm⟩ ?_; rintro V ⟨E0, B0⟩; have HB := Lib.hid (And.intro E0 B0); have x0 : V.cell? ⟨B, 0, none⟩ = some (.int .i64 n) := B0.cell 0; have x1 : V.cell? ⟨B, 1, none⟩ = some (.slice sa sn sc) := B0.cell 1; have x2 : V.cell? ⟨B, 2, none⟩ = some (.slice va vn vc) := B0.cell 2; clear E0 B0; go_wp2_with fail; refine (rvalid_c n ⟨sa, sn, sc⟩ ⟨va, vn, vc⟩ gs Ls zs _ (H.out.ext HB.out.1)).mono ?_; rw [HV.out]; rintro e w2 ⟨rfl, hx2⟩; have HX := Lib.hid (HB.out.1.trans hx2); have y1 : w2.cell? ⟨B, 1, none⟩ = some (.slice sa sn sc) := hx2.cell x1; clear x0 x1 x2 hx2; go_wp2_with fail; go_ret
      exact ⟨by rw [HR.out]; rfl, HX.out⟩
  · have HR := Lib.hid (show checkE n Ls zs m set = v by rw [HC.out, if_pos c1])
    have c1' : (v == 0) = false := by rw [beq_eq_false_iff_ne]; exact c1
    clear c1
    go_enter Try.func37, Try.ntmps37; go_upto_region 1 with (fail); refine wp_gen (fun W => Ext w W ∧ Blk W B #[.int .i64 n, .slice sa sn sc, .slice va vn vc] 25) ⟨(by repeat (first | exact Ext.refl _ | assumption | refine Ext.setCell ?_ (by first | (simp; done) | (simp; omega) | omega) _ | refine Ext.alloc ?_ _ | refine Ext.drew ?_ | refine Ext.trans ?_ (by assumption))), Blk.at _ 25 hB.symm⟩ ?_; rintro V ⟨E0, B0⟩; have HB := Lib.hid (And.intro E0 B0); have x0 : V.cell? ⟨B, 0, none⟩ = some (.int .i64 n) := B0.cell 0; have x1 : V.cell? ⟨B, 1, none⟩ = some (.slice sa sn sc) := B0.cell 1; have x2 : V.cell? ⟨B, 2, none⟩ = some (.slice va vn vc) := B0.cell 2; clear E0 B0; go_wp2_with fail; refine (rvalid_c n ⟨sa, sn, sc⟩ ⟨va, vn, vc⟩ gs Ls zs _ (H.out.ext HB.out.1)).mono ?_; rw [HV.out]; rintro e w2 ⟨rfl, hx2⟩; have HX := Lib.hid (HB.out.1.trans hx2); have y1 : w2.cell? ⟨B, 1, none⟩ = some (.slice sa sn sc) := hx2.cell x1; clear x0 x1 x2 hx2; go_wp2_with fail; go_ret
    exact ⟨by rw [HR.out]; rfl, HX.out⟩
set_option maxRecDepth 100000 in
set_option maxHeartbeats 4000000 in
theorem rDetermined_c (n : Int) (ss vs : Sl) (gs : List Sl) (Ls : List (List Int)) (zs : List Int) (ha : Option Addr) (m hc : Nat) (hs : List Bool) (set : Int) (w : World) (h : ShIn w n ss vs gs Ls zs) (hH : Bls w ha m hs) (hm : m ≤ 1000000) (hf : checkE n Ls zs m set = 0 → FewOK Ls) (h6 : checkE n Ls zs m set = 0 → ∀ k x, x ∈ Ls.getD k [] → x < 6) :
    Calls Try.prog 18 #[.agg #[.int .i64 n, ss.v, vs.v], .slice ha m hc, .int .i64 set] w fun e w' => e = .returned (.tuple #[.bool (if checkE n Ls zs m set = 0 then dB Ls hs set.toNat else false), .int .i64 (checkE n Ls zs m set)]) ∧ Ext w w' := by
  have H := Lib.hid (And.intro h (And.intro hH (And.intro hf h6)))
  clear h hH hf h6
  obtain ⟨v, hv⟩ : ∃ v, checkE n Ls zs m set = v := ⟨_, rfl⟩
  have HV := Lib.hid hv
  rw [hv]
  obtain ⟨sa, sn, sc⟩ := ss
  obtain ⟨va, vn, vc⟩ := vs
  obtain ⟨B, hB⟩ : ∃ B, w.heap.size = B := ⟨_, rfl⟩
  simp only [Sl.v]
  by_cases c1 : v = 0
  · rw [if_pos c1]
    rw [c1] at hv
    obtain ⟨v1, v2, v3, v4⟩ := checkE_ok hv
    obtain ⟨u1, u2, u3, _, _⟩ := validE_of v1
    obtain ⟨N, rfl⟩ : ∃ N : Nat, n = (N : Int) := ⟨n.toNat, by omega⟩
    obtain ⟨k, rfl⟩ : ∃ k : Nat, set = (k : Int) := ⟨set.toNat, by omega⟩
    have hG := H.out.1.sheet v1
    have hfo := H.out.2.2.1 hv
    have H6 := Lib.hid (And.intro u2 (H.out.2.2.2 hv))
    have hks : k < sn := by have := H.out.1.grps.2.1; simp only at this; omega
    have HG := Lib.hid (And.intro hG (And.intro hfo v2))
    have hN : N ≤ 1000 := by omega
    simp only [Int.toNat_natCast]
    clear hv v1 v2 v3 v4 u1 u2 u3 hG hfo
    subst c1
    go_enter Try.func18, Try.ntmps18; go_upto_region 1 with (fail); refine wp_gen (fun W => Ext w W ∧ Blk W B #[.int .i64 (N : Int), .slice sa sn sc, .slice va vn vc] 25) ⟨(by repeat (first | exact Ext.refl _ | assumption | refine Ext.setCell ?_ (by first | (simp; done) | (simp; omega) | omega) _ | refine Ext.alloc ?_ _ | refine Ext.drew ?_ | refine Ext.trans ?_ (by assumption))), Blk.at _ 25 hB.symm⟩ ?_; rintro V ⟨E0, B0⟩; have HB := Lib.hid (And.intro E0 B0); have x0 : V.cell? ⟨B, 0, none⟩ = some (.int .i64 (N : Int)) := B0.cell 0; have x1 : V.cell? ⟨B, 1, none⟩ = some (.slice sa sn sc) := B0.cell 1; have x2 : V.cell? ⟨B, 2, none⟩ = some (.slice va vn vc) := B0.cell 2; clear E0 B0; go_wp2_with fail; refine (rcheck_c (N : Int) ⟨sa, sn, sc⟩ ⟨va, vn, vc⟩ gs Ls zs ha m hc _ _ (H.out.1.ext HB.out.1) hm).mono ?_; rw [HV.out]; rintro e w2 ⟨rfl, hx2⟩; have HX := Lib.hid (HB.out.1.trans hx2); have y0 : w2.cell? ⟨B, 0, none⟩ = some (.int .i64 (N : Int)) := hx2.cell x0; have y1 : w2.cell? ⟨B, 1, none⟩ = some (.slice sa sn sc) := hx2.cell x1; have y2 : w2.cell? ⟨B, 2, none⟩ = some (.slice va vn vc) := hx2.cell x2; clear x0 x1 x2 hx2; go_wp2_with fail
    refine (rdet_c N m ⟨sa, sn, sc⟩ ⟨va, vn, vc⟩ gs Ls ha hc hs k _ (HG.out.1.ext HX.out) HG.out.2.2.symm HG.out.2.1 hN (by have := HG.out.2.2; have := H6.out.1; omega) (H6.out.2) (H.out.2.1.ext HX.out) (by have := HG.out.2.2; have := HG.out.1.grps.2.1; simp only at this; omega)).mono ?_
    rintro e w4 ⟨rfl, hx4⟩
    clear y0 y1 y2
    go_wp2_with fail
    go_ret2
    exact ⟨rfl, HX.out.trans hx4⟩
  · rw [if_neg c1]
    have c1' : (v == 0) = false := by rw [beq_eq_false_iff_ne]; exact c1
    clear c1 hv
    go_enter Try.func18, Try.ntmps18; go_upto_region 1 with (fail); refine wp_gen (fun W => Ext w W ∧ Blk W B #[.int .i64 n, .slice sa sn sc, .slice va vn vc] 25) ⟨(by repeat (first | exact Ext.refl _ | assumption | refine Ext.setCell ?_ (by first | (simp; done) | (simp; omega) | omega) _ | refine Ext.alloc ?_ _ | refine Ext.drew ?_ | refine Ext.trans ?_ (by assumption))), Blk.at _ 25 hB.symm⟩ ?_; rintro V ⟨E0, B0⟩; have HB := Lib.hid (And.intro E0 B0); have x0 : V.cell? ⟨B, 0, none⟩ = some (.int .i64 n) := B0.cell 0; have x1 : V.cell? ⟨B, 1, none⟩ = some (.slice sa sn sc) := B0.cell 1; have x2 : V.cell? ⟨B, 2, none⟩ = some (.slice va vn vc) := B0.cell 2; clear E0 B0; go_wp2_with fail; refine (rcheck_c n ⟨sa, sn, sc⟩ ⟨va, vn, vc⟩ gs Ls zs ha m hc _ _ (H.out.1.ext HB.out.1) hm).mono ?_; rw [HV.out]; rintro e w2 ⟨rfl, hx2⟩; have HX := Lib.hid (HB.out.1.trans hx2); have y0 : w2.cell? ⟨B, 0, none⟩ = some (.int .i64 n) := hx2.cell x0; have y1 : w2.cell? ⟨B, 1, none⟩ = some (.slice sa sn sc) := hx2.cell x1; have y2 : w2.cell? ⟨B, 2, none⟩ = some (.slice va vn vc) := hx2.cell x2; clear x0 x1 x2 hx2; go_wp2_with fail
    go_ret2
    exact ⟨rfl, HX.out⟩
end Go.Proofs.Ytkoidookanmknaa
