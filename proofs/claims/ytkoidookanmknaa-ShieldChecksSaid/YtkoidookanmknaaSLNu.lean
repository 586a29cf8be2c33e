/- LRow LNu: several texts of this proof in one. -/
import Derived.Test.YtkoidookanmknaaSWA
import Derived.Deep.AppendLies
namespace Go.Proofs.Ytkoidookanmknaa
set_option linter.unusedSimpArgs false
set_option linter.unusedVariables false
open Go.RowKit

theorem gowns_lt {w : World} {base : Nat} {e : TypeId} {s : Nat} {v : Value} {n : Nat} {xs : List Value} (h : w.ownsRow base e s v n xs) {g : Nat} (hg : v.ownBlock = some g) : base ≤ g ∧ g < w.heap.size := by
 obtain ⟨_, ⟨hv, _⟩ | ⟨g', cap, cur, hv, hb, hh, _⟩⟩ := h
 ·subst hv; simp [Value.ownBlock] at hg
 ·subst hv; simp [Value.ownBlock] at hg; subst hg; exact ⟨hb, lt_of_block hh⟩
theorem gowns_ext {w w' : World} {base : Nat} {e : TypeId} {s : Nat} {v : Value} {n : Nat} {xs : List Value} (k : Ext w w') (h : w.ownsRow base e s v n xs) : w'.ownsRow base e s v n xs := by
 obtain ⟨h0, ⟨hv, hn⟩ | ⟨g', cap, cur, hv, hb, hh, r⟩⟩ := h
 ·exact ⟨h0, .inl ⟨hv, hn⟩⟩
 ·exact ⟨h0, .inr ⟨g', cap, cur, hv, hb, by rw [k.below.block g' (lt_of_block hh)]; exact hh, r⟩⟩
theorem gext_grown {a w w' : World} {row : Option Nat} (h : Ext a w) (k : w.grownBy w' row) (hr : ∀ g, row = some g → a.heap.size ≤ g) : Ext a w' := Below.grown h k h.size hr
/-- How an element lies in cells. -/
structure Enc (α : Type) where
 f : α → List Value
 s : Nat
 len : ∀ a, (f a).length = s
 one : ∀ a, ∀ u ∈ f a, u.oneCell' = true
 pos : 0 < s
def gcells {α : Type} (F : Enc α) (l : List α) : List Value := l.flatMap F.f
theorem gcells_length {α : Type} (F : Enc α) (l : List α) : (gcells F l).length = l.length * F.s := by
 induction l with
 | nil => simp [gcells]
 | cons p l ih => 
  have : gcells F (p :: l) = F.f p ++ gcells F l := by simp [gcells]
  rw [this, List.length_append, ih, F.len, List.length_cons, Nat.succ_mul, Nat.add_comm]
theorem gcells_append {α : Type} (F : Enc α) (l k : List α) : gcells F (l ++ k) = gcells F l ++ gcells F k := by simp [gcells]
theorem gcells_at {α : Type} (F : Enc α) (l : List α) (i : Nat) (a : α) (hi : l[i]? = some a) (j : Nat) (hj : j < F.s) : (gcells F l)[i * F.s + j]? = (F.f a)[j]? := by
 induction l generalizing i with
 | nil => simp at hi
 | cons p l ih =>
  have hp : gcells F (p :: l) = F.f p ++ gcells F l := by simp [gcells]
  rw [hp]
  match i with
  | 0 =>
   simp at hi
   subst hi
   rw [Nat.zero_mul, Nat.zero_add, List.getElem?_append_left (by rw [F.len]; exact hj)]
  | i + 1 =>
   have := ih i (by simpa using hi)
   rw [List.getElem?_append_right (by rw [F.len, Nat.succ_mul]; omega), F.len, ← this]
   congr 1
   rw [Nat.succ_mul]; omega
theorem gcells_one {α : Type} (F : Enc α) (l : List α) : ∀ u ∈ gcells F l, u.oneCell' = true := by
 intro u hu
 simp [gcells] at hu
 obtain ⟨p, _, hp⟩ := hu
 exact F.one p u hp
/-- The elements of l lie at the head of block b. -/
def GAt {α : Type} (F : Enc α) (w : World) (b : Nat) (l : List α) : Prop := ∀ i a, l[i]? = some a → ∀ j, j < F.s → w.cell? ⟨b, i * F.s + j, none⟩ = (F.f a)[j]?
theorem GAt.ext {α : Type} {F : Enc α} {w w' : World} {b : Nat} {l : List α} (k : Ext w w') (h : GAt F w b l) : GAt F w' b l := fun i a hi j hj => by
 have := h i a hi j hj
 obtain ⟨v, hv⟩ : ∃ v, (F.f a)[j]? = some v := ⟨_, List.getElem?_eq_getElem (by rw [F.len]; exact hj)⟩
 rw [hv] at this ⊢
 exact k.cell this
/-- A slice of the call's own. -/
def GRow {α : Type} (F : Enc α) (T : TypeId) (w : World) (base : Nat) (v : Value) (l : List α) : Prop := w.ownsRow base T F.s v l.length (gcells F l)
theorem GRow.nil {α : Type} (F : Enc α) (T : TypeId) (w : World) (base : Nat) : GRow F T w base (.slice none 0 0) [] := ⟨by simp [gcells], .inl ⟨rfl, rfl⟩⟩
theorem GRow.ext {α : Type} {F : Enc α} {T : TypeId} {w w' : World} {base : Nat} {v : Value} {l : List α} (k : Ext w w') (h : GRow F T w base v l) : GRow F T w' base v l := gowns_ext k h
theorem GRow.gat {α : Type} {F : Enc α} {T : TypeId} {w : World} {base g n cap : Nat} {l : List α} (h : GRow F T w base (.slice (some ⟨g, 0, none⟩) n cap) l) : GAt F w g l := fun i a hi j hj => by
 obtain ⟨h0, ⟨hv, _⟩ | ⟨g', cap', cur, hv, hb, hh, hle, hc, hsz, htk⟩⟩ := h
 ·simp at hv
 ·simp at hv
  obtain ⟨rfl, rfl, rfl⟩ := hv
  have p1 := gcells_at F l i a hi j hj
  rw [← htk] at p1
  have hil : i < l.length := by
   rcases Nat.lt_or_ge i l.length with h | h
   ·exact h
   ·rw [List.getElem?_eq_none h] at hi; cases hi
  have hij : i * F.s + j < l.length * F.s := by
   have := Nat.mul_le_mul_right F.s (show i + 1 ≤ l.length from hil)
   rw [Nat.succ_mul] at this; omega
  rw [List.getElem?_take_of_lt hij] at p1
  rw [← p1]
  simp [World.cell?, hh]
theorem GRow.free {α : Type} {F : Enc α} {T : TypeId} {w : World} {base g n cap : Nat} {l : List α} (h : GRow F T w base (.slice (some ⟨g, 0, none⟩) n cap) l) (o : Nat) : w.frozen? ⟨g, o, none⟩ = false := by
 obtain ⟨h0, ⟨hv, _⟩ | ⟨g', cap', cur, hv, hb, hh, _⟩⟩ := h
 ·simp at hv
 ·simp at hv
  obtain ⟨rfl, rfl, rfl⟩ := hv
  simp [World.frozen?, hh]
theorem GRow.app {α : Type} {F : Enc α} {T : TypeId} {w1 : World} {base g cap m : Nat} {l : List α} {p : α} (h : w1.ownsRow base T F.s (.slice (some ⟨g, 0, none⟩) m cap) m (gcells F l ++ gcells F [p])) (hm : m = l.length + 1) :
  GRow F T w1 base (.slice (some ⟨g, 0, none⟩) m cap) (l ++ [p]) := by
 subst hm
 unfold GRow; rw [gcells_append]; simpa using h
/-- The cells of a list, where it lies. -/
theorem gnews_at {α : Type} {F : Enc α} {w : World} {b : Nat} {l : List α} (h : GAt F w b l) : ∀ (j : Nat) (u : Value), (gcells F l)[j]? = some u → w.cell? ((⟨b, 0, none⟩ : Addr).add j) = some u := fun j u hu => by
 have hadd : (⟨b, 0, none⟩ : Addr).add j = ⟨b, j, none⟩ := by unfold Addr.add; split <;> simp_all
 rw [hadd]
 have hj : j < l.length * F.s := by
  rw [← gcells_length]
  rcases Nat.lt_or_ge j (gcells F l).length with h | h
  ·exact h
  ·rw [List.getElem?_eq_none h] at hu; cases hu
 have hd := Nat.div_lt_of_lt_mul (show j < F.s * l.length by rw [Nat.mul_comm]; exact hj)
 have hm := Nat.mod_lt j F.pos
 have he := Nat.div_add_mod j F.s
 rw [Nat.mul_comm] at he
 have hl := List.getElem?_eq_getElem hd
 have p1 := gcells_at F l (j / F.s) _ hl (j % F.s) hm
 have c1 := h (j / F.s) _ hl (j % F.s) hm
 rw [he] at p1 c1
 rw [c1, ← p1, hu]
theorem gAt_one {α : Type} {F : Enc α} {w : World} {b : Nat} {a : α} (h : ∀ j, j < F.s → w.cell? ⟨b, j, none⟩ = (F.f a)[j]?) : GAt F w b [a] := fun i x hi j hj => by
 match i with
 | 0 =>
  simp at hi
  subst hi
  rw [Nat.zero_mul, Nat.zero_add]; exact h j hj
 | i + 1 => simp at hi
theorem At.in {w : World} {b o : Nat} {u : Value} {cs : Array Value} (h : At w b cs) (ho : o < cs.size) : At (w.setCell ⟨b, o, none⟩ u) b (cs.setIfInBounds o u) := fun i hi => by
 rw [Array.size_setIfInBounds] at hi
 by_cases he : o = i
 ·subst he
  rw [World.cell?_setCell_same' _ _ _ (by rw [h o ho]; simp [ho])]
  simp [ho]
 ·rw [World.cell?_setCell_other _ _ _ _ (by intro e; injection e with _ e2; exact he e2), h i hi, Array.getElem?_setIfInBounds, if_neg he]
end Go.Proofs.Ytkoidookanmknaa
namespace Go.Proofs.Ytkoidookanmknaa
set_option linter.unusedSimpArgs false
set_option linter.unusedVariables false
open Go Go.RowKit

/-- All words that lay there lie there still. -/
def IU (w w' : World) : Prop := w.heap.size ≤ w'.heap.size ∧ ∀ a n, w.cell? a = some (.int .u32 n) → w'.cell? a = some (.int .u32 n)
theorem IU.refl (w : World) : IU w w := ⟨Nat.le_refl _, fun _ _ h => h⟩
theorem IK.iu {w w' : World} (h : IK w w') : IU w w' := ⟨h.1, fun a n hc => h.2 a _ n hc⟩
theorem Ext.iu {w w' : World} (h : Ext w w') : IU w w' := h.ik.iu
theorem IU.trans {a b c : World} (h : IU a b) (k : IU b c) : IU a c := ⟨Nat.le_trans h.1 k.1, fun _ _ hc => k.2 _ _ (h.2 _ _ hc)⟩
theorem IU.setCell {a w : World} (h : IU a w) {p : Addr} (hp : ∀ n, w.cell? p ≠ some (.int .u32 n)) (u : Value) : IU a (w.setCell p u) :=
 ⟨by rw [World.size_setCell]; exact h.1, fun q n hc => by
  have h1 := h.2 q n hc
  rw [World.cell?_setCell_other]
  ·exact h1
  ·rintro rfl; exact hp n h1⟩
theorem Wds.keepU {w w' : World} {a : Option Addr} {n c : Nat} {l : List Nat} (h : Wds w a n c l) (k : IU w w') : Wds w' a n c l := by
 obtain ⟨h1, h2, h3, h4, h5⟩ := h
 refine ⟨h1, h2, h3, h4, ?_⟩
 rcases h5 with h5 | ⟨b, off, ha, hb, hc⟩
 ·exact .inl h5
 ·exact .inr ⟨b, off, ha, Nat.lt_of_lt_of_le hb k.1, fun i hi => k.2 _ _ (hc i hi)⟩
theorem IsI.keepU {w w' : World} {p : IV} {x : Int} (h : IsI w p x) (k : IU w w') : IsI w' p x := by
 obtain ⟨l, h1, h2⟩ := h
 exact ⟨l, h1.keepU k, h2⟩
/-- Block g holds no word. -/
def NU (w : World) (g : Nat) : Prop := ∀ o m, w.cell? ⟨g, o, none⟩ ≠ some (Value.int .u32 m)
/-- What the row of a slice holds is no integer. -/
def NUv (w : World) (v : Value) : Prop := ∀ g, v.ownBlock = some g → NU w g
theorem NUv.nil (w : World) : NUv w (.slice none 0 0) := fun g h => by simp [Value.ownBlock] at h
theorem NU.ext {w w' : World} {g : Nat} (k : Ext w w') (hg : g < w.heap.size) (h : NU w g) : NU w' g := fun o y => by rw [k.see.1 g o hg]; exact h o y
theorem NUv.ext {w w' : World} {base : Nat} {e : TypeId} {s : Nat} {v : Value} {n : Nat} {xs : List Value} (k : Ext w w') (ho : w.ownsRow base e s v n xs) (h : NUv w v) : NUv w' v := fun g hg => (h g hg).ext k (gowns_lt ho hg).2
theorem zeroCells_mem2 {z : Array Value} {n : Nat} {u : Value} (h : u ∈ Builtin.zeroCells z n) : u ∈ z := by
 unfold Builtin.zeroCells at h
 rw [Array.mem_map] at h
 obtain ⟨x, hx, rfl⟩ := h
 have hz : 0 < z.size := by
  rcases Nat.eq_zero_or_pos z.size with h0 | h0
  ·rw [h0, Nat.mul_zero] at hx; simp at hx
  ·exact h0
 have hm := Nat.mod_lt x hz
 rw [getElem!_pos z (x % z.size) hm]
 exact Array.getElem_mem hm
theorem NU.block {w : World} {g : Nat} {cs : Array Value} {t : TypeId} {fr : Nat × Nat} (h : w.heap[g]? = some (.cells cs t fr)) (hn : ∀ u ∈ cs, ∀ m, u ≠ Value.int .u32 m) : NU w g := fun o m he => by
 simp only [World.cell?, h] at he
 have he : cs[o]? = some (Value.int .u32 m) := he
 obtain ⟨ho, he⟩ := Array.getElem?_eq_some_iff.1 he
 exact hn _ (Array.getElem_mem ho) m he
theorem IU.setRow {w : World} {g : Nat} {cs : Array Value} (h : NU w g) : IU w (w.setRow g cs) := ⟨by simp, fun a n hc => by
 by_cases he : a.block = g
 ·exfalso
  obtain ⟨b, o, r⟩ := a
  simp only at he
  subst he
  cases r with
  | none => exact h o n hc
  | some r =>
   cases hb : w.heap[b]? with
   | none => simp [World.cell?, hb] at hc
   | some ob => cases ob <;> simp [World.cell?, hb] at hc
 ·rw [World.cell?_of_block (setRow_other w g a.block cs he)]; exact hc⟩
theorem NU.at {w : World} {g : Nat} {cs : Array Value} {t : TypeId} {fr : Nat × Nat} (h : w.heap[g]? = some (.cells cs t fr)) (hn : NU w g) : ∀ u ∈ cs, ∀ m, u ≠ Value.int .u32 m := fun u hu m he => by
 obtain ⟨o, ho, rfl⟩ := Array.getElem_of_mem hu
 refine hn o m ?_
 simp only [World.cell?, h]
 show cs[o]? = _
 rw [Array.getElem?_eq_getElem ho, he]
section
variable {P : Program} (w : World)
/-- THE LAW, and that words stay. -/
theorem run_append_nu (t ty : TypeId) (base : Nat) (e : TypeId) (i : TypeInfo) (z : Value) (size bytes : Nat) (ht : P.underlying t = some (.slice e)) (hi : P.info? e = some i) (hz : i.zero = some z)
  (hsize : i.size = size) (hby : i.bytes = bytes) (hzs : z.cells.size = size) (hsz : 0 < size)
  (v : Value) (n : Nat) (xs : List Value) (hown : w.ownsRow base e size v n xs)
  (ad : Addr) (m c : Nat) (news : List Value) (hl : news.length = m * size) (hnews : ∀ j u, news[j]? = some u → w.cell? (ad.add j) = some u) (h1 : ∀ u ∈ news, u.oneCell' = true)
  (hm : 0 < m) (h63 : n + m ≤ maxLen) (hbytes : (n + m) * bytes ≤ 140737488355328) (hbase : base ≤ w.heap.size) (H : Nat) (hH : w.heap.size = H)
  (hv : NUv w v) (hxs : ∀ u ∈ xs, ∀ m, u ≠ Value.int .u32 m) (hnn : ∀ u ∈ news, ∀ m, u ≠ Value.int .u32 m) (hzn : ∀ u ∈ z.cells, ∀ m, u ≠ Value.int .u32 m) :
  ∃ g cap w', (Builtin.append_ #[t, t] ty #[v, .slice (some ad) m c]).run P w = .ok (.slice (some ⟨g, 0, none⟩) (n + m) cap) w' ∧
   w'.ownsRow base e size (.slice (some ⟨g, 0, none⟩) (n + m) cap) (n + m) (xs ++ news) ∧ w.grownBy w' v.ownBlock ∧ (v.ownBlock = some g ∨ g = H) ∧ g < w'.heap.size ∧ IU w w' ∧ NU w' g := by
 obtain ⟨g, cap, w', hr, h2, h3, h4, h5⟩ := run_append_lies (P := P) w t ty base e i z size bytes ht hi hz hsize hby hzs hsz v n xs hown ad m c news hl hnews h1 hm h63 hbytes hbase H hH
 refine ⟨g, cap, w', hr, h2, h3, h4, h5, ?_⟩
 subst hsize
 subst hby
 have new : ∀ (ys : List Value) (k : Nat), (∀ u ∈ ys, ∀ m, u ≠ Value.int .u32 m) → IU w (w.drew.alloc (.cells (ys.toArray ++ Builtin.zeroCells z.cells k) e)) ∧ NU (w.drew.alloc (.cells (ys.toArray ++ Builtin.zeroCells z.cells k) e)) w.heap.size := fun ys k hy =>
  ⟨((Ext.refl w).drew.alloc _).iu, NU.block (heap_alloc_new w.drew _) (fun u hu => by
   rcases Array.mem_append.1 hu with hu | hu
   ·exact hy u (by simpa using hu)
   ·exact hzn u (zeroCells_mem2 hu))⟩
 rcases hown.2 with ⟨rfl, rfl⟩ | ⟨g', cap', cur, rfl, hbg, hg, hnc, hcm, hcs, htake⟩
 ·have hr2 := run_append_nil (P := P) w t ty e i z ht hi hz ad m c news hl hnews (by omega) (by simp only [maxLen] at h63; omega) (by have hb := hbytes; simp only [Nat.zero_add] at hb; omega)
  rw [hr2] at hr
  injection hr with e1 e2
  injection e1 with e3
  injection e3 with e3
  injection e3 with e3
  subst e2; subst e3
  exact new news _ hnn
 ·by_cases hroom : n + m ≤ cap'
  ·have hfit : n * i.size + news.length ≤ cur.size := by rw [hl, hcs, ← Nat.add_mul]; exact Nat.mul_le_mul_right _ hroom
   have hr2 := run_append_room (P := P) w t ty e i ht hi g' n cap' cur hg ad m c news hl hnews h1 hroom hfit
   rw [hr2] at hr
   injection hr with e1 e2
   injection e1 with e3
   injection e3 with e3
   injection e3 with e3
   subst e2; subst e3
   have hN := hv g' rfl
   have hcur := NU.at hg hN
   refine ⟨IU.setRow hN, NU.block (setRow_heap w g' cur _ e _ hg) (fun u hu => ?_)⟩
   rw [List.mem_toArray, List.mem_append, List.mem_append] at hu
   rcases hu with (hu | hu) | hu
   ·exact hcur u (by simpa using List.mem_of_mem_take hu)
   ·exact hnn u hu
   ·exact hcur u (by simpa using List.mem_of_mem_drop hu)
  ·have holds : ∀ j u, xs[j]? = some u → w.cell? ((⟨g', 0, none⟩ : Addr).add j) = some u := hown.cells (g := g') rfl
   have hr2 := run_append_grow (P := P) w t ty e i z ht hi hz ⟨g', 0, none⟩ n cap' xs hown.1 holds ad m c news hl hnews (by omega) (by simp only [maxLen] at h63; omega) (growslice_fits (by omega) hbytes)
   rw [hr2] at hr
   injection hr with e1 e2
   injection e1 with e3
   injection e3 with e3
   injection e3 with e3
   subst e2; subst e3
   have := new (xs ++ news) (grownCap w (n + m) cap' e - (n + m)) (fun u hu => by
    rcases List.mem_append.1 hu with hu | hu
    ·exact hxs u hu
    ·exact hnn u hu)
   rw [show (xs ++ news).toArray = xs.toArray ++ news.toArray from by simp] at this
   exact this
theorem wp_append_nu {o : Oper} {a : Act} {K : Act → World → Prop} {Q : Exit → Act → World → Prop} (s x : Operand) (t : TypeId)
  (ho : o.op = .call { callee := .builtin .append, args := #[s, x], argTypes := #[t, t] })
  (base : Nat) (e : TypeId) (i : TypeInfo) (z : Value) (size bytes : Nat) (ht : P.underlying t = some (.slice e)) (hi : P.info? e = some i) (hz : i.zero = some z)
  (hsize : i.size = size) (hby : i.bytes = bytes) (hzs : z.cells.size = size) (hsz : 0 < size)
  (v : Value) (n : Nat) (xs : List Value) (hs : a.eval s = v) (hown : w.ownsRow base e size v n xs)
  (ad : Addr) (m c : Nat) (news : List Value) (hx : a.eval x = .slice (some ad) m c) (hl : news.length = m * size) (hnews : ∀ j u, news[j]? = some u → w.cell? (ad.add j) = some u) (h1 : ∀ u ∈ news, u.oneCell' = true)
  (hm : 0 < m) (h63 : n + m ≤ maxLen) (hbytes : (n + m) * bytes ≤ 140737488355328) (hbase : base ≤ w.heap.size) (H : Nat) (hH : w.heap.size = H)
  (hv : NUv w v) (hxs : ∀ u ∈ xs, ∀ m, u ≠ Value.int .u32 m) (hnn : ∀ u ∈ news, ∀ m, u ≠ Value.int .u32 m) (hzn : ∀ u ∈ z.cells, ∀ m, u ≠ Value.int .u32 m)
  (h : ∀ g cap w', w'.ownsRow base e size (.slice (some ⟨g, 0, none⟩) (n + m) cap) (n + m) (xs ++ news) → w.grownBy w' v.ownBlock → (v.ownBlock = some g ∨ g = H) → g < w'.heap.size → IU w w' → NU w' g → K (a.put o.dst (.slice (some ⟨g, 0, none⟩) (n + m) cap)) w') : o.wp P a w K Q := by
 obtain ⟨g, cap, w', hr, h2, h3, h4, h5, h6, h7⟩ := run_append_nu (P := P) w t o.type base e i z size bytes ht hi hz hsize hby hzs hsz v n xs hown ad m c news hl hnews h1 hm h63 hbytes hbase H hH hv hxs hnn hzn
 unfold Oper.wp execOp
 simp only [ho, resolve, invoke, builtin, Sem.run_bind, Sem.run_pure, Result.andThen_ok, List.map_toArray, List.map_cons, List.map_nil, hs, hx, hr]
 exact h g cap w' h2 h3 h4 h5 h6 h7
theorem step_append_nu {ops : Array Oper} {o : Oper} {a : Act} {K : Act → World → Prop} {Q : Exit → Act → World → Prop} {E : Prop} (hgd : o.guard = none) (s x : Operand) (t : TypeId)
  (ho : o.op = .call { callee := .builtin .append, args := #[s, x], argTypes := #[t, t] })
  (base : Nat) (e : TypeId) (i : TypeInfo) (z : Value) (size bytes : Nat) (ht : P.underlying t = some (.slice e)) (hi : P.info? e = some i) (hz : i.zero = some z)
  (hsize : i.size = size) (hby : i.bytes = bytes) (hzs : z.cells.size = size) (hsz : 0 < size)
  (v : Value) (n : Nat) (xs : List Value) (hs : a.eval s = v) (hown : w.ownsRow base e size v n xs)
  (ad : Addr) (m c : Nat) (news : List Value) (hx : a.eval x = .slice (some ad) m c) (hl : news.length = m * size) (hnews : ∀ j u, news[j]? = some u → w.cell? (ad.add j) = some u) (h1 : ∀ u ∈ news, u.oneCell' = true)
  (hm : 0 < m) (h63 : n + m ≤ maxLen) (hbytes : (n + m) * bytes ≤ 140737488355328) (hbase : base ≤ w.heap.size) (H : Nat) (hH : w.heap.size = H)
  (hv : NUv w v) (hxs : ∀ u ∈ xs, ∀ m, u ≠ Value.int .u32 m) (hnn : ∀ u ∈ news, ∀ m, u ≠ Value.int .u32 m) (hzn : ∀ u ∈ z.cells, ∀ m, u ≠ Value.int .u32 m)
  (h : ∀ g cap w', w'.ownsRow base e size (.slice (some ⟨g, 0, none⟩) (n + m) cap) (n + m) (xs ++ news) → w.grownBy w' v.ownBlock → (v.ownBlock = some g ∨ g = H) → g < w'.heap.size → IU w w' → NU w' g → K (a.put o.dst (.slice (some ⟨g, 0, none⟩) (n + m) cap)) w') :
  if Region.wanted o (yielded ops a.tmps) = true then Oper.wp P o a w K Q else E := by
 have hw : Region.wanted o (yielded ops a.tmps) = true := by simp [Region.wanted, hgd]
 rw [if_pos hw]
 exact wp_append_nu w s x t ho base e i z size bytes ht hi hz hsize hby hzs hsz v n xs hs hown ad m c news hx hl hnews h1 hm h63 hbytes hbase H hH hv hxs hnn hzn h
theorem wpList_append_nu {ops : Array Oper} {rest : List Oper} {o : Oper} {a : Act} {Q : Exit → Act → World → Prop} (hgd : o.guard = none) (s x : Operand) (t : TypeId)
  (ho : o.op = .call { callee := .builtin .append, args := #[s, x], argTypes := #[t, t] })
  (base : Nat) (e : TypeId) (i : TypeInfo) (z : Value) (size bytes : Nat) (ht : P.underlying t = some (.slice e)) (hi : P.info? e = some i) (hz : i.zero = some z)
  (hsize : i.size = size) (hby : i.bytes = bytes) (hzs : z.cells.size = size) (hsz : 0 < size)
  (v : Value) (n : Nat) (xs : List Value) (hs : a.eval s = v) (hown : w.ownsRow base e size v n xs)
  (ad : Addr) (m c : Nat) (news : List Value) (hx : a.eval x = .slice (some ad) m c) (hl : news.length = m * size) (hnews : ∀ j u, news[j]? = some u → w.cell? (ad.add j) = some u) (h1 : ∀ u ∈ news, u.oneCell' = true)
  (hm : 0 < m) (h63 : n + m ≤ maxLen) (hbytes : (n + m) * bytes ≤ 140737488355328) (hbase : base ≤ w.heap.size) (H : Nat) (hH : w.heap.size = H)
  (hv : NUv w v) (hxs : ∀ u ∈ xs, ∀ m, u ≠ Value.int .u32 m) (hnn : ∀ u ∈ news, ∀ m, u ≠ Value.int .u32 m) (hzn : ∀ u ∈ z.cells, ∀ m, u ≠ Value.int .u32 m)
  (h : ∀ g cap w', w'.ownsRow base e size (.slice (some ⟨g, 0, none⟩) (n + m) cap) (n + m) (xs ++ news) → w.grownBy w' v.ownBlock → (v.ownBlock = some g ∨ g = H) → g < w'.heap.size → IU w w' → NU w' g → wpList P ops Q rest (a.put o.dst (.slice (some ⟨g, 0, none⟩) (n + m) cap)) w') : wpList P ops Q (o :: rest) a w :=
 wpList_plain hgd fun _ hK => wp_append_nu w s x t ho base e i z size bytes ht hi hz hsize hby hzs hsz v n xs hs hown ad m c news hx hl hnews h1 hm h63 hbytes hbase H hH hv hxs hnn hzn fun g cap w' h2 h3 h4 h5 h6 h7 => hK _ _ (h g cap w' h2 h3 h4 h5 h6 h7)
end
end Go.Proofs.Ytkoidookanmknaa
