/- Appending to a row that holds no integers: what integers there are stay. -/
import Derived.Test.YtgmedfloflplgaaALRow
namespace Go.Proofs.Ytgmedfloflplgaa
set_option linter.unusedSimpArgs false
set_option linter.unusedVariables false
open Go Go.RowKit

/-- Block g holds no integer. -/
def NI (w : World) (g : Nat) : Prop := ∀ o k m, w.cell? ⟨g, o, none⟩ ≠ some (Value.int k m)
/-- What the row of a slice holds is no integer. -/
def NIv (w : World) (v : Value) : Prop := ∀ g, v.ownBlock = some g → NI w g
theorem NIv.nil (w : World) : NIv w (.slice none 0 0) := fun g h => by simp [Value.ownBlock] at h
theorem NI.ext {w w' : World} {g : Nat} (k : Ext w w') (hg : g < w.heap.size) (h : NI w g) : NI w' g := fun o x y => by rw [k.see.1 g o hg]; exact h o x y
theorem NIv.ext {w w' : World} {base : Nat} {e : TypeId} {s : Nat} {v : Value} {n : Nat} {xs : List Value} (k : Ext w w') (ho : w.ownsRow base e s v n xs) (h : NIv w v) : NIv w' v := fun g hg => (h g hg).ext k (gowns_lt ho hg).2
theorem zeroCells_mem {z : Array Value} {n : Nat} {u : Value} (h : u ∈ Builtin.zeroCells z n) : u ∈ z := by
 unfold Builtin.zeroCells at h
 rw [Array.mem_map] at h
 obtain ⟨x, hx, rfl⟩ := h
 have hz : 0 < z.size := by
  rcases Nat.eq_zero_or_pos z.size with h0 | h0
  ·rw [h0, Nat.mul_zero] at hx; simp at hx
  ·exact h0
 have hm := Nat.mod_lt x hz
 rw [getElem!_pos z (x % z.size) hm]
 exact Array.getElem_mem hm
theorem NI.block {w : World} {g : Nat} {cs : Array Value} {t : TypeId} {fr : Nat × Nat} (h : w.heap[g]? = some (.cells cs t fr)) (hn : ∀ u ∈ cs, ∀ k m, u ≠ Value.int k m) : NI w g := fun o k m he => by
 simp only [World.cell?, h] at he
 have he : cs[o]? = some (Value.int k m) := he
 obtain ⟨ho, he⟩ := Array.getElem?_eq_some_iff.1 he
 exact hn _ (Array.getElem_mem ho) k m he
theorem IK.setRow {w : World} {g : Nat} {cs : Array Value} (h : NI w g) : IK w (w.setRow g cs) := ⟨by simp, fun a k n hc => by
 by_cases he : a.block = g
 ·exfalso
  obtain ⟨b, o, r⟩ := a
  simp only at he
  subst he
  cases r with
  | none => exact h o k n hc
  | some r =>
   cases hb : w.heap[b]? with
   | none => simp [World.cell?, hb] at hc
   | some ob => cases ob <;> simp [World.cell?, hb] at hc
 ·rw [World.cell?_of_block (setRow_other w g a.block cs he)]; exact hc⟩
theorem NI.at {w : World} {g : Nat} {cs : Array Value} {t : TypeId} {fr : Nat × Nat} (h : w.heap[g]? = some (.cells cs t fr)) (hn : NI w g) : ∀ u ∈ cs, ∀ k m, u ≠ Value.int k m := fun u hu k m he => by
 obtain ⟨o, ho, rfl⟩ := Array.getElem_of_mem hu
 refine hn o k m ?_
 simp only [World.cell?, h]
 show cs[o]? = _
 rw [Array.getElem?_eq_getElem ho, he]
section
variable {P : Program} (w : World)
/-- THE LAW, and that integers stay. -/
theorem run_append_ni (t ty : TypeId) (base : Nat) (e : TypeId) (i : TypeInfo) (z : Value) (size bytes : Nat) (ht : P.underlying t = some (.slice e)) (hi : P.info? e = some i) (hz : i.zero = some z)
  (hsize : i.size = size) (hby : i.bytes = bytes) (hzs : z.cells.size = size) (hsz : 0 < size)
  (v : Value) (n : Nat) (xs : List Value) (hown : w.ownsRow base e size v n xs)
  (ad : Addr) (m c : Nat) (news : List Value) (hl : news.length = m * size) (hnews : ∀ j u, news[j]? = some u → w.cell? (ad.add j) = some u) (h1 : ∀ u ∈ news, u.oneCell' = true)
  (hm : 0 < m) (h63 : n + m ≤ maxLen) (hbytes : (n + m) * bytes ≤ 140737488355328) (hbase : base ≤ w.heap.size) (H : Nat) (hH : w.heap.size = H)
  (hv : NIv w v) (hxs : ∀ u ∈ xs, ∀ k m, u ≠ Value.int k m) (hnn : ∀ u ∈ news, ∀ k m, u ≠ Value.int k m) (hzn : ∀ u ∈ z.cells, ∀ k m, u ≠ Value.int k m) :
  ∃ g cap w', (Builtin.append_ #[t, t] ty #[v, .slice (some ad) m c]).run P w = .ok (.slice (some ⟨g, 0, none⟩) (n + m) cap) w' ∧
   w'.ownsRow base e size (.slice (some ⟨g, 0, none⟩) (n + m) cap) (n + m) (xs ++ news) ∧ w.grownBy w' v.ownBlock ∧ (v.ownBlock = some g ∨ g = H) ∧ g < w'.heap.size ∧ IK w w' ∧ NI w' g := by
 obtain ⟨g, cap, w', hr, h2, h3, h4, h5⟩ := run_append_lies (P := P) w t ty base e i z size bytes ht hi hz hsize hby hzs hsz v n xs hown ad m c news hl hnews h1 hm h63 hbytes hbase H hH
 refine ⟨g, cap, w', hr, h2, h3, h4, h5, ?_⟩
 subst hsize
 subst hby
 have new : ∀ (ys : List Value) (k : Nat), (∀ u ∈ ys, ∀ k m, u ≠ Value.int k m) → IK w (w.drew.alloc (.cells (ys.toArray ++ Builtin.zeroCells z.cells k) e)) ∧ NI (w.drew.alloc (.cells (ys.toArray ++ Builtin.zeroCells z.cells k) e)) w.heap.size := fun ys k hy =>
  ⟨((Ext.refl w).drew.alloc _).ik, NI.block (heap_alloc_new w.drew _) (fun u hu => by
   rcases Array.mem_append.1 hu with hu | hu
   ·exact hy u (by simpa using hu)
   ·exact hzn u (zeroCells_mem hu))⟩
 rcases hown.2 with ⟨rfl, rfl⟩ | ⟨g', cap', cur, rfl, hbg, hg, hnc, hcm, hcs, htake⟩
 ·have hr2 := run_append_nil (P := P) w t ty e i z ht hi hz ad m c news hl hnews (by omega) (by simp only [maxLen] at h63; omega) (by have hb := hbytes; simp only [Nat.zero_add] at hb; omega)
  rw [hr2] at hr
  injection hr with e1 e2
  injection e1 with e3
  injection e3 with e3
  injection e3 with e3
  subst e2; subst e3
  exact new news _ hnn
 ·by_cases hroom : n + m ≤ cap'
  ·have hfit : n * i.size + news.length ≤ cur.size := by rw [hl, hcs, ← Nat.add_mul]; exact Nat.mul_le_mul_right _ hroom
   have hr2 := run_append_room (P := P) w t ty e i ht hi g' n cap' cur hg ad m c news hl hnews h1 hroom hfit
   rw [hr2] at hr
   injection hr with e1 e2
   injection e1 with e3
   injection e3 with e3
   injection e3 with e3
   subst e2; subst e3
   have hN := hv g' rfl
   have hcur := NI.at hg hN
   refine ⟨IK.setRow hN, NI.block (setRow_heap w g' cur _ e _ hg) (fun u hu => ?_)⟩
   rw [List.mem_toArray, List.mem_append, List.mem_append] at hu
   rcases hu with (hu | hu) | hu
   ·exact hcur u (by simpa using List.mem_of_mem_take hu)
   ·exact hnn u hu
   ·exact hcur u (by simpa using List.mem_of_mem_drop hu)
  ·have holds : ∀ j u, xs[j]? = some u → w.cell? ((⟨g', 0, none⟩ : Addr).add j) = some u := hown.cells (g := g') rfl
   have hr2 := run_append_grow (P := P) w t ty e i z ht hi hz ⟨g', 0, none⟩ n cap' xs hown.1 holds ad m c news hl hnews (by omega) (by simp only [maxLen] at h63; omega) (growslice_fits (by omega) hbytes)
   rw [hr2] at hr
   injection hr with e1 e2
   injection e1 with e3
   injection e3 with e3
   injection e3 with e3
   subst e2; subst e3
   have := new (xs ++ news) (grownCap w (n + m) cap' e - (n + m)) (fun u hu => by
    rcases List.mem_append.1 hu with hu | hu
    ·exact hxs u hu
    ·exact hnn u hu)
   rw [show (xs ++ news).toArray = xs.toArray ++ news.toArray from by simp] at this
   exact this
theorem wp_append_ni {o : Oper} {a : Act} {K : Act → World → Prop} {Q : Exit → Act → World → Prop} (s x : Operand) (t : TypeId)
  (ho : o.op = .call { callee := .builtin .append, args := #[s, x], argTypes := #[t, t] })
  (base : Nat) (e : TypeId) (i : TypeInfo) (z : Value) (size bytes : Nat) (ht : P.underlying t = some (.slice e)) (hi : P.info? e = some i) (hz : i.zero = some z)
  (hsize : i.size = size) (hby : i.bytes = bytes) (hzs : z.cells.size = size) (hsz : 0 < size)
  (v : Value) (n : Nat) (xs : List Value) (hs : a.eval s = v) (hown : w.ownsRow base e size v n xs)
  (ad : Addr) (m c : Nat) (news : List Value) (hx : a.eval x = .slice (some ad) m c) (hl : news.length = m * size) (hnews : ∀ j u, news[j]? = some u → w.cell? (ad.add j) = some u) (h1 : ∀ u ∈ news, u.oneCell' = true)
  (hm : 0 < m) (h63 : n + m ≤ maxLen) (hbytes : (n + m) * bytes ≤ 140737488355328) (hbase : base ≤ w.heap.size) (H : Nat) (hH : w.heap.size = H)
  (hv : NIv w v) (hxs : ∀ u ∈ xs, ∀ k m, u ≠ Value.int k m) (hnn : ∀ u ∈ news, ∀ k m, u ≠ Value.int k m) (hzn : ∀ u ∈ z.cells, ∀ k m, u ≠ Value.int k m)
  (h : ∀ g cap w', w'.ownsRow base e size (.slice (some ⟨g, 0, none⟩) (n + m) cap) (n + m) (xs ++ news) → w.grownBy w' v.ownBlock → (v.ownBlock = some g ∨ g = H) → g < w'.heap.size → IK w w' → NI w' g → K (a.put o.dst (.slice (some ⟨g, 0, none⟩) (n + m) cap)) w') : o.wp P a w K Q := by
 obtain ⟨g, cap, w', hr, h2, h3, h4, h5, h6, h7⟩ := run_append_ni (P := P) w t o.type base e i z size bytes ht hi hz hsize hby hzs hsz v n xs hown ad m c news hl hnews h1 hm h63 hbytes hbase H hH hv hxs hnn hzn
 unfold Oper.wp execOp
 simp only [ho, resolve, invoke, builtin, Sem.run_bind, Sem.run_pure, Result.andThen_ok, List.map_toArray, List.map_cons, List.map_nil, hs, hx, hr]
 exact h g cap w' h2 h3 h4 h5 h6 h7
theorem wpList_append_ni {ops : Array Oper} {rest : List Oper} {o : Oper} {a : Act} {Q : Exit → Act → World → Prop} (hgd : o.guard = none) (s x : Operand) (t : TypeId)
  (ho : o.op = .call { callee := .builtin .append, args := #[s, x], argTypes := #[t, t] })
  (base : Nat) (e : TypeId) (i : TypeInfo) (z : Value) (size bytes : Nat) (ht : P.underlying t = some (.slice e)) (hi : P.info? e = some i) (hz : i.zero = some z)
  (hsize : i.size = size) (hby : i.bytes = bytes) (hzs : z.cells.size = size) (hsz : 0 < size)
  (v : Value) (n : Nat) (xs : List Value) (hs : a.eval s = v) (hown : w.ownsRow base e size v n xs)
  (ad : Addr) (m c : Nat) (news : List Value) (hx : a.eval x = .slice (some ad) m c) (hl : news.length = m * size) (hnews : ∀ j u, news[j]? = some u → w.cell? (ad.add j) = some u) (h1 : ∀ u ∈ news, u.oneCell' = true)
  (hm : 0 < m) (h63 : n + m ≤ maxLen) (hbytes : (n + m) * bytes ≤ 140737488355328) (hbase : base ≤ w.heap.size) (H : Nat) (hH : w.heap.size = H)
  (hv : NIv w v) (hxs : ∀ u ∈ xs, ∀ k m, u ≠ Value.int k m) (hnn : ∀ u ∈ news, ∀ k m, u ≠ Value.int k m) (hzn : ∀ u ∈ z.cells, ∀ k m, u ≠ Value.int k m)
  (h : ∀ g cap w', w'.ownsRow base e size (.slice (some ⟨g, 0, none⟩) (n + m) cap) (n + m) (xs ++ news) → w.grownBy w' v.ownBlock → (v.ownBlock = some g ∨ g = H) → g < w'.heap.size → IK w w' → NI w' g → wpList P ops Q rest (a.put o.dst (.slice (some ⟨g, 0, none⟩) (n + m) cap)) w') : wpList P ops Q (o :: rest) a w :=
 wpList_plain hgd fun _ hK => wp_append_ni w s x t ho base e i z size bytes ht hi hz hsize hby hzs hsz v n xs hs hown ad m c news hx hl hnews h1 hm h63 hbytes hbase H hH hv hxs hnn hzn fun g cap w' h2 h3 h4 h5 h6 h7 => hK _ _ (h g cap w' h2 h3 h4 h5 h6 h7)
end
end Go.Proofs.Ytgmedfloflplgaa
