/- shield: determined; what changes in the solver's memory. -/
import Derived.Test.YtkoidookanmknaaSV13
namespace Go.Proofs.Ytkoidookanmknaa
set_option linter.unusedSimpArgs false
set_option linter.unusedVariables false
open Go.RowKit

/-- The sets of a sheet. -/
structure SheetOK (w : World) (n : Nat) (ss : Sl) (gs : List Sl) (Ls : List (List Int)) : Prop where
 grps : Grps w ss.a ss.n gs Ls
 cell : ∀ k, ∀ x, x ∈ Ls.getD k [] → 0 ≤ x ∧ x < (n : Int)
 len : ∀ k, (Ls.getD k []).length ≤ 1000
theorem SheetOK.ext {w w' : World} {n : Nat} {ss : Sl} {gs : List Sl} {Ls : List (List Int)} (h : SheetOK w n ss gs Ls) (k : Ext w w') : SheetOK w' n ss gs Ls := ⟨h.grps.ext k, h.cell, h.len⟩
theorem SolAt.lt_size {w : World} {base xb n : Nat} {ss vs : Sl} {rv lv : Value} {R : Lds} {bs : List Nat} (h : SolAt w base xb n ss vs rv lv R bs) {b : Nat} (hb : b ∈ bs) : b < w.heap.size := by
 obtain ⟨i, hi⟩ := List.mem_iff_getElem?.1 hb
 obtain ⟨p, hp⟩ : ∃ p, R[i]? = some p := ⟨_, List.getElem?_eq_getElem (by
  have := h.len
  rcases Nat.lt_or_ge i bs.length with h1 | h1
  ·omega
  ·rw [List.getElem?_eq_none h1] at hi; cases hi)⟩
 exact (h.each i b p hi hp).lt
theorem Only.ext {w w1 w' : World} {b : Nat} (h : Ext w w1) (hb : w.heap.size ≤ b) (k : Only b w1 w') : Ext w w' :=
 Below.trans h (k.below hb h.size)
/-- Whether nothing is left of a set's row. -/
def detB (R : Lds) (n : Nat) (l : List Int) : Bool := !decide (0 ≤ leadI (redV R (rowV l)) n)
set_option maxRecDepth 100000 in
set_option maxHeartbeats 4000000 in
theorem det_c (base xb n r k : Nat) (ss vs : Sl) (rv lv : Value) (R : Lds) (bs : List Nat) (gs : List Sl) (Ls : List (List Int)) (w : World) (hS : SolAt w base xb n ss vs rv lv R bs) (hG : SheetOK w n ss gs Ls) (hk : k < ss.n) (hn : n ≤ 1000) (hsol : Sol R r) (hr : r ≤ 12) :
  Calls Try.prog 36 #[.pointer (some ⟨xb, 0, none⟩), .int .i64 (k : Int)] w fun e w' => e = .returned (.bool (detB R n (Ls.getD k []))) ∧ Ext w w' := by
 have H := Lib.hid (And.intro hS (And.intro hG hsol))
 clear hS hG hsol
 go_enter Try.func36, Try.ntmps36
 go_wp2_with fail
 refine (row_c xb n ss vs rv lv gs Ls k _ H.out.1.box H.out.2.1.grps hk hn (H.out.2.1.cell k) (H.out.2.1.len k)).mono ?_
 rintro e w1 ⟨b, rfl, hb, hv, hx1⟩
 have hnb : b ∉ bs := fun hm => by have := H.out.1.lt_size hm; omega
 have H1 := Lib.hid (And.intro (H.out.1.ext hx1) (And.intro hv hx1))
 clear hv hx1
 go_wp2_with fail
 refine (reduce_c base xb n b r ss vs rv lv R bs _ _ H1.out.1 H1.out.2.1 hnb hn H.out.2.2 hr (rowV_zo _)).mono ?_
 rintro e w2 ⟨rfl, hv, ho⟩
 have H2 := Lib.hid (And.intro hv (Only.ext H1.out.2.2 hb ho))
 clear hv ho
 go_wp2_with fail
 refine (contains_det b n _ _ H2.out.1 hn).mono ?_
 rintro e w3 ⟨rfl, hx3⟩
 go_wp2_with fail
 go_ret
 exact ⟨rfl, H2.out.2.trans hx3⟩
theorem SolAt.upd {w w' : World} {base xb n : Nat} {ss vs : Sl} {rv lv : Value} {R : Lds} {bs : List Nat} (h : SolAt w base xb n ss vs rv lv R bs) {i b : Nat} {p : Vec × Nat} (hb : bs[i]? = some b) (hp : R[i]? = some p) (k : Only b w w') {v' : Vec} (hv : VecAt w' b n v') :
  SolAt w' base xb n ss vs rv lv (R.set i (v', p.2)) bs := by
 obtain ⟨fs, f1, _⟩ := h.each i b p hb hp
 have hi : i < R.length := (List.getElem?_eq_some_iff.1 hp).1
 have hmap : (R.set i (v', p.2)).map (fun p => (p.2 : Int)) = R.map fun p => (p.2 : Int) := by
  rw [List.map_set]
  refine List.ext_getElem? fun j => ?_
  by_cases hj : i = j
  ·subst hj
   rw [List.getElem?_set_self (by simpa using hi), List.getElem?_map, hp]; rfl
  ·rw [List.getElem?_set_ne hj]
 refine ⟨k.blk h.box (blk_ne h.box f1 (by decide)), by rw [List.length_set]; exact owns_only k f1 (by decide) h.rows, by rw [hmap]; exact owns_only k f1 (by decide) h.leads, by rw [List.length_set]; exact h.len, fun j b' q h1 h2 => ?_, h.nodup, h.hbase, fun q hq => ?_, h.nur.only k f1 (by decide) h.rows, h.nul.only k f1 (by decide) h.leads⟩
 ·by_cases hj : i = j
  ·subst hj
   rw [hb] at h1
   injection h1 with h1
   subst h1
   rw [List.getElem?_set_self hi] at h2
   injection h2 with h2
   subst h2
   exact hv
  ·rw [List.getElem?_set_ne hj] at h2
   refine (h.each j b' q h1 h2).only k (fun e => hj ?_)
   subst e
   exact (List.getElem?_inj (List.getElem?_eq_some_iff.1 hb).1 h.nodup).1 (hb.trans h1.symm)
 ·rcases List.mem_or_eq_of_mem_set hq with hq | rfl
  ·exact h.lt q hq
  ·exact h.lt p (List.mem_of_getElem? hp)
theorem mid_step {α : Type} (A R : List α) (h : A.length = R.length) (i : Nat) (x : α) (hx : A[i]? = some x) : (A.take i ++ R.drop i).set i x = A.take (i + 1) ++ R.drop (i + 1) := by
 obtain ⟨hi, rfl⟩ := List.getElem?_eq_some_iff.1 hx
 rw [List.set_append_right _ _ (by rw [List.length_take]; omega), List.length_take, Nat.min_eq_left (by omega), Nat.sub_self, List.take_succ_eq_append_getElem hi, List.append_assoc]
 congr 1
 rw [List.drop_eq_getElem_cons (by omega)]
 rfl
theorem mid_get {α : Type} (A R : List α) (h : A.length = R.length) (i : Nat) : (A.take i ++ R.drop i)[i]? = R[i]? := by
 rcases Nat.lt_or_ge i R.length with hi | hi
 ·rw [List.getElem?_append_right (by rw [List.length_take]; omega), List.length_take, Nat.min_eq_left (by omega), Nat.sub_self, List.getElem?_drop, Nat.add_zero]
 ·rw [List.getElem?_eq_none hi, List.getElem?_eq_none (by rw [List.length_append, List.length_take, List.length_drop]; omega)]
/-- What two appends leave: only the rows of v and u, and new blocks. -/
structure Far (base : Nat) (v u : Value) (V W : World) : Prop where
 bl : Below base V W
 iu : IU V W
 blk : ∀ k, k < V.heap.size → v.ownBlock ≠ some k → u.ownBlock ≠ some k → W.heap[k]? = V.heap[k]?
theorem Far.refl (base : Nat) (v u : Value) (V : World) : Far base v u V V := ⟨Below.refl _ _, IU.refl V, fun _ _ _ _ => rfl⟩
theorem Far.ext {base : Nat} {v u : Value} {V W W' : World} (h : Far base v u V W) (k : Ext W W') (hb : base ≤ V.heap.size) : Far base v u V W' :=
 ⟨h.bl.trans (k.below.mono (Nat.le_trans hb h.bl.size)), h.iu.trans k.iu, fun j hj h1 h2 => by rw [k.below.block j (Nat.lt_of_lt_of_le hj h.bl.size), h.blk j hj h1 h2]⟩
theorem Far.left {base : Nat} {v u : Value} {V W W' : World} (h : Far base v u V W) (g : W.grownBy W' v.ownBlock) (i : IU W W') (hb : base ≤ V.heap.size) (hv : ∀ k, v.ownBlock = some k → base ≤ k) : Far base v u V W' :=
 ⟨h.bl.grown g (Nat.le_trans hb h.bl.size) hv, h.iu.trans i, fun j hj h1 h2 => by rw [g.block j (Nat.lt_of_lt_of_le hj h.bl.size) (Ne.symm h1), h.blk j hj h1 h2]⟩
theorem Far.right {base : Nat} {v u : Value} {V W W' : World} (h : Far base v u V W) (g : W.grownBy W' u.ownBlock) (i : IU W W') (hb : base ≤ V.heap.size) (hv : ∀ k, u.ownBlock = some k → base ≤ k) : Far base v u V W' :=
 ⟨h.bl.grown g (Nat.le_trans hb h.bl.size) hv, h.iu.trans i, fun j hj h1 h2 => by rw [g.block j (Nat.lt_of_lt_of_le hj h.bl.size) (Ne.symm h2), h.blk j hj h1 h2]⟩
/-- A row of the call's own, without words. -/
def OwnU (w : World) (base : Nat) (e : TypeId) (v : Value) (n : Nat) (xs : List Value) : Prop := w.ownsRow base e 1 v n xs ∧ NUv w v
theorem OwnU.ext {w w' : World} {base : Nat} {e : TypeId} {v : Value} {n : Nat} {xs : List Value} (h : OwnU w base e v n xs) (k : Ext w w') : OwnU w' base e v n xs := ⟨gowns_ext k h.1, h.2.ext k h.1⟩
theorem owns_ne {w : World} {b b' : Nat} {e e' : TypeId} {s s' : Nat} {v u : Value} {n m : Nat} {xs ys : List Value} (h : w.ownsRow b e s v n xs) (h' : w.ownsRow b' e' s' u m ys) (he : e ≠ e') : v.ownBlock = none ∨ v.ownBlock ≠ u.ownBlock := by
 obtain ⟨_, ⟨hv, _⟩ | ⟨g, cap, cur, hv, hb, hh, _⟩⟩ := h
 ·left; subst hv; rfl
 ·obtain ⟨_, ⟨hu, _⟩ | ⟨g', cap', cur', hu, hb', hh', _⟩⟩ := h'
  ·right; subst hv; subst hu; simp [Value.ownBlock]
  ·right
   subst hv; subst hu
   simp only [Value.ownBlock]
   intro e
   injection e with e
   subst e
   rw [hh] at hh'
   injection hh' with e1
   injection e1 with _ e2
   exact he e2
theorem OwnU.other {w w' : World} {b b' : Nat} {e e' : TypeId} {s' : Nat} {v u : Value} {n m : Nat} {xs ys : List Value} (h : OwnU w b e v n xs) (h' : w.ownsRow b' e' s' u m ys) (he : e ≠ e') (g : w.grownBy w' u.ownBlock) : OwnU w' b e v n xs := by
 have hne := owns_ne h.1 h' he
 refine ⟨h.1.kept g hne, fun k hk o x => ?_⟩
 have hlt := (gowns_lt h.1 hk).2
 rw [World.cell?_of_block (g.block k hlt (by rw [← hk]; rcases hne with h1 | h1; rw [h1] at hk; cases hk; exact h1))]
 exact h.2 k hk o x
theorem OwnU.base {w : World} {base : Nat} {e : TypeId} {v : Value} {n : Nat} {xs : List Value} (h : OwnU w base e v n xs) (k : Nat) (hk : v.ownBlock = some k) : base ≤ k := (gowns_lt h.1 hk).1
/-- The solver with one more row. -/
theorem SolAt.app {w w' : World} {base xb n b l : Nat} {ss vs : Sl} {rv lv rv' lv' : Value} {R : Lds} {bs : List Nat} {row : Vec} (h : SolAt w base xb n ss vs rv lv R bs) (hv : VecAt w b n row) (hb : b ∉ bs) (hbb : base ≤ b) (hl : l < n) (hs : base ≤ w.heap.size)
  (f : Far base rv lv w w') (hr : OwnU w' base 52 rv' (R.length + 1) ((bs.map fun b => Value.slice (some ⟨b, 0, none⟩) n n) ++ [.slice (some ⟨b, 0, none⟩) n n]))
  (hi : OwnU w' base 3 lv' (R.length + 1) (ivals (R.map fun p => (p.2 : Int)) ++ [.int .i64 (l : Int)])) (x' : World) (hx : Only xb w' x') (hbx : Blk x' xb #[.int .i64 (n : Int), ss.v, vs.v, rv', lv'] 100) (hbx0 : ∃ cs, Blk w' xb cs 100) :
  SolAt x' base xb n ss vs rv' lv' (R ++ [(row, l)]) (bs ++ [b]) := by
 obtain ⟨cs, hcs⟩ := hbx0
 have hblk : ∀ k cs t, Blk w k cs t → t ≠ 52 → t ≠ 3 → Blk w' k cs t := fun k cs t hk h1 h2 => by
  unfold Blk
  rw [f.blk k hk.lt ?_ ?_]
  ·exact hk
  ·intro e
   obtain ⟨_, ⟨hv, _⟩ | ⟨g, cap, cur, hv, _, hh, _⟩⟩ := h.rows
   ·subst hv; simp [Value.ownBlock] at e
   ·subst hv
    simp only [Value.ownBlock] at e
    injection e with e
    subst e
    exact blk_ne hk (show Blk w g cur 52 from hh) h1 rfl
  ·intro e
   obtain ⟨_, ⟨hv, _⟩ | ⟨g, cap, cur, hv, _, hh, _⟩⟩ := h.leads
   ·subst hv; simp [Value.ownBlock] at e
   ·subst hv
    simp only [Value.ownBlock] at e
    injection e with e
    subst e
    exact blk_ne hk (show Blk w g cur 3 from hh) h2 rfl
 have hvec : ∀ k v, VecAt w k n v → VecAt x' k n v := fun k v hk => by
  obtain ⟨fs, f1, f2, f3⟩ := hk
  have hb1 := hblk k _ _ f1 (by decide) (by decide)
  exact ⟨fs, hx.blk hb1 (blk_ne hb1 hcs (by decide)), f2, fun i g hg => ((f3 i g hg).keepU f.iu).keepU hx.iu⟩
 refine ⟨hbx, ?_, ?_, by simp [h.len], fun i b' p h1 h2 => ?_, ?_, ⟨h.hbase.1, fun k hk => ?_⟩, fun p hp => ?_, ?_, ?_⟩
 ·rw [List.length_append, List.map_append]
  exact owns_only hx hcs (by decide) hr.1
 ·unfold VRow
  rw [List.map_append, List.length_append, List.length_map]
  have := owns_only hx hcs (by decide) hi.1
  unfold ivals at this ⊢
  rw [List.map_append]
  exact this
 ·by_cases hi' : i < bs.length
  ·rw [List.getElem?_append_left hi'] at h1
   rw [List.getElem?_append_left (by rw [← h.len]; exact hi')] at h2
   exact hvec _ _ (h.each i b' p h1 h2)
  ·rw [List.getElem?_append_right (by omega)] at h1
   rw [List.getElem?_append_right (by rw [← h.len]; omega), ← h.len] at h2
   have h0 : i - bs.length = 0 := by
    rcases Nat.lt_or_ge (i - bs.length) 1 with h9 | h9
    ·omega
    ·rw [List.getElem?_eq_none (by simpa using h9)] at h1; cases h1
   rw [h0] at h1 h2
   simp at h1 h2
   subst h1; subst h2
   exact hvec _ _ hv
 ·rw [List.nodup_append]
  refine ⟨h.nodup, by simp, fun a ha c hc e => ?_⟩
  rw [List.mem_singleton] at hc
  subst hc; subst e
  exact hb ha
 ·rcases List.mem_append.1 hk with hk | hk
  ·exact h.hbase.2 k hk
  ·rw [List.mem_singleton.1 hk]; exact hbb
 ·rcases List.mem_append.1 hp with hp | hp
  ·exact h.lt p hp
  ·rw [List.mem_singleton.1 hp]; exact hl
 ·exact hr.2.only hx hcs (by decide) hr.1
 ·exact hi.2.only hx hcs (by decide) hi.1
theorem blk_grown {w w' : World} {k : Nat} {cs : Array Value} {t : TypeId} {b' : Nat} {e' : TypeId} {s' : Nat} {u : Value} {m : Nat} {ys : List Value} (hk : Blk w k cs t) (h : w.ownsRow b' e' s' u m ys) (ht : t ≠ e') (g : w.grownBy w' u.ownBlock) : Blk w' k cs t := by
 unfold Blk
 rw [g.block k hk.lt ?_]
 ·exact hk
 ·intro e
  obtain ⟨_, ⟨hv, _⟩ | ⟨g, cap, cur, hv, _, hh, _⟩⟩ := h
  ·subst hv; simp [Value.ownBlock] at e
  ·subst hv
   simp only [Value.ownBlock] at e
   injection e with e
   subst e
   exact blk_ne hk (show Blk w k cur e' from hh) ht rfl
/-- Between the appends of 'add'. -/
structure Mid2 (base xb : Nat) (cs : Array Value) (rv lv : Value) (V W : World) (v u : Value) (m k : Nat) (xs ys : List Value) : Prop where
 far : Far base rv lv V W
 box : Blk W xb cs 100
 r : OwnU W base 52 v m xs
 i : OwnU W base 3 u k ys
 hV : base ≤ V.heap.size
theorem Mid2.ext {base xb : Nat} {cs : Array Value} {rv lv : Value} {V W W' : World} {v u : Value} {m k : Nat} {xs ys : List Value} (h : Mid2 base xb cs rv lv V W v u m k xs ys) (e : Ext W W') : Mid2 base xb cs rv lv V W' v u m k xs ys :=
 ⟨h.far.ext e h.hV, h.box.ext e, h.r.ext e, h.i.ext e, h.hV⟩
theorem Mid2.left {base xb : Nat} {cs : Array Value} {rv lv : Value} {V W W' : World} {u : Value} {m k m' : Nat} {xs ys xs' : List Value} {v' : Value} (h : Mid2 base xb cs rv lv V W rv u m k xs ys) (g : W.grownBy W' rv.ownBlock) (i : IU W W') (ho : OwnU W' base 52 v' m' xs') : Mid2 base xb cs rv lv V W' v' u m' k xs' ys :=
 ⟨h.far.left g i h.hV h.r.base, blk_grown h.box h.r.1 (by decide) g, ho, h.i.other h.r.1 (by decide) g, h.hV⟩
theorem Mid2.right {base xb : Nat} {cs : Array Value} {rv lv : Value} {V W W' : World} {v : Value} {m k k' : Nat} {xs ys ys' : List Value} {u' : Value} (h : Mid2 base xb cs rv lv V W v lv m k xs ys) (g : W.grownBy W' lv.ownBlock) (i : IU W W') (ho : OwnU W' base 3 u' k' ys') : Mid2 base xb cs rv lv V W' v u' m k' xs ys' :=
 ⟨h.far.right g i h.hV h.i.base, blk_grown h.box h.i.1 (by decide) g, h.r.other h.i.1 (by decide) g, ho, h.hV⟩
theorem Mid2.size {base xb : Nat} {cs : Array Value} {rv lv : Value} {V W : World} {v u : Value} {m k : Nat} {xs ys : List Value} (h : Mid2 base xb cs rv lv V W v u m k xs ys) : base ≤ W.heap.size := Nat.le_trans h.hV h.far.bl.size
theorem fracsInfo : (Try.prog.info? 52).map (fun i => (i.zero, i.size, i.bytes)) = some (some (.slice none 0 0), 1, 24) := by kernel_rfl
theorem nu_rows (bs : List Nat) (n : Nat) : ∀ u ∈ bs.map (fun b => Value.slice (some ⟨b, 0, none⟩) n n), ∀ m, u ≠ Value.int .u32 m := by
 intro u hu m
 obtain ⟨b, _, rfl⟩ := List.mem_map.1 hu
 simp
theorem nu_ints (l : List Int) : ∀ u ∈ ivals l, ∀ m, u ≠ Value.int .u32 m := by
 intro u hu m
 obtain ⟨b, _, rfl⟩ := List.mem_map.1 hu
 simp
theorem Only.two {w : World} {xb : Nat} {cs : Array Value} {t : TypeId} (h : Blk w xb cs t) (a b : Nat) (x y : Value) (hx : ∀ n, w.cell? ⟨xb, a, none⟩ ≠ some (.int .u32 n)) (hy : ∀ n, (w.setCell ⟨xb, a, none⟩ x).cell? ⟨xb, b, none⟩ ≠ some (.int .u32 n)) : Only xb w ((w.setCell ⟨xb, a, none⟩ x).setCell ⟨xb, b, none⟩ y) :=
 ⟨rfl, rfl, rfl, by simp, fun k _ hne => by rw [Below.heap_setCell _ _ _ _ hne, Below.heap_setCell _ _ _ _ hne], ((IU.refl w).setCell hx x).setCell hy y⟩
theorem SolAt.fin {wr W : World} {base xb n b l m : Nat} {ss vs : Sl} {rv lv rv' lv' : Value} {R : Lds} {bs : List Nat} {row : Vec} {CS : Array Value} {XS YS : List Value} (h : SolAt wr base xb n ss vs rv lv R bs) (hv : VecAt wr b n row) (hb : b ∉ bs) (hbb : base ≤ b) (hl : l < n)
  (hC : #[Value.int .i64 (n : Int), ss.v, vs.v, rv, lv] = CS) (hX : (bs.map fun b => Value.slice (some ⟨b, 0, none⟩) n n) = XS) (hY : ivals (R.map fun p => (p.2 : Int)) = YS) (hm : R.length = m)
  (M : Mid2 base xb CS rv lv wr W rv' lv' (m + 1) (m + 1) (XS ++ [.slice (some ⟨b, 0, none⟩) n n]) (YS ++ [.int .i64 (l : Int)])) (hrv : ∀ k, rv ≠ Value.int .u32 k) (hlv : ∀ k, lv ≠ Value.int .u32 k) :
  SolAt ((W.setCell ⟨xb, 3, none⟩ rv').setCell ⟨xb, 4, none⟩ lv') base xb n ss vs rv' lv' (R ++ [(row, l)]) (bs ++ [b]) ∧ Below base wr ((W.setCell ⟨xb, 3, none⟩ rv').setCell ⟨xb, 4, none⟩ lv') := by
 subst hm; subst hX; subst hY; subst hC
 have c3 : W.cell? ⟨xb, 3, none⟩ = some rv := M.box.cell 3
 have c4 : W.cell? ⟨xb, 4, none⟩ = some lv := M.box.cell 4
 have ho : Only xb W ((W.setCell ⟨xb, 3, none⟩ rv').setCell ⟨xb, 4, none⟩ lv') := Only.two M.box 3 4 rv' lv' (fun k e => by rw [c3] at e; injection e with e; exact hrv k e) (fun k e => by
  rw [World.cell?_setCell_other _ _ _ _ (by simp), c4] at e; injection e with e; exact hlv k e)
 refine ⟨h.app hv hb hbb hl M.hV M.far M.r M.i _ ho ?_ ⟨_, M.box⟩, M.far.bl.trans (ho.below h.hbase.1 M.size)⟩
 exact Blk.set (Blk.set M.box 3 rv') 4 lv'
end Go.Proofs.Ytkoidookanmknaa
