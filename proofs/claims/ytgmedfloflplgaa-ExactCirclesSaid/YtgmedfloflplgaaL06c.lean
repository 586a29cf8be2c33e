/- meresmanlaw06: ExactCircles, the walk. -/
import Derived.Test.YtgmedfloflplgaaL06a
import Derived.Test.YtgmedfloflplgaaL06b
import Derived.Test.YtgmedfloflplgaaR06b
import Derived.Test.YtgmedfloflplgaaR06d
namespace Go.Proofs.Ytgmedfloflplgaa
open Go.RowKit

/-- The first points of the law. -/
def gridL (zs : List Int) (i : Nat) : List Pt := (List.range i).map fun k => gridF (pickF zs k 1048576)
theorem gridL_succ (zs : List Int) (i : Nat) : gridL zs (i + 1) = gridL zs i ++ [gridF (pickF zs i 1048576)] := by simp [gridL, List.range_succ]
theorem gridL_length (zs : List Int) (i : Nat) : (gridL zs i).length = i := by simp [gridL]
theorem int64_pick (zs : List Int) (i : Nat) : Int64 (pickF zs i 1048576) := by
  have := pickF_bd zs i 1048576 (by omega)
  exact ⟨by omega, by omega⟩

theorem validE_two (p : Pt) : validE p = 0 ∨ validE p = 5 := by unfold validE; split <;> simp
theorem circle_two {a b c d : Pt} (h : firstE validE [a, b, c, d] = 0) : (CircleF a b c d).2 ≠ 5 := by
  unfold CircleF; rw [if_pos h]; split <;> simp
theorem side_two {a b c : Pt} (h : firstE validE [a, b, c] = 0) : (SideOfF a b c).2 = 0 := by
  unfold SideOfF; rw [if_pos h]
theorem circle_bad {a b c d : Pt} (h : firstE validE [a, b, c, d] = 5) : (CircleF a b c d).2 = 5 := by
  unfold CircleF; rw [if_neg (by omega), h]
theorem side_bad {a b c : Pt} (h : firstE validE [a, b, c] = 5) : (SideOfF a b c).2 = 5 := by
  unfold SideOfF; rw [if_neg (by omega), h]
theorem bad_law {q0 q1 q2 q3 b0 b1 b2 b3 p' : Pt} {k : Nat} (hk : k < 4) (hB : ([q0, q1, q2, q3] : List Pt).set k p' = [b0, b1, b2, b3]) (h0 : Tiny q0) (h1 : Tiny q1) (h2 : Tiny q2) (h3 : Tiny q3) :
    (validE p' = 0 ∧ (CircleF b0 b1 b2 b3).2 ≠ 5 ∧ (SideOfF b0 b1 b2).2 ≠ 5) ∨ (validE p' = 5 ∧ (CircleF b0 b1 b2 b3).2 = 5 ∧ (SideOfF b0 b1 b2).2 = 5 ∧ k < 3) ∨
      (validE p' = 5 ∧ (CircleF b0 b1 b2 b3).2 = 5 ∧ (SideOfF b0 b1 b2).2 ≠ 5 ∧ 3 ≤ k) := by
  have e0 := h0.validE; have e1 := h1.validE; have e2 := h2.validE; have e3 := h3.validE
  match k, hk with
  | 0, _ =>
    injection hB with ha hB; injection hB with hb hB; injection hB with hc hB; injection hB with hd _
    subst ha; subst hb; subst hc; subst hd
    rcases validE_two p' with h | h
    · exact .inl ⟨h, circle_two (by simp [firstE, h, e0, e1, e2, e3]), by rw [side_two (by simp [firstE, h, e0, e1, e2, e3])]; omega⟩
    · exact .inr (.inl ⟨h, circle_bad (by simp [firstE, h, e0, e1, e2, e3]), side_bad (by simp [firstE, h, e0, e1, e2, e3]), by omega⟩)
  | 1, _ =>
    injection hB with ha hB; injection hB with hb hB; injection hB with hc hB; injection hB with hd _
    subst ha; subst hb; subst hc; subst hd
    rcases validE_two p' with h | h
    · exact .inl ⟨h, circle_two (by simp [firstE, h, e0, e1, e2, e3]), by rw [side_two (by simp [firstE, h, e0, e1, e2, e3])]; omega⟩
    · exact .inr (.inl ⟨h, circle_bad (by simp [firstE, h, e0, e1, e2, e3]), side_bad (by simp [firstE, h, e0, e1, e2, e3]), by omega⟩)
  | 2, _ =>
    injection hB with ha hB; injection hB with hb hB; injection hB with hc hB; injection hB with hd _
    subst ha; subst hb; subst hc; subst hd
    rcases validE_two p' with h | h
    · exact .inl ⟨h, circle_two (by simp [firstE, h, e0, e1, e2, e3]), by rw [side_two (by simp [firstE, h, e0, e1, e2, e3])]; omega⟩
    · exact .inr (.inl ⟨h, circle_bad (by simp [firstE, h, e0, e1, e2, e3]), side_bad (by simp [firstE, h, e0, e1, e2, e3]), by omega⟩)
  | 3, _ =>
    injection hB with ha hB; injection hB with hb hB; injection hB with hc hB; injection hB with hd _
    subst ha; subst hb; subst hc; subst hd
    rcases validE_two p' with h | h
    · exact .inl ⟨h, circle_two (by simp [firstE, h, e0, e1, e2, e3]), by rw [side_two (by simp [firstE, h, e0, e1, e2, e3])]; omega⟩
    · exact .inr (.inr ⟨h, circle_bad (by simp [firstE, h, e0, e1, e2, e3]), by rw [side_two (by simp [firstE, h, e0, e1, e2, e3])]; omega, by omega⟩)
def ordOf (i : Nat) : Nat × Nat × Nat := if i = 0 then (0, 1, 2) else if i = 1 then (1, 2, 0) else if i = 2 then (2, 0, 1) else if i = 3 then (1, 0, 2) else if i = 4 then (0, 2, 1) else (2, 1, 0)
theorem ordOf_law (i : Nat) (q0 q1 q2 q3 : Pt) : circK (([q0, q1, q2, q3] : List Pt).getD (ordOf i).1 ⟨0, 0⟩) (([q0, q1, q2, q3] : List Pt).getD (ordOf i).2.1 ⟨0, 0⟩) (([q0, q1, q2, q3] : List Pt).getD (ordOf i).2.2 ⟨0, 0⟩) q3 = circK q0 q1 q2 q3 := by
  unfold ordOf
  split
  · rfl
  · split
    · exact circK_cyc q0 q1 q2 q3
    · split
      · exact (circK_cyc q1 q2 q0 q3).trans (circK_cyc q0 q1 q2 q3)
      · split
        · exact circK_swap q0 q1 q2 q3
        · split
          · exact (circK_swap q2 q0 q1 q3).trans ((circK_cyc q1 q2 q0 q3).trans (circK_cyc q0 q1 q2 q3))
          · exact (circK_swap q1 q2 q0 q3).trans (circK_cyc q0 q1 q2 q3)
theorem ordOf_lt (i : Nat) : (ordOf i).1 < 3 ∧ (ordOf i).2.1 < 3 ∧ (ordOf i).2.2 < 3 := by
  unfold ordOf; repeat' (first | split | exact ⟨by decide, by decide, by decide⟩)
theorem ordOf_cells {w : World} {ob : Nat} (h : At w ob #[.int .i64 0, .int .i64 1, .int .i64 2, .int .i64 1, .int .i64 2, .int .i64 0, .int .i64 2, .int .i64 0, .int .i64 1, .int .i64 1, .int .i64 0, .int .i64 2, .int .i64 0, .int .i64 2, .int .i64 1, .int .i64 2, .int .i64 1, .int .i64 0]) (i : Nat) (hi : i < 6) :
    w.cell? ⟨ob, i * 3, none⟩ = some (.int .i64 ((ordOf i).1 : Int)) ∧ w.cell? ⟨ob, i * 3 + 1, none⟩ = some (.int .i64 ((ordOf i).2.1 : Int)) ∧ w.cell? ⟨ob, i * 3 + 2, none⟩ = some (.int .i64 ((ordOf i).2.2 : Int)) := by
  match i, hi with
  | 0, _ => exact ⟨h 0 (by simp), h 1 (by simp), h 2 (by simp)⟩
  | 1, _ => exact ⟨h 3 (by simp), h 4 (by simp), h 5 (by simp)⟩
  | 2, _ => exact ⟨h 6 (by simp), h 7 (by simp), h 8 (by simp)⟩
  | 3, _ => exact ⟨h 9 (by simp), h 10 (by simp), h 11 (by simp)⟩
  | 4, _ => exact ⟨h 12 (by simp), h 13 (by simp), h 14 (by simp)⟩
  | 5, _ => exact ⟨h 15 (by simp), h 16 (by simp), h 17 (by simp)⟩
  | i + 6, hi => omega
theorem At.pts4 {w : World} {b : Nat} {p q r s : Pt} (h : At w b #[.int .i64 p.x, .int .i64 p.y, .int .i64 q.x, .int .i64 q.y, .int .i64 r.x, .int .i64 r.y, .int .i64 s.x, .int .i64 s.y]) : Pts w b [p, q, r, s] := Pts.four h

theorem tiny_at {q0 q1 q2 q3 : Pt} (h : Tiny q0 ∧ Tiny q1 ∧ Tiny q2 ∧ Tiny q3) (o : Nat) (ho : o < 4) : Tiny (([q0, q1, q2, q3] : List Pt).getD o ⟨0, 0⟩) := by
  match o, ho with
  | 0, _ => exact h.1
  | 1, _ => exact h.2.1
  | 2, _ => exact h.2.2.1
  | 3, _ => exact h.2.2.2
set_option maxRecDepth 100000 in
set_option maxHeartbeats 4000000 in
theorem walkCircles (a0 : Option Addr) (n c : Nat) (zs : List Int) (a1 a2 a3 : Int) (w : World) (h0 : Ints w a0 n zs) (h1 : Int64 a1) (h2 : Int64 a2) (h3 : Int64 a3) :
    Calls Try.prog 3 #[.slice a0 n c, .int .i64 a1, .int .i64 a2, .int .i64 a3] w fun e w' => e = .returned (.bool true) ∧ Ext w w' := by
  obtain ⟨i0, hi0, hz0, hz1, hz2⟩ := info_parts pointInfo
  have H0 := Lib.hid h0; have H1 := Lib.hid h1; have H2 := Lib.hid h2; have H3 := Lib.hid h3; clear h0 h1 h2 h3
  go_enter Try.func3, Try.ntmps3
  go_wp2_with fail
  go_loopw [9, 10] (fun qv iv ws => ∃ i : Nat, i ≤ 4 ∧ iv = .int .i64 (i : Int) ∧ PRow ws w.heap.size qv (gridL zs i) ∧ Ext w ws) (fun _ v _ => 4 - (intOf v).toNat)
  case atStart => exact ⟨0, by omega, rfl, PRow.nil w _, Ext.refl w⟩
  case round =>
    obtain ⟨i, hi, rfl, hP, hE⟩ := hrel
    have HP := Lib.hid hP; have HE := Lib.hid hE; clear hP
    have hsz := hE.size
    by_cases hlt : i < 4
    · clear hE
      go_wp2_with fail
      refine (pick_c a0 n c zs _ i _ _ (H0.out.keep HE.out.ik) rfl (by omega) (by omega) (by omega)).mono ?_
      rintro e w2 ⟨rfl, rfl⟩
      go_wp2_with fail
      refine (grid_c _ _ (int64_pick zs i)).mono ?_
      rintro e w3 ⟨rfl, hx3⟩
      have hE3 := HE.out.trans hx3
      have hs3 := hE3.size
      have hP3 := Lib.hid (HP.out.ext hx3)
      have HE3 := Lib.hid hE3
      clear hx3 hE3
      go_wp2_with (refine wpList_append_lies _ rfl _ _ _ rfl w.heap.size 25 i0 _ 2 16 Try.underlying23 hi0 hz0 hz1 hz2 rfl (by omega) _ _ _ rfl (hP3.out.ext (by repeat (first | exact Ext.refl _ | assumption | refine Ext.setCell ?_ (by first | (simp; done) | (simp; omega) | omega) _ | refine Ext.alloc ?_ _ | refine Ext.drew ?_ | refine Ext.trans ?_ (by assumption)))) ⟨w3.heap.size, 0, none⟩ 1 1 (pcells [gridF (pickF zs i 1048576)]) rfl rfl (news_atL (fun k hk => ?c1)) (pcells_one _) (by omega) (by rw [gridL_length, maxLen]; omega) (by rw [gridL_length]; omega) (by simp; omega) _ rfl ?_)
      case c1 =>
        match k, hk with
        | 0, _ => exact ⟨by simp, by simp⟩
        | k + 1, hk => simp at hk
      · intro g cap w1 hown hgrow hat hlt1
        have hR := Lib.hid (show PRow w1 w.heap.size (.slice (some ⟨g, 0, none⟩) ((gridL zs i).length + 1) cap) (gridL zs (i + 1)) ∧ Ext w w1 from
          ⟨by rw [gridL_succ]; exact PRow.app hown, ext_grown (HE3.out.alloc _) hgrow (fun g hg => (owns_lt HP.out hg).1)⟩)
        clear hown hgrow hat
        go_wp2_with fail
        go_roundw
        case rel => exact ⟨i + 1, by omega, by go_num, hR.out.1, hR.out.2⟩
        case measure => simp [intOf]; omega
    · obtain rfl : i = 4 := by omega
      obtain ⟨g, cap, rfl, hgb, hgl⟩ := World.ownsRow.form HP.out (by rw [gridL_length]; omega)
      rw [gridL_length]
      have hq := HP.out.pts
      have hl4 := gridL_length zs 4
      have ht : ∀ p, p ∈ gridL zs 4 → Tiny p := fun p hp => by simp [gridL] at hp; obtain ⟨k, _, rfl⟩ := hp; exact gridF_tiny _
      obtain ⟨q0, q1, q2, q3, hL⟩ := four_of hl4
      rw [hL] at hq ht
      have HT := Lib.hid (show Tiny q0 ∧ Tiny q1 ∧ Tiny q2 ∧ Tiny q3 from ⟨ht _ (by simp), ht _ (by simp), ht _ (by simp), ht _ (by simp)⟩)
      have HQ := Lib.hid hq
      clear hl4 ht hL hq HP
      go_wp2_with (refine wpList_append_lies _ rfl _ _ _ rfl wr.heap.size 25 i0 _ 2 16 Try.underlying23 hi0 hz0 hz1 hz2 rfl (by omega) _ 0 (pcells []) rfl (PRow.empty (Nat.le_refl _) (Blk.at _ _ rfl)) ⟨g, 0, none⟩ 4 cap (pcells [q0, q1, q2, q3]) rfl rfl (news_atL (HQ.out.ext (by repeat (first | exact Ext.refl _ | assumption | refine Ext.setCell ?_ (by first | (simp; done) | (simp; omega) | omega) _ | refine Ext.alloc ?_ _ | refine Ext.drew ?_ | refine Ext.trans ?_ (by assumption))))) (pcells_one _) (by omega) (by rw [maxLen]; omega) (by omega) (by simp <;> omega) _ rfl ?_)
      intro gb cb w1 hown hgrow hat hlt1
      have hown' : PRow w1 wr.heap.size (.slice (some ⟨gb, 0, none⟩) 4 cb) [q0, q1, q2, q3] := hown
      have hE1 : Ext wr w1 := ext_grown ((Ext.refl wr).alloc _) hgrow (fun g hg => by simp [Value.ownBlock] at hg; omega)
      have hgb1 : wr.heap.size ≤ gb := (owns_lt hown (by rfl)).1
      have HW := Lib.hid (show Pts w1 gb [q0, q1, q2, q3] ∧ (∀ o, w1.frozen? ⟨gb, o, none⟩ = false) ∧ Ext w w1 ∧ Pts w1 g [q0, q1, q2, q3] from ⟨hown'.pts, hown'.free, hE.trans hE1, HQ.out.ext hE1⟩)
      clear hown hown' hgrow hat hE1 hE
      go_wp2_with fail
      refine (around_c _ _ _ (by omega) (by omega) H1.out).mono ?_
      rintro e w2 ⟨rfl, rfl⟩
      have hk := aroundF_bd a1 4 (by omega)
      generalize aroundF a1 4 = kz at hk
      obtain ⟨k, rfl⟩ : ∃ k : Nat, kz = k := ⟨kz.toNat, by omega⟩
      have hk4 : k < 4 := by omega
      obtain ⟨k1, k2⟩ := hk
      have hz := (HW.out.1 k hk4).1
      have hz' := (HW.out.1 k hk4).2
      have hfr := HW.out.2.1
      generalize ([q0, q1, q2, q3] : List Pt).getD k ⟨0, 0⟩ = qk at hz hz'
      have hgbl := HW.out.1.lt (by simp)
      go_wp2_with fail
      refine (bent_c qk a2 a3 _ H2.out H3.out).mono ?_
      rintro e w3 ⟨rfl, hx3⟩
      have hP3 := Pts.ext hx3 HW.out.1
      have hz3 := (hP3 k hk4).1
      have hz3' := (hP3 k hk4).2
      have hfr3 : ∀ o, w3.frozen? ⟨gb, o, none⟩ = false := fun o => Ext.free hx3 hgbl (hfr o)
      have HW3 := Lib.hid (show Pts w3 gb [q0, q1, q2, q3] ∧ Ext w w3 ∧ Pts w3 g [q0, q1, q2, q3] from ⟨hP3, HW.out.2.2.1.trans hx3, Pts.ext hx3 HW.out.2.2.2⟩)
      have hgl3 := hP3.lt (by simp)
      have hng : g ≠ gb := by omega
      clear hP3 hx3 hz hz' hfr
      generalize hbq : bentF qk a2 a3 = p'
      have HBQ := Lib.hid hbq; clear hbq
      go_upto_region 9 with (fail)
      refine wp_gen (fun W => Ext w W ∧ Pts W g [q0, q1, q2, q3] ∧ Pts W gb (([q0, q1, q2, q3] : List Pt).set k p'))
        ⟨(HW3.out.2.1.setCell (show w.heap.size ≤ gb by omega) _).setCell (show w.heap.size ≤ gb by omega) _, (HW3.out.2.2.set' hng).set' hng, HW3.out.1.put hk4⟩ ?_
      clear hz3 hz3' hfr3 HW3 HW HQ
      rintro W ⟨E0, P0, P1⟩
      obtain ⟨b0, b1, b2, b3, hB⟩ := four_of (show (([q0, q1, q2, q3] : List Pt).set k p').length = 4 by simp)
      rw [hB] at P1
      have hkb : ([b0, b1, b2, b3] : List Pt).getD k ⟨0, 0⟩ = p' := by rw [← hB]; exact getD_set_same' _ _ _ _ (by simpa using hk4)
      have A0 := P0.at4
      have A1 := P1.at4
      have HB := Lib.hid hB; have HP1 := Lib.hid P1; have HKB := Lib.hid hkb
      clear P0 P1 hB hkb
      have hl0 := A0.lt (by simp)
      have hl1 := A1.lt (by simp)
      go_upto_region 10 with (fail)
      obtain ⟨ob, hob⟩ : ∃ ob, ob = W.heap.size := ⟨_, rfl⟩
      rw [← hob]
      refine wp_gen (fun V => Ext w V ∧ At V g #[.int .i64 q0.x, .int .i64 q0.y, .int .i64 q1.x, .int .i64 q1.y, .int .i64 q2.x, .int .i64 q2.y, .int .i64 q3.x, .int .i64 q3.y] ∧ At V gb #[.int .i64 b0.x, .int .i64 b0.y, .int .i64 b1.x, .int .i64 b1.y, .int .i64 b2.x, .int .i64 b2.y, .int .i64 b3.x, .int .i64 b3.y] ∧ At V ob #[.int .i64 0, .int .i64 1, .int .i64 2, .int .i64 1, .int .i64 2, .int .i64 0, .int .i64 2, .int .i64 0, .int .i64 1, .int .i64 1, .int .i64 0, .int .i64 2, .int .i64 0, .int .i64 2, .int .i64 1, .int .i64 2, .int .i64 1, .int .i64 0]) ⟨(by repeat (first | exact Ext.refl _ | assumption | refine Ext.setCell ?_ (by first | (simp; done) | (simp; omega) | omega) _ | refine Ext.alloc ?_ _ | refine Ext.drew ?_ | refine Ext.trans ?_ (by assumption))), At.alloc A0 (by simp), At.alloc A1 (by simp), by rw [hob]; exact (Blk.at _ 30 rfl).at'⟩ ?_
      rw [← hob] at hl0 hl1
      clear hob
      rintro V ⟨E1, B0, B1, B2⟩
      clear A0 A1 E0
      obtain ⟨want, hwant⟩ : ∃ x, circK q0 q1 q2 q3 = x := ⟨_, rfl⟩
      have HWANT := Lib.hid hwant; clear hwant
      go_region_held3 (fun w' => Ext w w' ∧ At w' g #[.int .i64 q0.x, .int .i64 q0.y, .int .i64 q1.x, .int .i64 q1.y, .int .i64 q2.x, .int .i64 q2.y, .int .i64 q3.x, .int .i64 q3.y] ∧ At w' gb #[.int .i64 b0.x, .int .i64 b0.y, .int .i64 b1.x, .int .i64 b1.y, .int .i64 b2.x, .int .i64 b2.y, .int .i64 b3.x, .int .i64 b3.y] ∧ At w' ob #[.int .i64 0, .int .i64 1, .int .i64 2, .int .i64 1, .int .i64 2, .int .i64 0, .int .i64 2, .int .i64 0, .int .i64 1, .int .i64 1, .int .i64 0, .int .i64 2, .int .i64 0, .int .i64 2, .int .i64 1, .int .i64 2, .int .i64 1, .int .i64 0])
        (first | exact ⟨E1.drew, B0, B1, B2⟩ | (go_split_ands; repeat' (first | with_reducible assumption | with_reducible apply And.intro | with_reducible exact Ext.refl _ | with_reducible refine Ext.setCell ?_ (by simp; omega) _ | with_reducible refine Ext.setCell ?_ (by simp) _ | with_reducible refine At.set ?_ (by omega) | with_reducible refine own1_set ?_ | with_reducible refine own2_set ?_ | with_reducible refine own3_set ?_ (by simp) | with_reducible refine Ext.drew ?_ | with_reducible refine At.drew ?_ | with_reducible refine own1_drew ?_ | with_reducible refine Ext.alloc ?_ _ | with_reducible refine At.alloc ?_ (by simp) | with_reducible refine own1_alloc ?_ | with_reducible refine cell_alloc ?_ | with_reducible refine cell_drew ?_ | with_reducible refine own2_drew ?_ | with_reducible refine own3_drew ?_ | with_reducible refine own2_alloc (by first | omega | (simp; omega)) ?_ | with_reducible refine own3_alloc (by first | omega | (simp; omega)) ?_ | with_reducible refine cell_set ?_ (by omega) | with_reducible exact Ext.trans' (by assumption) (by assumption) | with_reducible exact At.ext (by assumption) (by assumption) (by simp) | with_reducible exact Ext.cell (by assumption) (by assumption) | exact (Own.ext (by assumption) ⟨by assumption, by assumption, by assumption⟩ (by simp)).1 | exact (Own.ext (by assumption) ⟨by assumption, by assumption, by assumption⟩ (by simp)).2.1 | exact (Own.ext (by assumption) ⟨by assumption, by assumption, by assumption⟩ (by simp)).2.2)))
        ((go_at_call 14; refine (rcircle_c q0 q1 q2 q3 _ HT.out.1 HT.out.2.1 HT.out.2.2.1 HT.out.2.2.2).mono ?_; rw [HWANT.out]; rintro e w5 ⟨rfl, hx5⟩))
      clear E1 B0 B1 B2
      go_wp2_with fail
      have hS : Ext w w5 ∧ At w5 g #[.int .i64 q0.x, .int .i64 q0.y, .int .i64 q1.x, .int .i64 q1.y, .int .i64 q2.x, .int .i64 q2.y, .int .i64 q3.x, .int .i64 q3.y] ∧ At w5 gb #[.int .i64 b0.x, .int .i64 b0.y, .int .i64 b1.x, .int .i64 b1.y, .int .i64 b2.x, .int .i64 b2.y, .int .i64 b3.x, .int .i64 b3.y] ∧ At w5 ob #[.int .i64 0, .int .i64 1, .int .i64 2, .int .i64 1, .int .i64 2, .int .i64 0, .int .i64 2, .int .i64 0, .int .i64 1, .int .i64 1, .int .i64 0, .int .i64 2, .int .i64 0, .int .i64 2, .int .i64 1, .int .i64 2, .int .i64 1, .int .i64 0] := by assumption
      have HS := Lib.hid hS; clear hS hx5
      go_loopw [16] (fun v ws => ∃ i : Nat, i ≤ 6 ∧ v = .int .i64 (i : Int) ∧ Ext w ws ∧ At ws g #[.int .i64 q0.x, .int .i64 q0.y, .int .i64 q1.x, .int .i64 q1.y, .int .i64 q2.x, .int .i64 q2.y, .int .i64 q3.x, .int .i64 q3.y] ∧ At ws gb #[.int .i64 b0.x, .int .i64 b0.y, .int .i64 b1.x, .int .i64 b1.y, .int .i64 b2.x, .int .i64 b2.y, .int .i64 b3.x, .int .i64 b3.y] ∧ At ws ob #[.int .i64 0, .int .i64 1, .int .i64 2, .int .i64 1, .int .i64 2, .int .i64 0, .int .i64 2, .int .i64 0, .int .i64 1, .int .i64 1, .int .i64 0, .int .i64 2, .int .i64 0, .int .i64 2, .int .i64 1, .int .i64 2, .int .i64 1, .int .i64 0]) (fun v _ => 6 - (intOf v).toNat)
      case atStart => exact ⟨0, by omega, rfl, HS.out⟩
      case round =>
        obtain ⟨i, hi, rfl, E2, C0, C1, C2⟩ := hrel
        by_cases hlt6 : i < 6
        · have hlaw := ordOf_law i q0 q1 q2 q3
          obtain ⟨l0, l1, l2⟩ := ordOf_lt i
          obtain ⟨d0, d1, d2⟩ := ordOf_cells C2 i hlt6
          have hPP := C0.pts4
          have hTT : ∀ o, o < 4 → Tiny (([q0, q1, q2, q3] : List Pt).getD o ⟨0, 0⟩) := tiny_at HT.out
          generalize (ordOf i).1 = o0 at hlaw l0 d0
          generalize (ordOf i).2.1 = o1 at hlaw l1 d1
          generalize (ordOf i).2.2 = o2 at hlaw l2 d2
          obtain ⟨c0, c0'⟩ := hPP o0 (by simp; omega)
          obtain ⟨c1, c1'⟩ := hPP o1 (by simp; omega)
          obtain ⟨c2, c2'⟩ := hPP o2 (by simp; omega)
          have v0 := hTT o0 (by omega); have v1 := hTT o1 (by omega); have v2 := hTT o2 (by omega)
          generalize ([q0, q1, q2, q3] : List Pt).getD o0 ⟨0, 0⟩ = p0 at hlaw c0 c0' v0
          generalize ([q0, q1, q2, q3] : List Pt).getD o1 ⟨0, 0⟩ = p1 at hlaw c1 c1' v1
          generalize ([q0, q1, q2, q3] : List Pt).getD o2 ⟨0, 0⟩ = p2 at hlaw c2 c2' v2
          have hC : CircleF p0 p1 p2 q3 = want := (CircleF_ok (by simp [firstE, v0.validE, v1.validE, v2.validE, HT.out.2.2.2.validE])).trans (hlaw.trans HWANT.out)
          have HC := Lib.hid hC
          clear hlaw hPP hTT v0 v1 v2 hC
          have t0 : (0 : Int) ≤ (o0 : Int) := by omega
          have t1 : (o0 : Int) < 4 := by omega
          have t2 : (0 : Int) ≤ (o1 : Int) := by omega
          have t3 : (o1 : Int) < 4 := by omega
          have t4 : (0 : Int) ≤ (o2 : Int) := by omega
          have t5 : (o2 : Int) < 4 := by omega
          have t6 : (0 : Int) ≤ (i : Int) := by omega
          have t7 : (i : Int) < 6 := by omega
          have m0 := C0.lt (by simp)
          have m1 := C1.lt (by simp)
          have m2 := C2.lt (by simp)
          go_upto_region 15 with (fail)
          obtain ⟨bo, hbo⟩ : ∃ bo, bo = wr.heap.size := ⟨_, rfl⟩
          rw [← hbo]
          refine wp_gen (fun V => Ext w V ∧ At V g #[.int .i64 q0.x, .int .i64 q0.y, .int .i64 q1.x, .int .i64 q1.y, .int .i64 q2.x, .int .i64 q2.y, .int .i64 q3.x, .int .i64 q3.y] ∧ At V gb #[.int .i64 b0.x, .int .i64 b0.y, .int .i64 b1.x, .int .i64 b1.y, .int .i64 b2.x, .int .i64 b2.y, .int .i64 b3.x, .int .i64 b3.y] ∧ At V ob #[.int .i64 0, .int .i64 1, .int .i64 2, .int .i64 1, .int .i64 2, .int .i64 0, .int .i64 2, .int .i64 0, .int .i64 1, .int .i64 1, .int .i64 0, .int .i64 2, .int .i64 0, .int .i64 2, .int .i64 1, .int .i64 2, .int .i64 1, .int .i64 0] ∧ At V bo #[.int .i64 (o0 : Int), .int .i64 (o1 : Int), .int .i64 (o2 : Int)] ∧ V.cell? ⟨g, o0 * 2, none⟩ = some (.int .i64 p0.x) ∧ V.cell? ⟨g, o0 * 2 + 1, none⟩ = some (.int .i64 p0.y) ∧ V.cell? ⟨g, o1 * 2, none⟩ = some (.int .i64 p1.x) ∧ V.cell? ⟨g, o1 * 2 + 1, none⟩ = some (.int .i64 p1.y) ∧ V.cell? ⟨g, o2 * 2, none⟩ = some (.int .i64 p2.x) ∧ V.cell? ⟨g, o2 * 2 + 1, none⟩ = some (.int .i64 p2.y)) ⟨E2.alloc _, At.alloc C0 (by simp), At.alloc C1 (by simp), At.alloc C2 (by simp), by rw [hbo]; exact (Blk.at _ 30 rfl).at', cell_alloc c0, cell_alloc c0', cell_alloc c1, cell_alloc c1', cell_alloc c2, cell_alloc c2'⟩ ?_
          clear E2 C0 C1 C2 d0 d1 d2 c0 c0' c1 c1' c2 c2'
          rw [← hbo] at m0 m1 m2
          clear hbo
          rintro V2 ⟨E2, C0, C1, C2, C3, c0, c0', c1, c1', c2, c2'⟩
          go_region_held3 (fun w' => Ext w w' ∧ At w' g #[.int .i64 q0.x, .int .i64 q0.y, .int .i64 q1.x, .int .i64 q1.y, .int .i64 q2.x, .int .i64 q2.y, .int .i64 q3.x, .int .i64 q3.y] ∧ At w' gb #[.int .i64 b0.x, .int .i64 b0.y, .int .i64 b1.x, .int .i64 b1.y, .int .i64 b2.x, .int .i64 b2.y, .int .i64 b3.x, .int .i64 b3.y] ∧ At w' ob #[.int .i64 0, .int .i64 1, .int .i64 2, .int .i64 1, .int .i64 2, .int .i64 0, .int .i64 2, .int .i64 0, .int .i64 1, .int .i64 1, .int .i64 0, .int .i64 2, .int .i64 0, .int .i64 2, .int .i64 1, .int .i64 2, .int .i64 1, .int .i64 0] ∧ At w' bo #[.int .i64 (o0 : Int), .int .i64 (o1 : Int), .int .i64 (o2 : Int)] ∧ w'.cell? ⟨g, o0 * 2, none⟩ = some (.int .i64 p0.x) ∧ w'.cell? ⟨g, o0 * 2 + 1, none⟩ = some (.int .i64 p0.y) ∧ w'.cell? ⟨g, o1 * 2, none⟩ = some (.int .i64 p1.x) ∧ w'.cell? ⟨g, o1 * 2 + 1, none⟩ = some (.int .i64 p1.y) ∧ w'.cell? ⟨g, o2 * 2, none⟩ = some (.int .i64 p2.x) ∧ w'.cell? ⟨g, o2 * 2 + 1, none⟩ = some (.int .i64 p2.y))
            (first | exact ⟨E2.drew, C0, C1, C2, C3, c0, c0', c1, c1', c2, c2'⟩ | (go_split_ands; repeat' (first | with_reducible assumption | with_reducible apply And.intro | with_reducible exact Ext.refl _ | with_reducible refine Ext.setCell ?_ (by simp; omega) _ | with_reducible refine Ext.setCell ?_ (by simp) _ | with_reducible refine At.set ?_ (by omega) | with_reducible refine own1_set ?_ | with_reducible refine own2_set ?_ | with_reducible refine own3_set ?_ (by simp) | with_reducible refine Ext.drew ?_ | with_reducible refine At.drew ?_ | with_reducible refine own1_drew ?_ | with_reducible refine Ext.alloc ?_ _ | with_reducible refine At.alloc ?_ (by simp) | with_reducible refine own1_alloc ?_ | with_reducible refine cell_alloc ?_ | with_reducible refine cell_drew ?_ | with_reducible refine own2_drew ?_ | with_reducible refine own3_drew ?_ | with_reducible refine own2_alloc (by first | omega | (simp; omega)) ?_ | with_reducible refine own3_alloc (by first | omega | (simp; omega)) ?_ | with_reducible refine cell_set ?_ (by omega) | with_reducible exact Ext.trans' (by assumption) (by assumption) | with_reducible exact At.ext (by assumption) (by assumption) (by simp) | with_reducible exact Ext.cell (by assumption) (by assumption) | exact (Own.ext (by assumption) ⟨by assumption, by assumption, by assumption⟩ (by simp)).1 | exact (Own.ext (by assumption) ⟨by assumption, by assumption, by assumption⟩ (by simp)).2.1 | exact (Own.ext (by assumption) ⟨by assumption, by assumption, by assumption⟩ (by simp)).2.2)))
            ((go_at_call 15; refine (Circle_c p0 p1 p2 q3 _).mono ?_; rw [HC.out]; rintro e w6 ⟨rfl, hx6⟩))
          clear E2 C0 C1 C2 C3 c0 c0' c1 c1' c2 c2'
          go_wp2_with fail
          have hS5 : Ext w w6 ∧ At w6 g #[.int .i64 q0.x, .int .i64 q0.y, .int .i64 q1.x, .int .i64 q1.y, .int .i64 q2.x, .int .i64 q2.y, .int .i64 q3.x, .int .i64 q3.y] ∧ At w6 gb #[.int .i64 b0.x, .int .i64 b0.y, .int .i64 b1.x, .int .i64 b1.y, .int .i64 b2.x, .int .i64 b2.y, .int .i64 b3.x, .int .i64 b3.y] ∧ At w6 ob #[.int .i64 0, .int .i64 1, .int .i64 2, .int .i64 1, .int .i64 2, .int .i64 0, .int .i64 2, .int .i64 0, .int .i64 1, .int .i64 1, .int .i64 0, .int .i64 2, .int .i64 0, .int .i64 2, .int .i64 1, .int .i64 2, .int .i64 1, .int .i64 0] ∧ At w6 bo #[.int .i64 (o0 : Int), .int .i64 (o1 : Int), .int .i64 (o2 : Int)] ∧ w6.cell? ⟨g, o0 * 2, none⟩ = some (.int .i64 p0.x) ∧ w6.cell? ⟨g, o0 * 2 + 1, none⟩ = some (.int .i64 p0.y) ∧ w6.cell? ⟨g, o1 * 2, none⟩ = some (.int .i64 p1.x) ∧ w6.cell? ⟨g, o1 * 2 + 1, none⟩ = some (.int .i64 p1.y) ∧ w6.cell? ⟨g, o2 * 2, none⟩ = some (.int .i64 p2.x) ∧ w6.cell? ⟨g, o2 * 2 + 1, none⟩ = some (.int .i64 p2.y) := by assumption
          go_roundw
          case rel => exact ⟨i + 1, by omega, by go_num, hS5.1, hS5.2.1, hS5.2.2.1, hS5.2.2.2.1⟩
          case measure => simp [intOf]; omega
        · obtain rfl : i = 6 := by omega
          have hbl := bad_law hk4 HB.out HT.out.1 HT.out.2.1 HT.out.2.2.1 HT.out.2.2.2
          obtain ⟨ce, hce⟩ : ∃ x, CircleF b0 b1 b2 b3 = x := ⟨_, rfl⟩
          obtain ⟨se, hse⟩ : ∃ x, SideOfF b0 b1 b2 = x := ⟨_, rfl⟩
          obtain ⟨ve, hve⟩ : ∃ x, validE p' = x := ⟨_, rfl⟩
          rw [hce, hse, hve] at hbl
          have HCE := Lib.hid hce; have HSE := Lib.hid hse; have HVE := Lib.hid hve; have HBL := Lib.hid hbl; clear hce hse hve hbl
          obtain ⟨d0, d1⟩ := C1.pts4 k hk4
          rw [HKB.out] at d0 d1
          have m0 := C0.lt (by simp)
          have m1 := C1.lt (by simp)
          go_upto_region 18 with (fail)
          go_region_held3 (fun w' => Ext w w' ∧ At w' g #[.int .i64 q0.x, .int .i64 q0.y, .int .i64 q1.x, .int .i64 q1.y, .int .i64 q2.x, .int .i64 q2.y, .int .i64 q3.x, .int .i64 q3.y] ∧ At w' gb #[.int .i64 b0.x, .int .i64 b0.y, .int .i64 b1.x, .int .i64 b1.y, .int .i64 b2.x, .int .i64 b2.y, .int .i64 b3.x, .int .i64 b3.y] ∧ At w' ob #[.int .i64 0, .int .i64 1, .int .i64 2, .int .i64 1, .int .i64 2, .int .i64 0, .int .i64 2, .int .i64 0, .int .i64 1, .int .i64 1, .int .i64 0, .int .i64 2, .int .i64 0, .int .i64 2, .int .i64 1, .int .i64 2, .int .i64 1, .int .i64 0] ∧ w'.cell? ⟨gb, k * 2, none⟩ = some (.int .i64 p'.x) ∧ w'.cell? ⟨gb, k * 2 + 1, none⟩ = some (.int .i64 p'.y))
            (first | exact ⟨E2.drew, C0, C1, C2, d0, d1⟩ | (go_split_ands; repeat' (first | with_reducible assumption | with_reducible apply And.intro | with_reducible exact Ext.refl _ | with_reducible refine Ext.setCell ?_ (by simp; omega) _ | with_reducible refine Ext.setCell ?_ (by simp) _ | with_reducible refine At.set ?_ (by omega) | with_reducible refine own1_set ?_ | with_reducible refine own2_set ?_ | with_reducible refine own3_set ?_ (by simp) | with_reducible refine Ext.drew ?_ | with_reducible refine At.drew ?_ | with_reducible refine own1_drew ?_ | with_reducible refine Ext.alloc ?_ _ | with_reducible refine At.alloc ?_ (by simp) | with_reducible refine own1_alloc ?_ | with_reducible refine cell_alloc ?_ | with_reducible refine cell_drew ?_ | with_reducible refine own2_drew ?_ | with_reducible refine own3_drew ?_ | with_reducible refine own2_alloc (by first | omega | (simp; omega)) ?_ | with_reducible refine own3_alloc (by first | omega | (simp; omega)) ?_ | with_reducible refine cell_set ?_ (by omega) | with_reducible exact Ext.trans' (by assumption) (by assumption) | with_reducible exact At.ext (by assumption) (by assumption) (by simp) | with_reducible exact Ext.cell (by assumption) (by assumption) | exact (Own.ext (by assumption) ⟨by assumption, by assumption, by assumption⟩ (by simp)).1 | exact (Own.ext (by assumption) ⟨by assumption, by assumption, by assumption⟩ (by simp)).2.1 | exact (Own.ext (by assumption) ⟨by assumption, by assumption, by assumption⟩ (by simp)).2.2)))
            ((go_at_call 15; refine (Circle_c b0 b1 b2 b3 _).mono ?_; rw [HCE.out]; rintro e w6 ⟨rfl, hx6⟩))
          clear E2 C0 C1 C2 d0 d1
          obtain ⟨E2, C0, C1, C2, d0, d1⟩ : Ext w w6 ∧ At w6 g #[.int .i64 q0.x, .int .i64 q0.y, .int .i64 q1.x, .int .i64 q1.y, .int .i64 q2.x, .int .i64 q2.y, .int .i64 q3.x, .int .i64 q3.y] ∧ At w6 gb #[.int .i64 b0.x, .int .i64 b0.y, .int .i64 b1.x, .int .i64 b1.y, .int .i64 b2.x, .int .i64 b2.y, .int .i64 b3.x, .int .i64 b3.y] ∧ At w6 ob #[.int .i64 0, .int .i64 1, .int .i64 2, .int .i64 1, .int .i64 2, .int .i64 0, .int .i64 2, .int .i64 0, .int .i64 1, .int .i64 1, .int .i64 0, .int .i64 2, .int .i64 0, .int .i64 2, .int .i64 1, .int .i64 2, .int .i64 1, .int .i64 0] ∧ w6.cell? ⟨gb, k * 2, none⟩ = some (.int .i64 p'.x) ∧ w6.cell? ⟨gb, k * 2 + 1, none⟩ = some (.int .i64 p'.y) := by assumption
          clear hx6
          have m0 := C0.lt (by simp)
          have m1 := C1.lt (by simp)
          go_upto_region 19 with (fail)
          go_region_held3 (fun w' => Ext w w' ∧ At w' g #[.int .i64 q0.x, .int .i64 q0.y, .int .i64 q1.x, .int .i64 q1.y, .int .i64 q2.x, .int .i64 q2.y, .int .i64 q3.x, .int .i64 q3.y] ∧ At w' gb #[.int .i64 b0.x, .int .i64 b0.y, .int .i64 b1.x, .int .i64 b1.y, .int .i64 b2.x, .int .i64 b2.y, .int .i64 b3.x, .int .i64 b3.y] ∧ At w' ob #[.int .i64 0, .int .i64 1, .int .i64 2, .int .i64 1, .int .i64 2, .int .i64 0, .int .i64 2, .int .i64 0, .int .i64 1, .int .i64 1, .int .i64 0, .int .i64 2, .int .i64 0, .int .i64 2, .int .i64 1, .int .i64 2, .int .i64 1, .int .i64 0] ∧ w'.cell? ⟨gb, k * 2, none⟩ = some (.int .i64 p'.x) ∧ w'.cell? ⟨gb, k * 2 + 1, none⟩ = some (.int .i64 p'.y))
            (first | exact ⟨E2.drew, C0, C1, C2, d0, d1⟩ | (go_split_ands; repeat' (first | with_reducible assumption | with_reducible apply And.intro | with_reducible exact Ext.refl _ | with_reducible refine Ext.setCell ?_ (by simp; omega) _ | with_reducible refine Ext.setCell ?_ (by simp) _ | with_reducible refine At.set ?_ (by omega) | with_reducible refine own1_set ?_ | with_reducible refine own2_set ?_ | with_reducible refine own3_set ?_ (by simp) | with_reducible refine Ext.drew ?_ | with_reducible refine At.drew ?_ | with_reducible refine own1_drew ?_ | with_reducible refine Ext.alloc ?_ _ | with_reducible refine At.alloc ?_ (by simp) | with_reducible refine own1_alloc ?_ | with_reducible refine cell_alloc ?_ | with_reducible refine cell_drew ?_ | with_reducible refine own2_drew ?_ | with_reducible refine own3_drew ?_ | with_reducible refine own2_alloc (by first | omega | (simp; omega)) ?_ | with_reducible refine own3_alloc (by first | omega | (simp; omega)) ?_ | with_reducible refine cell_set ?_ (by omega) | with_reducible exact Ext.trans' (by assumption) (by assumption) | with_reducible exact At.ext (by assumption) (by assumption) (by simp) | with_reducible exact Ext.cell (by assumption) (by assumption) | exact (Own.ext (by assumption) ⟨by assumption, by assumption, by assumption⟩ (by simp)).1 | exact (Own.ext (by assumption) ⟨by assumption, by assumption, by assumption⟩ (by simp)).2.1 | exact (Own.ext (by assumption) ⟨by assumption, by assumption, by assumption⟩ (by simp)).2.2)))
            ((go_at_call 16; refine (SideOf_c b0 b1 b2 _).mono ?_; rw [HSE.out]; rintro e w7 ⟨rfl, hx7⟩))
          clear E2 C0 C1 C2 d0 d1
          obtain ⟨E2, C0, C1, C2, d0, d1⟩ : Ext w w7 ∧ At w7 g #[.int .i64 q0.x, .int .i64 q0.y, .int .i64 q1.x, .int .i64 q1.y, .int .i64 q2.x, .int .i64 q2.y, .int .i64 q3.x, .int .i64 q3.y] ∧ At w7 gb #[.int .i64 b0.x, .int .i64 b0.y, .int .i64 b1.x, .int .i64 b1.y, .int .i64 b2.x, .int .i64 b2.y, .int .i64 b3.x, .int .i64 b3.y] ∧ At w7 ob #[.int .i64 0, .int .i64 1, .int .i64 2, .int .i64 1, .int .i64 2, .int .i64 0, .int .i64 2, .int .i64 0, .int .i64 1, .int .i64 1, .int .i64 0, .int .i64 2, .int .i64 0, .int .i64 2, .int .i64 1, .int .i64 2, .int .i64 1, .int .i64 0] ∧ w7.cell? ⟨gb, k * 2, none⟩ = some (.int .i64 p'.x) ∧ w7.cell? ⟨gb, k * 2 + 1, none⟩ = some (.int .i64 p'.y) := by assumption
          clear hx7
          have m1 := C1.lt (by simp)
          go_wp2_with fail
          refine (good_c p' _).mono ?_
          rw [HVE.out]
          rintro e w8 ⟨rfl, hx8⟩
          have E8 := E2.trans hx8
          clear E2 C0 C1 C2 d0 d1 hx8
          have hcases : (ve = 0 ∧ (ce.2 == 5) = false ∧ (se.2 == 5) = false) ∨ (ve = 5 ∧ (ce.2 == 5) = true ∧ (se.2 == 5) = true ∧ (k : Int) < 3) ∨ (ve = 5 ∧ (ce.2 == 5) = true ∧ (se.2 == 5) = false ∧ ¬ (k : Int) < 3) := by
            rcases HBL.out with ⟨r0, r1, r2⟩ | ⟨r0, r1, r2, r3⟩ | ⟨r0, r1, r2, r3⟩
            · exact .inl ⟨r0, by rw [beq_eq_false_iff_ne]; exact r1, by rw [beq_eq_false_iff_ne]; exact r2⟩
            · exact .inr (.inl ⟨r0, by rw [beq_iff_eq]; exact r1, by rw [beq_iff_eq]; exact r2, by omega⟩)
            · exact .inr (.inr ⟨r0, by rw [beq_iff_eq]; exact r1, by rw [beq_eq_false_iff_ne]; exact r2, by omega⟩)
          clear HBL HVE HCE HSE HB HKB HP1
          generalize ce.2 = e1 at *
          generalize se.2 = e2 at *
          rcases hcases with ⟨rfl, r1, r2⟩ | ⟨rfl, r1, r2, r3⟩ | ⟨rfl, r1, r2, r3⟩
          all_goals
            go_wp2_with fail
            refine (lives_c _).mono ?_
            rintro e w9 ⟨rfl, hx9⟩
            have E9 := E8.trans hx9
            clear hx9
            go_wp2_with fail
            go_ret
            first
              | exact ⟨rfl, E9⟩
              | exact ⟨by simp [r3], E9⟩
              | exact ⟨by simp at r3 ⊢; omega, E9⟩
end Go.Proofs.Ytgmedfloflplgaa
