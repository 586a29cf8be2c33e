/- cross: crossing. -/
import Derived.Test.YtagiaiocgjagnaaQWT
import Derived.Test.YtagiaiocgjagnaaQX05
namespace Go.Proofs.Ytagiaiocgjagnaa
set_option linter.unusedSimpArgs false
set_option linter.unusedVariables false
open Go.RowKit

theorem cons3L {P : Program} {ops : Array Oper} {Q : Exit → Act → World → Prop} {md : Region.Mode} {S : World → Prop} {fuel : Nat} {listed : Array Bool} {a : Act} {w : World} {i j k : Nat} {o u v : Oper}
  (hr : Region.ready md ops listed = [i, j, k]) (ho : ops.toList[i]? = some o) (hu : ops.toList[j]? = some u) (hv : ops.toList[k]? = some v)
  (h : ∀ K' : Act → World → Prop, Shut (∀ a w, S w → (S w → wpAnyH P md ops Q S fuel (listed.setIfInBounds i true) a w) → K' a w) → if Region.wanted o (yielded ops a.tmps) = true then Oper.wp P o a w K' Q else K' (a.put o.dst undef) w)
  (h2 : ∀ K' : Act → World → Prop, Shut (∀ a w, S w → (S w → wpAnyH P md ops Q S fuel (listed.setIfInBounds j true) a w) → K' a w) → if Region.wanted u (yielded ops a.tmps) = true then Oper.wp P u a w K' Q else K' (a.put u.dst undef) w)
  (h3 : ∀ K' : Act → World → Prop, Shut (∀ a w, S w → (S w → wpAnyH P md ops Q S fuel (listed.setIfInBounds k true) a w) → K' a w) → if Region.wanted v (yielded ops a.tmps) = true then Oper.wp P v a w K' Q else K' (a.put v.dst undef) w) :
  wpAnyH P md ops Q S (fuel + 1) listed a w :=
 wpAnyH_ready hr (by simp) (AllReadyH.cons (by rw [← Array.getElem?_toList]; exact ho) h (AllReadyH.cons (by rw [← Array.getElem?_toList]; exact hu) h2 (AllReadyH.cons (by rw [← Array.getElem?_toList]; exact hv) h3 AllReadyH.nil)))
theorem putF_other {W : World} {b8 b9 : Nat} {cs : Array Value} {t : TypeId} (B9 : Blk W b9 cs t) (hne : b8 ≠ b9) (f : FV) : Blk (putF W b8 f) b9 cs t :=
 (((B9.setOther (p := ⟨b8, 0, none⟩) (Ne.symm hne) _).setOther (p := ⟨b8, 1, none⟩) (Ne.symm hne) _).setOther (p := ⟨b8, 2, none⟩) (Ne.symm hne) _).setOther (p := ⟨b8, 3, none⟩) (Ne.symm hne) _
theorem putP_far {w : World} {b : Nat} {a : Addr} {y : Value} (p : PV) (h : b ≠ a.block) (k : w.cell? a = some y) : (putP w b p).cell? a = some y := by
 unfold putP
 rw [World.cell?_setCell_far _ _ _ _ h, World.cell?_setCell_far _ _ _ _ h, World.cell?_setCell_far _ _ _ _ h, World.cell?_setCell_far _ _ _ _ h, World.cell?_setCell_far _ _ _ _ h, World.cell?_setCell_far _ _ _ _ h, World.cell?_setCell_far _ _ _ _ h, World.cell?_setCell_far _ _ _ _ h]
 exact k
/-- What crossing reads at its end. -/
structure CrS (w W : World) (B G : Nat) (s : Sg) (d : FV) : Prop where
 ext : Ext w W
 sg : W.cell? ⟨B, 0, none⟩ = some (.int .i64 s.a.x) ∧ W.cell? ⟨B, 1, none⟩ = some (.int .i64 s.a.y) ∧ W.cell? ⟨B, 2, none⟩ = some (.int .i64 s.b.x) ∧ W.cell? ⟨B, 3, none⟩ = some (.int .i64 s.b.y)
 fr : W.cell? ⟨G, 0, none⟩ = some (.bool d.n.neg) ∧ W.cell? ⟨G, 1, none⟩ = some (.slice d.n.a d.n.n d.n.c) ∧ W.cell? ⟨G, 2, none⟩ = some (.bool d.d.neg) ∧ W.cell? ⟨G, 3, none⟩ = some (.slice d.d.a d.d.n d.d.c)
theorem CrS.trans {w W X : World} {B G : Nat} {s : Sg} {d : FV} (h : CrS w W B G s d) (e : Ext W X) : CrS w X B G s d := by
 obtain ⟨h1, ⟨a, b, c, d⟩, a2, b2, c2, d2⟩ := h
 exact ⟨h1.trans e, ⟨e.cell a, e.cell b, e.cell c, e.cell d⟩, e.cell a2, e.cell b2, e.cell c2, e.cell d2⟩
theorem CrS.put {w W : World} {B G R : Nat} {s : Sg} {d : FV} (h : CrS w W B G s d) (h1 : w.heap.size ≤ R) (n1 : R ≠ B) (n2 : R ≠ G) (p : PV) : CrS w (putP W R p) B G s d := by
 obtain ⟨h1', ⟨a, b, c, d⟩, a2, b2, c2, d2⟩ := h
 exact ⟨ext_putP h1' h1 p, ⟨putP_far p n1 a, putP_far p n1 b, putP_far p n1 c, putP_far p n1 d⟩, putP_far p n2 a2, putP_far p n2 b2, putP_far p n2 c2, putP_far p n2 d2⟩
/-- Two fractions are stored into boxes of their own. -/
theorem two_put {V W : World} {b8 b9 : Nat} {t : TypeId} {f g : FV} {p q : Rat} (hE : Ext V W) (B8 : Blk W b8 #[.bool false, .slice none 0 0, .bool false, .slice none 0 0] t) (B9 : Blk W b9 #[.bool false, .slice none 0 0, .bool false, .slice none 0 0] t) (hne : b8 ≠ b9) (h8 : V.heap.size ≤ b8) (h9 : V.heap.size ≤ b9) (hf : IsQ W f p) (hg : IsQ W g q) :
  Ext V (putF (putF W b8 f) b9 g) ∧ At (putF (putF W b8 f) b9 g) b8 f.cs ∧ At (putF (putF W b8 f) b9 g) b9 g.cs ∧ IsQ (putF (putF W b8 f) b9 g) f p ∧ IsQ (putF (putF W b8 f) b9 g) g q := by
 have O8 := B8.own 4 (by simp) (noIntF _ _ _ _ _ _ _ _)
 have B9' : Blk (putF W b8 f) b9 _ t := (((B9.setOther (p := ⟨b8, 0, none⟩) (Ne.symm hne) _).setOther (p := ⟨b8, 1, none⟩) (Ne.symm hne) _).setOther (p := ⟨b8, 2, none⟩) (Ne.symm hne) _).setOther (p := ⟨b8, 3, none⟩) (Ne.symm hne) _
 have O9 := B9'.own 4 (by simp) (noIntF _ _ _ _ _ _ _ _)
 exact ⟨ext_putF (ext_putF hE h8 f) h9 g, At.set (At.set (At.set (At.set (At.putF' O8 f) hne) hne) hne) hne, At.putF' O9 g, (hf.keep (IK.putF O8 f)).keep (IK.putF O9 g), (hg.keep (IK.putF O8 f)).keep (IK.putF O9 g)⟩
set_option maxRecDepth 100000 in
set_option maxHeartbeats 16000000 in
theorem crossing_q (s t : Sg) (w : World) (hs : OKs s) (ht : OKs t) (hne : crsI t.a t.b s.a ≠ crsI t.a t.b s.b) :
  Calls Try.prog 73 #[s.v, t.v] w fun e w' => ∃ p : PV, e = .returned p.v ∧ IsPQ w' p (crossQ s t) ∧ Ext w w' := by
 obtain ⟨x, y, hpq⟩ := part_of (crsI_bd ht.ga ht.gb hs.ga) (crsI_bd ht.ga ht.gb hs.gb) hne
 have hu := crsI_bd ht.ga ht.gb hs.ga
 have hv := crsI_bd ht.ga ht.gb hs.gb
 have HG := Lib.hid (And.intro hs.ga (And.intro hs.gb (And.intro ht.ga ht.gb)))
 obtain ⟨u, hU⟩ : ∃ u, crsI t.a t.b s.a = u := ⟨_, rfl⟩
 obtain ⟨v, hV⟩ : ∃ v, crsI t.a t.b s.b = v := ⟨_, rfl⟩
 have hcr : crossQ s t = wayQ s.a.q s.b.q ((u : Rat) / ((u - v : Int) : Rat)) := by
  unfold crossQ
  rw [crs_int, crs_int, hU, hV, ← Rat.intCast_sub]
 rw [hU, hV] at hpq hne
 rw [hU] at hu
 rw [hV] at hv
 obtain ⟨l, hl⟩ : ∃ l, (u : Rat) / ((u - v : Int) : Rat) = l := ⟨_, rfl⟩
 rw [hl] at hpq hcr
 have HC := Lib.hid (And.intro hU hV)
 have HX := Lib.hid (show crossQ s t = ⟨(s.a.x : Rat) + ((s.b.x - s.a.x : Int) : Rat) * l, (s.a.y : Rat) + ((s.b.y - s.a.y : Int) : Rat) * l⟩ by
  rw [hcr]; unfold wayQ
  rw [Rat.intCast_sub, Rat.intCast_sub]
  exact QP.ext' (by simp only; grind) (by simp only; grind))
 have HL := Lib.hid (And.intro hl hpq)
 have HS := Lib.hid (And.intro (smb_int (n := u) (by omega)) (And.intro (smb_int (n := v) (by omega)) (And.intro (smb_int (n := u - v) (by omega)) (show ((u - v : Int) : Rat) ≠ 0 from fun e => by have := Rat.intCast_eq_zero_iff.1 e; omega))))
 have HN := Lib.hid (show (s.a.x.natAbs ≤ 1073741824 ∧ s.b.x.natAbs ≤ 1073741824) ∧ s.a.y.natAbs ≤ 1073741824 ∧ s.b.y.natAbs ≤ 1073741824 by
  obtain ⟨⟨a1, a2, a3, a4⟩, ⟨b1, b2, b3, b4⟩, _⟩ := hs
  omega)
 clear hpq hu hv hcr hU hV hl hs ht hne
 obtain ⟨B, hB⟩ : ∃ B, w.heap.size = B := ⟨_, rfl⟩
 go_enter Try.func73, Try.ntmps73
 go_upto_region 1 with (fail)
 refine wp_gen (fun W => Ext w W ∧ SgB W B s ∧ SgB W (B + 1) t ∧ Own W (B + 1 + 1) 8) ⟨(by repeat (first | exact Ext.refl _ | assumption | refine Ext.setCell ?_ (by first | (simp; done) | (simp; omega) | omega) _ | refine Ext.alloc ?_ _ | refine Ext.drew ?_ | refine Ext.trans ?_ (by assumption))), ((Blk.at _ 25 hB.symm).alloc _ |>.alloc _).sgB, ((Blk.at _ 25 (by simp [hB])).alloc _).sgB, (Blk.at zeroP 43 (by simp [hB])).own _ (by simp) noInt8⟩ ?_
 try rw [hB]
 rintro V ⟨E0, A0, A1, O2⟩
 have HE := Lib.hid E0
 have HA := Lib.hid (fun W (e : Ext V W) => (show (W.cell? ⟨B, 0, none⟩ = some (.int .i64 s.a.x) ∧ W.cell? ⟨B, 1, none⟩ = some (.int .i64 s.a.y) ∧ W.cell? ⟨B, 2, none⟩ = some (.int .i64 s.b.x) ∧ W.cell? ⟨B, 3, none⟩ = some (.int .i64 s.b.y)) ∧ W.cell? ⟨B + 1, 0, none⟩ = some (.int .i64 t.a.x) ∧ W.cell? ⟨B + 1, 1, none⟩ = some (.int .i64 t.a.y) ∧ W.cell? ⟨B + 1, 2, none⟩ = some (.int .i64 t.b.x) ∧ W.cell? ⟨B + 1, 3, none⟩ = some (.int .i64 t.b.y) from ⟨A0.ext e, A1.ext e⟩))
 have HO := Lib.hid O2
 have lv := O2.lt (by omega)
 have A0' := HA.out V (Ext.refl V)
 clear E0 A0 A1 O2
 go_cut [5, 6] (fun s5 s6 wx => TwoQ V wx s5 s6 (u : Rat) (v : Rat))
 case first =>
  refine wp_region_held_drew (S := fun W => Ext V W) (by kernel_rfl) ((Ext.refl V).drew) (fun hHeld => ?_)
  refine tkL (i := 0) (H := HA) (h := ?_)
  refine tkW (i := 1) (h := ?_)
  refine tkL (i := 2) (H := HA) (h := ?_)
  refine tkL (i := 4) (H := HA) (h := ?_)
  refine tkW (i := 5) (h := ?_)
  refine tkL (i := 6) (H := HA) (h := ?_)
  refine wpAnyH_gen (fun X => Ext V X) hHeld ?_
  clear hHeld
  rintro W hE
  refine cons3L (i := 3) (j := 8) (k := 9) (by kernel_rfl) rfl rfl rfl (fun K hK => ?_) (fun K hK => ?_) (fun K hK => ?_)
  ·skip
   go_simp; go_at_call 95; refine (area_q t s.a _ HG.out.2.2.1 HG.out.2.2.2 HG.out.1).mono ?_; rw [HC.out.1]; rintro e X ⟨f, rfl, hn, hx⟩
   go_wp2_with fail
   refine hK.out _ _ ?_ ?_; rotate_left; clear hK K; intro hHeld; rotate_right; (focus (exact hE.trans hx)); (try simp only [Act.put, List.setIfInBounds_toArray, List.set_cons_zero, List.set_cons_succ])
   refine wpAnyH_gen (fun X => Ext V X ∧ IsQ X f (u : Rat)) ⟨hE.trans hx, hn⟩ ?_
   clear hn hx hHeld hE
   clear W
   rintro W ⟨hE, hf⟩
   refine cons3L (i := 7) (j := 8) (k := 9) (by kernel_rfl) rfl rfl rfl (fun K hK => ?_) (fun K hK => ?_) (fun K hK => ?_)
   ·skip
    go_simp; go_at_call 95; refine (area_q t s.b _ HG.out.2.2.1 HG.out.2.2.2 HG.out.2.1).mono ?_; rw [HC.out.2]; rintro e X ⟨g, rfl, hn, hx⟩
    go_wp2_with fail
    refine hK.out _ _ ?_ ?_; rotate_left; clear hK K; intro hHeld; rotate_right; (focus (exact hE.trans hx)); (try simp only [Act.put, List.setIfInBounds_toArray, List.set_cons_zero, List.set_cons_succ])
    refine wpAnyH_gen (fun X => Ext V X ∧ IsQ X f (u : Rat) ∧ IsQ X g (v : Rat)) ⟨hE.trans hx, hf.keep hx.ik, hn⟩ ?_
    clear hn hx hHeld hE hf
    clear W
    rintro W ⟨hE, hf, hg⟩
    refine cons2L (i := 8) (j := 9) (by kernel_rfl) rfl rfl (fun K hK => ?_) (fun K hK => ?_)
    ·skip
     go_simp; refine hK.out _ _ ?_ ?_; rotate_left; clear hK K; intro hHeld; rotate_right; (focus (exact hE.alloc _)); (try simp only [Act.put, List.setIfInBounds_toArray, List.set_cons_zero, List.set_cons_succ])
     obtain ⟨b8, hb⟩ : ∃ k, k = W.heap.size := ⟨_, rfl⟩
     rw [← hb]
     refine wpAnyH_gen (fun X => Ext V X ∧ IsQ X f (u : Rat) ∧ IsQ X g (v : Rat) ∧ Blk X b8 #[.bool false, .slice none 0 0, .bool false, .slice none 0 0] 41 ∧ V.heap.size ≤ b8) ⟨hE.alloc _, hf.keep ((Ext.refl W).alloc _).ik, hg.keep ((Ext.refl W).alloc _).ik, (by rw [hb]; exact Blk.at _ _ rfl), (by rw [hb]; exact hE.size)⟩ ?_
     clear hb hHeld hE hf hg
     clear W
     rintro W ⟨hE, hf, hg, B8, h8⟩
     refine consL (i := 9) (by kernel_rfl) rfl (fun K hK => ?_)
     go_simp; refine hK.out _ _ ?_ ?_; rotate_left; clear hK K; intro hHeld; rotate_right; (focus (exact hE.alloc _)); (try simp only [Act.put, List.setIfInBounds_toArray, List.set_cons_zero, List.set_cons_succ])
     obtain ⟨b9, hb⟩ : ∃ k, k = W.heap.size := ⟨_, rfl⟩
     rw [← hb]
     refine wpAnyH_gen (fun X => Ext V X ∧ IsQ X f (u : Rat) ∧ IsQ X g (v : Rat) ∧ Blk X b8 #[.bool false, .slice none 0 0, .bool false, .slice none 0 0] 41 ∧ V.heap.size ≤ b8 ∧ Blk X b9 #[.bool false, .slice none 0 0, .bool false, .slice none 0 0] 41 ∧ V.heap.size ≤ b9 ∧ b8 ≠ b9) ⟨hE.alloc _, hf.keep ((Ext.refl W).alloc _).ik, hg.keep ((Ext.refl W).alloc _).ik, B8.alloc _, h8, (by rw [hb]; exact Blk.at _ _ rfl), (by rw [hb]; exact hE.size), (by rw [hb]; have := B8.lt; omega)⟩ ?_
     clear hb hHeld hE hf hg B8 h8
     clear W
     rintro W ⟨hE, hf, hg, B8, h8, B9, h9, hne⟩
     have TP := two_put hE B8 B9 hne h8 h9 hf hg
     have B9p := putF_other B9 hne f
     have z0 := B8.cell 0; have z1 := B8.cell 1; have z2 := B8.cell 2; have z3 := B8.cell 3; have zf := B8.free; have y0 := B9p.cell 0; have y1 := B9p.cell 1; have y2 := B9p.cell 2; have y3 := B9p.cell 3; have yf := B9p.free
     simp only [List.getElem?_toArray, List.getElem?_cons_zero, List.getElem?_cons_succ] at z0 z1 z2 z3 y0 y1 y2 y3
     refine consL (i := 10) (by kernel_rfl) rfl (fun K hK => ?_); go_simp; refine hK.out _ _ ?_ ?_; rotate_left; clear hK K; intro hHeld; rotate_right; (focus (exact ext_putF hE h8 f)); (try simp only [Act.put, List.setIfInBounds_toArray, List.set_cons_zero, List.set_cons_succ])
     refine consL (i := 11) (by kernel_rfl) rfl (fun K hK => ?_); go_simp; refine hK.out _ _ ?_ ?_; rotate_left; clear hK K; intro hHeld; rotate_right; (focus (exact ext_putF (ext_putF hE h8 f) h9 g)); (try simp only [Act.put, List.setIfInBounds_toArray, List.set_cons_zero, List.set_cons_succ])
     refine doneL (by kernel_rfl) ?_
     go_wp2_with fail
     go_meet
     exact ⟨b8, b9, f, g, rfl, rfl, TP⟩
    ·skip
     go_simp; refine hK.out _ _ ?_ ?_; rotate_left; clear hK K; intro hHeld; rotate_right; (focus (exact hE.alloc _)); (try simp only [Act.put, List.setIfInBounds_toArray, List.set_cons_zero, List.set_cons_succ])
     obtain ⟨b9, hb⟩ : ∃ k, k = W.heap.size := ⟨_, rfl⟩
     rw [← hb]
     refine wpAnyH_gen (fun X => Ext V X ∧ IsQ X f (u : Rat) ∧ IsQ X g (v : Rat) ∧ Blk X b9 #[.bool false, .slice none 0 0, .bool false, .slice none 0 0] 41 ∧ V.heap.size ≤ b9) ⟨hE.alloc _, hf.keep ((Ext.refl W).alloc _).ik, hg.keep ((Ext.refl W).alloc _).ik, (by rw [hb]; exact Blk.at _ _ rfl), (by rw [hb]; exact hE.size)⟩ ?_
     clear hb hHeld hE hf hg
     clear W
     rintro W ⟨hE, hf, hg, B9, h9⟩
     refine consL (i := 8) (by kernel_rfl) rfl (fun K hK => ?_)
     go_simp; refine hK.out _ _ ?_ ?_; rotate_left; clear hK K; intro hHeld; rotate_right; (focus (exact hE.alloc _)); (try simp only [Act.put, List.setIfInBounds_toArray, List.set_cons_zero, List.set_cons_succ])
     obtain ⟨b8, hb⟩ : ∃ k, k = W.heap.size := ⟨_, rfl⟩
     rw [← hb]
     refine wpAnyH_gen (fun X => Ext V X ∧ IsQ X f (u : Rat) ∧ IsQ X g (v : Rat) ∧ Blk X b8 #[.bool false, .slice none 0 0, .bool false, .slice none 0 0] 41 ∧ V.heap.size ≤ b8 ∧ Blk X b9 #[.bool false, .slice none 0 0, .bool false, .slice none 0 0] 41 ∧ V.heap.size ≤ b9 ∧ b8 ≠ b9) ⟨hE.alloc _, hf.keep ((Ext.refl W).alloc _).ik, hg.keep ((Ext.refl W).alloc _).ik, (by rw [hb]; exact Blk.at _ _ rfl), (by rw [hb]; exact hE.size), B9.alloc _, h9, (by rw [hb]; have := B9.lt; omega)⟩ ?_
     clear hb hHeld hE hf hg B9 h9
     clear W
     rintro W ⟨hE, hf, hg, B8, h8, B9, h9, hne⟩
     have TP := two_put hE B8 B9 hne h8 h9 hf hg
     have B9p := putF_other B9 hne f
     have z0 := B8.cell 0; have z1 := B8.cell 1; have z2 := B8.cell 2; have z3 := B8.cell 3; have zf := B8.free; have y0 := B9p.cell 0; have y1 := B9p.cell 1; have y2 := B9p.cell 2; have y3 := B9p.cell 3; have yf := B9p.free
     simp only [List.getElem?_toArray, List.getElem?_cons_zero, List.getElem?_cons_succ] at z0 z1 z2 z3 y0 y1 y2 y3
     refine consL (i := 10) (by kernel_rfl) rfl (fun K hK => ?_); go_simp; refine hK.out _ _ ?_ ?_; rotate_left; clear hK K; intro hHeld; rotate_right; (focus (exact ext_putF hE h8 f)); (try simp only [Act.put, List.setIfInBounds_toArray, List.set_cons_zero, List.set_cons_succ])
     refine consL (i := 11) (by kernel_rfl) rfl (fun K hK => ?_); go_simp; refine hK.out _ _ ?_ ?_; rotate_left; clear hK K; intro hHeld; rotate_right; (focus (exact ext_putF (ext_putF hE h8 f) h9 g)); (try simp only [Act.put, List.setIfInBounds_toArray, List.set_cons_zero, List.set_cons_succ])
     refine doneL (by kernel_rfl) ?_
     go_wp2_with fail
     go_meet
     exact ⟨b8, b9, f, g, rfl, rfl, TP⟩
   ·skip
    go_simp; refine hK.out _ _ ?_ ?_; rotate_left; clear hK K; intro hHeld; rotate_right; (focus (exact hE.alloc _)); (try simp only [Act.put, List.setIfInBounds_toArray, List.set_cons_zero, List.set_cons_succ])
    obtain ⟨b8, hb⟩ : ∃ k, k = W.heap.size := ⟨_, rfl⟩
    rw [← hb]
    refine wpAnyH_gen (fun X => Ext V X ∧ IsQ X f (u : Rat) ∧ Blk X b8 #[.bool false, .slice none 0 0, .bool false, .slice none 0 0] 41 ∧ V.heap.size ≤ b8) ⟨hE.alloc _, hf.keep ((Ext.refl W).alloc _).ik, (by rw [hb]; exact Blk.at _ _ rfl), (by rw [hb]; exact hE.size)⟩ ?_
    clear hb hHeld hE hf
    clear W
    rintro W ⟨hE, hf, B8, h8⟩
    refine cons2L (i := 7) (j := 9) (by kernel_rfl) rfl rfl (fun K hK => ?_) (fun K hK => ?_)
    ·skip
     go_simp; go_at_call 95; refine (area_q t s.b _ HG.out.2.2.1 HG.out.2.2.2 HG.out.2.1).mono ?_; rw [HC.out.2]; rintro e X ⟨g, rfl, hn, hx⟩
     go_wp2_with fail
     refine hK.out _ _ ?_ ?_; rotate_left; clear hK K; intro hHeld; rotate_right; (focus (exact hE.trans hx)); (try simp only [Act.put, List.setIfInBounds_toArray, List.set_cons_zero, List.set_cons_succ])
     refine wpAnyH_gen (fun X => Ext V X ∧ IsQ X f (u : Rat) ∧ IsQ X g (v : Rat) ∧ Blk X b8 #[.bool false, .slice none 0 0, .bool false, .slice none 0 0] 41 ∧ V.heap.size ≤ b8) ⟨hE.trans hx, hf.keep hx.ik, hn, B8.ext hx, h8⟩ ?_
     clear hn hx hHeld hE hf B8 h8
     clear W
     rintro W ⟨hE, hf, hg, B8, h8⟩
     refine consL (i := 9) (by kernel_rfl) rfl (fun K hK => ?_)
     go_simp; refine hK.out _ _ ?_ ?_; rotate_left; clear hK K; intro hHeld; rotate_right; (focus (exact hE.alloc _)); (try simp only [Act.put, List.setIfInBounds_toArray, List.set_cons_zero, List.set_cons_succ])
     obtain ⟨b9, hb⟩ : ∃ k, k = W.heap.size := ⟨_, rfl⟩
     rw [← hb]
     refine wpAnyH_gen (fun X => Ext V X ∧ IsQ X f (u : Rat) ∧ IsQ X g (v : Rat) ∧ Blk X b8 #[.bool false, .slice none 0 0, .bool false, .slice none 0 0] 41 ∧ V.heap.size ≤ b8 ∧ Blk X b9 #[.bool false, .slice none 0 0, .bool false, .slice none 0 0] 41 ∧ V.heap.size ≤ b9 ∧ b8 ≠ b9) ⟨hE.alloc _, hf.keep ((Ext.refl W).alloc _).ik, hg.keep ((Ext.refl W).alloc _).ik, B8.alloc _, h8, (by rw [hb]; exact Blk.at _ _ rfl), (by rw [hb]; exact hE.size), (by rw [hb]; have := B8.lt; omega)⟩ ?_
     clear hb hHeld hE hf hg B8 h8
     clear W
     rintro W ⟨hE, hf, hg, B8, h8, B9, h9, hne⟩
     have TP := two_put hE B8 B9 hne h8 h9 hf hg
     have B9p := putF_other B9 hne f
     have z0 := B8.cell 0; have z1 := B8.cell 1; have z2 := B8.cell 2; have z3 := B8.cell 3; have zf := B8.free; have y0 := B9p.cell 0; have y1 := B9p.cell 1; have y2 := B9p.cell 2; have y3 := B9p.cell 3; have yf := B9p.free
     simp only [List.getElem?_toArray, List.getElem?_cons_zero, List.getElem?_cons_succ] at z0 z1 z2 z3 y0 y1 y2 y3
     refine consL (i := 10) (by kernel_rfl) rfl (fun K hK => ?_); go_simp; refine hK.out _ _ ?_ ?_; rotate_left; clear hK K; intro hHeld; rotate_right; (focus (exact ext_putF hE h8 f)); (try simp only [Act.put, List.setIfInBounds_toArray, List.set_cons_zero, List.set_cons_succ])
     refine consL (i := 11) (by kernel_rfl) rfl (fun K hK => ?_); go_simp; refine hK.out _ _ ?_ ?_; rotate_left; clear hK K; intro hHeld; rotate_right; (focus (exact ext_putF (ext_putF hE h8 f) h9 g)); (try simp only [Act.put, List.setIfInBounds_toArray, List.set_cons_zero, List.set_cons_succ])
     refine doneL (by kernel_rfl) ?_
     go_wp2_with fail
     go_meet
     exact ⟨b8, b9, f, g, rfl, rfl, TP⟩
    ·skip
     go_simp; refine hK.out _ _ ?_ ?_; rotate_left; clear hK K; intro hHeld; rotate_right; (focus (exact hE.alloc _)); (try simp only [Act.put, List.setIfInBounds_toArray, List.set_cons_zero, List.set_cons_succ])
     obtain ⟨b9, hb⟩ : ∃ k, k = W.heap.size := ⟨_, rfl⟩
     rw [← hb]
     refine wpAnyH_gen (fun X => Ext V X ∧ IsQ X f (u : Rat) ∧ Blk X b8 #[.bool false, .slice none 0 0, .bool false, .slice none 0 0] 41 ∧ V.heap.size ≤ b8 ∧ Blk X b9 #[.bool false, .slice none 0 0, .bool false, .slice none 0 0] 41 ∧ V.heap.size ≤ b9 ∧ b8 ≠ b9) ⟨hE.alloc _, hf.keep ((Ext.refl W).alloc _).ik, B8.alloc _, h8, (by rw [hb]; exact Blk.at _ _ rfl), (by rw [hb]; exact hE.size), (by rw [hb]; have := B8.lt; omega)⟩ ?_
     clear hb hHeld hE hf B8 h8
     clear W
     rintro W ⟨hE, hf, B8, h8, B9, h9, hne⟩
     refine consL (i := 7) (by kernel_rfl) rfl (fun K hK => ?_)
     go_simp; go_at_call 95; refine (area_q t s.b _ HG.out.2.2.1 HG.out.2.2.2 HG.out.2.1).mono ?_; rw [HC.out.2]; rintro e X ⟨g, rfl, hn, hx⟩
     go_wp2_with fail
     refine hK.out _ _ ?_ ?_; rotate_left; clear hK K; intro hHeld; rotate_right; (focus (exact hE.trans hx)); (try simp only [Act.put, List.setIfInBounds_toArray, List.set_cons_zero, List.set_cons_succ])
     refine wpAnyH_gen (fun X => Ext V X ∧ IsQ X f (u : Rat) ∧ IsQ X g (v : Rat) ∧ Blk X b8 #[.bool false, .slice none 0 0, .bool false, .slice none 0 0] 41 ∧ V.heap.size ≤ b8 ∧ Blk X b9 #[.bool false, .slice none 0 0, .bool false, .slice none 0 0] 41 ∧ V.heap.size ≤ b9 ∧ b8 ≠ b9) ⟨hE.trans hx, hf.keep hx.ik, hn, B8.ext hx, h8, B9.ext hx, h9, hne⟩ ?_
     clear hn hx hHeld hE hf B8 h8 B9 h9 hne
     clear W
     rintro W ⟨hE, hf, hg, B8, h8, B9, h9, hne⟩
     have TP := two_put hE B8 B9 hne h8 h9 hf hg
     have B9p := putF_other B9 hne f
     have z0 := B8.cell 0; have z1 := B8.cell 1; have z2 := B8.cell 2; have z3 := B8.cell 3; have zf := B8.free; have y0 := B9p.cell 0; have y1 := B9p.cell 1; have y2 := B9p.cell 2; have y3 := B9p.cell 3; have yf := B9p.free
     simp only [List.getElem?_toArray, List.getElem?_cons_zero, List.getElem?_cons_succ] at z0 z1 z2 z3 y0 y1 y2 y3
     refine consL (i := 10) (by kernel_rfl) rfl (fun K hK => ?_); go_simp; refine hK.out _ _ ?_ ?_; rotate_left; clear hK K; intro hHeld; rotate_right; (focus (exact ext_putF hE h8 f)); (try simp only [Act.put, List.setIfInBounds_toArray, List.set_cons_zero, List.set_cons_succ])
     refine consL (i := 11) (by kernel_rfl) rfl (fun K hK => ?_); go_simp; refine hK.out _ _ ?_ ?_; rotate_left; clear hK K; intro hHeld; rotate_right; (focus (exact ext_putF (ext_putF hE h8 f) h9 g)); (try simp only [Act.put, List.setIfInBounds_toArray, List.set_cons_zero, List.set_cons_succ])
     refine doneL (by kernel_rfl) ?_
     go_wp2_with fail
     go_meet
     exact ⟨b8, b9, f, g, rfl, rfl, TP⟩
   ·skip
    go_simp; refine hK.out _ _ ?_ ?_; rotate_left; clear hK K; intro hHeld; rotate_right; (focus (exact hE.alloc _)); (try simp only [Act.put, List.setIfInBounds_toArray, List.set_cons_zero, List.set_cons_succ])
    obtain ⟨b9, hb⟩ : ∃ k, k = W.heap.size := ⟨_, rfl⟩
    rw [← hb]
    refine wpAnyH_gen (fun X => Ext V X ∧ IsQ X f (u : Rat) ∧ Blk X b9 #[.bool false, .slice none 0 0, .bool false, .slice none 0 0] 41 ∧ V.heap.size ≤ b9) ⟨hE.alloc _, hf.keep ((Ext.refl W).alloc _).ik, (by rw [hb]; exact Blk.at _ _ rfl), (by rw [hb]; exact hE.size)⟩ ?_
    clear hb hHeld hE hf
    clear W
    rintro W ⟨hE, hf, B9, h9⟩
    refine cons2L (i := 7) (j := 8) (by kernel_rfl) rfl rfl (fun K hK => ?_) (fun K hK => ?_)
    ·skip
     go_simp; go_at_call 95; refine (area_q t s.b _ HG.out.2.2.1 HG.out.2.2.2 HG.out.2.1).mono ?_; rw [HC.out.2]; rintro e X ⟨g, rfl, hn, hx⟩
     go_wp2_with fail
     refine hK.out _ _ ?_ ?_; rotate_left; clear hK K; intro hHeld; rotate_right; (focus (exact hE.trans hx)); (try simp only [Act.put, List.setIfInBounds_toArray, List.set_cons_zero, List.set_cons_succ])
     refine wpAnyH_gen (fun X => Ext V X ∧ IsQ X f (u : Rat) ∧ IsQ X g (v : Rat) ∧ Blk X b9 #[.bool false, .slice none 0 0, .bool false, .slice none 0 0] 41 ∧ V.heap.size ≤ b9) ⟨hE.trans hx, hf.keep hx.ik, hn, B9.ext hx, h9⟩ ?_
     clear hn hx hHeld hE hf B9 h9
     clear W
     rintro W ⟨hE, hf, hg, B9, h9⟩
     refine consL (i := 8) (by kernel_rfl) rfl (fun K hK => ?_)
     go_simp; refine hK.out _ _ ?_ ?_; rotate_left; clear hK K; intro hHeld; rotate_right; (focus (exact hE.alloc _)); (try simp only [Act.put, List.setIfInBounds_toArray, List.set_cons_zero, List.set_cons_succ])
     obtain ⟨b8, hb⟩ : ∃ k, k = W.heap.size := ⟨_, rfl⟩
     rw [← hb]
     refine wpAnyH_gen (fun X => Ext V X ∧ IsQ X f (u : Rat) ∧ IsQ X g (v : Rat) ∧ Blk X b8 #[.bool false, .slice none 0 0, .bool false, .slice none 0 0] 41 ∧ V.heap.size ≤ b8 ∧ Blk X b9 #[.bool false, .slice none 0 0, .bool false, .slice none 0 0] 41 ∧ V.heap.size ≤ b9 ∧ b8 ≠ b9) ⟨hE.alloc _, hf.keep ((Ext.refl W).alloc _).ik, hg.keep ((Ext.refl W).alloc _).ik, (by rw [hb]; exact Blk.at _ _ rfl), (by rw [hb]; exact hE.size), B9.alloc _, h9, (by rw [hb]; have := B9.lt; omega)⟩ ?_
     clear hb hHeld hE hf hg B9 h9
     clear W
     rintro W ⟨hE, hf, hg, B8, h8, B9, h9, hne⟩
     have TP := two_put hE B8 B9 hne h8 h9 hf hg
     have B9p := putF_other B9 hne f
     have z0 := B8.cell 0; have z1 := B8.cell 1; have z2 := B8.cell 2; have z3 := B8.cell 3; have zf := B8.free; have y0 := B9p.cell 0; have y1 := B9p.cell 1; have y2 := B9p.cell 2; have y3 := B9p.cell 3; have yf := B9p.free
     simp only [List.getElem?_toArray, List.getElem?_cons_zero, List.getElem?_cons_succ] at z0 z1 z2 z3 y0 y1 y2 y3
     refine consL (i := 10) (by kernel_rfl) rfl (fun K hK => ?_); go_simp; refine hK.out _ _ ?_ ?_; rotate_left; clear hK K; intro hHeld; rotate_right; (focus (exact ext_putF hE h8 f)); (try simp only [Act.put, List.setIfInBounds_toArray, List.set_cons_zero, List.set_cons_succ])
     refine consL (i := 11) (by kernel_rfl) rfl (fun K hK => ?_); go_simp; refine hK.out _ _ ?_ ?_; rotate_left; clear hK K; intro hHeld; rotate_right; (focus (exact ext_putF (ext_putF hE h8 f) h9 g)); (try simp only [Act.put, List.setIfInBounds_toArray, List.set_cons_zero, List.set_cons_succ])
     refine doneL (by kernel_rfl) ?_
     go_wp2_with fail
     go_meet
     exact ⟨b8, b9, f, g, rfl, rfl, TP⟩
    ·skip
     go_simp; refine hK.out _ _ ?_ ?_; rotate_left; clear hK K; intro hHeld; rotate_right; (focus (exact hE.alloc _)); (try simp only [Act.put, List.setIfInBounds_toArray, List.set_cons_zero, List.set_cons_succ])
     obtain ⟨b8, hb⟩ : ∃ k, k = W.heap.size := ⟨_, rfl⟩
     rw [← hb]
     refine wpAnyH_gen (fun X => Ext V X ∧ IsQ X f (u : Rat) ∧ Blk X b8 #[.bool false, .slice none 0 0, .bool false, .slice none 0 0] 41 ∧ V.heap.size ≤ b8 ∧ Blk X b9 #[.bool false, .slice none 0 0, .bool false, .slice none 0 0] 41 ∧ V.heap.size ≤ b9 ∧ b8 ≠ b9) ⟨hE.alloc _, hf.keep ((Ext.refl W).alloc _).ik, (by rw [hb]; exact Blk.at _ _ rfl), (by rw [hb]; exact hE.size), B9.alloc _, h9, (by rw [hb]; have := B9.lt; omega)⟩ ?_
     clear hb hHeld hE hf B9 h9
     clear W
     rintro W ⟨hE, hf, B8, h8, B9, h9, hne⟩
     refine consL (i := 7) (by kernel_rfl) rfl (fun K hK => ?_)
     go_simp; go_at_call 95; refine (area_q t s.b _ HG.out.2.2.1 HG.out.2.2.2 HG.out.2.1).mono ?_; rw [HC.out.2]; rintro e X ⟨g, rfl, hn, hx⟩
     go_wp2_with fail
     refine hK.out _ _ ?_ ?_; rotate_left; clear hK K; intro hHeld; rotate_right; (focus (exact hE.trans hx)); (try simp only [Act.put, List.setIfInBounds_toArray, List.set_cons_zero, List.set_cons_succ])
     refine wpAnyH_gen (fun X => Ext V X ∧ IsQ X f (u : Rat) ∧ IsQ X g (v : Rat) ∧ Blk X b8 #[.bool false, .slice none 0 0, .bool false, .slice none 0 0] 41 ∧ V.heap.size ≤ b8 ∧ Blk X b9 #[.bool false, .slice none 0 0, .bool false, .slice none 0 0] 41 ∧ V.heap.size ≤ b9 ∧ b8 ≠ b9) ⟨hE.trans hx, hf.keep hx.ik, hn, B8.ext hx, h8, B9.ext hx, h9, hne⟩ ?_
     clear hn hx hHeld hE hf B8 h8 B9 h9 hne
     clear W
     rintro W ⟨hE, hf, hg, B8, h8, B9, h9, hne⟩
     have TP := two_put hE B8 B9 hne h8 h9 hf hg
     have B9p := putF_other B9 hne f
     have z0 := B8.cell 0; have z1 := B8.cell 1; have z2 := B8.cell 2; have z3 := B8.cell 3; have zf := B8.free; have y0 := B9p.cell 0; have y1 := B9p.cell 1; have y2 := B9p.cell 2; have y3 := B9p.cell 3; have yf := B9p.free
     simp only [List.getElem?_toArray, List.getElem?_cons_zero, List.getElem?_cons_succ] at z0 z1 z2 z3 y0 y1 y2 y3
     refine consL (i := 10) (by kernel_rfl) rfl (fun K hK => ?_); go_simp; refine hK.out _ _ ?_ ?_; rotate_left; clear hK K; intro hHeld; rotate_right; (focus (exact ext_putF hE h8 f)); (try simp only [Act.put, List.setIfInBounds_toArray, List.set_cons_zero, List.set_cons_succ])
     refine consL (i := 11) (by kernel_rfl) rfl (fun K hK => ?_); go_simp; refine hK.out _ _ ?_ ?_; rotate_left; clear hK K; intro hHeld; rotate_right; (focus (exact ext_putF (ext_putF hE h8 f) h9 g)); (try simp only [Act.put, List.setIfInBounds_toArray, List.set_cons_zero, List.set_cons_succ])
     refine doneL (by kernel_rfl) ?_
     go_wp2_with fail
     go_meet
     exact ⟨b8, b9, f, g, rfl, rfl, TP⟩
  ·skip
   go_simp; refine hK.out _ _ ?_ ?_; rotate_left; clear hK K; intro hHeld; rotate_right; (focus (exact hE.alloc _)); (try simp only [Act.put, List.setIfInBounds_toArray, List.set_cons_zero, List.set_cons_succ])
   obtain ⟨b8, hb⟩ : ∃ k, k = W.heap.size := ⟨_, rfl⟩
   rw [← hb]
   refine wpAnyH_gen (fun X => Ext V X ∧ Blk X b8 #[.bool false, .slice none 0 0, .bool false, .slice none 0 0] 41 ∧ V.heap.size ≤ b8) ⟨hE.alloc _, (by rw [hb]; exact Blk.at _ _ rfl), (by rw [hb]; exact hE.size)⟩ ?_
   clear hb hHeld hE
   clear W
   rintro W ⟨hE, B8, h8⟩
   refine cons2L (i := 3) (j := 9) (by kernel_rfl) rfl rfl (fun K hK => ?_) (fun K hK => ?_)
   ·skip
    go_simp; go_at_call 95; refine (area_q t s.a _ HG.out.2.2.1 HG.out.2.2.2 HG.out.1).mono ?_; rw [HC.out.1]; rintro e X ⟨f, rfl, hn, hx⟩
    go_wp2_with fail
    refine hK.out _ _ ?_ ?_; rotate_left; clear hK K; intro hHeld; rotate_right; (focus (exact hE.trans hx)); (try simp only [Act.put, List.setIfInBounds_toArray, List.set_cons_zero, List.set_cons_succ])
    refine wpAnyH_gen (fun X => Ext V X ∧ IsQ X f (u : Rat) ∧ Blk X b8 #[.bool false, .slice none 0 0, .bool false, .slice none 0 0] 41 ∧ V.heap.size ≤ b8) ⟨hE.trans hx, hn, B8.ext hx, h8⟩ ?_
    clear hn hx hHeld hE B8 h8
    clear W
    rintro W ⟨hE, hf, B8, h8⟩
    refine cons2L (i := 7) (j := 9) (by kernel_rfl) rfl rfl (fun K hK => ?_) (fun K hK => ?_)
    ·skip
     go_simp; go_at_call 95; refine (area_q t s.b _ HG.out.2.2.1 HG.out.2.2.2 HG.out.2.1).mono ?_; rw [HC.out.2]; rintro e X ⟨g, rfl, hn, hx⟩
     go_wp2_with fail
     refine hK.out _ _ ?_ ?_; rotate_left; clear hK K; intro hHeld; rotate_right; (focus (exact hE.trans hx)); (try simp only [Act.put, List.setIfInBounds_toArray, List.set_cons_zero, List.set_cons_succ])
     refine wpAnyH_gen (fun X => Ext V X ∧ IsQ X f (u : Rat) ∧ IsQ X g (v : Rat) ∧ Blk X b8 #[.bool false, .slice none 0 0, .bool false, .slice none 0 0] 41 ∧ V.heap.size ≤ b8) ⟨hE.trans hx, hf.keep hx.ik, hn, B8.ext hx, h8⟩ ?_
     clear hn hx hHeld hE hf B8 h8
     clear W
     rintro W ⟨hE, hf, hg, B8, h8⟩
     refine consL (i := 9) (by kernel_rfl) rfl (fun K hK => ?_)
     go_simp; refine hK.out _ _ ?_ ?_; rotate_left; clear hK K; intro hHeld; rotate_right; (focus (exact hE.alloc _)); (try simp only [Act.put, List.setIfInBounds_toArray, List.set_cons_zero, List.set_cons_succ])
     obtain ⟨b9, hb⟩ : ∃ k, k = W.heap.size := ⟨_, rfl⟩
     rw [← hb]
     refine wpAnyH_gen (fun X => Ext V X ∧ IsQ X f (u : Rat) ∧ IsQ X g (v : Rat) ∧ Blk X b8 #[.bool false, .slice none 0 0, .bool false, .slice none 0 0] 41 ∧ V.heap.size ≤ b8 ∧ Blk X b9 #[.bool false, .slice none 0 0, .bool false, .slice none 0 0] 41 ∧ V.heap.size ≤ b9 ∧ b8 ≠ b9) ⟨hE.alloc _, hf.keep ((Ext.refl W).alloc _).ik, hg.keep ((Ext.refl W).alloc _).ik, B8.alloc _, h8, (by rw [hb]; exact Blk.at _ _ rfl), (by rw [hb]; exact hE.size), (by rw [hb]; have := B8.lt; omega)⟩ ?_
     clear hb hHeld hE hf hg B8 h8
     clear W
     rintro W ⟨hE, hf, hg, B8, h8, B9, h9, hne⟩
     have TP := two_put hE B8 B9 hne h8 h9 hf hg
     have B9p := putF_other B9 hne f
     have z0 := B8.cell 0; have z1 := B8.cell 1; have z2 := B8.cell 2; have z3 := B8.cell 3; have zf := B8.free; have y0 := B9p.cell 0; have y1 := B9p.cell 1; have y2 := B9p.cell 2; have y3 := B9p.cell 3; have yf := B9p.free
     simp only [List.getElem?_toArray, List.getElem?_cons_zero, List.getElem?_cons_succ] at z0 z1 z2 z3 y0 y1 y2 y3
     refine consL (i := 10) (by kernel_rfl) rfl (fun K hK => ?_); go_simp; refine hK.out _ _ ?_ ?_; rotate_left; clear hK K; intro hHeld; rotate_right; (focus (exact ext_putF hE h8 f)); (try simp only [Act.put, List.setIfInBounds_toArray, List.set_cons_zero, List.set_cons_succ])
     refine consL (i := 11) (by kernel_rfl) rfl (fun K hK => ?_); go_simp; refine hK.out _ _ ?_ ?_; rotate_left; clear hK K; intro hHeld; rotate_right; (focus (exact ext_putF (ext_putF hE h8 f) h9 g)); (try simp only [Act.put, List.setIfInBounds_toArray, List.set_cons_zero, List.set_cons_succ])
     refine doneL (by kernel_rfl) ?_
     go_wp2_with fail
     go_meet
     exact ⟨b8, b9, f, g, rfl, rfl, TP⟩
    ·skip
     go_simp; refine hK.out _ _ ?_ ?_; rotate_left; clear hK K; intro hHeld; rotate_right; (focus (exact hE.alloc _)); (try simp only [Act.put, List.setIfInBounds_toArray, List.set_cons_zero, List.set_cons_succ])
     obtain ⟨b9, hb⟩ : ∃ k, k = W.heap.size := ⟨_, rfl⟩
     rw [← hb]
     refine wpAnyH_gen (fun X => Ext V X ∧ IsQ X f (u : Rat) ∧ Blk X b8 #[.bool false, .slice none 0 0, .bool false, .slice none 0 0] 41 ∧ V.heap.size ≤ b8 ∧ Blk X b9 #[.bool false, .slice none 0 0, .bool false, .slice none 0 0] 41 ∧ V.heap.size ≤ b9 ∧ b8 ≠ b9) ⟨hE.alloc _, hf.keep ((Ext.refl W).alloc _).ik, B8.alloc _, h8, (by rw [hb]; exact Blk.at _ _ rfl), (by rw [hb]; exact hE.size), (by rw [hb]; have := B8.lt; omega)⟩ ?_
     clear hb hHeld hE hf B8 h8
     clear W
     rintro W ⟨hE, hf, B8, h8, B9, h9, hne⟩
     refine consL (i := 7) (by kernel_rfl) rfl (fun K hK => ?_)
     go_simp; go_at_call 95; refine (area_q t s.b _ HG.out.2.2.1 HG.out.2.2.2 HG.out.2.1).mono ?_; rw [HC.out.2]; rintro e X ⟨g, rfl, hn, hx⟩
     go_wp2_with fail
     refine hK.out _ _ ?_ ?_; rotate_left; clear hK K; intro hHeld; rotate_right; (focus (exact hE.trans hx)); (try simp only [Act.put, List.setIfInBounds_toArray, List.set_cons_zero, List.set_cons_succ])
     refine wpAnyH_gen (fun X => Ext V X ∧ IsQ X f (u : Rat) ∧ IsQ X g (v : Rat) ∧ Blk X b8 #[.bool false, .slice none 0 0, .bool false, .slice none 0 0] 41 ∧ V.heap.size ≤ b8 ∧ Blk X b9 #[.bool false, .slice none 0 0, .bool false, .slice none 0 0] 41 ∧ V.heap.size ≤ b9 ∧ b8 ≠ b9) ⟨hE.trans hx, hf.keep hx.ik, hn, B8.ext hx, h8, B9.ext hx, h9, hne⟩ ?_
     clear hn hx hHeld hE hf B8 h8 B9 h9 hne
     clear W
     rintro W ⟨hE, hf, hg, B8, h8, B9, h9, hne⟩
     have TP := two_put hE B8 B9 hne h8 h9 hf hg
     have B9p := putF_other B9 hne f
     have z0 := B8.cell 0; have z1 := B8.cell 1; have z2 := B8.cell 2; have z3 := B8.cell 3; have zf := B8.free; have y0 := B9p.cell 0; have y1 := B9p.cell 1; have y2 := B9p.cell 2; have y3 := B9p.cell 3; have yf := B9p.free
     simp only [List.getElem?_toArray, List.getElem?_cons_zero, List.getElem?_cons_succ] at z0 z1 z2 z3 y0 y1 y2 y3
     refine consL (i := 10) (by kernel_rfl) rfl (fun K hK => ?_); go_simp; refine hK.out _ _ ?_ ?_; rotate_left; clear hK K; intro hHeld; rotate_right; (focus (exact ext_putF hE h8 f)); (try simp only [Act.put, List.setIfInBounds_toArray, List.set_cons_zero, List.set_cons_succ])
     refine consL (i := 11) (by kernel_rfl) rfl (fun K hK => ?_); go_simp; refine hK.out _ _ ?_ ?_; rotate_left; clear hK K; intro hHeld; rotate_right; (focus (exact ext_putF (ext_putF hE h8 f) h9 g)); (try simp only [Act.put, List.setIfInBounds_toArray, List.set_cons_zero, List.set_cons_succ])
     refine doneL (by kernel_rfl) ?_
     go_wp2_with fail
     go_meet
     exact ⟨b8, b9, f, g, rfl, rfl, TP⟩
   ·skip
    go_simp; refine hK.out _ _ ?_ ?_; rotate_left; clear hK K; intro hHeld; rotate_right; (focus (exact hE.alloc _)); (try simp only [Act.put, List.setIfInBounds_toArray, List.set_cons_zero, List.set_cons_succ])
    obtain ⟨b9, hb⟩ : ∃ k, k = W.heap.size := ⟨_, rfl⟩
    rw [← hb]
    refine wpAnyH_gen (fun X => Ext V X ∧ Blk X b8 #[.bool false, .slice none 0 0, .bool false, .slice none 0 0] 41 ∧ V.heap.size ≤ b8 ∧ Blk X b9 #[.bool false, .slice none 0 0, .bool false, .slice none 0 0] 41 ∧ V.heap.size ≤ b9 ∧ b8 ≠ b9) ⟨hE.alloc _, B8.alloc _, h8, (by rw [hb]; exact Blk.at _ _ rfl), (by rw [hb]; exact hE.size), (by rw [hb]; have := B8.lt; omega)⟩ ?_
    clear hb hHeld hE B8 h8
    clear W
    rintro W ⟨hE, B8, h8, B9, h9, hne⟩
    refine consL (i := 3) (by kernel_rfl) rfl (fun K hK => ?_)
    go_simp; go_at_call 95; refine (area_q t s.a _ HG.out.2.2.1 HG.out.2.2.2 HG.out.1).mono ?_; rw [HC.out.1]; rintro e X ⟨f, rfl, hn, hx⟩
    go_wp2_with fail
    refine hK.out _ _ ?_ ?_; rotate_left; clear hK K; intro hHeld; rotate_right; (focus (exact hE.trans hx)); (try simp only [Act.put, List.setIfInBounds_toArray, List.set_cons_zero, List.set_cons_succ])
    refine wpAnyH_gen (fun X => Ext V X ∧ IsQ X f (u : Rat) ∧ Blk X b8 #[.bool false, .slice none 0 0, .bool false, .slice none 0 0] 41 ∧ V.heap.size ≤ b8 ∧ Blk X b9 #[.bool false, .slice none 0 0, .bool false, .slice none 0 0] 41 ∧ V.heap.size ≤ b9 ∧ b8 ≠ b9) ⟨hE.trans hx, hn, B8.ext hx, h8, B9.ext hx, h9, hne⟩ ?_
    clear hn hx hHeld hE B8 h8 B9 h9 hne
    clear W
    rintro W ⟨hE, hf, B8, h8, B9, h9, hne⟩
    refine consL (i := 7) (by kernel_rfl) rfl (fun K hK => ?_)
    go_simp; go_at_call 95; refine (area_q t s.b _ HG.out.2.2.1 HG.out.2.2.2 HG.out.2.1).mono ?_; rw [HC.out.2]; rintro e X ⟨g, rfl, hn, hx⟩
    go_wp2_with fail
    refine hK.out _ _ ?_ ?_; rotate_left; clear hK K; intro hHeld; rotate_right; (focus (exact hE.trans hx)); (try simp only [Act.put, List.setIfInBounds_toArray, List.set_cons_zero, List.set_cons_succ])
    refine wpAnyH_gen (fun X => Ext V X ∧ IsQ X f (u : Rat) ∧ IsQ X g (v : Rat) ∧ Blk X b8 #[.bool false, .slice none 0 0, .bool false, .slice none 0 0] 41 ∧ V.heap.size ≤ b8 ∧ Blk X b9 #[.bool false, .slice none 0 0, .bool false, .slice none 0 0] 41 ∧ V.heap.size ≤ b9 ∧ b8 ≠ b9) ⟨hE.trans hx, hf.keep hx.ik, hn, B8.ext hx, h8, B9.ext hx, h9, hne⟩ ?_
    clear hn hx hHeld hE hf B8 h8 B9 h9 hne
    clear W
    rintro W ⟨hE, hf, hg, B8, h8, B9, h9, hne⟩
    have TP := two_put hE B8 B9 hne h8 h9 hf hg
    have B9p := putF_other B9 hne f
    have z0 := B8.cell 0; have z1 := B8.cell 1; have z2 := B8.cell 2; have z3 := B8.cell 3; have zf := B8.free; have y0 := B9p.cell 0; have y1 := B9p.cell 1; have y2 := B9p.cell 2; have y3 := B9p.cell 3; have yf := B9p.free
    simp only [List.getElem?_toArray, List.getElem?_cons_zero, List.getElem?_cons_succ] at z0 z1 z2 z3 y0 y1 y2 y3
    refine consL (i := 10) (by kernel_rfl) rfl (fun K hK => ?_); go_simp; refine hK.out _ _ ?_ ?_; rotate_left; clear hK K; intro hHeld; rotate_right; (focus (exact ext_putF hE h8 f)); (try simp only [Act.put, List.setIfInBounds_toArray, List.set_cons_zero, List.set_cons_succ])
    refine consL (i := 11) (by kernel_rfl) rfl (fun K hK => ?_); go_simp; refine hK.out _ _ ?_ ?_; rotate_left; clear hK K; intro hHeld; rotate_right; (focus (exact ext_putF (ext_putF hE h8 f) h9 g)); (try simp only [Act.put, List.setIfInBounds_toArray, List.set_cons_zero, List.set_cons_succ])
    refine doneL (by kernel_rfl) ?_
    go_wp2_with fail
    go_meet
    exact ⟨b8, b9, f, g, rfl, rfl, TP⟩
  ·skip
   go_simp; refine hK.out _ _ ?_ ?_; rotate_left; clear hK K; intro hHeld; rotate_right; (focus (exact hE.alloc _)); (try simp only [Act.put, List.setIfInBounds_toArray, List.set_cons_zero, List.set_cons_succ])
   obtain ⟨b9, hb⟩ : ∃ k, k = W.heap.size := ⟨_, rfl⟩
   rw [← hb]
   refine wpAnyH_gen (fun X => Ext V X ∧ Blk X b9 #[.bool false, .slice none 0 0, .bool false, .slice none 0 0] 41 ∧ V.heap.size ≤ b9) ⟨hE.alloc _, (by rw [hb]; exact Blk.at _ _ rfl), (by rw [hb]; exact hE.size)⟩ ?_
   clear hb hHeld hE
   clear W
   rintro W ⟨hE, B9, h9⟩
   refine cons2L (i := 3) (j := 8) (by kernel_rfl) rfl rfl (fun K hK => ?_) (fun K hK => ?_)
   ·skip
    go_simp; go_at_call 95; refine (area_q t s.a _ HG.out.2.2.1 HG.out.2.2.2 HG.out.1).mono ?_; rw [HC.out.1]; rintro e X ⟨f, rfl, hn, hx⟩
    go_wp2_with fail
    refine hK.out _ _ ?_ ?_; rotate_left; clear hK K; intro hHeld; rotate_right; (focus (exact hE.trans hx)); (try simp only [Act.put, List.setIfInBounds_toArray, List.set_cons_zero, List.set_cons_succ])
    refine wpAnyH_gen (fun X => Ext V X ∧ IsQ X f (u : Rat) ∧ Blk X b9 #[.bool false, .slice none 0 0, .bool false, .slice none 0 0] 41 ∧ V.heap.size ≤ b9) ⟨hE.trans hx, hn, B9.ext hx, h9⟩ ?_
    clear hn hx hHeld hE B9 h9
    clear W
    rintro W ⟨hE, hf, B9, h9⟩
    refine cons2L (i := 7) (j := 8) (by kernel_rfl) rfl rfl (fun K hK => ?_) (fun K hK => ?_)
    ·skip
     go_simp; go_at_call 95; refine (area_q t s.b _ HG.out.2.2.1 HG.out.2.2.2 HG.out.2.1).mono ?_; rw [HC.out.2]; rintro e X ⟨g, rfl, hn, hx⟩
     go_wp2_with fail
     refine hK.out _ _ ?_ ?_; rotate_left; clear hK K; intro hHeld; rotate_right; (focus (exact hE.trans hx)); (try simp only [Act.put, List.setIfInBounds_toArray, List.set_cons_zero, List.set_cons_succ])
     refine wpAnyH_gen (fun X => Ext V X ∧ IsQ X f (u : Rat) ∧ IsQ X g (v : Rat) ∧ Blk X b9 #[.bool false, .slice none 0 0, .bool false, .slice none 0 0] 41 ∧ V.heap.size ≤ b9) ⟨hE.trans hx, hf.keep hx.ik, hn, B9.ext hx, h9⟩ ?_
     clear hn hx hHeld hE hf B9 h9
     clear W
     rintro W ⟨hE, hf, hg, B9, h9⟩
     refine consL (i := 8) (by kernel_rfl) rfl (fun K hK => ?_)
     go_simp; refine hK.out _ _ ?_ ?_; rotate_left; clear hK K; intro hHeld; rotate_right; (focus (exact hE.alloc _)); (try simp only [Act.put, List.setIfInBounds_toArray, List.set_cons_zero, List.set_cons_succ])
     obtain ⟨b8, hb⟩ : ∃ k, k = W.heap.size := ⟨_, rfl⟩
     rw [← hb]
     refine wpAnyH_gen (fun X => Ext V X ∧ IsQ X f (u : Rat) ∧ IsQ X g (v : Rat) ∧ Blk X b8 #[.bool false, .slice none 0 0, .bool false, .slice none 0 0] 41 ∧ V.heap.size ≤ b8 ∧ Blk X b9 #[.bool false, .slice none 0 0, .bool false, .slice none 0 0] 41 ∧ V.heap.size ≤ b9 ∧ b8 ≠ b9) ⟨hE.alloc _, hf.keep ((Ext.refl W).alloc _).ik, hg.keep ((Ext.refl W).alloc _).ik, (by rw [hb]; exact Blk.at _ _ rfl), (by rw [hb]; exact hE.size), B9.alloc _, h9, (by rw [hb]; have := B9.lt; omega)⟩ ?_
     clear hb hHeld hE hf hg B9 h9
     clear W
     rintro W ⟨hE, hf, hg, B8, h8, B9, h9, hne⟩
     have TP := two_put hE B8 B9 hne h8 h9 hf hg
     have B9p := putF_other B9 hne f
     have z0 := B8.cell 0; have z1 := B8.cell 1; have z2 := B8.cell 2; have z3 := B8.cell 3; have zf := B8.free; have y0 := B9p.cell 0; have y1 := B9p.cell 1; have y2 := B9p.cell 2; have y3 := B9p.cell 3; have yf := B9p.free
     simp only [List.getElem?_toArray, List.getElem?_cons_zero, List.getElem?_cons_succ] at z0 z1 z2 z3 y0 y1 y2 y3
     refine consL (i := 10) (by kernel_rfl) rfl (fun K hK => ?_); go_simp; refine hK.out _ _ ?_ ?_; rotate_left; clear hK K; intro hHeld; rotate_right; (focus (exact ext_putF hE h8 f)); (try simp only [Act.put, List.setIfInBounds_toArray, List.set_cons_zero, List.set_cons_succ])
     refine consL (i := 11) (by kernel_rfl) rfl (fun K hK => ?_); go_simp; refine hK.out _ _ ?_ ?_; rotate_left; clear hK K; intro hHeld; rotate_right; (focus (exact ext_putF (ext_putF hE h8 f) h9 g)); (try simp only [Act.put, List.setIfInBounds_toArray, List.set_cons_zero, List.set_cons_succ])
     refine doneL (by kernel_rfl) ?_
     go_wp2_with fail
     go_meet
     exact ⟨b8, b9, f, g, rfl, rfl, TP⟩
    ·skip
     go_simp; refine hK.out _ _ ?_ ?_; rotate_left; clear hK K; intro hHeld; rotate_right; (focus (exact hE.alloc _)); (try simp only [Act.put, List.setIfInBounds_toArray, List.set_cons_zero, List.set_cons_succ])
     obtain ⟨b8, hb⟩ : ∃ k, k = W.heap.size := ⟨_, rfl⟩
     rw [← hb]
     refine wpAnyH_gen (fun X => Ext V X ∧ IsQ X f (u : Rat) ∧ Blk X b8 #[.bool false, .slice none 0 0, .bool false, .slice none 0 0] 41 ∧ V.heap.size ≤ b8 ∧ Blk X b9 #[.bool false, .slice none 0 0, .bool false, .slice none 0 0] 41 ∧ V.heap.size ≤ b9 ∧ b8 ≠ b9) ⟨hE.alloc _, hf.keep ((Ext.refl W).alloc _).ik, (by rw [hb]; exact Blk.at _ _ rfl), (by rw [hb]; exact hE.size), B9.alloc _, h9, (by rw [hb]; have := B9.lt; omega)⟩ ?_
     clear hb hHeld hE hf B9 h9
     clear W
     rintro W ⟨hE, hf, B8, h8, B9, h9, hne⟩
     refine consL (i := 7) (by kernel_rfl) rfl (fun K hK => ?_)
     go_simp; go_at_call 95; refine (area_q t s.b _ HG.out.2.2.1 HG.out.2.2.2 HG.out.2.1).mono ?_; rw [HC.out.2]; rintro e X ⟨g, rfl, hn, hx⟩
     go_wp2_with fail
     refine hK.out _ _ ?_ ?_; rotate_left; clear hK K; intro hHeld; rotate_right; (focus (exact hE.trans hx)); (try simp only [Act.put, List.setIfInBounds_toArray, List.set_cons_zero, List.set_cons_succ])
     refine wpAnyH_gen (fun X => Ext V X ∧ IsQ X f (u : Rat) ∧ IsQ X g (v : Rat) ∧ Blk X b8 #[.bool false, .slice none 0 0, .bool false, .slice none 0 0] 41 ∧ V.heap.size ≤ b8 ∧ Blk X b9 #[.bool false, .slice none 0 0, .bool false, .slice none 0 0] 41 ∧ V.heap.size ≤ b9 ∧ b8 ≠ b9) ⟨hE.trans hx, hf.keep hx.ik, hn, B8.ext hx, h8, B9.ext hx, h9, hne⟩ ?_
     clear hn hx hHeld hE hf B8 h8 B9 h9 hne
     clear W
     rintro W ⟨hE, hf, hg, B8, h8, B9, h9, hne⟩
     have TP := two_put hE B8 B9 hne h8 h9 hf hg
     have B9p := putF_other B9 hne f
     have z0 := B8.cell 0; have z1 := B8.cell 1; have z2 := B8.cell 2; have z3 := B8.cell 3; have zf := B8.free; have y0 := B9p.cell 0; have y1 := B9p.cell 1; have y2 := B9p.cell 2; have y3 := B9p.cell 3; have yf := B9p.free
     simp only [List.getElem?_toArray, List.getElem?_cons_zero, List.getElem?_cons_succ] at z0 z1 z2 z3 y0 y1 y2 y3
     refine consL (i := 10) (by kernel_rfl) rfl (fun K hK => ?_); go_simp; refine hK.out _ _ ?_ ?_; rotate_left; clear hK K; intro hHeld; rotate_right; (focus (exact ext_putF hE h8 f)); (try simp only [Act.put, List.setIfInBounds_toArray, List.set_cons_zero, List.set_cons_succ])
     refine consL (i := 11) (by kernel_rfl) rfl (fun K hK => ?_); go_simp; refine hK.out _ _ ?_ ?_; rotate_left; clear hK K; intro hHeld; rotate_right; (focus (exact ext_putF (ext_putF hE h8 f) h9 g)); (try simp only [Act.put, List.setIfInBounds_toArray, List.set_cons_zero, List.set_cons_succ])
     refine doneL (by kernel_rfl) ?_
     go_wp2_with fail
     go_meet
     exact ⟨b8, b9, f, g, rfl, rfl, TP⟩
   ·skip
    go_simp; refine hK.out _ _ ?_ ?_; rotate_left; clear hK K; intro hHeld; rotate_right; (focus (exact hE.alloc _)); (try simp only [Act.put, List.setIfInBounds_toArray, List.set_cons_zero, List.set_cons_succ])
    obtain ⟨b8, hb⟩ : ∃ k, k = W.heap.size := ⟨_, rfl⟩
    rw [← hb]
    refine wpAnyH_gen (fun X => Ext V X ∧ Blk X b8 #[.bool false, .slice none 0 0, .bool false, .slice none 0 0] 41 ∧ V.heap.size ≤ b8 ∧ Blk X b9 #[.bool false, .slice none 0 0, .bool false, .slice none 0 0] 41 ∧ V.heap.size ≤ b9 ∧ b8 ≠ b9) ⟨hE.alloc _, (by rw [hb]; exact Blk.at _ _ rfl), (by rw [hb]; exact hE.size), B9.alloc _, h9, (by rw [hb]; have := B9.lt; omega)⟩ ?_
    clear hb hHeld hE B9 h9
    clear W
    rintro W ⟨hE, B8, h8, B9, h9, hne⟩
    refine consL (i := 3) (by kernel_rfl) rfl (fun K hK => ?_)
    go_simp; go_at_call 95; refine (area_q t s.a _ HG.out.2.2.1 HG.out.2.2.2 HG.out.1).mono ?_; rw [HC.out.1]; rintro e X ⟨f, rfl, hn, hx⟩
    go_wp2_with fail
    refine hK.out _ _ ?_ ?_; rotate_left; clear hK K; intro hHeld; rotate_right; (focus (exact hE.trans hx)); (try simp only [Act.put, List.setIfInBounds_toArray, List.set_cons_zero, List.set_cons_succ])
    refine wpAnyH_gen (fun X => Ext V X ∧ IsQ X f (u : Rat) ∧ Blk X b8 #[.bool false, .slice none 0 0, .bool false, .slice none 0 0] 41 ∧ V.heap.size ≤ b8 ∧ Blk X b9 #[.bool false, .slice none 0 0, .bool false, .slice none 0 0] 41 ∧ V.heap.size ≤ b9 ∧ b8 ≠ b9) ⟨hE.trans hx, hn, B8.ext hx, h8, B9.ext hx, h9, hne⟩ ?_
    clear hn hx hHeld hE B8 h8 B9 h9 hne
    clear W
    rintro W ⟨hE, hf, B8, h8, B9, h9, hne⟩
    refine consL (i := 7) (by kernel_rfl) rfl (fun K hK => ?_)
    go_simp; go_at_call 95; refine (area_q t s.b _ HG.out.2.2.1 HG.out.2.2.2 HG.out.2.1).mono ?_; rw [HC.out.2]; rintro e X ⟨g, rfl, hn, hx⟩
    go_wp2_with fail
    refine hK.out _ _ ?_ ?_; rotate_left; clear hK K; intro hHeld; rotate_right; (focus (exact hE.trans hx)); (try simp only [Act.put, List.setIfInBounds_toArray, List.set_cons_zero, List.set_cons_succ])
    refine wpAnyH_gen (fun X => Ext V X ∧ IsQ X f (u : Rat) ∧ IsQ X g (v : Rat) ∧ Blk X b8 #[.bool false, .slice none 0 0, .bool false, .slice none 0 0] 41 ∧ V.heap.size ≤ b8 ∧ Blk X b9 #[.bool false, .slice none 0 0, .bool false, .slice none 0 0] 41 ∧ V.heap.size ≤ b9 ∧ b8 ≠ b9) ⟨hE.trans hx, hf.keep hx.ik, hn, B8.ext hx, h8, B9.ext hx, h9, hne⟩ ?_
    clear hn hx hHeld hE hf B8 h8 B9 h9 hne
    clear W
    rintro W ⟨hE, hf, hg, B8, h8, B9, h9, hne⟩
    have TP := two_put hE B8 B9 hne h8 h9 hf hg
    have B9p := putF_other B9 hne f
    have z0 := B8.cell 0; have z1 := B8.cell 1; have z2 := B8.cell 2; have z3 := B8.cell 3; have zf := B8.free; have y0 := B9p.cell 0; have y1 := B9p.cell 1; have y2 := B9p.cell 2; have y3 := B9p.cell 3; have yf := B9p.free
    simp only [List.getElem?_toArray, List.getElem?_cons_zero, List.getElem?_cons_succ] at z0 z1 z2 z3 y0 y1 y2 y3
    refine consL (i := 10) (by kernel_rfl) rfl (fun K hK => ?_); go_simp; refine hK.out _ _ ?_ ?_; rotate_left; clear hK K; intro hHeld; rotate_right; (focus (exact ext_putF hE h8 f)); (try simp only [Act.put, List.setIfInBounds_toArray, List.set_cons_zero, List.set_cons_succ])
    refine consL (i := 11) (by kernel_rfl) rfl (fun K hK => ?_); go_simp; refine hK.out _ _ ?_ ?_; rotate_left; clear hK K; intro hHeld; rotate_right; (focus (exact ext_putF (ext_putF hE h8 f) h9 g)); (try simp only [Act.put, List.setIfInBounds_toArray, List.set_cons_zero, List.set_cons_succ])
    refine doneL (by kernel_rfl) ?_
    go_wp2_with fail
    go_meet
    exact ⟨b8, b9, f, g, rfl, rfl, TP⟩
 case rest =>
  obtain ⟨G, H, f1, g1, rfl, rfl, hE1, AG, AH, hf, hg⟩ := hcut
  have lg := AG.lt (by simp)
  have HF := Lib.hid (And.intro hE1 (And.intro hf hg))
  have HAG := Lib.hid AG
  have a0 := AG 0 (by simp); have a1 := AG 1 (by simp); have a2 := AG 2 (by simp); have a3 := AG 3 (by simp); (simp only [List.getElem?_toArray, List.getElem?_cons_zero, List.getElem?_cons_succ] at a0 a1 a2 a3)
  have c0 := AH 0 (by simp); have c1 := AH 1 (by simp); have c2 := AH 2 (by simp); have c3 := AH 3 (by simp); (simp only [List.getElem?_toArray, List.getElem?_cons_zero, List.getElem?_cons_succ] at c0 c1 c2 c3)
  clear hE1 hf hg AG AH A0'
  go_wp2_with fail
  refine (subQ_c f1 g1 _ _ QB 129 _ HF.out.2.1 HF.out.2.2 HS.out.1 HS.out.2.1 QB_lt (by omega)).mono ?_
  rw [← Rat.intCast_sub]
  rintro e w5 ⟨r, rfl, hr, hx5⟩
  have A5 := HAG.out.ext (hx5.alloc (.cells r.cs 41)) (by simp)
  have HR := Lib.hid (And.intro (hr.keep ((Ext.refl _).alloc (.cells r.cs 41)).ik) (HF.out.1.trans (hx5.alloc (.cells r.cs 41))))
  have HF5 := Lib.hid (HF.out.2.1.keep (hx5.alloc (.cells r.cs 41)).ik)
  clear a0 a1 a2 a3 c0 c1 c2 c3 hr hx5
  have a0 := A5 0 (by simp); have a1 := A5 1 (by simp); have a2 := A5 2 (by simp); have a3 := A5 3 (by simp); (simp only [List.getElem?_toArray, List.getElem?_cons_zero, List.getElem?_cons_succ] at a0 a1 a2 a3)
  go_wp2_with fail
  refine (divQ_c f1 r _ _ QB 129 _ HF5.out HR.out.1 HS.out.1 HS.out.2.2.1 HS.out.2.2.2 QB_lt (by omega)).mono ?_
  rw [HL.out.1]
  rintro e w6 ⟨d, rfl, hd, hx6⟩
  obtain ⟨G6, hG6⟩ : ∃ G, w6.heap.size = G := ⟨_, rfl⟩
  have HD0 := Lib.hid (And.intro hd (HR.out.2.trans hx6))
  clear a0 a1 a2 a3 A5 hd hx6
  go_upto_region 4 with (fail)
  try rw [hG6]
  refine wp_gen (fun W => Ext V W ∧ At W G6 d.cs ∧ IsQ W d l) ⟨HD0.out.2.alloc _, (Blk.at _ 41 hG6.symm).at', HD0.out.1.keep ((Ext.refl _).alloc _).ik⟩ ?_
  rintro V7 ⟨E7, A7, hd⟩
  have HD := Lib.hid (And.intro hd E7)
  have HC7 := Lib.hid (show CrS w V7 B G6 s d from ⟨HE.out.trans HD.out.2, (HA.out V7 HD.out.2).1, A7 0 (by simp), A7 1 (by simp), A7 2 (by simp), A7 3 (by simp)⟩)
  have O7 := HO.out.ext E7 (by omega)
  have HO7 := Lib.hid O7
  have hG7 : B + 1 + 1 < G6 := by have := (HF.out.1).size; have := HR.out.2.size; have := HD0.out.2.size; omega
  clear hd E7 A7 O7 hG6 lg
  refine wp_region_held_drew (S := fun W => CrS w W B G6 s d) (by kernel_rfl) (HC7.out.trans (Ext.refl V7).drew) (fun hHeld => ?_)
  refine tkW (i := 0) (h := ?_)
  refine tkW (i := 1) (h := ?_)
  refine takeL (i := 2) (v := ?_) rfl (by kernel_rfl) (by kernel_rfl) (by kernel_rfl) (fun _ _ _ h => h) (Or.inl ⟨by rfl, ?_⟩) (by assumption) ?_; rotate_left; (focus (intro wq hSw; have hcc := And.intro (CrS.sg hSw) (CrS.fr hSw); clear hSw; go_split_ands; go_simp; try with_reducible rfl)); (try simp only [Act.put, List.setIfInBounds_toArray, List.set_cons_zero, List.set_cons_succ])
  refine tkW (i := 3) (h := ?_)
  refine tkW (i := 4) (h := ?_)
  refine takeL (i := 5) (v := ?_) rfl (by kernel_rfl) (by kernel_rfl) (by kernel_rfl) (fun _ _ _ h => h) (Or.inl ⟨by rfl, ?_⟩) (by assumption) ?_; rotate_left; (focus (intro wq hSw; have hcc := And.intro (CrS.sg hSw) (CrS.fr hSw); clear hSw; go_split_ands; go_simp; try with_reducible rfl)); (try simp only [Act.put, List.setIfInBounds_toArray, List.set_cons_zero, List.set_cons_succ])
  refine takeL (i := 6) (v := ?_) rfl (by kernel_rfl) (by kernel_rfl) (by kernel_rfl) (fun _ _ _ h => h) (Or.inl ⟨by rfl, ?_⟩) (by assumption) ?_; rotate_left; (focus (intro wq hSw; have hcc := And.intro (CrS.sg hSw) (CrS.fr hSw); clear hSw; go_split_ands; go_simp; try with_reducible rfl)); (try simp only [Act.put, List.setIfInBounds_toArray, List.set_cons_zero, List.set_cons_succ])
  refine tkW (i := 8) (h := ?_)
  refine tkW (i := 9) (h := ?_)
  refine takeL (i := 10) (v := ?_) rfl (by kernel_rfl) (by kernel_rfl) (by kernel_rfl) (fun _ _ _ h => h) (Or.inl ⟨by rfl, ?_⟩) (by assumption) ?_; rotate_left; (focus (intro wq hSw; have hcc := And.intro (CrS.sg hSw) (CrS.fr hSw); clear hSw; go_split_ands; go_simp; try with_reducible rfl)); (try simp only [Act.put, List.setIfInBounds_toArray, List.set_cons_zero, List.set_cons_succ])
  refine tkW (i := 11) (h := ?_)
  refine tkW (i := 12) (h := ?_)
  refine takeL (i := 13) (v := ?_) rfl (by kernel_rfl) (by kernel_rfl) (by kernel_rfl) (fun _ _ _ h => h) (Or.inl ⟨by rfl, ?_⟩) (by assumption) ?_; rotate_left; (focus (intro wq hSw; have hcc := And.intro (CrS.sg hSw) (CrS.fr hSw); clear hSw; go_split_ands; go_simp; try with_reducible rfl)); (try simp only [Act.put, List.setIfInBounds_toArray, List.set_cons_zero, List.set_cons_succ])
  refine takeL (i := 14) (v := ?_) rfl (by kernel_rfl) (by kernel_rfl) (by kernel_rfl) (fun _ _ _ h => h) (Or.inl ⟨by rfl, ?_⟩) (by assumption) ?_; rotate_left; (focus (intro wq hSw; have hcc := And.intro (CrS.sg hSw) (CrS.fr hSw); clear hSw; go_split_ands; go_simp; try with_reducible rfl)); (try simp only [Act.put, List.setIfInBounds_toArray, List.set_cons_zero, List.set_cons_succ])
  refine consL (i := 7) (by kernel_rfl) rfl (fun K hK => ?_); go_simp; go_at_call 96; refine (along_q s.a.x s.b.x d l x y _ HN.out.1.1 HN.out.1.2 (HD.out.1.keep ((Ext.refl V7).drew).ik) HL.out.2).mono ?_; rintro e w8 ⟨f, rfl, hf, hx8⟩; go_wp2_with fail; refine hK.out _ _ ?_ ?_; rotate_left; clear hK K; intro hHeld; rotate_right; (focus (exact HC7.out.trans ((Ext.refl V7).drew.trans hx8))); (try simp only [Act.put, List.setIfInBounds_toArray, List.set_cons_zero, List.set_cons_succ])
  refine consL (i := 15) (by kernel_rfl) rfl (fun K hK => ?_); go_simp; go_at_call 96; refine (along_q s.a.y s.b.y d l x y _ HN.out.2.1 HN.out.2.2 (HD.out.1.keep ((Ext.refl V7).drew.trans hx8).ik) HL.out.2).mono ?_; rintro e w9 ⟨g, rfl, hg, hx9⟩; go_wp2_with fail; refine hK.out _ _ ?_ ?_; rotate_left; clear hK K; intro hHeld; rotate_right; (focus (exact HC7.out.trans (((Ext.refl V7).drew.trans hx8).trans hx9))); (try simp only [Act.put, List.setIfInBounds_toArray, List.set_cons_zero, List.set_cons_succ])
  refine tkW (i := 16) (h := ?_)
  have E79 : Ext V7 w9 := ((Ext.refl V7).drew.trans hx8).trans hx9
  have O9 := HO7.out.ext E79 (by omega)
  have HQ := Lib.hid (And.intro (show IsPQ w9 ⟨f, g⟩ (crossQ s t) by rw [HX.out]; exact ⟨hf.keep hx9.ik, hg⟩) (HE.out.trans (HD.out.2.trans E79)))
  have HO9 := Lib.hid O9
  clear hf hg hx8 hx9 E79
  have o0 := O9.1 0 (by omega); have o1 := O9.1 1 (by omega); have o2 := O9.1 2 (by omega); have o3 := O9.1 3 (by omega); have o4 := O9.1 4 (by omega); have o5 := O9.1 5 (by omega); have o6 := O9.1 6 (by omega); have o7 := O9.1 7 (by omega)
  have of0 := O9.2.1
  obtain ⟨p0, p1, p2, p3, p4, p5, p6, p7⟩ := putP_cells O9 ⟨f, g⟩
  clear O9
  refine consL (i := 17) (by kernel_rfl) rfl (fun K hK => ?_); go_simp; refine hK.out _ _ ?_ ?_; rotate_left; clear hK K; intro hHeld; rotate_right; (focus (exact CrS.put (by assumption) (by omega) (by omega) (by omega) ⟨f, g⟩)); (try simp only [Act.put, List.setIfInBounds_toArray, List.set_cons_zero, List.set_cons_succ])
  refine doneL (by kernel_rfl) ?_
  go_wp2_with fail
  refine bodyPost_ret (v := PV.v ⟨f, g⟩) (by simp [results, Try.results73, go_sem, p0, p1, p2, p3, p4, p5, p6, p7]) rfl ?_
  exact ⟨⟨f, g⟩, rfl, HQ.out.1.keep (IK.putP HO9.out ⟨f, g⟩), ext_putP HQ.out.2 (by omega) ⟨f, g⟩⟩
end Go.Proofs.Ytagiaiocgjagnaa
