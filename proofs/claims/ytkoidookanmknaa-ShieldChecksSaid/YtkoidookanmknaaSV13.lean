/- shield: the solver's memory; row, reduce, determined. -/
import Derived.Test.YtkoidookanmknaaSV12
namespace Go.Proofs.Ytkoidookanmknaa
set_option linter.unusedSimpArgs false
set_option linter.unusedVariables false
open Go.RowKit

theorem redV_append (A B : Lds) : ∀ v : Vec, redV (A ++ B) v = redV B (redV A v) := by
 induction A with
 | nil => intro v; rfl
 | cons p A ih => intro v; obtain ⟨r, l⟩ := p; exact ih _
theorem redV_snoc {R : Lds} {i : Nat} {p : Vec × Nat} (h : R[i]? = some p) (v : Vec) : redV (R.take (i + 1)) v = vless (redV (R.take i) v) p.1 (redV (R.take i) v p.2) := by
 obtain ⟨hi, hp⟩ := List.getElem?_eq_some_iff.1 h
 rw [List.take_succ_eq_append_getElem hi, redV_append, hp]
 rfl
/-- What a slice of the call's own is. -/
theorem owns_sl {w : World} {base : Nat} {e : TypeId} {s : Nat} {v : Value} {n : Nat} {xs : List Value} (h : w.ownsRow base e s v n xs) (hs : s = 1) :
  ∃ a c, v = .slice a n c ∧ (n = 0 ∨ ∃ g, a = some ⟨g, 0, none⟩ ∧ g < w.heap.size ∧ (∃ cs : Array Value, w.heap[g]? = some (.cells cs e (0, 0))) ∧ ∀ i u, xs[i]? = some u → i < n → w.cell? ⟨g, i, none⟩ = some u) := by
 subst hs
 obtain ⟨h0, ⟨hv, hn⟩ | ⟨g', cap', cur, hv, hb, hh, hle, hc, hsz, htk⟩⟩ := h
 ·exact ⟨none, 0, by rw [hv, hn], .inl hn⟩
 ·refine ⟨_, _, hv, .inr ⟨g', rfl, lt_of_block hh, ⟨cur, hh⟩, fun i u hu hi => ?_⟩⟩
  rw [← htk, List.getElem?_take_of_lt (by omega)] at hu
  simp [World.cell?, hh]; simpa using hu
/-- The solver's memory. -/
structure SolAt (w : World) (base xb n : Nat) (ss vs : Sl) (rv lv : Value) (R : Lds) (bs : List Nat) : Prop where
 box : Blk w xb #[.int .i64 (n : Int), ss.v, vs.v, rv, lv] 100
 rows : w.ownsRow base 52 1 rv R.length (bs.map fun b => Value.slice (some ⟨b, 0, none⟩) n n)
 leads : VRow w base lv (R.map fun p => (p.2 : Int))
 len : bs.length = R.length
 each : ∀ (i b : Nat) (p : Vec × Nat), bs[i]? = some b → R[i]? = some p → VecAt w b n p.1
 nodup : bs.Nodup
 hbase : base ≤ xb ∧ ∀ b, b ∈ bs → base ≤ b
 lt : ∀ p, p ∈ R → p.2 < n
 nur : NUv w rv
 nul : NUv w lv
theorem SolAt.ext {w w' : World} {base xb n : Nat} {ss vs : Sl} {rv lv : Value} {R : Lds} {bs : List Nat} (h : SolAt w base xb n ss vs rv lv R bs) (k : Ext w w') : SolAt w' base xb n ss vs rv lv R bs :=
 ⟨h.box.ext k, gowns_ext k h.rows, h.leads.ext k, h.len, fun i b p h1 h2 => (h.each i b p h1 h2).ext k, h.nodup, h.hbase, h.lt, h.nur.ext k h.rows, h.nul.ext k h.leads⟩
theorem blk_ne {w : World} {b b' : Nat} {cs cs' : Array Value} {t t' : TypeId} (h : Blk w b cs t) (h' : Blk w b' cs' t') (ht : t ≠ t') : b ≠ b' := fun e => by
 subst e
 unfold Blk at h h'
 rw [h] at h'
 injection h' with h1
 injection h1 with _ h2
 exact ht h2
theorem owns_only {b : Nat} {w w' : World} {base : Nat} {e : TypeId} {s : Nat} {v : Value} {n : Nat} {xs : List Value} {cs : Array Value} {t : TypeId} (k : Only b w w') (hb : Blk w b cs t) (ht : t ≠ e) (h : w.ownsRow base e s v n xs) : w'.ownsRow base e s v n xs := by
 obtain ⟨h0, ⟨hv, hn⟩ | ⟨g', cap, cur, hv, hg, hh, r⟩⟩ := h
 ·exact ⟨h0, .inl ⟨hv, hn⟩⟩
 ·exact ⟨h0, .inr ⟨g', cap, cur, hv, hg, by rw [k.block g' (lt_of_block hh) (Ne.symm (blk_ne hb hh ht))]; exact hh, r⟩⟩
theorem NUv.only {b : Nat} {w w' : World} {base : Nat} {e : TypeId} {s : Nat} {v : Value} {n : Nat} {xs : List Value} {cs : Array Value} {t : TypeId} (k : Only b w w') (hb : Blk w b cs t) (ht : t ≠ e) (h : w.ownsRow base e s v n xs) (hn : NUv w v) : NUv w' v := by
 intro g hg
 obtain ⟨h0, ⟨hv, _⟩ | ⟨g', cap, cur, hv, hbg, hh, r⟩⟩ := h
 ·subst hv; simp [Value.ownBlock] at hg
 ·subst hv
  simp [Value.ownBlock] at hg
  subst hg
  intro o m
  rw [World.cell?_of_block (k.block g' (lt_of_block hh) (Ne.symm (blk_ne hb hh ht)))]
  exact hn g' (by simp [Value.ownBlock]) o m
theorem SolAt.only {w w' : World} {base xb n vb m : Nat} {ss vs : Sl} {rv lv : Value} {R : Lds} {bs : List Nat} {v : Vec} (h : SolAt w base xb n ss vs rv lv R bs) (hv : VecAt w vb m v) (hvb : vb ∉ bs) (k : Only vb w w') : SolAt w' base xb n ss vs rv lv R bs := by
 obtain ⟨fs, f1, _⟩ := hv
 exact ⟨k.blk h.box (blk_ne h.box f1 (by decide)), owns_only k f1 (by decide) h.rows, owns_only k f1 (by decide) h.leads, h.len, fun i b p h1 h2 => (h.each i b p h1 h2).only k (fun e => hvb (e ▸ List.mem_of_getElem? h1)), h.nodup, h.hbase, h.lt, h.nur.only k f1 (by decide) h.rows, h.nul.only k f1 (by decide) h.leads⟩
/-- The row of a set. -/
def rowV (l : List Int) : Vec := fun c => if (c : Int) ∈ l then 1 else 0
theorem rowV_zo (l : List Int) (c : Nat) : ZO (rowV l c) := by unfold rowV ZO; split <;> simp
theorem rowV_supp {l : List Int} {n : Nat} (h : ∀ x, x ∈ l → x < (n : Int)) : Supp n (rowV l) := fun c hc => by
 unfold rowV
 rw [if_neg]
 intro hm
 have := h _ hm
 omega
theorem rowV_nil (c : Nat) : rowV [] c = 0 := by unfold rowV; simp
theorem rowV_snoc (l : List Int) (i c x : Nat) (h : l[i]? = some (x : Int)) : rowV (l.take (i + 1)) c = if c = x then 1 else rowV (l.take i) c := by
 obtain ⟨hi, hx⟩ := List.getElem?_eq_some_iff.1 h
 rw [List.take_succ_eq_append_getElem hi, hx]
 unfold rowV
 by_cases hc : c = x
 ·rw [if_pos hc, if_pos (by rw [hc]; simp)]
 ·rw [if_neg hc]
  congr 1
  rw [eq_iff_iff, List.mem_append, List.mem_singleton]
  constructor
  ·rintro (h | h)
   ·exact h
   ·exact absurd (by omega) hc
  ·exact .inl
theorem VecAt.zero {w : World} {b n : Nat} (h : Blk w b (fcells (List.replicate n fv0)) 58) : VecAt w b n (rowV []) :=
 ⟨_, h, by simp, fun i f hf => by
  rw [List.getElem?_replicate] at hf
  split at hf
  ·injection hf with hf; subst hf; rw [rowV_nil]; exact zero_isQ w
  ·cases hf⟩
set_option maxRecDepth 100000 in
set_option maxHeartbeats 4000000 in
theorem row_c (xb n : Nat) (ss vs : Sl) (rv lv : Value) (gs : List Sl) (Ls : List (List Int)) (k : Nat) (w : World) (hX : Blk w xb #[.int .i64 (n : Int), ss.v, vs.v, rv, lv] 100) (hG : Grps w ss.a ss.n gs Ls) (hk : k < ss.n) (hn : n ≤ 1000) (hl : ∀ x, x ∈ Ls.getD k [] → 0 ≤ x ∧ x < (n : Int)) (hll : (Ls.getD k []).length ≤ 1000) :
  Calls Try.prog 59 #[.pointer (some ⟨xb, 0, none⟩), .int .i64 (k : Int)] w fun e w' => ∃ b, e = .returned (.slice (some ⟨b, 0, none⟩) n n) ∧ w.heap.size ≤ b ∧ VecAt w' b n (rowV (Ls.getD k [])) ∧ Ext w w' := by
 have hmk := make_fracs n (n : Int) (n : Int) rfl rfl (by omega)
 have H := Lib.hid (And.intro hX (And.intro hG (And.intro hl hll)))
 have x0 := hX.cell 0; have x1 := hX.cell 1; have x2 := hX.cell 2; have x3 := hX.cell 3; have x4 := hX.cell 4; simp only [List.getElem?_toArray, List.getElem?_cons_zero, List.getElem?_cons_succ] at x0 x1 x2 x3 x4
 obtain ⟨sa, sn, sc⟩ := ss
 simp only at H x1 hG hk
 obtain ⟨gb, go, rfl, hgb, hgc⟩ := hG.at k hk
 have HG := Lib.hid (hG.2.2.2.2 k hk)
 have hlen := (hG.2.2.2.2 k hk).1
 have hl' := hl
 generalize gs.getD k sl0 = sg at HG hgc hlen
 generalize Ls.getD k [] = l at H HG hl' hlen hll ⊢
 obtain ⟨ga, gn, gc⟩ := sg
 simp only at HG hgc hlen
 simp only [Sl.v] at x1 hgc
 have HL := Lib.hid hl'
 have HN := Lib.hid hlen
 obtain ⟨B, hB⟩ : ∃ B, w.heap.size = B := ⟨_, rfl⟩
 have hB0 := Lib.hid (Blk.at (w := w) (fcells (List.replicate n fv0)) 58 hB.symm)
 rw [hlen] at hll
 clear hX hG hl hl' hlen H
 have k0 : (0 : Int) ≤ (k : Int) := by omega
 have k1 : (k : Int) < (sn : Int) := by omega
 go_enter Try.func59, Try.ntmps59
 go_upto_region 2 with (fail)
 try rw [hB]
 refine wp_gen (fun W => Ext w W ∧ VecAt W B n (rowV [])) ⟨(by repeat (first | exact Ext.refl _ | assumption | refine Ext.setCell ?_ (by first | (simp; done) | (simp; omega) | omega) _ | refine Ext.alloc ?_ _ | refine Ext.drew ?_ | refine Ext.trans ?_ (by assumption))), VecAt.zero hB0.out⟩ ?_
 clear hmk
 rintro V ⟨E0, V0⟩
 have y1 := E0.cell x1
 have ygc := E0.cell hgc
 have HV := Lib.hid (And.intro E0 V0)
 clear x0 x1 x2 x3 x4 hgc E0 V0
 go_upto_region 3 with (fail)
 clear y1 ygc
 go_loopw [23] (fun iv ws => ∃ i : Nat, i ≤ gn ∧ iv = .int .i64 (i : Int) ∧ Ext w ws ∧ VecAt ws B n (rowV (l.take i))) (fun iv _ => gn - (intOf iv).toNat)
 case atStart => exact ⟨0, by omega, rfl, HV.out.1, HV.out.2⟩
 case round =>
  obtain ⟨i, hi, rfl, hE, hW⟩ := hrel
  by_cases hlt : i < gn
  ·obtain ⟨b2, o2, rfl, hb2, hc⟩ := (HG.out.keep hE.ik).at i hlt
   obtain ⟨x, hx⟩ : ∃ x, l[i]? = some x := ⟨_, List.getElem?_eq_getElem (by rw [HN.out]; exact hlt)⟩
   have hxb := HL.out x (List.mem_of_getElem? hx)
   rw [show l.getD i 0 = x by simp [hx]] at hc
   obtain ⟨c, rfl⟩ : ∃ c : Nat, x = (c : Int) := ⟨x.toNat, by omega⟩
   have HX := Lib.hid hx
   have HE := Lib.hid hE
   have HW := Lib.hid hW
   have i0 : (0 : Int) ≤ (i : Int) := by omega
   have i1 : (i : Int) < (gn : Int) := by omega
   have c0 : (0 : Int) ≤ (c : Int) := by omega
   have c1 : (c : Int) < (n : Int) := by omega
   clear hx hxb hE hW
   go_wp2_with fail
   refine (number_c 1 _ (by omega) (by omega)).mono ?_
   rintro e w5 ⟨f, rfl, hf, hx5⟩
   obtain ⟨fs, f1, f2, f3⟩ := HW.out.ext hx5
   obtain ⟨g, hg⟩ : ∃ g, fs[c]? = some g := ⟨_, List.getElem?_eq_getElem (by omega)⟩
   obtain ⟨o0, o1, o2', o3⟩ := f1.quad hg
   have hfr := f1.free
   have HF := Lib.hid (And.intro f1 (And.intro f2 (And.intro f3 hf)))
   have HX5 := Lib.hid hx5
   clear f1 f2 f3 hf hx5 hg hc
   go_wp2_with fail
   go_roundw
   case rel =>
    refine ⟨i + 1, by omega, by go_num, ?_, fs.set c f, HF.out.1.put (by rw [HF.out.2.1]; omega) f, by rw [List.length_set]; exact HF.out.2.1, fun j f' hj => ?_⟩
    ·have hs := (HE.out.trans HX5.out)
     exact (((hs.setCell (show w.heap.size ≤ B by omega) _).setCell (show w.heap.size ≤ B by omega) _).setCell (show w.heap.size ≤ B by omega) _).setCell (show w.heap.size ≤ B by omega) _
    ·rw [rowV_snoc l i j c HX.out]
     by_cases hjc : c = j
     ·subst hjc
      rw [List.getElem?_set_self (by rw [HF.out.2.1]; omega)] at hj
      injection hj with hj
      subst hj
      rw [if_pos rfl]
      exact HF.out.2.2.2.keep (IK.putQ HF.out.1 f)
     ·rw [List.getElem?_set_ne hjc] at hj
      rw [if_neg (Ne.symm hjc)]
      exact (HF.out.2.2.1 j f' hj).keep (IK.putQ HF.out.1 f)
   case measure => simp [intOf]; omega
  ·obtain rfl : i = gn := by omega
   rw [List.take_of_length_le (by rw [HN.out]; exact Nat.le_refl _)] at hW
   go_wp2_with fail
   go_ret
   exact ⟨B, rfl, by omega, hW, hE⟩
theorem smb_zo {B : Nat} {p q : Rat} (hq : ZO q) (hp : SmB B p) (hB : 1 ≤ B) : SmB B (p * q) := by
 rcases hq with h | h
 ·rw [h, Rat.mul_zero]; exact SmB.zero hB
 ·rw [h, Rat.mul_one]; exact hp
set_option maxRecDepth 100000 in
set_option maxHeartbeats 4000000 in
theorem reduce_c (base xb n vb r : Nat) (ss vs : Sl) (rv lv : Value) (R : Lds) (bs : List Nat) (v : Vec) (w : World) (hS : SolAt w base xb n ss vs rv lv R bs) (hV : VecAt w vb n v) (hvb : vb ∉ bs) (hn : n ≤ 1000) (hsol : Sol R r) (hr : r ≤ 12) (hz : ∀ c, ZO (v c)) :
  Calls Try.prog 58 #[.pointer (some ⟨xb, 0, none⟩), .slice (some ⟨vb, 0, none⟩) n n] w fun e w' => e = .returned (.slice (some ⟨vb, 0, none⟩) n n) ∧ VecAt w' vb n (redV R v) ∧ Only vb w w' := by
 obtain ⟨ra, rc, rfl, hrows⟩ := owns_sl hS.rows rfl
 obtain ⟨la, lc, rfl, hleads⟩ := owns_sl hS.leads rfl
 obtain ⟨fs0, hf0, _⟩ := hV
 have hxne : xb ≠ vb := blk_ne hS.box hf0 (by decide)
 have H := Lib.hid (And.intro hS (And.intro (show VecAt w vb n v from ⟨fs0, hf0, by assumption⟩) (And.intro hsol hz)))
 have hRl : R.length ≤ 12 := by have := hsol.len; omega
 have hlen := hS.len
 have HRW := Lib.hid hrows
 have HLD := Lib.hid hleads
 have HF0 := Lib.hid hf0
 have HXN := Lib.hid hxne
 have hx := fun (ws : World) (k : Only vb w ws) => k.blk hS.box hxne
 have HX := Lib.hid hx
 have hbox := hS.box
 have x0 := hbox.cell 0; have x1 := hbox.cell 1; have x2 := hbox.cell 2; have x3 := hbox.cell 3; have x4 := hbox.cell 4; simp only [List.getElem?_toArray, List.getElem?_cons_zero, List.getElem?_cons_succ] at x0 x1 x2 x3 x4
 rw [List.length_map] at x4
 have HLEN := Lib.hid hlen
 clear hS hsol hz hrows hleads hf0 hxne hx hbox hlen
 go_enter Try.func58, Try.ntmps58
 go_upto_region 2 with (fail)
 clear x0 x1 x2 x3 x4
 go_loopw [12] (fun iv ws => ∃ i : Nat, i ≤ R.length ∧ iv = .int .i64 (i : Int) ∧ VecAt ws vb n (redV (R.take i) v) ∧ Only vb w ws) (fun iv _ => R.length - (intOf iv).toNat)
 case atStart => exact ⟨0, by omega, rfl, H.out.2.1, Only.refl vb w⟩
 case round =>
  obtain ⟨i, hi, rfl, hW, hO⟩ := hrel
  by_cases hlt : i < R.length
  ·obtain ⟨p, hp⟩ : ∃ p, R[i]? = some p := ⟨_, List.getElem?_eq_getElem hlt⟩
   obtain ⟨b, hb⟩ : ∃ b, bs[i]? = some b := ⟨_, List.getElem?_eq_getElem (by rw [HLEN.out]; exact hlt)⟩
   obtain ⟨g, rfl, hg, hgt, hgc⟩ := HRW.out.resolve_left (by omega)
   obtain ⟨g2, rfl, hg2, hgt2, hgc2⟩ := HLD.out.resolve_left (by rw [List.length_map]; omega)
   have d1 := hO.cell (hgc i _ (by rw [List.getElem?_map, hb]; rfl) hlt) (by obtain ⟨cs, hcs⟩ := hgt; exact Ne.symm (blk_ne HF0.out hcs (by decide)))
   have d2 := hO.cell (hgc2 i (.int .i64 (p.2 : Int)) (by simp [ivals, hp]) (by rw [List.length_map]; exact hlt)) (by obtain ⟨cs, hcs⟩ := hgt2; exact Ne.symm (blk_ne HF0.out hcs (by decide)))
   have hpn := H.out.1.lt p (List.mem_of_getElem? hp)
   have hst := H.out.2.2.1.steps hr H.out.2.2.2 i
   obtain ⟨s1, s2⟩ := hst
   obtain ⟨s3, s4⟩ := s2 p hp
   have hVb := (H.out.1.each i b p hb hp).only hO (fun e => hvb (e ▸ List.mem_of_getElem? hb))
   obtain ⟨fs, f1, f2, f3⟩ := hW
   obtain ⟨f, hf⟩ : ∃ f, fs[p.2]? = some f := ⟨_, List.getElem?_eq_getElem (by omega)⟩
   obtain ⟨c0, c1, c2, c3⟩ := f1.quad hf
   have hbne : vb ≠ b := fun e => hvb (e ▸ List.mem_of_getElem? hb)
   have hboxr := HX.out wr hO
   have x0 := hboxr.cell 0; have x1 := hboxr.cell 1; have x2 := hboxr.cell 2; have x3 := hboxr.cell 3; have x4 := hboxr.cell 4; simp only [List.getElem?_toArray, List.getElem?_cons_zero, List.getElem?_cons_succ] at x0 x1 x2 x3 x4
   rw [List.length_map] at x4
   have HA := Lib.hid (And.intro hVb (And.intro s1 (And.intro s3 (And.intro s4 (And.intro (f3 p.2 f hf) (And.intro hO (show VecAt wr vb n (redV (R.take i) v) from ⟨fs, f1, f2, f3⟩)))))))
   have HSN := Lib.hid (redV_snoc hp v)
   have p0 : (0 : Int) ≤ (p.2 : Int) := by omega
   have p1 : (p.2 : Int) < (n : Int) := by omega
   have i0 : (0 : Int) ≤ (i : Int) := by omega
   have i1 : (i : Int) < (R.length : Int) := by omega
   clear hp hb hgc hgc2 hgt hgt2 s1 s2 s3 s4 hVb f1 f2 f3 hf hO hboxr
   go_wp2_with fail
   refine (less_c vb b n f (redV (R.take i) v) p.1 (redV (R.take i) v p.2) _ HA.out.2.2.2.2.2.2 HA.out.1 hn hbne HA.out.2.2.2.2.1 (HA.out.2.1 _) (fun c => ⟨HA.out.2.1 c, HA.out.2.2.2.1 c, smb_zo HA.out.2.2.1 (HA.out.2.2.2.1 c) one_BB⟩)).mono ?_
   rintro e w5 ⟨rfl, hW5, hO5⟩
   have HR := Lib.hid (And.intro hW5 (HA.out.2.2.2.2.2.1.trans hO5))
   clear hW5 hO5 c0 c1 c2 c3 d1 d2 x0 x1 x2 x3 x4
   go_wp2_with fail
   go_roundw
   case rel => exact ⟨i + 1, by omega, by go_num, by rw [HSN.out]; exact HR.out.1, HR.out.2⟩
   case measure => simp [intOf]; omega
  ·obtain rfl : i = R.length := by omega
   rw [List.take_of_length_le (Nat.le_refl _)] at hW
   go_wp2_with fail
   go_ret
   exact ⟨rfl, hW, hO⟩
end Go.Proofs.Ytkoidookanmknaa
