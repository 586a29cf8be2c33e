/- X34 X35: several texts of this proof in one. -/
import Derived.Test.YtagiaiocgjagnaaQX32
import Derived.Test.YtagiaiocgjagnaaQX33
import Derived.Great.BuildSlice
import Derived.Test.YtagiaiocgjagnaaQX10
namespace Go.Proofs.Ytagiaiocgjagnaa
set_option linter.unusedSimpArgs false
set_option linter.unusedVariables false
open Go.RowKit

/-- Insert, at whatever place. -/
theorem insert_c (base b k : Nat) (v : Value) (qs : List PV) (p : PV) (w : World) (hb : base ≤ w.heap.size) (hr : GRow encPV 43 w base v qs) (hni : NIv w v) (hs : Blk w b p.cs 43) (hne : v.ownBlock ≠ some b) (hk : k ≤ qs.length) (hl : qs.length ≤ 1000) :
  Calls Try.prog 50 #[v, .int .i64 (k : Int), .slice (some ⟨b, 0, none⟩) 1 1] w (InsPost w base v (qs.take k ++ p :: qs.drop k)) := by
 by_cases he : k = qs.length
 ·subst he
  have := insert_end base b v qs p w hb hr hni hs hl
  rw [List.take_length, List.drop_length]
  exact this
 ·rcases hr.form with ⟨_, hq⟩ | ⟨g, cap, cur, rfl, hg, hh, hc, hm, hsz, htk⟩
  ·rw [hq] at hk he; simp at hk; exact absurd hk he
  ·have hbg : b ≠ g := fun e => hne (by rw [e]; rfl)
   by_cases hroom : qs.length + 1 ≤ cap
   ·exact insert_room base b g cap k qs p w hr (hni g rfl) hs hbg (by omega) hroom hl
   ·obtain rfl : cap = qs.length := by omega
    exact insert_grow base b g k qs p w hb hr hs hbg (by omega) hl
theorem wp_buildP {o : Oper} {a : Act} {w : World} {K : Act → World → Prop} {Q : Exit → Act → World → Prop} (p : PV) (x : Operand) (ho : o.op = .buildSlice 51 1 #[(0, x)]) (hx : a.eval x = p.v)
  (h : K (a.put o.dst (.slice (some ⟨w.heap.size, 0, none⟩) 1 1)) (w.alloc (.cells p.cs 43))) : o.wp Try.prog a w K Q := by
 obtain ⟨i0, hi, hz0, hz1, hz2⟩ := info_parts pInfo
 refine wp_buildSlice 51 43 1 #[(0, x)] ho p.cs i0 _ Try.underlying51 hi hz0 (by rw [hz1]; omega) (by rw [hz1]; omega) ?_ h
 rw [hz1]
 simp only [List.map_toArray, List.map_cons, List.map_nil, hx]
 first
 | kernel_rfl
 | (cases p; rfl)
theorem GRow.setOther {w : World} {base O : Nat} {v : Value} {qs : List PV} {u : Value} (h : GRow encPV 43 w base v qs) (hO : O < base) : GRow encPV 43 (w.setCell ⟨O, 0, none⟩ u) base v qs := by
 obtain ⟨h0, ⟨hv, hn⟩ | ⟨g, cap, cur, hv, hb, hh, r⟩⟩ := h
 ·exact ⟨h0, .inl ⟨hv, hn⟩⟩
 ·exact ⟨h0, .inr ⟨g, cap, cur, hv, hb, (Blk.setOther (cs := cur) (t := 43) hh (p := ⟨O, 0, none⟩) (by show g ≠ O; omega) u), r⟩⟩
theorem NIv.setOther {w : World} {base O : Nat} {v : Value} {qs : List PV} {u : Value} (hr : GRow encPV 43 w base v qs) (h : NIv w v) (hO : O < base) : NIv (w.setCell ⟨O, 0, none⟩ u) v := fun g hg o k m => by
 have := (gowns_lt hr hg).1
 rw [World.cell?_setCell_other _ _ _ _ (by intro e; injection e with e1 _; omega)]
 exact h g hg o k m
/-- The box of the list of dividing points. -/
structure NoteS (w0 w : World) (O : Nat) (l : List QP) : Prop where
 ex : ∃ (v : Value) (qs : List PV), Var w O v ∧ GRow encPV 43 w (O + 1) v qs ∧ NIv w v ∧ qs.length = l.length ∧ StdQ w qs l
 srt : SrtQ l
 ext : Ext w0 w
 le : w0.heap.size ≤ O
theorem NoteS.more {w0 w w' : World} {O : Nat} {l : List QP} (h : NoteS w0 w O l) (k : Ext w w') : NoteS w0 w' O l := by
 obtain ⟨⟨v, qs, h1, h2, h3, h4, h5⟩, hs, he, hl⟩ := h
 exact ⟨⟨v, qs, h1.ext k, h2.ext k, NIv.ext k h2 h3, h4, h5.keep k.ik⟩, hs, he.trans k, hl⟩
theorem NoteS.lt {w0 w : World} {O : Nat} {l : List QP} (h : NoteS w0 w O l) : O < w.heap.size := by
 obtain ⟨⟨v, qs, h1, _⟩, _⟩ := h
 exact lt_of_cell h1.1
theorem stdq_ins {w : World} {qs : List PV} {l : List QP} {k : Nat} {p : PV} {x : QP} (h : StdQ w qs l) (hl : qs.length = l.length) (hp : IsPQ w p x) (hk : k ≤ l.length) : StdQ w (qs.take k ++ p :: qs.drop k) (l.take k ++ x :: l.drop k) := fun j q y h1 h2 => by
 have k1 : (qs.take k).length = k := by rw [List.length_take]; omega
 have k2 : (l.take k).length = k := by rw [List.length_take]; omega
 rcases Nat.lt_trichotomy j k with h3 | h3 | h3
 ·rw [List.getElem?_append_left (by omega), List.getElem?_take_of_lt h3] at h1 h2
  exact h j q y h1 h2
 ·subst h3
  rw [List.getElem?_append_right (by omega), k1, Nat.sub_self, List.getElem?_cons_zero] at h1
  rw [List.getElem?_append_right (by omega), k2, Nat.sub_self, List.getElem?_cons_zero] at h2
  injection h1 with h1; injection h2 with h2
  subst h1; subst h2; exact hp
 ·obtain ⟨i, rfl⟩ : ∃ i, j = k + 1 + i := ⟨j - (k + 1), by omega⟩
  rw [List.getElem?_append_right (by omega), k1, show k + 1 + i - k = i + 1 by omega, List.getElem?_cons_succ, List.getElem?_drop] at h1
  rw [List.getElem?_append_right (by omega), k2, show k + 1 + i - k = i + 1 by omega, List.getElem?_cons_succ, List.getElem?_drop] at h2
  exact h _ q y h1 h2
/-- What noting a point leaves. -/
def NotePost (w0 w : World) (O : Nat) (l : List QP) (e : Ending) (w' : World) : Prop := e = .returned (.tuple #[]) ∧ NoteS w0 w' O l ∧ IK w w' ∧ Below O w w' ∧ ∀ k cs t, Blk w k cs t → t ≠ 43 → k ≠ O → Blk w' k cs t
theorem bsf_row (base : Nat) (a : Option Addr) (n c : Nat) (qs : List PV) (l : List QP) (p : PV) (x : QP) (w : World) (hr : GRow encPV 43 w base (.slice a n c) qs) (hql : qs.length = l.length) (hs : StdQ w qs l) (hp : IsPQ w p x) (ho : SrtQ l) (hn : l.length ≤ 1000) :
  Calls Try.prog 49 #[.slice a n c, p.v, .func (.func 24) #[] #[]] w (BsfPost l x w) := by
 rcases hr.form with ⟨h1, h2⟩ | ⟨g, cap, cur, h1, hrest⟩
 ·injection h1 with h1 h3 h4
  subst h1; subst h3
  subst h2
  have : l = [] := List.eq_nil_of_length_eq_zero hql.symm
  subst this
  exact bsf_nil c p x w
 ·injection h1 with h1 h3 h4
  subst h1; subst h3
  exact bsf_some g qs.length c qs l p x w (GRow.gat hr) rfl hql.symm hs hp ho (by omega)
theorem found_yes {l : List QP} {x : QP} {k : Nat} (h : FoundQ l x k true) : insQ l x = l := by
 obtain ⟨h1, h2, h3, h4⟩ := h
 rw [insQ_at l x k h1 h2 h3]
 cases hk : l[k]? with
 | none => rw [hk] at h4; cases h4
 | some q =>
  rw [hk] at h4
  simp only
  rw [if_pos (by simpa using h4.symm)]
theorem found_no {l : List QP} {x : QP} {k : Nat} (h : FoundQ l x k false) : insQ l x = l.take k ++ x :: l.drop k := by
 obtain ⟨h1, h2, h3, h4⟩ := h
 rw [insQ_at l x k h1 h2 h3]
 cases hk : l[k]? with
 | none => rfl
 | some q =>
  simp only [hk] at h4
  simp only
  rw [if_neg (by intro e; simp [e] at h4)]
set_option maxRecDepth 100000 in
set_option maxHeartbeats 8000000 in
theorem note_c (O : Nat) (l : List QP) (p : PV) (x : QP) (w0 w : World) (h : NoteS w0 w O l) (hp : IsPQ w p x) (hl : l.length ≤ 900) :
  Calls Try.prog 48 #[p.v, .pointer (some ⟨O, 0, none⟩)] w (NotePost w0 w O (insQ l x)) := by
 have hO := h.lt
 obtain ⟨⟨v, qs, hv, hr, hni, hql, hst⟩, hs, he, hle⟩ := h
 have HR := Lib.hid (And.intro hv (And.intro hr (And.intro hni (And.intro hst (And.intro hs (And.intro he (And.intro hp hql)))))))
 have HLE := Lib.hid hle
 have HNP := Lib.hid (NotePost.eq_1 w0 w O (insQ l x))
 obtain ⟨B, hB⟩ : ∃ B, w.heap.size = B := ⟨_, rfl⟩
 have HLL := Lib.hid hl
 obtain ⟨n, hn⟩ : ∃ n, l.length = n := ⟨_, rfl⟩
 have HN := Lib.hid hn
 have HOB := Lib.hid (show O < B by omega)
 obtain ⟨a, c, hvs, hmem⟩ : ∃ a c, v = .slice a n c ∧ ((a = none ∧ n = 0) ∨ ∃ g, a = some ⟨g, 0, none⟩) := by
  rcases hr.form with ⟨h1, h2⟩ | ⟨g, cap, cur, h1, _⟩
  ·refine ⟨none, 0, ?_, .inl ⟨rfl, ?_⟩⟩
   ·rw [h1]; congr 1; rw [← hn, ← hql, h2]; rfl
   ·rw [← hn, ← hql, h2]; rfl
  ·exact ⟨_, cap, by rw [h1, hql, hn], .inr ⟨g, rfl⟩⟩
 subst hvs
 have HM := Lib.hid hmem
 have v0 := hv.1
 clear hle hl hn hql hst hs he hp hni hr hmem
 go_enter Try.func48, Try.ntmps48
 have B0 := Blk.at p.cs 43 hB.symm
 obtain ⟨y0, y1, y2, y3, y4, y5, y6, y7⟩ := B0.p8
 have v1 := (hv.ext ((Ext.refl w).alloc (.cells p.cs 43))).1
 have HX0 := Lib.hid ((Ext.refl w).alloc (.cells p.cs 43))
 go_wp2_with fail
 refine (bsf_row (O + 1) a n c qs l p x _ (HR.out.2.1.ext HX0.out) (HR.out.2.2.2.2.2.2.2) (HR.out.2.2.2.1.keep HX0.out.ik) (HR.out.2.2.2.2.2.2.1.keep HX0.out.ik) HR.out.2.2.2.2.1 (by have := HLL.out; omega)).mono ?_
 rintro e w2 ⟨k, f, rfl, hF, hx2⟩
 have HF := Lib.hid hF
 have HX2 := Lib.hid (HX0.out.trans hx2)
 have B2 := B0.ext hx2
 have V2 := HR.out.1.ext HX2.out
 clear hF y0 y1 y2 y3 y4 y5 y6 y7 v0 v1 hv
 cases f with
 | true =>
  clear B0 B2 V2 hx2
  go_wp2_with fail
  go_end0
  rw [HNP.out]
  refine ⟨rfl, ?_, HX2.out.ik, HX2.out.below.mono (by omega), fun k cs t h _ _ => h.ext HX2.out⟩
  rw [found_yes HF.out]
  exact NoteS.more ⟨⟨_, qs, HR.out.1, HR.out.2.1, HR.out.2.2.1, HR.out.2.2.2.2.2.2.2, HR.out.2.2.2.1⟩, HR.out.2.2.2.2.1, HR.out.2.2.2.2.2.1, HLE.out⟩ HX2.out
 | false =>
  obtain ⟨y0, y1, y2, y3, y4, y5, y6, y7⟩ := B2.p8
  have v2 := V2.1
  have HV2 := Lib.hid V2
  obtain ⟨D, hD⟩ : ∃ D, w2.heap.size = D := ⟨_, rfl⟩
  have HB3 := Lib.hid (Blk.at p.cs 43 hD.symm)
  have HX3 := Lib.hid ((Ext.refl w2).alloc (.cells p.cs 43))
  have HOD := Lib.hid (show O < D by have := HX2.out.size; omega)
  have HD := Lib.hid hD
  clear B0 B2 V2 hx2
  go_wp2_with (refine wpList_plain rfl fun _ hK => wp_buildP p _ rfl rfl (hK _ _ ?_); rw [HD.out]; generalize w2.alloc (.cells p.cs 43) = w3 at *)
  have HR3 := Lib.hid (And.intro (HR.out.2.1.ext (HX2.out.trans HX3.out)) (NIv.ext (HX2.out.trans HX3.out) HR.out.2.1 HR.out.2.2.1))
  have hne : Value.ownBlock (.slice a n c) ≠ some D := fun he => by
   have h1 := (gowns_lt HR.out.2.1 he).2
   have h2 := HX2.out.size
   rw [HD.out] at h2
   omega
  refine (insert_c (O + 1) D k (.slice a n c) qs p w3 (by have := HOD.out; have := Blk.lt HB3.out; omega) HR3.out.1 HR3.out.2 HB3.out hne (by have := HF.out.1; rw [HR.out.2.2.2.2.2.2.2]; exact this) (by rw [HR.out.2.2.2.2.2.2.2]; have := HLL.out; omega)).mono ?_
  rintro e w4 ⟨v', rfl, hr4, hni4, hik4, hb4, ho4⟩
  have HO4 := Lib.hid ho4
  clear ho4
  obtain ⟨g4, cap4, cur4, rfl, _⟩ : ∃ g cap cur, v' = .slice (some ⟨g, 0, none⟩) (qs.take k ++ p :: qs.drop k).length cap ∧ O + 1 ≤ g := by
   rcases hr4.form with ⟨_, h2⟩ | ⟨g, cap, cur, h1, h2, _⟩
   ·simp at h2
   ·exact ⟨g, cap, cur, h1, h2⟩
  have hlen : (qs.take k ++ p :: qs.drop k).length = (insQ l x).length := by
   rw [found_no HF.out]
   have := HF.out.1
   have := HR.out.2.2.2.2.2.2.2
   simp only [List.length_append, List.length_cons, List.length_take, List.length_drop]
   omega
  have HLEN := Lib.hid hlen
  obtain ⟨m, hm⟩ : ∃ m, (qs.take k ++ p :: qs.drop k).length = m := ⟨_, rfl⟩
  rw [hm] at hr4 hni4 ⊢
  have c4 : w4.cell? ⟨O, 0, none⟩ = some (.slice a n c) := (hb4.cell (by show O < O + 1; omega)).trans (HX3.out.cell v2)
  have f4 : ∀ o, w4.frozen? ⟨O, o, none⟩ = false := fun o => (hb4.frozen (by show O < O + 1; omega)).trans ((HV2.out.ext HX3.out).2 o)
  have H4 := Lib.hid (And.intro hr4 (And.intro hni4 (And.intro hik4 (And.intro hb4 (And.intro c4 f4)))))
  have HSZ := Lib.hid (show O < w4.heap.size by have := HOD.out; have := Blk.lt HB3.out; have := hb4.size; omega)
  clear hr4 hni4 hik4 hb4 hne HR3 y0 y1 y2 y3 y4 y5 y6 y7 v2 hlen hm hD
  have f40 := f4 0
  go_wp2_with fail
  go_end0
  rw [HNP.out]
  have h1 := HLE.out
  have h3 : Ext w0 w3 := HR.out.2.2.2.2.2.1.trans (HX2.out.trans HX3.out)
  have e4 : Ext w0 w4 := Below.trans h3.below (H4.out.2.2.2.1.mono (by omega))
  have b4 : Below O w w4 := Below.trans ((HX2.out.trans HX3.out).below.mono (by omega)) (H4.out.2.2.2.1.mono (by omega))
  have hnint : ∀ k n, w4.cell? ⟨O, 0, none⟩ ≠ some (.int k n) := fun k n h => by rw [c4] at h; cases h
  have k5 : IK w4 (w4.setCell ⟨O, 0, none⟩ (.slice (some ⟨g4, 0, none⟩) m cap4)) := (IK.refl w4).setCell hnint _
  have k4 : IK w w4 := (HX2.out.trans HX3.out).ik.trans H4.out.2.2.1
  refine ⟨rfl, ⟨⟨.slice (some ⟨g4, 0, none⟩) m cap4, qs.take k ++ p :: qs.drop k, ⟨?_, ?_⟩, H4.out.1.setOther (by omega), NIv.setOther H4.out.1 H4.out.2.1 (by omega), HLEN.out, ?_⟩, insQ_srt HR.out.2.2.2.2.1, e4.setCell h1 _, h1⟩, k4.trans k5, b4.setCell (Nat.le_refl O) _, fun k cs t hb ht hk => ?_⟩
  ·exact World.cell?_setCell_same' _ _ _ (by rw [c4]; rfl)
  ·intro o; rw [World.frozen?_setCell]; exact f4 o
  ·rw [found_no HF.out]
   exact stdq_ins (HR.out.2.2.2.1.keep (k4.trans k5)) HR.out.2.2.2.2.2.2.2 (HR.out.2.2.2.2.2.2.1.keep (k4.trans k5)) HF.out.1
  ·have hb3 := hb.ext (HX2.out.trans HX3.out)
   refine Blk.setOther (p := ⟨O, 0, none⟩) ?_ hk _
   have hne : Value.ownBlock (.slice a n c) ≠ some k := fun he => by
    obtain ⟨_, ⟨h5, _⟩ | ⟨g5, cap5, cur5, h5, _, h6, _⟩⟩ := HR.out.2.1.ext (HX2.out.trans HX3.out)
    ·rw [h5] at he; simp [Value.ownBlock] at he
    ·rw [h5] at he
     simp [Value.ownBlock] at he
     subst he
     have := h6.symm.trans hb3
     injection this with this
     injection this with _ h7 _
     exact ht h7.symm
   exact (HO4.out k hb3.lt hne).trans hb3
end Go.Proofs.Ytagiaiocgjagnaa
namespace Go.Proofs.Ytagiaiocgjagnaa
set_option linter.unusedSimpArgs false
set_option linter.unusedVariables false
open Go.RowKit

/-- A slice of elements that lie at the head of a block. -/
structure GSl {α : Type} (F : Enc α) (w : World) (a : Option Addr) (n c : Nat) (l : List α) : Prop where
 len : l.length = n
 cap : n ≤ c
 most : c ≤ maxLen
 at' : (a = none ∧ n = 0 ∧ c = 0) ∨ ∃ g, a = some ⟨g, 0, none⟩ ∧ GAt F w g l ∧ g < w.heap.size
theorem GSl.ext {α : Type} {F : Enc α} {w w' : World} {a : Option Addr} {n c : Nat} {l : List α} (h : GSl F w a n c l) (e : Ext w w') : GSl F w' a n c l := by
 obtain ⟨h1, h2, h3, h4⟩ := h
 refine ⟨h1, h2, h3, ?_⟩
 rcases h4 with h4 | ⟨g, ha, hg, hl⟩
 ·exact .inl h4
 ·exact .inr ⟨g, ha, hg.ext e, Nat.lt_of_lt_of_le hl e.size⟩
theorem gat_takeG {α : Type} {F : Enc α} {w : World} {g k : Nat} {l : List α} (h : GAt F w g l) : GAt F w g (l.take k) := fun i a hi j hj => by
 rcases Nat.lt_or_ge i k with h1 | h1
 ·rw [List.getElem?_take_of_lt h1] at hi
  exact h i a hi j hj
 ·rw [List.getElem?_eq_none (by rw [List.length_take]; omega)] at hi; cases hi
theorem GSl.take {α : Type} {F : Enc α} {w : World} {a : Option Addr} {n c k : Nat} {l : List α} (h : GSl F w a n c l) (hk : k ≤ n) : GSl F w a k c (l.take k) := by
 obtain ⟨h1, h2, h3, h4⟩ := h
 refine ⟨by rw [List.length_take]; omega, by omega, h3, ?_⟩
 rcases h4 with ⟨ha, hn, hc⟩ | ⟨g, ha, hg, hl⟩
 ·exact .inl ⟨ha, by omega, hc⟩
 ·exact .inr ⟨g, ha, gat_takeG hg, hl⟩
/-- Where the elements of a slice lie that is appended. -/
def SrcG {α : Type} (F : Enc α) (w : World) (a : Option Addr) (n : Nat) (l : List α) : Prop := l.length = n ∧ (n = 0 ∨ ∃ ad, a = some ad ∧ ∀ (j : Nat) (u : Value), (gcells F l)[j]? = some u → w.cell? (ad.add j) = some u)
theorem GSl.src {α : Type} {F : Enc α} {w : World} {a : Option Addr} {n c : Nat} {l : List α} (h : GSl F w a n c l) : SrcG F w a n l := by
 obtain ⟨h1, h2, h3, h4⟩ := h
 refine ⟨h1, ?_⟩
 rcases h4 with ⟨ha, hn, hc⟩ | ⟨g, ha, hg, hl⟩
 ·exact .inl hn
 ·exact .inr ⟨_, ha, gnews_at hg⟩
theorem run_append_noneG {α : Type} {F : Enc α} {w : World} {base : Nat} {T S : TypeId} {i0 : TypeInfo} {v : Value} {l : List α} (hu : Try.prog.underlying S = some (.slice T)) (hi : Try.prog.info? T = some i0) (h : GRow F T w base v l) (ty : TypeId) (a : Option Addr) (c : Nat) :
  (Builtin.append_ #[S, S] ty #[v, .slice a 0 c]).run Try.prog w = .ok v w := by
 obtain ⟨h0, ⟨hv, hn⟩ | ⟨g', cap', cur, hv, hb, hh, hle, _⟩⟩ := h
 ·subst hv
  cases a <;> simp [Builtin.append_, run_underlying hu, sizeOf, typeInfo, hi, Builtin.lenOf, Builtin.firstCells, loadCells, loadCellsFrom]
 ·subst hv
  cases a <;> simp [Builtin.append_, run_underlying hu, sizeOf, typeInfo, hi, Builtin.lenOf, Builtin.firstCells, loadCells, loadCellsFrom, hle, storeCells]
/-- Appending a slice, also an empty one. -/
theorem app_gen {α : Type} {F : Enc α} {T S : TypeId} {z : Value} {bytes : Nat} (hu : Try.prog.underlying S = some (.slice T)) (hinf : (Try.prog.info? T).map (fun i => (i.zero, i.size, i.bytes)) = some (some z, F.s, bytes)) (hzs : z.cells.size = F.s) (hby : bytes ≤ 1000)
  {w : World} {base : Nat} {v : Value} {l1 l2 : List α} {a : Option Addr} {n : Nat} (hb : base ≤ w.heap.size) (h1 : GRow F T w base v l1) (h2 : SrcG F w a n l2) (hs : l1.length + n ≤ 1000000) (c : Nat) (ty : TypeId) :
  ∃ v' w', (Builtin.append_ #[S, S] ty #[v, .slice a n c]).run Try.prog w = .ok v' w' ∧ GRow F T w' base v' (l1 ++ l2) ∧ ∀ A, Ext A w → A.heap.size ≤ base → Ext A w' := by
 obtain ⟨i0, hi, hz0, hz1, hz2⟩ := info_parts hinf
 obtain ⟨hl, h2⟩ := h2
 rcases Nat.eq_zero_or_pos n with hn | hn
 ·subst hn
  have : l2 = [] := List.eq_nil_of_length_eq_zero hl
  subst this
  exact ⟨v, w, run_append_noneG hu hi h1 ty a c, by rw [List.append_nil]; exact h1, fun A hA _ => hA⟩
 ·obtain ⟨ad, rfl, hc⟩ := h2.resolve_left (by omega)
  have hbb : (l1.length + n) * bytes ≤ 1000000 * 1000 := Nat.mul_le_mul hs hby
  obtain ⟨g, cap, w', hr, hown, hgrow, hat, hlt⟩ := run_append_lies (P := Try.prog) w S ty base T i0 _ F.s bytes hu hi hz0 hz1 hz2 hzs F.pos v l1.length (gcells F l1) h1 ad n c (gcells F l2) (by rw [gcells_length, hl]) hc (gcells_one _ _) hn (by rw [maxLen]; omega) (by omega) hb _ rfl
  refine ⟨_, w', hr, ?_, fun A hA hAb => ?_⟩
  ·unfold GRow
   rw [gcells_append, List.length_append, hl]
   exact hown
  ·exact gext_grown hA hgrow fun g' hg' => Nat.le_trans hAb (gowns_lt h1 hg').1
theorem GRow.gsl {α : Type} {F : Enc α} {T : TypeId} {w : World} {base : Nat} {v : Value} {l : List α} (h : GRow F T w base v l) : ∃ a c, v = .slice a l.length c ∧ GSl F w a l.length c l := by
 obtain ⟨h0, ⟨hv, hn⟩ | ⟨g, cap, cur, hv, hb, hh, hle, hc, hsz, htk⟩⟩ := h
 ·refine ⟨none, 0, by rw [hv, hn], ⟨rfl, by omega, by rw [maxLen]; omega, .inl ⟨rfl, hn, rfl⟩⟩⟩
 ·subst hv
  exact ⟨_, cap, rfl, ⟨rfl, hle, hc, .inr ⟨g, rfl, GRow.gat ⟨h0, .inr ⟨g, cap, cur, rfl, hb, hh, hle, hc, hsz, htk⟩⟩, lt_of_block hh⟩⟩⟩
def encSg : Enc Sg := ⟨fun s => s.cs.toList, 4, fun _ => rfl, fun p u hu => by
 simp at hu
 rcases hu with rfl | rfl | rfl | rfl <;> rfl, by omega⟩
def encPt : Enc Pt := ⟨fun p => [.int .i64 p.x, .int .i64 p.y], 2, fun _ => rfl, fun p u hu => by
 simp at hu
 rcases hu with rfl | rfl <;> rfl, by omega⟩
theorem sgInfo : (Try.prog.info? 25).map (fun i => (i.zero, i.size, i.bytes)) = some (some (.agg #[.int .i64 0, .int .i64 0, .int .i64 0, .int .i64 0]), encSg.s, 32) := by kernel_rfl
theorem ptInfo : (Try.prog.info? 23).map (fun i => (i.zero, i.size, i.bytes)) = some (some (.agg #[.int .i64 0, .int .i64 0]), encPt.s, 16) := by kernel_rfl
abbrev SgS (w : World) (a : Option Addr) (n c : Nat) (l : List Sg) : Prop := GSl encSg w a n c l
abbrev PtS (w : World) (a : Option Addr) (n c : Nat) (l : List Pt) : Prop := GSl encPt w a n c l
theorem GAt.sgs {w : World} {b : Nat} {l : List Sg} (h : GAt encSg w b l) : Sgs w b l := fun i hi => by
 have e : l[i]? = some (l.getD i zSg) := by rw [List.getD_eq_getElem?_getD, List.getElem?_eq_getElem hi]; rfl
 exact ⟨h i _ e 0 (by decide), h i _ e 1 (by decide), h i _ e 2 (by decide), h i _ e 3 (by decide)⟩
theorem GAt.pts2 {w : World} {b i : Nat} {l : List Pt} {p : Pt} (h : GAt encPt w b l) (hi : l[i]? = some p) : w.cell? ⟨b, i * 2, none⟩ = some (.int .i64 p.x) ∧ w.cell? ⟨b, i * 2 + 1, none⟩ = some (.int .i64 p.y) := ⟨h i p hi 0 (by decide), h i p hi 1 (by decide)⟩
theorem GAt.sg4 {w : World} {b i : Nat} {l : List Sg} {s : Sg} (h : GAt encSg w b l) (hi : l[i]? = some s) : w.cell? ⟨b, i * 4, none⟩ = some (.int .i64 s.a.x) ∧ w.cell? ⟨b, i * 4 + 1, none⟩ = some (.int .i64 s.a.y) ∧ w.cell? ⟨b, i * 4 + 2, none⟩ = some (.int .i64 s.b.x) ∧ w.cell? ⟨b, i * 4 + 3, none⟩ = some (.int .i64 s.b.y) :=
 ⟨h i s hi 0 (by decide), h i s hi 1 (by decide), h i s hi 2 (by decide), h i s hi 3 (by decide)⟩
set_option maxHeartbeats 2000000 in
theorem cvalid2_c (b n c : Nat) (l : List Sg) (w : World) (hn : l.length = n) (hc : n ≤ c) (hc4 : n ≤ 100000) (h : Sgs w b l) :
  Calls Try.prog 46 #[.slice (some ⟨b, 0, none⟩) n c] w fun e w' => e = .returned (.int .i64 (firstS l)) ∧ Ext w w' := by
 have HN := Lib.hid hn; have HP := Lib.hid h; clear hn h
 go_enter Try.func46, Try.ntmps46
 go_wp2
 go_loopw [8] (fun v wr => ∃ i : Nat, i ≤ n ∧ v = .int .i64 (i : Int) ∧ (∀ j, j < i → segE (l.getD j zSg) = 0) ∧ Ext w wr) (fun v _ => n - (intOf v).toNat)
 case atStart => exact ⟨0, by omega, rfl, fun j hj => absurd hj (by omega), Ext.refl _⟩
 case round =>
  obtain ⟨i, hi, rfl, hz, hx⟩ := hrel
  have HZ := Lib.hid hz; have HX := Lib.hid hx; clear hz hx
  by_cases hlt : i < n
  ·obtain ⟨c0, c1, c2, c3⟩ := HP.out.ik HX.out.ik i (by rw [HN.out]; exact hlt)
   generalize hp : l.getD i zSg = p at c0 c1 c2 c3
   have HPE := Lib.hid hp; clear hp
   by_cases hv : segE p = 0
   ·have HV := Lib.hid hv; clear hv
    go_wp2_with fail
    refine (cValid_c p _).mono ?_
    rintro e w2 ⟨rfl, hx2⟩
    rw [HV.out]
    have hE : Ext w w2 := (HX.out.alloc _).trans hx2
    have HE := Lib.hid hE; clear hE hx2
    go_wp2_with fail
    go_roundw
    case rel =>
     refine ⟨i + 1, by omega, by go_num, fun j hj => ?_, HE.out⟩
     by_cases hji : j < i
     ·exact HZ.out j hji
     ·obtain rfl : j = i := by omega
      rw [HPE.out]; exact HV.out
    case measure => simp [intOf]; omega
   ·have hfin : firstS l = segE p := by rw [firstS_at i (by rw [HN.out]; exact hlt) HZ.out (by rw [HPE.out]; exact hv), HPE.out]
    have hv' : (segE p != 0) = true := by rw [bne_iff_ne]; exact hv
    have HF := Lib.hid hfin; clear hfin hv
    go_wp2_with fail
    refine (cValid_c p _).mono ?_
    rintro e w2 ⟨rfl, hx2⟩
    have hE : Ext w w2 := (HX.out.alloc _).trans hx2
    have HE := Lib.hid hE; clear hE hx2
    generalize segE p = v at *
    go_wp2_with fail
    go_ret
    exact ⟨by rw [HF.out]; rfl, HE.out⟩
  ·obtain rfl : i = n := by omega
   have hfin : firstS l = 0 := firstS_none (by rw [HN.out]; exact HZ.out)
   have HD := Lib.hid hfin; clear hfin
   go_wp2_with fail
   go_ret
   exact ⟨by rw [HD.out]; rfl, HX.out⟩
theorem wp_buildS {o : Oper} {a : Act} {w : World} {K : Act → World → Prop} {Q : Exit → Act → World → Prop} (s : Sg) (x : Operand) (ho : o.op = .buildSlice 29 1 #[(0, x)]) (hx : a.eval x = s.v)
  (h : K (a.put o.dst (.slice (some ⟨w.heap.size, 0, none⟩) 1 1)) (w.alloc (.cells s.cs 25))) : o.wp Try.prog a w K Q := by
 obtain ⟨i0, hi, hz0, hz1, hz2⟩ := info_parts sgInfo
 refine wp_buildSlice 29 25 1 #[(0, x)] ho s.cs i0 _ Try.underlying29 hi hz0 (by rw [hz1]; decide) (by rw [hz1]; decide) ?_ h
 rw [hz1]
 simp only [List.map_toArray, List.map_cons, List.map_nil, hx]
 first
 | kernel_rfl
 | (cases s; rfl)
theorem Blk.sg1 {w : World} {b : Nat} {s : Sg} (h : Blk w b s.cs 25) : GRow encSg 25 w b (.slice (some ⟨b, 0, none⟩) 1 1) [s] :=
 GRow.mk (l := [s]) (cur := s.cs) (Nat.le_refl _) h (by simp) (by rw [maxLen]; omega) rfl rfl
/-- The condition on a point of the grid. -/
theorem onB_grid (s : Sg) (p : Pt) : onB s p.q = (inB s.bx p.q && (sideF s.a s.b p == 0)) := by
 unfold onB
 congr 1
 rw [sideF_crs, crs_int]
 have h := cmpI_cmpQ (a := crsI s.a s.b p) (b := 0) (d := 1) (e := 1) (by omega) (by omega) (p := (crsI s.a s.b p : Rat)) (q := 0) (by grind) (by grind)
 rw [Int.mul_one, Int.zero_mul] at h
 rw [h]
end Go.Proofs.Ytagiaiocgjagnaa
