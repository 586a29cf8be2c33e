/- X37 X38: several texts of this proof in one. -/
import Derived.Test.YtagiaiocgjagnaaLX36
import Derived.Test.YtagiaiocgjagnaaLX13
import Derived.Test.YtagiaiocgjagnaaLX15
import Derived.Test.YtagiaiocgjagnaaWT
namespace Go.Proofs.Ytagiaiocgjagnaa
set_option linter.unusedSimpArgs false
set_option linter.unusedVariables false
open Go.RowKit

theorem partsE_ok {s : Sg} {os : List Sg} {ps : List Pt} (hs : OKs s) (ho : ∀ t ∈ os, OKs t) (hp : ∀ p ∈ ps, Good p) : partsE s os ps = 0 := by
  unfold partsE
  have h1 : firstS (s :: os) = 0 := by
    refine firstS_none fun i hi => ?_
    have hm : (s :: os).getD i zSg ∈ s :: os := by
      rw [List.getD_eq_getElem?_getD, List.getElem?_eq_getElem hi]
      exact List.getElem_mem hi
    rcases List.mem_cons.1 hm with h | h
    · rw [h]; exact segE_ok.2 hs
    · exact segE_ok.2 (ho _ h)
  rw [if_pos h1]
  refine firstE_none fun i hi => ?_
  have hm : ps.getD i ⟨0, 0⟩ ∈ ps := by
    rw [List.getD_eq_getElem?_getD, List.getElem?_eq_getElem hi]
    exact List.getElem_mem hi
  exact if_pos (hp _ hm)
/-- What Parts leaves where there is no error. -/
def PartsOk (s : Sg) (os : List Sg) (ps : List Pt) (w : World) (e : Ending) (w' : World) : Prop :=
  ∃ (g c : Nat) (qs : List PV), e = .returned (.tuple #[.slice (some ⟨g, 0, none⟩) (partsQ s os ps).length c, .int .i64 0]) ∧ GAt encPV w' g qs ∧ qs.length = (partsQ s os ps).length ∧ StdQ w' qs (partsQ s os ps) ∧ Ext w w'
theorem Parts_ok (s : Sg) (a1 : Option Addr) (n1 c1 : Nat) (os : List Sg) (a2 : Option Addr) (n2 c2 : Nat) (ps : List Pt) (w : World) (h1 : SgS w a1 n1 c1 os) (h2 : PtS w a2 n2 c2 ps) (hn1 : n1 ≤ 300) (hn2 : n2 ≤ 100) (hok : partsE s os ps = 0) :
    Calls Try.prog 20 #[s.v, .slice a1 n1 c1, .slice a2 n2 c2] w (PartsOk s os ps w) := by
  refine (Parts_c s a1 n1 c1 os a2 n2 c2 ps w h1 h2 hn1 hn2).mono ?_
  rintro e w' ⟨a, n, c, rfl, hx, _, hp⟩
  obtain ⟨rfl, qs, hg, hs⟩ := hp hok
  have h0 : (partsQ s os ps).length ≠ 0 := fun h => by
    have := List.eq_nil_of_length_eq_zero h
    have hm : s.a.q ∈ partsQ s os ps := partsQ_mem.2 (.inl (.inl (.inl rfl)))
    rw [this] at hm; cases hm
  obtain ⟨g, rfl, hgg, _⟩ := hg.at'.resolve_left (fun h => h0 h.2.1)
  exact ⟨g, c, qs, by rw [hok], hgg, hg.len, hs, hx⟩
theorem onR_ok {s : Sg} (hs : OKs s) (p : QP) : onR s p = (onB s p, 0) := by unfold onR; rw [if_pos (segE_ok.2 hs)]
theorem wp_build2P {o : Oper} {a : Act} {w : World} {K : Act → World → Prop} {Q : Exit → Act → World → Prop} (p q : PV) (x y : Operand) (ho : o.op = .buildSlice 51 2 #[(0, x), (1, y)]) (hx : a.eval x = p.v) (hy : a.eval y = q.v)
    (h : K (a.put o.dst (.slice (some ⟨w.heap.size, 0, none⟩) 2 2)) (w.alloc (.cells (p.cs ++ q.cs) 43))) : o.wp Try.prog a w K Q := by
  obtain ⟨i0, hi, hz0, hz1, hz2⟩ := info_parts pInfo
  refine wp_buildSlice 51 43 2 _ ho (p.cs ++ q.cs) i0 _ Try.underlying51 hi hz0 (by rw [hz1]; omega) (by rw [hz1]; omega) ?_ h
  rw [hz1]
  simp only [List.map_toArray, List.map_cons, List.map_nil, hx, hy]
  first
  | kernel_rfl
  | (cases p; cases q; rfl)
theorem wp_build2Pt {o : Oper} {a : Act} {w : World} {K : Act → World → Prop} {Q : Exit → Act → World → Prop} (p q : Pt) (x y : Operand) (ho : o.op = .buildSlice 30 2 #[(0, x), (1, y)]) (hx : a.eval x = p.v) (hy : a.eval y = q.v)
    (h : K (a.put o.dst (.slice (some ⟨w.heap.size, 0, none⟩) 2 2)) (w.alloc (.cells #[.int .i64 p.x, .int .i64 p.y, .int .i64 q.x, .int .i64 q.y] 23))) : o.wp Try.prog a w K Q := by
  obtain ⟨i0, hi, hz0, hz1, hz2⟩ := info_parts ptInfo
  refine wp_buildSlice 30 23 2 _ ho #[.int .i64 p.x, .int .i64 p.y, .int .i64 q.x, .int .i64 q.y] i0 _ Try.underlying30 hi hz0 (by rw [hz1]; decide) (by rw [hz1]; decide) ?_ h
  rw [hz1]
  simp only [List.map_toArray, List.map_cons, List.map_nil, hx, hy]
  first
  | kernel_rfl
  | (cases p; cases q; rfl)
theorem Blk.two {w : World} {b : Nat} {p q : PV} (h : Blk w b (p.cs ++ q.cs) 43) : GAt encPV w b [p, q] := fun i a hi j hj => by
  have hj8 : j < 8 := hj
  match i, hi with
  | 0, hi =>
    simp at hi; subst hi
    rw [Nat.zero_mul, Nat.zero_add, h.cell, Array.getElem?_append_left (by show j < 8; omega)]
    exact Array.getElem?_toList.symm
  | 1, hi =>
    simp at hi; subst hi
    rw [h.cell, Array.getElem?_append_right (by show 8 ≤ 1 * 8 + j; omega), show 1 * encPV.s + j - p.cs.size = j by show 1 * 8 + j - 8 = j; omega]
    exact Array.getElem?_toList.symm
  | i + 2, hi => simp at hi
theorem Blk.sgS1 {w : World} {b : Nat} {s : Sg} (h : Blk w b s.cs 25) : SgS w (some ⟨b, 0, none⟩) 1 1 [s] :=
  ⟨rfl, Nat.le_refl _, by rw [maxLen]; omega, .inr ⟨b, rfl, GRow.gat h.sg1, h.lt⟩⟩
theorem Blk.ptS2 {w : World} {b : Nat} {p q : Pt} (h : Blk w b #[.int .i64 p.x, .int .i64 p.y, .int .i64 q.x, .int .i64 q.y] 23) : PtS w (some ⟨b, 0, none⟩) 2 2 [p, q] :=
  ⟨rfl, Nat.le_refl _, by rw [maxLen]; omega, .inr ⟨b, rfl, GRow.gat (GRow.mk (l := [p, q]) (F := encPt) (cap := 2) (Nat.le_refl _) h (by simp) (by rw [maxLen]; omega) rfl rfl), h.lt⟩⟩
end Go.Proofs.Ytagiaiocgjagnaa
namespace Go.Proofs.Ytagiaiocgjagnaa
set_option linter.unusedSimpArgs false
set_option linter.unusedVariables false
open Go.RowKit

/-- The i-th named point. -/
def namQ (m : Int × QP × QP) (i : Nat) : QP := if i = 0 then m.2.1 else m.2.2
theorem nam_cut {s t : Sg} {i : Nat} (hi : (i : Int) < (meetF s t).1) (h2 : (meetF s t).1 ≤ 2) : CutP s t (namQ (meetF s t) i) := by
  unfold CutP namQ
  by_cases h0 : i = 0
  · rw [if_pos h0]; exact .inl ⟨by omega, rfl⟩
  · rw [if_neg h0]; exact .inr ⟨by omega, rfl⟩
theorem nam_sm {s t : Sg} (hs : OKs s) (ht : OKs t) (i : Nat) : SmP (namQ (meetF s t) i) := by
  have := meetF_sm hs ht
  unfold namQ; split
  · exact this.1
  · exact this.2
theorem parts_sm {s : Sg} {os : List Sg} {ps : List Pt} (hs : OKs s) (ho : ∀ t ∈ os, OKs t) (hp : ∀ p ∈ ps, Good p) {r : QP} (h : r ∈ partsQ s os ps) : SmP r := by
  rcases partsQ_mem.1 h with ((rfl | rfl) | ⟨t, ht, h1⟩) | ⟨p, hpm, _, rfl⟩
  · exact SmP.grid hs.ga
  · exact SmP.grid hs.gb
  · have := meetF_sm hs (ho t ht)
    rcases h1 with ⟨_, rfl⟩ | ⟨_, rfl⟩
    · exact this.1
    · exact this.2
  · exact SmP.grid (hp p hpm)
theorem on_crs {s : Sg} {p : QP} (h : OnQ s.q p) : cmpQ (crs s.a.q s.b.q p) 0 = 0 := cmpQ_zero.2 h.1
theorem common_law {s t : Sg} (hs : OKs s) (ht : OKs t) {r : QP} (hr : OnQ s.q r) : ((meetF s t).1 = 0 → onB t r = false) ∧ ((meetF s t).1 = 1 → onB t r = (cmpP r (meetF s t).2.1 == 0)) := by
  have hm := meetF_meet hs ht
  generalize meetF s t = M at *
  obtain ⟨k, A, T⟩ := M
  simp only at hm ⊢
  rcases hm with ⟨rfl, rfl, rfl, hm⟩ | ⟨rfl, rfl, hm⟩ | ⟨rfl, _⟩
  · refine ⟨fun _ => ?_, fun h => absurd h (by decide)⟩
    cases hb : onB t r with
    | false => rfl
    | true => exact absurd ⟨hr, onB_on.1 hb⟩ (hm r)
  · refine ⟨fun h => absurd h (by decide), fun _ => ?_⟩
    rw [Bool.eq_iff_iff, beq_iff_eq, cmpP_zero, onB_on]
    exact ⟨fun h => (hm r).1 ⟨hr, h⟩, fun h => ((hm r).2 h).2⟩
  · exact ⟨fun h => absurd h (by decide), fun h => absurd h (by decide)⟩
set_option maxRecDepth 100000 in
set_option maxHeartbeats 16000000 in
theorem walkCommon (n m k : Int) (w : World) (hn : Int64 n) (hm : Int64 m) (hk : Int64 k) :
    Calls Try.prog 10 #[.int .i64 n, .int .i64 m, .int .i64 k] w fun e w' => e = .returned (.bool true) ∧ Ext w w' := by
  have HI := Lib.hid (And.intro hn (And.intro hm hk))
  clear hn hm hk
  go_enter Try.func10, Try.ntmps10
  go_wp2_with fail
  refine (rPair_c n m k _ HI.out.1 HI.out.2.1 HI.out.2.2).mono ?_
  rintro e w1 ⟨s, t, rfl, hs, ht, hx1⟩
  have HS := Lib.hid (And.intro (hs.ok (by omega) (by omega)) (ht.ok (by omega) (by omega)))
  have HX1 := Lib.hid hx1
  clear hs ht hx1
  obtain ⟨G, hG⟩ : ∃ G, w1.heap.size = G := ⟨_, rfl⟩
  go_upto_region 2 with fail
  try rw [hG]
  refine wp_gen (fun W => Ext w W ∧ Blk W G s.cs 25 ∧ Blk W (G + 1) t.cs 25) ⟨(HX1.out.alloc _).alloc _, (Blk.at s.cs 25 hG.symm).alloc _, Blk.at t.cs 25 (by simp [hG])⟩ ?_
  clear hG HX1
  rintro W1 ⟨E1, S1, T1⟩
  have H1 := Lib.hid (And.intro E1 (And.intro S1 T1))
  obtain ⟨y0, y1, y2, y3⟩ : W1.cell? ⟨G, 0, none⟩ = some (.int .i64 s.a.x) ∧ W1.cell? ⟨G, 1, none⟩ = some (.int .i64 s.a.y) ∧ W1.cell? ⟨G, 2, none⟩ = some (.int .i64 s.b.x) ∧ W1.cell? ⟨G, 3, none⟩ = some (.int .i64 s.b.y) := ⟨S1.cell 0, S1.cell 1, S1.cell 2, S1.cell 3⟩
  obtain ⟨t0, t1, t2, t3⟩ : W1.cell? ⟨(G + 1), 0, none⟩ = some (.int .i64 t.a.x) ∧ W1.cell? ⟨(G + 1), 1, none⟩ = some (.int .i64 t.a.y) ∧ W1.cell? ⟨(G + 1), 2, none⟩ = some (.int .i64 t.b.x) ∧ W1.cell? ⟨(G + 1), 3, none⟩ = some (.int .i64 t.b.y) := ⟨T1.cell 0, T1.cell 1, T1.cell 2, T1.cell 3⟩
  clear E1 S1 T1
  go_wp2_with fail
  refine (cMeet_c s t _).mono ?_
  rw [meetR_ok HS.out.1 HS.out.2]
  rintro e w2 ⟨c, rfl, hc, hx2⟩
  obtain ⟨J, hJ⟩ : ∃ J, w2.heap.size = J := ⟨_, rfl⟩
  have HC2 := Lib.hid (And.intro (hx2.alloc (.cells c.cs 47)) (And.intro (Blk.at c.cs 47 hJ.symm) (hc.keep ((Ext.refl w2).alloc (.cells c.cs 47)).iu)))
  clear hc hx2 y0 y1 y2 y3 t0 t1 t2 t3
  go_upto_region 3 with fail
  try rw [hJ]
  refine wp_gen (fun W => Ext W1 W ∧ Blk W J c.cs 47 ∧ IsC W c (meetF s t)) HC2.out ?_
  clear HC2 hJ
  rintro V ⟨EV, CV', IV'⟩
  have HV := Lib.hid (And.intro EV (And.intro CV' IV'))
  obtain ⟨D, hD⟩ : ∃ D, V.heap.size = D := ⟨_, rfl⟩
  obtain ⟨V2, hV2⟩ : ∃ V2, V.alloc (.cells t.cs 25) = V2 := ⟨_, rfl⟩
  have E2 : Ext V V2 := by rw [← hV2]; exact (Ext.refl V).alloc _
  have B2 : Blk V2 D t.cs 25 := by rw [← hV2]; exact Blk.at t.cs 25 hD.symm
  obtain ⟨D2, hD2⟩ : ∃ D, V2.heap.size = D := ⟨_, rfl⟩
  obtain ⟨V3, hV3⟩ : ∃ V3, V2.alloc (.cells #[.int .i64 t.a.x, .int .i64 t.a.y, .int .i64 t.b.x, .int .i64 t.b.y] 23) = V3 := ⟨_, rfl⟩
  have E3 : Ext V2 V3 := by rw [← hV3]; exact (Ext.refl V2).alloc _
  have B3 : Blk V3 D2 #[.int .i64 t.a.x, .int .i64 t.a.y, .int .i64 t.b.x, .int .i64 t.b.y] 23 := by rw [← hV3]; exact Blk.at _ 23 hD2.symm
  have HD := Lib.hid (And.intro hD (And.intro hV2 (And.intro hD2 hV3)))
  have H3 := Lib.hid (And.intro (B2.ext E3).sgS1 (And.intro (B3.ptS2 (p := t.a) (q := t.b)) (EV.trans (E2.trans E3))))
  have S2 := H1.out.2.1.ext EV
  have T2 := H1.out.2.2.ext EV
  have T3 := T2.ext E2
  obtain ⟨y0, y1, y2, y3⟩ : V.cell? ⟨G, 0, none⟩ = some (.int .i64 s.a.x) ∧ V.cell? ⟨G, 1, none⟩ = some (.int .i64 s.a.y) ∧ V.cell? ⟨G, 2, none⟩ = some (.int .i64 s.b.x) ∧ V.cell? ⟨G, 3, none⟩ = some (.int .i64 s.b.y) := ⟨S2.cell 0, S2.cell 1, S2.cell 2, S2.cell 3⟩
  obtain ⟨t0, t1, t2, t3⟩ : V.cell? ⟨(G + 1), 0, none⟩ = some (.int .i64 t.a.x) ∧ V.cell? ⟨(G + 1), 1, none⟩ = some (.int .i64 t.a.y) ∧ V.cell? ⟨(G + 1), 2, none⟩ = some (.int .i64 t.b.x) ∧ V.cell? ⟨(G + 1), 3, none⟩ = some (.int .i64 t.b.y) := ⟨T2.cell 0, T2.cell 1, T2.cell 2, T2.cell 3⟩
  obtain ⟨u0, u1, u2, u3⟩ : V2.cell? ⟨(G + 1), 0, none⟩ = some (.int .i64 t.a.x) ∧ V2.cell? ⟨(G + 1), 1, none⟩ = some (.int .i64 t.a.y) ∧ V2.cell? ⟨(G + 1), 2, none⟩ = some (.int .i64 t.b.x) ∧ V2.cell? ⟨(G + 1), 3, none⟩ = some (.int .i64 t.b.y) := ⟨T3.cell 0, T3.cell 1, T3.cell 2, T3.cell 3⟩
  have HE23 := Lib.hid (E2.trans E3)
  clear EV CV' IV' hD hV2 E2 B2 hD2 hV3 E3 B3 S2 T2 T3
  go_wp2_with (first | (refine wpList_plain rfl fun _ hK => wp_buildS t _ rfl rfl (hK _ _ ?_); rw [HD.out.1, HD.out.2.1]) | (refine wpList_plain rfl fun _ hK => wp_build2Pt t.a t.b _ _ rfl rfl rfl (hK _ _ ?_); rw [HD.out.2.2.1, HD.out.2.2.2]))
  have hpe : partsE s [t] [t.a, t.b] = 0 := partsE_ok HS.out.1 (fun x hx => by rw [List.mem_singleton] at hx; rw [hx]; exact HS.out.2) (fun x hx => by
    rcases List.mem_cons.1 hx with h | h
    · rw [h]; exact HS.out.2.ga
    · rw [List.mem_singleton] at h; rw [h]; exact HS.out.2.gb)
  refine (Parts_ok s _ 1 1 [t] _ 2 2 [t.a, t.b] V3 H3.out.1 H3.out.2.1 (by omega) (by omega) hpe).mono ?_
  rintro e w5 ⟨g, cc, qs, rfl, hg, hql, hst, hx5⟩
  obtain ⟨L, hL⟩ : ∃ L, partsQ s [t] [t.a, t.b] = L := ⟨_, rfl⟩
  have hLon : ∀ r ∈ L, OnQ s.q r ∧ SmP r := fun r hr => by
    rw [← hL] at hr
    exact ⟨partsQ_on HS.out.1 (fun x hx => by rw [List.mem_singleton] at hx; rw [hx]; exact HS.out.2) hr, parts_sm HS.out.1 (fun x hx => by rw [List.mem_singleton] at hx; rw [hx]; exact HS.out.2) (fun x hx => by
      rcases List.mem_cons.1 hx with h | h
      · rw [h]; exact HS.out.2.ga
      · rw [List.mem_singleton] at h; rw [h]; exact HS.out.2.gb) hr⟩
  rw [hL] at hql hst ⊢
  obtain ⟨N, hN⟩ : ∃ N, L.length = N := ⟨_, rfl⟩
  rw [hN] at hql ⊢
  have hNs : N ≤ 100 := by
    have := partsQ_len s [t] [t.a, t.b]
    rw [hL, hN] at this
    simp at this
    omega
  have E5 : Ext W1 w5 := H3.out.2.2.trans hx5
  have H5 := Lib.hid (And.intro hg (And.intro hql (And.intro hst (And.intro hLon (And.intro hN E5)))))
  have HB5 := Lib.hid (And.intro (H1.out.2.1.ext E5) (And.intro (H1.out.2.2.ext E5) (HV.out.2.1.ext (HE23.out.trans hx5))))
  have hIC := HV.out.2.2.keep (HE23.out.trans hx5).iu
  have hkind := (meetF_meet HS.out.1 HS.out.2).kind
  clear hg hql hst hLon hN E5 hx5 hL hpe y0 y1 y2 y3 t0 t1 t2 t3 u0 u1 u2 u3
  obtain ⟨M, hM⟩ : ∃ M, meetF s t = M := ⟨_, rfl⟩
  have HM := Lib.hid hM
  rw [hM] at hIC hkind
  clear hM
  obtain ⟨ck, cA, cT⟩ := c
  have hck := hIC.k
  simp only at hck
  obtain ⟨K, rfl⟩ : ∃ K : Nat, ck = (K : Int) := ⟨ck.toNat, by omega⟩
  have hK2 : K ≤ 2 := by omega
  have HK := Lib.hid (And.intro hck hIC)
  clear hck hIC hkind
  have k0 : w5.cell? ⟨J, 0, none⟩ = some (.int .i64 (K : Int)) := HB5.out.2.2.cell 0
  obtain ⟨q0, q1, q2, q3, q4, q5, q6, q7⟩ : w5.cell? ⟨J, 1, none⟩ = some (.bool cA.x.n.neg) ∧ w5.cell? ⟨J, 2, none⟩ = some (.slice cA.x.n.a cA.x.n.n cA.x.n.c) ∧ w5.cell? ⟨J, 3, none⟩ = some (.bool cA.x.d.neg) ∧ w5.cell? ⟨J, 4, none⟩ = some (.slice cA.x.d.a cA.x.d.n cA.x.d.c) ∧ w5.cell? ⟨J, 5, none⟩ = some (.bool cA.y.n.neg) ∧ w5.cell? ⟨J, 6, none⟩ = some (.slice cA.y.n.a cA.y.n.n cA.y.n.c) ∧ w5.cell? ⟨J, 7, none⟩ = some (.bool cA.y.d.neg) ∧ w5.cell? ⟨J, 8, none⟩ = some (.slice cA.y.d.a cA.y.d.n cA.y.d.c) := ⟨HB5.out.2.2.cell 1, HB5.out.2.2.cell 2, HB5.out.2.2.cell 3, HB5.out.2.2.cell 4, HB5.out.2.2.cell 5, HB5.out.2.2.cell 6, HB5.out.2.2.cell 7, HB5.out.2.2.cell 8⟩
  obtain ⟨r0, r1, r2, r3, r4, r5, r6, r7⟩ : w5.cell? ⟨J, 9, none⟩ = some (.bool cT.x.n.neg) ∧ w5.cell? ⟨J, 10, none⟩ = some (.slice cT.x.n.a cT.x.n.n cT.x.n.c) ∧ w5.cell? ⟨J, 11, none⟩ = some (.bool cT.x.d.neg) ∧ w5.cell? ⟨J, 12, none⟩ = some (.slice cT.x.d.a cT.x.d.n cT.x.d.c) ∧ w5.cell? ⟨J, 13, none⟩ = some (.bool cT.y.n.neg) ∧ w5.cell? ⟨J, 14, none⟩ = some (.slice cT.y.n.a cT.y.n.n cT.y.n.c) ∧ w5.cell? ⟨J, 15, none⟩ = some (.bool cT.y.d.neg) ∧ w5.cell? ⟨J, 16, none⟩ = some (.slice cT.y.d.a cT.y.d.n cT.y.d.c) := ⟨HB5.out.2.2.cell 9, HB5.out.2.2.cell 10, HB5.out.2.2.cell 11, HB5.out.2.2.cell 12, HB5.out.2.2.cell 13, HB5.out.2.2.cell 14, HB5.out.2.2.cell 15, HB5.out.2.2.cell 16⟩
  have z0 : ¬ (K : Int) < 0 := by omega
  have z1 : ¬ (2 : Int) < (K : Int) := by omega
  have z0' : decide ((K : Int) < 0) = false := decide_eq_false z0
  have z1' : decide ((2 : Int) < (K : Int)) = false := decide_eq_false z1
  obtain ⟨D5, hD5⟩ : ∃ D, w5.heap.size = D := ⟨_, rfl⟩
  obtain ⟨W6, hW6⟩ : ∃ W, w5.alloc (.cells (cA.cs ++ cT.cs) 43) = W := ⟨_, rfl⟩
  have E6 : Ext w5 W6 := by rw [← hW6]; exact (Ext.refl w5).alloc _
  have B6 : Blk W6 D5 (cA.cs ++ cT.cs) 43 := by rw [← hW6]; exact Blk.at _ 43 hD5.symm
  have HD6 := Lib.hid (And.intro hD5 hW6)
  have H6 := Lib.hid (And.intro E6 B6.two)
  clear hD5 hW6 E6 B6
  go_wp2_with (refine wpList_plain rfl fun _ hK => wp_build2P cA cT _ _ rfl rfl rfl (hK _ _ ?_); rw [HD6.out.1, HD6.out.2])
  clear k0
  go_loopw [14] (fun v ws => ∃ i : Nat, i ≤ K ∧ v = .int .i64 (i : Int) ∧ Ext W6 ws) (fun v _ => K - (intOf v).toNat)
  case atStart => exact ⟨0, by omega, rfl, Ext.refl W6⟩
  case round =>
    obtain ⟨i, hi, rfl, hE⟩ := hrel
    have HW := Lib.hid hE
    have HXW := Lib.hid (H6.out.1.trans hE)
    have k0 : wr.cell? ⟨J, 0, none⟩ = some (.int .i64 (K : Int)) := (HB5.out.2.2.ext HXW.out).cell 0
    by_cases hlt : i < K
    · obtain ⟨f, hf⟩ : ∃ f, [cA, cT][i]? = some f := ⟨_, List.getElem?_eq_getElem (by show i < 2; omega)⟩
      obtain ⟨q, hq⟩ : ∃ q, namQ M i = q := ⟨_, rfl⟩
      have hnc : CutP s t q := by
        rw [← hq, ← HM.out]
        exact nam_cut (by rw [HM.out, ← HK.out.1]; omega) (by rw [HM.out, ← HK.out.1]; omega)
      have hon := cut_on HS.out.1 HS.out.2 hnc
      have hsm : SmP q := by rw [← hq, ← HM.out]; exact nam_sm HS.out.1 HS.out.2 i
      have hfq : IsPQ w5 f q := by
        rw [← hq]
        match i, hf with
        | 0, hf => simp at hf; rw [← hf]; exact HK.out.2.A
        | 1, hf => simp at hf; rw [← hf]; exact HK.out.2.T
        | i + 2, hf => simp at hf
      have HQ := Lib.hid (And.intro (hfq.keep HXW.out.ik) (And.intro hsm (And.intro (on_crs hon.1) (on_crs hon.2))))
      have HR1 := Lib.hid (show onR s q = (true, 0) by rw [onR_ok HS.out.1, onB_on.2 hon.1])
      have HR2 := Lib.hid (show onR t q = (true, 0) by rw [onR_ok HS.out.2, onB_on.2 hon.2])
      have HCs := Lib.hid (fun W (e : Ext wr W) => (show (W.cell? ⟨G, 0, none⟩ = some (.int .i64 s.a.x) ∧ W.cell? ⟨G, 1, none⟩ = some (.int .i64 s.a.y) ∧ W.cell? ⟨G, 2, none⟩ = some (.int .i64 s.b.x) ∧ W.cell? ⟨G, 3, none⟩ = some (.int .i64 s.b.y)) ∧ W.cell? ⟨D5, i * 8, none⟩ = some (.bool f.x.n.neg) ∧ W.cell? ⟨D5, i * 8 + 1, none⟩ = some (.slice f.x.n.a f.x.n.n f.x.n.c) ∧ W.cell? ⟨D5, i * 8 + 2, none⟩ = some (.bool f.x.d.neg) ∧ W.cell? ⟨D5, i * 8 + 3, none⟩ = some (.slice f.x.d.a f.x.d.n f.x.d.c) ∧ W.cell? ⟨D5, i * 8 + 4, none⟩ = some (.bool f.y.n.neg) ∧ W.cell? ⟨D5, i * 8 + 5, none⟩ = some (.slice f.y.n.a f.y.n.n f.y.n.c) ∧ W.cell? ⟨D5, i * 8 + 6, none⟩ = some (.bool f.y.d.neg) ∧ W.cell? ⟨D5, i * 8 + 7, none⟩ = some (.slice f.y.d.a f.y.d.n f.y.d.c) from ⟨⟨((HB5.out.1.ext HXW.out).ext e).cell 0, ((HB5.out.1.ext HXW.out).ext e).cell 1, ((HB5.out.1.ext HXW.out).ext e).cell 2, ((HB5.out.1.ext HXW.out).ext e).cell 3⟩, ((H6.out.2.ext hE).ext e).p8 hf⟩))
      have HCt := Lib.hid (fun W (e : Ext wr W) => (show (W.cell? ⟨(G + 1), 0, none⟩ = some (.int .i64 t.a.x) ∧ W.cell? ⟨(G + 1), 1, none⟩ = some (.int .i64 t.a.y) ∧ W.cell? ⟨(G + 1), 2, none⟩ = some (.int .i64 t.b.x) ∧ W.cell? ⟨(G + 1), 3, none⟩ = some (.int .i64 t.b.y)) ∧ W.cell? ⟨D5, i * 8, none⟩ = some (.bool f.x.n.neg) ∧ W.cell? ⟨D5, i * 8 + 1, none⟩ = some (.slice f.x.n.a f.x.n.n f.x.n.c) ∧ W.cell? ⟨D5, i * 8 + 2, none⟩ = some (.bool f.x.d.neg) ∧ W.cell? ⟨D5, i * 8 + 3, none⟩ = some (.slice f.x.d.a f.x.d.n f.x.d.c) ∧ W.cell? ⟨D5, i * 8 + 4, none⟩ = some (.bool f.y.n.neg) ∧ W.cell? ⟨D5, i * 8 + 5, none⟩ = some (.slice f.y.n.a f.y.n.n f.y.n.c) ∧ W.cell? ⟨D5, i * 8 + 6, none⟩ = some (.bool f.y.d.neg) ∧ W.cell? ⟨D5, i * 8 + 7, none⟩ = some (.slice f.y.d.a f.y.d.n f.y.d.c) from ⟨⟨((HB5.out.2.1.ext HXW.out).ext e).cell 0, ((HB5.out.2.1.ext HXW.out).ext e).cell 1, ((HB5.out.2.1.ext HXW.out).ext e).cell 2, ((HB5.out.2.1.ext HXW.out).ext e).cell 3⟩, ((H6.out.2.ext hE).ext e).p8 hf⟩))
      have l0 : (0 : Int) ≤ (i : Int) := by omega
      have l1 : (i : Int) < 2 := by omega
      have l2 : ¬ (i : Int) < 0 := by omega
      have l3 : (i : Int) < (K : Int) := by omega
      clear hf hq hnc hon hsm hfq hE
      go_upto_region 10 with fail
      refine wp_region_held_drew (S := fun W => Ext wr W) (by kernel_rfl) ((Ext.refl wr).drew) (fun hHeld => ?_)
      refine tkL (i := 0) (H := HCs) (h := ?_)
      refine tkW (i := 1) (h := ?_)
      refine tkW (i := 2) (h := ?_)
      refine tkW (i := 3) (h := ?_)
      refine tkL (i := 4) (H := HCs) (h := ?_)
      refine ckL (i := 5) (h := fun K hK => ?_); go_simp; go_at_call 14; refine (cOn_c s f q _ (HQ.out.1.keep (Ext.ik (by assumption))) HQ.out.2.1.x HQ.out.2.1.y).mono ?_; rw [HR1.out]; rintro e v5 ⟨rfl, hx5⟩; go_wp2_with fail; refine shG hK (h := ?_); clear hK K; intro hHeld
      have HX5 := Lib.hid (show Ext wr v5 by assumption)
      clear hx5
      refine tkW (i := 6) (h := ?_)
      refine tkW (i := 7) (h := ?_)
      refine tkW (i := 8) (h := ?_)
      refine tkW (i := 9) (h := ?_)
      refine tkW (i := 10) (h := ?_)
      refine doneL (by kernel_rfl) ?_
      clear hHeld k0
      go_upto_region 11 with fail
      refine wp_region_held_drew (S := fun W => Ext wr W) (by kernel_rfl) (HX5.out.drew) (fun hHeld => ?_)
      refine tkL (i := 0) (H := HCt) (h := ?_)
      refine tkW (i := 1) (h := ?_)
      refine tkW (i := 2) (h := ?_)
      refine tkW (i := 3) (h := ?_)
      refine tkL (i := 4) (H := HCt) (h := ?_)
      refine ckL (i := 5) (h := fun K hK => ?_); go_simp; go_at_call 14; refine (cOn_c t f q _ (HQ.out.1.keep (Ext.ik (by assumption))) HQ.out.2.1.x HQ.out.2.1.y).mono ?_; rw [HR2.out]; rintro e v6 ⟨rfl, hx6⟩; go_wp2_with fail; refine shG hK (h := ?_); clear hK K; intro hHeld
      have HX6 := Lib.hid (show Ext wr v6 by assumption)
      clear hx6
      refine tkW (i := 6) (h := ?_)
      refine tkW (i := 7) (h := ?_)
      refine tkW (i := 8) (h := ?_)
      refine tkW (i := 9) (h := ?_)
      refine tkW (i := 10) (h := ?_)
      refine doneL (by kernel_rfl) ?_
      clear hHeld
      have HGS := Lib.hid (show (-1073741824 ≤ s.a.x ∧ s.a.x ≤ 1073741824 ∧ -1073741824 ≤ s.a.y ∧ s.a.y ≤ 1073741824) ∧ (-1073741824 ≤ s.b.x ∧ s.b.x ≤ 1073741824 ∧ -1073741824 ≤ s.b.y ∧ s.b.y ≤ 1073741824) from ⟨HS.out.1.ga, HS.out.1.gb⟩)
      have HGT := Lib.hid (show (-1073741824 ≤ t.a.x ∧ t.a.x ≤ 1073741824 ∧ -1073741824 ≤ t.a.y ∧ t.a.y ≤ 1073741824) ∧ (-1073741824 ≤ t.b.x ∧ t.b.x ≤ 1073741824 ∧ -1073741824 ≤ t.b.y ∧ t.b.y ≤ 1073741824) from ⟨HS.out.2.ga, HS.out.2.gb⟩)
      go_upto_region 12 with fail
      refine wp_region_held_drew (S := fun W => Ext wr W) (by kernel_rfl) (HX6.out.drew) (fun hHeld => ?_)
      refine tkW (i := 0) (h := ?_)
      refine tkL (i := 1) (H := HCs) (h := ?_)
      refine tkW (i := 3) (h := ?_)
      refine tkL (i := 4) (H := HCs) (h := ?_)
      refine tkW (i := 6) (h := ?_)
      refine tkW (i := 7) (h := ?_)
      refine tkW (i := 8) (h := ?_)
      refine tkL (i := 9) (H := HCs) (h := ?_)
      refine ckL (i := 2) (h := fun K hK => ?_); go_simp; go_at_call 15; refine (pOf_q s.a _ (by have := (HGS.out.1); omega) (by have := (HGS.out.1); omega) (by have := (HGS.out.1); omega) (by have := (HGS.out.1); omega)).mono ?_; rintro e v7 ⟨f7, rfl, hf7, hx7⟩; go_wp2_with fail; refine shG hK (h := ?_); clear hK K; intro hHeld
      refine ckL (i := 5) (h := fun K hK => ?_); go_simp; go_at_call 15; refine (pOf_q s.b _ (by have := (HGS.out.2); omega) (by have := (HGS.out.2); omega) (by have := (HGS.out.2); omega) (by have := (HGS.out.2); omega)).mono ?_; rintro e v8 ⟨f8, rfl, hf8, hx8⟩; go_wp2_with fail; refine shG hK (h := ?_); clear hK K; intro hHeld
      refine ckL (i := 10) (h := fun K hK => ?_); go_simp; go_at_call 40; refine (side_q f7 f8 f s.a s.b q _ (hf7.keep hx8.ik) hf8 (HQ.out.1.keep (Ext.ik (by assumption))) HS.out.1.ga HS.out.1.gb HQ.out.2.1.x HQ.out.2.1.y).mono ?_; rw [HQ.out.2.2.1]; rintro e v9 ⟨rfl, hx9⟩; go_wp2_with fail; refine shG hK (h := ?_); clear hK K; intro hHeld
      have HX9 := Lib.hid (show Ext wr v9 by assumption)
      clear hf7 hx7 hf8 hx8 hx9
      refine tkW (i := 11) (h := ?_)
      refine tkW (i := 12) (h := ?_)
      refine tkW (i := 13) (h := ?_)
      refine tkW (i := 14) (h := ?_)
      refine tkW (i := 15) (h := ?_)
      refine doneL (by kernel_rfl) ?_
      clear hHeld
      go_upto_region 13 with fail
      refine wp_region_held_drew (S := fun W => Ext wr W) (by kernel_rfl) (HX9.out.drew) (fun hHeld => ?_)
      refine tkW (i := 0) (h := ?_)
      refine tkL (i := 1) (H := HCt) (h := ?_)
      refine tkW (i := 3) (h := ?_)
      refine tkL (i := 4) (H := HCt) (h := ?_)
      refine tkW (i := 6) (h := ?_)
      refine tkW (i := 7) (h := ?_)
      refine tkW (i := 8) (h := ?_)
      refine tkL (i := 9) (H := HCt) (h := ?_)
      refine ckL (i := 2) (h := fun K hK => ?_); go_simp; go_at_call 15; refine (pOf_q t.a _ (by have := (HGT.out.1); omega) (by have := (HGT.out.1); omega) (by have := (HGT.out.1); omega) (by have := (HGT.out.1); omega)).mono ?_; rintro e v7 ⟨f7, rfl, hf7, hx7⟩; go_wp2_with fail; refine shG hK (h := ?_); clear hK K; intro hHeld
      refine ckL (i := 5) (h := fun K hK => ?_); go_simp; go_at_call 15; refine (pOf_q t.b _ (by have := (HGT.out.2); omega) (by have := (HGT.out.2); omega) (by have := (HGT.out.2); omega) (by have := (HGT.out.2); omega)).mono ?_; rintro e v8 ⟨f8, rfl, hf8, hx8⟩; go_wp2_with fail; refine shG hK (h := ?_); clear hK K; intro hHeld
      refine ckL (i := 10) (h := fun K hK => ?_); go_simp; go_at_call 40; refine (side_q f7 f8 f t.a t.b q _ (hf7.keep hx8.ik) hf8 (HQ.out.1.keep (Ext.ik (by assumption))) HS.out.2.ga HS.out.2.gb HQ.out.2.1.x HQ.out.2.1.y).mono ?_; rw [HQ.out.2.2.2]; rintro e v10 ⟨rfl, hx10⟩; go_wp2_with fail; refine shG hK (h := ?_); clear hK K; intro hHeld
      have HX10 := Lib.hid (show Ext wr v10 by assumption)
      clear hf7 hx7 hf8 hx8 hx10
      refine tkW (i := 11) (h := ?_)
      refine tkW (i := 12) (h := ?_)
      refine tkW (i := 13) (h := ?_)
      refine tkW (i := 14) (h := ?_)
      refine tkW (i := 15) (h := ?_)
      refine doneL (by kernel_rfl) ?_
      clear hHeld
      go_wp2_with fail
      go_roundw
      case rel => exact ⟨i + 1, by omega, by go_num, HW.out.trans HX10.out⟩
      case measure => simp [intOf]; omega
    · obtain rfl : i = K := by omega
      have HLW := Lib.hid (And.intro HXW.out (fun (r : QP) (hr : OnQ s.q r) => common_law (s := s) (t := t) HS.out.1 HS.out.2 hr))
      have HKK := Lib.hid (show (i : Int) = M.1 ∧ IsPQ wr cA M.2.1 ∧ IsPQ wr cT M.2.2 from ⟨HK.out.1, HK.out.2.A.keep HXW.out.ik, HK.out.2.T.keep HXW.out.ik⟩)
      have HB7 := Lib.hid (And.intro (HB5.out.2.1.ext HXW.out) (HB5.out.2.2.ext HXW.out))
      have HQ7 := Lib.hid (And.intro (H5.out.1.ext HXW.out) (And.intro H5.out.2.1 (And.intro (H5.out.2.2.1.keep HXW.out.ik) (And.intro H5.out.2.2.2.1 H5.out.2.2.2.2.1))))
      have HEW := Lib.hid (H1.out.1.trans (H5.out.2.2.2.2.2.trans HXW.out))
      have HMT := Lib.hid (show M.1 = 2 → cmpP M.2.1 M.2.2 < 0 from fun h => by
        have hm := meetF_meet HS.out.1 HS.out.2
        rw [HM.out] at hm
        rcases hm with ⟨h1, _⟩ | ⟨h1, _⟩ | ⟨_, h1, _⟩
        · omega
        · omega
        · exact cmpP_lt.2 h1)
      have h3 : (i : Int) = 0 ∨ (i : Int) = 1 ∨ (i : Int) = 2 := by omega
      rw [HM.out] at HLW
      clear z0 z1 z0' z1' hE HK H6 HD6 HB5 H5 HXW hi hlt hK2 HV q0 q1 q2 q3 q4 q5 q6 q7 r0 r1 r2 r3 r4 r5 r6 r7
      generalize (i : Int) = kk at *
      go_wp2_with fail
      go_loopw [23] (fun v ws => ∃ j : Nat, j ≤ N ∧ v = .int .i64 (j : Int) ∧ Ext wr ws) (fun v _ => N - (intOf v).toNat)
      case atStart => exact ⟨0, by omega, rfl, Ext.refl wr⟩
      case round =>
        rename World => wz
        obtain ⟨j, hj, rfl, hE⟩ := hrel
        have HZ := Lib.hid hE
        have k0 : wz.cell? ⟨J, 0, none⟩ = some (.int .i64 kk) := (HB7.out.2.ext hE).cell 0
        by_cases hjl : j < N
        · obtain ⟨f, hf⟩ : ∃ f, qs[j]? = some f := ⟨_, List.getElem?_eq_getElem (by rw [HQ7.out.2.1]; exact hjl)⟩
          obtain ⟨x, hx⟩ : ∃ x, L[j]? = some x := ⟨_, List.getElem?_eq_getElem (by rw [HQ7.out.2.2.2.2]; exact hjl)⟩
          have HX := Lib.hid (And.intro ((HQ7.out.2.2.1 j f x hf hx).keep hE.ik) (HQ7.out.2.2.2.1 x (List.mem_of_getElem? hx)))
          obtain ⟨b, hb⟩ : ∃ b, onB t x = b := ⟨_, rfl⟩
          have HR := Lib.hid (show onR t x = (b, 0) by rw [onR_ok HS.out.2, hb])
          have HLB := Lib.hid (show (M.1 = 0 → b = false) ∧ (M.1 = 1 → b = (cmpP x M.2.1 == 0)) by rw [← hb]; exact HLW.out.2 x HX.out.2.1)
          have HCx := Lib.hid (fun W (e : Ext wz W) => (show (W.cell? ⟨(G + 1), 0, none⟩ = some (.int .i64 t.a.x) ∧ W.cell? ⟨(G + 1), 1, none⟩ = some (.int .i64 t.a.y) ∧ W.cell? ⟨(G + 1), 2, none⟩ = some (.int .i64 t.b.x) ∧ W.cell? ⟨(G + 1), 3, none⟩ = some (.int .i64 t.b.y)) ∧ W.cell? ⟨g, j * 8, none⟩ = some (.bool f.x.n.neg) ∧ W.cell? ⟨g, j * 8 + 1, none⟩ = some (.slice f.x.n.a f.x.n.n f.x.n.c) ∧ W.cell? ⟨g, j * 8 + 2, none⟩ = some (.bool f.x.d.neg) ∧ W.cell? ⟨g, j * 8 + 3, none⟩ = some (.slice f.x.d.a f.x.d.n f.x.d.c) ∧ W.cell? ⟨g, j * 8 + 4, none⟩ = some (.bool f.y.n.neg) ∧ W.cell? ⟨g, j * 8 + 5, none⟩ = some (.slice f.y.n.a f.y.n.n f.y.n.c) ∧ W.cell? ⟨g, j * 8 + 6, none⟩ = some (.bool f.y.d.neg) ∧ W.cell? ⟨g, j * 8 + 7, none⟩ = some (.slice f.y.d.a f.y.d.n f.y.d.c) from ⟨⟨((HB7.out.1.ext hE).ext e).cell 0, ((HB7.out.1.ext hE).ext e).cell 1, ((HB7.out.1.ext hE).ext e).cell 2, ((HB7.out.1.ext hE).ext e).cell 3⟩, ((HQ7.out.1.ext hE).ext e).p8 hf⟩))
          have HCk := Lib.hid (fun W (e : Ext wz W) => (show W.cell? ⟨J, 0, none⟩ = some (.int .i64 kk) ∧ True from ⟨((HB7.out.2.ext hE).ext e).cell 0, trivial⟩))
          have HCa := Lib.hid (fun W (e : Ext wz W) => (show W.cell? ⟨J, 1, none⟩ = some (.bool cA.x.n.neg) ∧ W.cell? ⟨J, 2, none⟩ = some (.slice cA.x.n.a cA.x.n.n cA.x.n.c) ∧ W.cell? ⟨J, 3, none⟩ = some (.bool cA.x.d.neg) ∧ W.cell? ⟨J, 4, none⟩ = some (.slice cA.x.d.a cA.x.d.n cA.x.d.c) ∧ W.cell? ⟨J, 5, none⟩ = some (.bool cA.y.n.neg) ∧ W.cell? ⟨J, 6, none⟩ = some (.slice cA.y.n.a cA.y.n.n cA.y.n.c) ∧ W.cell? ⟨J, 7, none⟩ = some (.bool cA.y.d.neg) ∧ W.cell? ⟨J, 8, none⟩ = some (.slice cA.y.d.a cA.y.d.n cA.y.d.c) from ⟨((HB7.out.2.ext hE).ext e).cell 1, ((HB7.out.2.ext hE).ext e).cell 2, ((HB7.out.2.ext hE).ext e).cell 3, ((HB7.out.2.ext hE).ext e).cell 4, ((HB7.out.2.ext hE).ext e).cell 5, ((HB7.out.2.ext hE).ext e).cell 6, ((HB7.out.2.ext hE).ext e).cell 7, ((HB7.out.2.ext hE).ext e).cell 8⟩))
          have l0 : (0 : Int) ≤ (j : Int) := by omega
          have l1 : (j : Int) < (N : Int) := by omega
          have l2 : ¬ (j : Int) < 0 := by omega
          clear hf hx hb hE k0
          go_upto_region 19 with fail
          refine wp_region_held_drew (S := fun W => Ext wz W) (by kernel_rfl) ((Ext.refl wz).drew) (fun hHeld => ?_)
          refine tkL (i := 0) (H := HCx) (h := ?_)
          refine tkW (i := 1) (h := ?_)
          refine tkW (i := 2) (h := ?_)
          refine tkW (i := 3) (h := ?_)
          refine tkL (i := 4) (H := HCx) (h := ?_)
          refine ckL (i := 5) (h := fun K hK => ?_); go_simp; go_at_call 14; refine (cOn_c t f x _ (HX.out.1.keep (Ext.ik (by assumption))) HX.out.2.2.x HX.out.2.2.y).mono ?_; rw [HR.out]; rintro e v5 ⟨rfl, hx5⟩; go_wp2_with fail; refine shG hK (h := ?_); clear hK K; intro hHeld
          have HX5 := Lib.hid (show Ext wz v5 by assumption)
          clear hx5
          refine tkW (i := 6) (h := ?_)
          refine tkW (i := 7) (h := ?_)
          refine tkW (i := 8) (h := ?_)
          refine tkW (i := 9) (h := ?_)
          refine tkW (i := 10) (h := ?_)
          refine doneL (by kernel_rfl) ?_
          clear hHeld
          rcases h3 with rfl | rfl | rfl
          · obtain rfl : b = false := HLB.out.1 HKK.out.1.symm
            go_upto_region 20 with fail
            refine wp_region_held_drew (S := fun W => Ext wz W) (by kernel_rfl) (HX5.out.drew) (fun hHeld => ?_)
            refine tkW (i := 0) (h := ?_)
            refine tkW (i := 1) (h := ?_)
            refine tkW (i := 2) (h := ?_)
            refine tkW (i := 3) (h := ?_)
            refine tkL (i := 4) (H := HCk) (h := ?_)
            refine tkW (i := 5) (h := ?_)
            refine tkW (i := 6) (h := ?_)
            refine tkW (i := 7) (h := ?_)
            refine tkW (i := 8) (h := ?_)
            refine tkW (i := 9) (h := ?_)
            refine tkW (i := 10) (h := ?_)
            refine tkW (i := 11) (h := ?_)
            refine tkL (i := 12) (H := HCk) (h := ?_)
            refine tkW (i := 13) (h := ?_)
            refine tkW (i := 14) (h := ?_)
            refine tkN (i := 15) (h := ?_)
            refine tkN (i := 16) (h := ?_)
            refine tkN (i := 17) (h := ?_)
            refine tkN (i := 18) (h := ?_)
            refine tkN (i := 19) (h := ?_)
            refine tkN (i := 20) (h := ?_)
            refine tkN (i := 21) (h := ?_)
            refine tkN (i := 22) (h := ?_)
            refine tkN (i := 23) (h := ?_)
            refine tkN (i := 24) (h := ?_)
            refine tkW (i := 25) (h := ?_)
            refine tkW (i := 26) (h := ?_)
            refine doneL (by kernel_rfl) ?_
            clear hHeld
            go_wp2_with fail
            go_roundw
            case rel => exact ⟨j + 1, by omega, by go_num, HZ.out.trans HX5.out.drew⟩
            case measure => simp [intOf]; omega
          · obtain ⟨z, hz⟩ : ∃ z, cmpP x M.2.1 = z := ⟨_, rfl⟩
            obtain ⟨b0, hb0⟩ : ∃ b0, (z == 0) = b0 := ⟨_, rfl⟩
            have hb := HLB.out.2 HKK.out.1.symm
            rw [hz, hb0] at hb
            subst hb
            have HZ0 := Lib.hid hz
            clear hz
            go_upto_region 20 with fail
            refine wp_region_held_drew (S := fun W => Ext wz W) (by kernel_rfl) (HX5.out.drew) (fun hHeld => ?_)
            refine tkW (i := 0) (h := ?_)
            refine tkW (i := 1) (h := ?_)
            refine tkW (i := 2) (h := ?_)
            refine tkW (i := 3) (h := ?_)
            refine tkL (i := 4) (H := HCk) (h := ?_)
            refine tkW (i := 5) (h := ?_)
            refine tkW (i := 6) (h := ?_)
            refine tkN (i := 7) (h := ?_)
            refine tkW (i := 8) (h := ?_)
            refine tkW (i := 9) (h := ?_)
            refine tkW (i := 10) (h := ?_)
            refine tkW (i := 11) (h := ?_)
            refine tkL (i := 12) (H := HCk) (h := ?_)
            refine tkW (i := 13) (h := ?_)
            refine tkW (i := 14) (h := ?_)
            refine tkW (i := 15) (h := ?_)
            refine tkW (i := 16) (h := ?_)
            refine tkW (i := 17) (h := ?_)
            refine tkW (i := 18) (h := ?_)
            refine tkL (i := 19) (H := HCx) (h := ?_)
            refine tkW (i := 20) (h := ?_)
            refine tkL (i := 21) (H := HCa) (h := ?_)
            refine ckL (i := 22) (h := fun K hK => ?_); go_simp; go_at_call 24; refine (pCompare_c f cA x M.2.1 _ (HX.out.1.keep (Ext.ik (by assumption))) (HKK.out.2.1.keep (HZ.out.trans (by assumption)).ik)).mono ?_; rw [HZ0.out]; rintro e v6 ⟨rfl, hx6⟩; go_wp2_with fail; refine shG hK (h := ?_); clear hK K; intro hHeld
            have HX6 := Lib.hid (show Ext wz v6 by assumption)
            clear hx6
            cases b
            all_goals
              refine tkW (i := 23) (h := ?_)
              refine tkW (i := 24) (h := ?_)
              refine tkW (i := 25) (h := ?_)
              refine tkW (i := 26) (h := ?_)
              refine doneL (by kernel_rfl) ?_
              clear hHeld
              go_wp2_with fail
              go_roundw
              case rel => exact ⟨j + 1, by omega, by go_num, HZ.out.trans HX6.out⟩
              case measure => simp [intOf]; omega
          · go_upto_region 20 with fail
            refine wp_region_held_drew (S := fun W => Ext wz W) (by kernel_rfl) (HX5.out.drew) (fun hHeld => ?_)
            refine tkW (i := 0) (h := ?_)
            refine tkW (i := 1) (h := ?_)
            refine tkW (i := 2) (h := ?_)
            refine tkW (i := 3) (h := ?_)
            refine tkL (i := 4) (H := HCk) (h := ?_)
            refine tkW (i := 5) (h := ?_)
            refine tkW (i := 6) (h := ?_)
            refine tkN (i := 7) (h := ?_)
            refine tkW (i := 8) (h := ?_)
            refine tkW (i := 9) (h := ?_)
            refine tkW (i := 10) (h := ?_)
            refine tkW (i := 11) (h := ?_)
            refine tkL (i := 12) (H := HCk) (h := ?_)
            refine tkW (i := 13) (h := ?_)
            refine tkW (i := 14) (h := ?_)
            refine tkN (i := 15) (h := ?_)
            refine tkN (i := 16) (h := ?_)
            refine tkN (i := 17) (h := ?_)
            refine tkN (i := 18) (h := ?_)
            refine tkN (i := 19) (h := ?_)
            refine tkN (i := 20) (h := ?_)
            refine tkN (i := 21) (h := ?_)
            refine tkN (i := 22) (h := ?_)
            refine tkN (i := 23) (h := ?_)
            refine tkN (i := 24) (h := ?_)
            refine tkW (i := 25) (h := ?_)
            refine tkW (i := 26) (h := ?_)
            refine doneL (by kernel_rfl) ?_
            clear hHeld
            go_wp2_with fail
            go_roundw
            case rel => exact ⟨j + 1, by omega, by go_num, HZ.out.trans HX5.out.drew⟩
            case measure => simp [intOf]; omega
        · have hjn : ¬ (j : Int) < (N : Int) := by omega
          rcases h3 with rfl | rfl | rfl
          · clear hE
            go_wp2_with fail
            refine (llives_c _).mono ?_
            rintro e w9 ⟨rfl, hx9⟩
            have HX9 := Lib.hid hx9
            clear hx9
            go_wp2_with fail
            go_ret
            exact ⟨rfl, HEW.out.trans (HZ.out.trans HX9.out)⟩
          · clear hE
            go_wp2_with fail
            refine (llives_c _).mono ?_
            rintro e w9 ⟨rfl, hx9⟩
            have HX9 := Lib.hid hx9
            clear hx9
            go_wp2_with fail
            go_ret
            exact ⟨rfl, HEW.out.trans (HZ.out.trans HX9.out)⟩
          · have BK := HB7.out.2.ext hE
            obtain ⟨q0, q1, q2, q3, q4, q5, q6, q7⟩ : wz.cell? ⟨J, 1, none⟩ = some (.bool cA.x.n.neg) ∧ wz.cell? ⟨J, 2, none⟩ = some (.slice cA.x.n.a cA.x.n.n cA.x.n.c) ∧ wz.cell? ⟨J, 3, none⟩ = some (.bool cA.x.d.neg) ∧ wz.cell? ⟨J, 4, none⟩ = some (.slice cA.x.d.a cA.x.d.n cA.x.d.c) ∧ wz.cell? ⟨J, 5, none⟩ = some (.bool cA.y.n.neg) ∧ wz.cell? ⟨J, 6, none⟩ = some (.slice cA.y.n.a cA.y.n.n cA.y.n.c) ∧ wz.cell? ⟨J, 7, none⟩ = some (.bool cA.y.d.neg) ∧ wz.cell? ⟨J, 8, none⟩ = some (.slice cA.y.d.a cA.y.d.n cA.y.d.c) := ⟨BK.cell 1, BK.cell 2, BK.cell 3, BK.cell 4, BK.cell 5, BK.cell 6, BK.cell 7, BK.cell 8⟩
            obtain ⟨r0, r1, r2, r3, r4, r5, r6, r7⟩ : wz.cell? ⟨J, 9, none⟩ = some (.bool cT.x.n.neg) ∧ wz.cell? ⟨J, 10, none⟩ = some (.slice cT.x.n.a cT.x.n.n cT.x.n.c) ∧ wz.cell? ⟨J, 11, none⟩ = some (.bool cT.x.d.neg) ∧ wz.cell? ⟨J, 12, none⟩ = some (.slice cT.x.d.a cT.x.d.n cT.x.d.c) ∧ wz.cell? ⟨J, 13, none⟩ = some (.bool cT.y.n.neg) ∧ wz.cell? ⟨J, 14, none⟩ = some (.slice cT.y.n.a cT.y.n.n cT.y.n.c) ∧ wz.cell? ⟨J, 15, none⟩ = some (.bool cT.y.d.neg) ∧ wz.cell? ⟨J, 16, none⟩ = some (.slice cT.y.d.a cT.y.d.n cT.y.d.c) := ⟨BK.cell 9, BK.cell 10, BK.cell 11, BK.cell 12, BK.cell 13, BK.cell 14, BK.cell 15, BK.cell 16⟩
            obtain ⟨z, hz⟩ : ∃ z, cmpP M.2.1 M.2.2 = z := ⟨_, rfl⟩
            have hzn : z < 0 := by rw [← hz]; exact HMT.out HKK.out.1.symm
            have hzn' : decide (z < 0) = true := decide_eq_true hzn
            have HZ0 := Lib.hid hz
            clear hz hE BK
            go_wp2_with fail
            refine (pCompare_c cA cT M.2.1 M.2.2 _ (HKK.out.2.1.keep HZ.out.ik) (HKK.out.2.2.keep HZ.out.ik)).mono ?_
            rw [HZ0.out]
            rintro e w8 ⟨rfl, hx8⟩
            have HX8 := Lib.hid hx8
            clear hx8 q0 q1 q2 q3 q4 q5 q6 q7 r0 r1 r2 r3 r4 r5 r6 r7
            go_wp2_with fail
            refine (llives_c _).mono ?_
            rintro e w9 ⟨rfl, hx9⟩
            have HX9 := Lib.hid hx9
            clear hx9
            go_wp2_with fail
            go_ret
            exact ⟨rfl, HEW.out.trans (HZ.out.trans (HX8.out.trans HX9.out))⟩
end Go.Proofs.Ytagiaiocgjagnaa
