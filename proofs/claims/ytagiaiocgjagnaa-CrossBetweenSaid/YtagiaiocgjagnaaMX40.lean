/- X39 X40: several texts of this proof in one. -/
import Derived.Test.YtagiaiocgjagnaaMFXm
import Derived.Test.YtagiaiocgjagnaaMX37
import Derived.Test.YtagiaiocgjagnaaMC09
import Derived.Test.YtagiaiocgjagnaaWT
namespace Go.Proofs.Ytagiaiocgjagnaa
set_option linter.unusedSimpArgs false
set_option linter.unusedVariables false
open Go.RowKit

/-- The numbers of a point are small. -/
def TinyP (q : QP) : Prop := ∃ r : RP, PIn r 4000000 ∧ r.q = q
theorem tiny_parts {s : Sg} {os : List Sg} (hs : SegIn s (-33) 67) (ho : ∀ t ∈ os, SegIn t (-33) 67) {r : QP} (h : r ∈ partsQ s os []) : TinyP r := by
  have hr := rep_parts (s := s) (os := os) (ps := []) hs ho (fun p hp => by cases hp)
  rw [← hr.q, List.mem_map] at h
  obtain ⟨x, hx, rfl⟩ := h
  exact ⟨x, hr.b x hx, rfl⟩
theorem TinyP.num {w : World} {f : FV} {q : Rat} (h : IsQ w f q) {N D : Int} (d1 : 1 ≤ D) (dm : D ≤ 4000000) (n1 : -4000000 ≤ N) (n2 : N ≤ 4000000) (e : q * (D : Rat) = (N : Rat)) : IsR w f N D 129 := by
  have hd : ((D.toNat : Nat) : Rat) = (D : Rat) := by rw [← Rat.intCast_natCast]; congr 1; omega
  obtain ⟨M, E, h1, h2⟩ := h.isR2 (q := q) ⟨N, D.toNat, by omega, by rw [QB_eq]; omega, by rw [QB_eq]; omega, by rw [hd]; exact e⟩
  refine h1.eq ?_ d1
  have hE := h1.pos
  refine icast_eq.1 ?_
  rw [Rat.intCast_mul, Rat.intCast_mul, ← h2, ← e]
  grind
theorem TinyP.sm {q : QP} (h : TinyP q) : SmP q := by
  obtain ⟨r, hr, rfl⟩ := h
  have rx := RP.qx hr.d1; have ry := RP.qy hr.d1
  obtain ⟨r1, r2, r3, r4, r5, r6⟩ := hr
  have hd : ((r.d.toNat : Nat) : Rat) = (r.d : Rat) := by rw [← Rat.intCast_natCast]; congr 1; omega
  exact ⟨⟨r.x, r.d.toNat, by omega, by rw [QB_eq]; omega, by rw [QB_eq]; omega, by rw [hd]; exact rx⟩, ⟨r.y, r.d.toNat, by omega, by rw [QB_eq]; omega, by rw [QB_eq]; omega, by rw [hd]; exact ry⟩⟩
theorem mid_sm {p q : QP} (hp : TinyP p) (hq : TinyP q) : SmP (mdQ p q) := by
  obtain ⟨r, hr, rfl⟩ := hp
  obtain ⟨u, hu, rfl⟩ := hq
  have rx := RP.qx hr.d1; have ry := RP.qy hr.d1
  have ux := RP.qx hu.d1; have uy := RP.qy hu.d1
  obtain ⟨r1, r2, r3, r4, r5, r6⟩ := hr
  obtain ⟨u1, u2, u3, u4, u5, u6⟩ := hu
  have bd : ∀ {x y : Int}, -4000000 ≤ x → x ≤ 4000000 → 1 ≤ y → y ≤ 4000000 → (x * y).natAbs ≤ 16000000000000 := fun h1 h2 h3 h4 => abs_mul_le (m := 4000000) (n := 4000000) (by omega) (by omega)
  have bx := bd r3 r4 u1 u2; have bx' := bd u3 u4 r1 r2
  have b1 := bd r5 r6 u1 u2; have b1' := bd u5 u6 r1 r2
  have bdn := bd (show -4000000 ≤ r.d by omega) r2 u1 u2
  have dp := pos_mul r1 u1
  have hd : (((r.d * u.d * 2).toNat : Nat) : Rat) = (r.d : Rat) * (u.d : Rat) * 2 := by
    rw [← Rat.intCast_natCast, Int.toNat_of_nonneg (by omega), Rat.intCast_mul, Rat.intCast_mul]; rfl
  have h2 : ∀ x : Rat, x / 2 * 2 = x := fun x => Rat.div_mul_cancel (by decide +kernel)
  unfold mdQ
  refine ⟨⟨r.x * u.d + u.x * r.d, (r.d * u.d * 2).toNat, by omega, by rw [QB_eq]; omega, by rw [QB_eq]; omega, ?_⟩, ⟨r.y * u.d + u.y * r.d, (r.d * u.d * 2).toNat, by omega, by rw [QB_eq]; omega, by rw [QB_eq]; omega, ?_⟩⟩
  · have h := h2 (r.q.x + u.q.x)
    simp only
    rw [hd, Rat.intCast_add, Rat.intCast_mul, Rat.intCast_mul, ← rx, ← ux]
    generalize (r.q.x + u.q.x) / 2 = z at *
    grind
  · have h := h2 (r.q.y + u.q.y)
    simp only
    rw [hd, Rat.intCast_add, Rat.intCast_mul, Rat.intCast_mul, ← ry, ← uy]
    generalize (r.q.y + u.q.y) / 2 = z at *
    grind
theorem mid_q (a b : PV) (p q : QP) (w : World) (ha : IsPQ w a p) (hb : IsPQ w b q) (hp : TinyP p) (hq : TinyP q) :
    Calls Try.prog 23 #[a.v, b.v] w fun e w' => ∃ c : PV, e = .returned (.tuple #[c.v, .int .i64 0]) ∧ IsPQ w' c (mdQ p q) ∧ Ext w w' := by
  obtain ⟨r, hr, rfl⟩ := hp
  obtain ⟨u, hu, rfl⟩ := hq
  have rx := RP.qx hr.d1; have ry := RP.qy hr.d1
  have ux := RP.qx hu.d1; have uy := RP.qy hu.d1
  have h2 : ∀ x : Rat, x / 2 * 2 = x := fun x => Rat.div_mul_cancel (by decide +kernel)
  have hA : IsPt w a r.x r.d r.y r.d 129 := ⟨TinyP.num ha.x hr.d1 hr.dm hr.x1 hr.x2 rx, TinyP.num ha.y hr.d1 hr.dm hr.y1 hr.y2 ry⟩
  have hB : IsPt w b u.x u.d u.y u.d 129 := ⟨TinyP.num hb.x hu.d1 hu.dm hu.x1 hu.x2 ux, TinyP.num hb.y hu.d1 hu.dm hu.y1 hu.y2 uy⟩
  refine (Mid_c a b r.x r.d r.y r.d u.x u.d u.y u.d 129 w hA hB (by omega) (by omega)).mono ?_
  rintro e w' ⟨c, rfl, hc, hx⟩
  refine ⟨c, rfl, ⟨hc.fx.isQ ?_, hc.fy.isQ ?_⟩, hx⟩
  · have h := h2 (r.q.x + u.q.x)
    simp only [mdQ]
    rw [Rat.intCast_mul, Rat.intCast_mul, Rat.intCast_mul, Rat.intCast_mul, Rat.intCast_add, Rat.intCast_mul, Rat.intCast_mul, ← rx, ← ux]
    generalize (r.q.x + u.q.x) / 2 = z at *
    simp only [Rat.intCast_ofNat]
    grind
  · have h := h2 (r.q.y + u.q.y)
    simp only [mdQ]
    rw [Rat.intCast_mul, Rat.intCast_mul, Rat.intCast_mul, Rat.intCast_mul, Rat.intCast_add, Rat.intCast_mul, Rat.intCast_mul, ← ry, ← uy]
    generalize (r.q.y + u.q.y) / 2 = z at *
    simp only [Rat.intCast_ofNat]
    grind
end Go.Proofs.Ytagiaiocgjagnaa
namespace Go.Proofs.Ytagiaiocgjagnaa
set_option linter.unusedSimpArgs false
set_option linter.unusedVariables false
open Go.RowKit

/-- Appending a slice: other blocks stay. -/
theorem app_gen2 {α : Type} {F : Enc α} {T S : TypeId} {z : Value} {bytes : Nat} (hu : Try.prog.underlying S = some (.slice T)) (hinf : (Try.prog.info? T).map (fun i => (i.zero, i.size, i.bytes)) = some (some z, F.s, bytes)) (hzs : z.cells.size = F.s) (hby : bytes ≤ 1000)
    {w : World} {base : Nat} {v : Value} {l1 l2 : List α} {ad : Addr} {n : Nat} (hb : base ≤ w.heap.size) (h1 : GRow F T w base v l1) (hl : l2.length = n) (hn : 0 < n) (hc : ∀ (j : Nat) (u : Value), (gcells F l2)[j]? = some u → w.cell? (ad.add j) = some u) (hs : l1.length + n ≤ 1000000) (c : Nat) (ty : TypeId) :
    ∃ v' w', (Builtin.append_ #[S, S] ty #[v, .slice (some ad) n c]).run Try.prog w = .ok v' w' ∧ GRow F T w' base v' (l1 ++ l2) ∧ (∀ A, Ext A w → A.heap.size ≤ base → Ext A w') ∧ ∀ k, k < w.heap.size → v.ownBlock ≠ some k → w'.heap[k]? = w.heap[k]? := by
  obtain ⟨i0, hi, hz0, hz1, hz2⟩ := info_parts hinf
  have hbb : (l1.length + n) * bytes ≤ 1000000 * 1000 := Nat.mul_le_mul hs hby
  obtain ⟨g, cap, w', hr, hown, hgrow, hat, hlt⟩ := run_append_lies (P := Try.prog) w S ty base T i0 _ F.s bytes hu hi hz0 hz1 hz2 hzs F.pos v l1.length (gcells F l1) h1 ad n c (gcells F l2) (by rw [gcells_length, hl]) hc (gcells_one _ _) hn (by rw [maxLen]; omega) (by omega) hb _ rfl
  refine ⟨_, w', hr, ?_, fun A hA hAb => ?_, fun k hk hne => hgrow.block k hk (fun e => hne e.symm)⟩
  · unfold GRow
    rw [gcells_append, List.length_append, hl]
    exact hown
  · exact gext_grown hA hgrow fun g' hg' => Nat.le_trans hAb (gowns_lt h1 hg').1
theorem wp_build2S {o : Oper} {a : Act} {w : World} {K : Act → World → Prop} {Q : Exit → Act → World → Prop} (p q : Sg) (x y : Operand) (ho : o.op = .buildSlice 29 2 #[(0, x), (1, y)]) (hx : a.eval x = p.v) (hy : a.eval y = q.v)
    (h : K (a.put o.dst (.slice (some ⟨w.heap.size, 0, none⟩) 2 2)) (w.alloc (.cells (p.cs ++ q.cs) 25))) : o.wp Try.prog a w K Q := by
  obtain ⟨i0, hi, hz0, hz1, hz2⟩ := info_parts sgInfo
  refine wp_buildSlice 29 25 2 _ ho (p.cs ++ q.cs) i0 _ Try.underlying29 hi hz0 (by rw [hz1]; decide) (by rw [hz1]; decide) ?_ h
  rw [hz1]
  simp only [List.map_toArray, List.map_cons, List.map_nil, hx, hy]
  first
  | kernel_rfl
  | (cases p; cases q; rfl)
theorem Blk.two4 {w : World} {b : Nat} {p q : Sg} (h : Blk w b (p.cs ++ q.cs) 25) : GAt encSg w b [p, q] := fun i a hi j hj => by
  have hj8 : j < 4 := hj
  match i, hi with
  | 0, hi =>
    simp at hi; subst hi
    rw [Nat.zero_mul, Nat.zero_add, h.cell, Array.getElem?_append_left (by show j < 4; omega)]
    exact Array.getElem?_toList.symm
  | 1, hi =>
    simp at hi; subst hi
    rw [h.cell, Array.getElem?_append_right (by show 4 ≤ 1 * 4 + j; omega), show 1 * encSg.s + j - p.cs.size = j by show 1 * 4 + j - 4 = j; omega]
    exact Array.getElem?_toList.symm
  | i + 2, hi => simp at hi
theorem pt_nu {w : World} {b : Nat} {t : TypeId} {d : PV} (h : Blk w b d.cs t) : NU w b := NU.block h (fun u hu m => by
  intro e
  subst e
  simp at hu)
theorem row_pt {w0 w : World} {b : Nat} {t : TypeId} {d : PV} (hE : Ext w0 w) (h : Blk w b d.cs t) (hb : w0.heap.size ≤ b) (c : PV) : Blk (w.setRow b c.cs) b c.cs t ∧ IU w (w.setRow b c.cs) ∧ Ext w0 (w.setRow b c.cs) := ⟨Blk.setRow h, IU.setRow (pt_nu h), Ext.setRow hE hb⟩
set_option maxRecDepth 100000 in
set_option maxHeartbeats 16000000 in
theorem walkCBetween (n m : Int) (a0 : Option Addr) (n0 c0 : Nat) (zs : List Int) (w : World) (hn : Int64 n) (hm : Int64 m) (h0 : Ints w a0 n0 zs) :
    Calls Try.prog 4 #[.int .i64 n, .int .i64 m, .slice a0 n0 c0] w fun e w' => e = .returned (.bool true) ∧ Ext w w' := by
  have HI := Lib.hid (And.intro hn (And.intro hm h0))
  have hn0 := h0.2.1
  clear hn hm h0
  go_enter Try.func4, Try.ntmps4
  go_wp2_with fail
  refine (rSeg_c n m _ HI.out.1 HI.out.2.1).mono ?_
  rintro e w1 ⟨s, rfl, hs, hx1⟩
  have HS := Lib.hid (hs.mono (lo' := -33) (hi' := 67) (by omega) (by omega))
  have HX1 := Lib.hid hx1
  clear hs hx1
  obtain ⟨G, hG⟩ : ∃ G, w1.heap.size = G := ⟨_, rfl⟩
  go_upto_region 4 with fail
  try rw [hG]
  refine wp_gen (fun W => Ext w W ∧ Blk W G s.cs 25) ⟨HX1.out.alloc _, Blk.at s.cs 25 hG.symm⟩ ?_
  clear hG HX1
  rintro V ⟨EV, SV⟩
  have HV := Lib.hid (And.intro EV SV)
  clear EV SV
  go_loopw [8, 9] (fun ov iv ws => ∃ (i : Nat) (os : List Sg), i ≤ 13 ∧ iv = .int .i64 (i : Int) ∧ os.length = i ∧ GRow encSg 25 ws V.heap.size ov os ∧ Hid (∀ t ∈ os, SegIn t (-33) 67) ∧ Ext V ws) (fun _ iv _ => 14 - (intOf iv).toNat)
  case atStart => exact ⟨0, [], by omega, rfl, rfl, GRow.nil _ _ _ _, Lib.hid (fun t h => by cases h), Ext.refl V⟩
  case round =>
    obtain ⟨i, os, hi, rfl, hol, hr, HOS, hE⟩ := hrel
    have HR := Lib.hid (And.intro hr (And.intro hE hol))
    have w1 : IntKind.i64.wrap ((i : Int) + 1) = (i : Int) + 1 := IntWalk.i64_in _ (by omega)
    by_cases hlt : i + 1 < n0 ∧ i < 12
    · obtain ⟨hl1, hl2⟩ := hlt
      have l1 : (i : Int) + 1 < (n0 : Int) := by omega
      have l2 : (i : Int) < 12 := by omega
      have l3 : (0 : Int) ≤ (i : Int) := by omega
      have l4 : (i : Int) < (n0 : Int) := by omega
      have l5 : (0 : Int) ≤ (i : Int) + 1 := by omega
      have l6 : ((i : Int) + 1).toNat = i + 1 := by omega
      obtain ⟨b, off, rfl, hb, hc1⟩ := HI.out.2.2.at i (by omega)
      obtain ⟨b', off', hbb, _, hc2⟩ := HI.out.2.2.at (i + 1) (by omega)
      injection hbb with hbb; injection hbb with hb1 hb2
      subst hb1; subst hb2
      have hz1 := HI.out.2.2.2.2.1 i (by omega)
      have hz2 := HI.out.2.2.2.2.1 (i + 1) (by omega)
      obtain ⟨z1, hz1'⟩ : ∃ z, zs.getD i 0 = z := ⟨_, rfl⟩
      obtain ⟨z2, hz2'⟩ : ∃ z, zs.getD (i + 1) 0 = z := ⟨_, rfl⟩
      rw [hz1'] at hc1 hz1
      rw [hz2'] at hc2 hz2
      have HZZ := Lib.hid (And.intro hz1 (And.intro hz2 (And.intro hc1 hc2)))
      have c1 : wr.cell? ⟨b, off + i, none⟩ = some (.int .i64 z1) := (HV.out.1.trans hE).cell hc1
      clear hr hE hol hz1 hz2 hc1 hc2 hz1' hz2'
      go_wp2_with fail
      refine (rPair_c n m z1 _ HI.out.1 HI.out.2.1 HZZ.out.1).mono ?_
      rintro e w5 ⟨s', t, rfl, -, ht, hx5⟩
      obtain ⟨Bt, hBt⟩ : ∃ Bt, w5.heap.size = Bt := ⟨_, rfl⟩
      have HT := Lib.hid ht
      have HX5 := Lib.hid hx5
      clear ht hx5 c1
      go_upto_region 7 with fail
      try rw [hBt]
      refine wp_gen (fun W => Ext wr W ∧ Blk W (Bt + 1) t.cs 25) ⟨(HX5.out.alloc _).alloc _, Blk.at t.cs 25 (by simp [hBt])⟩ ?_
      rintro W6 ⟨E6, B6⟩
      have HE6 := Lib.hid (And.intro E6 (And.intro (HR.out.2.1.trans E6) (HR.out.1.ext E6)))
      have HBT := Lib.hid (show u8.ownBlock ≠ some (Bt + 1) from fun he => by
        have h1 := (gowns_lt HR.out.1 he).2
        have h2 := HX5.out.size
        omega)
      have HL := Lib.hid (fun W (e : Ext V W ∧ Blk W (Bt + 1) t.cs 25) => (show W.cell? ⟨b, off + i, none⟩ = some (.int .i64 z1) ∧ W.cell? ⟨b, off + (i + 1), none⟩ = some (.int .i64 z2) from ⟨(HV.out.1.trans e.1).cell HZZ.out.2.2.1, (HV.out.1.trans e.1).cell HZZ.out.2.2.2⟩))
      have HTC := Lib.hid (fun W (e : Ext V W ∧ Blk W (Bt + 1) t.cs 25) => (show W.cell? ⟨(Bt + 1), 0, none⟩ = some (.int .i64 t.a.x) ∧ W.cell? ⟨(Bt + 1), 1, none⟩ = some (.int .i64 t.a.y) ∧ W.cell? ⟨(Bt + 1), 2, none⟩ = some (.int .i64 t.b.x) ∧ W.cell? ⟨(Bt + 1), 3, none⟩ = some (.int .i64 t.b.y) from ⟨e.2.cell 0, e.2.cell 1, e.2.cell 2, e.2.cell 3⟩))
      refine wp_region_held_drew (S := fun W => Ext V W ∧ Blk W (Bt + 1) t.cs 25) (by kernel_rfl) ⟨HE6.out.2.1.drew, B6.drew⟩ (fun hHeld => ?_)
      clear E6 B6 hBt
      refine tkW (i := 0) (h := ?_)
      refine tkL (i := 1) (H := HTC) (h := ?_)
      refine tkW (i := 2) (h := ?_)
      refine tkW (i := 3) (h := ?_)
      refine tkW (i := 4) (h := ?_)
      refine tkL (i := 5) (H := HL) (h := ?_)
      refine tkW (i := 6) (h := ?_)
      refine tkW (i := 7) (h := ?_)
      refine tkW (i := 8) (h := ?_)
      refine tkW (i := 9) (h := ?_)
      refine tkL (i := 10) (H := HL) (h := ?_)
      refine ckL (i := 11) (h := fun K hK => ?_)
      go_simp
      go_at_call 22
      refine (rSeg_c z1 z2 _ HZZ.out.1 HZZ.out.2.1).mono ?_
      rintro e v5 ⟨u, rfl, hu, hx5⟩
      go_wp2_with fail
      have HU := Lib.hid (And.intro hu ((Ext.refl W6).drew.trans hx5))
      refine hK.out _ _ ⟨hHeld.1.trans hx5, hHeld.2.ext hx5⟩ ?_
      clear hK K hu hx5
      intro hHeld
      (try simp only [Act.put, List.setIfInBounds_toArray, List.set_cons_zero, List.set_cons_succ])
      refine ckL (i := 12) (h := fun K hK => ?_)
      rw [if_pos (show Region.wanted _ _ = true by rfl)]
      refine wp_build2S t u _ _ rfl rfl rfl ?_
      obtain ⟨b2, hb2⟩ : ∃ b, v5.heap.size = b := ⟨_, rfl⟩
      have HB2 := Lib.hid (Blk.at (t.cs ++ u.cs) 25 hb2.symm)
      have HY2 := Lib.hid ((Ext.refl v5).alloc (.cells (t.cs ++ u.cs) 25))
      rw [hb2]
      clear hb2
      generalize v5.alloc (.cells (t.cs ++ u.cs) 25) = v6 at *
      refine hK.out _ _ ⟨hHeld.1.trans HY2.out, hHeld.2.ext HY2.out⟩ ?_
      clear hK K
      intro hHeld
      (try simp only [Act.put, List.setIfInBounds_toArray, List.set_cons_zero, List.set_cons_succ])
      have HG6 := Lib.hid (HE6.out.2.2.ext (HU.out.2.trans HY2.out))
      obtain ⟨v8, w8, hr8, hg8, hx8, ho8⟩ := app_gen2 (S := 29) Try.underlying29 sgInfo rfl (by decide) (show V.heap.size ≤ v6.heap.size from hHeld.1.size) HG6.out (show [t, u].length = 2 from rfl) (by omega) (gnews_at HB2.out.two4) (by have := HR.out.2.2; omega) 2 29
      refine ckL (i := 13) (h := fun K hK => ?_)
      rw [if_pos (show Region.wanted _ _ = true by rfl)]
      refine wp_append_runZ _ _ _ _ u8 (.slice (some ⟨b2, 0, none⟩) 2 2) v8 rfl rfl rfl hr8 ?_
      have E8 : Ext V w8 := hx8 V hHeld.1 (Nat.le_refl _)
      have HG8 := Lib.hid (And.intro hg8 E8)
      have B8 : Blk w8 (Bt + 1) t.cs 25 := (ho8 _ hHeld.2.lt HBT.out).trans hHeld.2
      clear hx8 ho8 hr8 hg8
      refine hK.out _ _ ⟨E8, B8⟩ ?_
      clear hK K hHeld E8 B8
      intro hHeld
      (try simp only [Act.put, List.setIfInBounds_toArray, List.set_cons_zero, List.set_cons_succ])
      refine tkW (i := 14) (h := ?_)
      refine doneL (by kernel_rfl) ?_
      clear hHeld
      go_wp2_with fail
      go_roundw
      case rel =>
        refine ⟨i + 2, os ++ [t, u], by omega, by go_num, by have := HR.out.2.2; simp; omega, HG8.out.1, Lib.hid (fun x hx => ?_), HG8.out.2⟩
        rcases List.mem_append.1 hx with h | h
        · exact HOS.out x h
        · rcases List.mem_cons.1 h with h | h
          · rw [h]; exact HT.out
          · rw [List.mem_singleton] at h; rw [h]; exact HU.out.1.mono (by omega) (by omega)
      case measure => simp [intOf]; omega
    · have hex : ¬ (i : Int) + 1 < (n0 : Int) ∨ ((i : Int) + 1 < (n0 : Int) ∧ ¬ (i : Int) < 12) := by omega
      obtain ⟨a1, c1, rfl, hgs⟩ := hr.gsl
      have HOK := Lib.hid (And.intro (HS.out.ok (by omega) (by omega)) (fun t (ht : t ∈ os) => (HOS.out t ht).ok (by omega) (by omega)))
      have hpe : partsE s os [] = 0 := partsE_ok HOK.out.1 HOK.out.2 (fun p hp => by cases hp)
      obtain ⟨L, hL⟩ : ∃ L, partsQ s os [] = L := ⟨_, rfl⟩
      obtain ⟨N, hN⟩ : ∃ N, L.length = N := ⟨_, rfl⟩
      have HLW := Lib.hid (show (∀ r ∈ L, TinyP r) ∧ (∀ (j : Nat) (p q : QP), L[j]? = some p → L[j + 1]? = some q → ∀ t ∈ os, onB t (mdQ p q) = (onB t p && onB t q)) by
        rw [← hL]
        exact ⟨fun r hr => tiny_parts HS.out HOS.out hr, fun j p q h1 h2 t ht => between_law HOK.out.1 HOK.out.2 h1 h2 ht⟩)
      have hN2 : 2 ≤ N := by rw [← hN, ← hL]; exact parts_two s os [] HOK.out.1
      have hNs : N ≤ 200 := by
        have := partsQ_len s os []
        rw [hL, hN] at this
        simp at this
        omega
      have HGS := Lib.hid hgs
      have HPE := Lib.hid (And.intro hpe (And.intro hL hN))
      obtain ⟨M, hM⟩ : ∃ M, os.length = M := ⟨_, rfl⟩
      have HOL := Lib.hid hM
      rw [hM] at HGS hr hgs hol ⊢
      have hM20 : M ≤ 20 := by omega
      have S0 := HV.out.2.ext hE
      obtain ⟨y0, y1, y2, y3⟩ : wr.cell? ⟨G, 0, none⟩ = some (.int .i64 s.a.x) ∧ wr.cell? ⟨G, 1, none⟩ = some (.int .i64 s.a.y) ∧ wr.cell? ⟨G, 2, none⟩ = some (.int .i64 s.b.x) ∧ wr.cell? ⟨G, 3, none⟩ = some (.int .i64 s.b.y) := ⟨S0.cell 0, S0.cell 1, S0.cell 2, S0.cell 3⟩
      have HEV := Lib.hid (HV.out.1.trans hE)
      have nn1 : ¬ (N : Int) < 2 := by omega
      have nn2 : decide ((N : Int) < 2) = false := decide_eq_false nn1
      clear hr hgs hol hL hN hpe S0 hE HR hM
      rcases hex with hx1 | ⟨hx1, hx2⟩
      all_goals
        go_wp2_with fail
        refine (Parts_ok s a1 M c1 os none 0 0 [] wr HGS.out (GSl.nil _ _) (by omega) (by omega) HPE.out.1).mono ?_
        rintro e w5 ⟨g, cc, qs, rfl, hg, hql, hst, hx5⟩
        rw [HPE.out.2.1] at hql hst ⊢
        rw [HPE.out.2.2] at hql ⊢
        have H5 := Lib.hid (And.intro hg (And.intro hql (And.intro hst hx5)))
        clear hg hql hst hx5 y0 y1 y2 y3
        go_wp2_with fail
        go_loopw [14] (fun v ws => ∃ i : Nat, 1 ≤ i ∧ i ≤ N ∧ v = .int .i64 (i : Int) ∧ Ext w5 ws) (fun v _ => N - (intOf v).toNat)
        case atStart => exact ⟨1, by omega, by omega, rfl, Ext.refl w5⟩
        case round =>
          rename World => wy
          rename_i hrel
          obtain ⟨i2, hi1, hi2, rfl, hE⟩ := hrel
          have HY := Lib.hid hE
          by_cases hlt2 : i2 < N
          · obtain ⟨j, rfl⟩ : ∃ j, i2 = j + 1 := ⟨i2 - 1, by omega⟩
            obtain ⟨f0, hf0⟩ : ∃ f, qs[j]? = some f := ⟨_, List.getElem?_eq_getElem (by rw [H5.out.2.1]; omega)⟩
            obtain ⟨f1, hf1⟩ : ∃ f, qs[j + 1]? = some f := ⟨_, List.getElem?_eq_getElem (by rw [H5.out.2.1]; omega)⟩
            obtain ⟨p, hp⟩ : ∃ p, L[j]? = some p := ⟨_, List.getElem?_eq_getElem (by rw [HPE.out.2.2]; omega)⟩
            obtain ⟨q, hq⟩ : ∃ q, L[j + 1]? = some q := ⟨_, List.getElem?_eq_getElem (by rw [HPE.out.2.2]; omega)⟩
            have HPQ := Lib.hid (show (IsPQ wy f0 p ∧ IsPQ wy f1 q) ∧ (TinyP p ∧ TinyP q) ∧ (∀ t ∈ os, onB t (mdQ p q) = (onB t p && onB t q)) from
              ⟨⟨(H5.out.2.2.1 j f0 p hf0 hp).keep hE.ik, (H5.out.2.2.1 (j + 1) f1 q hf1 hq).keep hE.ik⟩, ⟨HLW.out.1 p (List.mem_of_getElem? hp), HLW.out.1 q (List.mem_of_getElem? hq)⟩, HLW.out.2 j p q hp hq⟩)
            obtain ⟨i3, hi3⟩ : ∃ i3 : Nat, j + 1 = i3 := ⟨_, rfl⟩
            have HCp := Lib.hid (fun W (e : Ext wy W) => (show (W.cell? ⟨g, j * 8, none⟩ = some (.bool f0.x.n.neg) ∧ W.cell? ⟨g, j * 8 + 1, none⟩ = some (.slice f0.x.n.a f0.x.n.n f0.x.n.c) ∧ W.cell? ⟨g, j * 8 + 2, none⟩ = some (.bool f0.x.d.neg) ∧ W.cell? ⟨g, j * 8 + 3, none⟩ = some (.slice f0.x.d.a f0.x.d.n f0.x.d.c) ∧ W.cell? ⟨g, j * 8 + 4, none⟩ = some (.bool f0.y.n.neg) ∧ W.cell? ⟨g, j * 8 + 5, none⟩ = some (.slice f0.y.n.a f0.y.n.n f0.y.n.c) ∧ W.cell? ⟨g, j * 8 + 6, none⟩ = some (.bool f0.y.d.neg) ∧ W.cell? ⟨g, j * 8 + 7, none⟩ = some (.slice f0.y.d.a f0.y.d.n f0.y.d.c)) ∧ W.cell? ⟨g, i3 * 8, none⟩ = some (.bool f1.x.n.neg) ∧ W.cell? ⟨g, i3 * 8 + 1, none⟩ = some (.slice f1.x.n.a f1.x.n.n f1.x.n.c) ∧ W.cell? ⟨g, i3 * 8 + 2, none⟩ = some (.bool f1.x.d.neg) ∧ W.cell? ⟨g, i3 * 8 + 3, none⟩ = some (.slice f1.x.d.a f1.x.d.n f1.x.d.c) ∧ W.cell? ⟨g, i3 * 8 + 4, none⟩ = some (.bool f1.y.n.neg) ∧ W.cell? ⟨g, i3 * 8 + 5, none⟩ = some (.slice f1.y.n.a f1.y.n.n f1.y.n.c) ∧ W.cell? ⟨g, i3 * 8 + 6, none⟩ = some (.bool f1.y.d.neg) ∧ W.cell? ⟨g, i3 * 8 + 7, none⟩ = some (.slice f1.y.d.a f1.y.d.n f1.y.d.c) from ⟨((H5.out.1.ext hE).ext e).p8 hf0, ((H5.out.1.ext hE).ext e).p8 (by rw [← hi3]; exact hf1)⟩))
            rw [hi3] at hi1 hi2 hlt2 ⊢
            have HI3 := Lib.hid hi3
            have hji : (i3 : Int) - 1 = (j : Int) := by omega
            have k1 : IntKind.i64.wrap ((i3 : Int) - 1) = (j : Int) := by rw [hji]; exact IntWalk.i64_in _ (by omega)
            have k2 : (0 : Int) ≤ (j : Int) := by omega
            have k3 : (j : Int) < (N : Int) := by omega
            have k4 : (0 : Int) ≤ (i3 : Int) := by omega
            have k5 : (i3 : Int) < (N : Int) := by omega
            clear hf0 hf1 hp hq hE hi3 hji
            go_upto_region 14 with fail
            go_cut [15, 16] (fun s15 s16 wx => ∃ (J : Nat) (d : PV), s15 = .pointer (some ⟨J, 0, none⟩) ∧ s16 = .int .i64 0 ∧ Blk wx J d.cs 43 ∧ IsPQ wx d (mdQ p q) ∧ Ext wy wx)
            case first =>
              refine wp_region_held_drew (S := fun W => Ext wy W) (by kernel_rfl) ((Ext.refl wy).drew) (fun hHeld => ?_)
              refine tkW (i := 0) (h := ?_)
              refine tkW (i := 1) (h := ?_)
              refine tkW (i := 2) (h := ?_)
              refine tkW (i := 3) (h := ?_)
              refine tkL (i := 4) (H := HCp) (h := ?_)
              refine tkW (i := 5) (h := ?_)
              refine tkW (i := 6) (h := ?_)
              refine tkW (i := 7) (h := ?_)
              refine tkL (i := 8) (H := HCp) (h := ?_)
              refine cons2L (i := 9) (j := 13) (by kernel_rfl) rfl rfl (fun K hK => ?_) (fun K hK => ?_)
              · go_simp
                go_at_call 23; refine (mid_q f0 f1 p q _ (HPQ.out.1.1.keep (Ext.ik (by assumption))) (HPQ.out.1.2.keep (Ext.ik (by assumption))) HPQ.out.2.1.1 HPQ.out.2.1.2).mono ?_; rintro e w6 ⟨d, rfl, hd, hx6⟩
                have hE6 : Ext wy w6 := hHeld.trans hx6
                go_wp2_with fail
                refine hK.out _ _ hE6 ?_
                clear hK K hHeld
                intro hHeld
                (try simp only [Act.put, List.setIfInBounds_toArray, List.set_cons_zero, List.set_cons_succ])
                refine tkW (i := 10) (h := ?_)
                refine tkW (i := 11) (h := ?_)
                refine tkW (i := 12) (h := ?_)
                obtain ⟨J, hJ⟩ : ∃ J, w6.heap.size = J := ⟨_, rfl⟩
                have HB := Lib.hid (show Blk (w6.alloc (.cells zPV.cs 43)) J zPV.cs 43 from Blk.at zPV.cs 43 hJ.symm)
                have hE7 : Ext wy (w6.alloc (.cells zPV.cs 43)) := hE6.alloc _
                obtain ⟨RB, RI, RX⟩ := row_pt hE7 HB.out (by rw [← hJ]; exact hE6.size) d
                have hd7 := hd.keepU ((((Ext.refl w6).alloc (.cells zPV.cs 43)).iu).trans RI)
                refine ckL (i := 13) (h := fun K hK => ?_)
                go_simp
                refine hK.out _ _ hE7 ?_
                clear hK K hHeld
                intro hHeld
                (try simp only [Act.put, List.setIfInBounds_toArray, List.set_cons_zero, List.set_cons_succ])
                refine ckL (i := 14) (h := fun K hK => ?_)
                rw [if_pos (show Region.wanted _ _ = true by rfl)]
                try rw [hJ]
                refine wp_store_row _ _ _ rfl J d.cs rfl rfl 43 _ HB.out (by kernel_rfl) rfl (all_one _ rfl) ?_
                refine hK.out _ _ RX ?_
                clear hK K hHeld
                intro hHeld
                (try simp only [Act.put, List.setIfInBounds_toArray, List.set_cons_zero, List.set_cons_succ])
                refine tkW (i := 15) (h := ?_)
                refine doneL (by kernel_rfl) ?_
                go_wp2_with fail
                go_meet
                exact ⟨J, d, rfl, rfl, RB, hd7, RX⟩
              · go_simp
                obtain ⟨J, hJ⟩ : ∃ J, wy.heap.size = J := ⟨_, rfl⟩
                have hE5 : Ext wy (wy.drew.alloc (.cells zPV.cs 43)) := (Ext.refl wy).drew.alloc _
                have B0 : Blk (wy.drew.alloc (.cells zPV.cs 43)) J zPV.cs 43 := Blk.at zPV.cs 43 hJ.symm
                refine hK.out _ _ hE5 ?_
                clear hK K hHeld
                intro hHeld
                (try simp only [Act.put, List.setIfInBounds_toArray, List.set_cons_zero, List.set_cons_succ])
                try rw [hJ]
                refine ckL (i := 9) (h := fun K hK => ?_)
                go_simp
                go_at_call 23; refine (mid_q f0 f1 p q _ (HPQ.out.1.1.keep (Ext.ik (by assumption))) (HPQ.out.1.2.keep (Ext.ik (by assumption))) HPQ.out.2.1.1 HPQ.out.2.1.2).mono ?_; rintro e w6 ⟨d, rfl, hd, hx6⟩
                have hE6 : Ext wy w6 := hE5.trans hx6
                have HB := Lib.hid (B0.ext hx6)
                obtain ⟨RB, RI, RX⟩ := row_pt hE6 HB.out (by omega) d
                have hd7 := hd.keepU RI
                go_wp2_with fail
                refine hK.out _ _ hE6 ?_
                clear hK K hHeld
                intro hHeld
                (try simp only [Act.put, List.setIfInBounds_toArray, List.set_cons_zero, List.set_cons_succ])
                refine tkW (i := 10) (h := ?_)
                refine tkW (i := 11) (h := ?_)
                refine tkW (i := 12) (h := ?_)
                refine ckL (i := 14) (h := fun K hK => ?_)
                rw [if_pos (show Region.wanted _ _ = true by rfl)]
                refine wp_store_row _ _ _ rfl J d.cs rfl rfl 43 _ HB.out (by kernel_rfl) rfl (all_one _ rfl) ?_
                refine hK.out _ _ RX ?_
                clear hK K hHeld
                intro hHeld
                (try simp only [Act.put, List.setIfInBounds_toArray, List.set_cons_zero, List.set_cons_succ])
                refine tkW (i := 15) (h := ?_)
                refine doneL (by kernel_rfl) ?_
                go_wp2_with fail
                go_meet
                exact ⟨J, d, rfl, rfl, RB, hd7, RX⟩
            case rest =>
              obtain ⟨J, d, rfl, rfl, hBJ, hdq, hEc⟩ := hcut
              have HD := Lib.hid (And.intro hBJ (And.intro hdq hEc))
              have HSM := Lib.hid (mid_sm HPQ.out.2.1.1 HPQ.out.2.1.2)
              have HSP := Lib.hid (show SmP p ∧ SmP q from ⟨HPQ.out.2.1.1.sm, HPQ.out.2.1.2.sm⟩)
              clear hBJ hdq hEc
              go_wp2_with fail
              go_loopw [17] (fun v ws => ∃ k : Nat, k ≤ M ∧ v = .int .i64 (k : Int) ∧ Ext wc ws) (fun v _ => M - (intOf v).toNat)
              case atStart => exact ⟨0, by omega, rfl, Ext.refl wc⟩
              case round =>
                rename World => wz
                rename_i hrel
                obtain ⟨k, hk, rfl, hE⟩ := hrel
                have HZ := Lib.hid hE
                by_cases hkl : k < M
                · obtain ⟨g1, rfl, hg1, _⟩ := (HGS.out.ext ((H5.out.2.2.2.trans HY.out).trans (HD.out.2.2.trans hE))).at'.resolve_left (fun h => by omega)
                  obtain ⟨t, ht⟩ : ∃ t, os[k]? = some t := ⟨_, List.getElem?_eq_getElem (by rw [HOL.out]; exact hkl)⟩
                  have htm := List.mem_of_getElem? ht
                  have HOT := Lib.hid (HOK.out.2 t htm)
                  obtain ⟨bm, hbm⟩ : ∃ b, onB t (mdQ p q) = b := ⟨_, rfl⟩
                  obtain ⟨bp, hbp⟩ : ∃ b, onB t p = b := ⟨_, rfl⟩
                  obtain ⟨bq, hbq⟩ : ∃ b, onB t q = b := ⟨_, rfl⟩
                  have hbb := HPQ.out.2.2 t htm
                  rw [hbm, hbp, hbq] at hbb
                  have HRM := Lib.hid (show onR t (mdQ p q) = (bm, 0) ∧ onR t p = (bp, 0) ∧ onR t q = (bq, 0) by rw [onR_ok HOT.out, onR_ok HOT.out, onR_ok HOT.out, hbm, hbp, hbq]; exact ⟨rfl, rfl, rfl⟩)
                  have HBB := Lib.hid hbb
                  have HIS := Lib.hid (show IsPQ wz d (mdQ p q) ∧ IsPQ wz f0 p ∧ IsPQ wz f1 q from ⟨HD.out.2.1.keep hE.ik, HPQ.out.1.1.keep (HD.out.2.2.trans hE).ik, HPQ.out.1.2.keep (HD.out.2.2.trans hE).ik⟩)
                  have HC1 := Lib.hid (fun W (e : Ext wz W) => (show (W.cell? ⟨g1, k * 4, none⟩ = some (.int .i64 t.a.x) ∧ W.cell? ⟨g1, k * 4 + 1, none⟩ = some (.int .i64 t.a.y) ∧ W.cell? ⟨g1, k * 4 + 2, none⟩ = some (.int .i64 t.b.x) ∧ W.cell? ⟨g1, k * 4 + 3, none⟩ = some (.int .i64 t.b.y)) ∧ W.cell? ⟨J, 0, none⟩ = some (.bool d.x.n.neg) ∧ W.cell? ⟨J, 1, none⟩ = some (.slice d.x.n.a d.x.n.n d.x.n.c) ∧ W.cell? ⟨J, 2, none⟩ = some (.bool d.x.d.neg) ∧ W.cell? ⟨J, 3, none⟩ = some (.slice d.x.d.a d.x.d.n d.x.d.c) ∧ W.cell? ⟨J, 4, none⟩ = some (.bool d.y.n.neg) ∧ W.cell? ⟨J, 5, none⟩ = some (.slice d.y.n.a d.y.n.n d.y.n.c) ∧ W.cell? ⟨J, 6, none⟩ = some (.bool d.y.d.neg) ∧ W.cell? ⟨J, 7, none⟩ = some (.slice d.y.d.a d.y.d.n d.y.d.c) from ⟨(hg1.ext e).sg4 ht, ((HD.out.1.ext hE).ext e).p8⟩))
                  have HC2 := Lib.hid (fun W (e : Ext wz W) => (show (W.cell? ⟨g1, k * 4, none⟩ = some (.int .i64 t.a.x) ∧ W.cell? ⟨g1, k * 4 + 1, none⟩ = some (.int .i64 t.a.y) ∧ W.cell? ⟨g1, k * 4 + 2, none⟩ = some (.int .i64 t.b.x) ∧ W.cell? ⟨g1, k * 4 + 3, none⟩ = some (.int .i64 t.b.y)) ∧ W.cell? ⟨g, j * 8, none⟩ = some (.bool f0.x.n.neg) ∧ W.cell? ⟨g, j * 8 + 1, none⟩ = some (.slice f0.x.n.a f0.x.n.n f0.x.n.c) ∧ W.cell? ⟨g, j * 8 + 2, none⟩ = some (.bool f0.x.d.neg) ∧ W.cell? ⟨g, j * 8 + 3, none⟩ = some (.slice f0.x.d.a f0.x.d.n f0.x.d.c) ∧ W.cell? ⟨g, j * 8 + 4, none⟩ = some (.bool f0.y.n.neg) ∧ W.cell? ⟨g, j * 8 + 5, none⟩ = some (.slice f0.y.n.a f0.y.n.n f0.y.n.c) ∧ W.cell? ⟨g, j * 8 + 6, none⟩ = some (.bool f0.y.d.neg) ∧ W.cell? ⟨g, j * 8 + 7, none⟩ = some (.slice f0.y.d.a f0.y.d.n f0.y.d.c) from ⟨(hg1.ext e).sg4 ht, (HCp.out W ((HD.out.2.2.trans hE).trans e)).1⟩))
                  have HC3 := Lib.hid (fun W (e : Ext wz W) => (show (W.cell? ⟨g1, k * 4, none⟩ = some (.int .i64 t.a.x) ∧ W.cell? ⟨g1, k * 4 + 1, none⟩ = some (.int .i64 t.a.y) ∧ W.cell? ⟨g1, k * 4 + 2, none⟩ = some (.int .i64 t.b.x) ∧ W.cell? ⟨g1, k * 4 + 3, none⟩ = some (.int .i64 t.b.y)) ∧ W.cell? ⟨g, i3 * 8, none⟩ = some (.bool f1.x.n.neg) ∧ W.cell? ⟨g, i3 * 8 + 1, none⟩ = some (.slice f1.x.n.a f1.x.n.n f1.x.n.c) ∧ W.cell? ⟨g, i3 * 8 + 2, none⟩ = some (.bool f1.x.d.neg) ∧ W.cell? ⟨g, i3 * 8 + 3, none⟩ = some (.slice f1.x.d.a f1.x.d.n f1.x.d.c) ∧ W.cell? ⟨g, i3 * 8 + 4, none⟩ = some (.bool f1.y.n.neg) ∧ W.cell? ⟨g, i3 * 8 + 5, none⟩ = some (.slice f1.y.n.a f1.y.n.n f1.y.n.c) ∧ W.cell? ⟨g, i3 * 8 + 6, none⟩ = some (.bool f1.y.d.neg) ∧ W.cell? ⟨g, i3 * 8 + 7, none⟩ = some (.slice f1.y.d.a f1.y.d.n f1.y.d.c) from ⟨(hg1.ext e).sg4 ht, (HCp.out W ((HD.out.2.2.trans hE).trans e)).2⟩))
                  have q0 : (0 : Int) ≤ (k : Int) := by omega
                  have q1 : (k : Int) < (M : Int) := by omega
                  clear hg1 ht htm hbm hbp hbq hbb hE
                  go_upto_region 20 with fail
                  refine wp_region_held_drew (S := fun W => Ext wz W) (by kernel_rfl) ((Ext.refl wz).drew) (fun hHeld => ?_)
                  refine tkW (i := 0) (h := ?_)
                  refine tkW (i := 1) (h := ?_)
                  refine tkW (i := 2) (h := ?_)
                  refine tkL (i := 3) (H := HC1) (h := ?_)
                  refine tkL (i := 4) (H := HC1) (h := ?_)
                  refine ckL (i := 5) (h := fun K hK => ?_); go_simp; go_at_call 14; refine (cOn_c t d (mdQ p q) _ (HIS.out.1.keep (Ext.ik (by assumption))) HSM.out.x HSM.out.y).mono ?_; rw [HRM.out.1]; rintro e v5 ⟨rfl, hx5⟩; go_wp2_with fail; refine shG hK (h := ?_); clear hK K; intro hHeld
                  have HX5 := Lib.hid (show Ext wz v5 by assumption)
                  clear hx5
                  refine tkW (i := 6) (h := ?_)
                  refine tkW (i := 7) (h := ?_)
                  refine tkW (i := 8) (h := ?_)
                  refine tkW (i := 9) (h := ?_)
                  refine tkW (i := 10) (h := ?_)
                  refine doneL (by kernel_rfl) ?_
                  clear hHeld
                  go_upto_region 21 with fail
                  refine wp_region_held_drew (S := fun W => Ext wz W) (by kernel_rfl) (HX5.out.drew) (fun hHeld => ?_)
                  refine tkW (i := 0) (h := ?_)
                  refine tkW (i := 1) (h := ?_)
                  refine tkW (i := 2) (h := ?_)
                  refine tkL (i := 3) (H := HC2) (h := ?_)
                  refine tkW (i := 4) (h := ?_)
                  refine tkW (i := 5) (h := ?_)
                  refine tkW (i := 6) (h := ?_)
                  refine tkW (i := 7) (h := ?_)
                  refine tkL (i := 8) (H := HC2) (h := ?_)
                  refine ckL (i := 9) (h := fun K hK => ?_); go_simp; go_at_call 14; refine (cOn_c t f0 p _ (HIS.out.2.1.keep (Ext.ik (by assumption))) HSP.out.1.x HSP.out.1.y).mono ?_; rw [HRM.out.2.1]; rintro e v6 ⟨rfl, hx6⟩; go_wp2_with fail; refine shG hK (h := ?_); clear hK K; intro hHeld
                  have HX6 := Lib.hid (show Ext wz v6 by assumption)
                  clear hx6
                  refine tkW (i := 10) (h := ?_)
                  refine tkW (i := 11) (h := ?_)
                  refine tkW (i := 12) (h := ?_)
                  refine tkW (i := 13) (h := ?_)
                  refine tkW (i := 14) (h := ?_)
                  refine doneL (by kernel_rfl) ?_
                  clear hHeld
                  go_upto_region 22 with fail
                  refine wp_region_held_drew (S := fun W => Ext wz W) (by kernel_rfl) (HX6.out.drew) (fun hHeld => ?_)
                  refine tkW (i := 0) (h := ?_)
                  refine tkW (i := 1) (h := ?_)
                  refine tkW (i := 2) (h := ?_)
                  refine tkL (i := 3) (H := HC3) (h := ?_)
                  refine tkW (i := 4) (h := ?_)
                  refine tkW (i := 5) (h := ?_)
                  refine tkW (i := 6) (h := ?_)
                  refine tkL (i := 7) (H := HC3) (h := ?_)
                  refine ckL (i := 8) (h := fun K hK => ?_); go_simp; go_at_call 14; refine (cOn_c t f1 q _ (HIS.out.2.2.keep (Ext.ik (by assumption))) HSP.out.2.x HSP.out.2.y).mono ?_; rw [HRM.out.2.2]; rintro e v7 ⟨rfl, hx7⟩; go_wp2_with fail; refine shG hK (h := ?_); clear hK K; intro hHeld
                  have HX7 := Lib.hid (show Ext wz v7 by assumption)
                  clear hx7
                  refine tkW (i := 9) (h := ?_)
                  refine tkW (i := 10) (h := ?_)
                  refine tkW (i := 11) (h := ?_)
                  refine tkW (i := 12) (h := ?_)
                  refine tkW (i := 13) (h := ?_)
                  refine doneL (by kernel_rfl) ?_
                  clear hHeld
                  have hbb := HBB.out
                  subst hbb
                  clear HRM HBB
                  cases bp <;> cases bq
                  all_goals
                    go_wp2_with fail
                    go_roundw
                    case rel => exact ⟨k + 1, by omega, by go_num, HZ.out.trans HX7.out⟩
                    case measure => simp [intOf]; omega
                · have hkM : ¬ (k : Int) < (M : Int) := by omega
                  have k6 : IntKind.i64.wrap ((i3 : Int) + 1) = (i3 : Int) + 1 := IntWalk.i64_in _ (by omega)
                  clear hE
                  go_wp2_with fail
                  go_roundw
                  case rel => exact ⟨i3 + 1, by omega, by omega, by go_num, HY.out.trans (HD.out.2.2.trans HZ.out)⟩
                  case measure => simp [intOf]; omega
          · have hiN : ¬ (i2 : Int) < (N : Int) := by omega
            clear hE
            go_wp2_with fail
            refine (llives_c _).mono ?_
            rintro e w9 ⟨rfl, hx9⟩
            have HX9 := Lib.hid hx9
            clear hx9
            go_wp2_with fail
            go_ret
            exact ⟨rfl, HEV.out.trans (H5.out.2.2.2.trans (HY.out.trans HX9.out))⟩
end Go.Proofs.Ytagiaiocgjagnaa
