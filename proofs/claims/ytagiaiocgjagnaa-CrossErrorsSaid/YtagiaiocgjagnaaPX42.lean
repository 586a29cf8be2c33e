/- X25 X26 X41 X42: several texts of this proof in one. -/
import Derived.Test.YtagiaiocgjagnaaPX24
import Derived.Test.YtagiaiocgjagnaaPX37
import Derived.Test.YtagiaiocgjagnaaPX19
import Derived.Test.YtagiaiocgjagnaaPX40
namespace Go.Proofs.Ytagiaiocgjagnaa
set_option linter.unusedSimpArgs false
set_option linter.unusedVariables false
open Go.RowKit

abbrev frC (s t : Sg) : Array Value := #[.int .i64 s.a.x, .int .i64 s.a.y, .int .i64 s.b.x, .int .i64 s.b.y, .int .i64 t.a.x, .int .i64 t.a.y, .int .i64 t.b.x, .int .i64 t.b.y]
/-- Two points of a block. -/
def CC2 (W : World) (g k : Nat) (p q : RP) : Prop := (W.cell? ⟨g, 0, none⟩ = some (.int .i64 p.x) ∧ W.cell? ⟨g, 0 + 1, none⟩ = some (.int .i64 p.y) ∧ W.cell? ⟨g, 0 + 2, none⟩ = some (.int .i64 p.d)) ∧ (W.cell? ⟨g, k * 3, none⟩ = some (.int .i64 q.x) ∧ W.cell? ⟨g, k * 3 + 1, none⟩ = some (.int .i64 q.y) ∧ W.cell? ⟨g, k * 3 + 2, none⟩ = some (.int .i64 q.d))
end Go.Proofs.Ytagiaiocgjagnaa
namespace Go.Proofs.Ytagiaiocgjagnaa
set_option linter.unusedSimpArgs false
set_option linter.unusedVariables false
open Go.RowKit

theorem rBefore_c (a b : Pt) (w : World) : Calls Try.prog 63 #[a.v, b.v] w fun e w' => e = .returned (.bool (beforeF a b)) ∧ Ext w w' := by
  obtain ⟨x, y⟩ := a
  obtain ⟨u, v⟩ := b
  by_cases h1 : x < u
  · have HV := Lib.hid (show beforeF ⟨x, y⟩ ⟨u, v⟩ = true by unfold beforeF; simp; omega)
    go_enter Try.func63, Try.ntmps63
    go_wp2
    go_ret
    exact ⟨by rw [HV.out]; rfl, (by repeat (first | exact Ext.refl _ | assumption | refine Ext.setCell ?_ (by first | (simp; done) | (simp; omega) | omega) _ | refine Ext.alloc ?_ _ | refine Ext.drew ?_ | refine Ext.trans ?_ (by assumption)))⟩
  · by_cases h2 : x = u
    · have h2' : (x == u) = true := by rw [beq_iff_eq]; exact h2
      by_cases h3 : y < v
      · have HV := Lib.hid (show beforeF ⟨x, y⟩ ⟨u, v⟩ = true by unfold beforeF; simp; omega)
        clear h2
        go_enter Try.func63, Try.ntmps63
        go_wp2
        go_ret
        exact ⟨by rw [HV.out]; rfl, (by repeat (first | exact Ext.refl _ | assumption | refine Ext.setCell ?_ (by first | (simp; done) | (simp; omega) | omega) _ | refine Ext.alloc ?_ _ | refine Ext.drew ?_ | refine Ext.trans ?_ (by assumption)))⟩
      · have HV := Lib.hid (show beforeF ⟨x, y⟩ ⟨u, v⟩ = false by unfold beforeF; simp; omega)
        clear h2
        go_enter Try.func63, Try.ntmps63
        go_wp2
        go_ret
        exact ⟨by rw [HV.out]; rfl, (by repeat (first | exact Ext.refl _ | assumption | refine Ext.setCell ?_ (by first | (simp; done) | (simp; omega) | omega) _ | refine Ext.alloc ?_ _ | refine Ext.drew ?_ | refine Ext.trans ?_ (by assumption)))⟩
    · have h2' : (x == u) = false := by rw [beq_eq_false_iff_ne]; exact h2
      have HV := Lib.hid (show beforeF ⟨x, y⟩ ⟨u, v⟩ = false by unfold beforeF; simp; omega)
      clear h2
      go_enter Try.func63, Try.ntmps63
      go_wp2
      go_ret
      exact ⟨by rw [HV.out]; rfl, (by repeat (first | exact Ext.refl _ | assumption | refine Ext.setCell ?_ (by first | (simp; done) | (simp; omega) | omega) _ | refine Ext.alloc ?_ _ | refine Ext.drew ?_ | refine Ext.trans ?_ (by assumption)))⟩
abbrev zS4 : Sg := ⟨⟨0, 0⟩, ⟨0, 0⟩⟩
theorem row_sg {w0 w : World} {b : Nat} {t : TypeId} {d : Sg} (hE : Ext w0 w) (h : Blk w b d.cs t) (hb : w0.heap.size ≤ b) (c : Sg) : Blk (w.setRow b c.cs) b c.cs t ∧ Ext w0 (w.setRow b c.cs) := ⟨Blk.setRow h, Ext.setRow hE hb⟩
set_option maxHeartbeats 4000000 in
theorem rNormal_c (s : Sg) (w : World) : Calls Try.prog 31 #[s.v] w fun e w' => e = .returned (normF s).v ∧ Ext w w' := by
  obtain ⟨B, hB⟩ : ∃ B, w.heap.size = B := ⟨_, rfl⟩
  obtain ⟨o, ho⟩ : ∃ o, beforeF s.b s.a = o := ⟨_, rfl⟩
  have HO := Lib.hid ho
  go_enter Try.func31, Try.ntmps31
  go_upto_region 1 with fail
  refine wp_gen (fun W => Ext w W ∧ Blk W B s.cs 25 ∧ Blk W (B + 1) zS4.cs 25) ⟨(by repeat (first | exact Ext.refl _ | assumption | refine Ext.setCell ?_ (by first | (simp; done) | (simp; omega) | omega) _ | refine Ext.alloc ?_ _ | refine Ext.drew ?_ | refine Ext.trans ?_ (by assumption))), (Blk.at s.cs 25 hB.symm).alloc _, Blk.at zS4.cs 25 (by simp [hB])⟩ ?_
  rintro V ⟨E0, B0, B1⟩
  have HE := Lib.hid E0
  have HB := Lib.hid (And.intro B0 B1)
  obtain ⟨x0, x1, x2, x3⟩ := B0.c4
  clear E0 B0 B1
  go_wp2_with fail
  refine (rBefore_c s.b s.a _).mono ?_
  rw [HO.out]
  rintro e w2 ⟨rfl, hx⟩
  have HX := Lib.hid (HE.out.trans hx)
  have HZ := Lib.hid (HB.out.2.ext hx)
  have HB2 := Lib.hid (HB.out.1.ext hx)
  clear hx x0 x1 x2 x3
  obtain ⟨x0, x1, x2, x3⟩ := HB2.out.c4
  cases o with
  | true =>
    have HV := Lib.hid (show normF s = ⟨s.b, s.a⟩ from if_pos HO.out)
    obtain ⟨RB, RX⟩ := row_sg HX.out HZ.out (by omega) ⟨s.b, s.a⟩
    have HRB := Lib.hid (And.intro RB RX)
    clear RB RX ho
    go_wp2_with (refine wpList_store_row rfl 25 _ _ rfl (B + 1) _ rfl rfl 25 _ HZ.out (by kernel_rfl) rfl (all_one _ rfl) ?_)
    refine bodyPost_ret (v := Sg.v ⟨s.b, s.a⟩) (results_cell_row Try.results31 _ _ (B + 1) 25 _ (0, 0) _ rfl HRB.out.1 Try.underlying25 rfl (by kernel_rfl)) rfl ?_
    exact ⟨by rw [HV.out], HRB.out.2⟩
  | false =>
    have HV := Lib.hid (show normF s = s from if_neg (by rw [HO.out]; decide))
    obtain ⟨RB, RX⟩ := row_sg HX.out HZ.out (by omega) s
    have HRB := Lib.hid (And.intro RB RX)
    clear RB RX ho
    go_wp2_with (refine wpList_store_row rfl 25 _ _ rfl (B + 1) _ rfl rfl 25 _ HZ.out (by kernel_rfl) rfl (all_one _ rfl) ?_)
    refine bodyPost_ret (v := Sg.v s) (results_cell_row Try.results31 _ _ (B + 1) 25 _ (0, 0) _ rfl HRB.out.1 Try.underlying25 rfl (by kernel_rfl)) rfl ?_
    exact ⟨by rw [HV.out], HRB.out.2⟩
set_option maxHeartbeats 4000000 in
theorem cNormal_c (s : Sg) (w : World) (hs : OKs s) : Calls Try.prog 13 #[s.v] w fun e w' => e = .returned (.tuple #[(normF s).v, .int .i64 0]) ∧ Ext w w' := by
  obtain ⟨B, hB⟩ : ∃ B, w.heap.size = B := ⟨_, rfl⟩
  have HO := Lib.hid (segE_ok.2 hs)
  clear hs
  go_enter Try.func13, Try.ntmps13
  go_upto_region 1 with fail
  refine wp_gen (fun W => Ext w W ∧ Blk W B s.cs 25 ∧ Blk W (B + 1) zS4.cs 25) ⟨(by repeat (first | exact Ext.refl _ | assumption | refine Ext.setCell ?_ (by first | (simp; done) | (simp; omega) | omega) _ | refine Ext.alloc ?_ _ | refine Ext.drew ?_ | refine Ext.trans ?_ (by assumption))), (Blk.at s.cs 25 hB.symm).alloc _, Blk.at zS4.cs 25 (by simp [hB])⟩ ?_
  rintro V ⟨E0, B0, B1⟩
  have HE := Lib.hid E0
  have HB := Lib.hid (And.intro B0 B1)
  obtain ⟨x0, x1, x2, x3⟩ := B0.c4
  clear E0 B0 B1
  go_wp2_with fail
  refine (cValid_c s _).mono ?_
  rw [HO.out]
  rintro e w2 ⟨rfl, hx⟩
  have HX := Lib.hid (HE.out.trans hx)
  have HB2 := Lib.hid (And.intro (HB.out.1.ext hx) (HB.out.2.ext hx))
  clear hx x0 x1 x2 x3
  obtain ⟨x0, x1, x2, x3⟩ := HB2.out.1.c4
  go_wp2_with fail
  refine (normal_seg_c s _).mono ?_
  rintro e w3 ⟨rfl, hx⟩
  have HX3 := Lib.hid (HX.out.trans hx)
  have HZ := Lib.hid (HB2.out.2.ext hx)
  clear hx x0 x1 x2 x3
  obtain ⟨RB, RX⟩ := row_sg HX3.out HZ.out (by omega) (normF s)
  have HRB := Lib.hid (And.intro RB RX)
  clear RB RX
  go_wp2_with (refine wpList_store_row rfl 25 _ _ rfl (B + 1) _ rfl rfl 25 _ HZ.out (by kernel_rfl) rfl (all_one _ rfl) ?_)
  refine bodyPost_ret (v := .tuple #[(normF s).v, .int .i64 0]) (results_two Try.results13 _ _ (B + 1) 25 _ (0, 0) _ rfl HRB.out.1 Try.underlying25 rfl (by kernel_rfl)) rfl ?_
  exact ⟨rfl, HRB.out.2⟩
end Go.Proofs.Ytagiaiocgjagnaa
namespace Go.Proofs.Ytagiaiocgjagnaa
set_option linter.unusedSimpArgs false
set_option linter.unusedVariables false
open Go.RowKit

set_option maxRecDepth 100000 in
set_option maxHeartbeats 16000000 in
theorem rCheck_c (s : Sg) (a1 : Option Addr) (n1 c1 : Nat) (os : List Sg) (a2 : Option Addr) (n2 c2 : Nat) (ps : List Pt) (w : World) (h1 : SgS w a1 n1 c1 os) (h2 : PtS w a2 n2 c2 ps) (hn1 : n1 ≤ 300) (hn2 : n2 ≤ 100) :
    Calls Try.prog 19 #[s.v, .slice a1 n1 c1, .slice a2 n2 c2] w fun e w' => e = .returned (.int .i64 (partsE s os ps)) ∧ Ext w w' := by
  have H1 := Lib.hid h1
  have H2 := Lib.hid h2
  have hl1 := h1.len
  clear h1 h2
  obtain ⟨B, hB⟩ : ∃ B, w.heap.size = B := ⟨_, rfl⟩
  obtain ⟨v, hv⟩ : ∃ v, segE s = v := ⟨_, rfl⟩
  have HV := Lib.hid hv
  clear hv
  go_enter Try.func19, Try.ntmps19
  go_upto_region 1 with fail
  refine wp_gen (fun W => Ext w W ∧ Blk W B s.cs 25) ⟨(by repeat (first | exact Ext.refl _ | assumption | refine Ext.setCell ?_ (by first | (simp; done) | (simp; omega) | omega) _ | refine Ext.alloc ?_ _ | refine Ext.drew ?_ | refine Ext.trans ?_ (by assumption))), Blk.at s.cs 25 hB.symm⟩ ?_
  rintro V ⟨EV, BV⟩
  have HX := Lib.hid EV
  obtain ⟨y0, y1, y2, y3⟩ : V.cell? ⟨B, 0, none⟩ = some (.int .i64 s.a.x) ∧ V.cell? ⟨B, 1, none⟩ = some (.int .i64 s.a.y) ∧ V.cell? ⟨B, 2, none⟩ = some (.int .i64 s.b.x) ∧ V.cell? ⟨B, 3, none⟩ = some (.int .i64 s.b.y) := ⟨BV.cell 0, BV.cell 1, BV.cell 2, BV.cell 3⟩
  clear EV BV
  go_wp2_with fail
  refine (rValid_c s _).mono ?_
  rw [HV.out]
  rintro e w2 ⟨rfl, hx2⟩
  have HX2 := Lib.hid (HX.out.trans hx2)
  clear hx2 y0 y1 y2 y3
  by_cases hv0 : v = 0
  · subst hv0
    go_wp2_with fail
    go_loopw [8] (fun v ws => ∃ i : Nat, i ≤ n1 ∧ v = .int .i64 (i : Int) ∧ Hid (∀ j, j < i → segE (os.getD j zSg) = 0) ∧ Ext w2 ws) (fun v _ => n1 - (intOf v).toNat)
    case atStart => exact ⟨0, by omega, rfl, Lib.hid (fun j hj => absurd hj (by omega)), Ext.refl w2⟩
    case round =>
      obtain ⟨i, hi, rfl, HZ, hE⟩ := hrel
      have HW := Lib.hid hE
      by_cases hlt : i < n1
      · obtain ⟨g1, rfl, hg1, _⟩ := (H1.out.ext (HX2.out.trans hE)).at'.resolve_left (fun h => by omega)
        obtain ⟨t, ht⟩ : ∃ t, os[i]? = some t := ⟨_, List.getElem?_eq_getElem (by rw [H1.out.len]; exact hlt)⟩
        have HT := Lib.hid (show os.getD i zSg = t by rw [List.getD_eq_getElem?_getD, ht]; rfl)
        obtain ⟨t0, t1, t2, t3⟩ := hg1.sg4 ht
        have j0 : (0 : Int) ≤ (i : Int) := by omega
        have j1 : (i : Int) < (n1 : Int) := by omega
        clear hg1 ht hE
        by_cases hv : segE t = 0
        · have HPV := Lib.hid hv
          clear hv
          go_wp2_with fail
          refine (rValid_c t _).mono ?_
          rintro e w5 ⟨rfl, hx5⟩
          rw [HPV.out]
          have HX5 := Lib.hid (HW.out.trans hx5)
          clear hx5 t0 t1 t2 t3
          go_wp2_with fail
          go_roundw
          case rel =>
            refine ⟨i + 1, by omega, by go_num, Lib.hid (fun j hj => ?_), HX5.out⟩
            by_cases hji : j < i
            · exact HZ.out j hji
            · obtain rfl : j = i := by omega
              rw [HT.out]; exact HPV.out
          case measure => simp [intOf]; omega
        · have hfin : partsE s os ps = segE t := by
            have h9 : firstS (s :: os) = segE t := by
              rw [firstS, if_pos HV.out, firstS_at i (by rw [H1.out.len]; exact hlt) HZ.out (by rw [HT.out]; exact hv), HT.out]
            unfold partsE
            rw [if_neg (by rw [h9]; exact hv), h9]
          have hv' : (segE t != 0) = true := by rw [bne_iff_ne]; exact hv
          have HF := Lib.hid hfin
          clear hfin hv
          go_wp2_with fail
          refine (rValid_c t _).mono ?_
          rintro e w5 ⟨rfl, hx5⟩
          have HX5 := Lib.hid (HW.out.trans hx5)
          clear hx5 t0 t1 t2 t3
          generalize segE t = q at *
          go_wp2_with fail
          go_ret
          exact ⟨by rw [HF.out]; rfl, HX2.out.trans HX5.out⟩
      · have hin : ¬ (i : Int) < (n1 : Int) := by omega
        have hfs : firstS (s :: os) = 0 := by
          rw [firstS, if_pos HV.out]
          exact firstS_none (fun j hj => HZ.out j (by rw [H1.out.len] at hj; omega))
        have HE := Lib.hid (show partsE s os ps = firstE validE ps by unfold partsE; rw [if_pos hfs])
        have HX3 := Lib.hid (HX2.out.trans hE)
        clear hfs hE
        go_wp2_with fail
        go_loopw [10] (fun v ws => ∃ j : Nat, j ≤ n2 ∧ v = .int .i64 (j : Int) ∧ Hid (∀ k, k < j → validE (ps.getD k ⟨0, 0⟩) = 0) ∧ Ext wr ws) (fun v _ => n2 - (intOf v).toNat)
        case atStart => exact ⟨0, by omega, rfl, Lib.hid (fun j hj => absurd hj (by omega)), Ext.refl wr⟩
        case round =>
          rename World => wz
          obtain ⟨j, hj, rfl, HZ2, hE⟩ := hrel
          have HW2 := Lib.hid hE
          by_cases hlt : j < n2
          · obtain ⟨g2, rfl, hg2, _⟩ := (H2.out.ext (HX3.out.trans hE)).at'.resolve_left (fun h => by omega)
            obtain ⟨p, hp⟩ : ∃ p, ps[j]? = some p := ⟨_, List.getElem?_eq_getElem (by rw [H2.out.len]; exact hlt)⟩
            have HP := Lib.hid (show ps.getD j ⟨0, 0⟩ = p by rw [List.getD_eq_getElem?_getD, hp]; rfl)
            obtain ⟨c0, c1⟩ := hg2.pts2 hp
            have j0 : (0 : Int) ≤ (j : Int) := by omega
            have j1 : (j : Int) < (n2 : Int) := by omega
            clear hg2 hp hE
            by_cases hv : validE p = 0
            · have HPV := Lib.hid hv
              clear hv
              go_wp2_with fail
              refine (good_c p _).mono ?_
              rintro e w5 ⟨rfl, hx5⟩
              rw [HPV.out]
              have HX5 := Lib.hid (HW2.out.trans hx5)
              clear hx5 c0 c1
              go_wp2_with fail
              go_roundw
              case rel =>
                refine ⟨j + 1, by omega, by go_num, Lib.hid (fun k hk => ?_), HX5.out⟩
                by_cases hji : k < j
                · exact HZ2.out k hji
                · obtain rfl : k = j := by omega
                  rw [HP.out]; exact HPV.out
              case measure => simp [intOf]; omega
            · have hfin : firstE validE ps = validE p := by rw [firstE_at j (by rw [H2.out.len]; exact hlt) HZ2.out (by rw [HP.out]; exact hv), HP.out]
              have hv' : (validE p != 0) = true := by rw [bne_iff_ne]; exact hv
              have HF := Lib.hid hfin
              clear hfin hv
              go_wp2_with fail
              refine (good_c p _).mono ?_
              rintro e w5 ⟨rfl, hx5⟩
              have HX5 := Lib.hid (HW2.out.trans hx5)
              clear hx5 c0 c1
              generalize validE p = q at *
              go_wp2_with fail
              go_ret
              exact ⟨by rw [HE.out, HF.out]; rfl, HX3.out.trans HX5.out⟩
          · have hjn : ¬ (j : Int) < (n2 : Int) := by omega
            have HF := Lib.hid (show firstE validE ps = 0 from firstE_none (fun k hk => HZ2.out k (by rw [H2.out.len] at hk; omega)))
            clear hE
            go_wp2_with fail
            go_ret
            exact ⟨by rw [HE.out, HF.out]; rfl, HX3.out.trans HW2.out⟩
  · have hv1 : (v != 0) = true := by rw [bne_iff_ne]; exact hv0
    have HE := Lib.hid (show partsE s os ps = v by
      have h9 : firstS (s :: os) = v := by rw [firstS, if_neg (by rw [HV.out]; exact hv0), HV.out]
      unfold partsE
      rw [if_neg (by rw [h9]; exact hv0), h9])
    clear hv0
    go_wp2_with fail
    go_ret
    exact ⟨by rw [HE.out]; rfl, HX2.out⟩
theorem int64_wrap (x : Int) : Int64 (IntKind.i64.wrap x) := by rw [IntKind.wrap_i64]; exact ⟨by omega, by omega⟩
set_option maxRecDepth 100000 in
set_option maxHeartbeats 8000000 in
theorem rSpoilt_c (s : Sg) (how b' : Int) (w : World) (hh : Int64 how) : Calls Try.prog 12 #[s.v, .int .i64 how, .int .i64 b'] w fun e w' => ∃ r : Sg, e = .returned r.v ∧ Ext w w' := by
  have HH := Lib.hid hh
  have hk := aroundF_bd how 5 (by omega)
  obtain ⟨k, hkk⟩ : ∃ k, aroundF how 5 = k := ⟨_, rfl⟩
  rw [hkk] at hk
  have HK := Lib.hid hkk
  clear hh hkk
  obtain ⟨⟨ax, ay⟩, ⟨bx, b0⟩⟩ := s
  obtain ⟨B, hB⟩ : ∃ B, w.heap.size = B := ⟨_, rfl⟩
  go_enter Try.func12, Try.ntmps12
  go_upto_region 1 with fail
  refine wp_gen (fun W => Ext w W ∧ Blk W B (Sg.cs ⟨⟨ax, ay⟩, ⟨bx, b0⟩⟩) 25 ∧ Blk W (B + 1) zS4.cs 25) ⟨(by repeat (first | exact Ext.refl _ | assumption | refine Ext.setCell ?_ (by first | (simp; done) | (simp; omega) | omega) _ | refine Ext.alloc ?_ _ | refine Ext.drew ?_ | refine Ext.trans ?_ (by assumption))), (Blk.at _ 25 hB.symm).alloc _, Blk.at zS4.cs 25 (by simp [hB])⟩ ?_
  rintro V ⟨E0, B0, B1⟩
  have HE := Lib.hid E0
  have HB := Lib.hid (And.intro B0 B1)
  clear E0 B0 B1
  go_wp2_with fail
  refine (around_c _ _ _ (by omega) (by omega) HH.out).mono ?_
  rw [HK.out]
  rintro e w2 ⟨rfl, rfl⟩
  have f0 := HB.out.1.free 0; have f1 := HB.out.1.free 1; have f2 := HB.out.1.free 2; have f3 := HB.out.1.free 3
  have hl := HB.out.1.lt
  obtain ⟨c0, c1, c2, c3⟩ : V.cell? ⟨B, 0, none⟩ = some (.int .i64 (Sg.mk ⟨ax, ay⟩ ⟨bx, b0⟩).a.x) ∧ V.cell? ⟨B, 1, none⟩ = some (.int .i64 (Sg.mk ⟨ax, ay⟩ ⟨bx, b0⟩).a.y) ∧ V.cell? ⟨B, 2, none⟩ = some (.int .i64 (Sg.mk ⟨ax, ay⟩ ⟨bx, b0⟩).b.x) ∧ V.cell? ⟨B, 3, none⟩ = some (.int .i64 (Sg.mk ⟨ax, ay⟩ ⟨bx, b0⟩).b.y) := ⟨HB.out.1.cell 0, HB.out.1.cell 1, HB.out.1.cell 2, HB.out.1.cell 3⟩
  simp only at c0 c1 c2 c3
  rcases (show k = 0 ∨ k = 1 ∨ k = 2 ∨ k = 3 ∨ k = 4 by omega) with rfl | rfl | rfl | rfl | rfl
  · go_upto_region 11 with fail
    refine wp_gen (fun W => Ext w W ∧ Blk W B (Sg.cs ⟨⟨b', ay⟩, ⟨bx, b0⟩⟩) 25 ∧ Blk W (B + 1) zS4.cs 25) ⟨(HE.out.setCell (p := ⟨B, 0, none⟩) (by show w.heap.size ≤ B; omega) (.int .i64 b')), (HB.out.1.set 0 (.int .i64 b')), (HB.out.2.setOther (p := ⟨B, 0, none⟩) (by show B + 1 ≠ B; omega) (.int .i64 b'))⟩ ?_
    rintro W ⟨EW, BW, ZW⟩
    obtain ⟨RB, RX⟩ := row_sg EW ZW (by omega) ⟨⟨b', ay⟩, ⟨bx, b0⟩⟩
    have HRB := Lib.hid (And.intro RB RX)
    have HZ := Lib.hid ZW
    obtain ⟨d0, d1, d2, d3⟩ : W.cell? ⟨B, 0, none⟩ = some (.int .i64 (Sg.mk ⟨b', ay⟩ ⟨bx, b0⟩).a.x) ∧ W.cell? ⟨B, 1, none⟩ = some (.int .i64 (Sg.mk ⟨b', ay⟩ ⟨bx, b0⟩).a.y) ∧ W.cell? ⟨B, 2, none⟩ = some (.int .i64 (Sg.mk ⟨b', ay⟩ ⟨bx, b0⟩).b.x) ∧ W.cell? ⟨B, 3, none⟩ = some (.int .i64 (Sg.mk ⟨b', ay⟩ ⟨bx, b0⟩).b.y) := ⟨BW.cell 0, BW.cell 1, BW.cell 2, BW.cell 3⟩
    simp only at d0 d1 d2 d3
    clear RB RX EW BW ZW c0 c1 c2 c3
    go_wp2_with (refine wpList_store_row rfl 25 _ _ rfl (B + 1) _ rfl rfl 25 _ HZ.out (by kernel_rfl) rfl (all_one _ rfl) ?_)
    refine bodyPost_ret (v := Sg.v ⟨⟨b', ay⟩, ⟨bx, b0⟩⟩) (results_cell_row Try.results12 _ _ (B + 1) 25 _ (0, 0) _ rfl HRB.out.1 Try.underlying25 rfl (by kernel_rfl)) rfl ?_; exact ⟨⟨⟨b', ay⟩, ⟨bx, b0⟩⟩, rfl, HRB.out.2⟩
  · go_upto_region 11 with fail
    refine wp_gen (fun W => Ext w W ∧ Blk W B (Sg.cs ⟨⟨ax, b'⟩, ⟨bx, b0⟩⟩) 25 ∧ Blk W (B + 1) zS4.cs 25) ⟨(HE.out.setCell (p := ⟨B, 1, none⟩) (by show w.heap.size ≤ B; omega) (.int .i64 b')), (HB.out.1.set 1 (.int .i64 b')), (HB.out.2.setOther (p := ⟨B, 1, none⟩) (by show B + 1 ≠ B; omega) (.int .i64 b'))⟩ ?_
    rintro W ⟨EW, BW, ZW⟩
    obtain ⟨RB, RX⟩ := row_sg EW ZW (by omega) ⟨⟨ax, b'⟩, ⟨bx, b0⟩⟩
    have HRB := Lib.hid (And.intro RB RX)
    have HZ := Lib.hid ZW
    obtain ⟨d0, d1, d2, d3⟩ : W.cell? ⟨B, 0, none⟩ = some (.int .i64 (Sg.mk ⟨ax, b'⟩ ⟨bx, b0⟩).a.x) ∧ W.cell? ⟨B, 1, none⟩ = some (.int .i64 (Sg.mk ⟨ax, b'⟩ ⟨bx, b0⟩).a.y) ∧ W.cell? ⟨B, 2, none⟩ = some (.int .i64 (Sg.mk ⟨ax, b'⟩ ⟨bx, b0⟩).b.x) ∧ W.cell? ⟨B, 3, none⟩ = some (.int .i64 (Sg.mk ⟨ax, b'⟩ ⟨bx, b0⟩).b.y) := ⟨BW.cell 0, BW.cell 1, BW.cell 2, BW.cell 3⟩
    simp only at d0 d1 d2 d3
    clear RB RX EW BW ZW c0 c1 c2 c3
    go_wp2_with (refine wpList_store_row rfl 25 _ _ rfl (B + 1) _ rfl rfl 25 _ HZ.out (by kernel_rfl) rfl (all_one _ rfl) ?_)
    refine bodyPost_ret (v := Sg.v ⟨⟨ax, b'⟩, ⟨bx, b0⟩⟩) (results_cell_row Try.results12 _ _ (B + 1) 25 _ (0, 0) _ rfl HRB.out.1 Try.underlying25 rfl (by kernel_rfl)) rfl ?_; exact ⟨⟨⟨ax, b'⟩, ⟨bx, b0⟩⟩, rfl, HRB.out.2⟩
  · go_upto_region 11 with fail
    refine wp_gen (fun W => Ext w W ∧ Blk W B (Sg.cs ⟨⟨ax, ay⟩, ⟨b', b0⟩⟩) 25 ∧ Blk W (B + 1) zS4.cs 25) ⟨(HE.out.setCell (p := ⟨B, 2, none⟩) (by show w.heap.size ≤ B; omega) (.int .i64 b')), (HB.out.1.set 2 (.int .i64 b')), (HB.out.2.setOther (p := ⟨B, 2, none⟩) (by show B + 1 ≠ B; omega) (.int .i64 b'))⟩ ?_
    rintro W ⟨EW, BW, ZW⟩
    obtain ⟨RB, RX⟩ := row_sg EW ZW (by omega) ⟨⟨ax, ay⟩, ⟨b', b0⟩⟩
    have HRB := Lib.hid (And.intro RB RX)
    have HZ := Lib.hid ZW
    obtain ⟨d0, d1, d2, d3⟩ : W.cell? ⟨B, 0, none⟩ = some (.int .i64 (Sg.mk ⟨ax, ay⟩ ⟨b', b0⟩).a.x) ∧ W.cell? ⟨B, 1, none⟩ = some (.int .i64 (Sg.mk ⟨ax, ay⟩ ⟨b', b0⟩).a.y) ∧ W.cell? ⟨B, 2, none⟩ = some (.int .i64 (Sg.mk ⟨ax, ay⟩ ⟨b', b0⟩).b.x) ∧ W.cell? ⟨B, 3, none⟩ = some (.int .i64 (Sg.mk ⟨ax, ay⟩ ⟨b', b0⟩).b.y) := ⟨BW.cell 0, BW.cell 1, BW.cell 2, BW.cell 3⟩
    simp only at d0 d1 d2 d3
    clear RB RX EW BW ZW c0 c1 c2 c3
    go_wp2_with (refine wpList_store_row rfl 25 _ _ rfl (B + 1) _ rfl rfl 25 _ HZ.out (by kernel_rfl) rfl (all_one _ rfl) ?_)
    refine bodyPost_ret (v := Sg.v ⟨⟨ax, ay⟩, ⟨b', b0⟩⟩) (results_cell_row Try.results12 _ _ (B + 1) 25 _ (0, 0) _ rfl HRB.out.1 Try.underlying25 rfl (by kernel_rfl)) rfl ?_; exact ⟨⟨⟨ax, ay⟩, ⟨b', b0⟩⟩, rfl, HRB.out.2⟩
  · go_upto_region 11 with fail
    refine wp_gen (fun W => Ext w W ∧ Blk W B (Sg.cs ⟨⟨ax, ay⟩, ⟨bx, b'⟩⟩) 25 ∧ Blk W (B + 1) zS4.cs 25) ⟨(HE.out.setCell (p := ⟨B, 3, none⟩) (by show w.heap.size ≤ B; omega) (.int .i64 b')), (HB.out.1.set 3 (.int .i64 b')), (HB.out.2.setOther (p := ⟨B, 3, none⟩) (by show B + 1 ≠ B; omega) (.int .i64 b'))⟩ ?_
    rintro W ⟨EW, BW, ZW⟩
    obtain ⟨RB, RX⟩ := row_sg EW ZW (by omega) ⟨⟨ax, ay⟩, ⟨bx, b'⟩⟩
    have HRB := Lib.hid (And.intro RB RX)
    have HZ := Lib.hid ZW
    obtain ⟨d0, d1, d2, d3⟩ : W.cell? ⟨B, 0, none⟩ = some (.int .i64 (Sg.mk ⟨ax, ay⟩ ⟨bx, b'⟩).a.x) ∧ W.cell? ⟨B, 1, none⟩ = some (.int .i64 (Sg.mk ⟨ax, ay⟩ ⟨bx, b'⟩).a.y) ∧ W.cell? ⟨B, 2, none⟩ = some (.int .i64 (Sg.mk ⟨ax, ay⟩ ⟨bx, b'⟩).b.x) ∧ W.cell? ⟨B, 3, none⟩ = some (.int .i64 (Sg.mk ⟨ax, ay⟩ ⟨bx, b'⟩).b.y) := ⟨BW.cell 0, BW.cell 1, BW.cell 2, BW.cell 3⟩
    simp only at d0 d1 d2 d3
    clear RB RX EW BW ZW c0 c1 c2 c3
    go_wp2_with (refine wpList_store_row rfl 25 _ _ rfl (B + 1) _ rfl rfl 25 _ HZ.out (by kernel_rfl) rfl (all_one _ rfl) ?_)
    refine bodyPost_ret (v := Sg.v ⟨⟨ax, ay⟩, ⟨bx, b'⟩⟩) (results_cell_row Try.results12 _ _ (B + 1) 25 _ (0, 0) _ rfl HRB.out.1 Try.underlying25 rfl (by kernel_rfl)) rfl ?_; exact ⟨⟨⟨ax, ay⟩, ⟨bx, b'⟩⟩, rfl, HRB.out.2⟩
  · go_upto_region 11 with fail
    refine wp_gen (fun W => Ext w W ∧ Blk W B (Sg.cs ⟨⟨ax, ay⟩, ⟨ax, ay⟩⟩) 25 ∧ Blk W (B + 1) zS4.cs 25) ⟨((HE.out.setCell (p := ⟨B, 2, none⟩) (by show w.heap.size ≤ B; omega) (.int .i64 ax)).setCell (p := ⟨B, 3, none⟩) (by show w.heap.size ≤ B; omega) (.int .i64 ay)), ((HB.out.1.set 2 (.int .i64 ax)).set 3 (.int .i64 ay)), ((HB.out.2.setOther (p := ⟨B, 2, none⟩) (by show B + 1 ≠ B; omega) (.int .i64 ax)).setOther (p := ⟨B, 3, none⟩) (by show B + 1 ≠ B; omega) (.int .i64 ay))⟩ ?_
    rintro W ⟨EW, BW, ZW⟩
    obtain ⟨RB, RX⟩ := row_sg EW ZW (by omega) ⟨⟨ax, ay⟩, ⟨ax, ay⟩⟩
    have HRB := Lib.hid (And.intro RB RX)
    have HZ := Lib.hid ZW
    obtain ⟨d0, d1, d2, d3⟩ : W.cell? ⟨B, 0, none⟩ = some (.int .i64 (Sg.mk ⟨ax, ay⟩ ⟨ax, ay⟩).a.x) ∧ W.cell? ⟨B, 1, none⟩ = some (.int .i64 (Sg.mk ⟨ax, ay⟩ ⟨ax, ay⟩).a.y) ∧ W.cell? ⟨B, 2, none⟩ = some (.int .i64 (Sg.mk ⟨ax, ay⟩ ⟨ax, ay⟩).b.x) ∧ W.cell? ⟨B, 3, none⟩ = some (.int .i64 (Sg.mk ⟨ax, ay⟩ ⟨ax, ay⟩).b.y) := ⟨BW.cell 0, BW.cell 1, BW.cell 2, BW.cell 3⟩
    simp only at d0 d1 d2 d3
    clear RB RX EW BW ZW c0 c1 c2 c3
    go_wp2_with (refine wpList_store_row rfl 25 _ _ rfl (B + 1) _ rfl rfl 25 _ HZ.out (by kernel_rfl) rfl (all_one _ rfl) ?_)
    refine bodyPost_ret (v := Sg.v ⟨⟨ax, ay⟩, ⟨ax, ay⟩⟩) (results_cell_row Try.results12 _ _ (B + 1) 25 _ (0, 0) _ rfl HRB.out.1 Try.underlying25 rfl (by kernel_rfl)) rfl ?_; exact ⟨⟨⟨ax, ay⟩, ⟨ax, ay⟩⟩, rfl, HRB.out.2⟩
set_option maxHeartbeats 4000000 in
theorem cNormalE_c (s : Sg) (w : World) : Calls Try.prog 13 #[s.v] w fun e w' => ∃ r : Sg, e = .returned (.tuple #[r.v, .int .i64 (segE s)]) ∧ Ext w w' := by
  by_cases h0 : segE s = 0
  · refine (cNormal_c s w (segE_ok.1 h0)).mono ?_
    rintro e w' ⟨rfl, hx⟩
    exact ⟨normF s, by rw [h0], hx⟩
  · obtain ⟨B, hB⟩ : ∃ B, w.heap.size = B := ⟨_, rfl⟩
    obtain ⟨q, hq⟩ : ∃ q, segE s = q := ⟨_, rfl⟩
    rw [hq] at h0
    have HQ := Lib.hid hq
    have h0' : (q != 0) = true := by rw [bne_iff_ne]; exact h0
    rw [hq]
    clear hq h0
    go_enter Try.func13, Try.ntmps13
    go_upto_region 1 with fail
    refine wp_gen (fun W => Ext w W ∧ Blk W B s.cs 25 ∧ Blk W (B + 1) zS4.cs 25) ⟨(by repeat (first | exact Ext.refl _ | assumption | refine Ext.setCell ?_ (by first | (simp; done) | (simp; omega) | omega) _ | refine Ext.alloc ?_ _ | refine Ext.drew ?_ | refine Ext.trans ?_ (by assumption))), (Blk.at s.cs 25 hB.symm).alloc _, Blk.at zS4.cs 25 (by simp [hB])⟩ ?_
    rintro V ⟨E0, B0, B1⟩
    have HE := Lib.hid E0
    have HB := Lib.hid B1
    obtain ⟨x0, x1, x2, x3⟩ : V.cell? ⟨B, 0, none⟩ = some (.int .i64 s.a.x) ∧ V.cell? ⟨B, 1, none⟩ = some (.int .i64 s.a.y) ∧ V.cell? ⟨B, 2, none⟩ = some (.int .i64 s.b.x) ∧ V.cell? ⟨B, 3, none⟩ = some (.int .i64 s.b.y) := ⟨B0.cell 0, B0.cell 1, B0.cell 2, B0.cell 3⟩
    clear E0 B0 B1
    go_wp2_with fail
    refine (cValid_c s _).mono ?_
    rw [HQ.out]
    rintro e w2 ⟨rfl, hx⟩
    have HX := Lib.hid (HE.out.trans hx)
    have HZ := Lib.hid (HB.out.ext hx)
    clear hx x0 x1 x2 x3
    obtain ⟨RB, RX⟩ := row_sg HX.out HZ.out (by omega) zS4
    have HRB := Lib.hid (And.intro RB RX)
    clear RB RX
    go_wp2_with (refine wpList_store_row rfl 25 _ _ rfl (B + 1) _ rfl rfl 25 _ HZ.out (by kernel_rfl) rfl (all_one _ rfl) ?_)
    refine bodyPost_ret (v := .tuple #[zS4.v, .int .i64 q]) (results_two Try.results13 _ _ (B + 1) 25 _ (0, 0) _ rfl HRB.out.1 Try.underlying25 rfl (by kernel_rfl)) rfl ?_
    exact ⟨zS4, rfl, HRB.out.2⟩
end Go.Proofs.Ytagiaiocgjagnaa
namespace Go.Proofs.Ytagiaiocgjagnaa
set_option linter.unusedSimpArgs false
set_option linter.unusedVariables false
open Go.RowKit

theorem meetR_err (p q : Sg) : (meetR p q).2 = firstS [p, q] := by
  unfold meetR; split
  · rename_i h; exact h.symm
  · rfl
theorem partsE_nil (p q : Sg) : partsE p [q] [] = firstS [p, q] := by
  unfold partsE; split
  · rename_i h; rw [h]; rfl
  · rfl
theorem onR_err (p : Sg) (q : QP) : (onR p q).2 = segE p := by
  unfold onR; split
  · rename_i h; exact h.symm
  · rfl
abbrev cs4 (a b c d : Sg) : Array Value := #[.int .i64 a.a.x, .int .i64 a.a.y, .int .i64 a.b.x, .int .i64 a.b.y, .int .i64 b.a.x, .int .i64 b.a.y, .int .i64 b.b.x, .int .i64 b.b.y, .int .i64 c.a.x, .int .i64 c.a.y, .int .i64 c.b.x, .int .i64 c.b.y, .int .i64 d.a.x, .int .i64 d.a.y, .int .i64 d.b.x, .int .i64 d.b.y]
theorem wp_build4S {o : Oper} {a : Act} {w : World} {K : Act → World → Prop} {Q : Exit → Act → World → Prop} (p q r s : Sg) (x y z u : Operand) (ho : o.op = .buildSlice 29 4 #[(0, x), (1, y), (2, z), (3, u)]) (hx : a.eval x = p.v) (hy : a.eval y = q.v) (hz : a.eval z = r.v) (hu : a.eval u = s.v)
    (h : K (a.put o.dst (.slice (some ⟨w.heap.size, 0, none⟩) 4 4)) (w.alloc (.cells (cs4 p q r s) 25))) : o.wp Try.prog a w K Q := by
  obtain ⟨i0, hi, hz0, hz1, hz2⟩ := info_parts sgInfo
  refine wp_buildSlice 29 25 4 _ ho (cs4 p q r s) i0 _ Try.underlying29 hi hz0 (by rw [hz1]; decide) (by rw [hz1]; decide) ?_ h
  rw [hz1]
  simp only [List.map_toArray, List.map_cons, List.map_nil, hx, hy, hz, hu]
  first
  | kernel_rfl
  | (cases p; cases q; cases r; cases s; rfl)
theorem wp_build3L {o : Oper} {a : Act} {w : World} {K : Act → World → Prop} {Q : Exit → Act → World → Prop} (p q r : Value) (x y z : Operand) (h1 : p.oneCell' = true) (h2 : q.oneCell' = true) (h3 : r.oneCell' = true) (g1 g2 g3 : Option Addr) (n1 n2 n3 c1 c2 c3 : Nat) (e1 : p = .slice g1 n1 c1) (e2 : q = .slice g2 n2 c2) (e3 : r = .slice g3 n3 c3) (ho : o.op = .buildSlice 31 3 #[(0, x), (1, y), (2, z)]) (hx : a.eval x = p) (hy : a.eval y = q) (hz : a.eval z = r)
    (h : K (a.put o.dst (.slice (some ⟨w.heap.size, 0, none⟩) 3 3)) (w.alloc (.cells #[p, q, r] 30))) : o.wp Try.prog a w K Q := by
  obtain ⟨i0, hi, hz0, hz1, hz2⟩ := info_parts (show (Try.prog.info? 30).map (fun i => (i.zero, i.size, i.bytes)) = some (some (.slice none 0 0), 1, 24) by kernel_rfl)
  subst e1; subst e2; subst e3
  refine wp_buildSlice 31 30 3 _ ho _ i0 _ Try.underlying31 hi hz0 (by rw [hz1]; decide) (by rw [hz1]; decide) ?_ h
  rw [hz1]
  simp only [List.map_toArray, List.map_cons, List.map_nil, hx, hy, hz]
  kernel_rfl
theorem Blk.four4 {w : World} {b : Nat} {p q r s : Sg} (h : Blk w b (cs4 p q r s) 25) : GAt encSg w b [p, q, r, s] :=
  GRow.gat (GRow.mk (l := [p, q, r, s]) (F := encSg) (cap := 4) (Nat.le_refl _) h (by simp) (by rw [maxLen]; omega) rfl rfl)
set_option maxRecDepth 100000 in
set_option maxHeartbeats 16000000 in
theorem walkErrors (n m k how b' : Int) (w : World) (hn : Int64 n) (hm : Int64 m) (hk : Int64 k) (hh : Int64 how) :
    Calls Try.prog 3 #[.int .i64 n, .int .i64 m, .int .i64 k, .int .i64 how, .int .i64 b'] w fun e w' => e = .returned (.bool true) ∧ Ext w w' := by
  have HI := Lib.hid (And.intro hn (And.intro hm (And.intro hk hh)))
  clear hn hm hk hh
  go_enter Try.func3, Try.ntmps3
  go_wp2_with fail
  refine (rPair_c n m k _ HI.out.1 HI.out.2.1 HI.out.2.2.1).mono ?_
  rintro e w1 ⟨s, t, rfl, hs, ht, hx1⟩
  have HT := Lib.hid (ht.ok (by omega) (by omega))
  have HX1 := Lib.hid hx1
  clear hs ht hx1
  obtain ⟨G, hG⟩ : ∃ G, w1.heap.size = G := ⟨_, rfl⟩
  go_upto_region 2 with fail
  try rw [hG]
  refine wp_gen (fun W => Ext w W ∧ Blk W G s.cs 25 ∧ Blk W (G + 1) t.cs 25) ⟨(HX1.out.alloc _).alloc _, (Blk.at s.cs 25 hG.symm).alloc _, Blk.at t.cs 25 (by simp [hG])⟩ ?_
  clear hG HX1
  rintro W1 ⟨E1, S1, T1⟩
  have H1 := Lib.hid (And.intro E1 (And.intro S1 T1))
  obtain ⟨y0, y1, y2, y3⟩ : W1.cell? ⟨G, 0, none⟩ = some (.int .i64 s.a.x) ∧ W1.cell? ⟨G, 1, none⟩ = some (.int .i64 s.a.y) ∧ W1.cell? ⟨G, 2, none⟩ = some (.int .i64 s.b.x) ∧ W1.cell? ⟨G, 3, none⟩ = some (.int .i64 s.b.y) := ⟨S1.cell 0, S1.cell 1, S1.cell 2, S1.cell 3⟩
  clear E1 S1 T1
  go_wp2_with fail
  refine (rSpoilt_c s how b' _ HI.out.2.2.2).mono ?_
  rintro e w2 ⟨bad, rfl, hx2⟩
  obtain ⟨G2, hG2⟩ : ∃ G, w2.heap.size = G := ⟨_, rfl⟩
  have HX2 := Lib.hid hx2
  clear hx2 y0 y1 y2 y3
  go_upto_region 3 with fail
  try rw [hG2]
  refine wp_gen (fun W => Ext W1 W ∧ Blk W G2 bad.cs 25) ⟨HX2.out.alloc _, Blk.at bad.cs 25 hG2.symm⟩ ?_
  clear hG2 HX2
  rintro W2 ⟨E2, B2⟩
  have H2 := Lib.hid (And.intro E2 B2)
  obtain ⟨t0, t1, t2, t3⟩ : W2.cell? ⟨(G + 1), 0, none⟩ = some (.int .i64 t.a.x) ∧ W2.cell? ⟨(G + 1), 1, none⟩ = some (.int .i64 t.a.y) ∧ W2.cell? ⟨(G + 1), 2, none⟩ = some (.int .i64 t.b.x) ∧ W2.cell? ⟨(G + 1), 3, none⟩ = some (.int .i64 t.b.y) := ⟨(H1.out.2.2.ext E2).cell 0, (H1.out.2.2.ext E2).cell 1, (H1.out.2.2.ext E2).cell 2, (H1.out.2.2.ext E2).cell 3⟩
  clear E2 B2
  obtain ⟨how2, hhow⟩ : ∃ h2, IntKind.i64.wrap (how + 1) = h2 := ⟨_, rfl⟩
  have HW2 := Lib.hid (show Int64 how2 by rw [← hhow]; exact int64_wrap _)
  go_wp2_with fail
  refine (rSpoilt_c t how2 b' _ HW2.out).mono ?_
  rintro e w3 ⟨worse, rfl, hx3⟩
  obtain ⟨G3, hG3⟩ : ∃ G, w3.heap.size = G := ⟨_, rfl⟩
  have HX3 := Lib.hid hx3
  clear hx3 t0 t1 t2 t3
  go_upto_region 4 with fail
  try rw [hG3]
  refine wp_gen (fun W => Ext W2 W ∧ Blk W G3 worse.cs 25) ⟨HX3.out.alloc _, Blk.at worse.cs 25 hG3.symm⟩ ?_
  clear hG3 HX3 hhow
  rintro W3 ⟨E3, B3⟩
  obtain ⟨D1, hD1⟩ : ∃ D, W3.heap.size = D := ⟨_, rfl⟩
  obtain ⟨V1, hV1⟩ : ∃ V, W3.alloc (.cells (cs4 s bad worse t) 25) = V := ⟨_, rfl⟩
  have F1 : Ext W3 V1 := by rw [← hV1]; exact (Ext.refl _).alloc _
  have A1 : Blk V1 D1 (cs4 s bad worse t) 25 := by rw [← hV1]; exact Blk.at _ _ hD1.symm
  obtain ⟨D2, hD2⟩ : ∃ D, V1.heap.size = D := ⟨_, rfl⟩
  obtain ⟨V2, hV2⟩ : ∃ V, V1.alloc (.cells #[.int .i64 s.a.x, .int .i64 s.a.y, .int .i64 bad.a.x, .int .i64 bad.a.y] 23) = V := ⟨_, rfl⟩
  have F2 : Ext V1 V2 := by rw [← hV2]; exact (Ext.refl _).alloc _
  have A2 : Blk V2 D2 #[.int .i64 s.a.x, .int .i64 s.a.y, .int .i64 bad.a.x, .int .i64 bad.a.y] 23 := by rw [← hV2]; exact Blk.at _ _ hD2.symm
  obtain ⟨D3, hD3⟩ : ∃ D, V2.heap.size = D := ⟨_, rfl⟩
  obtain ⟨V3, hV3⟩ : ∃ V, V2.alloc (.cells #[.int .i64 worse.b.x, .int .i64 worse.b.y, .int .i64 t.a.x, .int .i64 t.a.y] 23) = V := ⟨_, rfl⟩
  have F3 : Ext V2 V3 := by rw [← hV3]; exact (Ext.refl _).alloc _
  have A3 : Blk V3 D3 #[.int .i64 worse.b.x, .int .i64 worse.b.y, .int .i64 t.a.x, .int .i64 t.a.y] 23 := by rw [← hV3]; exact Blk.at _ _ hD3.symm
  obtain ⟨D4, hD4⟩ : ∃ D, V3.heap.size = D := ⟨_, rfl⟩
  obtain ⟨V4, hV4⟩ : ∃ V, V3.alloc (.cells #[.slice none 0 0, .slice (some ⟨D2, 0, none⟩) 2 2, .slice (some ⟨D3, 0, none⟩) 2 2] 30) = V := ⟨_, rfl⟩
  have F4 : Ext V3 V4 := by rw [← hV4]; exact (Ext.refl _).alloc _
  have A4 : Blk V4 D4 #[.slice none 0 0, .slice (some ⟨D2, 0, none⟩) 2 2, .slice (some ⟨D3, 0, none⟩) 2 2] 30 := by rw [← hV4]; exact Blk.at _ _ hD4.symm
  have HD := Lib.hid (And.intro hD1 (And.intro hV1 (And.intro hD2 (And.intro hV2 (And.intro hD3 (And.intro hV3 (And.intro hD4 hV4)))))))
  have E23 : Ext W1 W3 := H2.out.1.trans E3
  have HSb := H1.out.2.1.ext E23
  have HBb := H2.out.2.ext E3
  have HTb := H1.out.2.2.ext E23
  have H4 := Lib.hid (show GAt encSg V4 D1 [s, bad, worse, t] ∧ PtS V4 (some ⟨D2, 0, none⟩) 2 2 [s.a, bad.a] ∧ PtS V4 (some ⟨D3, 0, none⟩) 2 2 [worse.b, t.a] ∧ Blk V4 D4 #[.slice none 0 0, .slice (some ⟨D2, 0, none⟩) 2 2, .slice (some ⟨D3, 0, none⟩) 2 2] 30 ∧ Blk V4 (G + 1) t.cs 25 ∧ Ext w V4 from
    ⟨A1.four4.ext (F2.trans (F3.trans F4)), (A2.ptS2 (p := s.a) (q := bad.a)).ext (F3.trans F4), (A3.ptS2 (p := worse.b) (q := t.a)).ext F4, A4, HTb.ext (F1.trans (F2.trans (F3.trans F4))), H1.out.1.trans (E23.trans (F1.trans (F2.trans (F3.trans F4))))⟩)
  obtain ⟨a0, a1, a2, a3⟩ : W3.cell? ⟨G, 0, none⟩ = some (.int .i64 s.a.x) ∧ W3.cell? ⟨G, 1, none⟩ = some (.int .i64 s.a.y) ∧ W3.cell? ⟨G, 2, none⟩ = some (.int .i64 s.b.x) ∧ W3.cell? ⟨G, 3, none⟩ = some (.int .i64 s.b.y) := ⟨HSb.cell 0, HSb.cell 1, HSb.cell 2, HSb.cell 3⟩
  obtain ⟨b0, b1, b2, b3⟩ : W3.cell? ⟨G2, 0, none⟩ = some (.int .i64 bad.a.x) ∧ W3.cell? ⟨G2, 1, none⟩ = some (.int .i64 bad.a.y) ∧ W3.cell? ⟨G2, 2, none⟩ = some (.int .i64 bad.b.x) ∧ W3.cell? ⟨G2, 3, none⟩ = some (.int .i64 bad.b.y) := ⟨HBb.cell 0, HBb.cell 1, HBb.cell 2, HBb.cell 3⟩
  obtain ⟨c0, c1, c2, c3⟩ : W3.cell? ⟨G3, 0, none⟩ = some (.int .i64 worse.a.x) ∧ W3.cell? ⟨G3, 1, none⟩ = some (.int .i64 worse.a.y) ∧ W3.cell? ⟨G3, 2, none⟩ = some (.int .i64 worse.b.x) ∧ W3.cell? ⟨G3, 3, none⟩ = some (.int .i64 worse.b.y) := ⟨B3.cell 0, B3.cell 1, B3.cell 2, B3.cell 3⟩
  obtain ⟨d0, d1, d2, d3⟩ : W3.cell? ⟨(G + 1), 0, none⟩ = some (.int .i64 t.a.x) ∧ W3.cell? ⟨(G + 1), 1, none⟩ = some (.int .i64 t.a.y) ∧ W3.cell? ⟨(G + 1), 2, none⟩ = some (.int .i64 t.b.x) ∧ W3.cell? ⟨(G + 1), 3, none⟩ = some (.int .i64 t.b.y) := ⟨HTb.cell 0, HTb.cell 1, HTb.cell 2, HTb.cell 3⟩
  have e0 := F1.cell a0; have e1 := F1.cell a1
  have e2 := F1.cell b0; have e3 := F1.cell b1
  have e4 := F2.cell (F1.cell c2); have e5 := F2.cell (F1.cell c3)
  have e6 := F2.cell (F1.cell d0); have e7 := F2.cell (F1.cell d1)
  clear hD1 hV1 F1 A1 hD2 hV2 F2 A2 hD3 hV3 F3 A3 hD4 hV4 F4 A4 E3 B3 E23 HSb HBb HTb
  go_wp2_with (first | (refine wpList_plain rfl fun _ hK => wp_build4S s bad worse t _ _ _ _ rfl rfl rfl rfl rfl (hK _ _ ?_); rw [HD.out.1, HD.out.2.1]) | (refine wpList_plain rfl fun _ hK => wp_build2Pt s.a bad.a _ _ rfl rfl rfl (hK _ _ ?_); rw [HD.out.2.2.1, HD.out.2.2.2.1]) | (refine wpList_plain rfl fun _ hK => wp_build2Pt worse.b t.a _ _ rfl rfl rfl (hK _ _ ?_); rw [HD.out.2.2.2.2.1, HD.out.2.2.2.2.2.1]) | (refine wpList_plain rfl fun _ hK => wp_build3L (.slice none 0 0) (.slice (some ⟨D2, 0, none⟩) 2 2) (.slice (some ⟨D3, 0, none⟩) 2 2) _ _ _ rfl rfl rfl _ _ _ _ _ _ _ _ _ rfl rfl rfl rfl rfl rfl rfl (hK _ _ ?_); rw [HD.out.2.2.2.2.2.2.1, HD.out.2.2.2.2.2.2.2]))
  clear a0 a1 a2 a3 b0 b1 b2 b3 c0 c1 c2 c3 d0 d1 d2 d3 e0 e1 e2 e3 e4 e5 e6 e7
  have hgt := HT.out.ga
  obtain ⟨g1, g2, g3, g4⟩ := hgt
  have HGT := Lib.hid (And.intro g1 (And.intro g2 (And.intro g3 g4)))
  have HSM := Lib.hid (SmP.grid HT.out.ga)
  clear g1 g2 g3 g4
  go_loopw [17] (fun v ws => ∃ i : Nat, i ≤ 4 ∧ v = .int .i64 (i : Int) ∧ Ext V4 ws) (fun v _ => 4 - (intOf v).toNat)
  case atStart => exact ⟨0, by omega, rfl, Ext.refl V4⟩
  case round =>
    obtain ⟨i, hi, rfl, hE⟩ := hrel
    have HW := Lib.hid hE
    by_cases hlt : i < 4
    · obtain ⟨p, hp⟩ : ∃ p, [s, bad, worse, t][i]? = some p := ⟨_, List.getElem?_eq_getElem (by show i < 4; omega)⟩
      have HP := Lib.hid (fun W (e : Ext wr W) => (show W.cell? ⟨D1, i * 4, none⟩ = some (.int .i64 p.a.x) ∧ W.cell? ⟨D1, i * 4 + 1, none⟩ = some (.int .i64 p.a.y) ∧ W.cell? ⟨D1, i * 4 + 2, none⟩ = some (.int .i64 p.b.x) ∧ W.cell? ⟨D1, i * 4 + 3, none⟩ = some (.int .i64 p.b.y) from ((H4.out.1.ext hE).ext e).sg4 hp))
      have HTC := Lib.hid (fun W (e : Ext wr W) => (show W.cell? ⟨(G + 1), 0, none⟩ = some (.int .i64 t.a.x) ∧ W.cell? ⟨(G + 1), 1, none⟩ = some (.int .i64 t.a.y) ∧ W.cell? ⟨(G + 1), 2, none⟩ = some (.int .i64 t.b.x) ∧ W.cell? ⟨(G + 1), 3, none⟩ = some (.int .i64 t.b.y) from ⟨((H4.out.2.2.2.2.1.ext hE).ext e).cell 0, ((H4.out.2.2.2.2.1.ext hE).ext e).cell 1, ((H4.out.2.2.2.2.1.ext hE).ext e).cell 2, ((H4.out.2.2.2.2.1.ext hE).ext e).cell 3⟩))
      obtain ⟨q0, q1, q2, q3⟩ := HP.out wr (Ext.refl wr)
      obtain ⟨v, hv⟩ : ∃ v, segE p = v := ⟨_, rfl⟩
      have HV := Lib.hid hv
      obtain ⟨bo, hbo⟩ : ∃ bo, (onR p t.a.q).1 = bo := ⟨_, rfl⟩
      have HON := Lib.hid (show onR p t.a.q = (bo, v) by rw [← hbo, ← hv, ← onR_err p t.a.q])
      have i0 : (0 : Int) ≤ (i : Int) := by omega
      have i1 : (i : Int) < 4 := by omega
      have i2 : ¬ (i : Int) < 0 := by omega
      clear hp hv hbo hE
      go_wp2_with fail
      refine (cNormalE_c p _).mono ?_
      rw [HV.out]
      rintro e w5 ⟨r5, rfl, hx5⟩
      have HX5 := Lib.hid hx5
      clear hx5 q0 q1 q2 q3
      go_upto_region 10 with fail
      refine wp_gen (fun W => Ext wr W) (HX5.out.alloc _) ?_
      rintro W5 hx5
      have HX5 := Lib.hid hx5
      clear hx5
      refine wp_region_held_drew (S := fun W => Ext wr W) (by kernel_rfl) (HX5.out.drew) (fun hHeld => ?_)
      refine tkW (i := 0) (h := ?_)
      refine tkW (i := 1) (h := ?_)
      refine tkW (i := 2) (h := ?_)
      refine tkL (i := 3) (H := HP) (h := ?_)
      refine tkW (i := 4) (h := ?_)
      refine tkL (i := 5) (H := HTC) (h := ?_)
      refine ckL (i := 6) (h := fun K hK => ?_); go_simp; go_at_call 15; refine (pOf_q t.a _ (by have := HGT.out.1; omega) (by have := HGT.out.2.1; omega) (by have := HGT.out.2.2.1; omega) (by have := HGT.out.2.2.2; omega)).mono ?_; rintro e v6 ⟨f, rfl, hf, hx6⟩; go_wp2_with fail; refine shG hK (h := ?_); clear hK K; intro hHeld
      refine ckL (i := 7) (h := fun K hK => ?_); go_simp; go_at_call 14; refine (cOn_c p f t.a.q _ hf HSM.out.x HSM.out.y).mono ?_; rw [HON.out]; rintro e v7 ⟨rfl, hx7⟩; go_wp2_with fail; refine shG hK (h := ?_); clear hK K; intro hHeld
      have HX7 := Lib.hid (show Ext wr v7 by assumption)
      clear hf hx6 hx7
      refine tkW (i := 8) (h := ?_)
      refine tkW (i := 9) (h := ?_)
      refine tkW (i := 10) (h := ?_)
      refine tkW (i := 11) (h := ?_)
      refine tkW (i := 12) (h := ?_)
      refine doneL (by kernel_rfl) ?_
      clear hHeld
      go_upto_region 11 with fail
      refine wp_region_held_drew (S := fun W => Ext wr W) (by kernel_rfl) (HX7.out.drew) (fun hHeld => ?_)
      refine tkW (i := 0) (h := ?_)
      refine tkW (i := 1) (h := ?_)
      refine tkW (i := 2) (h := ?_)
      refine tkL (i := 3) (H := HP) (h := ?_)
      refine tkW (i := 5) (h := ?_)
      refine tkW (i := 6) (h := ?_)
      refine tkW (i := 7) (h := ?_)
      refine tkL (i := 8) (H := HP) (h := ?_)
      refine ckL (i := 4) (h := fun K hK => ?_); go_simp; go_at_call 16; refine (cValid_c p _).mono ?_; rw [HV.out]; rintro e v8 ⟨rfl, hx8⟩; go_wp2_with fail; refine shG hK (h := ?_); clear hK K; intro hHeld
      refine ckL (i := 9) (h := fun K hK => ?_); go_simp; go_at_call 17; refine (rValid_c p _).mono ?_; rw [HV.out]; rintro e v9 ⟨rfl, hx9⟩; go_wp2_with fail; refine shG hK (h := ?_); clear hK K; intro hHeld
      refine tkW (i := 10) (h := ?_)
      refine tkW (i := 11) (h := ?_)
      refine tkW (i := 12) (h := ?_)
      refine tkW (i := 13) (h := ?_)
      refine tkW (i := 14) (h := ?_)
      refine tkW (i := 15) (h := ?_)
      refine tkL (i := 16) (H := HP) (h := ?_)
      refine ckL (i := 17) (h := fun K hK => ?_); go_simp; go_at_call 17; refine (rValid_c p _).mono ?_; rw [HV.out]; rintro e v10 ⟨rfl, hx10⟩; go_wp2_with fail; refine shG hK (h := ?_); clear hK K; intro hHeld
      refine tkW (i := 18) (h := ?_)
      refine tkW (i := 19) (h := ?_)
      refine tkW (i := 20) (h := ?_)
      refine tkW (i := 21) (h := ?_)
      refine tkW (i := 22) (h := ?_)
      refine tkW (i := 23) (h := ?_)
      refine tkW (i := 24) (h := ?_)
      refine tkL (i := 25) (H := HP) (h := ?_)
      refine ckL (i := 26) (h := fun K hK => ?_); go_simp; go_at_call 17; refine (rValid_c p _).mono ?_; rw [HV.out]; rintro e v11 ⟨rfl, hx11⟩; go_wp2_with fail; refine shG hK (h := ?_); clear hK K; intro hHeld
      have HX11 := Lib.hid (show Ext wr v11 by assumption)
      clear hx8 hx9 hx10 hx11
      refine tkW (i := 27) (h := ?_)
      refine tkW (i := 28) (h := ?_)
      refine doneL (by kernel_rfl) ?_
      clear hHeld
      go_wp2_with fail
      go_loopw [22] (fun v ws => ∃ j : Nat, j ≤ 4 ∧ v = .int .i64 (j : Int) ∧ Ext v11 ws) (fun v _ => 4 - (intOf v).toNat)
      case atStart => exact ⟨0, by omega, rfl, Ext.refl v11⟩
      case round =>
        rename World => wy
        rename_i hrel
        obtain ⟨j, hj, rfl, hE⟩ := hrel
        have HY := Lib.hid hE
        by_cases hltj : j < 4
        · obtain ⟨q, hq⟩ : ∃ q, [s, bad, worse, t][j]? = some q := ⟨_, List.getElem?_eq_getElem (by show j < 4; omega)⟩
          have HQP := Lib.hid (fun W (e : Ext wy W) => (show (W.cell? ⟨D1, i * 4, none⟩ = some (.int .i64 p.a.x) ∧ W.cell? ⟨D1, i * 4 + 1, none⟩ = some (.int .i64 p.a.y) ∧ W.cell? ⟨D1, i * 4 + 2, none⟩ = some (.int .i64 p.b.x) ∧ W.cell? ⟨D1, i * 4 + 3, none⟩ = some (.int .i64 p.b.y)) ∧ W.cell? ⟨D1, j * 4, none⟩ = some (.int .i64 q.a.x) ∧ W.cell? ⟨D1, j * 4 + 1, none⟩ = some (.int .i64 q.a.y) ∧ W.cell? ⟨D1, j * 4 + 2, none⟩ = some (.int .i64 q.b.x) ∧ W.cell? ⟨D1, j * 4 + 3, none⟩ = some (.int .i64 q.b.y) from ⟨HP.out W ((HX11.out.trans hE).trans e), (((H4.out.1.ext HW.out).ext (HX11.out.trans hE)).ext e).sg4 hq⟩))
          have HTC2 := Lib.hid (fun W (e : Ext wy W) => HTC.out W ((HX11.out.trans hE).trans e))
          obtain ⟨fe, hfe⟩ : ∃ fe, firstS [p, q] = fe := ⟨_, rfl⟩
          have HFE := Lib.hid (show (meetR p q).2 = fe ∧ partsE p [q] [] = fe from ⟨(meetR_err p q).trans hfe, (partsE_nil p q).trans hfe⟩)
          have j0 : (0 : Int) ≤ (j : Int) := by omega
          have j1 : (j : Int) < 4 := by omega
          have j2 : ¬ (j : Int) < 0 := by omega
          clear hq hfe hE
          go_upto_region 16 with fail
          go_cut [23, 24] (fun s23 s24 wx => ∃ J : Nat, s23 = .pointer (some ⟨J, 0, none⟩) ∧ s24 = .int .i64 fe ∧ Ext wy wx)
          case first =>
            refine wp_region_held_drew (S := fun W => Ext wy W) (by kernel_rfl) ((Ext.refl wy).drew) (fun hHeld => ?_)
            refine tkW (i := 0) (h := ?_)
            refine tkW (i := 1) (h := ?_)
            refine tkW (i := 2) (h := ?_)
            refine tkL (i := 3) (H := HQP) (h := ?_)
            refine tkW (i := 4) (h := ?_)
            refine tkW (i := 5) (h := ?_)
            refine tkW (i := 6) (h := ?_)
            refine tkL (i := 7) (H := HQP) (h := ?_)
            refine cons2L (i := 8) (j := 12) (by kernel_rfl) rfl rfl (fun K hK => ?_) (fun K hK => ?_)
            · go_simp
              go_at_call 18; refine (cMeet_c p q _).mono ?_; rw [HFE.out.1]; rintro e w6 ⟨c, rfl, -, hx6⟩
              have hE6 : Ext wy w6 := hHeld.trans hx6
              go_wp2_with fail
              refine hK.out _ _ hE6 ?_
              clear hK K hHeld
              intro hHeld
              (try simp only [Act.put, List.setIfInBounds_toArray, List.set_cons_zero, List.set_cons_succ])
              refine tkW (i := 9) (h := ?_)
              refine tkW (i := 10) (h := ?_)
              refine tkW (i := 11) (h := ?_)
              obtain ⟨J, hJ⟩ : ∃ J, w6.heap.size = J := ⟨_, rfl⟩
              have HB := Lib.hid (show Blk (w6.alloc (.cells zCV.cs 47)) J zCV.cs 47 from Blk.at zCV.cs 47 hJ.symm)
              have hE7 : Ext wy (w6.alloc (.cells zCV.cs 47)) := hE6.alloc _
              obtain ⟨RB, RI, RX⟩ := row_cut hE7 HB.out (by rw [← hJ]; exact hE6.size) c
              refine ckL (i := 12) (h := fun K hK => ?_)
              go_simp
              refine hK.out _ _ hE7 ?_
              clear hK K hHeld
              intro hHeld
              (try simp only [Act.put, List.setIfInBounds_toArray, List.set_cons_zero, List.set_cons_succ])
              refine ckL (i := 13) (h := fun K hK => ?_)
              rw [if_pos (show Region.wanted _ _ = true by rfl)]
              try rw [hJ]
              refine wp_store_row _ _ _ rfl J c.cs rfl rfl 47 _ HB.out (by kernel_rfl) rfl (all_one _ rfl) ?_
              refine hK.out _ _ RX ?_
              clear hK K hHeld
              intro hHeld
              (try simp only [Act.put, List.setIfInBounds_toArray, List.set_cons_zero, List.set_cons_succ])
              refine tkW (i := 14) (h := ?_)
              refine doneL (by kernel_rfl) ?_
              go_wp2_with fail
              go_meet
              exact ⟨J, rfl, rfl, RX⟩
            · go_simp
              obtain ⟨J, hJ⟩ : ∃ J, wy.heap.size = J := ⟨_, rfl⟩
              have hE5 : Ext wy (wy.drew.alloc (.cells zCV.cs 47)) := (Ext.refl wy).drew.alloc _
              have B0 : Blk (wy.drew.alloc (.cells zCV.cs 47)) J zCV.cs 47 := Blk.at zCV.cs 47 hJ.symm
              refine hK.out _ _ hE5 ?_
              clear hK K hHeld
              intro hHeld
              (try simp only [Act.put, List.setIfInBounds_toArray, List.set_cons_zero, List.set_cons_succ])
              try rw [hJ]
              refine ckL (i := 8) (h := fun K hK => ?_)
              go_simp
              go_at_call 18; refine (cMeet_c p q _).mono ?_; rw [HFE.out.1]; rintro e w6 ⟨c, rfl, -, hx6⟩
              have hE6 : Ext wy w6 := hE5.trans hx6
              have HB := Lib.hid (B0.ext hx6)
              obtain ⟨RB, RI, RX⟩ := row_cut hE6 HB.out (by omega) c
              go_wp2_with fail
              refine hK.out _ _ hE6 ?_
              clear hK K hHeld
              intro hHeld
              (try simp only [Act.put, List.setIfInBounds_toArray, List.set_cons_zero, List.set_cons_succ])
              refine tkW (i := 9) (h := ?_)
              refine tkW (i := 10) (h := ?_)
              refine tkW (i := 11) (h := ?_)
              refine ckL (i := 13) (h := fun K hK => ?_)
              rw [if_pos (show Region.wanted _ _ = true by rfl)]
              refine wp_store_row _ _ _ rfl J c.cs rfl rfl 47 _ HB.out (by kernel_rfl) rfl (all_one _ rfl) ?_
              refine hK.out _ _ RX ?_
              clear hK K hHeld
              intro hHeld
              (try simp only [Act.put, List.setIfInBounds_toArray, List.set_cons_zero, List.set_cons_succ])
              refine tkW (i := 14) (h := ?_)
              refine doneL (by kernel_rfl) ?_
              go_wp2_with fail
              go_meet
              exact ⟨J, rfl, rfl, RX⟩
          case rest =>
            obtain ⟨J, rfl, rfl, hEc⟩ := hcut
            have HEC := Lib.hid hEc
            clear hEc
            go_upto_region 17 with fail
            refine wp_region_held_drew (S := fun W => Ext wy W) (by kernel_rfl) (HEC.out.drew) (fun hHeld => ?_)
            refine tkW (i := 0) (h := ?_)
            refine tkW (i := 1) (h := ?_)
            refine tkW (i := 2) (h := ?_)
            refine tkW (i := 3) (h := ?_)
            refine tkL (i := 4) (H := HQP) (h := ?_)
            refine tkW (i := 5) (h := ?_)
            refine tkW (i := 6) (h := ?_)
            refine tkW (i := 7) (h := ?_)
            refine tkL (i := 8) (H := HQP) (h := ?_)
            refine ckL (i := 9) (h := fun K hK => ?_)
            rw [if_pos (show Region.wanted _ _ = true by rfl)]
            refine wp_buildS q _ rfl rfl ?_
            obtain ⟨b2, hb2⟩ : ∃ b, wc.drew.heap.size = b := ⟨_, rfl⟩
            have HB2 := Lib.hid (Blk.at q.cs 25 hb2.symm)
            have HY2 := Lib.hid ((Ext.refl wc).drew.alloc (.cells q.cs 25))
            rw [hb2]
            clear hb2
            generalize wc.drew.alloc (.cells q.cs 25) = v6 at *
            refine hK.out _ _ (HEC.out.trans HY2.out) ?_
            clear hK K hHeld
            intro hHeld
            (try simp only [Act.put, List.setIfInBounds_toArray, List.set_cons_zero, List.set_cons_succ])
            refine ckL (i := 10) (h := fun K hK => ?_); go_simp; go_at_call 19; refine (rCheck_c p _ 1 1 [q] none 0 0 [] _ HB2.out.sgS1 (GSl.nil _ _) (by omega) (by omega)).mono ?_; rw [HFE.out.2]; rintro e v8 ⟨rfl, hx8⟩; go_wp2_with fail; refine shG hK (h := ?_); clear hK K; intro hHeld
            have HX8 := Lib.hid (show Ext wy v8 by assumption)
            clear hx8
            refine tkW (i := 11) (h := ?_)
            refine doneL (by kernel_rfl) ?_
            clear hHeld
            go_wp2_with fail
            go_loopw [25] (fun v ws => ∃ z : Nat, z ≤ 3 ∧ v = .int .i64 (z : Int) ∧ Ext v8 ws) (fun v _ => 3 - (intOf v).toNat)
            case atStart => exact ⟨0, by omega, rfl, Ext.refl v8⟩
            case round =>
              rename World => wz
              rename_i hrel
              obtain ⟨z, hz, rfl, hE⟩ := hrel
              have HZ := Lib.hid hE
              by_cases hltz : z < 3
              · obtain ⟨a2, n2, ps, hpc, hps, hn2⟩ : ∃ (a2 : Option Addr) (n2 : Nat) (ps : List Pt), V4.cell? ⟨D4, z, none⟩ = some (.slice a2 n2 n2) ∧ PtS V4 a2 n2 n2 ps ∧ n2 ≤ 2 := by
                  match z, hltz with
                  | 0, _ => exact ⟨none, 0, [], H4.out.2.2.2.1.cell 0, GSl.nil _ _, by omega⟩
                  | 1, _ => exact ⟨_, 2, _, H4.out.2.2.2.1.cell 1, H4.out.2.1, by omega⟩
                  | 2, _ => exact ⟨_, 2, _, H4.out.2.2.2.1.cell 2, H4.out.2.2.1, by omega⟩
                have HE4 := Lib.hid (show Ext V4 wz from HW.out.trans (HX11.out.trans (HY.out.trans (HX8.out.trans hE))))
                have HPS := Lib.hid (And.intro (hps.ext HE4.out) hn2)
                have HPT := Lib.hid (fun W (e : Ext wz W) => (show W.cell? ⟨D4, z, none⟩ = some (.slice a2 n2 n2) ∧ True from ⟨(HE4.out.trans e).cell hpc, trivial⟩))
                have HQ3 := Lib.hid (fun W (e : Ext wz W) => HQP.out W ((HX8.out.trans hE).trans e))
                have HT3 := Lib.hid (fun W (e : Ext wz W) => HTC2.out W ((HX8.out.trans hE).trans e))
                obtain ⟨pe, hpe⟩ : ∃ pe, partsE p [t, q] ps = pe := ⟨_, rfl⟩
                have HPE := Lib.hid hpe
                have z0 : (0 : Int) ≤ (z : Int) := by omega
                have z1 : (z : Int) < 3 := by omega
                have z2 : ¬ (z : Int) < 0 := by omega
                clear hpc hps hn2 hpe hE
                go_upto_region 22 with fail
                refine wp_region_held_drew (S := fun W => Ext wz W) (by kernel_rfl) ((Ext.refl wz).drew) (fun hHeld => ?_)
                refine tkW (i := 0) (h := ?_)
                refine tkW (i := 1) (h := ?_)
                refine tkW (i := 2) (h := ?_)
                refine tkL (i := 3) (H := HQ3) (h := ?_)
                refine tkL (i := 4) (H := HT3) (h := ?_)
                refine tkW (i := 5) (h := ?_)
                refine tkW (i := 6) (h := ?_)
                refine tkW (i := 7) (h := ?_)
                refine tkL (i := 8) (H := HQ3) (h := ?_)
                refine tkW (i := 10) (h := ?_)
                refine tkW (i := 11) (h := ?_)
                refine tkW (i := 12) (h := ?_)
                refine tkL (i := 13) (H := HPT) (h := ?_)
                refine ckL (i := 9) (h := fun K hK => ?_)
                rw [if_pos (show Region.wanted _ _ = true by rfl)]
                refine wp_build2S t q _ _ rfl rfl rfl ?_; obtain ⟨d2, hb2⟩ : ∃ b, (wz.drew).heap.size = b := ⟨_, rfl⟩; have HBa := Lib.hid (Blk.at (t.cs ++ q.cs) 25 hb2.symm); have HYa := Lib.hid ((Ext.refl _).alloc (.cells (t.cs ++ q.cs) 25) : Ext (wz.drew) ((wz.drew).alloc (.cells (t.cs ++ q.cs) 25))); rw [hb2]; clear hb2; generalize (wz.drew).alloc (.cells (t.cs ++ q.cs) 25) = va at *
                refine hK.out _ _ ((Ext.refl wz).drew.trans HYa.out) ?_
                clear hK K hHeld
                intro hHeld
                (try simp only [Act.put, List.setIfInBounds_toArray, List.set_cons_zero, List.set_cons_succ])
                refine ckL (i := 14) (h := fun K hK => ?_); go_simp; go_at_call 20; refine (Parts_c p _ 2 2 [t, q] a2 n2 n2 ps _ (⟨rfl, Nat.le_refl _, by rw [maxLen]; omega, .inr ⟨d2, rfl, HBa.out.two4, HBa.out.lt⟩⟩) (HPS.out.1.ext (by assumption)) (by omega) (by have := HPS.out.2; omega)).mono ?_; rintro e v9 ⟨pa, pn, pc, rfl, hx9, hp0, -⟩; rw [HPE.out] at hp0 ⊢; go_wp2_with fail; refine shG hK (h := ?_); clear hK K; intro hHeld
                have HX9 := Lib.hid (show Ext wz v9 by assumption)
                have HP0 := Lib.hid hp0
                clear hx9 hp0
                refine tkW (i := 15) (h := ?_)
                refine tkW (i := 16) (h := ?_)
                refine tkW (i := 17) (h := ?_)
                refine tkW (i := 18) (h := ?_)
                refine tkW (i := 19) (h := ?_)
                refine doneL (by kernel_rfl) ?_
                clear hHeld
                go_upto_region 23 with fail
                refine wp_region_held_drew (S := fun W => Ext wz W) (by kernel_rfl) (HX9.out.drew) (fun hHeld => ?_)
                refine tkW (i := 0) (h := ?_)
                refine tkW (i := 1) (h := ?_)
                refine tkW (i := 2) (h := ?_)
                refine tkW (i := 3) (h := ?_)
                refine tkL (i := 4) (H := HQ3) (h := ?_)
                refine tkL (i := 5) (H := HT3) (h := ?_)
                refine tkW (i := 6) (h := ?_)
                refine tkW (i := 7) (h := ?_)
                refine tkW (i := 8) (h := ?_)
                refine tkL (i := 9) (H := HQ3) (h := ?_)
                refine tkW (i := 11) (h := ?_)
                refine tkW (i := 12) (h := ?_)
                refine tkW (i := 13) (h := ?_)
                refine tkL (i := 14) (H := HPT) (h := ?_)
                refine ckL (i := 10) (h := fun K hK => ?_)
                rw [if_pos (show Region.wanted _ _ = true by rfl)]
                refine wp_build2S t q _ _ rfl rfl rfl ?_; obtain ⟨d3, hb2⟩ : ∃ b, (v9.drew).heap.size = b := ⟨_, rfl⟩; have HBb := Lib.hid (Blk.at (t.cs ++ q.cs) 25 hb2.symm); have HYb := Lib.hid ((Ext.refl _).alloc (.cells (t.cs ++ q.cs) 25) : Ext (v9.drew) ((v9.drew).alloc (.cells (t.cs ++ q.cs) 25))); rw [hb2]; clear hb2; generalize (v9.drew).alloc (.cells (t.cs ++ q.cs) 25) = vb at *
                refine hK.out _ _ (HX9.out.drew.trans HYb.out) ?_
                clear hK K hHeld
                intro hHeld
                (try simp only [Act.put, List.setIfInBounds_toArray, List.set_cons_zero, List.set_cons_succ])
                refine ckL (i := 15) (h := fun K hK => ?_); go_simp; go_at_call 19; refine (rCheck_c p _ 2 2 [t, q] a2 n2 n2 ps _ (⟨rfl, Nat.le_refl _, by rw [maxLen]; omega, .inr ⟨d3, rfl, HBb.out.two4, HBb.out.lt⟩⟩) (HPS.out.1.ext (by assumption)) (by omega) (by have := HPS.out.2; omega)).mono ?_; rw [HPE.out]; rintro e v12 ⟨rfl, hx12⟩; go_wp2_with fail; refine shG hK (h := ?_); clear hK K; intro hHeld
                have HX12 := Lib.hid (show Ext wz v12 by assumption)
                clear hx12
                refine tkW (i := 16) (h := ?_)
                refine tkW (i := 17) (h := ?_)
                by_cases hp1 : pe = 0
                · subst hp1
                  refine tkW (i := 18) (h := ?_)
                  refine tkW (i := 19) (h := ?_)
                  refine tkW (i := 20) (h := ?_)
                  refine tkN (i := 21) (h := ?_)
                  refine tkN (i := 22) (h := ?_)
                  refine tkN (i := 23) (h := ?_)
                  refine tkW (i := 24) (h := ?_)
                  refine tkW (i := 25) (h := ?_)
                  refine doneL (by kernel_rfl) ?_
                  clear hHeld
                  go_wp2_with fail
                  go_roundw
                  case rel => exact ⟨z + 1, by omega, by go_num, HZ.out.trans HX12.out⟩
                  case measure => simp [intOf]; omega
                · obtain rfl : pn = 0 := HP0.out hp1
                  have hp2 : (pe != 0) = true := by rw [bne_iff_ne]; exact hp1
                  clear hp1
                  refine tkW (i := 18) (h := ?_)
                  refine tkW (i := 19) (h := ?_)
                  refine tkW (i := 20) (h := ?_)
                  refine tkW (i := 21) (h := ?_)
                  refine tkW (i := 22) (h := ?_)
                  refine tkW (i := 23) (h := ?_)
                  refine tkW (i := 24) (h := ?_)
                  refine tkW (i := 25) (h := ?_)
                  refine doneL (by kernel_rfl) ?_
                  clear hHeld
                  go_wp2_with fail
                  go_roundw
                  case rel => exact ⟨z + 1, by omega, by go_num, HZ.out.trans HX12.out⟩
                  case measure => simp [intOf]; omega
              · have hzn : ¬ (z : Int) < 3 := by omega
                clear hE
                go_wp2_with fail
                go_roundw
                case rel => exact ⟨j + 1, by omega, by go_num, HY.out.trans (HX8.out.trans HZ.out)⟩
                case measure => simp [intOf]; omega
        · have hjn : ¬ (j : Int) < 4 := by omega
          clear hE
          go_wp2_with fail
          go_roundw
          case rel => exact ⟨i + 1, by omega, by go_num, HW.out.trans (HX11.out.trans HY.out)⟩
          case measure => simp [intOf]; omega
    · have hin : ¬ (i : Int) < 4 := by omega
      clear hE
      go_wp2_with fail
      refine (llives_c _).mono ?_
      rintro e w9 ⟨rfl, hx9⟩
      have HX9 := Lib.hid hx9
      clear hx9
      go_wp2_with fail
      go_ret
      exact ⟨rfl, H4.out.2.2.2.2.2.trans (HW.out.trans HX9.out)⟩
theorem int64_of_wf {n : Int} (h : (Lit.int .i64 n).wf = true) : Int64 n := by
  simp [Lit.wf, IntKind.min, IntKind.max, IntKind.signed, IntKind.bits] at h
  unfold Int64; omega
end Go.Proofs.Ytagiaiocgjagnaa
