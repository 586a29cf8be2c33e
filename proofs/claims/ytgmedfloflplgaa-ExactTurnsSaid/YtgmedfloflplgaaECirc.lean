/- exact: Circle. -/
import Derived.Test.YtgmedfloflplgaaECirc1
import Derived.Test.YtgmedfloflplgaaECircF
namespace Go.Proofs.Ytgmedfloflplgaa
open Go.RowKit

theorem news_at2 {w : World} {b : Nat} {x y : Value} (h0 : w.cell? ⟨b, 0, none⟩ = some x) (h1 : w.cell? ⟨b, 1, none⟩ = some y) : ∀ (j : Nat) (u : Value), ([x, y] : List Value)[j]? = some u → w.cell? ((⟨b, 0, none⟩ : Addr).add j) = some u := fun j u hu => by
  have hadd : (⟨b, 0, none⟩ : Addr).add j = ⟨b, j, none⟩ := by unfold Addr.add; split <;> simp_all
  rw [hadd]
  match j with
  | 0 => rw [h0]; simpa using hu
  | 1 => rw [h1]; simpa using hu
  | j + 2 => simp at hu
theorem vecInfo : (Try.prog.info? 89).map (fun i => (i.zero, i.size, i.bytes)) = some (some (.slice none 0 0), 1, 24) := by kernel_rfl

theorem arr_start (w : World) (cs : Array Value) (t : TypeId) (b : Nat) (hcs : cs = #[.bool false, .slice none 0 0, .bool false, .slice none 0 0, .bool false, .slice none 0 0]) (h : Blk w b cs t) :
    Arr w b [⟨false, none, 0, 0⟩, ⟨false, none, 0, 0⟩, ⟨false, none, 0, 0⟩] [0, 0, 0] := by
  subst hcs
  refine ⟨rfl, h.own _ (by simp) (fun o x y => ?_), fun k hk => ?_⟩
  · match o with
    | 0 => simp
    | 1 => simp
    | 2 => simp
    | 3 => simp
    | 4 => simp
    | 5 => simp
    | o + 6 => simp
  · match k, hk with
    | 0, _ => exact ⟨h.cell 0, h.cell 1, isI_zero _⟩
    | 1, _ => exact ⟨h.cell 2, h.cell 3, isI_zero _⟩
    | 2, _ => exact ⟨h.cell 4, h.cell 5, isI_zero _⟩
    | k + 3, hk => simp at hk; omega
theorem Three.start (w : World) {a b c d : Pt} : Three (((w.alloc (.cells #[.bool false, .slice none 0 0, .bool false, .slice none 0 0, .bool false, .slice none 0 0] 86)).alloc (.cells #[.bool false, .slice none 0 0, .bool false, .slice none 0 0, .bool false, .slice none 0 0] 86)).alloc (.cells #[.bool false, .slice none 0 0, .bool false, .slice none 0 0, .bool false, .slice none 0 0] 86)) w.heap.size (w.heap.size + 1) (w.heap.size + 2) a b c d 0 :=
  ⟨_, _, _, _, _, _, rfl, rfl, rfl, arr_start _ _ 86 _ rfl (((Blk.at _ _ rfl).alloc _).alloc _), arr_start _ _ 86 _ rfl ((Blk.at _ _ (by simp)).alloc _), arr_start _ _ 86 _ rfl (Blk.at _ _ (by simp)), fun j hj => absurd hj (by omega)⟩
theorem index3 (a b c : Pt) (i : Nat) (hi : i < 3) : ∀ w, (Instr.index 87 (.agg #[.int .i64 a.x, .int .i64 a.y, .int .i64 b.x, .int .i64 b.y, .int .i64 c.x, .int .i64 c.y]) (.int .i64 (i : Int))).run Try.prog w = .ok (.agg #[.int .i64 (pt3 a b c i).x, .int .i64 (pt3 a b c i).y]) w := by
  match i, hi with
  | 0, _ => intro w; kernel_rfl
  | 1, _ => intro w; kernel_rfl
  | 2, _ => intro w; kernel_rfl
  | i + 3, hi => omega

theorem sq_small {x y : Int} (hx : x.natAbs ≤ 2147483648) (hy : y.natAbs ≤ 2147483648) {b1 b2 c1 c2 : Nat} {p1 p2 : List IV} :
    (∀ i, i < 2 → ∀ k, Sm (prodL ((([⟨b1, c1, p1, [x, x]⟩, ⟨b2, c2, p2, [y, y]⟩] : List Row1).getD i ⟨0, 0, [], []⟩).xs.take k))) ∧ (∀ i, Sm (sumL ((prods [⟨b1, c1, p1, [x, x]⟩, ⟨b2, c2, p2, [y, y]⟩]).take i))) := by
  have h1 := natAbs_mul_le hx hx
  have h2 := natAbs_mul_le hy hy
  refine ⟨fun i hi k => ?_, fun i => ?_⟩
  · match i, hi with
    | 0, _ => 
      match k with
      | 0 => simp [prodL, Sm]
      | 1 => simp [prodL, Sm]; omega
      | k + 2 => simp [prodL, Sm]; omega
    | 1, _ =>
      match k with
      | 0 => simp [prodL, Sm]
      | 1 => simp [prodL, Sm]; omega
      | k + 2 => simp [prodL, Sm]; omega
    | i + 2, hi => omega
  · match i with
    | 0 => simp [prods, sumL, Sm]
    | 1 => simp [prods, sumL, prodL, Sm]; omega
    | i + 2 => simp [prods, sumL, prodL, Sm]; omega

set_option maxRecDepth 100000 in
set_option maxHeartbeats 8000000 in
theorem Circle_c (a b c d : Pt) (w : World) : Calls Try.prog 15 #[a.v, b.v, c.v, d.v] w fun e w' => e = .returned (.tuple #[.int .i64 (CircleF a b c d).1, .int .i64 (CircleF a b c d).2]) ∧ Ext w w' := by
  obtain ⟨i0, hi0, hz0, hz1, hz2⟩ := info_parts vecInfo
  go_enter Try.func15, Try.ntmps15
  go_wp2_with fail
  refine (evalid_c _ 4 4 [a, b, c, d] _ rfl (by omega) (by omega) (Pts.four (Blk.at _ 25 (by simp)).at')).mono ?_
  rintro e w2 ⟨rfl, hx⟩
  have hA : At w2 w.heap.size #[.int .i64 a.x, .int .i64 a.y] := (((((Blk.at _ 25 rfl).alloc _).alloc _).alloc _).alloc _).ext hx |>.at'
  have hB : At w2 (w.heap.size + 1) #[.int .i64 b.x, .int .i64 b.y] := ((((Blk.at _ 25 (by simp)).alloc _).alloc _).alloc _).ext hx |>.at'
  have hC : At w2 (w.heap.size + 2) #[.int .i64 c.x, .int .i64 c.y] := (((Blk.at _ 25 (by simp)).alloc _).alloc _).ext hx |>.at'
  have hD : At w2 (w.heap.size + 3) #[.int .i64 d.x, .int .i64 d.y] := ((Blk.at _ 25 (by simp)).alloc _).ext hx |>.at'
  have hE : Ext w w2 := (by repeat (first | exact Ext.refl _ | assumption | refine Ext.setCell ?_ (by first | (simp; done) | (simp; omega) | omega) _ | refine Ext.alloc ?_ _ | refine Ext.drew ?_ | refine Ext.trans ?_ (by assumption)))
  have HE := Lib.hid hE; clear hx hE
  by_cases h0 : firstE validE [a, b, c, d] = 0
  · have hn : Good a ∧ Good b ∧ Good c ∧ Good d := ⟨good_of_validE (firstE_zero h0 a (by simp)), good_of_validE (firstE_zero h0 b (by simp)), good_of_validE (firstE_zero h0 c (by simp)), good_of_validE (firstE_zero h0 d (by simp))⟩
    have hF := CircleF.eq_1 a b c d
    rw [if_pos h0] at hF
    have HN := Lib.hid hn; clear hn
    rw [h0]
    clear h0
    go_wp2_with fail
    refine (side_good a b c _ HN.out.1 HN.out.2.1 HN.out.2.2.1).mono ?_
    rintro e w3 ⟨rfl, hx3⟩
    have hA3 := hA.ext hx3 (by simp)
    have hB3 := hB.ext hx3 (by simp)
    have hC3 := hC.ext hx3 (by simp)
    have hD3 := hD.ext hx3 (by simp)
    have HE3 := Lib.hid (HE.out.trans hx3); clear hx3 hA hB hC hD
    have hsb : -1 ≤ sideF a b c ∧ sideF a b c ≤ 1 := cmpI_bd _ _
    by_cases hs0 : sideF a b c = 0
    · rw [if_pos hs0] at hF
      have HF := Lib.hid hF; clear hF
      rw [hs0]
      clear hs0 hsb
      go_wp2_with fail
      go_ret2
      exact ⟨by rw [HF.out]; rfl, HE3.out⟩
    · rw [if_neg hs0] at hF
      have hs0' : (sideF a b c == 0) = false := by rw [beq_eq_false_iff_ne]; exact hs0
      obtain ⟨hsb1, hsb2⟩ := hsb
      have HF := Lib.hid hF; clear hF hs0
      have HS := Lib.hid (rfl : sideF a b c = sideF a b c)
      generalize sideF a b c = turn at *
      clear HS
      have hl0 := hA3.lt (by simp)
      have hl1 := hB3.lt (by simp)
      have hl2 := hC3.lt (by simp)
      have hl3 := hD3.lt (by simp)
      have hbxw : w.heap.size + 3 < w3.heap.size := hl3
      go_upto_region 8 with (fail)
      refine wp_gen (fun W => (Ext w W ∧ At W w.heap.size #[.int .i64 a.x, .int .i64 a.y] ∧ At W (w.heap.size + 1) #[.int .i64 b.x, .int .i64 b.y] ∧ At W (w.heap.size + 2) #[.int .i64 c.x, .int .i64 c.y] ∧ At W (w.heap.size + 3) #[.int .i64 d.x, .int .i64 d.y]) ∧ Three W w3.heap.size (w3.heap.size + 1) (w3.heap.size + 2) a b c d 0)
        ⟨⟨Ext.trans HE3.out (by repeat (first | exact Ext.refl _ | assumption | refine Ext.setCell ?_ (by first | (simp; done) | (simp; omega) | omega) _ | refine Ext.alloc ?_ _ | refine Ext.drew ?_ | refine Ext.trans ?_ (by assumption))), ((hA3.alloc (by simp)).alloc (by simp)).alloc (by simp), ((hB3.alloc (by simp)).alloc (by simp)).alloc (by simp), ((hC3.alloc (by simp)).alloc (by simp)).alloc (by simp), ((hD3.alloc (by simp)).alloc (by simp)).alloc (by simp)⟩, Three.start w3⟩ ?_
      clear hA3 hB3 hC3 hD3
      generalize w3.heap.size = bx at *
      rintro W ⟨⟨hE, hA4, hB4, hC4, hDW⟩, hT⟩
      have HE := Lib.hid hE; have HT := Lib.hid hT; clear hE hT
      go_wp2_with fail
      have HD := Lib.hid hDW; clear hA4 hB4 hC4 hDW
      go_loopw [40] (fun v ws => ∃ i : Nat, i ≤ 3 ∧ v = .int .i64 (i : Int) ∧ Ext w ws ∧ At ws (w.heap.size + 3) #[.int .i64 d.x, .int .i64 d.y] ∧ Three ws bx (bx + 1) (bx + 2) a b c d i) (fun v _ => 3 - (intOf v).toNat)
      case atStart => exact ⟨0, by omega, rfl, HE.out, HD.out, HT.out⟩
      case round =>
        obtain ⟨i, hi, rfl, hE, hDW, hT⟩ := hrel
        have HE4 := Lib.hid hE; have HD4 := Lib.hid hDW; have HT4 := Lib.hid hT; clear hE hDW hT
        by_cases hlt : i < 3
        · --{{
          have hidx := index3 a b c i hlt
          have t0 : (0 : Int) ≤ (i : Int) := by omega
          have t1 : (i : Int) < 3 := by omega
          have hg : Good (pt3 a b c i) := by
            obtain ⟨n1, n2, n3, _⟩ := HN.out
            unfold pt3; split
            · exact n1
            · split
              · exact n2
              · exact n3
          generalize hp : pt3 a b c i = p at hidx hg
          have HPT := Lib.hid hp; clear hp
          obtain ⟨g1, g2, g3, g4⟩ := hg
          obtain ⟨_, _, _, d1, d2, d3, d4⟩ := HN.out
          have e1 : IntKind.i64.wrap (p.x - d.x) = p.x - d.x := IntWalk.i64_in _ (by omega)
          have e2 : IntKind.i64.wrap (p.y - d.y) = p.y - d.y := IntWalk.i64_in _ (by omega)
          have hT5 : Three wr bx (bx + 1) (bx + 2) a b c d i := HT4.out
          have ho5 := hT5.own
          have hbz := ho5.2.2.lt (by omega)
          go_upto_region 11 with (fail)
          refine wp_gen (fun W => Ext w W ∧ At W wr.heap.size #[.int .i64 p.x, .int .i64 p.y] ∧ At W (w.heap.size + 3) #[.int .i64 d.x, .int .i64 d.y] ∧ Own W bx 6 ∧ Own W (bx + 1) 6 ∧ Three W bx (bx + 1) (bx + 2) a b c d i)
            ⟨HE4.out.alloc _, (Blk.at _ 25 rfl).at', HD4.out.alloc (by simp), Own.ext (by repeat (first | exact Ext.refl _ | assumption | refine Ext.setCell ?_ (by first | (simp; done) | (simp; omega) | omega) _ | refine Ext.alloc ?_ _ | refine Ext.drew ?_ | refine Ext.trans ?_ (by assumption))) ho5.1 (by omega), Own.ext (by repeat (first | exact Ext.refl _ | assumption | refine Ext.setCell ?_ (by first | (simp; done) | (simp; omega) | omega) _ | refine Ext.alloc ?_ _ | refine Ext.drew ?_ | refine Ext.trans ?_ (by assumption))) ho5.2.1 (by omega), Three.ext (by repeat (first | exact Ext.refl _ | assumption | refine Ext.setCell ?_ (by first | (simp; done) | (simp; omega) | omega) _ | refine Ext.alloc ?_ _ | refine Ext.drew ?_ | refine Ext.trans ?_ (by assumption))) hT5⟩ ?_
          have hbb : w.heap.size + 3 < bx := hbxw
          have hbw : w.heap.size ≤ bx := by omega
          clear hT5 ho5
          generalize wr.heap.size = b16 at *
          rintro W5 ⟨E5, P5, D5, O5, Q5, T5⟩
          have HT5 := Lib.hid T5; clear T5
          have u0 : i * 2 < 6 := by omega
          have u1 : i * 2 + 1 < 6 := by omega
          go_region_held3 (fun w' => Ext w w' ∧ At w' b16 #[.int .i64 p.x, .int .i64 p.y] ∧ At w' (w.heap.size + 3) #[.int .i64 d.x, .int .i64 d.y] ∧ Own w' bx 6 ∧ Own w' (bx + 1) 6)
            (first | exact ⟨E5.drew, P5, D5, O5, Q5⟩ | (go_split_ands; repeat' (first | with_reducible assumption | with_reducible apply And.intro | with_reducible exact Ext.refl _ | with_reducible refine Ext.setCell ?_ (by simp; omega) _ | with_reducible refine Ext.setCell ?_ (by simp) _ | with_reducible refine At.set ?_ (by omega) | with_reducible refine own1_set ?_ | with_reducible refine own2_set ?_ | with_reducible refine own3_set ?_ (by simp) | with_reducible refine Ext.drew ?_ | with_reducible refine At.drew ?_ | with_reducible refine own1_drew ?_ | with_reducible refine Ext.alloc ?_ _ | with_reducible refine At.alloc ?_ (by simp) | with_reducible refine own1_alloc ?_ | with_reducible refine cell_alloc ?_ | with_reducible refine cell_drew ?_ | with_reducible refine own2_drew ?_ | with_reducible refine own3_drew ?_ | with_reducible refine own2_alloc (by first | omega | (simp; omega)) ?_ | with_reducible refine own3_alloc (by first | omega | (simp; omega)) ?_ | with_reducible refine cell_set ?_ (by omega) | with_reducible exact Ext.trans' (by assumption) (by assumption) | with_reducible exact At.ext (by assumption) (by assumption) (by simp) | with_reducible exact Ext.cell (by assumption) (by assumption) | exact (Own.ext (by assumption) ⟨by assumption, by assumption, by assumption⟩ (by simp)).1 | exact (Own.ext (by assumption) ⟨by assumption, by assumption, by assumption⟩ (by simp)).2.1 | exact (Own.ext (by assumption) ⟨by assumption, by assumption, by assumption⟩ (by simp)).2.2)))
            ((go_at_call 32; refine (From_c _ _ (by omega) (by omega)).mono ?_; rintro e w6 ⟨r, rfl, hr, hx⟩))
          go_wp2_with fail
          refine wp_gen (fun W => Ext w W ∧ At W (w.heap.size + 3) #[.int .i64 d.x, .int .i64 d.y] ∧ Half W bx (bx + 1) (bx + 2) a b c d i) ⟨And.left (by assumption), by (go_split_ands; repeat' (first | with_reducible assumption | with_reducible apply And.intro | with_reducible exact Ext.refl _ | with_reducible refine Ext.setCell ?_ (by simp; omega) _ | with_reducible refine Ext.setCell ?_ (by simp) _ | with_reducible refine At.set ?_ (by omega) | with_reducible refine own1_set ?_ | with_reducible refine own2_set ?_ | with_reducible refine own3_set ?_ (by simp) | with_reducible refine Ext.drew ?_ | with_reducible refine At.drew ?_ | with_reducible refine own1_drew ?_ | with_reducible refine Ext.alloc ?_ _ | with_reducible refine At.alloc ?_ (by simp) | with_reducible refine own1_alloc ?_ | with_reducible refine cell_alloc ?_ | with_reducible refine cell_drew ?_ | with_reducible refine own2_drew ?_ | with_reducible refine own3_drew ?_ | with_reducible refine own2_alloc (by first | omega | (simp; omega)) ?_ | with_reducible refine own3_alloc (by first | omega | (simp; omega)) ?_ | with_reducible refine cell_set ?_ (by omega) | with_reducible exact Ext.trans' (by assumption) (by assumption) | with_reducible exact At.ext (by assumption) (by assumption) (by simp) | with_reducible exact Ext.cell (by assumption) (by assumption) | exact (Own.ext (by assumption) ⟨by assumption, by assumption, by assumption⟩ (by simp)).1 | exact (Own.ext (by assumption) ⟨by assumption, by assumption, by assumption⟩ (by simp)).2.1 | exact (Own.ext (by assumption) ⟨by assumption, by assumption, by assumption⟩ (by simp)).2.2)), ?_⟩ ?_
          · refine Three.putXY (Three.ext (Ext.trans (Ext.trans ((Ext.refl W5).drew) (by assumption)) hx) HT5.out) hlt ?_ ?_ (by omega) (by omega) (by omega)
            · rw [HPT.out]; exact IsI.keep (by assumption) hx.ik
            · rw [HPT.out]; exact hr
          · clear hx hr E5 P5 D5 O5 Q5
            rintro W7 ⟨E7, D7, H7⟩
            have ho7 := H7.own.2.2
            have hbz7 := ho7.lt (by omega)
            obtain ⟨q, r, k1, k2, k3, k4, hq, hr⟩ := H7.at hlt
            rw [HPT.out] at hq hr
            have hX : (p.x - d.x).natAbs ≤ 2147483648 := by omega
            have hY : (p.y - d.y).natAbs ≤ 2147483648 := by omega
            have HX := Lib.hid hX; have HY := Lib.hid hY
            have HQ := Lib.hid hq; have HR := Lib.hid hr; have HH := Lib.hid H7; clear hq hr H7 hX hY
            go_region_held3 (fun w' => Ext w w' ∧ At w' (w.heap.size + 3) #[.int .i64 d.x, .int .i64 d.y] ∧ w'.cell? ⟨bx, i * 2, none⟩ = some (.bool q.neg) ∧ w'.cell? ⟨bx, i * 2 + 1, none⟩ = some (.slice q.a q.n q.c) ∧ w'.cell? ⟨bx + 1, i * 2, none⟩ = some (.bool r.neg) ∧ w'.cell? ⟨bx + 1, i * 2 + 1, none⟩ = some (.slice r.a r.n r.c) ∧ Own w' (bx + 2) 6)
              (first | exact ⟨E7.drew, D7, k1, k2, k3, k4, ho7⟩ | (go_split_ands; repeat' (first | with_reducible assumption | with_reducible apply And.intro | with_reducible exact Ext.refl _ | with_reducible refine Ext.setCell ?_ (by simp; omega) _ | with_reducible refine Ext.setCell ?_ (by simp) _ | with_reducible refine At.set ?_ (by omega) | with_reducible refine own1_set ?_ | with_reducible refine own2_set ?_ | with_reducible refine own3_set ?_ (by simp) | with_reducible refine Ext.drew ?_ | with_reducible refine At.drew ?_ | with_reducible refine own1_drew ?_ | with_reducible refine Ext.alloc ?_ _ | with_reducible refine At.alloc ?_ (by simp) | with_reducible refine own1_alloc ?_ | with_reducible refine cell_alloc ?_ | with_reducible refine cell_drew ?_ | with_reducible refine own2_drew ?_ | with_reducible refine own3_drew ?_ | with_reducible refine own2_alloc (by first | omega | (simp; omega)) ?_ | with_reducible refine own3_alloc (by first | omega | (simp; omega)) ?_ | with_reducible refine cell_set ?_ (by omega) | with_reducible exact Ext.trans' (by assumption) (by assumption) | with_reducible exact At.ext (by assumption) (by assumption) (by simp) | with_reducible exact Ext.cell (by assumption) (by assumption) | exact (Own.ext (by assumption) ⟨by assumption, by assumption, by assumption⟩ (by simp)).1 | exact (Own.ext (by assumption) ⟨by assumption, by assumption, by assumption⟩ (by simp)).2.1 | exact (Own.ext (by assumption) ⟨by assumption, by assumption, by assumption⟩ (by simp)).2.2)))
              (first
                | (go_at_call 54; refine (sum_c' _ 2 2 [⟨W7.heap.size, 2, [q, q], [p.x - d.x, p.x - d.x]⟩, ⟨W7.heap.size + 1, 2, [r, r], [p.y - d.y, p.y - d.y]⟩] _ rfl (by omega) ?_ (sq_small HX.out HY.out).1 (sq_small HX.out HY.out).2).mono ?_; (refine Vecs.two rfl rfl (by omega) (by omega) (At.mk2 ?_ ?_) (Vec.two (At.mk4 ?_ ?_ ?_ ?_) (IsI.keep HQ.out ?_) (IsI.keep HQ.out ?_)) (Vec.two (At.mk4 ?_ ?_ ?_ ?_) (IsI.keep HR.out ?_) (IsI.keep HR.out ?_)); (all_goals first | (go_simp; done) | (repeat' (first | with_reducible exact IK.refl _ | with_reducible refine IK.setCell ?_ (by intro k n; go_simp) _ | with_reducible refine IK.alloc ?_ _ | with_reducible refine IK.drew ?_ | with_reducible refine IK.trans ?_ (Ext.ik (by assumption)))))); rintro e w8 ⟨z, rfl, hz, hx8⟩)
                | (go_at_call 54; refine (sum_c' _ 2 2 [⟨W7.heap.size + 1, 2, [q, q], [p.x - d.x, p.x - d.x]⟩, ⟨W7.heap.size, 2, [r, r], [p.y - d.y, p.y - d.y]⟩] _ rfl (by omega) ?_ (sq_small HX.out HY.out).1 (sq_small HX.out HY.out).2).mono ?_; (refine Vecs.two rfl rfl (by omega) (by omega) (At.mk2 ?_ ?_) (Vec.two (At.mk4 ?_ ?_ ?_ ?_) (IsI.keep HQ.out ?_) (IsI.keep HQ.out ?_)) (Vec.two (At.mk4 ?_ ?_ ?_ ?_) (IsI.keep HR.out ?_) (IsI.keep HR.out ?_)); (all_goals first | (go_simp; done) | (repeat' (first | with_reducible exact IK.refl _ | with_reducible refine IK.setCell ?_ (by intro k n; go_simp) _ | with_reducible refine IK.alloc ?_ _ | with_reducible refine IK.drew ?_ | with_reducible refine IK.trans ?_ (Ext.ik (by assumption)))))); rintro e w8 ⟨z, rfl, hz, hx8⟩))
            all_goals
              have hH8 : Half w8 bx (bx + 1) (bx + 2) a b c d i := Half.ext (Ext.trans ((((Ext.refl W7).alloc _).alloc _).alloc _).drew hx8) HH.out
              go_wp2_with fail
              go_roundw
              case rel =>
                refine ⟨i + 1, by omega, by go_num, And.left (by assumption), by (go_split_ands; repeat' (first | with_reducible assumption | with_reducible apply And.intro | with_reducible exact Ext.refl _ | with_reducible refine Ext.setCell ?_ (by simp; omega) _ | with_reducible refine Ext.setCell ?_ (by simp) _ | with_reducible refine At.set ?_ (by omega) | with_reducible refine own1_set ?_ | with_reducible refine own2_set ?_ | with_reducible refine own3_set ?_ (by simp) | with_reducible refine Ext.drew ?_ | with_reducible refine At.drew ?_ | with_reducible refine own1_drew ?_ | with_reducible refine Ext.alloc ?_ _ | with_reducible refine At.alloc ?_ (by simp) | with_reducible refine own1_alloc ?_ | with_reducible refine cell_alloc ?_ | with_reducible refine cell_drew ?_ | with_reducible refine own2_drew ?_ | with_reducible refine own3_drew ?_ | with_reducible refine own2_alloc (by first | omega | (simp; omega)) ?_ | with_reducible refine own3_alloc (by first | omega | (simp; omega)) ?_ | with_reducible refine cell_set ?_ (by omega) | with_reducible exact Ext.trans' (by assumption) (by assumption) | with_reducible exact At.ext (by assumption) (by assumption) (by simp) | with_reducible exact Ext.cell (by assumption) (by assumption) | exact (Own.ext (by assumption) ⟨by assumption, by assumption, by assumption⟩ (by simp)).1 | exact (Own.ext (by assumption) ⟨by assumption, by assumption, by assumption⟩ (by simp)).2.1 | exact (Own.ext (by assumption) ⟨by assumption, by assumption, by assumption⟩ (by simp)).2.2)), Half.putZ hH8 hlt ?_ (by omega) (by omega)⟩
                rw [HPT.out]
                simpa [prods, sumL, prodL] using hz
              case measure => simp [intOf]; omega
          --}}
        · obtain rfl : i = 3 := by omega
          have hT3 := HT4.out
          have hE3 := HE4.out
          go_upto_region 16 with (fail)
          rw [show ((3 : Nat) : Int) = 3 from rfl]
          refine wp_gen (fun W => Ext w W ∧ Three W bx (bx + 1) (bx + 2) a b c d 3) ⟨hE3, hT3⟩ ?_
          clear hE3 hT3 HE4 HT4 HD4
          rintro W2 ⟨E2, T2⟩
          have HE2 := Lib.hid E2; have HT2 := Lib.hid T2; clear E2 T2
          go_loopw [17, 79] (fun tv iv ws => ∃ (i : Nat) (L : List Row1), i ≤ 3 ∧ iv = .int .i64 (i : Int) ∧ L.length = 2 * i ∧ Terms W2 ws tv L ∧ prods L = detsUp a b c d i ∧ RowsSm L ∧ Ext W2 ws) (fun _ v _ => 3 - (intOf v).toNat)
          case atStart => exact ⟨0, [], by omega, rfl, rfl, Terms.start W2, rfl, fun i hi => absurd hi (by simp), Ext.refl W2⟩
          case round =>
            obtain ⟨i, L, hi, rfl, hLn, hT, hLp, hLs, hE⟩ := hrel
            by_cases hlt : i < 3
            · obtain ⟨j, hj⟩ : ∃ j, j = (i + 1) % 3 := ⟨_, rfl⟩
              obtain ⟨k, hk⟩ : ∃ k, k = (i + 2) % 3 := ⟨_, rfl⟩
              have hj3 : j < 3 := by omega
              have hk3 : k < 3 := by omega
              have ej : ((i : Int) + 1) % 3 = (j : Int) := by omega
              have ek : ((i : Int) + 2) % 3 = (k : Int) := by omega
              have HJK := Lib.hid (show j = (i + 1) % 3 ∧ k = (i + 2) % 3 from ⟨hj, hk⟩); clear hj hk
              obtain ⟨q, _, _, ⟨c1, c2⟩, _, _, hq, _, _⟩ := HT2.out.at i hlt
              obtain ⟨_, rj, sj, _, ⟨c3, c4⟩, ⟨c5, c6⟩, _, hrj, hsj⟩ := HT2.out.at j hj3
              obtain ⟨_, rk, sk, _, ⟨c7, c8⟩, ⟨c9, c10⟩, _, hrk, hsk⟩ := HT2.out.at k hk3
              have HSS : Hid (∀ W, Ext W2 W → Ext W2 W ∧ W.cell? ⟨bx, i * 2, none⟩ = some (.bool q.neg) ∧ W.cell? ⟨bx, i * 2 + 1, none⟩ = some (.slice q.a q.n q.c) ∧ W.cell? ⟨bx + 1, j * 2, none⟩ = some (.bool rj.neg) ∧ W.cell? ⟨bx + 1, j * 2 + 1, none⟩ = some (.slice rj.a rj.n rj.c) ∧ W.cell? ⟨bx + 2, j * 2, none⟩ = some (.bool sj.neg) ∧ W.cell? ⟨bx + 2, j * 2 + 1, none⟩ = some (.slice sj.a sj.n sj.c) ∧ W.cell? ⟨bx + 1, k * 2, none⟩ = some (.bool rk.neg) ∧ W.cell? ⟨bx + 1, k * 2 + 1, none⟩ = some (.slice rk.a rk.n rk.c) ∧ W.cell? ⟨bx + 2, k * 2, none⟩ = some (.bool sk.neg) ∧ W.cell? ⟨bx + 2, k * 2 + 1, none⟩ = some (.slice sk.a sk.n sk.c)) := Lib.hid fun W e => ⟨e, e.cell c1, e.cell c2, e.cell c3, e.cell c4, e.cell c5, e.cell c6, e.cell c7, e.cell c8, e.cell c9, e.cell c10⟩
              have HI := Lib.hid (show IsI W2 q _ ∧ IsI W2 rj _ ∧ IsI W2 sj _ ∧ IsI W2 rk _ ∧ IsI W2 sk _ from ⟨hq, hrj, hsj, hrk, hsk⟩)
              have lx := lt_of_cell c1; have ly := lt_of_cell c3; have lz := lt_of_cell c5
              have HL := Lib.hid (show L.length = 2 * i ∧ prods L = detsUp a b c d i ∧ RowsSm L from ⟨hLn, hLp, hLs⟩)
              have hL2 : L.length ≤ 4 := by omega
              have HT := Lib.hid hT
              have lw := hE.size
              clear hq hrj hsj hrk hsk c1 c2 c3 c4 c5 c6 c7 c8 c9 c10 hLn hLp hLs hT
              have t0 : (0 : Int) ≤ (i : Int) := by omega
              have t1 : (i : Int) < 3 := by omega
              have t2 : (0 : Int) ≤ (j : Int) := by omega
              have t3 : (j : Int) < 3 := by omega
              have t4 : (0 : Int) ≤ (k : Int) := by omega
              have t5 : (k : Int) < 3 := by omega
              go_upto_region 19 with (fail)
              rw [ej, ek]
              clear ej ek
              go_region_held3 (fun w' => Ext W2 w' ∧ w'.cell? ⟨bx, i * 2, none⟩ = some (.bool q.neg) ∧ w'.cell? ⟨bx, i * 2 + 1, none⟩ = some (.slice q.a q.n q.c) ∧ w'.cell? ⟨bx + 1, j * 2, none⟩ = some (.bool rj.neg) ∧ w'.cell? ⟨bx + 1, j * 2 + 1, none⟩ = some (.slice rj.a rj.n rj.c) ∧ w'.cell? ⟨bx + 2, j * 2, none⟩ = some (.bool sj.neg) ∧ w'.cell? ⟨bx + 2, j * 2 + 1, none⟩ = some (.slice sj.a sj.n sj.c) ∧ w'.cell? ⟨bx + 1, k * 2, none⟩ = some (.bool rk.neg) ∧ w'.cell? ⟨bx + 1, k * 2 + 1, none⟩ = some (.slice rk.a rk.n rk.c) ∧ w'.cell? ⟨bx + 2, k * 2, none⟩ = some (.bool sk.neg) ∧ w'.cell? ⟨bx + 2, k * 2 + 1, none⟩ = some (.slice sk.a sk.n sk.c))
                (first | exact HSS.out _ (by repeat' (first | with_reducible assumption | with_reducible exact Ext.refl _ | with_reducible refine Ext.drew ?_ | with_reducible refine Ext.alloc ?_ _ | with_reducible exact Ext.trans (by repeat' (first | with_reducible assumption | with_reducible refine Ext.drew ?_ | with_reducible refine Ext.alloc ?_ _)) hx8 | (refine ext_grown ?_ hgrow (fun g hg => (owns_lt HT.out.1 hg).1)))) | exact HSS.out _ hE.drew)
                (first
                  | (go_at_call 55; refine (Neg_c' q _ _ (HI.out.1.keep (Ext.ik (by repeat' (first | with_reducible assumption | with_reducible exact Ext.refl _ | with_reducible refine Ext.drew ?_ | with_reducible refine Ext.alloc ?_ _ | with_reducible exact Ext.trans (by repeat' (first | with_reducible assumption | with_reducible refine Ext.drew ?_ | with_reducible refine Ext.alloc ?_ _)) hx8 | (refine ext_grown ?_ hgrow (fun g hg => (owns_lt HT.out.1 hg).1))))))).mono ?_; rintro e w8 ⟨r, rfl, hr, hx8⟩; obtain ⟨hc8, _, hs8⟩ := hx8.see; (try simp only [World.size_alloc, World.size_drew] at hs8))
                  | (refine step_append_lies _ (by rfl) _ _ _ (by rfl) W2.heap.size 89 i0 _ 1 24 Try.underlying90 hi0 hz0 hz1 hz2 rfl (by omega) _ L.length (L.map rowVal) (by rfl) (owns_ext (by repeat' (first | with_reducible assumption | with_reducible exact Ext.refl _ | with_reducible refine Ext.drew ?_ | with_reducible refine Ext.alloc ?_ _ | with_reducible exact Ext.trans (by repeat' (first | with_reducible assumption | with_reducible exact Ext.refl _ | with_reducible refine Ext.drew ?_ | with_reducible refine Ext.alloc ?_ _)) hx8)) HT.out.1) ⟨w8.heap.size + 1, 0, none⟩ 2 2 [.slice (some ⟨wr.heap.size, 0, none⟩) 3 3, .slice (some ⟨w8.heap.size, 0, none⟩) 3 3] (by rfl) (by rfl) ?_ (by simp [Value.oneCell']) (by omega) (by rw [maxLen]; omega) (by omega) (by simp; omega) _ rfl ?_; (focus (refine news_at2 ?_ ?_ <;> (go_simp; done))); intro g cap w1 hown1 hgrow hat hlt1)
                  | (refine step_append_lies _ (by rfl) _ _ _ (by rfl) W2.heap.size 89 i0 _ 1 24 Try.underlying90 hi0 hz0 hz1 hz2 rfl (by omega) _ L.length (L.map rowVal) (by rfl) (owns_ext (by repeat' (first | with_reducible assumption | with_reducible exact Ext.refl _ | with_reducible refine Ext.drew ?_ | with_reducible refine Ext.alloc ?_ _ | with_reducible exact Ext.trans (by repeat' (first | with_reducible assumption | with_reducible exact Ext.refl _ | with_reducible refine Ext.drew ?_ | with_reducible refine Ext.alloc ?_ _)) hx8)) HT.out.1) ⟨w8.heap.size + 2, 0, none⟩ 2 2 [.slice (some ⟨w8.heap.size, 0, none⟩) 3 3, .slice (some ⟨w8.heap.size + 1, 0, none⟩) 3 3] (by rfl) (by rfl) ?_ (by simp [Value.oneCell']) (by omega) (by rw [maxLen]; omega) (by omega) (by simp; omega) _ rfl ?_; (focus (refine news_at2 ?_ ?_ <;> (go_simp; done))); intro g cap w1 hown1 hgrow hat hlt1)
                  | (refine step_append_lies _ (by rfl) _ _ _ (by rfl) W2.heap.size 89 i0 _ 1 24 Try.underlying90 hi0 hz0 hz1 hz2 rfl (by omega) _ L.length (L.map rowVal) (by rfl) (owns_ext (by repeat' (first | with_reducible assumption | with_reducible exact Ext.refl _ | with_reducible refine Ext.drew ?_ | with_reducible refine Ext.alloc ?_ _ | with_reducible exact Ext.trans (by repeat' (first | with_reducible assumption | with_reducible exact Ext.refl _ | with_reducible refine Ext.drew ?_ | with_reducible refine Ext.alloc ?_ _)) hx8)) HT.out.1) ⟨w8.heap.size + 2, 0, none⟩ 2 2 [.slice (some ⟨w8.heap.size + 1, 0, none⟩) 3 3, .slice (some ⟨w8.heap.size, 0, none⟩) 3 3] (by rfl) (by rfl) ?_ (by simp [Value.oneCell']) (by omega) (by rw [maxLen]; omega) (by omega) (by simp; omega) _ rfl ?_; (focus (refine news_at2 ?_ ?_ <;> (go_simp; done))); intro g cap w1 hown1 hgrow hat hlt1))
              all_goals
                go_wp2_with fail
                go_roundw
                case rel =>
                  have DB := fun n => diff_bd (good_pt3 HN.out.1 HN.out.2.1 HN.out.2.2.1 n) HN.out.2.2.2
                  refine ⟨i + 1, _, by omega, by go_num, ?_, Terms.append3 HT.out hown1 hgrow hat (by repeat' (first | with_reducible assumption | with_reducible exact Ext.refl _ | with_reducible refine Ext.drew ?_ | with_reducible refine Ext.alloc ?_ _ | with_reducible exact Ext.trans (by repeat' (first | with_reducible assumption | with_reducible exact Ext.refl _ | with_reducible refine Ext.drew ?_ | with_reducible refine Ext.alloc ?_ _)) hx8)) HI.out.1 HI.out.2.1 HI.out.2.2.2.2 (hr.out _ HI.out.1) HI.out.2.2.2.1 HI.out.2.2.1 ?_ ?_ ?_ ?_, ?_, RowsSm.append HL.out.2.2 ⟨_, _, _, rfl, (DB i).1, (DB j).2.1, (DB k).2.2⟩ ⟨_, _, _, rfl, neg_bd (DB i).1, (DB k).2.1, (DB j).2.2⟩, And.left (by assumption)⟩
                  · have := HL.out.1; simp; omega
                  · first
                      | (refine At.mk6 ?_ ?_ ?_ ?_ ?_ ?_ <;> (go_simp; done))
                      | exact ((At.ext hx8 (At.drew (Blk.at _ 47 (by simp)).at') (by simp)).alloc (by simp)).alloc (by simp)
                  · refine At.mk6 ?_ ?_ ?_ ?_ ?_ ?_ <;> (go_simp; done)
                  · first | omega | (simp; omega)
                  · first | omega | (simp; omega)
                  · rw [detsUp, ← HL.out.2.1, ← HJK.out.1, ← HJK.out.2]; simp [prods, detT, prodL]
                case measure => simp [intOf]; omega
            · obtain rfl : i = 3 := by omega
              obtain ⟨g, cap, rfl, _, hg⟩ := hT.1.form (by omega)
              have HTE := Lib.hid (Terms.vecs hE hT)
              have HE := Lib.hid hE; have HL := Lib.hid (show L.length = 6 ∧ sumL (prods L) = detF a b c d ∧ RowsSm L from ⟨hLn, by rw [hLp]; rfl, hLs⟩)
              rw [hLn]
              clear hT hE hLp hLs hLn
              go_wp2_with fail
              refine (sum_c' g 6 cap L _ HL.out.1 (by omega) HTE.out (fun i hi => HL.out.2.2.prods i (by rw [HL.out.1]; exact hi)) (fun i => HL.out.2.2.sums (by rw [HL.out.1]; exact Nat.le_refl 6) i)).mono ?_
              rintro e w5 ⟨r, rfl, hr, hx5⟩
              rw [HL.out.2.1] at hr
              have HR := Lib.hid hr; have HE5 := Lib.hid (HE2.out.trans (HE.out.trans hx5)); clear hr hx5
              go_wp2_with fail
              refine (Sign_c r _ _ HR.out).mono ?_
              rintro e w6 ⟨rfl, hx6⟩
              have HE6 := Lib.hid (HE5.out.trans hx6); clear hx6
              have hb := cmpI_bd (detF a b c d) 0
              have hFF : CircleF a b c d = (turn * cmpI (detF a b c d) 0, 0) := HF.out
              have HFF := Lib.hid hFF
              clear hFF
              generalize cmpI (detF a b c d) 0 = sg at *
              have hm : IntKind.i64.wrap (turn * sg) = turn * sg := by
                refine IntWalk.i64_in _ ?_
                have : turn = -1 ∨ turn = 0 ∨ turn = 1 := by omega
                rcases this with h | h | h <;> rw [h] <;> omega
              go_wp2_with fail
              go_ret2
              exact ⟨by rw [HFF.out]; rfl, HE6.out⟩
  · have h1 : (firstE validE [a, b, c, d] != 0) = true := by rw [bne_iff_ne]; exact h0
    have hF : CircleF a b c d = (0, firstE validE [a, b, c, d]) := by rw [CircleF, if_neg h0]
    have HF := Lib.hid hF; clear hF h0
    generalize firstE validE [a, b, c, d] = ev at *
    go_wp2_with fail
    go_ret2
    exact ⟨by rw [HF.out]; rfl, HE.out⟩
end Go.Proofs.Ytgmedfloflplgaa
