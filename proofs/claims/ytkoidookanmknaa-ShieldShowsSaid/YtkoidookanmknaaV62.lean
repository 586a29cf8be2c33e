/- shield.Show, the walk. -/
import Derived.Test.YtkoidookanmknaaV61
import Derived.Test.YtkoidookanmknaaV30
namespace Go.Proofs.Ytkoidookanmknaa
set_option linter.unusedSimpArgs false
set_option linter.unusedVariables false
open Go.RowKit

theorem outV_start (R : Lds) (free c : Nat) : outV R free 0 c = if c = free then 1 else 0 := rfl
theorem outV_step {R : Lds} {free k : Nat} {p : Vec × Nat} (h : R[k]? = some p) (c : Nat) : outV R free (k + 1) c = if c = p.2 then 0 - p.1 free else outV R free k c := by
  have e : R.getD k (vzero, 0) = p := by rw [List.getD_eq_getElem?_getD, h]; rfl
  show (if c = (R.getD k (vzero, 0)).2 then _ else _) = _
  rw [e]
/-- A number is written into a row of fractions. -/
theorem VecAt.put {w : World} {b n : Nat} {v v' : Vec} {c : Nat} {f : FV} {q : Rat} {fs : List FV} (h1 : FRow w b fs) (h2 : fs.length = n) (h3 : ∀ j f, fs[j]? = some f → IsQ w f (v j)) (hc : c < n) (hf : IsQ w f q) (h : ∀ j, v' j = if j = c then q else v j) : VecAt (putQ w b (c * 4) f) b n v' :=
  ⟨fs.set c f, h1.put (by omega) f, by rw [List.length_set]; exact h2, fun j f' hj => by
    rw [h j]
    by_cases hjc : c = j
    · subst hjc
      rw [List.getElem?_set_self (by omega)] at hj
      injection hj with hj
      subst hj
      rw [if_pos rfl]
      exact hf.keep (IK.putQ h1 f)
    · rw [List.getElem?_set_ne hjc] at hj
      rw [if_neg (Ne.symm hjc)]
      exact (h3 j f' hj).keep (IK.putQ h1 f)⟩
theorem ext_putQ {a w : World} {b o : Nat} (h : Ext a w) (hb : a.heap.size ≤ b) (f : FV) : Ext a (putQ w b o f) := (((h.setCell hb _).setCell hb _).setCell hb _).setCell hb _
/-- What Show returns where a set is not determined. -/
def ShowR (N : Nat) (Ls : List (List Int)) (hs : List Bool) (i : Nat) (e : Ending) (w' : World) : Prop :=
  ∃ b free, e = .returned (.tuple #[.slice (some ⟨b, 0, none⟩) N N, .int .i64 0]) ∧ free < N ∧ redV (solveR N Ls hs Ls.length) (rowV (Ls.getD i [])) free ≠ 0 ∧ (∀ p, p ∈ solveR N Ls hs Ls.length → p.2 < N) ∧ VecAt w' b N (outV (solveR N Ls hs Ls.length) free (solveR N Ls hs Ls.length).length)
set_option maxRecDepth 100000 in
set_option maxHeartbeats 4000000 in
theorem Show_c (N : Nat) (ss vs : Sl) (gs : List Sl) (Ls : List (List Int)) (zs : List Int) (ha : Option Addr) (m hc : Nat) (hs : List Bool) (i : Nat) (w : World) (h : ShIn w N ss vs gs Ls zs) (hH : Bls w ha m hs) (hv : validE N Ls zs = 0) (hm : m = Ls.length) (hf : FewOK Ls) (hi : i < Ls.length) :
    Calls Try.prog 32 #[.agg #[.int .i64 N, ss.v, vs.v], .slice ha m hc, .int .i64 (i : Int)] w fun e w' => Ext w w' ∧ ((dB Ls hs i = true ∧ e = .returned (.tuple #[.slice none 0 0, .int .i64 17])) ∨ (dB Ls hs i = false ∧ ShowR N Ls hs i e w')) := by
  have hl := (validE_of hv).2.1
  have hn32 := (validE_of hv).1
  have hce := check_ok (m := m) hv hm hi
  subst hm
  have hG := h.sheet hv
  have hok := solve_ok hs hf (fun k x hx => (hG.cell k x hx).2) Ls.length (Nat.le_refl _)
  have hdi := det_iff (n := N) hs hf (fun k x hx => (hG.cell k x hx).2) i
  unfold ShowR
  obtain ⟨R, hR⟩ : ∃ R, solveR N Ls hs Ls.length = R := ⟨_, rfl⟩
  have H := Lib.hid (And.intro h (And.intro hH (And.intro hG (And.intro hf hR))))
  rw [hR] at hok hdi ⊢
  have HOK := Lib.hid (And.intro hok hdi)
  have HCE := Lib.hid hce
  have hsn : ss.n = Ls.length := h.grps.2.1.symm
  have hN : N ≤ 1000 := by omega
  obtain ⟨l, hll⟩ : ∃ l, Ls.getD i [] = l := ⟨_, rfl⟩
  have HLL := Lib.hid hll
  rw [hll] at hdi ⊢
  have HDI := Lib.hid hdi
  obtain ⟨y, hy⟩ : ∃ y, redV R (rowV l) = y := ⟨_, rfl⟩
  have HY := Lib.hid hy
  rw [hy]
  clear h hH hG hf hR hok hdi hce hv hll hy
  obtain ⟨sa, sn, sc⟩ := ss
  obtain ⟨va, vn, vc⟩ := vs
  simp only at hsn
  subst hsn
  simp only [Sl.v]
  obtain ⟨B, hB⟩ : ∃ B, w.heap.size = B := ⟨_, rfl⟩
  have hi1 : (i : Int) < (Ls.length : Int) := by omega
  go_enter Try.func32, Try.ntmps32
  go_upto_region 1 with (fail)
  refine wp_gen (fun W => Ext w W ∧ Blk W B #[.int .i64 (N : Int), .slice sa Ls.length sc, .slice va vn vc] 31) ⟨(by repeat (first | exact Ext.refl _ | assumption | refine Ext.setCell ?_ (by first | (simp; done) | (simp; omega) | omega) _ | refine Ext.alloc ?_ _ | refine Ext.drew ?_ | refine Ext.trans ?_ (by assumption))), Blk.at _ 31 hB.symm⟩ ?_
  rintro V ⟨E0, B0⟩
  have HB := Lib.hid (And.intro E0 B0)
  have x0 : V.cell? ⟨B, 0, none⟩ = some (.int .i64 (N : Int)) := B0.cell 0
  have x1 : V.cell? ⟨B, 1, none⟩ = some (.slice sa Ls.length sc) := B0.cell 1
  have x2 : V.cell? ⟨B, 2, none⟩ = some (.slice va vn vc) := B0.cell 2
  clear E0 B0
  go_wp2_with fail
  refine (shcheck_c (N : Int) ⟨sa, Ls.length, sc⟩ ⟨va, vn, vc⟩ gs Ls zs ha Ls.length hc _ _ (H.out.1.ext HB.out.1) (by omega)).mono ?_
  rw [HCE.out]
  rintro e w2 ⟨rfl, hx2⟩
  have HX := Lib.hid (And.intro (HB.out.1.trans hx2) (HB.out.2.ext hx2))
  have y0 : w2.cell? ⟨B, 0, none⟩ = some (.int .i64 (N : Int)) := hx2.cell x0
  have y1 : w2.cell? ⟨B, 1, none⟩ = some (.slice sa Ls.length sc) := hx2.cell x1
  have y2 : w2.cell? ⟨B, 2, none⟩ = some (.slice va vn vc) := hx2.cell x2
  clear x0 x1 x2 hx2
  go_wp2_with fail
  refine (solve_c N Ls.length ⟨sa, Ls.length, sc⟩ ⟨va, vn, vc⟩ gs Ls ha hc hs _ (H.out.2.2.1.ext HX.out.1) rfl H.out.2.2.2.1 hN (H.out.2.1.ext HX.out.1)).mono ?_
  rw [H.out.2.2.2.2]
  rintro e w3 ⟨xb, rv, lv, bs, rfl, hS, hx3⟩
  have HS := Lib.hid (And.intro hS (And.intro (HX.out.1.trans hx3) (HX.out.2.ext hx3)))
  clear hS hx3 y0 y1 y2
  go_wp2_with fail
  refine (row_c xb N ⟨sa, Ls.length, sc⟩ ⟨va, vn, vc⟩ rv lv gs Ls i _ HS.out.1.box (H.out.2.2.1.ext HS.out.2.1).grps hi hN (H.out.2.2.1.cell i) (H.out.2.2.1.len i)).mono ?_
  rw [HLL.out]
  rintro e w4 ⟨b, rfl, hb, hv4, hx4⟩
  have hnb : b ∉ bs := fun hm => by have := HS.out.1.lt_size hm; omega
  have H4 := Lib.hid (And.intro (HS.out.1.ext hx4) (And.intro hv4 hx4))
  clear hv4 hx4
  go_wp2_with fail
  refine (reduce_c _ xb N b R.length ⟨sa, Ls.length, sc⟩ ⟨va, vn, vc⟩ rv lv R bs _ _ H4.out.1 H4.out.2.1 hnb hN HOK.out.1.sol HOK.out.1.le12 (rowV_zo _)).mono ?_
  rw [HY.out]
  rintro e w5 ⟨rfl, hv5, ho5⟩
  have H5 := Lib.hid (And.intro (H4.out.1.only H4.out.2.1 hnb ho5) (And.intro hv5 (Only.ext H4.out.2.2 hb ho5)))
  clear hv5 ho5
  go_wp2_with fail
  refine (index_Show b N y _ H5.out.2.1 hN).mono ?_
  rintro e w6 ⟨rfl, hx6⟩
  have HE6 := Lib.hid (HS.out.2.1.trans (H5.out.2.2.trans hx6))
  have H6 := Lib.hid (H5.out.1.ext hx6)
  have hB6 := HS.out.2.2.ext (H5.out.2.2.trans hx6)
  have y0 : w6.cell? ⟨B, 0, none⟩ = some (.int .i64 (N : Int)) := hB6.cell 0
  clear hB6 hx6 hnb hb
  have hlb := leadI_bd y N
  by_cases c1 : leadI y N < 0
  · have HDd := Lib.hid (show dB Ls hs i = true from by rw [← dB_of HDI.out]; unfold detB; rw [HY.out]; simp; omega)
    have e1 : leadI y N = -1 := by omega
    rw [e1]
    clear e1 c1 hlb
    go_wp2_with fail
    go_ret2
    exact ⟨HE6.out, .inl ⟨HDd.out, rfl⟩⟩
  · have HDd := Lib.hid (show dB Ls hs i = false from by rw [← dB_of HDI.out]; unfold detB; rw [HY.out]; simp; omega)
    obtain ⟨fr, hfr⟩ : ∃ fr : Nat, leadI y N = (fr : Int) := ⟨(leadI y N).toNat, by omega⟩
    have hfn : fr < N := by omega
    have HYF := Lib.hid (show y fr ≠ 0 from by
      unfold leadI at hfr
      split at hfr
      · omega
      · rename_i z hz
        obtain ⟨_, _, h3, _⟩ := leadOf_some _ _ _ _ hz
        have : z = fr := by omega
        rw [← this]; exact h3)
    rw [hfr]
    clear c1 hlb hfr
    have f0 : (0 : Int) ≤ (fr : Int) := by omega
    have f1 : (fr : Int) < (N : Int) := by omega
    obtain ⟨G, hG⟩ : ∃ G, w6.heap.size = G := ⟨_, rfl⟩
    have hmk := make_fracs N (N : Int) (N : Int) rfl rfl (by omega)
    have hB0 := Lib.hid (Blk.at (w := w6) (fcells (List.replicate N fv0)) 58 hG.symm)
    go_upto_region 10 with (fail)
    try rw [hG]
    refine wp_gen (fun W => Ext w6 W ∧ VecAt W G N (rowV [])) ⟨(Ext.refl _).alloc _, VecAt.zero hB0.out⟩ ?_
    clear hmk y0
    rintro V6 ⟨E6, V06⟩
    have HV6 := Lib.hid (And.intro E6 V06)
    clear E6 V06
    go_wp2_with fail
    refine (number_c 1 _ (by omega) (by omega)).mono ?_
    rintro e w7 ⟨f, rfl, hf, hx7⟩
    obtain ⟨fs, g1, g2, g3⟩ := HV6.out.2.ext hx7
    obtain ⟨g, hg⟩ : ∃ g, fs[fr]? = some g := ⟨_, List.getElem?_eq_getElem (by omega)⟩
    obtain ⟨o0, o1, o2, o3⟩ := g1.quad hg
    have hfre := g1.free
    have HG := Lib.hid (And.intro g1 (And.intro g2 (And.intro g3 (And.intro hf (HV6.out.1.trans hx7)))))
    clear g1 g2 g3 hf hx7 hg
    go_upto_region 11 with (fail)
    refine wp_gen (fun W => Ext w6 W ∧ VecAt W G N (outV R fr 0)) ⟨ext_putQ HG.out.2.2.2.2 (by omega) f, VecAt.put HG.out.1 HG.out.2.1 HG.out.2.2.1 hfn HG.out.2.2.2.1 (fun j => by rw [outV_start, rowV_nil]; rfl)⟩ ?_
    rintro W7 ⟨E7, V7⟩
    clear o0 o1 o2 o3 hfre
    obtain ⟨ra, rc, rfl, hrows⟩ := owns_sl H6.out.rows rfl
    obtain ⟨la, lc, rfl, hleads⟩ := owns_sl H6.out.leads rfl
    have HRW := Lib.hid hrows
    have HLD := Lib.hid hleads
    have hbox := (H6.out.ext E7).box
    have x0 := hbox.cell 0; have x1 := hbox.cell 1; have x2 := hbox.cell 2; have x3 := hbox.cell 3; have x4 := hbox.cell 4; simp only [List.getElem?_toArray, List.getElem?_cons_zero, List.getElem?_cons_succ] at x0 x1 x2 x3 x4
    rw [List.length_map] at x4
    have H7 := Lib.hid (And.intro E7 V7)
    have hRl : R.length ≤ 12 := HOK.out.1.le12
    clear hrows hleads hbox x0 x1 x2 x4 E7 V7
    go_wp2_with fail
    clear x3
    go_loopw [46] (fun kv ws => ∃ k : Nat, k ≤ R.length ∧ kv = .int .i64 (k : Int) ∧ Ext w6 ws ∧ VecAt ws G N (outV R fr k)) (fun kv _ => R.length - (intOf kv).toNat)
    case atStart => exact ⟨0, by omega, rfl, H7.out.1, H7.out.2⟩
    case round =>
      obtain ⟨k, hk, rfl, hE, hV⟩ := hrel
      have HK := Lib.hid (And.intro hE hV)
      by_cases hlt : k < R.length
      · obtain ⟨p, hp⟩ : ∃ p, R[k]? = some p := ⟨_, List.getElem?_eq_getElem hlt⟩
        obtain ⟨rb, hrb⟩ : ∃ b, bs[k]? = some b := ⟨_, List.getElem?_eq_getElem (by rw [H6.out.len]; exact hlt)⟩
        obtain ⟨gr, rfl, _, _, hgc⟩ := HRW.out.resolve_left (by omega)
        obtain ⟨gl, rfl, _, _, hgc2⟩ := HLD.out.resolve_left (by rw [List.length_map]; omega)
        have d1 := hE.cell (hgc k _ (by rw [List.getElem?_map, hrb]; rfl) hlt)
        have d2 := hE.cell (hgc2 k (.int .i64 (p.2 : Int)) (by simp [ivals, hp]) (by rw [List.length_map]; exact hlt))
        have hpn := H6.out.lt p (List.mem_of_getElem? hp)
        obtain ⟨rs, r1, r2, r3⟩ := (H6.out.each k rb p hrb hp).ext hE
        obtain ⟨g9, hg9⟩ : ∃ g, rs[fr]? = some g := ⟨_, List.getElem?_eq_getElem (by omega)⟩
        have hq9 := r1.quad hg9
        have hboxr := (H6.out.ext hE).box
        have x0 := hboxr.cell 0; have x1 := hboxr.cell 1; have x2 := hboxr.cell 2; have x3 := hboxr.cell 3; have x4 := hboxr.cell 4; simp only [List.getElem?_toArray, List.getElem?_cons_zero, List.getElem?_cons_succ] at x0 x1 x2 x3 x4
        rw [List.length_map] at x4
        have HP := Lib.hid (And.intro hp (r3 fr g9 hg9))
        have p0 : (0 : Int) ≤ (p.2 : Int) := by omega
        have p1 : (p.2 : Int) < (N : Int) := by omega
        have k0 : (0 : Int) ≤ (k : Int) := by omega
        have k1 : (k : Int) < (R.length : Int) := by omega
        clear hp hrb hgc hgc2 r1 r2 r3 hg9 hboxr x0 x1 x2 x3 hE hV
        simp only at d1
        have hSt : wr.cell? ⟨xb, 4, none⟩ = some (.slice (some ⟨gl, 0, none⟩) R.length lc) ∧ wr.cell? ⟨gl, k, none⟩ = some (.int .i64 (p.2 : Int)) ∧ Quad wr rb (fr * 4) g9 := ⟨x4, d2, hq9⟩
        have HSt := Lib.hid hSt
        clear hq9
        go_upto_region 14 with (fail)
        refine wp_region_E (fun W => W.cell? ⟨xb, 4, none⟩ = some (.slice (some ⟨gl, 0, none⟩) R.length lc) ∧ W.cell? ⟨gl, k, none⟩ = some (.int .i64 (p.2 : Int)) ∧ Quad W rb (fr * 4) g9) [18] (by kernel_rfl) hSt (fun hSd => ?_)
        refine takeP (i := 0) (v := ?_) rfl (by kernel_rfl) (by kernel_rfl) (by kernel_rfl) (fun _ _ _ h => h) (Or.inl ⟨by rfl, ?_⟩) ?_; rotate_left; (focus (intro wq hSw; clear hSw; go_simp; try with_reducible rfl)); (try simp only [Act.put, List.setIfInBounds_toArray, List.set_cons_zero, List.set_cons_succ])
        refine takeP (i := 1) (v := ?_) rfl (by kernel_rfl) (by kernel_rfl) (by kernel_rfl) (fun _ _ _ h => h) (Or.inl ⟨by rfl, ?_⟩) ?_; rotate_left; (focus (intro wq hSw; clear hSw; go_simp; try with_reducible rfl)); (try simp only [Act.put, List.setIfInBounds_toArray, List.set_cons_zero, List.set_cons_succ])
        refine takeP (i := 2) (v := ?_) rfl (by kernel_rfl) (by kernel_rfl) (by kernel_rfl) (fun _ _ _ h => h) (Or.inl ⟨by rfl, ?_⟩) ?_; rotate_left; (focus (intro wq hSw; clear hSw; go_simp; try with_reducible rfl)); (try simp only [Act.put, List.setIfInBounds_toArray, List.set_cons_zero, List.set_cons_succ])
        refine takeP (i := 3) (v := ?_) rfl (by kernel_rfl) (by kernel_rfl) (by kernel_rfl) (fun _ _ _ h => h) (Or.inl ⟨by rfl, ?_⟩) ?_; rotate_left; (focus (intro wq hSw; clear hSw; go_simp; try with_reducible rfl)); (try simp only [Act.put, List.setIfInBounds_toArray, List.set_cons_zero, List.set_cons_succ])
        refine takeE (i := 4) (v := ?_) rfl (by kernel_rfl) (by kernel_rfl) (by kernel_rfl) (fun _ _ _ h => h) (by kernel_rfl) (by kernel_rfl) (Or.inl ⟨by rfl, ?_⟩) (by assumption) ?_; rotate_left; (focus (intro wq hSw; obtain ⟨s4, s5, q1, q2, q3, q4⟩ := hSw; go_simp; try with_reducible rfl)); (try simp only [Act.put, List.setIfInBounds_toArray, List.set_cons_zero, List.set_cons_succ])
        refine takeP (i := 5) (v := ?_) rfl (by kernel_rfl) (by kernel_rfl) (by kernel_rfl) (fun _ _ _ h => h) (Or.inl ⟨by rfl, ?_⟩) ?_; rotate_left; (focus (intro wq hSw; clear hSw; go_simp; try with_reducible rfl)); (try simp only [Act.put, List.setIfInBounds_toArray, List.set_cons_zero, List.set_cons_succ])
        refine takeP (i := 6) (v := ?_) rfl (by kernel_rfl) (by kernel_rfl) (by kernel_rfl) (fun _ _ _ h => h) (Or.inl ⟨by rfl, ?_⟩) ?_; rotate_left; (focus (intro wq hSw; clear hSw; go_simp; try with_reducible rfl)); (try simp only [Act.put, List.setIfInBounds_toArray, List.set_cons_zero, List.set_cons_succ])
        refine takeE (i := 7) (v := ?_) rfl (by kernel_rfl) (by kernel_rfl) (by kernel_rfl) (fun _ _ _ h => h) (by kernel_rfl) (by kernel_rfl) (Or.inl ⟨by rfl, ?_⟩) (by assumption) ?_; rotate_left; (focus (intro wq hSw; obtain ⟨s4, s5, q1, q2, q3, q4⟩ := hSw; go_simp; try with_reducible rfl)); (try simp only [Act.put, List.setIfInBounds_toArray, List.set_cons_zero, List.set_cons_succ])
        refine takeP (i := 9) (v := ?_) rfl (by kernel_rfl) (by kernel_rfl) (by kernel_rfl) (fun _ _ _ h => h) (Or.inl ⟨by rfl, ?_⟩) ?_; rotate_left; (focus (intro wq hSw; clear hSw; go_simp; try with_reducible rfl)); (try simp only [Act.put, List.setIfInBounds_toArray, List.set_cons_zero, List.set_cons_succ])
        refine takeP (i := 10) (v := ?_) rfl (by kernel_rfl) (by kernel_rfl) (by kernel_rfl) (fun _ _ _ h => h) (Or.inl ⟨by rfl, ?_⟩) ?_; rotate_left; (focus (intro wq hSw; clear hSw; go_simp; try with_reducible rfl)); (try simp only [Act.put, List.setIfInBounds_toArray, List.set_cons_zero, List.set_cons_succ])
        refine takeP (i := 11) (v := ?_) rfl (by kernel_rfl) (by kernel_rfl) (by kernel_rfl) (fun _ _ _ h => h) (Or.inl ⟨by rfl, ?_⟩) ?_; rotate_left; (focus (intro wq hSw; clear hSw; go_simp; try with_reducible rfl)); (try simp only [Act.put, List.setIfInBounds_toArray, List.set_cons_zero, List.set_cons_succ])
        refine takeE (i := 12) (v := ?_) rfl (by kernel_rfl) (by kernel_rfl) (by kernel_rfl) (fun _ _ _ h => h) (by kernel_rfl) (by kernel_rfl) (Or.inl ⟨by rfl, ?_⟩) (by assumption) ?_; rotate_left; (focus (intro wq hSw; obtain ⟨s4, s5, q1, q2, q3, q4⟩ := hSw; go_simp; try with_reducible rfl)); (try simp only [Act.put, List.setIfInBounds_toArray, List.set_cons_zero, List.set_cons_succ])
        refine consE (i := 8) (by kernel_rfl) rfl (fun K hK => ?_)
        go_simp
        go_at_call 45
        refine (number_c 0 _ (by omega) (by omega)).mono ?_
        rintro e w8 ⟨z, rfl, hz, hx8⟩
        go_wp2_with fail
        have hx8' : Ext wr w8 := (Ext.refl wr).drew.trans hx8
        refine hK.out _ _ ?_ (fun _ => ?_); rotate_left; clear hK K; rotate_right; (focus (exact .inr (.inl ⟨hx8'.cell HSt.out.1, hx8'.cell HSt.out.2.1, HSt.out.2.2.ext hx8'⟩))); (try simp only [Act.put, List.setIfInBounds_toArray, List.set_cons_zero, List.set_cons_succ])
        have H8 := Lib.hid (And.intro hz hx8')
        clear hz hx8 hx8'
        refine consE (i := 13) (by kernel_rfl) rfl (fun K hK => ?_)
        go_simp
        go_at_call 62
        refine (subQ_c z g9 ((0 : Int) : Rat) (p.1 fr) BB BBk _ H8.out.1 (HP.out.2.keep H8.out.2.ik) (SmB.zero one_BB) (((HOK.out.1.sol.steps HOK.out.1.le12 (rowV_zo []) k).2 p HP.out.1).2 fr) BB_lt (by decide)).mono ?_
        rintro e w9 ⟨r, rfl, hr, hx9⟩
        go_wp2_with fail
        have hx9' : Ext wr w9 := H8.out.2.trans hx9
        refine hK.out _ _ ?_ (fun _ => ?_); rotate_left; clear hK K; rotate_right; (focus (exact .inr (.inl ⟨hx9'.cell HSt.out.1, hx9'.cell HSt.out.2.1, HSt.out.2.2.ext hx9'⟩))); (try simp only [Act.put, List.setIfInBounds_toArray, List.set_cons_zero, List.set_cons_succ])
        obtain ⟨fs', g1, g2, g3⟩ := HK.out.2.ext hx9'
        obtain ⟨g', hg⟩ : ∃ g, fs'[p.2]? = some g := ⟨_, List.getElem?_eq_getElem (by omega)⟩
        have hqo := g1.quad hg
        obtain ⟨o0, o1, o2, o3⟩ := hqo
        have hfre := g1.free
        have HG9 := Lib.hid (And.intro g1 (And.intro g2 (And.intro g3 (And.intro hr (HK.out.1.trans hx9')))))
        clear g1 g2 g3 hr hx9 hx9' hg
        refine takeP (i := 14) (v := ?_) rfl (by kernel_rfl) (by kernel_rfl) (by kernel_rfl) (fun _ _ _ h => h) (Or.inl ⟨by rfl, ?_⟩) ?_; rotate_left; (focus (intro wq hSw; clear hSw; go_simp; try with_reducible rfl)); (try simp only [Act.put, List.setIfInBounds_toArray, List.set_cons_zero, List.set_cons_succ])
        refine takeP (i := 15) (v := ?_) rfl (by kernel_rfl) (by kernel_rfl) (by kernel_rfl) (fun _ _ _ h => h) (Or.inl ⟨by rfl, ?_⟩) ?_; rotate_left; (focus (intro wq hSw; clear hSw; go_simp; try with_reducible rfl)); (try simp only [Act.put, List.setIfInBounds_toArray, List.set_cons_zero, List.set_cons_succ])
        refine takeP (i := 16) (v := ?_) rfl (by kernel_rfl) (by kernel_rfl) (by kernel_rfl) (fun _ _ _ h => h) (Or.inl ⟨by rfl, ?_⟩) ?_; rotate_left; (focus (intro wq hSw; clear hSw; go_simp; try with_reducible rfl)); (try simp only [Act.put, List.setIfInBounds_toArray, List.set_cons_zero, List.set_cons_succ])
        refine takeP (i := 17) (v := ?_) rfl (by kernel_rfl) (by kernel_rfl) (by kernel_rfl) (fun _ _ _ h => h) (Or.inl ⟨by rfl, ?_⟩) ?_; rotate_left; (focus (intro wq hSw; clear hSw; go_simp; try with_reducible rfl)); (try simp only [Act.put, List.setIfInBounds_toArray, List.set_cons_zero, List.set_cons_succ])
        refine consE (i := 18) (by kernel_rfl) rfl (fun K hK => ?_)
        go_simp
        refine hK.out _ _ ?_ (fun _ => ?_); rotate_left; clear hK K; rotate_right; (focus (exact .inl (by simp))); (try simp only [Act.put, List.setIfInBounds_toArray, List.set_cons_zero, List.set_cons_succ])
        refine doneE (by kernel_rfl) ?_ _
        go_wp2_with fail
        go_roundw
        case rel => exact ⟨k + 1, by omega, by go_num, ext_putQ HG9.out.2.2.2.2 (by omega) r, VecAt.put HG9.out.1 HG9.out.2.1 HG9.out.2.2.1 hpn HG9.out.2.2.2.1 (fun j => by rw [outV_step HP.out.1]; rfl)⟩
        case measure => simp [intOf]; omega
      · obtain rfl : k = R.length := by omega
        go_wp2_with fail
        go_ret2
        exact ⟨HE6.out.trans HK.out.1, .inr ⟨HDd.out, G, fr, rfl, hfn, HYF.out, H6.out.lt, HK.out.2⟩⟩
end Go.Proofs.Ytkoidookanmknaa
