/- shield: add, its parts but the last. -/
import Derived.Test.YtkoidookanmknaaSV14
import Derived.Test.YtkoidookanmknaaSWE
namespace Go.Proofs.Ytkoidookanmknaa
set_option linter.unusedSimpArgs false
set_option linter.unusedVariables false
open Go.RowKit

theorem rat_zero_div (y : Rat) : 0 / y = 0 := by rw [Rat.div_def, Rat.zero_mul]
theorem addV_some {n l : Nat} {R : Lds} {v : Vec} (h : leadOf (redV R v) 0 n = some l) : addV n R v = addR R (newRow (redV R v) l) l := by unfold addV; rw [h]
theorem addV_none {n : Nat} {R : Lds} {v : Vec} (h : leadOf (redV R v) 0 n = none) : addV n R v = R := by unfold addV; rw [h]
/-- The rows behind the reduction by the new one. -/
def redAll (R : Lds) (row : Vec) (l : Nat) : Lds := R.map fun p => (vless p.1 row (p.1 l), p.2)
set_option maxRecDepth 100000 in
set_option maxHeartbeats 8000000 in
theorem add_c (w0 : World) (xb n r k : Nat) (ss vs : Sl) (rv lv : Value) (R : Lds) (bs : List Nat) (gs : List Sl) (Ls : List (List Int)) (w : World) (h0 : Ext w0 w) (hS : SolAt w w0.heap.size xb n ss vs rv lv R bs) (hG : SheetOK w0 n ss gs Ls) (hk : k < ss.n) (hn : n ≤ 1000) (hsol : Sol R r) (hr : r ≤ 12) (hr2 : ∀ l, leadOf (redV R (rowV (Ls.getD k []))) 0 n = some l → r + 1 ≤ 12) :
  Calls Try.prog 63 #[.pointer (some ⟨xb, 0, none⟩), .int .i64 (k : Int)] w fun e w' => e = .returned (.tuple #[]) ∧ (∃ rv' lv' bs', SolAt w' w0.heap.size xb n ss vs rv' lv' (addV n R (rowV (Ls.getD k []))) bs') ∧ Ext w0 w' := by
 have H := Lib.hid (And.intro hS (And.intro (hG.ext h0) (And.intro hsol h0)))
 have HR2 := Lib.hid hr2
 clear hS hG hsol h0 hr2
 obtain ⟨v, hv⟩ : ∃ v, rowV (Ls.getD k []) = v := ⟨_, rfl⟩
 have hvz : ∀ c, ZO (v c) := by rw [← hv]; exact rowV_zo _
 rw [hv] at HR2 ⊢
 have HZ := Lib.hid hvz
 have HVE := Lib.hid hv
 clear hv hvz
 go_enter Try.func63, Try.ntmps63
 go_wp2_with fail
 refine (row_c xb n ss vs rv lv gs Ls k _ H.out.1.box H.out.2.1.grps hk hn (H.out.2.1.cell k) (H.out.2.1.len k)).mono ?_
 rw [HVE.out]
 rintro e w1 ⟨b, rfl, hb, hv, hx1⟩
 have hnb : b ∉ bs := fun hm => by have := H.out.1.lt_size hm; omega
 have hbb : w0.heap.size ≤ b := by have := H.out.2.2.2.size; omega
 have H1 := Lib.hid (And.intro (H.out.1.ext hx1) (And.intro hv (H.out.2.2.2.trans hx1)))
 clear hv hx1
 go_wp2_with fail
 refine (reduce_c w0.heap.size xb n b r ss vs rv lv R bs _ _ H1.out.1 H1.out.2.1 hnb hn H.out.2.2.1 hr HZ.out).mono ?_
 rintro e w2 ⟨rfl, hv, ho⟩
 have H2 := Lib.hid (And.intro (H1.out.1.only H1.out.2.1 hnb ho) (And.intro hv (Only.ext H1.out.2.2 hbb ho)))
 clear hv ho
 go_wp2_with fail
 refine (index_add b n _ _ H2.out.2.1 hn).mono ?_
 rintro e w3 ⟨rfl, hx3⟩
 have H3 := Lib.hid (And.intro (H2.out.1.ext hx3) (And.intro (H2.out.2.1.ext hx3) (H2.out.2.2.trans hx3)))
 clear hx3
 cases hl : leadOf (redV R v) 0 n with
 | none =>
  have hL : leadI (redV R v) n = -1 := by unfold leadI; rw [hl]
  have HAV := Lib.hid (addV_none hl)
  rw [hL]
  clear hl hL
  go_wp2_with fail
  refine bodyPost_ret (v := .tuple #[]) (by simp [results, Try.results63, go_sem]) rfl ?_
  exact ⟨rfl, ⟨rv, lv, bs, by rw [HAV.out]; exact H3.out.1⟩, H3.out.2.2⟩
 | some l =>
  obtain ⟨_, hln, hnz, _⟩ := leadOf_some _ _ _ _ hl
  rw [Nat.zero_add] at hln
  have hL : leadI (redV R v) n = (l : Int) := by unfold leadI; rw [hl]
  have HAV := Lib.hid (addV_some hl)
  have hadd := H.out.2.2.1.add (HR2.out l hl) HZ.out hnz
  rw [hL]
  obtain ⟨y, hy⟩ : ∃ y, redV R v = y := ⟨_, rfl⟩
  rw [hy] at HAV hadd hnz H3
  have HB := Lib.hid hadd.1
  have HNZ := Lib.hid hnz
  clear hl hL hadd hnz hy H2 H1 HR2
  obtain ⟨fs, f1, f2, f3⟩ := H3.out.2.1
  obtain ⟨t, ht⟩ : ∃ t, fs[l]? = some t := ⟨_, List.getElem?_eq_getElem (by omega)⟩
  obtain ⟨c0, c1, c2, c3⟩ := f1.quad ht
  have HF := Lib.hid (And.intro f1 (And.intro f2 (And.intro f3 (f3 l t ht))))
  have hb3 := f1.lt
  have l0 : (0 : Int) ≤ (l : Int) := by omega
  have l1 : (l : Int) < (n : Int) := by omega
  have l2 : ¬ (l : Int) < 0 := by omega
  obtain ⟨BY, hBY⟩ : ∃ BY, w3.heap.size = BY := ⟨_, rfl⟩
  clear f1 f2 f3 ht
  go_upto_region 4 with (fail)
  refine wp_gen (fun W => Ext w3 W ∧ Quad0 W BY t) ⟨(by repeat (first | exact Ext.refl _ | assumption | refine Ext.setCell ?_ (by first | (simp; done) | (simp; omega) | omega) _ | refine Ext.alloc ?_ _ | refine Ext.drew ?_ | refine Ext.trans ?_ (by assumption))), (Blk.at t.cs 58 hBY.symm).quad0⟩ ?_
  clear c0 c1 c2 c3
  rintro w4 ⟨E4, Q4⟩
  have H4 := Lib.hid (And.intro E4 Q4)
  have HF4 := Lib.hid (HF.out.1.ext E4)
  have hBne : BY ≠ b := by omega
  clear E4 Q4
  go_upto_region 5 with (fail)
  go_loopw [25] (fun iv ws => ∃ (i : Nat) (fc : List FV), i ≤ n ∧ iv = .int .i64 (i : Int) ∧ FRow ws b fc ∧ fc.length = n ∧ (∀ j f, fc[j]? = some f → j < i → IsQ ws f (newRow y l j)) ∧ (∀ j, i ≤ j → fc[j]? = fs[j]?) ∧ Only b w4 ws) (fun iv _ => n - (intOf iv).toNat)
  case atStart => exact ⟨0, fs, by omega, rfl, HF4.out, HF.out.2.1, fun j f _ h => absurd h (by omega), fun _ _ => rfl, Only.refl b w4⟩
  case round =>
   obtain ⟨i, fc, hi, rfl, h1, h2, h3, h4, h5⟩ := hrel
   by_cases hlt : i < n
   ·obtain ⟨f, hf⟩ : ∃ f, fs[i]? = some f := ⟨_, List.getElem?_eq_getElem (by rw [HF.out.2.1]; exact hlt)⟩
    have hfc : fc[i]? = some f := by rw [h4 i (Nat.le_refl _)]; exact hf
    have hiu : IU w3 wr := H4.out.1.iu.trans h5.iu
    have HFR := Lib.hid (And.intro h1 (And.intro h2 (And.intro h3 (And.intro h4 (And.intro h5 hfc)))))
    have HQ := Lib.hid (And.intro ((HF.out.2.2.1 i f hf).keepU hiu) (HF.out.2.2.2.keepU hiu))
    have QT := Lib.hid (fun W (e : Ext wr W) => (h5.quad0 H4.out.2 hBne).ext e)
    obtain ⟨f0, f1, f2, f3⟩ := h1.quad hfc
    clear h1 h2 h3 h4 h5 hf hfc hiu
    have i0 : (0 : Int) ≤ (i : Int) := by omega
    have i1 : (i : Int) < (n : Int) := by omega
    go_upto_region 7 with (fail)
    refine wp_region_held_drew (S := fun W => Only b wr W ∧ Quad0 W BY t) (by kernel_rfl) ⟨(Ext.refl wr).drew.only b, QT.out _ (Ext.refl wr).drew⟩ (fun hHeld => ?_)
    refine takeL (i := 0) (v := ?_) rfl (by kernel_rfl) (by kernel_rfl) (by kernel_rfl) (fun _ _ _ h => h) (Or.inl ⟨by rfl, ?_⟩) (by assumption) ?_; rotate_left; (focus (intro wq hSw; (try dsimp only at hSw); go_simp; try with_reducible rfl)); (try simp only [Act.put, List.setIfInBounds_toArray, List.set_cons_zero, List.set_cons_succ])
    refine takeL (i := 1) (v := ?_) rfl (by kernel_rfl) (by kernel_rfl) (by kernel_rfl) (fun _ _ _ h => h) (Or.inl ⟨by rfl, ?_⟩) (by assumption) ?_; rotate_left; (focus (intro wq hSw; (try dsimp only at hSw); go_simp; try with_reducible rfl)); (try simp only [Act.put, List.setIfInBounds_toArray, List.set_cons_zero, List.set_cons_succ])
    refine takeL (i := 2) (v := ?_) rfl (by kernel_rfl) (by kernel_rfl) (by kernel_rfl) (fun _ _ _ h => h) (Or.inl ⟨by rfl, ?_⟩) (by assumption) ?_; rotate_left; (focus (intro wq hSw; (try dsimp only at hSw); go_simp; try with_reducible rfl)); (try simp only [Act.put, List.setIfInBounds_toArray, List.set_cons_zero, List.set_cons_succ])
    refine takeL (i := 3) (v := ?_) rfl (by kernel_rfl) (by kernel_rfl) (by kernel_rfl) (fun _ _ _ h => h) (Or.inl ⟨by rfl, ?_⟩) (by assumption) ?_; rotate_left; (focus (intro wq hSw; (try dsimp only at hSw); go_simp; try with_reducible rfl)); (try simp only [Act.put, List.setIfInBounds_toArray, List.set_cons_zero, List.set_cons_succ])
    refine takeL (i := 4) (v := ?_) rfl (by kernel_rfl) (by kernel_rfl) (by kernel_rfl) (fun _ _ _ h => h) (Or.inl ⟨by rfl, ?_⟩) (by assumption) ?_; rotate_left; (focus (intro wq hSw; (try dsimp only at hSw); go_simp; try with_reducible rfl)); (try simp only [Act.put, List.setIfInBounds_toArray, List.set_cons_zero, List.set_cons_succ])
    refine takeL (i := 6) (v := ?_) rfl (by kernel_rfl) (by kernel_rfl) (by kernel_rfl) (fun _ _ _ h => h) (Or.inl ⟨by rfl, ?_⟩) (by assumption) ?_; rotate_left; (focus (intro wq hSw; have hcc := hSw.2; clear hSw; obtain ⟨c0, c1, c2, c3⟩ := hcc; go_simp; try with_reducible rfl)); (try simp only [Act.put, List.setIfInBounds_toArray, List.set_cons_zero, List.set_cons_succ])
    refine consL (i := 5) (by kernel_rfl) rfl (fun K hK => ?_); go_simp; refine hK.out _ _ ?_ (fun hHeld => ?_); rotate_left; clear hK K; rotate_right; (focus assumption); (try simp only [Act.put, List.setIfInBounds_toArray, List.set_cons_zero, List.set_cons_succ])
    refine consL (i := 7) (by kernel_rfl) rfl (fun K hK => ?_); go_simp; go_at_call 81; refine (divQ_c f t (y i) (y l) BB BBk _ (HQ.out.1.keep ((Ext.refl wr).drew.ik)) (HQ.out.2.keep ((Ext.refl wr).drew.ik)) (HB.out.old i) (HB.out.old l) HNZ.out BB_lt (by decide)).mono ?_; rintro e w5 ⟨r, rfl, hr, hx5⟩; go_wp2_with fail; refine hK.out _ _ ?_ ?_; rotate_left; clear hK K; (try clear hHeld); intro hHeld; rotate_right; (focus (exact ⟨(Ext.only ((Ext.refl wr).drew.trans hx5) b), QT.out _ ((Ext.refl wr).drew.trans hx5)⟩)); (try simp only [Act.put, List.setIfInBounds_toArray, List.set_cons_zero, List.set_cons_succ])
    have HX5 := Lib.hid ((Ext.refl wr).drew.trans hx5)
    have HR := Lib.hid hr
    have hrow5 := HFR.out.1.ext HX5.out
    have HRO := Lib.hid hrow5
    obtain ⟨o0, o1, o2, o3⟩ := hrow5.quad HFR.out.2.2.2.2.2
    have hfr5 := hrow5.free
    refine takeL (i := 8) (v := ?_) rfl (by kernel_rfl) (by kernel_rfl) (by kernel_rfl) (fun _ _ _ h => h) (Or.inl ⟨by rfl, ?_⟩) (by assumption) ?_; rotate_left; (focus (intro wq hSw; (try dsimp only at hSw); go_simp; try with_reducible rfl)); (try simp only [Act.put, List.setIfInBounds_toArray, List.set_cons_zero, List.set_cons_succ])
    refine takeL (i := 9) (v := ?_) rfl (by kernel_rfl) (by kernel_rfl) (by kernel_rfl) (fun _ _ _ h => h) (Or.inl ⟨by rfl, ?_⟩) (by assumption) ?_; rotate_left; (focus (intro wq hSw; (try dsimp only at hSw); go_simp; try with_reducible rfl)); (try simp only [Act.put, List.setIfInBounds_toArray, List.set_cons_zero, List.set_cons_succ])
    refine takeL (i := 10) (v := ?_) rfl (by kernel_rfl) (by kernel_rfl) (by kernel_rfl) (fun _ _ _ h => h) (Or.inl ⟨by rfl, ?_⟩) (by assumption) ?_; rotate_left; (focus (intro wq hSw; (try dsimp only at hSw); go_simp; try with_reducible rfl)); (try simp only [Act.put, List.setIfInBounds_toArray, List.set_cons_zero, List.set_cons_succ])
    refine takeL (i := 11) (v := ?_) rfl (by kernel_rfl) (by kernel_rfl) (by kernel_rfl) (fun _ _ _ h => h) (Or.inl ⟨by rfl, ?_⟩) (by assumption) ?_; rotate_left; (focus (intro wq hSw; (try dsimp only at hSw); go_simp; try with_reducible rfl)); (try simp only [Act.put, List.setIfInBounds_toArray, List.set_cons_zero, List.set_cons_succ])
    clear f0 f1 f2 f3 hr hx5 hrow5
    refine consL (i := 12) (by kernel_rfl) rfl (fun K hK => ?_); go_simp; refine hK.out _ _ ?_ ?_; rotate_left; clear hK K; (try clear hHeld); intro hHeld; rotate_right; (focus (exact ⟨(Ext.only HX5.out b).trans (Only.putQ HRO.out r), (Only.putQ HRO.out r).quad0 (QT.out _ HX5.out) hBne⟩)); (try simp only [Act.put, List.setIfInBounds_toArray, List.set_cons_zero, List.set_cons_succ])
    refine doneL (by kernel_rfl) ?_
    have HO := Lib.hid (Only.putQ (o := i * 4) HRO.out r)
    have HP := Lib.hid (HRO.out.put (i := i) (by rw [HFR.out.2.1]; exact hlt) r)
    clear o0 o1 o2 o3 hfr5 hHeld
    go_wp2_with fail
    go_roundw
    case rel =>
     refine ⟨i + 1, fc.set i r, by omega, by go_num, HP.out, by rw [List.length_set]; exact HFR.out.2.1, fun j f' hj hji => ?_, fun j hj => ?_, (HFR.out.2.2.2.2.1.trans (HX5.out.only b)).trans HO.out⟩
     ·by_cases hij : i = j
      ·subst hij
       rw [List.getElem?_set_self (by rw [HFR.out.2.1]; exact hlt)] at hj
       injection hj with hj
       subst hj
       exact HR.out.keepU HO.out.iu
      ·rw [List.getElem?_set_ne hij] at hj
       exact (HFR.out.2.2.1 j f' hj (by omega)).keepU (HX5.out.iu.trans HO.out.iu)
     ·rw [List.getElem?_set_ne (by omega)]
      exact HFR.out.2.2.2.1 j (by omega)
    case measure => simp [intOf]; omega
   ·obtain rfl : n = i := by omega
    have hvr : VecAt wr b n (newRow y l) := ⟨fc, h1, h2, fun j f hf => h3 j f hf (by
     rcases Nat.lt_or_ge j n with h9 | h9
     ·exact h9
     ·rw [List.getElem?_eq_none (by omega)] at hf; cases hf)⟩
    have hs4 := H3.out.1.ext H4.out.1
    have hsr := hs4.only (H3.out.2.1.ext H4.out.1) hnb h5
    have H5 := Lib.hid (And.intro hsr (And.intro hvr (Only.ext (H3.out.2.2.trans H4.out.1) hbb h5)))
    clear h1 h2 h3 h4 h5 hvr hs4 hsr
    obtain ⟨ra, rc, rfl, hrows⟩ := owns_sl H5.out.1.rows rfl
    have hbox5 := H5.out.1.box
    have x0 := hbox5.cell 0; have x1 := hbox5.cell 1; have x2 := hbox5.cell 2; have x3 := hbox5.cell 3; have x4 := hbox5.cell 4; simp only [List.getElem?_toArray, List.getElem?_cons_zero, List.getElem?_cons_succ] at x0 x1 x2 x3 x4
    obtain ⟨row, hrow⟩ : ∃ row, newRow y l = row := ⟨_, rfl⟩
    have HROW := Lib.hid hrow
    rw [hrow] at H5 HAV
    have HRS := Lib.hid hrows
    have hRl : R.length ≤ 12 := by have := H.out.2.2.1.len; omega
    clear hrow hrows hbox5
    go_upto_region 10 with (fail)
    clear x0 x1 x2 x3 x4
    go_loopw [46] (fun iv ws => ∃ i : Nat, i ≤ R.length ∧ iv = .int .i64 (i : Int) ∧ SolAt ws w0.heap.size xb n ss vs (.slice ra R.length rc) lv ((redAll R row l).take i ++ R.drop i) bs ∧ VecAt ws b n row ∧ Ext w0 ws) (fun iv _ => R.length - (intOf iv).toNat)
    case atStart => exact ⟨0, by omega, rfl, H5.out.1, H5.out.2.1, H5.out.2.2⟩
    case round =>
     obtain ⟨i, hi, rfl, hSi, hVi, hEi⟩ := hrel
     have hRm : ((redAll R row l).take i ++ R.drop i).length = R.length := by rw [List.length_append, List.length_take, List.length_drop]; unfold redAll; rw [List.length_map]; omega
     have hra : (redAll R row l).length = R.length := by unfold redAll; rw [List.length_map]
     by_cases hlt : i < R.length
     ·obtain ⟨p, hp⟩ : ∃ p, R[i]? = some p := ⟨_, List.getElem?_eq_getElem hlt⟩
      obtain ⟨b', hb'⟩ : ∃ b', bs[i]? = some b' := ⟨_, List.getElem?_eq_getElem (by rw [hSi.len, hRm]; exact hlt)⟩
      have hpm : ((redAll R row l).take i ++ R.drop i)[i]? = some p := by rw [mid_get _ _ hra]; exact hp
      obtain ⟨a2, c2, e2, hr2⟩ := owns_sl hSi.rows rfl
      injection e2 with e3 e4 e5
      subst e3; subst e5
      obtain ⟨g, hg0, hg, hgt, hgc⟩ := hr2.resolve_left (by omega)
      subst hg0
      have d1 := hgc i _ (by rw [List.getElem?_map, hb']; rfl) (by omega)
      obtain ⟨fs', g1, g2, g3⟩ := hSi.each i b' p hb' hpm
      obtain ⟨q, hq⟩ : ∃ q, fs'[l]? = some q := ⟨_, List.getElem?_eq_getElem (by omega)⟩
      obtain ⟨c0, c1, c2', c3⟩ := g1.quad hq
      have hne : b' ≠ b := fun e => hnb (e ▸ List.mem_of_getElem? hb')
      have hsm := HB.out.each p (List.mem_of_getElem? hp)
      have hsr := HB.out.row
      rw [HROW.out] at hsm hsr
      have HS := Lib.hid (And.intro hSi (And.intro hVi (And.intro hEi (And.intro hpm (And.intro hb' (And.intro (show VecAt wr b' n p.1 from ⟨fs', g1, g2, g3⟩) (And.intro (g3 l q hq) (And.intro hsm hsr))))))))
      have HN := Lib.hid (mid_step (redAll R row l) R hra i (vless p.1 row (p.1 l), p.2) (by unfold redAll; rw [List.getElem?_map, hp]; rfl))
      have i0 : (0 : Int) ≤ (i : Int) := by omega
      have i1 : (i : Int) < (R.length : Int) := by omega
      clear hSi hVi hEi hpm hb' hp g1 g2 g3 hq hsm hsr hr2 e4 hgt hgc
      go_wp2_with fail
      refine (less_c b' b n q p.1 row (p.1 l) _ HS.out.2.2.2.2.2.1 HS.out.2.1 hn hne HS.out.2.2.2.2.2.2.1 HS.out.2.2.2.2.2.2.2.1.1 (fun c => ⟨(HS.out.2.2.2.2.2.2.2.1.2 c).1, HS.out.2.2.2.2.2.2.2.2 c, (HS.out.2.2.2.2.2.2.2.1.2 c).2.1⟩)).mono ?_
      rintro e w5 ⟨rfl, hW5, hO5⟩
      have hup := HS.out.1.upd HS.out.2.2.2.2.1 HS.out.2.2.2.1 hO5 hW5
      rw [HN.out] at hup
      have HF := Lib.hid (And.intro hup (And.intro (HS.out.2.1.only hO5 (Ne.symm hne)) (Only.ext HS.out.2.2.1 (HS.out.1.hbase.2 b' (List.mem_of_getElem? HS.out.2.2.2.2.1)) hO5)))
      clear hW5 hO5 hup d1 c0 c1 c2' c3
      go_wp2_with fail
      go_roundw
      case rel => exact ⟨i + 1, by omega, by go_num, HF.out.1, HF.out.2.1, HF.out.2.2⟩
      case measure => simp [intOf]; omega
     ·obtain rfl : i = R.length := by omega
      rw [List.take_of_length_le (by omega), List.drop_of_length_le (Nat.le_refl _), List.append_nil] at hSi
      go_upto_region 14 with (fail)
      obtain ⟨la, lc, rfl, _⟩ := owns_sl hSi.leads rfl
      rw [List.length_map, hra] at hSi
      have hbx := hSi.box
      have x0 := hbx.cell 0; have x1 := hbx.cell 1; have x2 := hbx.cell 2; have x3 := hbx.cell 3; have x4 := hbx.cell 4; simp only [List.getElem?_toArray, List.getElem?_cons_zero, List.getElem?_cons_succ] at x0 x1 x2 x3 x4
      have hrw := hSi.rows
      rw [hra] at hrw
      have hld := hSi.leads
      unfold VRow at hld
      rw [List.length_map, hra] at hld
      obtain ⟨XS0, hXS⟩ : ∃ X, (bs.map fun b => Value.slice (some ⟨b, 0, none⟩) n n) = X := ⟨_, rfl⟩
      obtain ⟨YS0, hYS⟩ : ∃ Y, ivals ((redAll R row l).map fun p => (p.2 : Int)) = Y := ⟨_, rfl⟩
      have HX0 := Lib.hid (show ∀ u ∈ XS0, ∀ m, u ≠ Value.int .u32 m by rw [← hXS]; exact nu_rows bs n)
      have HY0 := Lib.hid (show ∀ u ∈ YS0, ∀ m, u ≠ Value.int .u32 m by rw [← hYS]; exact nu_ints _)
      rw [hXS] at hrw
      rw [hYS] at hld
      obtain ⟨CS, hCS⟩ : ∃ C, #[Value.int .i64 (n : Int), ss.v, vs.v, .slice ra R.length rc, .slice la R.length lc] = C := ⟨_, rfl⟩
      rw [hCS] at hbx
      have hM : Mid2 w0.heap.size xb CS (.slice ra R.length rc) (.slice la R.length lc) wr wr.drew (.slice ra R.length rc) (.slice la R.length lc) R.length R.length XS0 YS0 := ⟨(Far.refl _ _ _ wr).ext (Ext.refl wr).drew hEi.size, hbx, ⟨hrw, hSi.nur⟩, ⟨hld, hSi.nul⟩, hEi.size⟩
      have M := Lib.hid hM
      have HXY := Lib.hid (And.intro hXS (And.intro hYS hCS))
      have scell : ∀ {W : World}, Blk W xb CS 100 → W.cell? ⟨xb, 3, none⟩ = some (.slice ra R.length rc) ∧ W.cell? ⟨xb, 4, none⟩ = some (.slice la R.length lc) := fun hb => by
       have e3 := hb.cell 3
       have e4 := hb.cell 4
       rw [← HXY.out.2.2] at e3 e4
       exact ⟨e3, e4⟩
      have HF := Lib.hid (And.intro hSi (And.intro hVi hEi))
      clear hSi hbx hrw hld hXS hYS hCS hM hVi hEi hRm
      obtain ⟨i0, hi0, hz0, hz1, hz2⟩ := info_parts fracsInfo
      obtain ⟨j0, hj0, hy0, hy1, hy2⟩ := info_parts intInfo
      refine wp_region_E (fun W => W.cell? ⟨xb, 3, none⟩ = some (.slice ra R.length rc) ∧ W.cell? ⟨xb, 4, none⟩ = some (.slice la R.length lc)) [18, 21] (by kernel_rfl) ⟨x3, x4⟩ (fun hS0 => ?_)
      refine takeP (i := 0) (v := ?_) rfl (by kernel_rfl) (by kernel_rfl) (by kernel_rfl) (fun _ _ _ h => h) (Or.inl ⟨by rfl, ?_⟩) ?_; rotate_left; (focus (intro wq hSw; clear hSw; go_simp; try with_reducible rfl)); (try simp only [Act.put, List.setIfInBounds_toArray, List.set_cons_zero, List.set_cons_succ])
      refine takeP (i := 1) (v := ?_) rfl (by kernel_rfl) (by kernel_rfl) (by kernel_rfl) (fun _ _ _ h => h) (Or.inl ⟨by rfl, ?_⟩) ?_; rotate_left; (focus (intro wq hSw; clear hSw; go_simp; try with_reducible rfl)); (try simp only [Act.put, List.setIfInBounds_toArray, List.set_cons_zero, List.set_cons_succ])
      refine takeP (i := 2) (v := ?_) rfl (by kernel_rfl) (by kernel_rfl) (by kernel_rfl) (fun _ _ _ h => h) (Or.inl ⟨by rfl, ?_⟩) ?_; rotate_left; (focus (intro wq hSw; clear hSw; go_simp; try with_reducible rfl)); (try simp only [Act.put, List.setIfInBounds_toArray, List.set_cons_zero, List.set_cons_succ])
      refine takeP (i := 3) (v := ?_) rfl (by kernel_rfl) (by kernel_rfl) (by kernel_rfl) (fun _ _ _ h => h) (Or.inl ⟨by rfl, ?_⟩) ?_; rotate_left; (focus (intro wq hSw; clear hSw; go_simp; try with_reducible rfl)); (try simp only [Act.put, List.setIfInBounds_toArray, List.set_cons_zero, List.set_cons_succ])
      refine takeP (i := 4) (v := ?_) rfl (by kernel_rfl) (by kernel_rfl) (by kernel_rfl) (fun _ _ _ h => h) (Or.inl ⟨by rfl, ?_⟩) ?_; rotate_left; (focus (intro wq hSw; clear hSw; go_simp; try with_reducible rfl)); (try simp only [Act.put, List.setIfInBounds_toArray, List.set_cons_zero, List.set_cons_succ])
      refine takeE (i := 5) (v := ?_) rfl (by kernel_rfl) (by kernel_rfl) (by kernel_rfl) (fun _ _ _ h => h) (by kernel_rfl) (by kernel_rfl) (Or.inl ⟨by rfl, ?_⟩) (by assumption) ?_; rotate_left; (focus (intro wq hSw; obtain ⟨s3, s4⟩ := hSw; go_simp; try with_reducible rfl)); (try simp only [Act.put, List.setIfInBounds_toArray, List.set_cons_zero, List.set_cons_succ])
      refine takeP (i := 6) (v := ?_) rfl (by kernel_rfl) (by kernel_rfl) (by kernel_rfl) (fun _ _ _ h => h) (Or.inl ⟨by rfl, ?_⟩) ?_; rotate_left; (focus (intro wq hSw; clear hSw; go_simp; try with_reducible rfl)); (try simp only [Act.put, List.setIfInBounds_toArray, List.set_cons_zero, List.set_cons_succ])
      refine takeP (i := 9) (v := ?_) rfl (by kernel_rfl) (by kernel_rfl) (by kernel_rfl) (fun _ _ _ h => h) (Or.inl ⟨by rfl, ?_⟩) ?_; rotate_left; (focus (intro wq hSw; clear hSw; go_simp; try with_reducible rfl)); (try simp only [Act.put, List.setIfInBounds_toArray, List.set_cons_zero, List.set_cons_succ])
      refine takeP (i := 10) (v := ?_) rfl (by kernel_rfl) (by kernel_rfl) (by kernel_rfl) (fun _ _ _ h => h) (Or.inl ⟨by rfl, ?_⟩) ?_; rotate_left; (focus (intro wq hSw; clear hSw; go_simp; try with_reducible rfl)); (try simp only [Act.put, List.setIfInBounds_toArray, List.set_cons_zero, List.set_cons_succ])
      refine takeP (i := 11) (v := ?_) rfl (by kernel_rfl) (by kernel_rfl) (by kernel_rfl) (fun _ _ _ h => h) (Or.inl ⟨by rfl, ?_⟩) ?_; rotate_left; (focus (intro wq hSw; clear hSw; go_simp; try with_reducible rfl)); (try simp only [Act.put, List.setIfInBounds_toArray, List.set_cons_zero, List.set_cons_succ])
      refine takeE (i := 12) (v := ?_) rfl (by kernel_rfl) (by kernel_rfl) (by kernel_rfl) (fun _ _ _ h => h) (by kernel_rfl) (by kernel_rfl) (Or.inl ⟨by rfl, ?_⟩) (by assumption) ?_; rotate_left; (focus (intro wq hSw; obtain ⟨s3, s4⟩ := hSw; go_simp; try with_reducible rfl)); (try simp only [Act.put, List.setIfInBounds_toArray, List.set_cons_zero, List.set_cons_succ])
      refine takeP (i := 13) (v := ?_) rfl (by kernel_rfl) (by kernel_rfl) (by kernel_rfl) (fun _ _ _ h => h) (Or.inl ⟨by rfl, ?_⟩) ?_; rotate_left; (focus (intro wq hSw; clear hSw; go_simp; try with_reducible rfl)); (try simp only [Act.put, List.setIfInBounds_toArray, List.set_cons_zero, List.set_cons_succ])
      clear hS0 x0 x1 x2 x3 x4
      obtain ⟨W, hW⟩ : ∃ W, W = wr.drew := ⟨_, rfl⟩
      rw [← hW] at M
      rw [← hW]
      clear hW
      --BEGIN14
      refine cons2E (i := 7) (j := 14) (by kernel_rfl) rfl rfl (fun K hK => ?_) (fun K hK => ?_)
      ·go_simp; refine hK.out _ _ ?_ (fun _ => ?_); rotate_left; clear hK K; rotate_right; (focus (exact .inr (.inl (scell (M.out.box.alloc _))))); (try simp only [Act.put, List.setIfInBounds_toArray, List.set_cons_zero, List.set_cons_succ])
       obtain ⟨nb1, hnb1⟩ : ∃ k, k = W.heap.size := ⟨_, rfl⟩
       rw [← hnb1]
       refine wpAnyE_gen (fun W => Mid2 w0.heap.size xb CS (.slice ra R.length rc) (.slice la R.length lc) wr W (.slice ra R.length rc) (.slice la R.length lc) R.length R.length XS0 YS0 ∧ Blk W nb1 #[.slice (some ⟨b, 0, none⟩) n n] 52) ⟨Mid2.ext M.out ((Ext.refl _).alloc _), (by rw [hnb1]; exact Blk.at _ 52 rfl)⟩ ?_
       clear hnb1 M
       rintro W ⟨hM, hN1⟩
       have M := Lib.hid hM
       have N1 := Lib.hid hN1
       clear hM hN1
       refine cons2E (i := 8) (j := 14) (by kernel_rfl) rfl rfl (fun K hK => ?_) (fun K hK => ?_)
       ·refine step_append_nu _ rfl _ _ _ rfl w0.heap.size 52 i0 _ 1 24 Try.underlying98 hi0 hz0 hz1 hz2 rfl (by omega) (.slice ra R.length rc) R.length XS0 rfl M.out.r.1 ⟨nb1, 0, none⟩ 1 1 [.slice (some ⟨b, 0, none⟩) n n] rfl rfl (World.news_of_block (cs := #[.slice (some ⟨b, 0, none⟩) n n]) (t := 52) (fr := (0, 0)) N1.out) (by simp [Value.oneCell']) (by omega) (by rw [maxLen]; omega) (by omega) M.out.size _ rfl M.out.r.2 HX0.out (by simp) (by simp [Value.cells]) ?_
        intro g1 cp1 W' hown hgrow hat hlt1 hiu hnu
        have M2 := Lib.hid (M.out.left hgrow hiu (show OwnU W' _ 52 (.slice (some ⟨g1, 0, none⟩) (R.length + 1) cp1) (R.length + 1) _ from ⟨hown, fun k hk => by simp [Value.ownBlock] at hk; subst hk; exact hnu⟩))
        clear hown hgrow hat hiu hnu
        refine hK.out _ _ ?_ (fun _ => ?_); rotate_left; clear hK K; rotate_right; (focus (exact .inr (.inl (scell M2.out.box)))); (try simp only [Act.put, List.setIfInBounds_toArray, List.set_cons_zero, List.set_cons_succ])
        clear M N1
        have M := M2
        clear M2
        obtain ⟨W, hW⟩ : ∃ W, W = W' := ⟨_, rfl⟩
        subst hW
        refine consE (i := 14) (by kernel_rfl) rfl (fun K hK => ?_)
        go_simp; refine hK.out _ _ ?_ (fun _ => ?_); rotate_left; clear hK K; rotate_right; (focus (exact .inr (.inl (scell (M.out.box.alloc _))))); (try simp only [Act.put, List.setIfInBounds_toArray, List.set_cons_zero, List.set_cons_succ])
        obtain ⟨nb2, hnb2⟩ : ∃ k, k = W.heap.size := ⟨_, rfl⟩
        rw [← hnb2]
        refine wpAnyE_gen (fun W => Mid2 w0.heap.size xb CS (.slice ra R.length rc) (.slice la R.length lc) wr W (.slice (some ⟨g1, 0, none⟩) (R.length + 1) cp1) (.slice la R.length lc) (R.length + 1) R.length (XS0 ++ [.slice (some ⟨b, 0, none⟩) n n]) YS0 ∧ Blk W nb2 #[.int .i64 (l : Int)] 3) ⟨Mid2.ext M.out ((Ext.refl _).alloc _), (by rw [hnb2]; exact Blk.at _ 3 rfl)⟩ ?_
        clear hnb2 M
        rintro W ⟨hM, hN2⟩
        have M := Lib.hid hM
        have N2 := Lib.hid hN2
        clear hM hN2
        refine consE (i := 15) (by kernel_rfl) rfl (fun K hK => ?_)
        refine step_append_nu _ rfl _ _ _ rfl w0.heap.size 3 j0 _ 1 8 Try.underlying22 hj0 hy0 hy1 hy2 rfl (by omega) (.slice la R.length lc) R.length YS0 rfl M.out.i.1 ⟨nb2, 0, none⟩ 1 1 [.int .i64 (l : Int)] rfl rfl (World.news_of_block (cs := #[.int .i64 (l : Int)]) (t := 3) (fr := (0, 0)) N2.out) (by simp [Value.oneCell']) (by omega) (by rw [maxLen]; omega) (by omega) M.out.size _ rfl M.out.i.2 HY0.out (by simp) (by simp [Value.cells]) ?_
        intro g2 cp2 W' hown hgrow hat hlt1 hiu hnu
        have M2 := Lib.hid (M.out.right hgrow hiu (show OwnU W' _ 3 (.slice (some ⟨g2, 0, none⟩) (R.length + 1) cp2) (R.length + 1) _ from ⟨hown, fun k hk => by simp [Value.ownBlock] at hk; subst hk; exact hnu⟩))
        clear hown hgrow hat hiu hnu
        refine hK.out _ _ ?_ (fun _ => ?_); rotate_left; clear hK K; rotate_right; (focus (exact .inr (.inl (scell M2.out.box)))); (try simp only [Act.put, List.setIfInBounds_toArray, List.set_cons_zero, List.set_cons_succ])
        clear M N2
        have M := M2
        clear M2
        obtain ⟨W, hW⟩ : ∃ W, W = W' := ⟨_, rfl⟩
        subst hW
        refine takeP (i := 16) (v := ?_) rfl (by kernel_rfl) (by kernel_rfl) (by kernel_rfl) (fun _ _ _ h => h) (Or.inl ⟨by rfl, ?_⟩) ?_; rotate_left; (focus (intro wq hSw; clear hSw; go_simp; try with_reducible rfl)); (try simp only [Act.put, List.setIfInBounds_toArray, List.set_cons_zero, List.set_cons_succ]); refine takeP (i := 17) (v := ?_) rfl (by kernel_rfl) (by kernel_rfl) (by kernel_rfl) (fun _ _ _ h => h) (Or.inl ⟨by rfl, ?_⟩) ?_; rotate_left; (focus (intro wq hSw; clear hSw; go_simp; try with_reducible rfl)); (try simp only [Act.put, List.setIfInBounds_toArray, List.set_cons_zero, List.set_cons_succ]); have mb := M.out.box; have hxc := Lib.hid mb; have z3 := (scell mb).1; have z4 := (scell mb).2; have zf := mb.free; clear mb; refine consE (i := 18) (by kernel_rfl) rfl (fun K hK => ?_); go_simp; refine hK.out _ _ ?_ (fun _ => ?_); rotate_left; clear hK K; rotate_right; (focus (exact .inl (by simp))); (try simp only [Act.put, List.setIfInBounds_toArray, List.set_cons_zero, List.set_cons_succ]); refine takeP (i := 19) (v := ?_) rfl (by kernel_rfl) (by kernel_rfl) (by kernel_rfl) (fun _ _ _ h => h) (Or.inl ⟨by rfl, ?_⟩) ?_; rotate_left; (focus (intro wq hSw; clear hSw; go_simp; try with_reducible rfl)); (try simp only [Act.put, List.setIfInBounds_toArray, List.set_cons_zero, List.set_cons_succ]); refine takeP (i := 20) (v := ?_) rfl (by kernel_rfl) (by kernel_rfl) (by kernel_rfl) (fun _ _ _ h => h) (Or.inl ⟨by rfl, ?_⟩) ?_; rotate_left; (focus (intro wq hSw; clear hSw; go_simp; try with_reducible rfl)); (try simp only [Act.put, List.setIfInBounds_toArray, List.set_cons_zero, List.set_cons_succ]); refine consE (i := 21) (by kernel_rfl) rfl (fun K hK => ?_); go_simp; refine hK.out _ _ ?_ (fun _ => ?_); rotate_left; clear hK K; rotate_right; (focus (exact .inl (by simp))); (try simp only [Act.put, List.setIfInBounds_toArray, List.set_cons_zero, List.set_cons_succ]); refine doneE (by kernel_rfl) ?_ _; have HZ9 := Lib.hid (HF.out.1.fin HF.out.2.1 hnb hbb hln HXY.out.2.2 HXY.out.1 HXY.out.2.1 hra M.out (by simp) (by simp)); clear z3 z4 zf; go_wp2_with fail; go_end0; exact ⟨rfl, ⟨_, _, bs ++ [b], by rw [HAV.out]; exact HZ9.out.1⟩, Below.trans HF.out.2.2 HZ9.out.2⟩
       ·go_simp; refine hK.out _ _ ?_ (fun _ => ?_); rotate_left; clear hK K; rotate_right; (focus (exact .inr (.inl (scell (M.out.box.alloc _))))); (try simp only [Act.put, List.setIfInBounds_toArray, List.set_cons_zero, List.set_cons_succ])
        obtain ⟨nb2, hnb2⟩ : ∃ k, k = W.heap.size := ⟨_, rfl⟩
        rw [← hnb2]
        refine wpAnyE_gen (fun W => Mid2 w0.heap.size xb CS (.slice ra R.length rc) (.slice la R.length lc) wr W (.slice ra R.length rc) (.slice la R.length lc) R.length R.length XS0 YS0 ∧ Blk W nb2 #[.int .i64 (l : Int)] 3 ∧ Blk W nb1 #[.slice (some ⟨b, 0, none⟩) n n] 52) ⟨Mid2.ext M.out ((Ext.refl _).alloc _), (by rw [hnb2]; exact Blk.at _ 3 rfl), N1.out.alloc _⟩ ?_
        clear hnb2 M N1
        rintro W ⟨hM, hN2, hN1⟩
        have M := Lib.hid hM
        have N2 := Lib.hid hN2
        have N1 := Lib.hid hN1
        clear hM hN2 hN1
        refine consE (i := 8) (by kernel_rfl) rfl (fun K hK => ?_)
        refine step_append_nu _ rfl _ _ _ rfl w0.heap.size 52 i0 _ 1 24 Try.underlying98 hi0 hz0 hz1 hz2 rfl (by omega) (.slice ra R.length rc) R.length XS0 rfl M.out.r.1 ⟨nb1, 0, none⟩ 1 1 [.slice (some ⟨b, 0, none⟩) n n] rfl rfl (World.news_of_block (cs := #[.slice (some ⟨b, 0, none⟩) n n]) (t := 52) (fr := (0, 0)) N1.out) (by simp [Value.oneCell']) (by omega) (by rw [maxLen]; omega) (by omega) M.out.size _ rfl M.out.r.2 HX0.out (by simp) (by simp [Value.cells]) ?_
        intro g1 cp1 W' hown hgrow hat hlt1 hiu hnu
        have M2 := Lib.hid (M.out.left hgrow hiu (show OwnU W' _ 52 (.slice (some ⟨g1, 0, none⟩) (R.length + 1) cp1) (R.length + 1) _ from ⟨hown, fun k hk => by simp [Value.ownBlock] at hk; subst hk; exact hnu⟩))
        have N3 := Lib.hid (blk_grown N2.out M.out.r.1 (by decide) hgrow)
        clear hown hgrow hat hiu hnu
        refine hK.out _ _ ?_ (fun _ => ?_); rotate_left; clear hK K; rotate_right; (focus (exact .inr (.inl (scell M2.out.box)))); (try simp only [Act.put, List.setIfInBounds_toArray, List.set_cons_zero, List.set_cons_succ])
        clear M N1 N2
        have M := M2
        have N2 := N3
        clear M2 N3
        obtain ⟨W, hW⟩ : ∃ W, W = W' := ⟨_, rfl⟩
        subst hW
        refine consE (i := 15) (by kernel_rfl) rfl (fun K hK => ?_)
        refine step_append_nu _ rfl _ _ _ rfl w0.heap.size 3 j0 _ 1 8 Try.underlying22 hj0 hy0 hy1 hy2 rfl (by omega) (.slice la R.length lc) R.length YS0 rfl M.out.i.1 ⟨nb2, 0, none⟩ 1 1 [.int .i64 (l : Int)] rfl rfl (World.news_of_block (cs := #[.int .i64 (l : Int)]) (t := 3) (fr := (0, 0)) N2.out) (by simp [Value.oneCell']) (by omega) (by rw [maxLen]; omega) (by omega) M.out.size _ rfl M.out.i.2 HY0.out (by simp) (by simp [Value.cells]) ?_
        intro g2 cp2 W' hown hgrow hat hlt1 hiu hnu
        have M2 := Lib.hid (M.out.right hgrow hiu (show OwnU W' _ 3 (.slice (some ⟨g2, 0, none⟩) (R.length + 1) cp2) (R.length + 1) _ from ⟨hown, fun k hk => by simp [Value.ownBlock] at hk; subst hk; exact hnu⟩))
        clear hown hgrow hat hiu hnu
        refine hK.out _ _ ?_ (fun _ => ?_); rotate_left; clear hK K; rotate_right; (focus (exact .inr (.inl (scell M2.out.box)))); (try simp only [Act.put, List.setIfInBounds_toArray, List.set_cons_zero, List.set_cons_succ])
        clear M N2
        have M := M2
        clear M2
        obtain ⟨W, hW⟩ : ∃ W, W = W' := ⟨_, rfl⟩
        subst hW
        refine takeP (i := 16) (v := ?_) rfl (by kernel_rfl) (by kernel_rfl) (by kernel_rfl) (fun _ _ _ h => h) (Or.inl ⟨by rfl, ?_⟩) ?_; rotate_left; (focus (intro wq hSw; clear hSw; go_simp; try with_reducible rfl)); (try simp only [Act.put, List.setIfInBounds_toArray, List.set_cons_zero, List.set_cons_succ]); refine takeP (i := 17) (v := ?_) rfl (by kernel_rfl) (by kernel_rfl) (by kernel_rfl) (fun _ _ _ h => h) (Or.inl ⟨by rfl, ?_⟩) ?_; rotate_left; (focus (intro wq hSw; clear hSw; go_simp; try with_reducible rfl)); (try simp only [Act.put, List.setIfInBounds_toArray, List.set_cons_zero, List.set_cons_succ]); have mb := M.out.box; have hxc := Lib.hid mb; have z3 := (scell mb).1; have z4 := (scell mb).2; have zf := mb.free; clear mb; refine consE (i := 18) (by kernel_rfl) rfl (fun K hK => ?_); go_simp; refine hK.out _ _ ?_ (fun _ => ?_); rotate_left; clear hK K; rotate_right; (focus (exact .inl (by simp))); (try simp only [Act.put, List.setIfInBounds_toArray, List.set_cons_zero, List.set_cons_succ]); refine takeP (i := 19) (v := ?_) rfl (by kernel_rfl) (by kernel_rfl) (by kernel_rfl) (fun _ _ _ h => h) (Or.inl ⟨by rfl, ?_⟩) ?_; rotate_left; (focus (intro wq hSw; clear hSw; go_simp; try with_reducible rfl)); (try simp only [Act.put, List.setIfInBounds_toArray, List.set_cons_zero, List.set_cons_succ]); refine takeP (i := 20) (v := ?_) rfl (by kernel_rfl) (by kernel_rfl) (by kernel_rfl) (fun _ _ _ h => h) (Or.inl ⟨by rfl, ?_⟩) ?_; rotate_left; (focus (intro wq hSw; clear hSw; go_simp; try with_reducible rfl)); (try simp only [Act.put, List.setIfInBounds_toArray, List.set_cons_zero, List.set_cons_succ]); refine consE (i := 21) (by kernel_rfl) rfl (fun K hK => ?_); go_simp; refine hK.out _ _ ?_ (fun _ => ?_); rotate_left; clear hK K; rotate_right; (focus (exact .inl (by simp))); (try simp only [Act.put, List.setIfInBounds_toArray, List.set_cons_zero, List.set_cons_succ]); refine doneE (by kernel_rfl) ?_ _; have HZ9 := Lib.hid (HF.out.1.fin HF.out.2.1 hnb hbb hln HXY.out.2.2 HXY.out.1 HXY.out.2.1 hra M.out (by simp) (by simp)); clear z3 z4 zf; go_wp2_with fail; go_end0; exact ⟨rfl, ⟨_, _, bs ++ [b], by rw [HAV.out]; exact HZ9.out.1⟩, Below.trans HF.out.2.2 HZ9.out.2⟩
      ·go_simp; refine hK.out _ _ ?_ (fun _ => ?_); rotate_left; clear hK K; rotate_right; (focus (exact .inr (.inl (scell (M.out.box.alloc _))))); (try simp only [Act.put, List.setIfInBounds_toArray, List.set_cons_zero, List.set_cons_succ])
       obtain ⟨nb2, hnb2⟩ : ∃ k, k = W.heap.size := ⟨_, rfl⟩
       rw [← hnb2]
       refine wpAnyE_gen (fun W => Mid2 w0.heap.size xb CS (.slice ra R.length rc) (.slice la R.length lc) wr W (.slice ra R.length rc) (.slice la R.length lc) R.length R.length XS0 YS0 ∧ Blk W nb2 #[.int .i64 (l : Int)] 3) ⟨Mid2.ext M.out ((Ext.refl _).alloc _), (by rw [hnb2]; exact Blk.at _ 3 rfl)⟩ ?_
       clear hnb2 M
       rintro W ⟨hM, hN2⟩
       have M := Lib.hid hM
       have N2 := Lib.hid hN2
       clear hM hN2
       refine consE (i := 7) (by kernel_rfl) rfl (fun K hK => ?_)
       go_simp; refine hK.out _ _ ?_ (fun _ => ?_); rotate_left; clear hK K; rotate_right; (focus (exact .inr (.inl (scell (M.out.box.alloc _))))); (try simp only [Act.put, List.setIfInBounds_toArray, List.set_cons_zero, List.set_cons_succ])
       obtain ⟨nb1, hnb1⟩ : ∃ k, k = W.heap.size := ⟨_, rfl⟩
       rw [← hnb1]
       refine wpAnyE_gen (fun W => Mid2 w0.heap.size xb CS (.slice ra R.length rc) (.slice la R.length lc) wr W (.slice ra R.length rc) (.slice la R.length lc) R.length R.length XS0 YS0 ∧ Blk W nb1 #[.slice (some ⟨b, 0, none⟩) n n] 52 ∧ Blk W nb2 #[.int .i64 (l : Int)] 3) ⟨Mid2.ext M.out ((Ext.refl _).alloc _), (by rw [hnb1]; exact Blk.at _ 52 rfl), N2.out.alloc _⟩ ?_
       clear hnb1 M N2
       rintro W ⟨hM, hN1, hN2⟩
       have M := Lib.hid hM
       have N1 := Lib.hid hN1
       have N2 := Lib.hid hN2
       clear hM hN1 hN2
       refine consE (i := 8) (by kernel_rfl) rfl (fun K hK => ?_)
       refine step_append_nu _ rfl _ _ _ rfl w0.heap.size 52 i0 _ 1 24 Try.underlying98 hi0 hz0 hz1 hz2 rfl (by omega) (.slice ra R.length rc) R.length XS0 rfl M.out.r.1 ⟨nb1, 0, none⟩ 1 1 [.slice (some ⟨b, 0, none⟩) n n] rfl rfl (World.news_of_block (cs := #[.slice (some ⟨b, 0, none⟩) n n]) (t := 52) (fr := (0, 0)) N1.out) (by simp [Value.oneCell']) (by omega) (by rw [maxLen]; omega) (by omega) M.out.size _ rfl M.out.r.2 HX0.out (by simp) (by simp [Value.cells]) ?_
       intro g1 cp1 W' hown hgrow hat hlt1 hiu hnu
       have M2 := Lib.hid (M.out.left hgrow hiu (show OwnU W' _ 52 (.slice (some ⟨g1, 0, none⟩) (R.length + 1) cp1) (R.length + 1) _ from ⟨hown, fun k hk => by simp [Value.ownBlock] at hk; subst hk; exact hnu⟩))
       have N3 := Lib.hid (blk_grown N2.out M.out.r.1 (by decide) hgrow)
       clear hown hgrow hat hiu hnu
       refine hK.out _ _ ?_ (fun _ => ?_); rotate_left; clear hK K; rotate_right; (focus (exact .inr (.inl (scell M2.out.box)))); (try simp only [Act.put, List.setIfInBounds_toArray, List.set_cons_zero, List.set_cons_succ])
       clear M N1 N2
       have M := M2
       have N2 := N3
       clear M2 N3
       obtain ⟨W, hW⟩ : ∃ W, W = W' := ⟨_, rfl⟩
       subst hW
       refine consE (i := 15) (by kernel_rfl) rfl (fun K hK => ?_)
       refine step_append_nu _ rfl _ _ _ rfl w0.heap.size 3 j0 _ 1 8 Try.underlying22 hj0 hy0 hy1 hy2 rfl (by omega) (.slice la R.length lc) R.length YS0 rfl M.out.i.1 ⟨nb2, 0, none⟩ 1 1 [.int .i64 (l : Int)] rfl rfl (World.news_of_block (cs := #[.int .i64 (l : Int)]) (t := 3) (fr := (0, 0)) N2.out) (by simp [Value.oneCell']) (by omega) (by rw [maxLen]; omega) (by omega) M.out.size _ rfl M.out.i.2 HY0.out (by simp) (by simp [Value.cells]) ?_
       intro g2 cp2 W' hown hgrow hat hlt1 hiu hnu
       have M2 := Lib.hid (M.out.right hgrow hiu (show OwnU W' _ 3 (.slice (some ⟨g2, 0, none⟩) (R.length + 1) cp2) (R.length + 1) _ from ⟨hown, fun k hk => by simp [Value.ownBlock] at hk; subst hk; exact hnu⟩))
       clear hown hgrow hat hiu hnu
       refine hK.out _ _ ?_ (fun _ => ?_); rotate_left; clear hK K; rotate_right; (focus (exact .inr (.inl (scell M2.out.box)))); (try simp only [Act.put, List.setIfInBounds_toArray, List.set_cons_zero, List.set_cons_succ])
       clear M N2
       have M := M2
       clear M2
       obtain ⟨W, hW⟩ : ∃ W, W = W' := ⟨_, rfl⟩
       subst hW
       refine takeP (i := 16) (v := ?_) rfl (by kernel_rfl) (by kernel_rfl) (by kernel_rfl) (fun _ _ _ h => h) (Or.inl ⟨by rfl, ?_⟩) ?_; rotate_left; (focus (intro wq hSw; clear hSw; go_simp; try with_reducible rfl)); (try simp only [Act.put, List.setIfInBounds_toArray, List.set_cons_zero, List.set_cons_succ]); refine takeP (i := 17) (v := ?_) rfl (by kernel_rfl) (by kernel_rfl) (by kernel_rfl) (fun _ _ _ h => h) (Or.inl ⟨by rfl, ?_⟩) ?_; rotate_left; (focus (intro wq hSw; clear hSw; go_simp; try with_reducible rfl)); (try simp only [Act.put, List.setIfInBounds_toArray, List.set_cons_zero, List.set_cons_succ]); have mb := M.out.box; have hxc := Lib.hid mb; have z3 := (scell mb).1; have z4 := (scell mb).2; have zf := mb.free; clear mb; refine consE (i := 18) (by kernel_rfl) rfl (fun K hK => ?_); go_simp; refine hK.out _ _ ?_ (fun _ => ?_); rotate_left; clear hK K; rotate_right; (focus (exact .inl (by simp))); (try simp only [Act.put, List.setIfInBounds_toArray, List.set_cons_zero, List.set_cons_succ]); refine takeP (i := 19) (v := ?_) rfl (by kernel_rfl) (by kernel_rfl) (by kernel_rfl) (fun _ _ _ h => h) (Or.inl ⟨by rfl, ?_⟩) ?_; rotate_left; (focus (intro wq hSw; clear hSw; go_simp; try with_reducible rfl)); (try simp only [Act.put, List.setIfInBounds_toArray, List.set_cons_zero, List.set_cons_succ]); refine takeP (i := 20) (v := ?_) rfl (by kernel_rfl) (by kernel_rfl) (by kernel_rfl) (fun _ _ _ h => h) (Or.inl ⟨by rfl, ?_⟩) ?_; rotate_left; (focus (intro wq hSw; clear hSw; go_simp; try with_reducible rfl)); (try simp only [Act.put, List.setIfInBounds_toArray, List.set_cons_zero, List.set_cons_succ]); refine consE (i := 21) (by kernel_rfl) rfl (fun K hK => ?_); go_simp; refine hK.out _ _ ?_ (fun _ => ?_); rotate_left; clear hK K; rotate_right; (focus (exact .inl (by simp))); (try simp only [Act.put, List.setIfInBounds_toArray, List.set_cons_zero, List.set_cons_succ]); refine doneE (by kernel_rfl) ?_ _; have HZ9 := Lib.hid (HF.out.1.fin HF.out.2.1 hnb hbb hln HXY.out.2.2 HXY.out.1 HXY.out.2.1 hra M.out (by simp) (by simp)); clear z3 z4 zf; go_wp2_with fail; go_end0; exact ⟨rfl, ⟨_, _, bs ++ [b], by rw [HAV.out]; exact HZ9.out.1⟩, Below.trans HF.out.2.2 HZ9.out.2⟩
      --END14
end Go.Proofs.Ytkoidookanmknaa
