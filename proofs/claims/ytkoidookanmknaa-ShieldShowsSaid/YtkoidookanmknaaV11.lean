/- shield: less. -/
import Derived.Test.YtkoidookanmknaaV10
namespace Go.Proofs.Ytkoidookanmknaa
set_option linter.unusedSimpArgs false
set_option linter.unusedVariables false
open Go.RowKit

/-- A fraction in a box. -/
def Quad0 (w : World) (b : Nat) (f : FV) : Prop := w.cell? ⟨b, 0, none⟩ = some (.bool f.n.neg) ∧ w.cell? ⟨b, 1, none⟩ = some (.slice f.n.a f.n.n f.n.c) ∧ w.cell? ⟨b, 2, none⟩ = some (.bool f.d.neg) ∧ w.cell? ⟨b, 3, none⟩ = some (.slice f.d.a f.d.n f.d.c)
theorem Quad0.ext {w w' : World} {b : Nat} {f : FV} (h : Quad0 w b f) (k : Ext w w') : Quad0 w' b f := ⟨k.cell h.1, k.cell h.2.1, k.cell h.2.2.1, k.cell h.2.2.2⟩
theorem Blk.quad0 {w : World} {b : Nat} {f : FV} {t : TypeId} (h : Blk w b f.cs t) : Quad0 w b f := ⟨h.cell 0, h.cell 1, h.cell 2, h.cell 3⟩
theorem Quad0.putF {w : World} {b : Nat} (h : Own w b 4) (f : FV) : Quad0 (putF w b f) b f := putF_cells h f
theorem Only.cell {b : Nat} {w w' : World} (h : Only b w w') {k o : Nat} {v : Value} (hk : w.cell? ⟨k, o, none⟩ = some v) (hne : k ≠ b) : w'.cell? ⟨k, o, none⟩ = some v := by
  rw [World.cell?_of_block (h.block k (lt_of_cell hk) hne)]; exact hk
theorem Only.quad0 {b k : Nat} {w w' : World} (h : Only b w w') {f : FV} (hf : Quad0 w k f) (hne : k ≠ b) : Quad0 w' k f :=
  ⟨h.cell hf.1 hne, h.cell hf.2.1 hne, h.cell hf.2.2.1 hne, h.cell hf.2.2.2 hne⟩
theorem FRow.free {w : World} {b : Nat} {fs : List FV} (h : FRow w b fs) (o : Nat) : w.frozen? ⟨b, o, none⟩ = false := Blk.free h o
/-- The fractions of a block stand for the first n numbers of a vector. -/
def VecAt (w : World) (b n : Nat) (v : Vec) : Prop := ∃ fs, FRow w b fs ∧ fs.length = n ∧ ∀ i f, fs[i]? = some f → IsQ w f (v i)
theorem VecAt.ext {w w' : World} {b n : Nat} {v : Vec} (h : VecAt w b n v) (k : Ext w w') : VecAt w' b n v := by
  obtain ⟨fs, h1, h2, h3⟩ := h
  exact ⟨fs, h1.ext k, h2, fun i f hf => (h3 i f hf).keepU k.iu⟩
theorem VecAt.only {w w' : World} {b b' n : Nat} {v : Vec} (h : VecAt w b n v) (k : Only b' w w') (hne : b ≠ b') : VecAt w' b n v := by
  obtain ⟨fs, h1, h2, h3⟩ := h
  exact ⟨fs, k.blk h1 hne, h2, fun i f hf => (h3 i f hf).keepU k.iu⟩
theorem VecAt.lt {w : World} {b n : Nat} {v : Vec} (h : VecAt w b n v) : b < w.heap.size := by
  obtain ⟨fs, h1, _⟩ := h
  exact h1.lt
set_option maxRecDepth 100000 in
set_option maxHeartbeats 8000000 in
theorem less_c (ba bb n : Nat) (t : FV) (va vb : Vec) (q : Rat) (w : World) (hA : VecAt w ba n va) (hB : VecAt w bb n vb) (hn : n ≤ 1000) (hne : ba ≠ bb) (ht : IsQ w t q) (sq : SmB BB q) (sm : ∀ i, SmB BB (va i) ∧ SmB BB (vb i) ∧ SmB BB (vb i * q)) :
    Calls Try.prog 79 #[.slice (some ⟨ba, 0, none⟩) n n, .slice (some ⟨bb, 0, none⟩) n n, t.v] w fun e w' => e = .returned (.tuple #[]) ∧ VecAt w' ba n (vless va vb q) ∧ Only ba w w' := by
  obtain ⟨fa, a1, a2, a3⟩ := hA
  obtain ⟨fb, b1, b2, b3⟩ := hB
  obtain ⟨B, hBB⟩ : ∃ B, w.heap.size = B := ⟨_, rfl⟩
  have hlA := a1.lt
  have hlB := b1.lt
  have HA := Lib.hid (And.intro a1 (And.intro a2 a3))
  have HB := Lib.hid (And.intro b1 (And.intro b2 b3))
  have HT := Lib.hid ht
  have HSQ := Lib.hid sq
  have HSM := Lib.hid sm
  clear a1 a2 a3 b1 b2 b3 ht sq sm
  go_enter Try.func79, Try.ntmps79
  go_upto_region 1 with (fail)
  refine wp_gen (fun W => Ext w W ∧ Quad0 W B t) ⟨(by repeat (first | exact Ext.refl _ | assumption | refine Ext.setCell ?_ (by first | (simp; done) | (simp; omega) | omega) _ | refine Ext.alloc ?_ _ | refine Ext.drew ?_ | refine Ext.trans ?_ (by assumption))), (Blk.at t.cs 58 hBB.symm).quad0⟩ ?_
  try rw [hBB]
  rintro V ⟨E0, Q0⟩
  have HV := Lib.hid (And.intro E0 Q0)
  clear E0 Q0
  have hAV := Lib.hid (HA.out.1.ext HV.out.1)
  go_upto_region 2 with (fail)
  go_loopw [11] (fun iv ws => ∃ (i : Nat) (fc : List FV), i ≤ n ∧ iv = .int .i64 (i : Int) ∧ FRow ws ba fc ∧ fc.length = n ∧ (∀ j f, fc[j]? = some f → j < i → IsQ ws f (vless va vb q j)) ∧ (∀ j, i ≤ j → fc[j]? = fa[j]?) ∧ Only ba V ws) (fun iv _ => n - (intOf iv).toNat)
  case atStart => exact ⟨0, fa, by omega, rfl, hAV.out, HA.out.2.1, fun j f _ h => absurd h (by omega), fun _ _ => rfl, Only.refl ba V⟩
  case round =>
    obtain ⟨i, fc, hi, rfl, h1, h2, h3, h4, h5⟩ := hrel
    by_cases hlt : i < n
    · obtain ⟨f, hf⟩ : ∃ f, fa[i]? = some f := ⟨_, List.getElem?_eq_getElem (by rw [HA.out.2.1]; exact hlt)⟩
      obtain ⟨g, hg⟩ : ∃ g, fb[i]? = some g := ⟨_, List.getElem?_eq_getElem (by rw [HB.out.2.1]; exact hlt)⟩
      have hfc : fc[i]? = some f := by rw [h4 i (Nat.le_refl _)]; exact hf
      have hiu : IU w wr := HV.out.1.iu.trans h5.iu
      have HBr := Lib.hid (h5.blk (HB.out.1.ext HV.out.1) (Ne.symm hne))
      have HFR := Lib.hid (And.intro h1 (And.intro h2 (And.intro h3 (And.intro h4 (And.intro h5 hfc)))))
      have HQ := Lib.hid (And.intro ((HA.out.2.2 i f hf).keepU hiu) (And.intro ((HB.out.2.2 i g hg).keepU hiu) (HT.out.keepU hiu)))
      have HM := Lib.hid (HSM.out i)
      have QB := Lib.hid (fun W (e : Ext wr W) => (FRow.quad HBr.out hg).ext e)
      have QT := Lib.hid (fun W (e : Ext wr W) => (h5.quad0 HV.out.2 (show B ≠ ba by omega)).ext e)
      have hszr := h5.size
      have hBV := HV.out.1.size
      clear h1 h2 h3 h4 h5 hf hg hfc hiu
      have i0 : (0 : Int) ≤ (i : Int) := by omega
      have i1 : (i : Int) < (n : Int) := by omega
      go_upto_region 4 with (fail)
      go_cut [7] (fun s7 wx => ∃ (P : Nat) (m : FV), s7 = .pointer (some ⟨P, 0, none⟩) ∧ wr.heap.size ≤ P ∧ Ext wr wx ∧ Quad0 wx P m ∧ IsQ wx m (vb i * q))
      case first =>
        refine wp_region_held_drew (S := fun W => Ext wr W) (by kernel_rfl) (Ext.refl wr).drew (fun hHeld => ?_)
        refine takeL (i := 0) (v := ?_) rfl (by kernel_rfl) (by kernel_rfl) (by kernel_rfl) (fun _ _ _ h => h) (Or.inl ⟨by rfl, ?_⟩) (by assumption) ?_; rotate_left; (focus (intro wq hSw; (try dsimp only at hSw); go_simp; try with_reducible rfl)); (try simp only [Act.put, List.setIfInBounds_toArray, List.set_cons_zero, List.set_cons_succ])
        refine takeL (i := 1) (v := ?_) rfl (by kernel_rfl) (by kernel_rfl) (by kernel_rfl) (fun _ _ _ h => h) (Or.inl ⟨by rfl, ?_⟩) (by assumption) ?_; rotate_left; (focus (intro wq hSw; (try dsimp only at hSw); go_simp; try with_reducible rfl)); (try simp only [Act.put, List.setIfInBounds_toArray, List.set_cons_zero, List.set_cons_succ])
        refine takeL (i := 2) (v := ?_) rfl (by kernel_rfl) (by kernel_rfl) (by kernel_rfl) (fun _ _ _ h => h) (Or.inl ⟨by rfl, ?_⟩) (by assumption) ?_; rotate_left; (focus (intro wq hSw; (try dsimp only at hSw); go_simp; try with_reducible rfl)); (try simp only [Act.put, List.setIfInBounds_toArray, List.set_cons_zero, List.set_cons_succ])
        refine takeL (i := 3) (v := ?_) rfl (by kernel_rfl) (by kernel_rfl) (by kernel_rfl) (fun _ _ _ h => h) (Or.inl ⟨by rfl, ?_⟩) (by assumption) ?_; rotate_left; (focus (intro wq hSw; have hcc := QB.out wq (hSw); clear hSw; obtain ⟨c0, c1, c2, c3⟩ := hcc; go_simp; try with_reducible rfl)); (try simp only [Act.put, List.setIfInBounds_toArray, List.set_cons_zero, List.set_cons_succ])
        refine takeL (i := 4) (v := ?_) rfl (by kernel_rfl) (by kernel_rfl) (by kernel_rfl) (fun _ _ _ h => h) (Or.inl ⟨by rfl, ?_⟩) (by assumption) ?_; rotate_left; (focus (intro wq hSw; have hcc := QT.out wq (hSw); clear hSw; obtain ⟨c0, c1, c2, c3⟩ := hcc; go_simp; try with_reducible rfl)); (try simp only [Act.put, List.setIfInBounds_toArray, List.set_cons_zero, List.set_cons_succ])
        refine cons2L (i := 5) (j := 9) (by kernel_rfl) rfl rfl (fun K hK => ?_) (fun K hK => ?_)
        · go_simp; go_at_call 91; refine (mulQ_c g t (vb i) q BB BBk _ (HQ.out.2.1.keep (Ext.ik (by assumption))) (HQ.out.2.2.keep (Ext.ik (by assumption))) HM.out.2.1 HSQ.out BB_lt (by decide)).mono ?_; rintro e w5 ⟨m, rfl, hm, hx5⟩; have sz := Ext.size hx5; (try simp only [World.size_alloc, World.size_drew] at sz); (first | (have OG := Own.ext hx5 ((Blk.at #[.bool false, .slice none 0 0, .bool false, .slice none 0 0] 58 rfl).own 4 (by simp) (noIntF _ _ _ _ _ _ _ _)) (by omega)) | skip); (try simp only [World.size_alloc] at OG); go_wp2_with fail; refine hK.out _ _ ?_ ?_; rotate_left; clear hK K; (try clear hHeld); intro hHeld; rotate_right; (focus ((try dsimp only); exact kept)); (try simp only [Act.put, List.setIfInBounds_toArray, List.set_cons_zero, List.set_cons_succ])
          have hH6 := hHeld
          refine takeL (i := 6) (v := ?_) rfl (by kernel_rfl) (by kernel_rfl) (by kernel_rfl) (fun _ _ _ h => h) (Or.inl ⟨by rfl, ?_⟩) (by assumption) ?_; rotate_left; (focus (intro wq hSw; (try dsimp only at hSw); go_simp; try with_reducible rfl)); (try simp only [Act.put, List.setIfInBounds_toArray, List.set_cons_zero, List.set_cons_succ])
          refine takeL (i := 7) (v := ?_) rfl (by kernel_rfl) (by kernel_rfl) (by kernel_rfl) (fun _ _ _ h => h) (Or.inl ⟨by rfl, ?_⟩) (by assumption) ?_; rotate_left; (focus (intro wq hSw; (try dsimp only at hSw); go_simp; try with_reducible rfl)); (try simp only [Act.put, List.setIfInBounds_toArray, List.set_cons_zero, List.set_cons_succ])
          refine takeL (i := 8) (v := ?_) rfl (by kernel_rfl) (by kernel_rfl) (by kernel_rfl) (fun _ _ _ h => h) (Or.inl ⟨by rfl, ?_⟩) (by assumption) ?_; rotate_left; (focus (intro wq hSw; (try dsimp only at hSw); go_simp; try with_reducible rfl)); (try simp only [Act.put, List.setIfInBounds_toArray, List.set_cons_zero, List.set_cons_succ])
          refine consL (i := 9) (by kernel_rfl) rfl (fun K hK => ?_); go_simp; refine hK.out _ _ ?_ ?_; rotate_left; clear hK K; (try clear hHeld); intro hHeld; rotate_right; (focus ((try dsimp only); exact kept)); (try simp only [Act.put, List.setIfInBounds_toArray, List.set_cons_zero, List.set_cons_succ])
          refine consL (i := 10) (by kernel_rfl) rfl (fun K hK => ?_); go_simp; refine hK.out _ _ ?_ ?_; rotate_left; clear hK K; (try clear hHeld); intro hHeld; rotate_right; (focus ((try dsimp only); exact kept)); (try simp only [Act.put, List.setIfInBounds_toArray, List.set_cons_zero, List.set_cons_succ])
          refine takeL (i := 11) (v := ?_) rfl (by kernel_rfl) (by kernel_rfl) (by kernel_rfl) (fun _ _ _ h => h) (Or.inl ⟨by rfl, ?_⟩) (by assumption) ?_; rotate_left; (focus (intro wq hSw; (try dsimp only at hSw); go_simp; try with_reducible rfl)); (try simp only [Act.put, List.setIfInBounds_toArray, List.set_cons_zero, List.set_cons_succ])
          refine doneL (by kernel_rfl) ?_; go_wp2_with fail; go_meet; refine ⟨_, m, rfl, ?_, hHeld, ?_, ?_⟩; (focus (first | omega | (simp; done) | (simp; omega))); (focus (first | exact Quad0.putF OG m | exact (Blk.at _ 58 rfl).quad0)); (focus (first | exact hm.keep (IK.putF OG m) | exact hm.keep ((Ext.refl _).alloc _).ik))
        · go_simp; refine hK.out _ _ ?_ ?_; rotate_left; clear hK K; (try clear hHeld); intro hHeld; rotate_right; (focus ((try dsimp only); exact kept)); (try simp only [Act.put, List.setIfInBounds_toArray, List.set_cons_zero, List.set_cons_succ])
          refine consL (i := 5) (by kernel_rfl) rfl (fun K hK => ?_)
          go_simp; go_at_call 91; refine (mulQ_c g t (vb i) q BB BBk _ (HQ.out.2.1.keep (Ext.ik (by assumption))) (HQ.out.2.2.keep (Ext.ik (by assumption))) HM.out.2.1 HSQ.out BB_lt (by decide)).mono ?_; rintro e w5 ⟨m, rfl, hm, hx5⟩; have sz := Ext.size hx5; (try simp only [World.size_alloc, World.size_drew] at sz); (first | (have OG := Own.ext hx5 ((Blk.at #[.bool false, .slice none 0 0, .bool false, .slice none 0 0] 58 rfl).own 4 (by simp) (noIntF _ _ _ _ _ _ _ _)) (by omega)) | skip); (try simp only [World.size_alloc] at OG); go_wp2_with fail; refine hK.out _ _ ?_ ?_; rotate_left; clear hK K; (try clear hHeld); intro hHeld; rotate_right; (focus ((try dsimp only); exact kept)); (try simp only [Act.put, List.setIfInBounds_toArray, List.set_cons_zero, List.set_cons_succ])
          refine takeL (i := 6) (v := ?_) rfl (by kernel_rfl) (by kernel_rfl) (by kernel_rfl) (fun _ _ _ h => h) (Or.inl ⟨by rfl, ?_⟩) (by assumption) ?_; rotate_left; (focus (intro wq hSw; (try dsimp only at hSw); go_simp; try with_reducible rfl)); (try simp only [Act.put, List.setIfInBounds_toArray, List.set_cons_zero, List.set_cons_succ])
          refine takeL (i := 7) (v := ?_) rfl (by kernel_rfl) (by kernel_rfl) (by kernel_rfl) (fun _ _ _ h => h) (Or.inl ⟨by rfl, ?_⟩) (by assumption) ?_; rotate_left; (focus (intro wq hSw; (try dsimp only at hSw); go_simp; try with_reducible rfl)); (try simp only [Act.put, List.setIfInBounds_toArray, List.set_cons_zero, List.set_cons_succ])
          refine takeL (i := 8) (v := ?_) rfl (by kernel_rfl) (by kernel_rfl) (by kernel_rfl) (fun _ _ _ h => h) (Or.inl ⟨by rfl, ?_⟩) (by assumption) ?_; rotate_left; (focus (intro wq hSw; (try dsimp only at hSw); go_simp; try with_reducible rfl)); (try simp only [Act.put, List.setIfInBounds_toArray, List.set_cons_zero, List.set_cons_succ])
          refine consL (i := 10) (by kernel_rfl) rfl (fun K hK => ?_); go_simp; refine hK.out _ _ ?_ ?_; rotate_left; clear hK K; (try clear hHeld); intro hHeld; rotate_right; (focus ((try dsimp only); exact kept)); (try simp only [Act.put, List.setIfInBounds_toArray, List.set_cons_zero, List.set_cons_succ])
          refine takeL (i := 11) (v := ?_) rfl (by kernel_rfl) (by kernel_rfl) (by kernel_rfl) (fun _ _ _ h => h) (Or.inl ⟨by rfl, ?_⟩) (by assumption) ?_; rotate_left; (focus (intro wq hSw; (try dsimp only at hSw); go_simp; try with_reducible rfl)); (try simp only [Act.put, List.setIfInBounds_toArray, List.set_cons_zero, List.set_cons_succ])
          refine doneL (by kernel_rfl) ?_; go_wp2_with fail; go_meet; refine ⟨_, m, rfl, ?_, hHeld, ?_, ?_⟩; (focus (first | omega | (simp; done) | (simp; omega))); (focus (first | exact Quad0.putF OG m | exact (Blk.at _ 58 rfl).quad0)); (focus (first | exact hm.keep (IK.putF OG m) | exact hm.keep ((Ext.refl _).alloc _).ik))
      case rest =>
        obtain ⟨P, m, rfl, hPl, hE4, hP, hm⟩ := hcut
        obtain ⟨w4, hw4⟩ : ∃ w4, w4 = wc := ⟨_, rfl⟩
        subst hw4
        have HE := Lib.hid hE4
        have HMM := Lib.hid hm
        have QP := Lib.hid (fun W (e : Ext w4 W) => hP.ext e)
        have hPne : P ≠ ba := by have := HFR.out.1.lt; omega
        have hrow4 := HFR.out.1.ext hE4
        obtain ⟨f0, f1, f2, f3⟩ := hrow4.quad HFR.out.2.2.2.2.2
        clear hE4 hP hm hrow4
        go_upto_region 5 with (fail)
        refine wp_region_held_drew (S := fun W => Only ba w4 W ∧ Quad0 W P m) (by kernel_rfl) ⟨(Ext.refl w4).drew.only ba, QP.out _ (Ext.refl w4).drew⟩ (fun hHeld => ?_)
        refine takeL (i := 0) (v := ?_) rfl (by kernel_rfl) (by kernel_rfl) (by kernel_rfl) (fun _ _ _ h => h) (Or.inl ⟨by rfl, ?_⟩) (by assumption) ?_; rotate_left; (focus (intro wq hSw; (try dsimp only at hSw); go_simp; try with_reducible rfl)); (try simp only [Act.put, List.setIfInBounds_toArray, List.set_cons_zero, List.set_cons_succ])
        refine takeL (i := 1) (v := ?_) rfl (by kernel_rfl) (by kernel_rfl) (by kernel_rfl) (fun _ _ _ h => h) (Or.inl ⟨by rfl, ?_⟩) (by assumption) ?_; rotate_left; (focus (intro wq hSw; (try dsimp only at hSw); go_simp; try with_reducible rfl)); (try simp only [Act.put, List.setIfInBounds_toArray, List.set_cons_zero, List.set_cons_succ])
        refine takeL (i := 2) (v := ?_) rfl (by kernel_rfl) (by kernel_rfl) (by kernel_rfl) (fun _ _ _ h => h) (Or.inl ⟨by rfl, ?_⟩) (by assumption) ?_; rotate_left; (focus (intro wq hSw; (try dsimp only at hSw); go_simp; try with_reducible rfl)); (try simp only [Act.put, List.setIfInBounds_toArray, List.set_cons_zero, List.set_cons_succ])
        refine takeL (i := 3) (v := ?_) rfl (by kernel_rfl) (by kernel_rfl) (by kernel_rfl) (fun _ _ _ h => h) (Or.inl ⟨by rfl, ?_⟩) (by assumption) ?_; rotate_left; (focus (intro wq hSw; (try dsimp only at hSw); go_simp; try with_reducible rfl)); (try simp only [Act.put, List.setIfInBounds_toArray, List.set_cons_zero, List.set_cons_succ])
        refine takeL (i := 4) (v := ?_) rfl (by kernel_rfl) (by kernel_rfl) (by kernel_rfl) (fun _ _ _ h => h) (Or.inl ⟨by rfl, ?_⟩) (by assumption) ?_; rotate_left; (focus (intro wq hSw; (try dsimp only at hSw); go_simp; try with_reducible rfl)); (try simp only [Act.put, List.setIfInBounds_toArray, List.set_cons_zero, List.set_cons_succ])
        refine takeL (i := 6) (v := ?_) rfl (by kernel_rfl) (by kernel_rfl) (by kernel_rfl) (fun _ _ _ h => h) (Or.inl ⟨by rfl, ?_⟩) (by assumption) ?_; rotate_left; (focus (intro wq hSw; have hcc := hSw.2; clear hSw; obtain ⟨c0, c1, c2, c3⟩ := hcc; go_simp; try with_reducible rfl)); (try simp only [Act.put, List.setIfInBounds_toArray, List.set_cons_zero, List.set_cons_succ])
        refine consL (i := 5) (by kernel_rfl) rfl (fun K hK => ?_); go_simp; refine hK.out _ _ ?_ (fun hHeld => ?_); rotate_left; clear hK K; rotate_right; (focus assumption); (try simp only [Act.put, List.setIfInBounds_toArray, List.set_cons_zero, List.set_cons_succ])
        refine consL (i := 7) (by kernel_rfl) rfl (fun K hK => ?_); go_simp; go_at_call 62; refine (subQ_c f m (va i) (vb i * q) BB BBk _ (HQ.out.1.keep (HE.out.drew.ik)) (HMM.out.keep ((Ext.refl w4).drew.ik)) HM.out.1 HM.out.2.2 BB_lt (by decide)).mono ?_; rintro e w5 ⟨r, rfl, hr, hx5⟩; go_wp2_with fail; refine hK.out _ _ ?_ ?_; rotate_left; clear hK K; (try clear hHeld); intro hHeld; rotate_right; (focus (exact ⟨(Ext.only ((Ext.refl w4).drew.trans hx5) ba), QP.out _ ((Ext.refl w4).drew.trans hx5)⟩)); (try simp only [Act.put, List.setIfInBounds_toArray, List.set_cons_zero, List.set_cons_succ])
        have HX5 := Lib.hid ((Ext.refl w4).drew.trans hx5)
        have HR := Lib.hid hr
        have hrow5 := HFR.out.1.ext (HE.out.trans HX5.out)
        have HRO := Lib.hid hrow5
        obtain ⟨o0, o1, o2, o3⟩ := hrow5.quad HFR.out.2.2.2.2.2
        have hfr5 := hrow5.free
        refine takeL (i := 8) (v := ?_) rfl (by kernel_rfl) (by kernel_rfl) (by kernel_rfl) (fun _ _ _ h => h) (Or.inl ⟨by rfl, ?_⟩) (by assumption) ?_; rotate_left; (focus (intro wq hSw; (try dsimp only at hSw); go_simp; try with_reducible rfl)); (try simp only [Act.put, List.setIfInBounds_toArray, List.set_cons_zero, List.set_cons_succ])
        refine takeL (i := 9) (v := ?_) rfl (by kernel_rfl) (by kernel_rfl) (by kernel_rfl) (fun _ _ _ h => h) (Or.inl ⟨by rfl, ?_⟩) (by assumption) ?_; rotate_left; (focus (intro wq hSw; (try dsimp only at hSw); go_simp; try with_reducible rfl)); (try simp only [Act.put, List.setIfInBounds_toArray, List.set_cons_zero, List.set_cons_succ])
        refine takeL (i := 10) (v := ?_) rfl (by kernel_rfl) (by kernel_rfl) (by kernel_rfl) (fun _ _ _ h => h) (Or.inl ⟨by rfl, ?_⟩) (by assumption) ?_; rotate_left; (focus (intro wq hSw; (try dsimp only at hSw); go_simp; try with_reducible rfl)); (try simp only [Act.put, List.setIfInBounds_toArray, List.set_cons_zero, List.set_cons_succ])
        refine takeL (i := 11) (v := ?_) rfl (by kernel_rfl) (by kernel_rfl) (by kernel_rfl) (fun _ _ _ h => h) (Or.inl ⟨by rfl, ?_⟩) (by assumption) ?_; rotate_left; (focus (intro wq hSw; (try dsimp only at hSw); go_simp; try with_reducible rfl)); (try simp only [Act.put, List.setIfInBounds_toArray, List.set_cons_zero, List.set_cons_succ])
        clear f0 f1 f2 f3 hr hx5 hrow5
        refine consL (i := 12) (by kernel_rfl) rfl (fun K hK => ?_); go_simp; refine hK.out _ _ ?_ ?_; rotate_left; clear hK K; (try clear hHeld); intro hHeld; rotate_right; (focus (exact ⟨(Ext.only HX5.out ba).trans (Only.putQ HRO.out r), (Only.putQ HRO.out r).quad0 (QP.out _ HX5.out) hPne⟩)); (try simp only [Act.put, List.setIfInBounds_toArray, List.set_cons_zero, List.set_cons_succ])
        refine doneL (by kernel_rfl) ?_
        have HO := Lib.hid (Only.putQ (o := i * 4) HRO.out r)
        have HP := Lib.hid (HRO.out.put (i := i) (by rw [HFR.out.2.1]; exact hlt) r)
        clear o0 o1 o2 o3 hfr5 hHeld
        go_wp2_with fail
        go_roundw
        case rel =>
          refine ⟨i + 1, fc.set i r, by omega, by go_num, HP.out, by rw [List.length_set]; exact HFR.out.2.1, fun j f' hj hji => ?_, fun j hj => ?_, (HFR.out.2.2.2.2.1.trans ((HE.out.trans HX5.out).only ba)).trans HO.out⟩
          · by_cases hij : i = j
            · subst hij
              rw [List.getElem?_set_self (by rw [HFR.out.2.1]; exact hlt)] at hj
              injection hj with hj
              subst hj
              exact HR.out.keepU HO.out.iu
            · rw [List.getElem?_set_ne hij] at hj
              exact (HFR.out.2.2.1 j f' hj (by omega)).keepU ((HE.out.trans HX5.out).iu.trans HO.out.iu)
          · rw [List.getElem?_set_ne (by omega)]
            exact HFR.out.2.2.2.1 j (by omega)
        case measure => simp [intOf]; omega
    · obtain rfl : i = n := by omega
      go_wp2_with fail
      go_end0
      exact ⟨rfl, ⟨fc, h1, h2, fun j f hf => h3 j f hf (by
        rcases Nat.lt_or_ge j i with h9 | h9
        · exact h9
        · rw [List.getElem?_eq_none (by omega)] at hf; cases hf)⟩, (HV.out.1.only ba).trans h5⟩
end Go.Proofs.Ytkoidookanmknaa
