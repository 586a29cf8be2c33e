/- wide: divide by more than one word. -/
import Derived.Test.YtkoidookanmknaaSWB
import Derived.Deep.CutBlock
import Derived.Test.YtkoidookanmknaaSWK
import Derived.Test.YtkoidookanmknaaSWLead
import Derived.Test.YtkoidookanmknaaSWA
import Derived.Test.YtkoidookanmknaaSWS
namespace Go.Proofs.Ytkoidookanmknaa
set_option linter.unusedSimpArgs false
set_option linter.unusedVariables false
open Go.RowKit

/-- How far the divisor's highest word is shifted. -/
theorem bitLen_bounds : ∀ (f t : Nat), t ≤ f → 0 < t → t < 2 ^ 64 → 0 < Lib.bitLen t ∧ 2 ^ Lib.bitLen t ≤ 2 * t ∧ t < 2 ^ Lib.bitLen t
 | 0, t, hf, h0, _ => by omega
 | f + 1, t, hf, h0, h1 => by
  rw [Lib.bitLen_half t (by omega) h1]
  by_cases h2 : t / 2 = 0
  ·have h3 : t = 1 := by omega
   subst h3
   decide
  ·obtain ⟨a, b, c⟩ := bitLen_bounds f (t / 2) (by omega) (by omega) (by omega)
   rw [Nat.add_comm 1, Nat.pow_succ]
   omega
theorem lead_facts (t : Nat) (h0 : 0 < t) (h1 : t < B32) : ∃ b : Nat, b < 32 ∧ (32 : Int) - ((Lib.bitLen (t : Int).toNat : Nat) : Int) = (b : Int) ∧ B32 ≤ 2 * (t * 2 ^ b) ∧ t * 2 ^ b < B32 := by
 rw [B32_eq] at *
 have h2 : Lib.bitLen t ≤ 32 := Lib.bitLen_le t 32 (by omega) (by omega)
 obtain ⟨a, b, c⟩ := bitLen_bounds t t (Nat.le_refl _) h0 (by omega)
 rw [Int.toNat_natCast]
 generalize Lib.bitLen t = L at *
 have e : 2 ^ L * 2 ^ (32 - L) = 4294967296 := by rw [← Nat.pow_add, show L + (32 - L) = 32 from by omega]
 have p : 0 < 2 ^ (32 - L) := Nat.two_pow_pos _
 have m1 : 2 ^ L * 2 ^ (32 - L) ≤ 2 * t * 2 ^ (32 - L) := Nat.mul_le_mul_right _ b
 have m2 : t * 2 ^ (32 - L) < 2 ^ L * 2 ^ (32 - L) := Nat.mul_lt_mul_of_pos_right c p
 rw [Nat.mul_assoc] at m1
 exact ⟨32 - L, by omega, by omega, by omega, by omega⟩
theorem TakeMid.pos {s v q : List Nat} {g k cy : Nat} (h : TakeMid s v q g k 1 cy) (hk : v.length < k) (hq : k ≤ q.length) : 1 ≤ g := by
 have hd := h.done hk
 have x := mval_lt (h.fit.take k)
 rw [List.length_take, Nat.min_eq_left hq] at x
 apply Nat.pos_of_ne_zero
 intro h0
 rw [h0, Nat.zero_mul] at hd
 omega
set_option maxRecDepth 100000 in
set_option maxHeartbeats 4000000 in
theorem divideL_c (a b : Option Addr) (n m c d : Nat) (l k : List Nat) (w : World) (hl : Wds w a n c l) (hk : Wds w b m d k) (nl : Norm l) (nk : Norm k) (hn : n ≤ 512) (hm : 2 ≤ m) (hge : mval k ≤ mval l) :
  Calls Try.prog 71 #[.slice a n c, .slice b m d] w (RetWW (mval l / mval k) (mval l % mval k) w) := by
 have hlen := hl.len
 have hklen := hk.len
 have hmn : m ≤ n := by
  apply Nat.le_of_not_lt; intro hc
  have := norm_len_lt nl nk hl.fit (by omega); omega
 have ec : cmpI (mval l : Int) (mval k : Int) = 0 ∨ cmpI (mval l : Int) (mval k : Int) = 1 := by
  rw [cmpI, if_neg (by omega)]; split
  ·right; rfl
  ·left; rfl
 obtain ⟨ob, oo, hb, hbl, hc2⟩ := hk.at (m - 1) (by omega)
 subst hb
 have htop : 0 < k.getD (m - 1) 0 := by
  rcases nk with h | h
  ·rw [h] at hklen; simp at hklen; omega
  ·rw [← hklen]; omega
 obtain ⟨sh, hsh, hshe, hb1, hb2⟩ := lead_facts (k.getD (m - 1) 0) htop (hk.fit.getD _)
 have hdg : dg k (m - 1) = ((k.getD (m - 1) 0 : Nat) : Int) := rfl
 have q1 := dg_nonneg k (m - 1)
 have q2 := dg_lt hk.fit (m - 1)
 have HL := Lib.hid hl; have HK := Lib.hid hk; have NL := Lib.hid nl; have NK := Lib.hid nk
 have HSH := Lib.hid hshe; have HB := Lib.hid (And.intro hb1 hb2)
 have m1 : (m : Int) - 1 = ((m - 1 : Nat) : Int) := by omega
 have HM1 := Lib.hid m1
 have HC := Lib.hid hc2; have HDG := Lib.hid hdg
 obtain ⟨CI, hCI, hCI0⟩ : ∃ z, cmpI (mval l : Int) (mval k : Int) = z ∧ 0 ≤ z := ⟨_, rfl, by rcases ec with h | h <;> rw [h] <;> omega⟩
 have HCI := Lib.hid hCI
 clear hl hk nl nk hshe hb1 hb2 hc2 hdg m1 ec hCI htop
 go_enter Try.func71, Try.ntmps71
 go_wp2_with fail
 go_step3
 go_wp2_with fail
 refine (compare_c a _ n m c d l k _ HL.out HK.out NL.out NK.out).mono ?_
 rw [HCI.out]
 rintro e w2 ⟨rfl, hx⟩
 have c2 := hx.ext.cell HC.out
 have HX := Lib.hid hx; clear hx
 have lb := lt_of_cell c2
 go_wp2_with fail
 refine (lz32_c _ _ q1 (by omega)).mono ?_
 rw [HDG.out, HSH.out]
 rintro e w3 ⟨rfl, rfl⟩
 clear c2 lb
 have hs1 : (sh : Int) ≤ 31 := by omega
 have hs0 : (0 : Int) ≤ (sh : Int) := by omega
 have HL2 := Lib.hid (HL.out.keep HX.out.ik); have HK2 := Lib.hid (HK.out.keep HX.out.ik)
 obtain ⟨wa, rfl⟩ : ∃ W, W = w3 := ⟨_, rfl⟩
 go_upto_region 7 with (fail)
 go_cut [9, 10] (fun s9 s10 wx => ∃ (B1 B2 : Nat) (u v : List Nat), s9 = .slice (some ⟨B1, 0, none⟩) (n + 1) (n + 1) ∧ s10 = .slice (some ⟨B2, 0, none⟩) m (m + 1) ∧ Row wx B1 u ∧ Row wx B2 v ∧ u.length = n + 1 ∧ v.length = m + 1 ∧ Fit u ∧ Fit v ∧ mval u = mval l * 2 ^ sh ∧ mval v = mval k * 2 ^ sh ∧ B2 ≠ B1 ∧ w.heap.size ≤ B1 ∧ w.heap.size ≤ B2 ∧ Ext w wx)
 case first =>
  as_aux_lemma =>
   have hz0 := HX.out.ext.size
   refine wp_region_held_drew (S := fun w' => Ext wa w') (by kernel_rfl) ?_ (fun hHeld => ?_)
   ·exact (Ext.refl wa).drew
   refine takeL (i := 0) (v := ?_) rfl (by kernel_rfl) (by kernel_rfl) (by kernel_rfl) (fun _ _ _ h => h) (Or.inl ⟨by rfl, ?_⟩) (by assumption) ?_; rotate_left; (focus (intro wq hSw; (try dsimp only at hSw); go_simp; try with_reducible rfl)); (try simp only [Act.put, List.setIfInBounds_toArray, List.set_cons_zero, List.set_cons_succ])
   refine takeL (i := 1) (v := ?_) rfl (by kernel_rfl) (by kernel_rfl) (by kernel_rfl) (fun _ _ _ h => h) (Or.inl ⟨by rfl, ?_⟩) (by assumption) ?_; rotate_left; (focus (intro wq hSw; (try dsimp only at hSw); go_simp; try with_reducible rfl)); (try simp only [Act.put, List.setIfInBounds_toArray, List.set_cons_zero, List.set_cons_succ])
   refine takeL (i := 3) (v := ?_) rfl (by kernel_rfl) (by kernel_rfl) (by kernel_rfl) (fun _ _ _ h => h) (Or.inl ⟨by rfl, ?_⟩) (by assumption) ?_; rotate_left; (focus (intro wq hSw; (try dsimp only at hSw); go_simp; try with_reducible rfl)); (try simp only [Act.put, List.setIfInBounds_toArray, List.set_cons_zero, List.set_cons_succ])
   refine takeL (i := 4) (v := ?_) rfl (by kernel_rfl) (by kernel_rfl) (by kernel_rfl) (fun _ _ _ h => h) (Or.inl ⟨by rfl, ?_⟩) (by assumption) ?_; rotate_left; (focus (intro wq hSw; (try dsimp only at hSw); go_simp; try with_reducible rfl)); (try simp only [Act.put, List.setIfInBounds_toArray, List.set_cons_zero, List.set_cons_succ])
   refine takeL (i := 6) (v := ?_) rfl (by kernel_rfl) (by kernel_rfl) (by kernel_rfl) (fun _ _ _ h => h) (Or.inl ⟨by rfl, ?_⟩) (by assumption) ?_; rotate_left; (focus (intro wq hSw; (try dsimp only at hSw); go_simp; try with_reducible rfl)); (try simp only [Act.put, List.setIfInBounds_toArray, List.set_cons_zero, List.set_cons_succ])
   refine takeL (i := 7) (v := ?_) rfl (by kernel_rfl) (by kernel_rfl) (by kernel_rfl) (fun _ _ _ h => h) (Or.inl ⟨by rfl, ?_⟩) (by assumption) ?_; rotate_left; (focus (intro wq hSw; (try dsimp only at hSw); go_simp; try with_reducible rfl)); (try simp only [Act.put, List.setIfInBounds_toArray, List.set_cons_zero, List.set_cons_succ])
   refine consL (i := 2) (by kernel_rfl) rfl (fun K hK => ?_)
   go_simp; go_at_call 86; refine (shifted_c a n c l sh _ (HL2.out.keep (Ext.ik (by assumption))) (by omega) hsh).mono ?_; rintro e w7 ⟨u, rfl, hu, hul, huf, huv, hx1⟩; have HX1 := Lib.hid hx1; have HU := Lib.hid hu; go_wp2_with fail; refine hK.out _ _ ?_ (fun hHeld => ?_); rotate_left; clear hK K; rotate_right; (focus ((try dsimp only); exact kept)); (try simp only [Act.put, List.setIfInBounds_toArray, List.set_cons_zero, List.set_cons_succ])
   refine consL (i := 5) (by kernel_rfl) rfl (fun K hK => ?_)
   go_simp; go_at_call 86; refine (shifted_c _ m d k sh _ (HK2.out.keep (Ext.ik (by assumption))) (by omega) hsh).mono ?_; rintro e w8 ⟨v, rfl, hv, hvl, hvf, hvv, hx2⟩; have HX2 := Lib.hid hx2; have HV := Lib.hid hv; go_wp2_with fail; refine hK.out _ _ ?_ (fun hHeld => ?_); rotate_left; clear hK K; rotate_right; (focus ((try dsimp only); exact kept)); (try simp only [Act.put, List.setIfInBounds_toArray, List.set_cons_zero, List.set_cons_succ])
   refine takeL (i := 8) (v := .slice (some ⟨w7.heap.size, 0, none⟩) m (m + 1)) rfl (by kernel_rfl) (by kernel_rfl) (by kernel_rfl) (fun _ _ _ h => h) (Or.inl ⟨by rfl, ?_⟩) (by assumption) ?_
   ·intro wq hSw
    go_simp
    intro h9
    exact absurd h9 (by omega)
   (try simp only [Act.put, List.setIfInBounds_toArray, List.set_cons_zero, List.set_cons_succ])
   refine takeL (i := 9) (v := ?_) rfl (by kernel_rfl) (by kernel_rfl) (by kernel_rfl) (fun _ _ _ h => h) (Or.inl ⟨by rfl, ?_⟩) (by assumption) ?_; rotate_left; (focus (intro wq hSw; (try dsimp only at hSw); go_simp; try with_reducible rfl)); (try simp only [Act.put, List.setIfInBounds_toArray, List.set_cons_zero, List.set_cons_succ])
   refine takeL (i := 10) (v := ?_) rfl (by kernel_rfl) (by kernel_rfl) (by kernel_rfl) (fun _ _ _ h => h) (Or.inl ⟨by rfl, ?_⟩) (by assumption) ?_; rotate_left; (focus (intro wq hSw; (try dsimp only at hSw); go_simp; try with_reducible rfl)); (try simp only [Act.put, List.setIfInBounds_toArray, List.set_cons_zero, List.set_cons_succ])
   refine doneL (by kernel_rfl) ?_
   go_wp2_with fail
   go_meet
   have z1 := HX1.out.size
   have z2 := hHeld.size
   have z3 := HU.out.lt
   have z4 : wa.drew.heap.size = wa.heap.size := rfl
   exact ⟨_, _, u, v, rfl, rfl, HU.out.ext HX2.out, HV.out, hul, hvl, huf, hvf, huv, hvv, by omega, by omega, by omega, HX.out.ext.trans hHeld⟩
 case rest =>
  as_aux_lemma =>
   obtain ⟨B1, B2, u, v, rfl, rfl, hu, hv, hul, hvl, huf, hvf, huv, hvv, hne, hB1, hB2, hE⟩ := hcut
   obtain ⟨m', rfl⟩ : ∃ m', m = m' + 1 := ⟨m - 1, by omega⟩
   simp only [Nat.add_sub_cancel] at *
   have htop : 0 < k.getD m' 0 := by
    apply Nat.pos_of_ne_zero; intro h0; have := HB.out.1; rw [h0, B32_eq] at this; omega
   obtain ⟨hV, hbig, hvz⟩ := top_shifted hklen HK.out.fit hvl hvf (pow_split hsh) hvv HB.out.1 HB.out.2 B32_even
   have hstart := start_lt hlen HL.out.fit hklen hmn hul huv htop (Nat.two_pow_pos sh)
   have hmid := KMid.begin (A := mval l * 2 ^ sh) (n := m' + 1) hul huf huv.symm hstart
   obtain ⟨V, hVV⟩ : ∃ V, mval k * 2 ^ sh = V := ⟨_, rfl⟩
   rw [hVV] at hV hmid
   have HVV := Lib.hid hVV; have HV := Lib.hid hV; have HMID := Lib.hid hmid; have HBIG := Lib.hid hbig
   have HST := Lib.hid (And.intro hu (And.intro hv hE)); have HUL := Lib.hid hul; have HVL := Lib.hid hvl; have HVF := Lib.hid hvf
   obtain ⟨tp, htp⟩ : ∃ z, v.getD m' 0 = z := ⟨_, rfl⟩
   obtain ⟨nx, hnx⟩ : ∃ z, v.getD (m' - 1) 0 = z := ⟨_, rfl⟩
   have htp2 := hvf.getD m'
   have hnx2 := hvf.getD (m' - 1)
   rw [htp, B32_eq] at htp2
   rw [hnx, B32_eq] at hnx2
   have dtp : dg v m' = (tp : Int) := by unfold dg; rw [htp]
   have dnx : dg v (m' - 1) = (nx : Int) := by unfold dg; rw [hnx]
   have HTN := Lib.hid (And.intro htp hnx)
   have htp0 : 0 < tp := by rw [htp, B32_eq] at hbig; omega
   have htp3 : (tp : Int) ≤ 4294967295 := by omega
   have hnx3 : (nx : Int) ≤ 4294967295 := by omega
   have v1 := hv.cell m' (by omega)
   have v2 := hv.cell (m' - 1) (by omega)
   have lv := hv.lt
   rw [dtp] at v1
   rw [dnx] at v2
   clear hVV hV hmid hbig hu hv hul hvl hE hstart huv hvv hvf huf htop hvz dtp dnx htp hnx htp2 hnx2
   obtain ⟨O, hO⟩ : ∃ O, n - (m' + 1) + 1 = O := ⟨_, rfl⟩
   have hmk := make_words O ((n : Int) - ((m' : Int) + 1) + 1) ((n : Int) - ((m' : Int) + 1) + 1) (by omega) (by omega) (by omega)
   go_upto_region 10 with (fail)
   go_quiet (fail)
   go_wp2_with fail
   go_step3
   go_wp2_with fail
   have hB3 : Row (wc.alloc (.cells (wcells (List.replicate O 0)) 85)) wc.heap.size (List.replicate O 0) := Blk.new _ _ _
   have hn1 : B1 < wc.heap.size := HST.out.1.lt
   have hE3 : Ext wc (wc.alloc (.cells (wcells (List.replicate O 0)) 85)) := (Ext.refl _).alloc _
   have hst2 := And.intro (HST.out.1.ext hE3) (And.intro (HST.out.2.1.ext hE3) (And.intro hB3 (HST.out.2.2.trans hE3)))
   have HST2 := Lib.hid hst2
   obtain ⟨B3, hB3e⟩ : ∃ B3, wc.heap.size = B3 := ⟨_, rfl⟩
   have hne31 : B3 ≠ B1 := by omega
   have hne32 : B3 ≠ B2 := by omega
   have hB3w : w.heap.size ≤ B3 := by omega
   rw [hB3e] at HST2
   rw [hB3e]
   rw [hO] at HMID
   clear hB3 hE3 hst2 hmk v1 v2 lv
   rw [show m' + 1 - 2 = m' - 1 from by omega]
   go_loopw [15] (fun jv ws => ∃ (J : Nat) (us o : List Nat), J ≤ O ∧ jv = .int .i64 ((J : Int) - 1) ∧ Row ws B1 us ∧ Row ws B2 v ∧ Row ws B3 o ∧ KMid (mval l * 2 ^ sh) V n (m' + 1) us o J ∧ Ext w ws) (fun jv _ => (intOf jv + 1).toNat)
   case atStart => exact ⟨O, u, _, Nat.le_refl _, rfl, HST2.out.1, HST2.out.2.1, HST2.out.2.2.1, HMID.out, HST2.out.2.2.2.drewN _⟩
   case round =>
    as_aux_lemma =>
     obtain ⟨J, us, o, hJ, rfl, hus, hvs, hos, hmid, hE⟩ := hrel
     by_cases hJ0 : J = 0
     ·as_aux_lemma =>
       subst hJ0
       obtain ⟨wz, rfl⟩ : ∃ W, W = wr := ⟨_, rfl⟩
       have hkp : 0 < mval k := by
        have h9 := hmid.posV
        rcases Nat.eq_zero_or_pos (mval k) with h | h
        ·rw [← HVV.out, h, Nat.zero_mul] at h9; exact absurd h9 (Nat.lt_irrefl _)
        ·exact h
       have hfin := KMid.fin (l := l) (k := k) (sh := sh) (by rw [HVV.out]; exact hmid) hkp
       have hul := hmid.ulen
       have hol := hmid.olen
       have hult : mval us < B32 ^ (m' + 1) := by
        have h9 := hmid.lt
        rw [List.drop_zero] at h9
        have h8 := mval_lt (HVF.out.take (m' + 1))
        rw [HV.out, List.length_take, HVL.out, Nat.min_eq_left (by omega)] at h8
        omega
       have HMI := Lib.hid hmid; have HR := Lib.hid (And.intro hus (And.intro hos hE)); have HFN := Lib.hid (And.intro hfin hult)
       clear hmid hus hvs hos hE hfin hult
       have hmk2 := make_words (m' + 1) ((m' : Int) + 1) ((m' : Int) + 1) (by omega) (by omega) (by omega)
       go_wp2_with fail
       go_loopw [202] (fun iv ws => ∃ (i : Nat) (r : List Nat), i ≤ m' + 1 ∧ iv = .int .i64 (i : Int) ∧ Row ws wz.heap.size r ∧ RestMid us r (2 ^ sh) (m' + 1) i ∧ Ext wz ws) (fun iv _ => m' + 1 - (intOf iv).toNat)
       case atStart => exact ⟨0, _, by omega, rfl, Blk.new _ _ _, RestMid.begin us _ _, (Ext.refl _).alloc _⟩
       case round =>
        as_aux_lemma =>
         obtain ⟨i, r, hi, rfl, hr, hrm, hx⟩ := hrel
         have hrl := hrm.len
         by_cases hlt : i < m' + 1
         ·as_aux_lemma =>
           have hus2 := HR.out.1.ext hx
           have c0 := hus2.cell (i + 1) (by omega)
           have c1 := hus2.cell i (by omega)
           have r0 := hr.cell i (by omega)
           have rf := hr.free i
           have l0 := hr.lt
           have l1 := hus2.lt
           have f0 := HMI.out.ufit.getD (i + 1)
           have f1 := HMI.out.ufit.getD i
           rw [B32_eq] at f0 f1
           unfold dg at c0 c1
           have hst := hrm.step (pow_split hsh) HMI.out.ufit hlt _ rfl
           obtain ⟨x, hx0⟩ : ∃ z, us.getD (i + 1) 0 = z := ⟨_, rfl⟩
           obtain ⟨y, hy0⟩ : ∃ z, us.getD i 0 = z := ⟨_, rfl⟩
           rw [hx0] at c0 f0 hst
           rw [hy0] at c1 f1 hst
           have hor := or_words x y f0 f1
           obtain ⟨T, hT⟩ : ∃ T, x * 4294967296 + y = T := ⟨_, rfl⟩
           rw [hT] at hor
           rw [B32_eq, hT, ← B32_eq] at hst
           have e1 : (T : Int) / 2 ^ sh % 4294967296 = ((T / 2 ^ sh % B32 : Nat) : Int) := by
            rw [Int.natCast_emod, Int.natCast_ediv, Int.natCast_pow, B32_eq]; rfl
           have HST := Lib.hid (And.intro hst (And.intro e1 (And.intro hr hx)))
           have i1 : (x : Int) ≤ 4294967295 := by omega
           have i2 : (y : Int) ≤ 4294967295 := by omega
           clear hst e1 hr hx hrm hx0 hy0 hT hus2 f0 f1
           go_upto_region 36 with (fail)
           go_region
           all_goals
            go_wp2_with fail
            rw [HST.out.2.1]
            go_roundw
            case rel => exact ⟨i + 1, _, by omega, by go_num, Row.set HST.out.2.2.1 _ _ _ rfl, HST.out.1, (HST.out.2.2.2.setCell (Nat.le_refl _) _).drew⟩
            case measure => simp [intOf] <;> omega
         ·as_aux_lemma =>
           obtain rfl : i = m' + 1 := by omega
           have hrv := hrm.done (Nat.two_pow_pos sh) HMI.out.ufit (by omega) HFN.out.2
           rw [HFN.out.1.2, Nat.mul_div_cancel _ (Nat.two_pow_pos sh)] at hrv
           have hwo : Wds wz (some ⟨B3, 0, none⟩) O O o := HR.out.2.1.wds HMI.out.ofit (by omega) (by omega) (Nat.le_refl _) (by omega)
           have hwr := hr.wds hrm.fit (by omega) hrl (Nat.le_refl _) (by omega)
           have HW := Lib.hid (And.intro (hwo.keep hx.ik) (And.intro hwr (And.intro hrv hx)))
           clear hrv hwo hwr hx hr hrm hmk2
           go_wp2_with fail
           refine (normal_c _ O O o _ HW.out.1).mono ?_
           rintro e w4 ⟨rfl, rfl⟩
           go_wp2_with fail
           refine (normal_c _ (m' + 1) (m' + 1) r _ HW.out.2.1).mono ?_
           rintro e w5 ⟨rfl, rfl⟩
           go_wp2_with fail
           rw [Exit.noGoto_ret]
           go_ret2
           exact ⟨_, _, _, _, _, _, _, _, rfl, normal_w HW.out.1, trim_norm _, by rw [mval_trim]; exact HFN.out.1.1, normal_w HW.out.2.1, trim_norm _, by rw [mval_trim]; exact HW.out.2.2.1, HR.out.2.2.trans HW.out.2.2.2⟩
     ·as_aux_lemma =>
       obtain ⟨j, rfl⟩ : ∃ j, J = j + 1 := ⟨J - 1, by omega⟩
       rw [show ((j + 1 : Nat) : Int) - 1 = (j : Int) from by omega]
       have hjn : j ≤ n := by omega
       have c1 := hus.cell (j + (m' + 1)) (by rw [hmid.ulen]; omega)
       have c2 := hus.cell (j + m') (by rw [hmid.ulen]; omega)
       have c3 := hus.cell (j + (m' - 1)) (by rw [hmid.ulen]; omega)
       have f1 := hmid.ufit.getD (j + (m' + 1))
       have f2 := hmid.ufit.getD (j + m')
       have f3 := hmid.ufit.getD (j + (m' - 1))
       unfold dg at c1 c2 c3
       obtain ⟨x1, hx1⟩ : ∃ z, us.getD (j + (m' + 1)) 0 = z := ⟨_, rfl⟩
       obtain ⟨x2, hx2⟩ : ∃ z, us.getD (j + m') 0 = z := ⟨_, rfl⟩
       obtain ⟨x3, hx3⟩ : ∃ z, us.getD (j + (m' - 1)) 0 = z := ⟨_, rfl⟩
       obtain ⟨hg, hz0⟩ := hmid.guess2 (by omega) (by omega) hmn HVL.out HVF.out HV.out HBIG.out hx1 hx2 hx3 HTN.out.1 HTN.out.2
       rw [hx1] at c1 f1
       rw [hx2] at c2 f2
       rw [hx3] at c3 f3
       rw [B32_eq] at f1 f2 f3
       have lu := hus.lt
       have HG := Lib.hid hg; have HZ := Lib.hid hz0; have HMI := Lib.hid hmid
       have HR := Lib.hid (And.intro hus (And.intro hvs (And.intro hos hE)))
       have hor := or_words x1 x2 f1 f2
       obtain ⟨T, hT⟩ : ∃ T, x1 * 4294967296 + x2 = T := ⟨_, rfl⟩
       rw [hT] at hor
       rw [B32_eq, hT, ← B32_eq] at HG
       have i1 : (x1 : Int) ≤ 4294967295 := by omega
       have i2 : (x2 : Int) ≤ 4294967295 := by omega
       have i3 : (x3 : Int) ≤ 4294967295 := by omega
       have hTb : (T : Int) ≤ 18446744073709551615 := by omega
       have HT := Lib.hid hT
       clear hg hz0 hmid hus hvs hos hE hx1 hx2 hx3 f1 f2 f3 hT
       have hTd : (T : Int) / (tp : Int) = ((T / tp : Nat) : Int) := by omega
       have hTm : (T : Int) % (tp : Int) = ((T % tp : Nat) : Int) := by omega
       have hT0 : (0 : Int) ≤ (T : Int) := by omega
       have hq0 : (0 : Int) ≤ (T : Int) / (tp : Int) := by rw [hTd]; exact Int.natCast_nonneg _
       have hr0 : (0 : Int) ≤ (T : Int) % (tp : Int) := by rw [hTm]; exact Int.natCast_nonneg _
       have hrm : (T : Int) % (tp : Int) ≤ 4294967295 := by rw [hTm]; have := Nat.mod_lt T htp0; omega
       have hqb : (T : Int) / (tp : Int) ≤ 18446744073709551615 := Int.le_trans (Int.ediv_le_self _ hT0) hTb
       have k3 : ((tp : Int) == 0) = false := by rw [beq_eq_false_iff_ne]; omega
       have k4 : (tp : Int) ≠ 0 := by omega
       have k2 : (0 : Int) < (tp : Int) := by omega
       have HTD := Lib.hid (And.intro hTd hTm)
       clear hTd hTm
       go_upto_region 14 with (fail)
       go_quiet (fail)
       go_wp2_with fail
       clear hor c1 c2 i1 i2
       go_quiet (fail)
       go_upto_block 2 with (fail)
       rw [HTD.out.1, HTD.out.2]
       clear hq0 hr0 hrm hqb
       obtain ⟨W, hW⟩ : ∃ W, mval (us.drop j) = W := ⟨_, rfl⟩
       rw [hW] at HG
       rw [show j + (m' - 1) = j + (m' + 1) - 2 from by omega] at c3
       go_cut [17] (fun s17 wx => ∃ g : Nat, s17 = .int .u64 (g : Int) ∧ GEnd W V B32 g ∧ Ext wr wx)
       case first =>
        as_aux_lemma =>
         go_wp2_with fail
         go_loop [17, 18] (fun dv rv => ∃ d r : Nat, dv = .int .u64 (d : Int) ∧ rv = .int .u64 (r : Int) ∧ GMid W V T tp B32 d r) (fun dv _ => (intOf dv).toNat)
         case atStart => exact ⟨T / tp, T % tp, rfl, rfl, HG.out.begin⟩
         case round =>
          as_aux_lemma =>
           obtain ⟨d, r, rfl, rfl, hm⟩ := hrel
           have d1 := hm.le
           have r1 := hm.rest
           rw [B32_eq] at d1 r1
           have GM := Lib.hid hm
           clear hm
           by_cases hA : 4294967296 ≤ d
           ·have a1 : (0 : Int) < (d : Int) / 4294967296 := by omega
            have a2 : (1 : Int) ≤ (d : Int) := by omega
            have a3 : (d : Int) ≤ 4294967297 := by omega
            have a4 : (r : Int) ≤ 4294967295 := by omega
            have e1 : (d : Int) - 1 = ((d - 1 : Nat) : Int) := by omega
            have E1 := Lib.hid e1
            have hd := HG.out.down GM.out (.inl (by rw [B32_eq]; exact hA))
            by_cases hr : r + tp < 4294967296
            ·have b1 : ((r : Int) + (tp : Int)) / 4294967296 = 0 := by omega
             have hn := HG.out.next' GM.out (.inl (by rw [B32_eq]; exact hA)) (by rw [B32_eq]; exact hr)
             have HN := Lib.hid hn
             clear hn hd e1
             go_wp2_with fail
             go_round
             case rel => exact ⟨d - 1, E1.out, r + tp, by rw [Int.natCast_add], HN.out⟩
             case measure => simp [intOf]; omega
            ·have b1 : 0 < ((r : Int) + (tp : Int)) / 4294967296 := by omega
             have hn := HG.out.out GM.out (.inl (by rw [B32_eq]; exact hA)) (by rw [B32_eq]; omega)
             have HN := Lib.hid hn
             clear hn hd e1
             go_wp2_with fail
             go_meet
             exact ⟨d - 1, by rw [← E1.out], HN.out, (Ext.refl _).drewN _⟩
           ·have or2 := or_words r x3 r1 (by omega)
            obtain ⟨S, hS⟩ : ∃ S, r * 4294967296 + x3 = S := ⟨_, rfl⟩
            rw [hS] at or2
            have a1 : (d : Int) / 4294967296 = 0 := by omega
            have a4 : (r : Int) ≤ 4294967295 := by omega
            have a5 : (0 : Int) ≤ (d : Int) * (nx : Int) := Int.mul_nonneg (by omega) (by omega)
            have ep : (d : Int) * (nx : Int) = ((d * nx : Nat) : Int) := by rw [Int.natCast_mul]
            have a6 : (d : Int) * (nx : Int) ≤ 18446744073709551615 := by
             have := Nat.mul_le_mul (show d ≤ 4294967295 by omega) (show nx ≤ 4294967295 by omega)
             rw [ep]; omega
            have EP := Lib.hid ep; have HS := Lib.hid hS
            by_cases hB : S < d * nx
            ·have hc : B32 ≤ d ∨ r * B32 + x3 < d * nx := .inr (by rw [B32_eq, hS]; exact hB)
             have a7 : (S : Int) < (d : Int) * (nx : Int) := by rw [ep]; omega
             have hd := HG.out.down GM.out hc
             have a2 : (1 : Int) ≤ (d : Int) := by have := hd.2.1; omega
             have a3 : (d : Int) ≤ 4294967297 := by omega
             have e1 : (d : Int) - 1 = ((d - 1 : Nat) : Int) := by omega
             have E1 := Lib.hid e1
             by_cases hr : r + tp < 4294967296
             ·have b1 : ((r : Int) + (tp : Int)) / 4294967296 = 0 := by omega
              have hn := HG.out.next' GM.out hc (by rw [B32_eq]; exact hr)
              have HN := Lib.hid hn
              clear hn hd e1 ep hS hc hB
              go_wp2_with fail
              go_round
              case rel => exact ⟨d - 1, E1.out, r + tp, by rw [Int.natCast_add], HN.out⟩
              case measure => simp [intOf]; omega
             ·have b1 : 0 < ((r : Int) + (tp : Int)) / 4294967296 := by omega
              have hn := HG.out.out GM.out hc (by rw [B32_eq]; omega)
              have HN := Lib.hid hn
              clear hn hd e1 ep hS hc hB
              go_wp2_with fail
              go_meet
              exact ⟨d - 1, by rw [← E1.out], HN.out, (Ext.refl _).drewN _⟩
            ·have a7 : ¬ (S : Int) < (d : Int) * (nx : Int) := by rw [ep]; omega
             have hn := HG.out.stop GM.out (by rw [B32_eq]; omega) (by rw [B32_eq, hS]; omega)
             have HN := Lib.hid hn
             clear hn ep hS hB
             go_wp2_with fail
             go_meet
             exact ⟨d, rfl, HN.out, (Ext.refl _).drewN _⟩
       case rest =>
        as_aux_lemma =>
         obtain ⟨g, rfl, hge2, hx⟩ := hcut
         obtain ⟨wd, rfl⟩ : ∃ W, W = wc := ⟨_, rfl⟩
         have hos := HR.out.2.2.1.ext hx
         have hol := HMI.out.olen
         have k0 := hos.cell j (by rw [hol]; omega)
         have k1 := hos.free j
         have k5 := hos.lt
         have hgB := hge2.lt
         rw [B32_eq] at hgB
         have g1 : (g : Int) ≤ 4294967295 := by omega
         have j1 : (j : Int) < (O : Int) := by omega
         have y1 : (j : Int) + ((m' : Int) + 1) + 1 ≤ (n : Int) + 1 := by omega
         have HR2 := Lib.hid (And.intro (HR.out.1.ext hx) (And.intro (HR.out.2.1.ext hx) (And.intro hos (HR.out.2.2.2.trans hx))))
         have HGE := Lib.hid hge2; have HOL := Lib.hid hol
         clear hge2 hx hos hol c3 lu
         generalize dg o j = z0 at k0
         go_wp2_with fail
         have ek : j + (m' + 1) + 1 - j = m' + 1 + 1 := by omega
         rw [ek]
         refine (take_c B1 j (m' + 1 + 1) (n + 1 - j) B2 (m' + 1) (m' + 1 + 1) us v g _ (Blk.setOther HR2.out.1 (by simp; omega) _) HMI.out.ufit (by rw [HMI.out.ulen]; omega) (Blk.setOther HR2.out.2.1 (by simp; omega) _) HVF.out (by rw [HVL.out]; omega) hne HGE.out.lt (by rw [HMI.out.ulen]; omega)).mono ?_
         rintro e we ⟨q, bo, cy, rfl, hT⟩
         have hbo := hT.mid.bo1
         have hv3 : Row we B2 v := Blk.grown (Blk.setOther HR2.out.2.1 (by simp; omega) _) hT.grown hne
         have ho3 : Row we B3 (o.set j g) := Blk.grown (Row.set HR2.out.2.2.1 j g (g : Int) rfl) hT.grown (by omega)
         have hE3 : Ext w we := Ext.grown (HR2.out.2.2.2.setCell (by simp; omega) _) hT.grown hB1
         have HS3 := Lib.hid (And.intro hT (And.intro hv3 (And.intro ho3 hE3)))
         clear k0 k1 k5 ek hT hv3 ho3 hE3
         by_cases hb0 : bo = 0
         ·as_aux_lemma =>
           subst hb0
           go_wp2_with fail
           go_roundw
           case rel => exact ⟨j, q, o.set j g, by omega, rfl, HS3.out.1.row, HS3.out.2.1, HS3.out.2.2.1, KMid.right HMI.out (by omega) hmn (by rw [hW]; exact HGE.out) HZ.out HV.out HVL.out HS3.out.1.mid HS3.out.1.len HS3.out.1.fit HS3.out.1.low, HS3.out.2.2.2⟩
           case measure => simp [intOf] <;> omega
         ·as_aux_lemma =>
           obtain rfl : bo = 1 := by omega
           have k0 := HS3.out.2.2.1.cell j (by rw [List.length_set, HOL.out]; omega)
           have k1 := HS3.out.2.2.1.free j
           have k5 := HS3.out.2.2.1.lt
           have kd : dg (o.set j g) j = (g : Int) := by unfold dg; rw [getD_set_same _ _ _ (by rw [HOL.out]; omega)]
           rw [kd] at k0
           clear kd
           go_wp2_with fail
           have hg1 : 1 ≤ g := HS3.out.1.mid.pos (by rw [List.length_take]; omega) (by rw [List.length_drop, HS3.out.1.len, HMI.out.ulen]; omega)
           have eg : ((g : Int) - 1) % 4294967296 = ((g - 1 : Nat) : Int) := by omega
           rw [eg]
           have r1 := Blk.setOther HS3.out.1.row (p := ⟨B3, j, none⟩) (by simp; omega) (.int .u32 ((g - 1 : Nat) : Int))
           have r2 := Blk.setOther HS3.out.2.1 (p := ⟨B3, j, none⟩) (by simp; omega) (.int .u32 ((g - 1 : Nat) : Int))
           have r3 := Row.set HS3.out.2.2.1 j (g - 1) _ rfl
           rw [List.set_set] at r3
           have r4 := HS3.out.2.2.2.setCell (p := ⟨B3, j, none⟩) (by simp; omega) (.int .u32 ((g - 1 : Nat) : Int))
           have HMT := Lib.hid HS3.out.1
           clear k0 k1 k5 eg
           generalize we.setCell ⟨B3, j, none⟩ (.int .u32 ((g - 1 : Nat) : Int)) = wg at *
           refine (carrier_c _).mono ?_
           rintro e wf ⟨rfl, hB1, hx1⟩
           obtain ⟨cb, hcb⟩ : ∃ cb, wg.heap.size = cb := ⟨_, rfl⟩
           have lt1 := Blk.lt r1
           have lt2 := Blk.lt r2
           have lt3 := Row.lt r3
           have HR4 := Lib.hid (And.intro (Row.ext r1 hx1) (And.intro (Row.ext r2 hx1) (And.intro (Row.ext r3 hx1) (And.intro (Ext.trans r4 hx1) hB1))))
           rw [hcb] at HR4
           rw [hcb]
           have hwcb : w.heap.size ≤ cb := by have := r4.size; omega
           have hc1 : cb ≠ B1 := by omega
           have hc2 : cb ≠ B2 := by omega
           have hc3 : cb ≠ B3 := by omega
           clear r1 r2 r3 r4 hB1 hx1 lt1 lt2 lt3 hcb
           go_upto_region 24 with (fail)
           go_wp2_with fail
           rw [show j + (m' + 1) + 1 - j = m' + 1 + 1 from by omega]
           rw [show ((m' + 1 + 1 : Nat) : Int) = (m' : Int) + 1 + 1 from by omega]
           go_loopw [170] (fun iv ws => ∃ (i c : Nat) (q2 : List Nat), i ≤ m' + 1 + 1 ∧ iv = .int .i64 (i : Int) ∧ Row ws B1 q2 ∧ Row ws B2 v ∧ Row ws B3 (o.set j (g - 1)) ∧ Blk ws cb #[.int .u64 (c : Int)] 83 ∧ BackR j i q (v.take (m' + 1)) q2 c ∧ Ext w ws) (fun iv _ => m' + 1 + 1 - (intOf iv).toNat)
           case atStart => exact ⟨0, 0, q, by omega, rfl, HR4.out.1, HR4.out.2.1, HR4.out.2.2.1, HR4.out.2.2.2.2, BackR.begin j q _ HMT.out.fit, HR4.out.2.2.2.1⟩
           case round =>
            as_aux_lemma =>
             obtain ⟨i, c2, q2, hi, rfl, hq2, hv2, ho2, hbk, hR, hE⟩ := hrel
             have hl2 := hR.len
             have hl3 := HMT.out.len
             have hl4 := HMI.out.ulen
             by_cases hlt : i < m' + 1 + 1
             ·as_aux_lemma =>
               have c0 := hq2.cell (j + i) (by omega)
               have p1 := dg_nonneg q2 (j + i)
               have p2 := dg_lt hR.fit (j + i)
               have p5 := hR.mid.carry
               have lq := hq2.lt
               have HQ2 := Lib.hid (And.intro hq2 (And.intro hv2 (And.intro ho2 (And.intro hbk hE))))
               by_cases him : i < m' + 1
               ·as_aux_lemma =>
                 have c1 := hv2.cell i (by rw [HVL.out]; omega)
                 have p3 := dg_nonneg v i
                 have p4 := dg_lt HVF.out i
                 have lv2 := hv2.lt
                 have ge : (v.take (m' + 1)).getD i 0 = v.getD i 0 := getD_take _ _ _ him
                 have hV : dg q2 (j + i) + dg v i = ((q2.getD (j + i) 0 + v.getD i 0 : Nat) : Int) := by unfold dg; omega
                 have hst := hR.step (HVF.out.take _) (by omega) (c2 + (q2.getD (j + i) 0 + v.getD i 0)) (by rw [ge])
                 have hbb : c2 + (q2.getD (j + i) 0 + v.getD i 0) ≤ 18446744073709551615 := by unfold dg at p2 p4; omega
                 have HST := Lib.hid (And.intro hV (And.intro hst hbb))
                 clear hV hst hbb ge hq2 hv2 ho2 hbk hE hR p5
                 go_wp2_with (go_at_call 88; refine (carrier1_c _ _ _ _ _ HST.out.1 HQ2.out.2.2.2.1 HST.out.2.2).mono ?_; rintro e w2 ⟨rfl, hB2, hG2⟩; have hx2 := Lib.hid (HQ2.out.2.2.2.2.grown hG2 (by omega)); have RO2 := Blk.grown HQ2.out.1 hG2 (by omega); have RV2 := Lib.hid (Blk.grown HQ2.out.2.1 hG2 (by omega)); have RB2 := Lib.hid (Blk.grown HQ2.out.2.2.1 hG2 (by omega)); have BK2 := Lib.hid hB2; clear hB2 hG2; have rc2 := Row.cell RO2 (j + i) (by omega); have rf2 := Row.free RO2 (j + i); have RO3 := Lib.hid RO2; clear RO2)
                 go_roundw
                 case rel => exact ⟨i + 1, _, _, by omega, by go_num, Row.set RO3.out _ _ _ rfl, Blk.setOther RV2.out (by simp; omega) _, Blk.setOther RB2.out (by simp; omega) _, BK2.out.setOther (by simp; omega) _, HST.out.2.1, hx2.out.setCell (by simp; omega) _⟩
                 case measure => simp [intOf] <;> omega
               ·as_aux_lemma =>
                 have ge : (v.take (m' + 1)).getD i 0 = 0 := getD_ge _ _ (by rw [List.length_take]; omega)
                 have hV : dg q2 (j + i) = ((q2.getD (j + i) 0 + 0 : Nat) : Int) := by unfold dg; omega
                 have hst := hR.step (HVF.out.take _) (by omega) (c2 + (q2.getD (j + i) 0 + 0)) (by rw [ge])
                 have hbb : c2 + (q2.getD (j + i) 0 + 0) ≤ 18446744073709551615 := by unfold dg at p2; omega
                 have HST := Lib.hid (And.intro hV (And.intro hst hbb))
                 clear hV hst hbb ge hq2 hv2 ho2 hbk hE hR p5
                 go_wp2_with (go_at_call 88; refine (carrier1_c _ _ _ _ _ HST.out.1 HQ2.out.2.2.2.1 HST.out.2.2).mono ?_; rintro e w2 ⟨rfl, hB2, hG2⟩; have hx2 := Lib.hid (HQ2.out.2.2.2.2.grown hG2 (by omega)); have RO2 := Blk.grown HQ2.out.1 hG2 (by omega); have RV2 := Lib.hid (Blk.grown HQ2.out.2.1 hG2 (by omega)); have RB2 := Lib.hid (Blk.grown HQ2.out.2.2.1 hG2 (by omega)); have BK2 := Lib.hid hB2; clear hB2 hG2; have rc2 := Row.cell RO2 (j + i) (by omega); have rf2 := Row.free RO2 (j + i); have RO3 := Lib.hid RO2; clear RO2)
                 go_roundw
                 case rel => exact ⟨i + 1, _, _, by omega, by go_num, Row.set RO3.out _ _ _ rfl, Blk.setOther RV2.out (by simp; omega) _, Blk.setOther RB2.out (by simp; omega) _, BK2.out.setOther (by simp; omega) _, HST.out.2.1, hx2.out.setCell (by simp; omega) _⟩
                 case measure => simp [intOf] <;> omega
             ·as_aux_lemma =>
               obtain rfl : i = m' + 1 + 1 := by omega
               have hkb := (KMid.back HMI.out (by omega) hmn (by rw [hW]; exact HGE.out) HZ.out HV.out HVL.out HVF.out HMT.out.mid HMT.out.len HMT.out.low hR).2
               have HKB := Lib.hid (And.intro hkb (And.intro hq2 (And.intro hv2 (And.intro ho2 hE))))
               clear hkb hq2 hv2 ho2 hE hR hbk
               go_wp2_with fail
               go_roundw
               case rel => exact ⟨j, q2, o.set j (g - 1), by omega, rfl, HKB.out.2.1, HKB.out.2.2.1, HKB.out.2.2.2.1, HKB.out.1, HKB.out.2.2.2.2⟩
               case measure => simp [intOf] <;> omega
end Go.Proofs.Ytkoidookanmknaa
