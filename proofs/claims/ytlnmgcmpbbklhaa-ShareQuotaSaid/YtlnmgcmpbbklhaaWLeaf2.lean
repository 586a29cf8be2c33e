/- wide: From, Neg, compare, Compare, Sign. -/
import Derived.Test.YtlnmgcmpbbklhaaWLeaf
namespace Go.Proofs.Ytlnmgcmpbbklhaa
set_option linter.unusedSimpArgs false
set_option linter.unusedVariables false
open Go.RowKit

theorem mval2_lt (u v : Nat) (hu : u < B32) (hv : v < B32) : mval [u, v] < WTop := WTop_ge ((Fit.nil.cons hv).cons hu) (by simp)

theorem mval_two (m : Nat) : mval [m % B32, m / B32] = m := by
  simp only [mval]; have := Nat.mod_add_div m B32; omega
theorem fit_two (m : Nat) (h : m < 18446744073709551616) : Fit [m % B32, m / B32] := by
  refine (Fit.nil.cons ?_).cons (Nat.mod_lt _ B32_pos)
  rw [B32_eq]; omega
theorem wrap_neg (n : Int) (h1 : -9223372036854775808 ≤ n) (hn : n < 0) : IntKind.u64.wrap (-IntKind.u64.wrap n) = -n := by
  rw [IntKind.wrap_u64, IntKind.wrap_u64]; omega

theorem two_cells (m : Nat) (x y : Int) (hx : x = (m : Int) % 4294967296) (hy : y = (m : Int) / 4294967296) : ∀ i, i < [m % B32, m / B32].length → (#[Value.int .u32 x, Value.int .u32 y])[i]? = some (.int .u32 (dg [m % B32, m / B32] i)) := by
  intro i hi
  have hi' : i = 0 ∨ i = 1 := by simp at hi; omega
  rcases hi' with rfl | rfl
  · simp [dg, hx, B32_eq]
  · simp [dg, hy, B32_eq]

set_option maxHeartbeats 400000 in
theorem From_c (n : Int) (w : World) (h1 : -9223372036854775808 ≤ n) (h2 : n ≤ 9223372036854775807) :
    Calls Try.prog 28 #[.int .i64 n] w (RetI n w) := by
  obtain ⟨m, hm⟩ : ∃ m : Nat, m = n.natAbs := ⟨_, rfl⟩
  have hm2 : m < 18446744073709551616 := by omega
  have f2 := fit_two m hm2
  have v2 := mval_two m
  have lt2 : mval [m % B32, m / B32] < WTop := WTop_ge f2 (by simp)
  by_cases hn : n < 0
  · have e1 := wrap_neg n h1 hn
    have hs : sgn true m = n := by unfold sgn; simp; omega
    have tc := two_cells m (-n % 4294967296) (-n / 4294967296 % 4294967296) (by omega) (by omega)
    have E1 := Lib.hid e1; have HM := Lib.hid hm; have V2 := Lib.hid v2; have HS := Lib.hid hs; have TC := Lib.hid tc
    clear e1 hm v2 hs tc
    go_enter Try.func28, Try.ntmps28
    go_wp2_with fail
    rw [E1.out]
    refine (signed_c true _ 2 2 [m % B32, m / B32] _ (Wds.new _ _ _ _ (by simp) _ f2 (by simp) TC.out)).mono ?_
    rintro e w1 ⟨r, x, err, rfl, hr, hx, hv⟩
    rw [if_pos lt2] at hv
    obtain ⟨rfl, rfl⟩ := hv
    rw [V2.out, HS.out] at hr
    obtain ⟨hc, hf, hs⟩ := hx.see
    simp only [World.size_alloc] at hc hf hs
    have s0 : w.heap.size < w1.heap.size := by omega
    have c0 : w1.cell? ⟨w.heap.size, 0, none⟩ = some (.bool false) := by simp [hc, go_sem]
    have c1 : w1.cell? ⟨w.heap.size, 1, none⟩ = some (.slice none 0 0) := by simp [hc, go_sem]
    go_wp2
    refine bodyPost_ret (v := r.v) (by simp [results, Try.results28, go_sem, c0, c1, hf, s0]) rfl ?_
    exact ⟨r, rfl, hr.keep (by repeat (first | exact IK.refl _ | refine IK.alloc ?_ _ | refine IK.drew ?_ | refine IK.setCell ?_ (by simp [hc, go_sem]) _)), (by repeat (first | exact Ext.refl _ | assumption | refine Ext.setCell ?_ (by first | (simp; done) | (simp; omega) | omega) _ | refine Ext.alloc ?_ _ | refine Ext.drew ?_ | refine Ext.trans ?_ (by assumption)))⟩
  · have hs : sgn false m = n := by unfold sgn; simp; omega
    have tc := two_cells m (n % 4294967296) (n / 4294967296) (by omega) (by omega)
    have HM := Lib.hid hm; have V2 := Lib.hid v2; have HS := Lib.hid hs; have TC := Lib.hid tc
    clear hm v2 hs tc
    go_enter Try.func28, Try.ntmps28
    go_wp2_with fail
    refine (signed_c false _ 2 2 [m % B32, m / B32] _ (Wds.new _ _ _ _ (by simp) _ f2 (by simp) TC.out)).mono ?_
    rintro e w1 ⟨r, x, err, rfl, hr, hx, hv⟩
    rw [if_pos lt2] at hv
    obtain ⟨rfl, rfl⟩ := hv
    rw [V2.out, HS.out] at hr
    obtain ⟨hc, hf, hs⟩ := hx.see
    simp only [World.size_alloc] at hc hf hs
    have s0 : w.heap.size < w1.heap.size := by omega
    have c0 : w1.cell? ⟨w.heap.size, 0, none⟩ = some (.bool false) := by simp [hc, go_sem]
    have c1 : w1.cell? ⟨w.heap.size, 1, none⟩ = some (.slice none 0 0) := by simp [hc, go_sem]
    go_wp2
    refine bodyPost_ret (v := r.v) (by simp [results, Try.results28, go_sem, c0, c1, hf, s0]) rfl ?_
    exact ⟨r, rfl, hr.keep (by repeat (first | exact IK.refl _ | refine IK.alloc ?_ _ | refine IK.drew ?_ | refine IK.setCell ?_ (by simp [hc, go_sem]) _)), (by repeat (first | exact Ext.refl _ | assumption | refine Ext.setCell ?_ (by first | (simp; done) | (simp; omega) | omega) _ | refine Ext.alloc ?_ _ | refine Ext.drew ?_ | refine Ext.trans ?_ (by assumption)))⟩

theorem sgn_not (g : Bool) (m : Nat) : sgn (!g) m = -sgn g m := by cases g <;> simp [sgn]

set_option maxHeartbeats 400000 in
theorem Neg_c (p : IV) (x : Int) (w : World) (h : IsI w p x) : Calls Try.prog 43 #[p.v] w (RetI (-x) w) := by
  obtain ⟨g, a, n, c⟩ := p
  obtain ⟨l, h1, h2, h3, h4, rfl⟩ := h
  by_cases h0 : 0 < n
  · cases g
    · have HH := Lib.hid h1; clear h1
      go_enter Try.func43, Try.ntmps43
      go_wp2
      refine bodyPost_ret (v := .agg #[.bool true, .slice a n c]) (by simp [results, Try.results43, go_sem]) rfl ?_
      exact ⟨⟨true, a, n, c⟩, rfl, ⟨l, HH.out.keep (by repeat (first | exact IK.refl _ | refine IK.alloc ?_ _ | refine IK.drew ?_ | refine IK.setCell ?_ (by simp [hc, go_sem]) _)), h2, h3, fun _ => h0, by simp [sgn]⟩, (by repeat (first | exact Ext.refl _ | assumption | refine Ext.setCell ?_ (by first | (simp; done) | (simp; omega) | omega) _ | refine Ext.alloc ?_ _ | refine Ext.drew ?_ | refine Ext.trans ?_ (by assumption)))⟩
    · have HH := Lib.hid h1; clear h1
      go_enter Try.func43, Try.ntmps43
      go_wp2
      refine bodyPost_ret (v := .agg #[.bool false, .slice a n c]) (by simp [results, Try.results43, go_sem]) rfl ?_
      exact ⟨⟨false, a, n, c⟩, rfl, ⟨l, HH.out.keep (by repeat (first | exact IK.refl _ | refine IK.alloc ?_ _ | refine IK.drew ?_ | refine IK.setCell ?_ (by simp [hc, go_sem]) _)), h2, h3, by simp, by simp [sgn]⟩, (by repeat (first | exact Ext.refl _ | assumption | refine Ext.setCell ?_ (by first | (simp; done) | (simp; omega) | omega) _ | refine Ext.alloc ?_ _ | refine Ext.drew ?_ | refine Ext.trans ?_ (by assumption)))⟩
  · have hn : n = 0 := by omega
    subst hn
    have hl : l = [] := List.eq_nil_of_length_eq_zero h1.len
    subst hl
    cases g
    · have HH := Lib.hid h1; clear h1
      go_enter Try.func43, Try.ntmps43
      go_wp2
      refine bodyPost_ret (v := .agg #[.bool false, .slice a 0 c]) (by simp [results, Try.results43, go_sem]) rfl ?_
      exact ⟨⟨false, a, 0, c⟩, rfl, ⟨[], HH.out.keep (by repeat (first | exact IK.refl _ | refine IK.alloc ?_ _ | refine IK.drew ?_ | refine IK.setCell ?_ (by simp [hc, go_sem]) _)), h2, h3, by simp, by simp [sgn, mval]⟩, (by repeat (first | exact Ext.refl _ | assumption | refine Ext.setCell ?_ (by first | (simp; done) | (simp; omega) | omega) _ | refine Ext.alloc ?_ _ | refine Ext.drew ?_ | refine Ext.trans ?_ (by assumption)))⟩
    · exact absurd (h4 rfl) (by simp)

set_option maxHeartbeats 400000 in
theorem compare_c (a b : Option Addr) (n m c d : Nat) (l k : List Nat) (w : World) (hl : Wds w a n c l) (hk : Wds w b m d k) (nl : Norm l) (nk : Norm k) :
    Calls Try.prog 64 #[.slice a n c, .slice b m d] w fun e w' => e = .returned (.int .i64 (cmpI (mval l) (mval k))) ∧ Dr w w' := by
  have h1 := hl.cap
  have h2 := hl.most
  have h3 := hk.cap
  have h4 := hk.most
  by_cases hlt : n < m
  · have hv := norm_len_lt nl nk hl.fit (by rw [hl.len, hk.len]; exact hlt)
    have e1 : cmpI (n : Int) (m : Int) = -1 := by rw [cmpI, if_pos (by omega)]
    have e2 : cmpI (mval l : Int) (mval k : Int) = -1 := by rw [cmpI, if_pos (by omega)]
    have E1 := Lib.hid e1; have E2 := Lib.hid e2; clear e1 e2
    go_enter Try.func64, Try.ntmps64
    go_wp2_with (go_at_call 68; refine (cmpInt_c _ _ _).mono ?_; rintro e w' ⟨rfl, rfl⟩; rw [E1.out])
    go_ret
    exact ⟨by rw [E2.out]; rfl, Dr.refl _⟩
  · by_cases hgt : m < n
    · have hv := norm_len_lt nk nl hk.fit (by rw [hl.len, hk.len]; exact hgt)
      have e1 : cmpI (n : Int) (m : Int) = 1 := by rw [cmpI, if_neg (by omega), if_pos (by omega)]
      have e2 : cmpI (mval l : Int) (mval k : Int) = 1 := by rw [cmpI, if_neg (by omega), if_pos (by omega)]
      have E1 := Lib.hid e1; have E2 := Lib.hid e2; clear e1 e2
      go_enter Try.func64, Try.ntmps64
      go_wp2_with (go_at_call 68; refine (cmpInt_c _ _ _).mono ?_; rintro e w' ⟨rfl, rfl⟩; rw [E1.out])
      go_ret
      exact ⟨by rw [E2.out]; rfl, Dr.refl _⟩
    · obtain rfl : n = m := by omega
      have e1 : cmpI (n : Int) (n : Int) = 0 := by rw [cmpI, if_neg (by omega), if_neg (by omega)]
      have E1 := Lib.hid e1; have HL := Lib.hid hl; have HK := Lib.hid hk; clear e1 hl hk
      go_enter Try.func64, Try.ntmps64
      go_wp2_with (go_at_call 68; refine (cmpInt_c _ _ _).mono ?_; rintro e w' ⟨rfl, rfl⟩; rw [E1.out])
      go_loopw [6, 7] (fun v _ wr => ∃ (j : Nat), j ≤ n ∧ l.drop j = k.drop j ∧ v = .int .i64 ((j : Int) - 1) ∧ Dr w wr) (fun v _ _ => (intOf v + 1).toNat)
      case atStart => exact ⟨n, Nat.le_refl _, by rw [List.drop_of_length_le (by rw [HL.out.len]; omega), List.drop_of_length_le (by rw [HK.out.len]; omega)], rfl, Dr.refl _⟩
      case round =>
        obtain ⟨j, hj, hd, rfl, hdr⟩ := hrel
        have HD := Lib.hid hd; clear hd
        rename_i wr _
        have HL := Lib.hid (HL.out.keep hdr.ik); have HK := Lib.hid (HK.out.keep hdr.ik)
        by_cases h0 : 0 < j
        · obtain ⟨i, rfl⟩ : ∃ i, j = i + 1 := ⟨j - 1, by omega⟩
          obtain ⟨b1, o1, rfl, _, hc1⟩ := HL.out.at i (by omega)
          obtain ⟨b2, o2, rfl, _, hc2⟩ := HK.out.at i (by omega)
          rw [show (((i + 1 : Nat) : Int) - 1) = (i : Int) from by omega]
          have i0 : (0 : Int) ≤ (i : Int) := by omega
          have i1 : (i : Int) < (n : Int) := by omega
          by_cases he : l.getD i 0 = k.getD i 0
          · have e3 : cmpI (dg l i) (dg k i) = 0 := by unfold dg; rw [he, cmpI, if_neg (by omega), if_neg (by omega)]
            have E3 := Lib.hid e3; have HE := Lib.hid he; clear e3 he
            go_wp2
            go_quiet ((go_at_call 75; exact Calls.quiet_of_same ((cmpU32_c _ _ _).mono fun _ _ h => ⟨h.1, h.2.symm⟩)))
            simp only [E3.out]
            go_wp2
            go_roundw
            case rel => exact ⟨i, by omega, drop_succ_eq (by rw [HL.out.len, HK.out.len]) i (by rw [HL.out.len]; omega) HD.out HE.out, rfl, hdr.drewN _⟩
            case measure => simp [intOf]
          · have hcmp : cmpI (mval l : Int) (mval k : Int) = cmpI (dg l i) (dg k i) ∧ cmpI (dg l i) (dg k i) ≠ 0 := by
              by_cases hlt : l.getD i 0 < k.getD i 0
              · have := mval_cmp HL.out.fit (by rw [HL.out.len, HK.out.len]) i (by rw [HL.out.len]; omega) HD.out hlt
                unfold dg; rw [cmpI, if_pos (by omega), cmpI, if_pos (by omega)]; simp
              · have := mval_cmp HK.out.fit (by rw [HL.out.len, HK.out.len]) i (by rw [HK.out.len]; omega) HD.out.symm (by omega : k.getD i 0 < l.getD i 0)
                unfold dg; rw [cmpI, if_neg (by omega), if_pos (by omega), cmpI, if_neg (by omega), if_pos (by omega)]; simp
            obtain ⟨e4, e5⟩ := hcmp
            have e6 : (cmpI (dg l i) (dg k i) != 0) = true := by rw [bne_iff_ne]; exact e5
            have E4 := Lib.hid e4; clear e4 e5
            go_wp2
            go_quiet ((go_at_call 75; exact Calls.quiet_of_same ((cmpU32_c _ _ _).mono fun _ _ h => ⟨h.1, h.2.symm⟩)))
            go_wp2
            go_ret
            exact ⟨by rw [E4.out]; rfl, hdr.drewN _⟩
        · obtain rfl : j = 0 := by omega
          have hlk : l = k := by simpa using HD.out
          subst hlk
          have e7 : cmpI (mval l : Int) (mval l : Int) = 0 := by rw [cmpI, if_neg (by omega), if_neg (by omega)]
          have E7 := Lib.hid e7; clear e7
          go_wp2
          go_ret
          exact ⟨by rw [E7.out]; rfl, hdr⟩

theorem sgn_cmp (g h : Bool) (m n : Nat) (hg : g = true → 0 < m) (hh : h = true → 0 < n) : cmpI (sgn g m) (sgn h n) =
    if g then (if h then cmpI n m else -1) else (if h then 1 else cmpI m n) := by
  cases g <;> cases h <;> simp [sgn, cmpI] at * <;> omega
theorem pos_of_norm {l : List Nat} {n : Nat} (h : Norm l) (hl : l.length = n) (hn : 0 < n) : 0 < mval l := by
  by_cases h0 : mval l = 0
  · have := norm_zero h h0; subst this; simp at hl; omega
  · omega

set_option maxHeartbeats 400000 in
theorem Compare_c (p q : IV) (x y : Int) (w : World) (hp : IsI w p x) (hq : IsI w q y) :
    Calls Try.prog 50 #[p.v, q.v] w fun e w' => e = .returned (.int .i64 (cmpI x y)) ∧ Ext w w' := by
  obtain ⟨g, a, n, c⟩ := p
  obtain ⟨l, h1, h2, h3, h4, rfl⟩ := hp
  obtain ⟨g', a', n', c'⟩ := q
  obtain ⟨l', h1', h2', h3', h4', rfl⟩ := hq
  have hs := sgn_cmp g g' (mval l) (mval l') (fun h => pos_of_norm h2 h1.len (h4 h)) (fun h => pos_of_norm h2' h1'.len (h4' h))
  have HS := Lib.hid hs; have HA := Lib.hid h1; have HB := Lib.hid h1'
  clear hs h1 h1' h4 h4'
  cases g <;> cases g'
  · go_enter Try.func50, Try.ntmps50
    go_wp2_with (go_at_call 64; refine (compare_c _ _ _ _ _ _ l l' _ (HA.out.keep (by repeat (first | exact IK.refl _ | refine IK.alloc ?_ _ | refine IK.drew ?_ | refine IK.setCell ?_ (by simp [hc, go_sem]) _))) (HB.out.keep (by repeat (first | exact IK.refl _ | refine IK.alloc ?_ _ | refine IK.drew ?_ | refine IK.setCell ?_ (by simp [hc, go_sem]) _))) h2 h2').mono ?_; rintro e w' ⟨rfl, hd⟩)
    go_ret
    exact ⟨by rw [HS.out]; rfl, Ext.trans (by repeat (first | exact Ext.refl _ | assumption | refine Ext.setCell ?_ (by first | (simp; done) | (simp; omega) | omega) _ | refine Ext.alloc ?_ _ | refine Ext.drew ?_ | refine Ext.trans ?_ (by assumption))) hd.ext⟩
  · go_enter Try.func50, Try.ntmps50
    go_wp2_with fail
    go_ret
    exact ⟨by rw [HS.out]; rfl, (by repeat (first | exact Ext.refl _ | assumption | refine Ext.setCell ?_ (by first | (simp; done) | (simp; omega) | omega) _ | refine Ext.alloc ?_ _ | refine Ext.drew ?_ | refine Ext.trans ?_ (by assumption)))⟩
  · go_enter Try.func50, Try.ntmps50
    go_wp2_with fail
    go_ret
    exact ⟨by rw [HS.out]; rfl, (by repeat (first | exact Ext.refl _ | assumption | refine Ext.setCell ?_ (by first | (simp; done) | (simp; omega) | omega) _ | refine Ext.alloc ?_ _ | refine Ext.drew ?_ | refine Ext.trans ?_ (by assumption)))⟩
  · go_enter Try.func50, Try.ntmps50
    go_wp2_with (go_at_call 64; refine (compare_c _ _ _ _ _ _ l' l _ (HB.out.keep (by repeat (first | exact IK.refl _ | refine IK.alloc ?_ _ | refine IK.drew ?_ | refine IK.setCell ?_ (by simp [hc, go_sem]) _))) (HA.out.keep (by repeat (first | exact IK.refl _ | refine IK.alloc ?_ _ | refine IK.drew ?_ | refine IK.setCell ?_ (by simp [hc, go_sem]) _))) h2' h2).mono ?_; rintro e w' ⟨rfl, hd⟩)
    go_ret
    exact ⟨by rw [HS.out]; rfl, Ext.trans (by repeat (first | exact Ext.refl _ | assumption | refine Ext.setCell ?_ (by first | (simp; done) | (simp; omega) | omega) _ | refine Ext.alloc ?_ _ | refine Ext.drew ?_ | refine Ext.trans ?_ (by assumption))) hd.ext⟩

theorem isI_zero (w : World) : IsI w ⟨false, none, 0, 0⟩ 0 := ⟨[], Wds.nil _, .inl rfl, by simp, by simp, rfl⟩

set_option maxHeartbeats 400000 in
theorem Sign_c (p : IV) (x : Int) (w : World) (hp : IsI w p x) :
    Calls Try.prog 42 #[p.v] w fun e w' => e = .returned (.int .i64 (cmpI x 0)) ∧ Ext w w' := by
  go_enter Try.func42, Try.ntmps42
  go_wp2_with (go_at_call 50; refine (Compare_c p ⟨false, none, 0, 0⟩ x 0 _ (hp.keep (by repeat (first | exact IK.refl _ | refine IK.alloc ?_ _ | refine IK.drew ?_ | refine IK.setCell ?_ (by simp [hc, go_sem]) _))) (isI_zero _)).mono ?_; rintro e w' ⟨rfl, hd⟩)
  go_ret
  exact ⟨rfl, Ext.trans (by repeat (first | exact Ext.refl _ | assumption | refine Ext.setCell ?_ (by first | (simp; done) | (simp; omega) | omega) _ | refine Ext.alloc ?_ _ | refine Ext.drew ?_ | refine Ext.trans ?_ (by assumption))) hd⟩
end Go.Proofs.Ytlnmgcmpbbklhaa
