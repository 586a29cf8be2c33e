/- meresmanlaw27: ShareScale: the walk. -/
import Derived.Test.YtlnmgcmpbbklhaaL27m
namespace Go.Proofs.Ytlnmgcmpbbklhaa
open Go.RowKit

theorem VRow.grown {w w' : World} {b : Nat} {v : Value} {l : List Int} {row : Option Nat} (h : VRow w b v l) (k : w.grownBy w' row) (hne : ∀ g, v.ownBlock = some g → row ≠ some g) : VRow w' b v l := by
  obtain ⟨h0, ⟨hv, hn⟩ | ⟨g', cap, cur, hv, hg, hh, r⟩⟩ := h
  · exact ⟨h0, .inl ⟨hv, hn⟩⟩
  · refine ⟨h0, .inr ⟨g', cap, cur, hv, hg, ?_, r⟩⟩
    rw [k.block g' (lt_of_block hh) (fun e => hne g' (by rw [hv]; rfl) e.symm)]; exact hh
def modL (L : List Int) : List Int := L.map (· % 1000)
theorem modL_next (L : List Int) (i : Nat) (hi : i < L.length) : modL (L.take (i + 1)) = modL (L.take i) ++ [L.getD i 0 % 1000] := by
  have e1 : L.getD i 0 = L[i] := by simp [List.getD_eq_getElem?_getD, hi]
  unfold modL
  rw [List.take_succ_eq_append_getElem hi, List.map_append, e1]; rfl
theorem scaledMod_next (L : List Int) (k : Int) (i : Nat) (hi : i < L.length) : scaled (modL (L.take (i + 1))) k = scaled (modL (L.take i)) k ++ [L.getD i 0 % 1000 * k] := by
  rw [modL_next L i hi]; unfold scaled; rw [List.map_append]; rfl
theorem modL_bd (L : List Int) : ∀ x, x ∈ modL L → 0 ≤ x ∧ x ≤ 999 := fun x hx => by
  unfold modL at hx
  rw [List.mem_map] at hx
  obtain ⟨y, _, rfl⟩ := hx
  omega
theorem scaled_bd {l : List Int} {k : Int} (h : ∀ x, x ∈ l → 0 ≤ x ∧ x ≤ 999) (hk : 1 ≤ k) (hk2 : k ≤ 1000) : ∀ x, x ∈ scaled l k → 0 ≤ x ∧ x ≤ 1048576 := fun x hx => by
  unfold scaled at hx
  rw [List.mem_map] at hx
  obtain ⟨y, hy, rfl⟩ := hx
  have h1 := h y hy
  have h2 := Int.mul_le_mul h1.2 hk2 (by omega) (by omega)
  have h3 := Int.mul_nonneg h1.1 (show 0 ≤ k by omega)
  simp only [Int.reduceMul] at h2
  omega
theorem modL_sum (P : List Int) : 0 < sumI (modL (P ++ [5])) := by
  have := mem_le_sum (l := modL (P ++ [5])) (x := 5) (fun y hy => (modL_bd _ y hy).1) (by simp [modL])
  omega
/-- What the two lists hold behind i rounds. -/
def TwoRows (W ws : World) (wv vv : Value) (L : List Int) (k : Int) (i : Nat) : Prop :=
  VRow ws W.heap.size wv (modL (L.take i)) ∧ VRow ws W.heap.size vv (scaled (modL (L.take i)) k) ∧ (∀ g, wv.ownBlock = some g → vv.ownBlock ≠ some g) ∧ Ext W ws
theorem largestF_bd {n : Int} {l : List Int} (h0 : 0 ≤ n) (hw : ∀ x, x ∈ l → 0 ≤ x) (hs : 0 < sumI l) (i : Nat) : 0 ≤ (largestF n l).getD i 0 ∧ (largestF n l).getD i 0 ≤ n := by
  have h1 := largestF_nonneg (w := l) h0 hw
  refine ⟨h1 i, ?_⟩
  by_cases hi : i < (largestF n l).length
  · have h2 := mem_le_sum (l := largestF n l) (fun x hx => by obtain ⟨k, _, rfl⟩ := mem_getD hx; exact h1 k) (getD_mem hi)
    rw [largestF_sum hw (fun _ => hs)] at h2; exact h2
  · rw [List.getD_eq_getElem?_getD, List.getElem?_eq_none (by omega)]; simpa using h0

set_option maxRecDepth 100000 in
set_option maxHeartbeats 4000000 in
theorem walkScale (a0 : Option Addr) (n c : Nat) (zs : List Int) (a1 a2 : Int) (w : World) (h0 : Ints w a0 n zs) (h1 : Int64 a1) (h2 : Int64 a2) :
    Calls Try.prog 7 #[.slice a0 n c, .int .i64 a1, .int .i64 a2] w fun e w' => e = .returned (.bool true) ∧ Ext w w' := by
  obtain ⟨i0, hi0, hz0, hz1, hz2⟩ := info_parts intInfo
  have H0 := Lib.hid h0; have H1 := Lib.hid h1; have H2 := Lib.hid h2; clear h0 h1 h2
  have hk := aroundF_bd a2 1000 (by omega)
  obtain ⟨kz, hkz⟩ : ∃ x, aroundF a2 1000 = x := ⟨_, rfl⟩
  rw [hkz] at hk
  obtain ⟨hk1, hk2⟩ := hk
  have HKZ := Lib.hid hkz; clear hkz
  go_enter Try.func7, Try.ntmps7
  go_wp2_with fail
  refine (around_c a2 1000 _ (by omega) (by omega) H2.out).mono ?_
  rw [HKZ.out]
  rintro e w0 ⟨rfl, rfl⟩
  go_wp2_with fail
  refine (weights_c a0 n c zs 9 _ H0.out (by omega)).mono ?_
  rintro e w1 ⟨v, rfl, hV, hE⟩
  have hwl := weightsF_length zs 9
  have hbd := lawW_bd (zs := zs) (k := 9) (x := 5) (by omega) (by omega)
  have hln := lawW_length zs 9 3
  have hsm := lawW_sum (zs := zs) (k := 9) (x := 5) (by omega) (by omega)
  have hWe : lawW zs 9 5 = weightsF zs 9 ++ [5] := rfl
  obtain ⟨tl, htl⟩ : ∃ tl, (weightsF zs 9).length = tl := ⟨_, rfl⟩
  rw [htl] at hwl
  have htl2 : tl ≤ 9 := by omega
  have hsz := hE.size
  generalize weightsF zs 9 = P at *
  generalize lawW zs 9 5 = L at *
  have HV := Lib.hid (show VRow w1 w.heap.size v P from hV)
  have hOW : w1.ownsRow w.heap.size 3 1 v tl (ivals P) := by rw [← htl]; exact hV
  have HOW := Lib.hid hOW; have HTL := Lib.hid htl; have HE := Lib.hid hE; have HBD := Lib.hid hbd; have HWE := Lib.hid hWe
  have hLl : L.length = tl + 1 := by rw [hWe, List.length_append, htl]; rfl
  have HLL := Lib.hid hLl
  have HSM := Lib.hid hsm
  clear hV hE hwl hbd hOW htl hWe hLl hsm hln
  go_wp2_with (at_builtin; refine wpList_append_lies _ rfl _ _ _ rfl w.heap.size 3 i0 _ 1 8 Try.underlying22 hi0 hz0 hz1 hz2 rfl (by omega) _ tl _ rfl (owns_ext ((Ext.refl w1).alloc _) HOW.out) ⟨w1.heap.size, 0, none⟩ 1 1 (ivals [5]) rfl rfl (ints_news (ints_one w1 5 ⟨by omega, by omega⟩) (by omega)) (ivals_one _) (by omega) (by rw [maxLen]; omega) (by omega) (by simp; omega) _ rfl ?_)
  intro g cap w2 hown hgrow hat hlt1
  rw [← HTL.out] at hown
  have hA := VRow.app (m := 1) (k := [5]) rfl hown
  rw [← HWE.out, HTL.out, ← HLL.out] at hA
  have hE2 : Ext w w2 := ext_grown (HE.out.alloc _) hgrow (fun g hg => (owns_lt HOW.out hg).1)
  have hI := owned_ints (w := w) (Nat.zero_le _) (VRow.base hA (Nat.zero_le _)) (by rw [HLL.out]; omega) HBD.out
  rw [HLL.out] at hI
  have HI := Lib.hid hI; have HE2 := Lib.hid hE2
  clear hown hgrow hat hA hE2 hI
  obtain ⟨k, hkk⟩ : ∃ k, 1 + kz = k := ⟨_, rfl⟩
  have hkb : 1 ≤ k ∧ k ≤ 1000 := by omega
  have HKB := Lib.hid hkb
  have hms : 0 < sumI (modL L) := by rw [HWE.out]; exact modL_sum _
  have HMS := Lib.hid hms
  clear hms
  go_wp2_with fail
  rw [hkk]
  clear hkk HSM HOW HV HE hk1 hk2 HKZ hsz
  go_loopw [7, 8, 11] (fun wv vv v ws => ∃ i : Nat, i ≤ tl + 1 ∧ v = .int .i64 (i : Int) ∧ TwoRows w2 ws wv vv L k i) (fun _ _ v _ => tl + 1 - (intOf v).toNat)
  case atStart => exact ⟨0, by omega, rfl, VRow.nil _ _, VRow.nil _ _, by simp [Value.ownBlock], Ext.refl _⟩
  case round =>
    obtain ⟨i, hi, rfl, hA, hB, hne, hE⟩ := hrel
    have HA := Lib.hid hA; have HB := Lib.hid hB; have HNE := Lib.hid hne; have HE := Lib.hid hE; clear hA hB hne hE
    by_cases hlt : i < tl + 1
    · obtain ⟨b, off, he, hb, hc⟩ := Ints.at (HI.out.keep HE.out.ik) i hlt
      injection he with he; injection he with e1 e2
      subst e1; subst e2
      rw [Nat.zero_add] at hc
      have hn1 := modL_next L i (by rw [HLL.out]; exact hlt)
      have hn2 := scaledMod_next L k i (by rw [HLL.out]; exact hlt)
      have hxb := HBD.out _ (getD_mem (l := L) (i := i) (by rw [HLL.out]; exact hlt))
      generalize hxe : L.getD i 0 = x at *
      have HXE := Lib.hid hxe; clear hxe
      obtain ⟨y, hy⟩ : ∃ y, x % 1000 = y := ⟨_, rfl⟩
      have hyb : 0 ≤ y ∧ y ≤ 999 := by omega
      obtain ⟨z, hz⟩ : ∃ z, y * k = z := ⟨_, rfl⟩
      have hzb : 0 ≤ z ∧ z ≤ 999000 := by
        have h2 := Int.mul_le_mul hyb.2 hkb.2 (by omega) (by omega)
        have h3 := Int.mul_nonneg hyb.1 (show 0 ≤ k by omega)
        simp only [Int.reduceMul] at h2
        omega
      have h64y : Int64 y := ⟨by omega, by omega⟩
      have h64z : Int64 z := ⟨by omega, by omega⟩
      rw [hy] at hn1
      rw [hy, hz] at hn2
      have e1 : IntKind.i64.wrap (y * k) = z := by rw [hz]; exact IntWalk.i64_in _ (by omega)
      have e2 : wrap64 (y * k) = z := by rw [hz]; unfold wrap64; omega
      clear hz
      have hl1 : (modL (L.take i)).length = i := by unfold modL; rw [List.length_map, List.length_take, HLL.out]; omega
      have hl2 : (scaled (modL (L.take i)) k).length = i := by unfold scaled; rw [List.length_map]; exact hl1
      have hA1 : wr.ownsRow w2.heap.size 3 1 u7 i (ivals (modL (L.take i))) := by have := HA.out; unfold VRow at this; rw [hl1] at this; exact this
      have hB1 : wr.ownsRow w2.heap.size 3 1 u8 i (ivals (scaled (modL (L.take i)) k)) := by have := HB.out; unfold VRow at this; rw [hl2] at this; exact this
      have HA1 := Lib.hid hA1; have HB1 := Lib.hid hB1
      have HN1 := Lib.hid hn1; have HN2 := Lib.hid hn2; have HL1 := Lib.hid hl1; have HL2 := Lib.hid hl2
      have H64 := Lib.hid (And.intro h64y h64z)
      have hsz := HE.out.size
      clear hA1 hB1 hn1 hn2 hl1 hl2 h64y h64z
      generalize modL (L.take i) = PW at *
      generalize scaled PW k = PV at *
      have t0 : (i : Int) < (tl : Int) + 1 := by omega
      have t1 : (0 : Int) ≤ (i : Int) := by omega
      go_wp2_with (at_builtin; (refine wpList_append_lies _ rfl _ _ _ rfl w2.heap.size 3 i0 _ 1 8 Try.underlying22 hi0 hz0 hz1 hz2 rfl (by omega) _ i _ rfl (owns_ext ((Ext.refl wr).alloc _) HA1.out) ⟨wr.heap.size, 0, none⟩ 1 1 (ivals [y]) rfl rfl (ints_news (ints_one wr y H64.out.1) (by omega)) (ivals_one _) (by omega) (by rw [maxLen]; omega) (by omega) (by simp; omega) _ rfl ?_))
      intro g5 cap5 w5 hown hgrow hat hlt5
      have hA5 : VRow w5 w2.heap.size (.slice (some ⟨g5, 0, none⟩) (i + 1) cap5) (PW ++ [y]) := by
        rw [← HL1.out] at hown ⊢; exact VRow.app (m := 1) (k := [y]) rfl hown
      have hB5 : VRow w5 w2.heap.size u8 PV := (VRow.ext ((Ext.refl wr).alloc _) HB.out).grown hgrow (fun g hg hr => HNE.out g hr hg)
      have hne5 : (u8 : Value).ownBlock ≠ some g5 := fun e => by
        rcases hat with h | h
        · exact HNE.out g5 h e
        · have := (owns_lt HB.out e).2; omega
      have hE5 : Ext w2 w5 := ext_grown (HE.out.alloc _) hgrow (fun g hg => (owns_lt HA.out hg).1)
      obtain ⟨b5, o5, he5, hb5, hc5⟩ := Ints.at (HI.out.keep hE5.ik) i hlt
      injection he5 with he5; injection he5 with e1 e2
      subst e1; subst e2
      rw [Nat.zero_add, HXE.out] at hc5
      have hB6 : w5.ownsRow w2.heap.size 3 1 u8 i (ivals PV) := by have := hB5; unfold VRow at this; rw [HL2.out] at this; exact this
      have HA5 := Lib.hid hA5; have HB5 := Lib.hid hB5; have HB6 := Lib.hid hB6; have HNE5 := Lib.hid hne5; have HE5 := Lib.hid hE5
      have hs5 := hE5.size
      clear hown hgrow hat hA5 hB5 hne5 hE5 hB6
      go_wp2_with (at_builtin; (refine wpList_append_lies _ rfl _ _ _ rfl w2.heap.size 3 i0 _ 1 8 Try.underlying22 hi0 hz0 hz1 hz2 rfl (by omega) _ i _ rfl (owns_ext ((Ext.refl w5).alloc _) HB6.out) ⟨w5.heap.size, 0, none⟩ 1 1 (ivals [z]) rfl rfl (ints_news (ints_one w5 z H64.out.2) (by omega)) (ivals_one _) (by omega) (by rw [maxLen]; omega) (by omega) (by simp; omega) _ rfl ?_))
      intro g6 cap6 w6 hown hgrow hat hlt6
      have hB7 : VRow w6 w2.heap.size (.slice (some ⟨g6, 0, none⟩) (i + 1) cap6) (PV ++ [z]) := by
        rw [← HL2.out] at hown ⊢; exact VRow.app (m := 1) (k := [z]) rfl hown
      have hA7 : VRow w6 w2.heap.size (.slice (some ⟨g5, 0, none⟩) (i + 1) cap5) (PW ++ [y]) := (VRow.ext ((Ext.refl w5).alloc _) HA5.out).grown hgrow (fun g hg hr => by
        simp [Value.ownBlock] at hg
        rw [← hg] at hr; exact HNE5.out hr)
      have hne7 : ∀ g, (Value.slice (some ⟨g5, 0, none⟩) (i + 1) cap5).ownBlock = some g → (Value.slice (some ⟨g6, 0, none⟩) (i + 1) cap6).ownBlock ≠ some g := fun g hg e => by
        simp [Value.ownBlock] at hg e
        subst hg
        rcases hat with h | h
        · rw [e] at h; exact HNE5.out h
        · omega
      have hE7 : Ext w2 w6 := ext_grown (HE5.out.alloc _) hgrow (fun g hg => (owns_lt HB6.out hg).1)
      have HR := Lib.hid (show TwoRows w2 w6 _ _ L k (i + 1) from ⟨by rw [HN1.out]; exact hA7, by rw [HN2.out]; exact hB7, hne7, hE7⟩)
      clear hown hgrow hat hB7 hA7 hne7 hE7
      go_wp2_with fail
      go_roundw
      case rel => exact ⟨i + 1, by omega, by go_num, HR.out⟩
      case measure => simp [intOf]; omega
    · obtain rfl : i = tl + 1 := by omega
      rw [List.take_of_length_le (by rw [HLL.out]; exact Nat.le_refl _)] at HA HB
      have hml : (modL L).length = tl + 1 := by unfold modL; rw [List.length_map, HLL.out]
      have hsl : (scaled (modL L) k).length = tl + 1 := by unfold scaled; rw [List.length_map]; exact hml
      have hmb := modL_bd L
      have hsb := scaled_bd (k := k) hmb hkb.1 hkb.2
      have hss : 0 < sumI (scaled (modL L) k) := by rw [sumI_scaled]; exact Int.mul_pos HMS.out (by omega)
      obtain ⟨aw, cw, rfl, hiw⟩ := HA.out.ints (by omega) (fun j hj => by have := hmb _ (getD_mem hj); exact ⟨by omega, by omega⟩)
      obtain ⟨av, cv, rfl, hiv⟩ := HB.out.ints (by omega) (fun j hj => by have := hsb _ (getD_mem hj); exact ⟨by omega, by omega⟩)
      rw [hml] at hiw ⊢
      rw [hsl] at hiv ⊢
      have hlf := fun (m : Int) => largestF_scaled m (modL L) k (by omega) (by have := HMS.out; omega)
      have hhf := fun (m : Nat) => highN_scaled (modL L) k (by omega) m
      have hlz := fun (m : Int) => largestF_zero (n := m) (w := modL L) (fun _ => HMS.out)
      have hhz := fun (m : Nat) => highN_zero (modL L) (fun j => by
        by_cases hj : j < (modL L).length
        · exact (hmb _ (getD_mem hj)).1
        · rw [List.getD_eq_getElem?_getD, List.getElem?_eq_none (by omega)]; simp) (by
          obtain ⟨j, hj, h5⟩ := mem_getD (l := modL L) (x := 5) (by rw [HWE.out]; simp [modL])
          exact ⟨j, hj, by omega⟩) m
      have hlb := fun (m : Int) (hm : 0 ≤ m) => largestF_bd (n := m) (l := modL L) hm (fun x hx => (hmb x hx).1) HMS.out
      have hhb := fun (m : Nat) => high_bd (modL L) (by omega) m
      have HIW := Lib.hid hiw; have HIV := Lib.hid hiv; have HMB := Lib.hid hmb; have HSB := Lib.hid hsb; have HSS := Lib.hid hss; have HML := Lib.hid hml; have HSL := Lib.hid hsl
      have HLF := Lib.hid hlf; have HHF := Lib.hid hhf; have HLZ := Lib.hid hlz; have HHZ := Lib.hid hhz; have HLB := Lib.hid hlb; have HHB := Lib.hid hhb
      clear hiw hiv hmb hsb hss hml hsl hlf hhf hlz hhz hlb hhb HA HB HNE
      have hm := aroundF_bd a1 1000 (by omega)
      obtain ⟨m, hmm⟩ : ∃ m : Nat, aroundF a1 1000 = m := ⟨(aroundF a1 1000).toNat, by omega⟩
      rw [hmm] at hm
      have HM := Lib.hid hmm; clear hmm
      obtain ⟨hm1, hm2⟩ := hm
      generalize modL L = WL at *
      generalize scaled WL k = VL at *
      go_wp2_with fail
      refine (around_c a1 1000 _ (by omega) (by omega) H1.out).mono ?_
      rw [HM.out]
      rintro e w5 ⟨rfl, rfl⟩
      go_wp2_with fail
      refine (Largest_c m aw (tl + 1) cw WL _ HIW.out (.inl (by omega)) (by omega)).mono ?_
      intro e w6 hd
      obtain ⟨hx, ga, rfl, _, hra⟩ := hd.ok (errF_zero (fun x hx => by have := HMB.out x hx; omega) (by rw [HML.out]; omega) (by omega) (by omega) (fun _ => by have := HMS.out; omega) 1 (by omega))
      have K6 := Lib.hid (And.intro (HE.out.trans hx) (And.intro (HIW.out.keep hx.ik) (And.intro (HIV.out.keep hx.ik) hra)))
      clear hd hx hra HIW HIV HE
      go_wp2_with fail
      refine (Largest_c m av (tl + 1) cv VL _ K6.out.2.2.1 (.inl (by omega)) (by omega)).mono ?_
      intro e w7 hd
      obtain ⟨hx, gb, rfl, _, hrb⟩ := hd.ok (errF_zero HSB.out (by rw [HSL.out]; omega) (by omega) (by omega) (fun _ => by have := HSS.out; omega) 1 (by omega))
      rw [HLF.out] at hrb
      have K7 := Lib.hid (And.intro (K6.out.1.trans hx) (And.intro (K6.out.2.1.keep hx.ik) (And.intro (K6.out.2.2.1.keep hx.ik) (And.intro (K6.out.2.2.2.ext hx) hrb))))
      clear hd hx hrb K6
      go_wp2_with fail
      refine (Highest_c m aw (tl + 1) cw WL _ K7.out.2.1 (by omega)).mono ?_
      intro e w8 hd
      obtain ⟨hx, gc, rfl, _, hrc⟩ := hd.ok (highErr_zero (fun x hx => by have := HMB.out x hx; omega) (by rw [HML.out]; omega) (by omega) (by omega) (fun _ => by have := HMS.out; omega))
      rw [Int.toNat_natCast] at hrc
      have K8 := Lib.hid (And.intro (K7.out.1.trans hx) (And.intro (K7.out.2.1.keep hx.ik) (And.intro (K7.out.2.2.1.keep hx.ik) (And.intro (K7.out.2.2.2.1.ext hx) (And.intro (K7.out.2.2.2.2.ext hx) hrc)))))
      clear hd hx hrc K7
      go_wp2_with fail
      refine (Highest_c m av (tl + 1) cv VL _ K8.out.2.2.1 (by omega)).mono ?_
      intro e w9 hd
      obtain ⟨hx, gd, rfl, _, hrd⟩ := hd.ok (highErr_zero HSB.out (by rw [HSL.out]; omega) (by omega) (by omega) (fun _ => by have := HSS.out; omega))
      rw [Int.toNat_natCast, HHF.out] at hrd
      have K9 := Lib.hid (And.intro (K8.out.1.trans hx) (And.intro (K8.out.2.1.keep hx.ik) (And.intro (K8.out.2.2.2.1.ext hx) (And.intro (K8.out.2.2.2.2.1.ext hx) (And.intro (K8.out.2.2.2.2.2.ext hx) hrd)))))
      clear hd hx hrd K8
      have hll := largestF_length (m : Int) WL
      have hhl := highN_length WL m
      rw [HML.out] at hll hhl
      have hli : ∀ j, j < tl + 1 → Int64 ((largestF m WL).getD j 0) := fun j hj => by have := HLB.out m (by omega) j; exact ⟨by omega, by omega⟩
      have hhi : ∀ j, j < tl + 1 → Int64 ((highN WL m).getD j 0) := fun j hj => by have := HHB.out m j; exact ⟨by omega, by omega⟩
      have HI9 := Lib.hid (And.intro (K9.out.2.2.1.ints hll (by omega) hli) (And.intro (K9.out.2.2.2.1.ints hll (by omega) hli) (And.intro (K9.out.2.2.2.2.1.ints hhl (by omega) hhi) (K9.out.2.2.2.2.2.ints hhl (by omega) hhi))))
      have hlz := fun j (hj : j < tl + 1) => HLZ.out m j (by rw [HML.out]; exact hj)
      have hhz := fun j (hj : j < tl + 1) => HHZ.out m j (by rw [HML.out]; exact hj)
      have HLZ2 := Lib.hid hlz; have HHZ2 := Lib.hid hhz; have HLL2 := Lib.hid hll; have HHL2 := Lib.hid hhl
      clear hli hhi hlz hhz hll hhl HLZ HHZ HLB HHB HLF HHF
      generalize largestF m WL = FA at *
      generalize highN WL m = FC at *
      go_wp2_with fail
      refine (same_c _ _ (tl + 1) (tl + 1) (tl + 1) FA _ HI9.out.1 HI9.out.2.1).mono ?_
      rintro e w10 ⟨rfl, hx⟩
      have HX10 := Lib.hid hx; clear hx
      go_wp2_with fail
      refine (same_c _ _ (tl + 1) (tl + 1) (tl + 1) FC _ (HI9.out.2.2.1.keep HX10.out.ik) (HI9.out.2.2.2.keep HX10.out.ik)).mono ?_
      rintro e w11 ⟨rfl, hx⟩
      have hX := HX10.out.trans hx
      have K11 := Lib.hid (And.intro (K9.out.1.trans hX) (And.intro (K9.out.2.1.keep hX.ik) (And.intro (K9.out.2.2.1.ext hX) (K9.out.2.2.2.2.1.ext hX))))
      clear hX hx HX10 HI9 K9
      go_wp2_with fail
      go_loopw [21] (fun v ws => ∃ i : Nat, i ≤ tl + 1 ∧ v = .int .i64 (i : Int) ∧ Ext w2 ws ∧ Ints ws aw (tl + 1) WL ∧ IRow ws ga FA ∧ IRow ws gc FC) (fun v _ => tl + 1 - (intOf v).toNat)
      case atStart => exact ⟨0, by omega, rfl, K11.out⟩
      case round =>
        obtain ⟨j, hj, rfl, hE, hIn, hra, hrc⟩ := hrel
        by_cases hlt2 : j < tl + 1
        · have t2 : (j : Int) < (tl : Int) + 1 := by omega
          have t3 : (0 : Int) ≤ (j : Int) := by omega
          obtain ⟨b1, o1, rfl, hb1, hc1⟩ := Ints.at hIn j hlt2
          have c1 := IRow.cell hra j (by rw [HLL2.out]; exact hlt2)
          have c2 := IRow.cell hrc j (by rw [HHL2.out]; exact hlt2)
          have l1 := hra.lt
          have l2 := hrc.lt
          have hz1' := HLZ2.out j hlt2
          have hz2' := HHZ2.out j hlt2
          have HR := Lib.hid (And.intro hE (And.intro hIn (And.intro hra hrc))); clear hE hIn hra hrc
          generalize FA.getD j 0 = p at *
          generalize FC.getD j 0 = q at *
          generalize WL.getD j 0 = x at *
          by_cases hx0 : x = 0
          · have hp0 := hz1' hx0
            have hq0 := hz2' hx0
            subst hx0; subst hp0; subst hq0
            clear hz1' hz2'
            go_wp2_with fail
            go_roundw
            case rel => exact ⟨j + 1, by omega, by go_num, HR.out.1, HR.out.2.1, HR.out.2.2.1, HR.out.2.2.2⟩
            case measure => simp [intOf]; omega
          · have hx1 : (x == 0) = false := by rw [beq_eq_false_iff_ne]; exact hx0
            clear hz1' hz2' hx0
            go_wp2_with fail
            go_roundw
            case rel => exact ⟨j + 1, by omega, by go_num, HR.out.1, HR.out.2.1, HR.out.2.2.1, HR.out.2.2.2⟩
            case measure => simp [intOf]; omega
        · obtain rfl : j = tl + 1 := by omega
          go_wp2_with fail
          refine (lives27_c _).mono ?_
          rintro e w12 ⟨rfl, hx⟩
          have HX := Lib.hid (HE2.out.trans (hE.trans hx)); clear hx
          go_wp2_with fail
          go_ret
          exact ⟨rfl, HX.out⟩
end Go.Proofs.Ytlnmgcmpbbklhaa
