/- shield: number, the test of a number, the first that is not 0. -/
import Derived.Test.YtkoidookanmknaaV11
namespace Go.Proofs.Ytkoidookanmknaa
set_option linter.unusedSimpArgs false
set_option linter.unusedVariables false
open Go.RowKit

theorem low_one (x : Int) : x / gcdI x 1 = x ∧ 1 / gcdI x 1 = (1 : Int) := by
  have : gcdI x 1 = 1 := by unfold gcdI; simp
  rw [this]; simp
set_option maxRecDepth 100000 in
set_option maxHeartbeats 1000000 in
theorem number_c (x : Int) (w : World) (h1 : -9223372036854775808 ≤ x) (h2 : x ≤ 9223372036854775807) :
    Calls Try.prog 45 #[.int .i64 x] w fun e w' => ∃ f : FV, e = .returned f.v ∧ IsQ w' f (x : Rat) ∧ Ext w w' := by
  go_enter Try.func45, Try.ntmps45
  go_wp2_with fail
  refine (Of_c x 1 _ h1 h2 (by omega) (by omega)).mono ?_
  rw [(low_one x).1, (low_one x).2]
  rintro e w2 ⟨f, rfl, hf, hx⟩
  have HF := Lib.hid (And.intro hf (show Ext w w2 from Ext.trans (by repeat (first | exact Ext.refl _ | assumption | refine Ext.setCell ?_ (by first | (simp; done) | (simp; omega) | omega) _ | refine Ext.alloc ?_ _ | refine Ext.drew ?_ | refine Ext.trans ?_ (by assumption))) hx))
  have O2 : Own (w2.alloc (.cells f.cs 58)) w.heap.size 4 := Own.ext ((Ext.refl _).alloc _) (Own.ext hx ((Blk.at #[.bool false, .slice none 0 0, .bool false, .slice none 0 0] 58 rfl).own _ (by simp) (noIntF _ _ _ _ _ _ _ _)) (by omega)) (by omega)
  clear hf hx
  have o0 := O2.1 0 (by omega)
  have o1 := O2.1 1 (by omega)
  have o2 := O2.1 2 (by omega)
  have o3 := O2.1 3 (by omega)
  have hf0 := O2.2.1
  obtain ⟨p0, p1, p2, p3⟩ := putF_cells O2 f
  go_wp2_with fail
  refine bodyPost_ret (v := f.v) (by simp [results, Try.results45, go_sem, p0, p1, p2, p3]) rfl ?_
  exact ⟨f, rfl, ⟨x, 1, (HF.out.1.keep ((Ext.refl _).alloc _).ik).keep (IK.putF O2 f), by simp⟩, ext_putF (HF.out.2.alloc _) (by omega) f⟩
/-- A function that tells whether a number is not 0. -/
def NzF (K : FuncId) : Prop := ∀ (f : FV) (q : Rat) (w : World), IsQ w f q → Calls Try.prog K #[f.v] w fun e w' => (∃ b : Bool, e = .returned (.bool b) ∧ (b = true ↔ q ≠ 0)) ∧ Ext w w'
set_option maxHeartbeats 1000000 in
theorem nz_add : NzF 80 := by
  intro f q w h; have H := Lib.hid h; clear h; go_enter Try.func80, Try.ntmps80; go_wp2_with fail; refine (signQ_c f q _ (H.out.keep (by repeat (first | exact IK.refl _ | refine IK.alloc ?_ _ | refine IK.drew ?_ | refine IK.setCell ?_ (by simp [hc, go_sem]) _)))).mono ?_; rintro e w2 ⟨⟨s, rfl, hs⟩, hx⟩; have HS := Lib.hid hs; have HX := Lib.hid (show Ext w w2 from Ext.trans (by repeat (first | exact Ext.refl _ | assumption | refine Ext.setCell ?_ (by first | (simp; done) | (simp; omega) | omega) _ | refine Ext.alloc ?_ _ | refine Ext.drew ?_ | refine Ext.trans ?_ (by assumption))) hx); clear hs hx; go_wp2_with fail; go_ret; exact ⟨⟨_, rfl, by rw [bne_iff_ne]; exact not_congr HS.out⟩, HX.out⟩
set_option maxHeartbeats 1000000 in
theorem nz_det : NzF 65 := by
  intro f q w h; have H := Lib.hid h; clear h; go_enter Try.func65, Try.ntmps65; go_wp2_with fail; refine (signQ_c f q _ (H.out.keep (by repeat (first | exact IK.refl _ | refine IK.alloc ?_ _ | refine IK.drew ?_ | refine IK.setCell ?_ (by simp [hc, go_sem]) _)))).mono ?_; rintro e w2 ⟨⟨s, rfl, hs⟩, hx⟩; have HS := Lib.hid hs; have HX := Lib.hid (show Ext w w2 from Ext.trans (by repeat (first | exact Ext.refl _ | assumption | refine Ext.setCell ?_ (by first | (simp; done) | (simp; omega) | omega) _ | refine Ext.alloc ?_ _ | refine Ext.drew ?_ | refine Ext.trans ?_ (by assumption))) hx); clear hs hx; go_wp2_with fail; go_ret; exact ⟨⟨_, rfl, by rw [bne_iff_ne]; exact not_congr HS.out⟩, HX.out⟩
set_option maxHeartbeats 1000000 in
theorem nz_Show : NzF 61 := by
  intro f q w h; have H := Lib.hid h; clear h; go_enter Try.func61, Try.ntmps61; go_wp2_with fail; refine (signQ_c f q _ (H.out.keep (by repeat (first | exact IK.refl _ | refine IK.alloc ?_ _ | refine IK.drew ?_ | refine IK.setCell ?_ (by simp [hc, go_sem]) _)))).mono ?_; rintro e w2 ⟨⟨s, rfl, hs⟩, hx⟩; have HS := Lib.hid hs; have HX := Lib.hid (show Ext w w2 from Ext.trans (by repeat (first | exact Ext.refl _ | assumption | refine Ext.setCell ?_ (by first | (simp; done) | (simp; omega) | omega) _ | refine Ext.alloc ?_ _ | refine Ext.drew ?_ | refine Ext.trans ?_ (by assumption))) hx); clear hs hx; go_wp2_with fail; go_ret; exact ⟨⟨_, rfl, by rw [bne_iff_ne]; exact not_congr HS.out⟩, HX.out⟩
/-- The first place that is not 0, or -1. -/
def leadI (v : Vec) (n : Nat) : Int := match leadOf v 0 n with | none => -1 | some l => (l : Int)
theorem leadI_bd (v : Vec) (n : Nat) : -1 ≤ leadI v n ∧ leadI v n < n := by
  unfold leadI
  cases h : leadOf v 0 n with
  | none => simp only; omega
  | some l =>
    obtain ⟨_, b, _⟩ := leadOf_some _ _ _ _ h
    simp only; omega
theorem leadOf_step (v : Vec) : ∀ (k n i : Nat), (∀ c, i ≤ c → c < i + k → v c = 0) → leadOf v i (k + n) = leadOf v (i + k) n
  | 0, n, i, _ => by rw [Nat.zero_add]; rfl
  | k + 1, n, i, h => by
    rw [show k + 1 + n = (k + n) + 1 by omega]
    unfold leadOf
    rw [if_pos (h i (by omega) (by omega)), leadOf_step v k n (i + 1) (fun c h1 h2 => h c (by omega) (by omega)), show i + 1 + k = i + (k + 1) by omega]
    cases n <;> rfl
theorem leadI_none {v : Vec} {n : Nat} (h : ∀ c, c < n → v c = 0) : leadI v n = -1 := by
  unfold leadI
  rw [(leadOf_none v n 0).2 (fun c _ hc => h c (by omega))]
theorem leadI_some {v : Vec} {n i : Nat} (hi : i < n) (h : ∀ c, c < i → v c = 0) (h0 : v i ≠ 0) : leadI v n = (i : Int) := by
  unfold leadI
  have e := leadOf_step v i (n - i) 0 (fun c _ hc => h c (by omega))
  rw [show i + (n - i) = n by omega, Nat.zero_add, show n - i = (n - i - 1) + 1 by omega] at e
  rw [e]
  unfold leadOf
  rw [if_neg h0]
set_option maxRecDepth 100000 in
set_option maxHeartbeats 2000000 in
theorem index_add (b n : Nat) (v : Vec) (w : World) (h : VecAt w b n v) (hn : n ≤ 1000) :
    Calls Try.prog 60 #[.slice (some ⟨b, 0, none⟩) n n, .func (.func 80) #[] #[]] w fun e w' => e = .returned (.int .i64 (leadI v n)) ∧ Ext w w' := by
  obtain ⟨fs, h1, h2, h3⟩ := h
  have H := Lib.hid (And.intro h1 (And.intro h2 h3))
  have HK := Lib.hid nz_add
  clear h1 h2 h3
  go_enter Try.func60, Try.ntmps60
  go_wp2_with fail
  go_loopw [8] (fun iv ws => ∃ i : Nat, i ≤ n ∧ iv = .int .i64 (i : Int) ∧ (∀ c, c < i → v c = 0) ∧ Ext w ws) (fun iv _ => n - (intOf iv).toNat)
  case atStart => exact ⟨0, by omega, rfl, fun c hc => absurd hc (by omega), Ext.refl w⟩
  case round =>
    obtain ⟨i, hi, rfl, hz, hE⟩ := hrel
    have HZ := Lib.hid hz
    clear hz
    by_cases hlt : i < n
    · obtain ⟨f, hf⟩ : ∃ f, fs[i]? = some f := ⟨_, List.getElem?_eq_getElem (by rw [H.out.2.1]; exact hlt)⟩
      obtain ⟨c0, c1, c2, c3⟩ := (H.out.1.ext hE).quad hf
      have HF := Lib.hid (H.out.2.2 i f hf)
      have HE := Lib.hid hE
      clear hf hE
      have i0 : (0 : Int) ≤ (i : Int) := by omega
      have i1 : (i : Int) < (n : Int) := by omega
      by_cases hv : v i = 0
      · have HV := Lib.hid hv
        clear hv
        go_wp2_with fail
        refine (HK.out f (v i) _ (HF.out.keep HE.out.ik)).mono ?_
        rintro e w2 ⟨⟨q, rfl, hq⟩, hx⟩
        have hqf : q = false := by
          cases q
          · rfl
          · exact absurd HV.out (hq.1 rfl)
        subst hqf
        have HX := Lib.hid (HE.out.trans hx)
        clear c0 c1 c2 c3 hq hx
        go_wp2_with fail
        go_roundw
        case rel => exact ⟨i + 1, by omega, by go_num, fun c hc => by
          by_cases hci : c = i
          · rw [hci]; exact HV.out
          · exact HZ.out c (by omega), HX.out⟩
        case measure => simp [intOf]; omega
      · have HV := Lib.hid hv
        clear hv
        go_wp2_with fail
        refine (HK.out f (v i) _ (HF.out.keep HE.out.ik)).mono ?_
        rintro e w2 ⟨⟨q, rfl, hq⟩, hx⟩
        have hqf : q = true := hq.2 HV.out
        subst hqf
        have HX := Lib.hid (HE.out.trans hx)
        clear c0 c1 c2 c3 hq hx
        have HL := Lib.hid (leadI_some hlt HZ.out HV.out)
        go_wp2_with fail
        go_ret
        exact ⟨by rw [HL.out]; rfl, HX.out⟩
    · obtain rfl : i = n := by omega
      have HL := Lib.hid (leadI_none HZ.out)
      go_wp2_with fail
      go_ret
      exact ⟨by rw [HL.out]; rfl, hE⟩
set_option maxRecDepth 100000 in
set_option maxHeartbeats 2000000 in
theorem index_det (b n : Nat) (v : Vec) (w : World) (h : VecAt w b n v) (hn : n ≤ 1000) :
    Calls Try.prog 60 #[.slice (some ⟨b, 0, none⟩) n n, .func (.func 65) #[] #[]] w fun e w' => e = .returned (.int .i64 (leadI v n)) ∧ Ext w w' := by
  obtain ⟨fs, h1, h2, h3⟩ := h
  have H := Lib.hid (And.intro h1 (And.intro h2 h3))
  have HK := Lib.hid nz_det
  clear h1 h2 h3
  go_enter Try.func60, Try.ntmps60
  go_wp2_with fail
  go_loopw [8] (fun iv ws => ∃ i : Nat, i ≤ n ∧ iv = .int .i64 (i : Int) ∧ (∀ c, c < i → v c = 0) ∧ Ext w ws) (fun iv _ => n - (intOf iv).toNat)
  case atStart => exact ⟨0, by omega, rfl, fun c hc => absurd hc (by omega), Ext.refl w⟩
  case round =>
    obtain ⟨i, hi, rfl, hz, hE⟩ := hrel
    have HZ := Lib.hid hz
    clear hz
    by_cases hlt : i < n
    · obtain ⟨f, hf⟩ : ∃ f, fs[i]? = some f := ⟨_, List.getElem?_eq_getElem (by rw [H.out.2.1]; exact hlt)⟩
      obtain ⟨c0, c1, c2, c3⟩ := (H.out.1.ext hE).quad hf
      have HF := Lib.hid (H.out.2.2 i f hf)
      have HE := Lib.hid hE
      clear hf hE
      have i0 : (0 : Int) ≤ (i : Int) := by omega
      have i1 : (i : Int) < (n : Int) := by omega
      by_cases hv : v i = 0
      · have HV := Lib.hid hv
        clear hv
        go_wp2_with fail
        refine (HK.out f (v i) _ (HF.out.keep HE.out.ik)).mono ?_
        rintro e w2 ⟨⟨q, rfl, hq⟩, hx⟩
        have hqf : q = false := by
          cases q
          · rfl
          · exact absurd HV.out (hq.1 rfl)
        subst hqf
        have HX := Lib.hid (HE.out.trans hx)
        clear c0 c1 c2 c3 hq hx
        go_wp2_with fail
        go_roundw
        case rel => exact ⟨i + 1, by omega, by go_num, fun c hc => by
          by_cases hci : c = i
          · rw [hci]; exact HV.out
          · exact HZ.out c (by omega), HX.out⟩
        case measure => simp [intOf]; omega
      · have HV := Lib.hid hv
        clear hv
        go_wp2_with fail
        refine (HK.out f (v i) _ (HF.out.keep HE.out.ik)).mono ?_
        rintro e w2 ⟨⟨q, rfl, hq⟩, hx⟩
        have hqf : q = true := hq.2 HV.out
        subst hqf
        have HX := Lib.hid (HE.out.trans hx)
        clear c0 c1 c2 c3 hq hx
        have HL := Lib.hid (leadI_some hlt HZ.out HV.out)
        go_wp2_with fail
        go_ret
        exact ⟨by rw [HL.out]; rfl, HX.out⟩
    · obtain rfl : i = n := by omega
      have HL := Lib.hid (leadI_none HZ.out)
      go_wp2_with fail
      go_ret
      exact ⟨by rw [HL.out]; rfl, hE⟩
set_option maxRecDepth 100000 in
set_option maxHeartbeats 2000000 in
theorem contains_det (b n : Nat) (v : Vec) (w : World) (h : VecAt w b n v) (hn : n ≤ 1000) :
    Calls Try.prog 64 #[.slice (some ⟨b, 0, none⟩) n n, .func (.func 65) #[] #[]] w fun e w' => e = .returned (.bool (decide (0 ≤ leadI v n))) ∧ Ext w w' := by
  have H := Lib.hid h
  clear h
  go_enter Try.func64, Try.ntmps64
  go_wp2_with fail
  refine (index_det b n v _ H.out hn).mono ?_
  rintro e w2 ⟨rfl, hx⟩
  go_wp2_with fail
  go_ret
  exact ⟨rfl, hx⟩
set_option maxRecDepth 100000 in
set_option maxHeartbeats 2000000 in
theorem index_Show (b n : Nat) (v : Vec) (w : World) (h : VecAt w b n v) (hn : n ≤ 1000) :
    Calls Try.prog 60 #[.slice (some ⟨b, 0, none⟩) n n, .func (.func 61) #[] #[]] w fun e w' => e = .returned (.int .i64 (leadI v n)) ∧ Ext w w' := by
  obtain ⟨fs, h1, h2, h3⟩ := h
  have H := Lib.hid (And.intro h1 (And.intro h2 h3))
  have HK := Lib.hid nz_Show
  clear h1 h2 h3
  go_enter Try.func60, Try.ntmps60
  go_wp2_with fail
  go_loopw [8] (fun iv ws => ∃ i : Nat, i ≤ n ∧ iv = .int .i64 (i : Int) ∧ (∀ c, c < i → v c = 0) ∧ Ext w ws) (fun iv _ => n - (intOf iv).toNat)
  case atStart => exact ⟨0, by omega, rfl, fun c hc => absurd hc (by omega), Ext.refl w⟩
  case round =>
    obtain ⟨i, hi, rfl, hz, hE⟩ := hrel
    have HZ := Lib.hid hz
    clear hz
    by_cases hlt : i < n
    · obtain ⟨f, hf⟩ : ∃ f, fs[i]? = some f := ⟨_, List.getElem?_eq_getElem (by rw [H.out.2.1]; exact hlt)⟩
      obtain ⟨c0, c1, c2, c3⟩ := (H.out.1.ext hE).quad hf
      have HF := Lib.hid (H.out.2.2 i f hf)
      have HE := Lib.hid hE
      clear hf hE
      have i0 : (0 : Int) ≤ (i : Int) := by omega
      have i1 : (i : Int) < (n : Int) := by omega
      by_cases hv : v i = 0
      · have HV := Lib.hid hv
        clear hv
        go_wp2_with fail
        refine (HK.out f (v i) _ (HF.out.keep HE.out.ik)).mono ?_
        rintro e w2 ⟨⟨q, rfl, hq⟩, hx⟩
        have hqf : q = false := by
          cases q
          · rfl
          · exact absurd HV.out (hq.1 rfl)
        subst hqf
        have HX := Lib.hid (HE.out.trans hx)
        clear c0 c1 c2 c3 hq hx
        go_wp2_with fail
        go_roundw
        case rel => exact ⟨i + 1, by omega, by go_num, fun c hc => by
          by_cases hci : c = i
          · rw [hci]; exact HV.out
          · exact HZ.out c (by omega), HX.out⟩
        case measure => simp [intOf]; omega
      · have HV := Lib.hid hv
        clear hv
        go_wp2_with fail
        refine (HK.out f (v i) _ (HF.out.keep HE.out.ik)).mono ?_
        rintro e w2 ⟨⟨q, rfl, hq⟩, hx⟩
        have hqf : q = true := hq.2 HV.out
        subst hqf
        have HX := Lib.hid (HE.out.trans hx)
        clear c0 c1 c2 c3 hq hx
        have HL := Lib.hid (leadI_some hlt HZ.out HV.out)
        go_wp2_with fail
        go_ret
        exact ⟨by rw [HL.out]; rfl, HX.out⟩
    · obtain rfl : i = n := by omega
      have HL := Lib.hid (leadI_none HZ.out)
      go_wp2_with fail
      go_ret
      exact ⟨by rw [HL.out]; rfl, hE⟩
end Go.Proofs.Ytkoidookanmknaa
