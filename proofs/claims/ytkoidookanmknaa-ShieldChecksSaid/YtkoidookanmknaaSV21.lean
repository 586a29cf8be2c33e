/- shield: the best set (the first closure of Hide). -/
import Derived.Test.YtkoidookanmknaaSV20
namespace Go.Proofs.Ytkoidookanmknaa
set_option linter.unusedSimpArgs false
set_option linter.unusedVariables false
open Go.RowKit

set_option maxRecDepth 100000 in
set_option maxHeartbeats 4000000 in
theorem best2_c (n m sb hx hb hvx h : Nat) (ss vs : Sl) (gs : List Sl) (Ls : List (List Int)) (zs : List Int) (hs : List Bool) (w : World) (hc : HCtx w n m sb hx hb ss vs gs Ls zs hs) (hh : w.cell? ⟨hvx, 0, none⟩ = some (.int .i64 (h : Int))) (hhm : h < m) (hm : m ≤ 1000000) :
  Calls Try.prog 39 #[.func (.func 40) #[] #[.pointer (some ⟨sb, 0, none⟩), .pointer (some ⟨hx, 0, none⟩), .pointer (some ⟨hvx, 0, none⟩)], .pointer (some ⟨sb, 0, none⟩), .pointer (some ⟨hx, 0, none⟩)] w fun e w' => e = .returned (.int .i64 (bestF zs hs (stillF Ls hs h) m)) ∧ Ext w w' := by
 have H := Lib.hid hc
 have hvn : vs.n = m := by have := hc.vals.1; have := hc.zm; omega
 have HHV := Lib.hid hh
 clear hh
 obtain ⟨va, vn, vc⟩ := vs
 simp only at hvn
 subst hvn
 have x2 : w.cell? ⟨sb, 2, none⟩ = some (.slice va vn vc) := hc.s2
 clear hc
 go_enter Try.func39, Try.ntmps39
 go_upto_region 3 with (fail)
 clear x2
 go_loopw [5, 11] (fun ov iv ws => ∃ i : Nat, i ≤ vn ∧ iv = .int .i64 (i : Int) ∧ ov = .int .i64 (bestF zs hs (stillF Ls hs h) i) ∧ Ext w ws) (fun _ iv _ => vn - (intOf iv).toNat)
 case atStart => exact ⟨0, by omega, rfl, rfl, Ext.refl w⟩
 case round =>
  obtain ⟨i, hi, rfl, rfl, hE⟩ := hrel
  by_cases hlt : i < vn
  ·have hcr := H.out.ext hE
   obtain ⟨vb, vo, rfl, hvb, hvc⟩ := hcr.vals.at i hlt
   obtain ⟨bb, bo, e1, hbb, hbc⟩ := hcr.bls.at i hlt
   injection e1 with e1
   injection e1 with e1 e2
   subst e1; subst e2
   rw [Nat.zero_add] at hbc
   have y2 : wr.cell? ⟨sb, 2, none⟩ = some (.slice (some ⟨vb, vo, none⟩) vn vc) := hcr.s2
   have y3 := hcr.h0
   have hbd := bestF_bd zs hs (stillF Ls hs h) i
   have hst : bestF zs hs (stillF Ls hs h) (i + 1) = if hs.getD i false = false ∧ (bestF zs hs (stillF Ls hs h) i < 0 ∨ zs.getD i 0 < zs.getD (bestF zs hs (stillF Ls hs h) i).toNat 0) ∧ stillF Ls hs h i = true then (i : Int) else bestF zs hs (stillF Ls hs h) i := rfl
   have hvo : ∀ o : Nat, o < vn → wr.cell? ⟨vb, vo + o, none⟩ = some (.int .i64 (zs.getD o 0)) := fun o ho => by
    obtain ⟨vb', vo', e, _, hc'⟩ := hcr.vals.at o ho
    injection e with e; injection e with e1 e2
    subst e1; subst e2
    exact hc'
   generalize hOut : bestF zs hs (stillF Ls hs h) i = out at *
   have i0 : (0 : Int) ≤ (i : Int) := by omega
   have i1 : (i : Int) < (vn : Int) := by omega
   have HE := Lib.hid hE
   have HST := Lib.hid hst
   have HVO := Lib.hid hvo
   clear hE hst hvo hOut hcr
   cases hb0 : hs.getD i false with
   | true =>
    rw [hb0] at hbc
    have HN := Lib.hid (show bestF zs hs (stillF Ls hs h) (i + 1) = out by rw [HST.out, if_neg (fun h => by rw [hb0] at h; cases h.1)])
    clear hb0
    go_wp2_with fail
    go_roundw
    case rel => exact ⟨i + 1, by omega, by go_num, by rw [HN.out], HE.out⟩
    case measure => simp [intOf]; omega
   | false =>
    rw [hb0] at hbc
    have HB0 := Lib.hid hb0
    clear hb0
    obtain ⟨z, hz⟩ : ∃ z, zs.getD i 0 = z := ⟨_, rfl⟩
    rw [hz] at hvc
    have HZ := Lib.hid hz
    clear hz
    obtain ⟨p, hp⟩ : ∃ p, stillF Ls hs h i = p := ⟨_, rfl⟩
    have HP := Lib.hid hp
    clear hp
    by_cases ho : out < 0
    ·have HO := Lib.hid ho
     cases p
     ·go_wp2_with fail
      refine (hide2_c n vn sb hx hb hvx h i ss ⟨some ⟨vb, vo, none⟩, vn, vc⟩ gs Ls zs hs _ (H.out.ext HE.out) (HE.out.cell HHV.out) hlt hhm hm).mono ?_
      rw [HP.out]
      rintro e w2 ⟨rfl, hx2⟩
      have HX := Lib.hid (HE.out.trans hx2)
      clear hx2 hbc hvc y2 y3
      go_wp2_with fail
      go_roundw
      case rel => exact ⟨i + 1, by omega, by go_num, by rw [HST.out, if_neg (fun h => by rw [HP.out] at h; cases h.2.2)], HX.out⟩
      case measure => simp [intOf]; omega
     ·go_wp2_with fail
      refine (hide2_c n vn sb hx hb hvx h i ss ⟨some ⟨vb, vo, none⟩, vn, vc⟩ gs Ls zs hs _ (H.out.ext HE.out) (HE.out.cell HHV.out) hlt hhm hm).mono ?_
      rw [HP.out]
      rintro e w2 ⟨rfl, hx2⟩
      have HX := Lib.hid (HE.out.trans hx2)
      clear hx2 hbc hvc y2 y3
      go_wp2_with fail
      go_roundw
      case rel => exact ⟨i + 1, by omega, by go_num, by rw [HST.out, if_pos ⟨HB0.out, .inl HO.out, HP.out⟩], HX.out⟩
      case measure => simp [intOf]; omega
    ·obtain ⟨o, rfl⟩ : ∃ o : Nat, out = (o : Int) := ⟨out.toNat, by omega⟩
     have hoc := HVO.out o (by omega)
     obtain ⟨zo, hzo⟩ : ∃ z, zs.getD o 0 = z := ⟨_, rfl⟩
     rw [hzo] at hoc
     have HZO := Lib.hid hzo
     have o0 : (0 : Int) ≤ (o : Int) := by omega
     have o1 : (o : Int) < (vn : Int) := by omega
     have hof : ((o : Int) < 0) = False := by rw [eq_iff_iff]; exact ⟨fun h => by omega, fun h => h.elim⟩
     clear hzo ho
     by_cases hzz : z < zo
     ·have HZZ := Lib.hid hzz
      cases p
      ·go_wp2_with fail
       refine (hide2_c n vn sb hx hb hvx h i ss ⟨some ⟨vb, vo, none⟩, vn, vc⟩ gs Ls zs hs _ (H.out.ext HE.out) (HE.out.cell HHV.out) hlt hhm hm).mono ?_
       rw [HP.out]
       rintro e w2 ⟨rfl, hx2⟩
       have HX := Lib.hid (HE.out.trans hx2)
       clear hx2 hbc hvc y2 y3 hoc
       go_wp2_with fail
       go_roundw
       case rel => exact ⟨i + 1, by omega, by go_num, by rw [HST.out, if_neg (fun h => by rw [HP.out] at h; cases h.2.2)], HX.out⟩
       case measure => simp [intOf]; omega
      ·go_wp2_with fail
       refine (hide2_c n vn sb hx hb hvx h i ss ⟨some ⟨vb, vo, none⟩, vn, vc⟩ gs Ls zs hs _ (H.out.ext HE.out) (HE.out.cell HHV.out) hlt hhm hm).mono ?_
       rw [HP.out]
       rintro e w2 ⟨rfl, hx2⟩
       have HX := Lib.hid (HE.out.trans hx2)
       clear hx2 hbc hvc y2 y3 hoc
       go_wp2_with fail
       go_roundw
       case rel => exact ⟨i + 1, by omega, by go_num, by rw [HST.out, if_pos ⟨HB0.out, .inr (by rw [HZ.out, Int.toNat_natCast, HZO.out]; exact HZZ.out), HP.out⟩], HX.out⟩
       case measure => simp [intOf]; omega
     ·have HZZ := Lib.hid hzz
      have hzf : decide (z < zo) = false := by rw [decide_eq_false_iff_not]; exact hzz
      clear hzz
      go_wp2_with fail
      go_roundw
      case rel => exact ⟨i + 1, by omega, by go_num, by rw [HST.out, if_neg (fun h => by
       rcases h.2.1 with h1 | h1
       ·omega
       ·rw [HZ.out, Int.toNat_natCast, HZO.out] at h1; exact HZZ.out h1)], HE.out⟩
      case measure => simp [intOf]; omega
  ·obtain rfl : vn = i := by omega
   go_wp2_with fail
   go_ret
   exact ⟨rfl, hE⟩
set_option maxRecDepth 100000 in
set_option maxHeartbeats 4000000 in
theorem best3_c (n m sb hx hb : Nat) (ss vs : Sl) (gs : List Sl) (Ls : List (List Int)) (zs : List Int) (hs : List Bool) (w : World) (hc : HCtx w n m sb hx hb ss vs gs Ls zs hs) (hm : m ≤ 1000000) :
  Calls Try.prog 39 #[.func (.func 42) #[] #[], .pointer (some ⟨sb, 0, none⟩), .pointer (some ⟨hx, 0, none⟩)] w fun e w' => e = .returned (.int .i64 (bestF zs hs (fun _ => true) m)) ∧ Ext w w' := by
 have H := Lib.hid hc
 have hvn : vs.n = m := by have := hc.vals.1; have := hc.zm; omega
 skip
 obtain ⟨va, vn, vc⟩ := vs
 simp only at hvn
 subst hvn
 have x2 : w.cell? ⟨sb, 2, none⟩ = some (.slice va vn vc) := hc.s2
 clear hc
 go_enter Try.func39, Try.ntmps39
 go_upto_region 3 with (fail)
 clear x2
 go_loopw [5, 11] (fun ov iv ws => ∃ i : Nat, i ≤ vn ∧ iv = .int .i64 (i : Int) ∧ ov = .int .i64 (bestF zs hs (fun _ => true) i) ∧ Ext w ws) (fun _ iv _ => vn - (intOf iv).toNat)
 case atStart => exact ⟨0, by omega, rfl, rfl, Ext.refl w⟩
 case round =>
  obtain ⟨i, hi, rfl, rfl, hE⟩ := hrel
  by_cases hlt : i < vn
  ·have hcr := H.out.ext hE
   obtain ⟨vb, vo, rfl, hvb, hvc⟩ := hcr.vals.at i hlt
   obtain ⟨bb, bo, e1, hbb, hbc⟩ := hcr.bls.at i hlt
   injection e1 with e1
   injection e1 with e1 e2
   subst e1; subst e2
   rw [Nat.zero_add] at hbc
   have y2 : wr.cell? ⟨sb, 2, none⟩ = some (.slice (some ⟨vb, vo, none⟩) vn vc) := hcr.s2
   have y3 := hcr.h0
   have hbd := bestF_bd zs hs (fun _ => true) i
   have hst : bestF zs hs (fun _ => true) (i + 1) = if hs.getD i false = false ∧ (bestF zs hs (fun _ => true) i < 0 ∨ zs.getD i 0 < zs.getD (bestF zs hs (fun _ => true) i).toNat 0) ∧ (fun _ : Nat => true) i = true then (i : Int) else bestF zs hs (fun _ => true) i := rfl
   have hvo : ∀ o : Nat, o < vn → wr.cell? ⟨vb, vo + o, none⟩ = some (.int .i64 (zs.getD o 0)) := fun o ho => by
    obtain ⟨vb', vo', e, _, hc'⟩ := hcr.vals.at o ho
    injection e with e; injection e with e1 e2
    subst e1; subst e2
    exact hc'
   generalize hOut : bestF zs hs (fun _ => true) i = out at *
   have i0 : (0 : Int) ≤ (i : Int) := by omega
   have i1 : (i : Int) < (vn : Int) := by omega
   have HE := Lib.hid hE
   have HST := Lib.hid hst
   have HVO := Lib.hid hvo
   clear hE hst hvo hOut hcr
   cases hb0 : hs.getD i false with
   | true =>
    rw [hb0] at hbc
    have HN := Lib.hid (show bestF zs hs (fun _ => true) (i + 1) = out by rw [HST.out, if_neg (fun h => by rw [hb0] at h; cases h.1)])
    clear hb0
    go_wp2_with fail
    go_roundw
    case rel => exact ⟨i + 1, by omega, by go_num, by rw [HN.out], HE.out⟩
    case measure => simp [intOf]; omega
   | false =>
    rw [hb0] at hbc
    have HB0 := Lib.hid hb0
    clear hb0
    obtain ⟨z, hz⟩ : ∃ z, zs.getD i 0 = z := ⟨_, rfl⟩
    rw [hz] at hvc
    have HZ := Lib.hid hz
    clear hz
    have HP := Lib.hid (show (fun _ : Nat => true) i = true from rfl)
    by_cases ho : out < 0
    ·have HO := Lib.hid ho
     ·go_wp2_with fail
      refine (hide3_c (i : Int) _).mono ?_
      skip
      rintro e w2 ⟨rfl, hx2⟩
      have HX := Lib.hid (HE.out.trans hx2)
      clear hx2 hbc hvc y2 y3
      go_wp2_with fail
      go_roundw
      case rel => exact ⟨i + 1, by omega, by go_num, by rw [HST.out, if_pos ⟨HB0.out, .inl HO.out, HP.out⟩], HX.out⟩
      case measure => simp [intOf]; omega
    ·obtain ⟨o, rfl⟩ : ∃ o : Nat, out = (o : Int) := ⟨out.toNat, by omega⟩
     have hoc := HVO.out o (by omega)
     obtain ⟨zo, hzo⟩ : ∃ z, zs.getD o 0 = z := ⟨_, rfl⟩
     rw [hzo] at hoc
     have HZO := Lib.hid hzo
     have o0 : (0 : Int) ≤ (o : Int) := by omega
     have o1 : (o : Int) < (vn : Int) := by omega
     have hof : ((o : Int) < 0) = False := by rw [eq_iff_iff]; exact ⟨fun h => by omega, fun h => h.elim⟩
     clear hzo ho
     by_cases hzz : z < zo
     ·have HZZ := Lib.hid hzz
      ·go_wp2_with fail
       refine (hide3_c (i : Int) _).mono ?_
       skip
       rintro e w2 ⟨rfl, hx2⟩
       have HX := Lib.hid (HE.out.trans hx2)
       clear hx2 hbc hvc y2 y3 hoc
       go_wp2_with fail
       go_roundw
       case rel => exact ⟨i + 1, by omega, by go_num, by rw [HST.out, if_pos ⟨HB0.out, .inr (by rw [HZ.out, Int.toNat_natCast, HZO.out]; exact HZZ.out), HP.out⟩], HX.out⟩
       case measure => simp [intOf]; omega
     ·have HZZ := Lib.hid hzz
      have hzf : decide (z < zo) = false := by rw [decide_eq_false_iff_not]; exact hzz
      clear hzz
      go_wp2_with fail
      go_roundw
      case rel => exact ⟨i + 1, by omega, by go_num, by rw [HST.out, if_neg (fun h => by
       rcases h.2.1 with h1 | h1
       ·omega
       ·rw [HZ.out, Int.toNat_natCast, HZO.out] at h1; exact HZZ.out h1)], HE.out⟩
      case measure => simp [intOf]; omega
  ·obtain rfl : vn = i := by omega
   go_wp2_with fail
   go_ret
   exact ⟨rfl, hE⟩
end Go.Proofs.Ytkoidookanmknaa
