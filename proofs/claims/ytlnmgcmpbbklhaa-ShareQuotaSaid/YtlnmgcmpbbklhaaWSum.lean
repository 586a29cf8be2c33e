/- wide: carrier, sum, subtract, difference. -/
import Derived.Test.YtlnmgcmpbbklhaaWTimes
import Derived.Test.YtlnmgcmpbbklhaaWArith3
import Derived.Laws.CopyOwn
import Derived.Deep.DeepCutAuto
namespace Go.Proofs.Ytlnmgcmpbbklhaa
set_option linter.unusedSimpArgs false
set_option linter.unusedVariables false
open Go.RowKit

theorem Blk.grown {w w' : World} {b g : Nat} {cs : Array Value} {t : TypeId} (h : Blk w b cs t) (k : w.grownBy w' (some g)) (hne : b ≠ g) : Blk w' b cs t := by
  unfold Blk; rw [k.block b h.lt (fun e => hne (by injection e))]; exact h
theorem Ext.grown {a w w' : World} {g : Nat} (h : Ext a w) (k : w.grownBy w' (some g)) (hg : a.heap.size ≤ g) : Ext a w' :=
  Below.grown h k h.size (fun x hx => by injection hx with hx; omega)

theorem grown_setCell (w : World) (g o : Nat) (u : Value) : w.grownBy (w.setCell ⟨g, o, none⟩ u) (some g) :=
  ⟨rfl, rfl, rfl, by simp, fun k _ hne => Below.heap_setCell _ _ _ _ (fun e => hne (by rw [e]))⟩
theorem grown_trans {a b c : World} {g : Nat} (h : a.grownBy b (some g)) (k : b.grownBy c (some g)) : a.grownBy c (some g) :=
  ⟨k.os.trans h.os, k.tape.trans h.tape, k.output.trans h.output, Nat.le_trans h.size k.size, fun x hx hne => (k.block x (Nat.lt_of_lt_of_le hx h.size) hne).trans (h.block x hx hne)⟩

set_option maxHeartbeats 400000 in
theorem carrier1_c (cb : Nat) (V : Int) (v cy : Nat) (w : World) (hV : V = (v : Int)) (h : Blk w cb #[.int .u64 (cy : Int)] 66) (hv : cy + v ≤ 18446744073709551615) :
    Calls Try.prog 79 #[.int .u64 V, .pointer (some ⟨cb, 0, none⟩)] w fun e w' => e = .returned (.int .u32 (((cy + v) % B32 : Nat) : Int)) ∧ Blk w' cb #[.int .u64 (((cy + v) / B32 : Nat) : Int)] 66 ∧ w.grownBy w' (some cb) := by
  subst hV
  have c0 : w.cell? ⟨cb, 0, none⟩ = some (.int .u64 (cy : Int)) := h.cell 0
  have f0 := h.free 0
  have l0 := h.lt
  have hs : (0 : Int) ≤ (cy : Int) + (v : Int) ∧ (cy : Int) + (v : Int) ≤ 18446744073709551615 := by omega
  obtain ⟨hs1, hs2⟩ := hs
  have hd := dg_div (cy + v) ((cy : Int) + (v : Int)) (by omega)
  have HD := Lib.hid hd; clear hd
  have HB := Lib.hid h; clear h
  go_enter Try.func79, Try.ntmps79
  go_wp2
  go_ret
  refine ⟨by rw [← HD.out.1]; rfl, ?_, grown_trans (grown_setCell _ _ _ _) (grown_setCell _ _ _ _)⟩
  rw [← HD.out.2]
  exact (HB.out.set 0 _).set 0 _

set_option maxHeartbeats 400000 in
theorem carrier_c (w : World) :
    Calls Try.prog 73 #[] w fun e w' => e = .returned (.func (.func 79) #[] #[.pointer (some ⟨w.heap.size, 0, none⟩)]) ∧ Blk w' w.heap.size #[.int .u64 0] 66 ∧ Ext w w' := by
  go_enter Try.func73, Try.ntmps73
  go_wp2
  go_ret
  exact ⟨rfl, Blk.new _ _ _, (by repeat (first | exact Ext.refl _ | assumption | refine Ext.setCell ?_ (by first | (simp; done) | (simp; omega) | omega) _ | refine Ext.alloc ?_ _ | refine Ext.drew ?_ | refine Ext.trans ?_ (by assumption)))⟩

set_option maxHeartbeats 1000000 in
theorem sum_c (a b : Option Addr) (n m c d : Nat) (l r : List Nat) (w : World) (hl : Wds w a n c l) (hr : Wds w b m d r) (hn : n ≤ 4096) (hm : m ≤ 4096) :
    Calls Try.prog 62 #[.slice a n c, .slice b m d] w (RetW (mval l + mval r) w) := by
  have HL := Lib.hid hl; have HR := Lib.hid hr; clear hl hr
  go_enter Try.func62, Try.ntmps62
  go_upto_if 13 with (fail)
  go_cut [0, 1] (fun s0 s1 wx => ∃ (A A' : Option Addr) (N M C D : Nat) (L R : List Nat), s0 = .slice A N C ∧ s1 = .slice A' M D ∧ Wds w A N C L ∧ Wds w A' M D R ∧ M ≤ N ∧ N ≤ 4096 ∧ mval L + mval R = mval l + mval r ∧ w = wx)
  case first =>
    go_wp2
    · go_meet
      exact ⟨b, a, m, n, d, c, r, l, rfl, rfl, HR.out, HL.out, by omega, hm, Nat.add_comm _ _, rfl⟩
    · go_meet
      exact ⟨a, b, n, m, c, d, l, r, rfl, rfl, HL.out, HR.out, by omega, hn, rfl, rfl⟩
  case rest =>
    obtain ⟨A, A', N, M, C, D, L, R, rfl, rfl, hL, hR, hMN, hN, hv, rfl⟩ := hcut
    have HA := Lib.hid hL; have HB := Lib.hid hR; have HV := Lib.hid hv; clear hL hR hv HL HR
    have hmk := make_words (N + 1) ((N : Int) + 1) ((N : Int) + 1) (by omega) (by omega) (by omega)
    go_wp2_with (go_at_call 73; refine (carrier_c _).mono ?_; rintro e w1 ⟨rfl, hB1, hx1⟩; have hR1 := (Blk.new w (wcells (List.replicate (N + 1) 0)) 67).ext hx1; have HX1 := Lib.hid (((Ext.refl w).alloc _).trans hx1); have HB1 := Lib.hid hB1; have HR1 := Lib.hid hR1; clear hB1 hR1 hx1)
    go_loopw [23] (fun v ws => ∃ (i cy : Nat) (o : List Nat), i ≤ N + 1 ∧ v = .int .i64 (i : Int) ∧ Row ws w.heap.size o ∧ Blk ws (w.heap.size + 1) #[.int .u64 (cy : Int)] 66 ∧ SumMid L R o i cy ∧ Ext w ws)
      (fun v _ => N + 1 - (intOf v).toNat)
    case atStart =>
      exact ⟨0, 0, List.replicate (N + 1) 0, by omega, rfl, HR1.out, by have := HB1.out; simpa using this, SumMid.begin L R _ (by rw [HA.out.len]; simp) (fit_zeros _), HX1.out⟩
    case round =>
      clear hmk
      obtain ⟨i, cy, o, hi, rfl, hrow, hblk, hmid, hx⟩ := hrel
      have hA := HA.out.keep hx.ik
      have hB := HB.out.keep hx.ik
      have hol := hmid.len
      rw [HA.out.len] at hol
      have hcy := hmid.carry
      have fL := HA.out.fit.getD i
      have fR := HB.out.fit.getD i
      rw [B32_eq] at fL fR
      by_cases hlt : i < N + 1
      · have hsz := hrow.lt
        have rc := hrow.cell i (by omega)
        have rf := hrow.free i
        have RO := Lib.hid hrow; have BK := Lib.hid hblk; have MD := Lib.hid hmid; have HX := Lib.hid hx; have OL := Lib.hid hol
        clear hrow hblk hmid hx hol
        by_cases hiM : i < M
        · obtain ⟨b1, o1, rfl, hb1, hc1⟩ := hA.at i (by omega)
          obtain ⟨b2, o2, rfl, hb2, hc2⟩ := hB.at i hiM
          have p1 := dg_nonneg L i
          have p2 := dg_lt HA.out.fit i
          have p3 := dg_nonneg R i
          have p4 := dg_lt HB.out.fit i
          have hiN : i < N := by omega
          have hV : dg L i + dg R i = ((L.getD i 0 + R.getD i 0 : Nat) : Int) := by unfold dg; omega
          have hb : cy + (L.getD i 0 + R.getD i 0) ≤ 18446744073709551615 := by omega
          have HV1 := Lib.hid hV; have HBD := Lib.hid hb
          clear hA hB hV hb fL fR
          go_wp2_with (go_at_call 79; refine (carrier1_c _ _ _ _ _ HV1.out BK.out HBD.out).mono ?_; rintro e w2 ⟨rfl, hB2, hG2⟩; have hx2 := Lib.hid (HX.out.grown hG2 (by omega)); have RO2 := Blk.grown RO.out hG2 (by omega); have BK2 := Lib.hid hB2; clear hB2 hG2; have rc2 := Row.cell RO2 i (by rw [OL.out]; omega); have rf2 := Row.free RO2 i; have RO3 := Lib.hid RO2; clear RO2)
          go_roundw
          case rel =>
            exact ⟨i + 1, _, _, by omega, by go_num, Row.set RO3.out _ _ _ rfl, BK2.out.setOther (by simp) _, MD.out.step HA.out.fit HB.out.fit (by rw [HA.out.len]; omega) _ rfl, hx2.out.setCell (Nat.le_refl _) _⟩
          case measure => simp [intOf]; omega
        · by_cases hiN : i < N
          · obtain ⟨b1, o1, rfl, hb1, hc1⟩ := hA.at i (by omega)
            have p1 := dg_nonneg L i
            have p2 := dg_lt HA.out.fit i
            have hz : R.getD i 0 = 0 := getD_ge _ _ (by rw [HB.out.len]; omega)
            have hV : dg L i = ((L.getD i 0 + R.getD i 0 : Nat) : Int) := by unfold dg; omega
            have hb : cy + (L.getD i 0 + R.getD i 0) ≤ 18446744073709551615 := by omega
            have HV1 := Lib.hid hV; have HBD := Lib.hid hb
            clear hA hB hV hb fL fR hz
            go_wp2_with (go_at_call 79; refine (carrier1_c _ _ _ _ _ HV1.out BK.out HBD.out).mono ?_; rintro e w2 ⟨rfl, hB2, hG2⟩; have hx2 := Lib.hid (HX.out.grown hG2 (by omega)); have RO2 := Blk.grown RO.out hG2 (by omega); have BK2 := Lib.hid hB2; clear hB2 hG2; have rc2 := Row.cell RO2 i (by rw [OL.out]; omega); have rf2 := Row.free RO2 i; have RO3 := Lib.hid RO2; clear RO2)
            go_roundw
            case rel =>
              exact ⟨i + 1, _, _, by omega, by go_num, Row.set RO3.out _ _ _ rfl, BK2.out.setOther (by simp) _, MD.out.step HA.out.fit HB.out.fit (by rw [HA.out.len]; omega) _ rfl, hx2.out.setCell (Nat.le_refl _) _⟩
            case measure => simp [intOf]; omega
          · have hz : R.getD i 0 = 0 := getD_ge _ _ (by rw [HB.out.len]; omega)
            have hz2 : L.getD i 0 = 0 := getD_ge _ _ (by rw [HA.out.len]; omega)
            have hV : (0 : Int) = ((L.getD i 0 + R.getD i 0 : Nat) : Int) := by omega
            have hb : cy + (L.getD i 0 + R.getD i 0) ≤ 18446744073709551615 := by omega
            have HV1 := Lib.hid hV; have HBD := Lib.hid hb
            clear hA hB hV hb fL fR hz hz2
            go_wp2_with (go_at_call 79; refine (carrier1_c _ _ _ _ _ HV1.out BK.out HBD.out).mono ?_; rintro e w2 ⟨rfl, hB2, hG2⟩; have hx2 := Lib.hid (HX.out.grown hG2 (by omega)); have RO2 := Blk.grown RO.out hG2 (by omega); have BK2 := Lib.hid hB2; clear hB2 hG2; have rc2 := Row.cell RO2 i (by rw [OL.out]; omega); have rf2 := Row.free RO2 i; have RO3 := Lib.hid RO2; clear RO2)
            go_roundw
            case rel =>
              exact ⟨i + 1, _, _, by omega, by go_num, Row.set RO3.out _ _ _ rfl, BK2.out.setOther (by simp) _, MD.out.step HA.out.fit HB.out.fit (by rw [HA.out.len]; omega) _ rfl, hx2.out.setCell (Nat.le_refl _) _⟩
            case measure => simp [intOf]; omega
      · obtain rfl : i = N + 1 := by omega
        have hsum : mval o = mval L + mval R := by
          have h := hmid
          rw [← HA.out.len] at h
          exact h.done HA.out.fit HB.out.fit (by rw [HA.out.len, HB.out.len]; omega)
        have HS := Lib.hid hsum; have RO := Lib.hid hrow; have MD := Lib.hid hmid; have HX := Lib.hid hx
        have HOL := Lib.hid hol
        clear hA hB fL fR hsum hrow hblk hmid hx hol
        go_wp2
        go_ret
        exact ⟨_, _, _, o, rfl, RO.out.wds MD.out.fit (by rw [HOL.out]; omega) HOL.out (Nat.le_refl _) (by omega), by rw [HS.out, HV.out], HX.out⟩
end Go.Proofs.Ytlnmgcmpbbklhaa
