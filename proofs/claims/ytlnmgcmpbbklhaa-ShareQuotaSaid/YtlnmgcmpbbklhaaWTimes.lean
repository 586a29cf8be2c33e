/- wide: times. -/
import Derived.Test.YtlnmgcmpbbklhaaWRow
import Derived.Test.YtlnmgcmpbbklhaaWArith2
namespace Go.Proofs.Ytlnmgcmpbbklhaa
set_option linter.unusedSimpArgs false
set_option linter.unusedVariables false
open Go.RowKit

/-- A new slice of words that stands for v. -/
def RetW (v : Nat) (w : World) (e : Ending) (w' : World) : Prop := ∃ (a : Option Addr) (n c : Nat) (o : List Nat), e = .returned (.slice a n c) ∧ Wds w' a n c o ∧ mval o = v ∧ Ext w w'

theorem dg_div (t : Nat) (T : Int) (h : T = (t : Int)) : T % 4294967296 = ((t % B32 : Nat) : Int) ∧ T / 4294967296 = ((t / B32 : Nat) : Int) := by
  subst h; rw [B32_eq]; omega

set_option maxHeartbeats 1000000 in
theorem times_c (a b : Option Addr) (n m c d : Nat) (l r : List Nat) (w : World) (hl : Wds w a n c l) (hr : Wds w b m d r) (hnm : n + m ≤ 4096) :
    Calls Try.prog 41 #[.slice a n c, .slice b m d] w (RetW (mval l * mval r) w) := by
  have hmk := make_words (n + m) ((n : Int) + (m : Int)) ((n : Int) + (m : Int)) (by omega) (by omega) (by omega)
  have HL := Lib.hid hl; have HR := Lib.hid hr; clear hl hr
  go_enter Try.func41, Try.ntmps41
  go_wp2
  go_loopw [20] (fun v wr => ∃ (i : Nat) (o : List Nat), i ≤ n ∧ v = .int .i64 (i : Int) ∧ Row wr w.heap.size o ∧ o.length = n + m ∧ Fit o ∧ (∀ j, i + m ≤ j → o.getD j 0 = 0) ∧ mval o = mval (l.take i) * mval r ∧ Ext w wr)
    (fun v _ => n - (intOf v).toNat)
  case atStart =>
    exact ⟨0, List.replicate (n + m) 0, by omega, rfl, Blk.new _ _ _, by simp, fit_zeros _, fun j _ => getD_zeros _ _, by rw [mval_zeros]; simp [mval], (by repeat (first | exact Ext.refl _ | assumption | refine Ext.setCell ?_ (by first | (simp; done) | (simp; omega) | omega) _ | refine Ext.alloc ?_ _ | refine Ext.drew ?_ | refine Ext.trans ?_ (by assumption)))⟩
  case round =>
    obtain ⟨i, o, hi, rfl, hrow, hlen, hfit, hz, hv, hx⟩ := hrel
    by_cases hlt : i < n
    · rename_i wr _
      have HL1 := HL.out.keep hx.ik
      have HR1 := Lib.hid (HR.out.keep hx.ik)
      obtain ⟨b1, o1, rfl, hb1, hc1⟩ := HL1.at i hlt
      have HX := Lib.hid hx; have HROW := Lib.hid hrow; have HLEN := Lib.hid hlen; have HZ := Lib.hid hz; have HV := Lib.hid hv
      clear HL1 hx hrow hlen hz hv hmk
      go_wp2
      go_loopw [8, 27] (fun cv kv ws => ∃ (k cy : Nat) (q : List Nat), k ≤ m ∧ kv = .int .i64 (k : Int) ∧ cv = .int .u64 (cy : Int) ∧ Row ws w.heap.size q ∧ Mid l r q i k cy ∧ Ext w ws)
        (fun _ kv _ => m - (intOf kv).toNat)
      case atStart =>
        exact ⟨0, 0, o, by omega, rfl, rfl, HROW.out, Mid.begin (by rw [HL.out.len, HR.out.len, HLEN.out]) hfit (by rw [HR.out.len]; exact HZ.out) HV.out, HX.out⟩
      case round =>
        obtain ⟨k, cy, q, hk, rfl, rfl, hrow, hmid, hx⟩ := hrel
        rename_i ws _
        have hcy := hmid.carry
        rw [B32_eq] at hcy
        by_cases hkm : k < m
        · have HR2 := HR.out.keep hx.ik
          obtain ⟨b2, o2, rfl, hb2, hc2⟩ := HR2.at k hkm
          have hql := hmid.len
          rw [HL.out.len, HR.out.len] at hql
          have hq := hrow.cell (i + k) (by omega)
          have hqf := hrow.free (i + k)
          have p1 := dg_nonneg l i
          have p2 := dg_lt HL.out.fit i
          have p3 := dg_nonneg r k
          have p4 := dg_lt HR.out.fit k
          have p5 := dg_nonneg q (i + k)
          have p6 := dg_lt hmid.fit (i + k)
          have p7 : (0 : Int) ≤ dg l i * dg r k := Int.mul_nonneg p1 p3
          have p8 : dg l i * dg r k + dg q (i + k) + (cy : Int) ≤ 18446744073709551615 := by
            have := word_prod (HL.out.fit.getD i) (HR.out.fit.getD k) (hmid.fit.getD (i + k)) hmid.carry
            rw [B32_eq] at this
            have e : dg l i * dg r k = ((l.getD i 0 * r.getD k 0 : Nat) : Int) := by unfold dg; omega
            unfold dg at *; omega
          have HQL := Lib.hid hql; have HRO := Lib.hid hrow; have HM := Lib.hid hmid; have HX2 := Lib.hid hx
          clear hql hrow hmid hx HR2
          go_wp2
          go_roundw
          case rel =>
            have hT : dg l i * dg r k + dg q (i + k) + (cy : Int) = ((l.getD i 0 * r.getD k 0 + q.getD (i + k) 0 + cy : Nat) : Int) := by unfold dg; omega
            have hd := dg_div _ _ hT
            exact ⟨k + 1, _, _, by omega, by go_num, by rw [hd.2], Row.set HRO.out _ _ _ hd.1, HM.out.step HL.out.fit HR.out.fit (by rw [HL.out.len]; exact hlt) (by rw [HR.out.len]; exact hkm) _ rfl, HX2.out.setCell (Nat.le_refl _) _⟩
          case measure => simp [intOf]; omega
        · obtain rfl : k = m := by omega
          have hql := hmid.len
          rw [HL.out.len, HR.out.len] at hql
          have hq := hrow.cell (i + k) (by omega)
          have hqf := hrow.free (i + k)
          have HQL := Lib.hid hql; have HRO := Lib.hid hrow; have HM := Lib.hid hmid; have HX2 := Lib.hid hx
          clear hql hrow hmid hx
          go_wp2
          go_roundw
          case rel =>
            have hM := HM.out
            rw [← HR.out.len] at hM
            have hD := hM.done (by rw [HL.out.len]; exact hlt)
            rw [HL.out.len, HR.out.len] at hD
            exact ⟨i + 1, _, by omega, by go_num, Row.set HRO.out _ _ _ (by omega), hD.1, hD.2.1, hD.2.2.1, hD.2.2.2, HX2.out.setCell (Nat.le_refl _) _⟩
          case measure => simp [intOf]; omega
    · obtain rfl : i = n := by omega
      clear hmk
      go_wp2
      go_ret
      exact ⟨_, _, _, o, rfl, hrow.wds hfit (by omega) hlen (Nat.le_refl _) (by omega), by rw [hv, List.take_of_length_le (by rw [HL.out.len]; omega)], hx⟩
end Go.Proofs.Ytlnmgcmpbbklhaa
