/- share: rows of ints; sum, quota. -/
import Derived.Test.YtlnmgcmpbbklhaaSPlain
import Derived.Test.YtlnmgcmpbbklhaaR01a
import Derived.Deep.AppendLies
namespace Go.Proofs.Ytlnmgcmpbbklhaa
set_option linter.unusedSimpArgs false
set_option linter.unusedVariables false
open Go.RowKit

def icells (l : List Int) : Array Value := (l.map (Value.int .i64)).toArray
theorem icells_get (l : List Int) (i : Nat) (hi : i < l.length) : (icells l)[i]? = some (.int .i64 (l.getD i 0)) := by simp [icells, hi]
theorem icells_set (l : List Int) (i : Nat) (d : Int) : (icells l).setIfInBounds i (.int .i64 d) = icells (l.set i d) := by simp [icells, List.map_set]
/-- The row of ints l lies in block b. -/
def IRow (w : World) (b : Nat) (l : List Int) : Prop := Blk w b (icells l) 3
theorem IRow.cell {w : World} {b : Nat} {l : List Int} (h : IRow w b l) (i : Nat) (hi : i < l.length) : w.cell? ⟨b, i, none⟩ = some (.int .i64 (l.getD i 0)) := by
  rw [Blk.cell h, icells_get _ _ hi]
theorem IRow.free {w : World} {b : Nat} {l : List Int} (h : IRow w b l) (i : Nat) : w.frozen? ⟨b, i, none⟩ = false := Blk.free h i
theorem IRow.lt {w : World} {b : Nat} {l : List Int} (h : IRow w b l) : b < w.heap.size := Blk.lt h
theorem IRow.ext {w w' : World} {b : Nat} {l : List Int} (h : IRow w b l) (k : Ext w w') : IRow w' b l := Blk.ext h k
theorem IRow.set {w : World} {b : Nat} {l : List Int} (h : IRow w b l) (i : Nat) (d : Int) : IRow (w.setCell ⟨b, i, none⟩ (.int .i64 d)) b (l.set i d) := by
  have := Blk.set h i (.int .i64 d)
  rw [icells_set] at this
  exact this
theorem IRow.other {w : World} {b : Nat} {l : List Int} (h : IRow w b l) {b' o : Nat} (hne : b ≠ b') (u : Value) : IRow (w.setCell ⟨b', o, none⟩ u) b l := Blk.setOther h hne u
theorem IRow.ints {w : World} {b n : Nat} {l : List Int} (h : IRow w b l) (hn : l.length = n) (h1 : n ≤ 9223372036854775807) (h64 : ∀ i, i < n → Int64 (l.getD i 0)) : Ints w (some ⟨b, 0, none⟩) n l :=
  ⟨hn, h1, h64, .inr ⟨b, 0, rfl, h.lt, fun i hi => by rw [Nat.zero_add]; exact h.cell i (by omega)⟩⟩
theorem intInfo : (Try.prog.info? 3).map (fun i => (i.zero, i.size, i.bytes)) = some (some (.int .i64 0), 1, 8) := by kernel_rfl
/-- 'make([]int, n)'. -/
theorem make_ints (n : Nat) (x y : Int) (hx : x = (n : Int)) (hy : y = (n : Int)) (hn : n ≤ 1000000) (w : World) :
    (Instr.makeSlice 22 (.int .i64 x) (.int .i64 y)).run Try.prog w = .ok (.slice (some ⟨w.heap.size, 0, none⟩) n n) (w.alloc (.cells (icells (List.replicate n 0)) 3)) := by
  obtain ⟨i0, hi, hz0, hz1, hz2⟩ := info_parts intInfo
  have h := run_make (P := Try.prog) w 22 3 i0 (.int .i64 0) Try.underlying22 hi hz0 .i64 .i64 n n (by omega) (Int.le_refl _) (by rw [hz2]; omega) (by omega)
  subst hx; subst hy
  rw [h, hz1]
  simp only [Int.toNat_natCast, Nat.mul_one]
  rw [show (Value.cells (.int .i64 0)) = #[.int .i64 0] from rfl]
  have e : madeCells #[Value.int .i64 0] n = icells (List.replicate n 0) := by
    apply Array.toList_inj.1
    rw [toList_madeCells_one]
    simp [icells]
  rw [e]

set_option maxHeartbeats 1000000 in
theorem ssum_c (a : Option Addr) (n c : Nat) (zs : List Int) (w : World) (h : Ints w a n zs) (hb : ∀ i, Int64 (sumI (zs.take i))) :
    Calls Try.prog 36 #[.slice a n c] w fun e w' => e = .returned (.int .i64 (sumI zs)) ∧ Ext w w' := by
  have H := Lib.hid h; have HB := Lib.hid hb; have hn := h.2.1; clear h hb
  go_enter Try.func36, Try.ntmps36
  go_wp2_with fail
  go_loopw [3, 8] (fun s v ws => ∃ i : Nat, i ≤ n ∧ v = .int .i64 (i : Int) ∧ s = .int .i64 (sumI (zs.take i)) ∧ Ext w ws) (fun _ v _ => n - (intOf v).toNat)
  case atStart => exact ⟨0, by omega, rfl, by simp [sumI], Ext.refl w⟩
  case round =>
    obtain ⟨i, hi, rfl, rfl, hE⟩ := hrel
    have HE := Lib.hid hE; clear hE
    by_cases hlt : i < n
    · have hnx := sumI_next zs i (by rw [H.out.1]; exact hlt)
      obtain ⟨b, off, rfl, hbl, hc⟩ := Ints.at (H.out.keep HE.out.ik) i hlt
      obtain ⟨b1, b2⟩ := HB.out (i + 1)
      generalize zs.getD i 0 = z at *
      have e1 : IntKind.i64.wrap (sumI (zs.take i) + z) = sumI (zs.take (i + 1)) := by rw [hnx]; exact IntWalk.i64_in _ (by omega)
      clear hnx b1 b2
      generalize sumI (zs.take i) = s0 at *
      generalize hs1 : sumI (zs.take (i + 1)) = s1 at *
      have HS1 := Lib.hid hs1; clear hs1
      have t0 : (i : Int) < (n : Int) := by omega
      go_wp2_with fail
      go_roundw
      case rel => exact ⟨i + 1, by omega, by go_num, by rw [HS1.out], HE.out⟩
      case measure => simp [intOf]; omega
    · obtain rfl : i = n := by omega
      have hall : sumI (zs.take i) = sumI zs := by rw [List.take_of_length_le (by rw [H.out.1]; exact Nat.le_refl _)]
      have HA := Lib.hid hall; clear hall
      generalize sumI (zs.take i) = s0 at *
      go_wp2_with fail
      go_ret
      exact ⟨by rw [← HA.out]; rfl, HE.out⟩

set_option maxHeartbeats 1000000 in
theorem quota_c (n x all : Int) (w : World) (h1 : 0 ≤ n) (h2 : n ≤ 1099511627776) (h3 : 0 ≤ x) (h4 : x ≤ 8589934592) (h5 : 1 ≤ all) (h6 : all ≤ 8589934592) (h7 : x ≤ all) :
    Calls Try.prog 39 #[.int .i64 n, .int .i64 x, .int .i64 all] w fun e w' => e = .returned (.tuple #[.int .i64 (n * x / all), .int .i64 (n * x % all)]) ∧ Dr w w' := by
  have hq := quota_prog (n := n) (w := x) (all := all) (h := 1048576) (by omega)
  have a1 : 0 ≤ n / 1048576 ∧ n / 1048576 ≤ 1048576 := by omega
  have a2 : 0 ≤ n % 1048576 ∧ n % 1048576 ≤ 1048575 := by omega
  have HQ := Lib.hid hq; clear hq
  have p1 := Int.mul_nonneg a1.1 h3
  have p2 := Int.mul_le_mul a1.2 h4 h3 (by omega)
  have p3 := Int.mul_nonneg a2.1 h3
  have p4 := Int.mul_le_mul a2.2 h4 h3 (by omega)
  simp only [Int.reduceMul] at p2 p4
  have q1 := Int.emod_nonneg (n / 1048576 * x) (show all ≠ 0 by omega)
  have q2 := Int.emod_lt_of_pos (n / 1048576 * x) (show 0 < all by omega)
  have q3 : 0 ≤ n / 1048576 * x / all := Int.ediv_nonneg p1 (by omega)
  have q4 : n / 1048576 * x / all ≤ 1048576 := by
    have h8 : n / 1048576 * x ≤ 1048576 * all := Int.mul_le_mul a1.2 h7 h3 (by omega)
    have := Int.ediv_le_ediv (show 0 < all by omega) h8
    rw [Int.mul_ediv_cancel _ (by omega)] at this
    exact this
  generalize hA : n / 1048576 * x = A at *
  generalize hB : n % 1048576 * x = B at *
  have q5 : 0 ≤ (A % all * 1048576 + B) / all := Int.ediv_nonneg (by omega) (by omega)
  have q6 : (A % all * 1048576 + B) / all ≤ A % all * 1048576 + B := Int.ediv_le_self _ (by omega)
  have q7 : 0 ≤ A % all * 1048576 + B := by omega
  go_enter Try.func39, Try.ntmps39
  go_upto_region 1 with (fail)
  go_quiet (fail)
  go_wp2_with fail
  go_quiet (fail)
  go_wp2_with fail
  go_ret2
  exact ⟨by rw [← HQ.out.1, ← HQ.out.2]; rfl, ((Dr.refl w).drewN _).drewN _⟩
end Go.Proofs.Ytlnmgcmpbbklhaa
