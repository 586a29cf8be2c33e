/- meresmanref01: Around, Pick. -/
import Derived.Test.YtkoidookanmknaaSWA
namespace Go.Proofs.Ytkoidookanmknaa
set_option linter.unusedSimpArgs false
set_option linter.unusedVariables false
open Go.RowKit

/-- An int. -/
def Int64 (n : Int) : Prop := -9223372036854775808 ≤ n ∧ n ≤ 9223372036854775807
def aroundF (n m : Int) : Int := (if n < 0 then -(n + 1) else n) % m
theorem aroundF_bd (n m : Int) (h : 1 ≤ m) : 0 ≤ aroundF n m ∧ aroundF n m < m :=
 ⟨Int.emod_nonneg _ (by omega), Int.emod_lt_of_pos _ (by omega)⟩

set_option maxHeartbeats 400000 in
theorem around_c (n m : Int) (w : World) (h1 : 1 ≤ m) (h2 : m ≤ 9223372036854775807) (hn : Int64 n) :
  Calls Try.prog 16 #[.int .i64 n, .int .i64 m] w fun e w' => e = .returned (.int .i64 (aroundF n m)) ∧ w = w' := by
 obtain ⟨h3, h4⟩ := hn
 by_cases hneg : n < 0
 ·have hf : aroundF n m = -((n + 1).tmod m) := by
   unfold aroundF; rw [if_pos hneg, ← Int.neg_tmod, Int.tmod_eq_emod_of_nonneg (by omega)]
  have HF := Lib.hid hf; clear hf
  go_enter Try.func16, Try.ntmps16
  go_wp2
  go_ret
  exact ⟨by rw [HF.out]; rfl, rfl⟩
 ·have hf : aroundF n m = n % m := by
   unfold aroundF; rw [if_neg hneg]
  have HF := Lib.hid hf; clear hf
  go_enter Try.func16, Try.ntmps16
  go_wp2
  go_ret
  exact ⟨by rw [HF.out]; rfl, rfl⟩

/-- A slice of ints that came in: nil, or a row of cells. -/
def Ints (w : World) (a : Option Addr) (n : Nat) (zs : List Int) : Prop :=
 zs.length = n ∧ n ≤ 9223372036854775807 ∧ (∀ i, i < n → Int64 (zs.getD i 0)) ∧ (n = 0 ∨ ∃ b off, a = some ⟨b, off, none⟩ ∧ b < w.heap.size ∧ ∀ i, i < n → w.cell? ⟨b, off + i, none⟩ = some (.int .i64 (zs.getD i 0)))
theorem Ints.at {w : World} {a : Option Addr} {n : Nat} {zs : List Int} (h : Ints w a n zs) (i : Nat) (hi : i < n) :
  ∃ b off, a = some ⟨b, off, none⟩ ∧ b < w.heap.size ∧ w.cell? ⟨b, off + i, none⟩ = some (.int .i64 (zs.getD i 0)) := by
 obtain ⟨_, _, _, h0 | ⟨b, off, ha, hb, hc⟩⟩ := h
 ·omega
 ·exact ⟨b, off, ha, hb, hc i hi⟩
theorem Ints.keep {w w' : World} {a : Option Addr} {n : Nat} {zs : List Int} (h : Ints w a n zs) (k : IK w w') : Ints w' a n zs := by
 obtain ⟨h1, h2, h3, h4⟩ := h
 refine ⟨h1, h2, h3, ?_⟩
 rcases h4 with h4 | ⟨b, off, ha, hb, hc⟩
 ·exact .inl h4
 ·exact .inr ⟨b, off, ha, Nat.lt_of_lt_of_le hb k.1, fun i hi => k.2 _ _ _ (hc i hi)⟩

theorem int64_of_wf {n : Int} (h : (Lit.int .i64 n).wf = true) : Int64 n := by
 simp [Lit.wf, IntKind.min, IntKind.max, IntKind.signed, IntKind.bits] at h
 unfold Int64; omega
/-- What the shell of a law says of a slice of ints that came in. -/
theorem ints_of_row {w : World} {a : Option Addr} {len cap : Nat} {zs : List Int}
  (h : (a = none ∧ len = 0 ∧ cap = 0 ∧ zs = []) ∨ ∃ x, a = some x ∧ len ≤ cap ∧ cap ≤ maxLen ∧ zs.length = cap ∧ (∀ i, i < zs.length → w.cell? (x.add i) = some (.int .i64 (zs.getD i 0))) ∧ ∀ n ∈ zs, (Lit.int .i64 n).wf = true) :
  Ints w a len (zs.take len) := by
 rcases h with ⟨rfl, rfl, rfl, rfl⟩ | ⟨x, rfl, hl, hm, hz, hc, hw⟩
 ·exact ⟨rfl, by omega, fun i hi => absurd hi (by omega), .inl rfl⟩
 ·have hg : ∀ i, i < len → (zs.take len).getD i 0 = zs.getD i 0 := fun i hi => by
   simp [List.getD_eq_getElem?_getD, List.getElem?_take, hi]
  refine ⟨by simp; omega, ?_, fun i hi => ?_, ?_⟩
  ·rw [maxLen] at hm; omega
  ·rw [hg i hi]
   have : zs.getD i 0 ∈ zs := by
    rw [List.getD_eq_getElem?_getD, List.getElem?_eq_getElem (by omega)]; exact List.getElem_mem _
   exact int64_of_wf (hw _ this)
  ·by_cases h0 : len = 0
   ·exact .inl h0
   ·have c0 := hc 0 (by omega)
    obtain ⟨b, off, sp⟩ := x
    cases sp with
    | some s =>
     exfalso
     rw [show (⟨b, off, some s⟩ : Addr).add 0 = ⟨b, off, some s⟩ by simp [Addr.add]] at c0
     unfold World.cell? at c0
     split at c0 <;> simp at c0
    | none =>
     refine .inr ⟨b, off, rfl, ?_, fun i hi => ?_⟩
     ·rw [show (⟨b, off, none⟩ : Addr).add 0 = ⟨b, off, none⟩ by simp [Addr.add]] at c0
      exact lt_of_cell c0
     ·rw [hg i hi, ← hc i (by omega)]
      congr 1
      unfold Addr.add; split <;> simp_all
/-- The number i of a list, modulo m. -/
def pickF (zs : List Int) (i : Nat) (m : Int) : Int := if i < zs.length then aroundF (zs.getD i 0) m else 0
theorem pickF_bd (zs : List Int) (i : Nat) (m : Int) (h : 1 ≤ m) : 0 ≤ pickF zs i m ∧ pickF zs i m < m := by
 unfold pickF; split
 ·exact aroundF_bd _ _ h
 ·omega
set_option maxHeartbeats 400000 in
theorem pick_c (a : Option Addr) (n c : Nat) (zs : List Int) (i : Int) (k : Nat) (m : Int) (w : World) (h : Ints w a n zs) (hi : i = (k : Int)) (hk : k ≤ 100000) (h1 : 1 ≤ m) (h2 : m ≤ 9223372036854775807) :
  Calls Try.prog 23 #[.slice a n c, .int .i64 i, .int .i64 m] w fun e w' => e = .returned (.int .i64 (pickF zs k m)) ∧ w = w' := by
 subst hi
 have hn := h.2.1
 by_cases hlt : k < n
 ·have hf : pickF zs k m = aroundF (zs.getD k 0) m := by unfold pickF; rw [if_pos (by rw [h.1]; exact hlt)]
  obtain ⟨b, off, rfl, hb, hc⟩ := h.at k hlt
  have h64 := h.2.2.1 k hlt
  generalize zs.getD k 0 = z at *
  have HF := Lib.hid hf; have H64 := Lib.hid h64; clear hf h64 h
  have t1 : (k : Int) < (n : Int) := by omega
  go_enter Try.func23, Try.ntmps23
  go_wp2_with (go_at_call 16; refine (around_c _ _ _ h1 h2 H64.out).mono ?_; rintro e w' ⟨rfl, rfl⟩)
  go_ret
  exact ⟨by rw [HF.out]; rfl, rfl⟩
 ·have hf : pickF zs k m = 0 := by unfold pickF; rw [if_neg (by rw [h.1]; exact hlt)]
  have HF := Lib.hid hf; clear hf h
  have t1 : (n : Int) ≤ (k : Int) := by omega
  go_enter Try.func23, Try.ntmps23
  go_wp2_with fail
  go_ret
  exact ⟨by rw [HF.out]; rfl, rfl⟩
end Go.Proofs.Ytkoidookanmknaa
