/- wide: normal, signed, From, Neg, compare, Compare, Sign. -/
import Derived.Test.YtlnmgcmpbbklhaaWMem
namespace Go.Proofs.Ytlnmgcmpbbklhaa
set_option linter.unusedSimpArgs false
set_option linter.unusedVariables false
open Go.RowKit

theorem dg_zero {l : List Nat} {i : Nat} (h : l.getD i 0 = 0) : dg l i = 0 := by unfold dg; omega
theorem dg_ne {l : List Nat} {i : Nat} (h : ¬ l.getD i 0 = 0) : (dg l i == 0) = false := by unfold dg; rw [beq_eq_false_iff_ne]; omega

theorem nlen_zero {l : List Nat} {j : Nat} (h : l.getD j 0 = 0) : nlen l (j + 1) = nlen l j := by rw [nlen, if_pos h]
theorem nlen_ne {l : List Nat} {j : Nat} (h : ¬ l.getD j 0 = 0) : nlen l (j + 1) = j + 1 := by rw [nlen, if_neg h]

set_option maxHeartbeats 400000 in
theorem normal_c (a : Option Addr) (n c : Nat) (l : List Nat) (w : World) (h : Wds w a n c l) :
    Calls Try.prog 56 #[.slice a n c] w fun e w' => e = .returned (.slice a (nlen l n) c) ∧ w = w' := by
  have hm := h.most
  have hc := h.cap
  have HH := Lib.hid h; clear h
  go_enter Try.func56, Try.ntmps56
  go_wp2
  go_loop [0] (fun v => ∃ k : Nat, k ≤ n ∧ nlen l k = nlen l n ∧ v = .slice a k c) (fun v => match v with | .slice _ k _ => k | _ => 0)
  case atStart => exact ⟨n, Nat.le_refl _, rfl, rfl⟩
  case round =>
    obtain ⟨k, hk, hn, rfl⟩ := hrel
    have HN := Lib.hid hn; clear hn
    by_cases h0 : 0 < k
    · obtain ⟨j, rfl⟩ : ∃ j, k = j + 1 := ⟨k - 1, by omega⟩
      obtain ⟨b, off, rfl, hb, hcell⟩ := HH.out.at j (by omega)
      by_cases hz : l.getD j 0 = 0
      · have hz' := dg_zero hz
        rw [hz'] at hcell
        have HZ := Lib.hid hz; clear hz hz'
        go_wp2
        go_round
        case rel => exact ⟨j, by omega, by rw [← HN.out, nlen_zero HZ.out], rfl⟩
        case measure => simp
      · have hz' := dg_ne hz
        have HZ := Lib.hid hz; clear hz
        go_wp2
        go_ret
        refine ⟨?_, rfl⟩
        rw [← HN.out, nlen_ne HZ.out]; rfl
    · obtain rfl : k = 0 := by omega
      go_wp2
      go_ret
      rw [← HN.out]
      exact ⟨rfl, rfl⟩

theorem normal_w {w : World} {a : Option Addr} {n c : Nat} {l : List Nat} (h : Wds w a n c l) : Wds w a (nlen l n) c (trim l) := by
  have h1 := h.take (nlen l n) (nlen_le _ _)
  have h2 := h.len
  rw [trim, h2]; exact h1

/-- What 'signed' returns. -/
def SignedR (g : Bool) (l : List Nat) (w : World) (e : Ending) (w' : World) : Prop :=
  ∃ (r : IV) (x : Int) (err : Int), e = .returned (.tuple #[r.v, .int .i64 err]) ∧ IsI w' r x ∧ Ext w w' ∧ (if mval l < WTop then x = sgn g (mval l) ∧ err = 0 else x = 0 ∧ err = 4)

theorem sgn_zero (g : Bool) : sgn g 0 = 0 := by unfold sgn; split <;> rfl

set_option maxHeartbeats 400000 in
theorem signed_c (g : Bool) (a : Option Addr) (n c : Nat) (l : List Nat) (w : World) (h : Wds w a n c l) :
    Calls Try.prog 40 #[.bool g, .slice a n c] w (SignedR g l w) := by
  have hw := normal_w h
  have hle := nlen_le l n
  have hm := h.most
  have hc := h.cap
  have hN := trim_norm l
  have hV := mval_trim l
  have hkey := norm_top hN (trim_fit h.fit)
  rw [trim_length, h.len] at hkey
  have HW := Lib.hid hw; have HV := Lib.hid hV; have HK := Lib.hid hkey; have HN := Lib.hid hN; have HH := Lib.hid h
  clear hw hV hkey h hN
  by_cases hb : 512 < nlen l n
  · go_enter Try.func40, Try.ntmps40
    go_wp2_with (go_at_call 56; refine (normal_c _ _ _ _ _ (HH.out.keep ((IK.refl _).alloc _))).mono ?_; rintro e w' ⟨rfl, rfl⟩)
    refine bodyPost_ret (v := .tuple #[.agg #[.bool false, .slice none 0 0], .int .i64 4]) (by simp [results, Try.results40, go_sem]) rfl ?_
    refine ⟨⟨false, none, 0, 0⟩, 0, 4, rfl, ⟨[], (Wds.nil _), .inl rfl, by simp, by simp, by simp [sgn, mval]⟩, (Ext.refl _).alloc _, ?_⟩
    rw [if_neg (by rw [← HV.out, HK.out]; omega)]; exact ⟨rfl, rfl⟩
  · have hb' : nlen l n ≤ 512 := by omega
    by_cases h0 : 0 < nlen l n
    · cases g
      · go_enter Try.func40, Try.ntmps40
        go_wp2_with (go_at_call 56; refine (normal_c _ _ _ _ _ (HH.out.keep ((IK.refl _).alloc _))).mono ?_; rintro e w' ⟨rfl, rfl⟩)
        refine bodyPost_ret (v := .tuple #[.agg #[.bool false, .slice a (nlen l n) c], .int .i64 0]) (by simp [results, Try.results40, go_sem]) rfl ?_
        refine ⟨⟨false, a, nlen l n, c⟩, _, 0, rfl, ⟨trim l, HW.out.keep ((IK.refl _).alloc _), HN.out, hb', by simp, rfl⟩, (Ext.refl _).alloc _, ?_⟩
        rw [HV.out, if_pos (by rw [← HV.out, HK.out]; omega)]; exact ⟨rfl, rfl⟩
      · go_enter Try.func40, Try.ntmps40
        go_wp2_with (go_at_call 56; refine (normal_c _ _ _ _ _ (HH.out.keep ((IK.refl _).alloc _))).mono ?_; rintro e w' ⟨rfl, rfl⟩)
        refine bodyPost_ret (v := .tuple #[.agg #[.bool true, .slice a (nlen l n) c], .int .i64 0]) (by simp [results, Try.results40, go_sem]) rfl ?_
        refine ⟨⟨true, a, nlen l n, c⟩, _, 0, rfl, ⟨trim l, HW.out.keep ((IK.refl _).alloc _), HN.out, hb', fun _ => h0, rfl⟩, (Ext.refl _).alloc _, ?_⟩
        rw [HV.out, if_pos (by rw [← HV.out, HK.out]; omega)]; exact ⟨rfl, rfl⟩
    · have hz : nlen l n = 0 := by omega
      have HZ := Lib.hid hz; clear hz
      have hv0 : mval l = 0 := by
        rw [← HV.out, trim, HH.out.len, HZ.out]; rfl
      have HV0 := Lib.hid hv0; clear hv0
      have e1 : ¬ (0 : Int) < (nlen l n : Int) := by rw [HZ.out]; omega
      cases g
      all_goals
        go_enter Try.func40, Try.ntmps40
        go_wp2_with (go_at_call 56; refine (normal_c _ _ _ _ _ (HH.out.keep ((IK.refl _).alloc _))).mono ?_; rintro e w' ⟨rfl, rfl⟩)
        refine bodyPost_ret (v := .tuple #[.agg #[.bool false, .slice a (nlen l n) c], .int .i64 0]) (by simp [results, Try.results40, go_sem]) rfl ?_
        refine ⟨⟨false, a, nlen l n, c⟩, 0, 0, rfl, ⟨trim l, HW.out.keep ((IK.refl _).alloc _), HN.out, hb', by simp, by rw [HV.out, HV0.out]; rfl⟩, (Ext.refl _).alloc _, ?_⟩
        rw [if_pos (by rw [← HV.out, HK.out]; omega), HV0.out, sgn_zero]; exact ⟨rfl, rfl⟩

/-- What 'From' and others return: the number x. -/
def RetI (x : Int) (w : World) (e : Ending) (w' : World) : Prop := ∃ r : IV, e = .returned r.v ∧ IsI w' r x ∧ Ext w w'
def RetIE (x : Int) (err : Int) (w : World) (e : Ending) (w' : World) : Prop := ∃ r : IV, e = .returned (.tuple #[r.v, .int .i64 err]) ∧ IsI w' r x ∧ Ext w w'

end Go.Proofs.Ytlnmgcmpbbklhaa
