/- shield: the closures of Hide. -/
import Derived.Test.YtkoidookanmknaaSV19
namespace Go.Proofs.Ytkoidookanmknaa
set_option linter.unusedSimpArgs false
set_option linter.unusedVariables false
open Go.RowKit

/-- The published set with the least value for which a function holds, or -1. -/
def bestF (zs : List Int) (hs : List Bool) (P : Nat → Bool) : Nat → Int
 | 0 => -1
 | i + 1 => if hs.getD i false = false ∧ (bestF zs hs P i < 0 ∨ zs.getD i 0 < zs.getD (bestF zs hs P i).toNat 0) ∧ P i = true then (i : Int) else bestF zs hs P i
theorem bestF_bd (zs : List Int) (hs : List Bool) (P : Nat → Bool) : ∀ i, -1 ≤ bestF zs hs P i ∧ bestF zs hs P i < i
 | 0 => by unfold bestF; omega
 | i + 1 => by
  have := bestF_bd zs hs P i
  unfold bestF
  split <;> omega
theorem bestF_pub (zs : List Int) (hs : List Bool) (P : Nat → Bool) : ∀ i, 0 ≤ bestF zs hs P i → hs.getD (bestF zs hs P i).toNat false = false ∧ P (bestF zs hs P i).toNat = true
 | 0, h => by unfold bestF at h; omega
 | i + 1, h => by
  unfold bestF at h ⊢
  split
  ·rename_i h1
   rw [if_pos h1] at h
   exact ⟨h1.1, h1.2.2⟩
  ·rename_i h1
   rw [if_neg h1] at h
   exact bestF_pub zs hs P i h
theorem bestF_some (zs : List Int) (hs : List Bool) (P : Nat → Bool) : ∀ i j, j < i → hs.getD j false = false → P j = true → 0 ≤ bestF zs hs P i
 | 0, j, h, _, _ => by omega
 | i + 1, j, h, h1, h2 => by
  unfold bestF
  by_cases hj : j = i
  ·subst hj
   by_cases h3 : bestF zs hs P j < 0
   ·rw [if_pos ⟨h1, .inl h3, h2⟩]; omega
   ·split <;> omega
  ·have := bestF_some zs hs P i j (by omega) h1 h2
   split <;> omega
/-- What the closures of Hide see. -/
structure HCtx (w : World) (n m sb hx hb : Nat) (ss vs : Sl) (gs : List Sl) (Ls : List (List Int)) (zs : List Int) (hs : List Bool) : Prop where
 s0 : w.cell? ⟨sb, 0, none⟩ = some (.int .i64 (n : Int))
 s1 : w.cell? ⟨sb, 1, none⟩ = some ss.v
 s2 : w.cell? ⟨sb, 2, none⟩ = some vs.v
 h0 : w.cell? ⟨hx, 0, none⟩ = some (.slice (some ⟨hb, 0, none⟩) m m)
 ok : SheetOK w n ss gs Ls
 vals : Ints w vs.a vs.n zs
 bls : Bls w (some ⟨hb, 0, none⟩) m hs
 lm : Ls.length = m
 zm : zs.length = m
 few : FewOK Ls
 n32 : n ≤ 1000
theorem HCtx.ext {w w' : World} {n m sb hx hb : Nat} {ss vs : Sl} {gs : List Sl} {Ls : List (List Int)} {zs : List Int} {hs : List Bool} (h : HCtx w n m sb hx hb ss vs gs Ls zs hs) (k : Ext w w') : HCtx w' n m sb hx hb ss vs gs Ls zs hs :=
 ⟨k.cell h.s0, k.cell h.s1, k.cell h.s2, k.cell h.h0, h.ok.ext k, h.vals.keep k.ik, h.bls.ext k, h.lm, h.zm, h.few, h.n32⟩
/-- Whether hiding one more set leaves set h undetermined. -/
noncomputable def stillF (Ls : List (List Int)) (hs : List Bool) (h : Nat) (i : Nat) : Bool := !dB Ls (hs.set i true) h
set_option maxRecDepth 100000 in
set_option maxHeartbeats 4000000 in
theorem hide2_c (n m sb hx hb hvx h k : Nat) (ss vs : Sl) (gs : List Sl) (Ls : List (List Int)) (zs : List Int) (hs : List Bool) (w : World) (hc : HCtx w n m sb hx hb ss vs gs Ls zs hs) (hh : w.cell? ⟨hvx, 0, none⟩ = some (.int .i64 (h : Int))) (hk : k < m) (hhm : h < m) (hm : m ≤ 1000000) :
  Calls Try.prog 40 #[.int .i64 (k : Int), .pointer (some ⟨sb, 0, none⟩), .pointer (some ⟨hx, 0, none⟩), .pointer (some ⟨hvx, 0, none⟩)] w fun e w' => e = .returned (.bool (stillF Ls hs h k)) ∧ Ext w w' := by
 have H := Lib.hid hc
 have HH := Lib.hid hh
 have hmn : ss.n = m := by have := hc.ok.grps.2.1; have := hc.lm; omega
 have hhs : h < ss.n := by omega
 have HMN := Lib.hid hmn
 have hn := hc.n32
 have hok := solve_ok (hs.set k true) hc.few (fun k x hx => (hc.ok.cell k x hx).2) Ls.length (Nat.le_refl _)
 have HOK := Lib.hid hok
 have HDI := Lib.hid (det_iff (n := n) (hs.set k true) hc.few (fun k x hx => (hc.ok.cell k x hx).2) h)
 clear hc hh hok hmn
 obtain ⟨sa, sn, sc⟩ := ss
 obtain ⟨va, vn, vc⟩ := vs
 go_enter Try.func40, Try.ntmps40
 go_upto_region 1 with (fail)
 refine wp_region_held_drew (S := fun W => Ext w W) (by kernel_rfl) (Ext.refl w).drew (fun hHeld => ?_)
 refine takeL (i := 0) (v := ?_) rfl (by kernel_rfl) (by kernel_rfl) (by kernel_rfl) (fun _ _ _ h => h) (Or.inl ⟨by rfl, ?_⟩) (by assumption) ?_; rotate_left; (focus (intro wq hSw; have x0 := hSw.cell H.out.s0; have x1 := hSw.cell H.out.s1; have x2 := hSw.cell H.out.s2; have x3 := hSw.cell H.out.h0; have x4 := hSw.cell HH.out; (try simp only [Sl.v] at x1 x2); clear hSw; go_simp; try with_reducible rfl)); (try simp only [Act.put, List.setIfInBounds_toArray, List.set_cons_zero, List.set_cons_succ])
 refine takeL (i := 1) (v := ?_) rfl (by kernel_rfl) (by kernel_rfl) (by kernel_rfl) (fun _ _ _ h => h) (Or.inl ⟨by rfl, ?_⟩) (by assumption) ?_; rotate_left; (focus (intro wq hSw; have x0 := hSw.cell H.out.s0; have x1 := hSw.cell H.out.s1; have x2 := hSw.cell H.out.s2; have x3 := hSw.cell H.out.h0; have x4 := hSw.cell HH.out; (try simp only [Sl.v] at x1 x2); clear hSw; go_simp; try with_reducible rfl)); (try simp only [Act.put, List.setIfInBounds_toArray, List.set_cons_zero, List.set_cons_succ])
 refine takeL (i := 2) (v := ?_) rfl (by kernel_rfl) (by kernel_rfl) (by kernel_rfl) (fun _ _ _ h => h) (Or.inl ⟨by rfl, ?_⟩) (by assumption) ?_; rotate_left; (focus (intro wq hSw; (try dsimp only at hSw); go_simp; try with_reducible rfl)); (try simp only [Act.put, List.setIfInBounds_toArray, List.set_cons_zero, List.set_cons_succ])
 refine takeL (i := 5) (v := ?_) rfl (by kernel_rfl) (by kernel_rfl) (by kernel_rfl) (fun _ _ _ h => h) (Or.inl ⟨by rfl, ?_⟩) (by assumption) ?_; rotate_left; (focus (intro wq hSw; have x0 := hSw.cell H.out.s0; have x1 := hSw.cell H.out.s1; have x2 := hSw.cell H.out.s2; have x3 := hSw.cell H.out.h0; have x4 := hSw.cell HH.out; (try simp only [Sl.v] at x1 x2); clear hSw; go_simp; try with_reducible rfl)); (try simp only [Act.put, List.setIfInBounds_toArray, List.set_cons_zero, List.set_cons_succ])
 refine consL (i := 3) (by kernel_rfl) rfl (fun K hK => ?_); go_simp; go_at_call 41; refine (with_c (some ⟨hb, 0, none⟩) m m k hs _ (H.out.bls.ext (by assumption)) hk hm).mono ?_; rintro e w2 ⟨g, cap, rfl, hg, hx2⟩; go_wp2_with fail; refine hK.out _ _ ?_ ?_; rotate_left; clear hK K; (try clear hHeld); intro hHeld; rotate_right; (focus ((try dsimp only); exact kept)); (try simp only [Act.put, List.setIfInBounds_toArray, List.set_cons_zero, List.set_cons_succ])
 have HG := Lib.hid hg
 clear hg
 refine consL (i := 4) (by kernel_rfl) rfl (fun K hK => ?_); go_simp; go_at_call 35; refine (solve_c n m ⟨sa, sn, sc⟩ ⟨va, vn, vc⟩ gs Ls (some ⟨g, 0, none⟩) cap (hs.set k true) _ (H.out.ok.ext (by assumption)) H.out.lm H.out.few hn HG.out).mono ?_; rintro e w3 ⟨xb, rv, lv, bs, rfl, hS, hx3⟩; go_wp2_with fail; refine hK.out _ _ ?_ ?_; rotate_left; clear hK K; (try clear hHeld); intro hHeld; rotate_right; (focus ((try dsimp only); exact kept)); (try simp only [Act.put, List.setIfInBounds_toArray, List.set_cons_zero, List.set_cons_succ])
 have HS := Lib.hid hS
 clear hS
 refine consL (i := 6) (by kernel_rfl) rfl (fun K hK => ?_); go_simp; go_at_call 36; refine (det_c _ xb n (solveR n Ls (hs.set k true) Ls.length).length h ⟨sa, sn, sc⟩ ⟨va, vn, vc⟩ rv lv (solveR n Ls (hs.set k true) m) bs gs Ls _ HS.out (H.out.ok.ext (by assumption)) hhs hn (by rw [← H.out.lm]; exact HOK.out.sol) HOK.out.le12).mono ?_; rw [← H.out.lm, dB_of HDI.out]; rintro e w4 ⟨rfl, hx4⟩; go_wp2_with fail; refine hK.out _ _ ?_ ?_; rotate_left; clear hK K; (try clear hHeld); intro hHeld; rotate_right; (focus ((try dsimp only); exact kept)); (try simp only [Act.put, List.setIfInBounds_toArray, List.set_cons_zero, List.set_cons_succ])
 refine takeL (i := 7) (v := ?_) rfl (by kernel_rfl) (by kernel_rfl) (by kernel_rfl) (fun _ _ _ h => h) (Or.inl ⟨by rfl, ?_⟩) (by assumption) ?_; rotate_left; (focus (intro wq hSw; (try dsimp only at hSw); go_simp; try with_reducible rfl)); (try simp only [Act.put, List.setIfInBounds_toArray, List.set_cons_zero, List.set_cons_succ])
 refine takeL (i := 8) (v := ?_) rfl (by kernel_rfl) (by kernel_rfl) (by kernel_rfl) (fun _ _ _ h => h) (Or.inl ⟨by rfl, ?_⟩) (by assumption) ?_; rotate_left; (focus (intro wq hSw; (try dsimp only at hSw); go_simp; try with_reducible rfl)); (try simp only [Act.put, List.setIfInBounds_toArray, List.set_cons_zero, List.set_cons_succ])
 refine doneL (by kernel_rfl) ?_
 go_wp2_with fail
 go_ret
 exact ⟨rfl, hHeld⟩
set_option maxHeartbeats 400000 in
theorem hide3_c (k : Int) (w : World) : Calls Try.prog 42 #[.int .i64 k] w fun e w' => e = .returned (.bool true) ∧ Ext w w' := by
 go_enter Try.func42, Try.ntmps42
 go_wp2_with fail
 go_ret
 exact ⟨rfl, (by repeat (first | exact Ext.refl _ | assumption | refine Ext.setCell ?_ (by first | (simp; done) | (simp; omega) | omega) _ | refine Ext.alloc ?_ _ | refine Ext.drew ?_ | refine Ext.trans ?_ (by assumption)))⟩
end Go.Proofs.Ytkoidookanmknaa
