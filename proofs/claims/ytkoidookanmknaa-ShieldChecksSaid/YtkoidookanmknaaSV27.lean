/- V24 V25 V26 V27: several texts of this proof in one. -/
import Derived.Test.YtkoidookanmknaaSV23
namespace Go.Proofs.Ytkoidookanmknaa
set_option linter.unusedSimpArgs false
set_option linter.unusedVariables false
open Go.RowKit

set_option maxRecDepth 100000 in
set_option maxHeartbeats 4000000 in
theorem same_c (a b : Option Addr) (n m c d : Nat) (l k : List Bool) (w : World) (hl : Bls w a n l) (hk : Bls w b m k) (hn : n ≤ 1000000) (hm : m ≤ 1000000) :
  Calls Try.prog 22 #[.slice a n c, .slice b m d] w fun e w' => e = .returned (.bool (decide (l = k))) ∧ Ext w w' := by
 have H := Lib.hid (And.intro hl hk)
 by_cases hnm : n = m
 ·subst hnm
  have hll := hl.1
  have hkl := hk.1
  have HL := Lib.hid (And.intro hll hkl)
  clear hl hk hll hkl
  go_enter Try.func22, Try.ntmps22
  go_upto_region 4 with (fail)
  go_loopw [5] (fun iv ws => ∃ i : Nat, i ≤ n ∧ iv = .int .i64 (i : Int) ∧ (∀ j, j < i → l.getD j false = k.getD j false) ∧ Ext w ws) (fun iv _ => n - (intOf iv).toNat)
  case atStart => exact ⟨0, by omega, rfl, fun j hj => absurd hj (by omega), Ext.refl w⟩
  case round =>
   obtain ⟨i, hi, rfl, hq, hE⟩ := hrel
   have HQ := Lib.hid hq
   clear hq
   by_cases hlt : i < n
   ·obtain ⟨ab, ao, rfl, _, hac⟩ := (H.out.1.ext hE).at i hlt
    obtain ⟨bb, bo, rfl, _, hbc⟩ := (H.out.2.ext hE).at i hlt
    have HA := Lib.hid (fun W (e : Ext wr W) => e.cell hac)
    have HB := Lib.hid (fun W (e : Ext wr W) => e.cell hbc)
    have HE := Lib.hid hE
    clear hE hac hbc
    obtain ⟨x, hx⟩ : ∃ x, l.getD i false = x := ⟨_, rfl⟩
    obtain ⟨y, hy⟩ : ∃ y, k.getD i false = y := ⟨_, rfl⟩
    rw [hx] at HA
    rw [hy] at HB
    have HXY := Lib.hid (And.intro hx hy)
    clear hx hy
    have i0 : (0 : Int) ≤ (i : Int) := by omega
    have i1 : (i : Int) < (n : Int) := by omega
    by_cases hxy : x = y
    ·subst hxy
     go_upto_region 6 with (fail)
     refine wp_region_held_drew (S := fun W => Ext wr W) (by kernel_rfl) (Ext.refl wr).drew (fun hHeld => ?_)
     refine takeL (i := 0) (v := ?_) rfl (by kernel_rfl) (by kernel_rfl) (by kernel_rfl) (fun _ _ _ h => h) (Or.inl ⟨by rfl, ?_⟩) (by assumption) ?_; rotate_left; (focus (intro wq hSw; (try dsimp only at hSw); go_simp; try with_reducible rfl)); (try simp only [Act.put, List.setIfInBounds_toArray, List.set_cons_zero, List.set_cons_succ])
     refine takeL (i := 1) (v := ?_) rfl (by kernel_rfl) (by kernel_rfl) (by kernel_rfl) (fun _ _ _ h => h) (Or.inl ⟨by rfl, ?_⟩) (by assumption) ?_; rotate_left; (focus (intro wq hSw; (try dsimp only at hSw); go_simp; try with_reducible rfl)); (try simp only [Act.put, List.setIfInBounds_toArray, List.set_cons_zero, List.set_cons_succ])
     refine takeL (i := 2) (v := ?_) rfl (by kernel_rfl) (by kernel_rfl) (by kernel_rfl) (fun _ _ _ h => h) (Or.inl ⟨by rfl, ?_⟩) (by assumption) ?_; rotate_left; (focus (intro wq hSw; (try dsimp only at hSw); go_simp; try with_reducible rfl)); (try simp only [Act.put, List.setIfInBounds_toArray, List.set_cons_zero, List.set_cons_succ])
     refine takeL (i := 3) (v := ?_) rfl (by kernel_rfl) (by kernel_rfl) (by kernel_rfl) (fun _ _ _ h => h) (Or.inl ⟨by rfl, ?_⟩) (by assumption) ?_; rotate_left; (focus (intro wq hSw; have hcc := HA.out wq hSw; clear hSw; go_simp; try with_reducible rfl)); (try simp only [Act.put, List.setIfInBounds_toArray, List.set_cons_zero, List.set_cons_succ])
     refine takeL (i := 4) (v := ?_) rfl (by kernel_rfl) (by kernel_rfl) (by kernel_rfl) (fun _ _ _ h => h) (Or.inl ⟨by rfl, ?_⟩) (by assumption) ?_; rotate_left; (focus (intro wq hSw; (try dsimp only at hSw); go_simp; try with_reducible rfl)); (try simp only [Act.put, List.setIfInBounds_toArray, List.set_cons_zero, List.set_cons_succ])
     refine takeL (i := 5) (v := ?_) rfl (by kernel_rfl) (by kernel_rfl) (by kernel_rfl) (fun _ _ _ h => h) (Or.inl ⟨by rfl, ?_⟩) (by assumption) ?_; rotate_left; (focus (intro wq hSw; (try dsimp only at hSw); go_simp; try with_reducible rfl)); (try simp only [Act.put, List.setIfInBounds_toArray, List.set_cons_zero, List.set_cons_succ])
     refine takeL (i := 6) (v := ?_) rfl (by kernel_rfl) (by kernel_rfl) (by kernel_rfl) (fun _ _ _ h => h) (Or.inl ⟨by rfl, ?_⟩) (by assumption) ?_; rotate_left; (focus (intro wq hSw; (try dsimp only at hSw); go_simp; try with_reducible rfl)); (try simp only [Act.put, List.setIfInBounds_toArray, List.set_cons_zero, List.set_cons_succ])
     refine takeL (i := 7) (v := ?_) rfl (by kernel_rfl) (by kernel_rfl) (by kernel_rfl) (fun _ _ _ h => h) (Or.inl ⟨by rfl, ?_⟩) (by assumption) ?_; rotate_left; (focus (intro wq hSw; have hcc := HB.out wq hSw; clear hSw; go_simp; try with_reducible rfl)); (try simp only [Act.put, List.setIfInBounds_toArray, List.set_cons_zero, List.set_cons_succ])
     refine takeL (i := 8) (v := ?_) rfl (by kernel_rfl) (by kernel_rfl) (by kernel_rfl) (fun _ _ _ h => h) (Or.inl ⟨by rfl, ?_⟩) (by assumption) ?_; rotate_left; (focus (intro wq hSw; (try dsimp only at hSw); go_simp; try with_reducible rfl)); (try simp only [Act.put, List.setIfInBounds_toArray, List.set_cons_zero, List.set_cons_succ])
     refine doneL (by kernel_rfl) ?_
     have HX := Lib.hid (HE.out.trans hHeld)
     clear hHeld
     go_wp2_with fail
     go_roundw
     case rel => exact ⟨i + 1, by omega, by go_num, fun j hj => by
      by_cases e : j = i
      ·rw [e, HXY.out.1, HXY.out.2]
      ·exact HQ.out j (by omega), HX.out⟩
     case measure => simp [intOf]; omega
    ·have hne : (x == y) = false := by rw [beq_eq_false_iff_ne]; exact hxy
     have HN := Lib.hid (show decide (l = k) = false by
      rw [decide_eq_false_iff_not]
      intro e
      rw [e] at HXY
      exact hxy (HXY.out.1.symm.trans HXY.out.2))
     clear hxy
     go_upto_region 6 with (fail)
     refine wp_region_held_drew (S := fun W => Ext wr W) (by kernel_rfl) (Ext.refl wr).drew (fun hHeld => ?_)
     refine takeL (i := 0) (v := ?_) rfl (by kernel_rfl) (by kernel_rfl) (by kernel_rfl) (fun _ _ _ h => h) (Or.inl ⟨by rfl, ?_⟩) (by assumption) ?_; rotate_left; (focus (intro wq hSw; (try dsimp only at hSw); go_simp; try with_reducible rfl)); (try simp only [Act.put, List.setIfInBounds_toArray, List.set_cons_zero, List.set_cons_succ])
     refine takeL (i := 1) (v := ?_) rfl (by kernel_rfl) (by kernel_rfl) (by kernel_rfl) (fun _ _ _ h => h) (Or.inl ⟨by rfl, ?_⟩) (by assumption) ?_; rotate_left; (focus (intro wq hSw; (try dsimp only at hSw); go_simp; try with_reducible rfl)); (try simp only [Act.put, List.setIfInBounds_toArray, List.set_cons_zero, List.set_cons_succ])
     refine takeL (i := 2) (v := ?_) rfl (by kernel_rfl) (by kernel_rfl) (by kernel_rfl) (fun _ _ _ h => h) (Or.inl ⟨by rfl, ?_⟩) (by assumption) ?_; rotate_left; (focus (intro wq hSw; (try dsimp only at hSw); go_simp; try with_reducible rfl)); (try simp only [Act.put, List.setIfInBounds_toArray, List.set_cons_zero, List.set_cons_succ])
     refine takeL (i := 3) (v := ?_) rfl (by kernel_rfl) (by kernel_rfl) (by kernel_rfl) (fun _ _ _ h => h) (Or.inl ⟨by rfl, ?_⟩) (by assumption) ?_; rotate_left; (focus (intro wq hSw; have hcc := HA.out wq hSw; clear hSw; go_simp; try with_reducible rfl)); (try simp only [Act.put, List.setIfInBounds_toArray, List.set_cons_zero, List.set_cons_succ])
     refine takeL (i := 4) (v := ?_) rfl (by kernel_rfl) (by kernel_rfl) (by kernel_rfl) (fun _ _ _ h => h) (Or.inl ⟨by rfl, ?_⟩) (by assumption) ?_; rotate_left; (focus (intro wq hSw; (try dsimp only at hSw); go_simp; try with_reducible rfl)); (try simp only [Act.put, List.setIfInBounds_toArray, List.set_cons_zero, List.set_cons_succ])
     refine takeL (i := 5) (v := ?_) rfl (by kernel_rfl) (by kernel_rfl) (by kernel_rfl) (fun _ _ _ h => h) (Or.inl ⟨by rfl, ?_⟩) (by assumption) ?_; rotate_left; (focus (intro wq hSw; (try dsimp only at hSw); go_simp; try with_reducible rfl)); (try simp only [Act.put, List.setIfInBounds_toArray, List.set_cons_zero, List.set_cons_succ])
     refine takeL (i := 6) (v := ?_) rfl (by kernel_rfl) (by kernel_rfl) (by kernel_rfl) (fun _ _ _ h => h) (Or.inl ⟨by rfl, ?_⟩) (by assumption) ?_; rotate_left; (focus (intro wq hSw; (try dsimp only at hSw); go_simp; try with_reducible rfl)); (try simp only [Act.put, List.setIfInBounds_toArray, List.set_cons_zero, List.set_cons_succ])
     refine takeL (i := 7) (v := ?_) rfl (by kernel_rfl) (by kernel_rfl) (by kernel_rfl) (fun _ _ _ h => h) (Or.inl ⟨by rfl, ?_⟩) (by assumption) ?_; rotate_left; (focus (intro wq hSw; have hcc := HB.out wq hSw; clear hSw; go_simp; try with_reducible rfl)); (try simp only [Act.put, List.setIfInBounds_toArray, List.set_cons_zero, List.set_cons_succ])
     refine takeL (i := 8) (v := ?_) rfl (by kernel_rfl) (by kernel_rfl) (by kernel_rfl) (fun _ _ _ h => h) (Or.inl ⟨by rfl, ?_⟩) (by assumption) ?_; rotate_left; (focus (intro wq hSw; (try dsimp only at hSw); go_simp; try with_reducible rfl)); (try simp only [Act.put, List.setIfInBounds_toArray, List.set_cons_zero, List.set_cons_succ])
     refine doneL (by kernel_rfl) ?_
     have HX := Lib.hid (HE.out.trans hHeld)
     clear hHeld
     cases x <;> cases y <;> first | (simp at hne; done) | (go_wp2_with fail; go_ret; exact ⟨by rw [HN.out]; rfl, HX.out⟩)
   ·obtain rfl : n = i := by omega
    have HN := Lib.hid (show decide (l = k) = true by
     rw [decide_eq_true_iff]
     refine List.ext_getElem (HL.out.1.trans HL.out.2.symm) fun j h1 h2 => ?_
     have := HQ.out j (by have := HL.out.1; omega)
     simpa [List.getD_eq_getElem?_getD, h1, h2] using this)
    go_wp2_with fail
    go_ret
    exact ⟨by rw [HN.out]; rfl, hE⟩
 ·have HN := Lib.hid (show decide (l = k) = false by
   rw [decide_eq_false_iff_not]
   intro e
   exact hnm (by rw [← hl.1, ← hk.1, e]))
  have hne : ((n : Int) == (m : Int)) = false := by rw [beq_eq_false_iff_ne]; omega
  clear hl hk hnm
  go_enter Try.func22, Try.ntmps22
  go_wp2_with fail
  go_ret
  exact ⟨by rw [HN.out]; rfl, (by repeat (first | exact Ext.refl _ | assumption | refine Ext.setCell ?_ (by first | (simp; done) | (simp; omega) | omega) _ | refine Ext.alloc ?_ _ | refine Ext.drew ?_ | refine Ext.trans ?_ (by assumption)))⟩
/-- The sheet of the example. -/
def Ls0 : List (List Int) := [[0, 1], [2, 3], [0, 1, 2, 3], [0], [1], [2], [3]]
def zs0 : List Int := [9, 50, 59, 2, 7, 20, 30]
theorem few0 : FewOK Ls0 := .inl (by decide)
theorem row_eq0 : rowV [0] = vless (rowV [0, 1]) (rowV [1]) 1 := funext fun c => by
 unfold vless rowV
 rcases (show c = 0 ∨ c = 1 ∨ 2 ≤ c by omega) with rfl | rfl | h
 ·decide +kernel
 ·decide +kernel
 ·rw [if_neg (by simp; omega), if_neg (by simp; omega), if_neg (by simp; omega)]; grind
theorem row_eq1 : rowV [0] = vless (vless (rowV [0, 1, 2, 3]) (rowV [2, 3]) 1) (rowV [1]) 1 := funext fun c => by
 unfold vless rowV
 rcases (show c = 0 ∨ c = 1 ∨ c = 2 ∨ c = 3 ∨ 4 ≤ c by omega) with rfl | rfl | rfl | rfl | h
 ·decide +kernel
 ·decide +kernel
 ·decide +kernel
 ·decide +kernel
 ·rw [if_neg (by simp; omega), if_neg (by simp; omega), if_neg (by simp; omega), if_neg (by simp; omega)]; grind
theorem det_a {hs : List Bool} (h0 : hs.getD 0 false = false) (h4 : hs.getD 4 false = false) : dB Ls0 hs 3 = true := by
 rw [dB_iff]
 unfold Det
 rw [show Ls0.getD 3 [] = [0] from rfl, row_eq0]
 exact Sp.less (Sp.mem ⟨0, by decide, h0, rfl⟩) (Sp.mem ⟨4, by decide, h4, rfl⟩) 1
theorem det_b {hs : List Bool} (h1 : hs.getD 1 false = false) (h2 : hs.getD 2 false = false) (h4 : hs.getD 4 false = false) : dB Ls0 hs 3 = true := by
 rw [dB_iff]
 unfold Det
 rw [show Ls0.getD 3 [] = [0] from rfl, row_eq1]
 exact Sp.less (Sp.less (Sp.mem ⟨2, by decide, h2, rfl⟩) (Sp.mem ⟨1, by decide, h1, rfl⟩) 1) (Sp.mem ⟨4, by decide, h4, rfl⟩) 1
def hs2 : List Bool := [false, false, false, true, true, false, false]
theorem nodet {k : Nat} (hk : rowV (Ls0.getD k []) 0 - rowV (Ls0.getD k []) 1 ≠ 0) : dB Ls0 hs2 k = false := by
 cases hd : dB Ls0 hs2 k with
 | false => rfl
 | true =>
  exfalso
  have h := (dB_iff _ _ _).1 hd
  refine hk (Sp.lin (fun v => v 0 - v 1) (by decide +kernel) (fun v u a => by unfold vadd; grind) ?_ h)
  rintro u ⟨i, hi, h1, rfl⟩
  match i, hi with
  | 0, _ => decide +kernel
  | 1, _ => decide +kernel
  | 2, _ => decide +kernel
  | 3, _ => exact absurd h1 (by decide)
  | 4, _ => exact absurd h1 (by decide)
  | 5, _ => decide +kernel
  | 6, _ => decide +kernel
  | i + 7, hi => exact absurd hi (by simp [Ls0])
theorem hide_ex : hideF (dB Ls0) zs0 7 8 (hide0 zs0 3 7) = hs2 := by
 have e0 : hide0 zs0 3 7 = [false, false, false, true, false, false, false] := by decide
 have d3 : dB Ls0 [false, false, false, true, false, false, false] 3 = true := det_a rfl rfl
 have p0 : dB Ls0 [true, false, false, true, false, false, false] 3 = true := det_b rfl rfl rfl
 have p1 : dB Ls0 [false, true, false, true, false, false, false] 3 = true := det_a rfl rfl
 have p2 : dB Ls0 [false, false, true, true, false, false, false] 3 = true := det_a rfl rfl
 have p4 : dB Ls0 [false, false, false, true, true, false, false] 3 = false := nodet (k := 3) (by decide +kernel)
 have q4 : dB Ls0 [false, false, false, true, true, false, false] 4 = false := nodet (k := 4) (by decide +kernel)
 have n1 : nextF (dB Ls0) [false, false, false, true, false, false, false] 7 = 3 := firstF_some _ _ _ 3 (by omega) (by omega) (by simp [d3]) (fun j _ hj => by
  match j, hj with
  | 0, _ => rfl
  | 1, _ => rfl
  | 2, _ => rfl
  | j + 3, hj => omega)
 have n2 : nextF (dB Ls0) [false, false, false, true, true, false, false] 7 = -1 := firstF_none _ _ _ (fun j _ hj => by
  match j, hj with
  | 0, _ => rfl
  | 1, _ => rfl
  | 2, _ => rfl
  | 3, _ => simp [p4]
  | 4, _ => simp [q4]
  | 5, _ => rfl
  | 6, _ => rfl
  | j + 7, hj => omega)
 have m1 : moreF (dB Ls0) zs0 [false, false, false, true, false, false, false] 7 3 = 4 := by
  unfold moreF
  simp [bestF, zs0, p0, p1, p2, p4]
 rw [e0]
 show (if nextF (dB Ls0) [false, false, false, true, false, false, false] 7 < 0 then _ else hideF (dB Ls0) zs0 7 7 ([false, false, false, true, false, false, false].set (moreF (dB Ls0) zs0 [false, false, false, true, false, false, false] 7 (nextF (dB Ls0) [false, false, false, true, false, false, false] 7).toNat).toNat true)) = hs2
 rw [n1, if_neg (by decide), show (3 : Int).toNat = 3 from rfl, m1]
 show (if nextF (dB Ls0) [false, false, false, true, true, false, false] 7 < 0 then [false, false, false, true, true, false, false] else _) = hs2
 rw [n2, if_pos (by decide)]
 rfl
end Go.Proofs.Ytkoidookanmknaa
namespace Go.Proofs.Ytkoidookanmknaa
set_option linter.unusedSimpArgs false
set_option linter.unusedVariables false
open Go.RowKit

theorem blk_ints {w : World} {b n : Nat} {l : List Int} (h : Blk w b (icells l) 3) (hl : l.length = n) (hn : l.length ≤ 1000000) (h64 : ∀ x, x ∈ l → Int64 x) : Ints w (some ⟨b, 0, none⟩) n l :=
 IRow.ints h hl (by omega) (fun i hi => h64 _ (by rw [List.getD_eq_getElem?_getD, List.getElem?_eq_getElem (by omega)]; exact List.getElem_mem _))
def gs0 (B : Nat) : List Sl := [⟨some ⟨B, 0, none⟩, 2, 2⟩, ⟨some ⟨B + 1, 0, none⟩, 2, 2⟩, ⟨some ⟨B + 1 + 1, 0, none⟩, 4, 4⟩, ⟨some ⟨B + 1 + 1 + 1, 0, none⟩, 1, 1⟩, ⟨some ⟨B + 1 + 1 + 1 + 1, 0, none⟩, 1, 1⟩, ⟨some ⟨B + 1 + 1 + 1 + 1 + 1, 0, none⟩, 1, 1⟩, ⟨some ⟨B + 1 + 1 + 1 + 1 + 1 + 1, 0, none⟩, 1, 1⟩]
theorem sh0 {W : World} {B G V : Nat} (h0 : Blk W B #[.int .i64 0, .int .i64 1] 3) (h1 : Blk W (B + 1) #[.int .i64 2, .int .i64 3] 3) (h2 : Blk W (B + 1 + 1) #[.int .i64 0, .int .i64 1, .int .i64 2, .int .i64 3] 3) (h3 : Blk W (B + 1 + 1 + 1) #[.int .i64 0] 3) (h4 : Blk W (B + 1 + 1 + 1 + 1) #[.int .i64 1] 3)
  (h5 : Blk W (B + 1 + 1 + 1 + 1 + 1) #[.int .i64 2] 3) (h6 : Blk W (B + 1 + 1 + 1 + 1 + 1 + 1) #[.int .i64 3] 3) (hG : Blk W G ((gs0 B).map Sl.v).toArray 22) (hV : Blk W V (icells zs0) 3) :
  ShIn W 4 ⟨some ⟨G, 0, none⟩, 7, 7⟩ ⟨some ⟨V, 0, none⟩, 7, 7⟩ (gs0 B) Ls0 zs0 := by
 have i64 : ∀ l : List Int, (∀ x, x ∈ l → 0 ≤ x ∧ x ≤ 100) → ∀ x, x ∈ l → Int64 x := fun l h x hx => by have := h x hx; exact ⟨by omega, by omega⟩
 refine ⟨⟨rfl, rfl, show (7 : Nat) ≤ 1000000 by decide, .inr ⟨G, 0, rfl, hG.lt, fun i hi => ?_⟩, fun i hi => ?_⟩, blk_ints hV rfl (by decide) (i64 _ (by decide)), fun k => ?_⟩
 ·rw [Nat.zero_add, hG.cell]
  match i, hi with
  | 0, _ => rfl
  | 1, _ => rfl
  | 2, _ => rfl
  | 3, _ => rfl
  | 4, _ => rfl
  | 5, _ => rfl
  | 6, _ => rfl
  | i + 7, hi => exact absurd (show i + 7 < 7 from hi) (by omega)
 ·match i, hi with
  | 0, _ => exact blk_ints (l := [0, 1]) h0 rfl (by decide) (i64 _ (by decide))
  | 1, _ => exact blk_ints (l := [2, 3]) h1 rfl (by decide) (i64 _ (by decide))
  | 2, _ => exact blk_ints (l := [0, 1, 2, 3]) h2 rfl (by decide) (i64 _ (by decide))
  | 3, _ => exact blk_ints (l := [0]) h3 rfl (by decide) (i64 _ (by decide))
  | 4, _ => exact blk_ints (l := [1]) h4 rfl (by decide) (i64 _ (by decide))
  | 5, _ => exact blk_ints (l := [2]) h5 rfl (by decide) (i64 _ (by decide))
  | 6, _ => exact blk_ints (l := [3]) h6 rfl (by decide) (i64 _ (by decide))
  | i + 7, hi => exact absurd (show i + 7 < 7 from hi) (by omega)
 ·match k with
  | 0 => decide
  | 1 => decide
  | 2 => decide
  | 3 => decide
  | 4 => decide
  | 5 => decide
  | 6 => decide
  | k + 7 => show ([] : List Int).length ≤ 1000; decide
theorem check0 : checkE 4 Ls0 zs0 7 3 = 0 := by decide
def hs1 : List Bool := [false, false, false, true, false, false, false]
theorem bls7 {w : World} {b : Nat} (l : List Bool) (h : Blk w b (l.map Value.bool).toArray 4) : Bls w (some ⟨b, 0, none⟩) l.length l := by
 refine ⟨rfl, .inr ⟨b, 0, rfl, h.lt, fun i hi => ?_⟩⟩
 rw [Nat.zero_add, h.cell]
 simp [List.getD_eq_getElem?_getD, hi]
set_option maxRecDepth 100000 in
set_option maxHeartbeats 4000000 in
theorem lives_c (w : World) : Calls Try.prog 19 #[] w fun e w' => e = .returned (.bool true) ∧ Ext w w' := by
 obtain ⟨B, hB⟩ : ∃ B, w.heap.size = B := ⟨_, rfl⟩
 go_enter Try.func19, Try.ntmps19
 go_upto_region 2 with (fail)
 refine wp_gen (fun W => Ext w W ∧ ShIn W 4 ⟨some ⟨B + 1 + 1 + 1 + 1 + 1 + 1 + 1, 0, none⟩, 7, 7⟩ ⟨some ⟨B + 1 + 1 + 1 + 1 + 1 + 1 + 1 + 1, 0, none⟩, 7, 7⟩ (gs0 B) Ls0 zs0 ∧ Blk W (B + 1 + 1 + 1 + 1 + 1 + 1 + 1 + 1 + 1) #[.int .i64 4, .slice (some ⟨B + 1 + 1 + 1 + 1 + 1 + 1 + 1, 0, none⟩) 7 7, .slice (some ⟨B + 1 + 1 + 1 + 1 + 1 + 1 + 1 + 1, 0, none⟩) 7 7] 31)
  ⟨(by repeat (first | exact Ext.refl _ | assumption | refine Ext.setCell ?_ (by first | (simp; done) | (simp; omega) | omega) _ | refine Ext.alloc ?_ _ | refine Ext.drew ?_ | refine Ext.trans ?_ (by assumption))), sh0 ((((((((((Blk.at _ 3 (by simp [hB])).alloc _).alloc _).alloc _).alloc _).alloc _).alloc _).alloc _).alloc _).alloc _) (((((((((Blk.at _ 3 (by simp [hB])).alloc _).alloc _).alloc _).alloc _).alloc _).alloc _).alloc _).alloc _) ((((((((Blk.at _ 3 (by simp [hB])).alloc _).alloc _).alloc _).alloc _).alloc _).alloc _).alloc _) (((((((Blk.at _ 3 (by simp [hB])).alloc _).alloc _).alloc _).alloc _).alloc _).alloc _) ((((((Blk.at _ 3 (by simp [hB])).alloc _).alloc _).alloc _).alloc _).alloc _) (((((Blk.at _ 3 (by simp [hB])).alloc _).alloc _).alloc _).alloc _) ((((Blk.at _ 3 (by simp [hB])).alloc _).alloc _).alloc _) (((Blk.at _ 22 (by simp [hB])).alloc _).alloc _) ((Blk.at _ 3 (by simp [hB])).alloc _), Blk.at _ 31 (by simp [hB])⟩ ?_
 rintro V ⟨E0, S0, B0⟩
 obtain ⟨X, hX⟩ : ∃ X, B + 1 + 1 + 1 + 1 + 1 + 1 + 1 + 1 + 1 = X := ⟨_, rfl⟩
 obtain ⟨G, hG⟩ : ∃ G, B + 1 + 1 + 1 + 1 + 1 + 1 + 1 = G := ⟨_, rfl⟩
 simp only [hX] at B0 ⊢
 simp only [hG] at S0 B0 ⊢
 have HS := Lib.hid (And.intro E0 S0)
 have x0 : V.cell? ⟨X, 0, none⟩ = some (.int .i64 4) := B0.cell 0
 have x1 : V.cell? ⟨X, 1, none⟩ = some (.slice (some ⟨G, 0, none⟩) 7 7) := B0.cell 1
 have x2 : V.cell? ⟨X, 2, none⟩ = some (.slice (some ⟨G + 1, 0, none⟩) 7 7) := B0.cell 2
 have HB := Lib.hid B0
 clear E0 S0 B0 hX hG
 go_wp2_with fail
 have hsz := Ext.refl V
 refine (Determined_c 4 ⟨some ⟨G, 0, none⟩, 7, 7⟩ ⟨some ⟨G + 1, 0, none⟩, 7, 7⟩ (gs0 B) Ls0 zs0 _ 7 7 hs1 3 _ (HS.out.2.ext (by repeat (first | exact Ext.refl _ | assumption | refine Ext.setCell ?_ (by first | (simp; done) | (simp; omega) | omega) _ | refine Ext.alloc ?_ _ | refine Ext.drew ?_ | refine Ext.trans ?_ (by assumption)))) (bls7 hs1 (Blk.at _ 4 rfl)) (by decide) (fun _ => few0)).mono ?_
 rw [if_pos check0, check0, show ((3 : Int).toNat) = 3 from rfl, det_a (hs := hs1) rfl rfl]
 rintro e w2 ⟨rfl, hx2⟩
 have HX := Lib.hid (HS.out.1.trans (Ext.trans (by repeat (first | exact Ext.refl _ | assumption | refine Ext.setCell ?_ (by first | (simp; done) | (simp; omega) | omega) _ | refine Ext.alloc ?_ _ | refine Ext.drew ?_ | refine Ext.trans ?_ (by assumption))) hx2))
 have HS2 := Lib.hid (HS.out.2.ext (Ext.trans (by repeat (first | exact Ext.refl _ | assumption | refine Ext.setCell ?_ (by first | (simp; done) | (simp; omega) | omega) _ | refine Ext.alloc ?_ _ | refine Ext.drew ?_ | refine Ext.trans ?_ (by assumption))) hx2))
 have y0 : w2.cell? ⟨X, 0, none⟩ = some (.int .i64 4) := (Ext.trans (by repeat (first | exact Ext.refl _ | assumption | refine Ext.setCell ?_ (by first | (simp; done) | (simp; omega) | omega) _ | refine Ext.alloc ?_ _ | refine Ext.drew ?_ | refine Ext.trans ?_ (by assumption))) hx2).cell x0
 have y1 : w2.cell? ⟨X, 1, none⟩ = some (.slice (some ⟨G, 0, none⟩) 7 7) := (Ext.trans (by repeat (first | exact Ext.refl _ | assumption | refine Ext.setCell ?_ (by first | (simp; done) | (simp; omega) | omega) _ | refine Ext.alloc ?_ _ | refine Ext.drew ?_ | refine Ext.trans ?_ (by assumption))) hx2).cell x1
 have y2 : w2.cell? ⟨X, 2, none⟩ = some (.slice (some ⟨G + 1, 0, none⟩) 7 7) := (Ext.trans (by repeat (first | exact Ext.refl _ | assumption | refine Ext.setCell ?_ (by first | (simp; done) | (simp; omega) | omega) _ | refine Ext.alloc ?_ _ | refine Ext.drew ?_ | refine Ext.trans ?_ (by assumption))) hx2).cell x2
 clear x0 x1 x2 hx2 hsz
 go_wp2_with fail
 refine (Hide_c 4 3 ⟨some ⟨G, 0, none⟩, 7, 7⟩ ⟨some ⟨G + 1, 0, none⟩, 7, 7⟩ (gs0 B) Ls0 zs0 _ (HS2.out.ext (by repeat (first | exact Ext.refl _ | assumption | refine Ext.setCell ?_ (by first | (simp; done) | (simp; omega) | omega) _ | refine Ext.alloc ?_ _ | refine Ext.drew ?_ | refine Ext.trans ?_ (by assumption)))) (fun _ => few0)).mono ?_
 rintro e w3 (⟨h, _, _⟩ | ⟨_, b, rfl, hb, hx3⟩)
 ·exact absurd (show hideE 4 Ls0 zs0 3 = 0 by decide) h
 rw [show (hideF (dB Ls0) zs0 (7 : Nat) (7 + 1) (hide0 zs0 3 7)) = hs2 from hide_ex] at hb
 have HX3 := Lib.hid (HX.out.trans hx3)
 have HY := Lib.hid hb
 clear y0 y1 y2 hx3 hb
 go_wp2_with fail
 refine (same_c (some ⟨b, 0, none⟩) _ 7 7 7 7 hs2 hs2 _ (HY.out.ext (by repeat (first | exact Ext.refl _ | assumption | refine Ext.setCell ?_ (by first | (simp; done) | (simp; omega) | omega) _ | refine Ext.alloc ?_ _ | refine Ext.drew ?_ | refine Ext.trans ?_ (by assumption)))) (bls7 hs2 (Blk.at _ 4 rfl)) (by decide) (by decide)).mono ?_
 rintro e w4 ⟨rfl, hx4⟩
 rw [show decide (hs2 = hs2) = true from decide_eq_true rfl]
 have HX4 := Lib.hid (HX3.out.trans (Ext.trans (by repeat (first | exact Ext.refl _ | assumption | refine Ext.setCell ?_ (by first | (simp; done) | (simp; omega) | omega) _ | refine Ext.alloc ?_ _ | refine Ext.drew ?_ | refine Ext.trans ?_ (by assumption))) hx4))
 clear hx4
 go_wp2_with fail
 go_ret
 exact ⟨rfl, HX4.out⟩
end Go.Proofs.Ytkoidookanmknaa
namespace Go.Proofs.Ytkoidookanmknaa
set_option linter.unusedSimpArgs false
set_option linter.unusedVariables false
open Go.RowKit

/-- A set of cells. -/
def SetOK (n : Int) (P : List Int) : Prop := P.Pairwise (· < ·) ∧ ∀ x, x ∈ P → 0 ≤ x ∧ x < n
theorem getD_get {P : List Int} {k : Nat} (hk : k < P.length) : P.getD k 0 = P[k] := by simp [List.getD_eq_getElem?_getD, hk]
theorem SetOK.cells {n : Int} {P : List Int} (h : SetOK n P) (k : Nat) (hk : k < P.length) : badC n P k = false := by
 have h1 := h.2 _ (List.getElem_mem hk)
 unfold badC
 rw [getD_get hk]
 simp only [Bool.or_eq_false_iff, decide_eq_false_iff_not, Bool.and_eq_false_iff]
 refine ⟨⟨by omega, by omega⟩, ?_⟩
 by_cases h0 : 0 < k
 ·refine .inr ?_
  rw [getD_get (by omega)]
  have := List.pairwise_iff_getElem.1 h.1 (k - 1) k (by omega) hk (by omega)
  omega
 ·exact .inl h0
theorem SetOK.nil (n : Int) : SetOK n [] := ⟨List.Pairwise.nil, fun x hx => absurd hx (by simp)⟩
theorem SetOK.one {n x : Int} (h0 : 0 ≤ x) (h1 : x < n) : SetOK n [x] := ⟨List.pairwise_singleton _ _, fun y hy => by simp at hy; omega⟩
theorem SetOK.up {n m : Int} {P : List Int} (h : SetOK n P) (hm : n ≤ m) : SetOK m P := ⟨h.1, fun x hx => by have := h.2 x hx; omega⟩
theorem SetOK.add {n : Int} {P : List Int} (h : SetOK n P) (h0 : 0 ≤ n) : SetOK (n + 1) (P ++ [n]) := by
 refine ⟨List.pairwise_append.2 ⟨h.1, List.pairwise_singleton _ _, fun a ha b hb => ?_⟩, fun x hx => ?_⟩
 ·simp at hb; subst hb; exact (h.2 a ha).2
 ·rcases List.mem_append.1 hx with hx | hx
  ·have := h.2 x hx; omega
  ·simp at hx; omega

theorem owns_grown {w w' : World} {base : Nat} {e : TypeId} {s : Nat} {v : Value} {n : Nat} {xs : List Value} {row : Option Nat} (h : w.ownsRow base e s v n xs) (k : w.grownBy w' row) (hne : ∀ g, v.ownBlock = some g → row ≠ some g) : w'.ownsRow base e s v n xs := by
 obtain ⟨h0, ⟨hv, hn⟩ | ⟨g', cap, cur, hv, hb, hh, r⟩⟩ := h
 ·exact ⟨h0, .inl ⟨hv, hn⟩⟩
 ·exact ⟨h0, .inr ⟨g', cap, cur, hv, hb, by rw [k.block g' (lt_of_block hh) (fun e => hne g' (by rw [hv]; rfl) e.symm)]; exact hh, r⟩⟩
theorem ints_grown {w w1 : World} {row : Option Nat} {b off n : Nat} {F : List Int} (h : Ints w (some ⟨b, off, none⟩) n F) (hgr : w.grownBy w1 row) (hb : b < w.heap.size) (hne : row ≠ some b) : Ints w1 (some ⟨b, off, none⟩) n F := by
 obtain ⟨h1, h2, h3, h4⟩ := h
 refine ⟨h1, h2, h3, ?_⟩
 rcases h4 with h4 | ⟨b', off', ha, hb', hc⟩
 ·exact .inl h4
 ·simp at ha
  obtain ⟨rfl, rfl⟩ := ha
  refine .inr ⟨b, off, rfl, Nat.lt_of_lt_of_le hb hgr.size, fun i hi => ?_⟩
  have := hc i hi
  unfold World.cell? at this ⊢
  simp only at this ⊢
  rw [hgr.block b hb (fun e => hne e.symm)]
  exact this

/-- A sheet that grows. -/
structure GSh (W : World) (base : Nat) (vS vV : Value) (gs : List Sl) (Ls : List (List Int)) (zs : List Int) : Prop where
 n1 : gs.length = Ls.length
 S : W.ownsRow base 22 1 vS Ls.length (gs.map Sl.v)
 V : VRow W base vV zs
 ne : ∀ g, vS.ownBlock = some g → vV.ownBlock ≠ some g
 sets : ∀ k, k < Ls.length → ∃ b, (gs.getD k sl0).a = some ⟨b, 0, none⟩ ∧ base ≤ b ∧ b < W.heap.size ∧ Ints W (some ⟨b, 0, none⟩) (gs.getD k sl0).n (Ls.getD k []) ∧ vS.ownBlock ≠ some b ∧ vV.ownBlock ≠ some b
theorem GSh.nil (W : World) (base : Nat) : GSh W base (.slice none 0 0) (.slice none 0 0) [] [] [] :=
 ⟨rfl, ⟨rfl, .inl ⟨rfl, rfl⟩⟩, VRow.nil _ _, fun g hg => by simp [Value.ownBlock] at hg, fun k hk => absurd hk (by simp)⟩
theorem GSh.ext {W W' : World} {base : Nat} {vS vV : Value} {gs : List Sl} {Ls : List (List Int)} {zs : List Int} (h : GSh W base vS vV gs Ls zs) (k : Ext W W') : GSh W' base vS vV gs Ls zs :=
 ⟨h.n1, owns_ext k h.S, h.V.ext k, h.ne, fun i hi => by
  obtain ⟨b, h1, h2, h3, h4, h5⟩ := h.sets i hi
  exact ⟨b, h1, h2, Nat.lt_of_lt_of_le h3 k.size, h4.keep k.ik, h5⟩⟩
/-- A write into a block below the base. -/
theorem GSh.low {W : World} {base b o : Nat} {u vS vV : Value} {gs : List Sl} {Ls : List (List Int)} {zs : List Int} (h : GSh W base vS vV gs Ls zs) (hb : b < base) : GSh (W.setCell ⟨b, o, none⟩ u) base vS vV gs Ls zs :=
 have k := grown_setCell W b o u
 ⟨h.n1, owns_grown h.S k (fun g hg e => by have := (owns_lt h.S hg).1; injection e with e; omega), owns_grown h.V k (fun g hg e => by have := (owns_lt h.V hg).1; injection e with e; omega), h.ne, fun i hi => by
  obtain ⟨c, h1, h2, h3, h4, h5⟩ := h.sets i hi
  exact ⟨c, h1, h2, Nat.lt_of_lt_of_le h3 k.size, ints_grown h4 k h3 (fun e => by injection e with e; omega), h5⟩⟩
theorem GSh.addS {W W1 : World} {base g cap b n c : Nat} {vS vV : Value} {gs : List Sl} {Ls : List (List Int)} {zs : List Int} {L : List Int} (h : GSh W base vS vV gs Ls zs) (hI : Ints W (some ⟨b, 0, none⟩) n L) (hb : base ≤ b) (hlt : b < W.heap.size) (h1 : vS.ownBlock ≠ some b) (h2 : vV.ownBlock ≠ some b)
  (hown : W1.ownsRow base 22 1 (.slice (some ⟨g, 0, none⟩) (Ls.length + 1) cap) (Ls.length + 1) (gs.map Sl.v ++ [.slice (some ⟨b, 0, none⟩) n c])) (hgr : W.grownBy W1 vS.ownBlock) (hat : vS.ownBlock = some g ∨ g = W.heap.size) :
  GSh W1 base (.slice (some ⟨g, 0, none⟩) (Ls.length + 1) cap) vV (gs ++ [⟨some ⟨b, 0, none⟩, n, c⟩]) (Ls ++ [L]) zs := by
 have hgb : ∀ x, x < W.heap.size → vS.ownBlock ≠ some x → g ≠ x := fun x hx hn e => by
  rcases hat with hat | hat
  ·rw [hat, e] at hn; exact hn rfl
  ·omega
 refine ⟨by simp [h.n1], by simpa using hown, owns_grown h.V hgr (fun x hx e => h.ne x e hx), fun x hx e => ?_, fun k hk => ?_⟩
 ·simp [Value.ownBlock] at hx
  have := (owns_lt h.V e).2
  exact hgb x this (fun e' => h.ne x e' e) hx
 ·by_cases hk' : k < Ls.length
  ·obtain ⟨y, y1, y2, y3, y4, y5, y6⟩ := h.sets k hk'
   have e1 : (gs ++ [(⟨some ⟨b, 0, none⟩, n, c⟩ : Sl)]).getD k sl0 = gs.getD k sl0 := by simp [List.getD_eq_getElem?_getD, List.getElem?_append, h.n1, hk']
   have e2 : (Ls ++ [L]).getD k [] = Ls.getD k [] := by simp [List.getD_eq_getElem?_getD, List.getElem?_append, hk']
   rw [e1, e2]
   exact ⟨y, y1, y2, Nat.lt_of_lt_of_le y3 hgr.size, ints_grown y4 hgr y3 y5, (fun e => by simp [Value.ownBlock] at e; exact hgb y y3 y5 e), y6⟩
  ·have : k = Ls.length := by simp at hk; omega
   subst this
   have e1 : (gs ++ [(⟨some ⟨b, 0, none⟩, n, c⟩ : Sl)]).getD Ls.length sl0 = ⟨some ⟨b, 0, none⟩, n, c⟩ := by rw [← h.n1]; simp [List.getD_eq_getElem?_getD]
   have e2 : (Ls ++ [L]).getD Ls.length [] = L := by simp [List.getD_eq_getElem?_getD]
   rw [e1, e2]
   exact ⟨b, rfl, hb, Nat.lt_of_lt_of_le hlt hgr.size, ints_grown hI hgr hlt h1, (fun e => by simp [Value.ownBlock] at e; exact hgb b hlt h1 e), h2⟩
theorem GSh.addV {W W1 : World} {base g cap : Nat} {vS vV : Value} {gs : List Sl} {Ls : List (List Int)} {zs : List Int} {x : Int} (h : GSh W base vS vV gs Ls zs)
  (hown : W1.ownsRow base 3 1 (.slice (some ⟨g, 0, none⟩) (zs.length + 1) cap) (zs.length + 1) (ivals zs ++ ivals [x])) (hgr : W.grownBy W1 vV.ownBlock) (hat : vV.ownBlock = some g ∨ g = W.heap.size) :
  GSh W1 base vS (.slice (some ⟨g, 0, none⟩) (zs.length + 1) cap) gs Ls (zs ++ [x]) := by
 have hgb : ∀ y, y < W.heap.size → vV.ownBlock ≠ some y → g ≠ y := fun y hy hn e => by
  rcases hat with hat | hat
  ·rw [hat, e] at hn; exact hn rfl
  ·omega
 refine ⟨h.n1, owns_grown h.S hgr (fun y hy e => h.ne y hy e), VRow.app rfl hown, fun y hy e => ?_, fun k hk => ?_⟩
 ·simp [Value.ownBlock] at e
  exact hgb y (owns_lt h.S hy).2 (h.ne y hy) e
 ·obtain ⟨y, y1, y2, y3, y4, y5, y6⟩ := h.sets k hk
  exact ⟨y, y1, y2, Nat.lt_of_lt_of_le y3 hgr.size, ints_grown y4 hgr y3 y6, y5, (fun e => by simp [Value.ownBlock] at e; exact hgb y y3 y6 e)⟩
/-- What it is, as a sheet in memory. -/
theorem GSh.shin {W : World} {base : Nat} {vS vV : Value} {gs : List Sl} {Ls : List (List Int)} {zs : List Int} {n : Int} (h : GSh W base vS vV gs Ls zs) (hl : Ls.length ≤ 1000) (hz : zs.length ≤ 1000) (h64 : ∀ i, i < zs.length → Int64 (zs.getD i 0)) (hlen : ∀ k, (Ls.getD k []).length ≤ 1000) :
  ∃ ss vs : Sl, vS = ss.v ∧ vV = vs.v ∧ ss.n = Ls.length ∧ vs.n = zs.length ∧ ShIn W n ss vs gs Ls zs := by
 obtain ⟨a, c, e, hI⟩ := h.V.ints (by omega) h64
 obtain ⟨h0, hS⟩ := h.S
 have hset : ∀ i, i < Ls.length → Ints W (gs.getD i sl0).a (gs.getD i sl0).n (Ls.getD i []) := fun i hi => by
  obtain ⟨b, h1, h2, h3, h4, _⟩ := h.sets i hi
  rw [h1]; exact h4
 rcases hS with ⟨hv, hn⟩ | ⟨g, cap, cur, hv, hb, hh, hle, hc, hsz, htk⟩
 ·exact ⟨⟨none, 0, 0⟩, ⟨a, zs.length, c⟩, by rw [hv], e, hn.symm, rfl, ⟨by rw [h.n1]; exact hn, hn, by simp, .inl rfl, fun i hi => absurd hi (by simp)⟩, hI, hlen⟩
 ·refine ⟨⟨some ⟨g, 0, none⟩, Ls.length, cap⟩, ⟨a, zs.length, c⟩, by rw [hv], e, rfl, rfl, ⟨h.n1, rfl, by simp; omega, .inr ⟨g, 0, rfl, lt_of_block hh, fun i hi => ?_⟩, hset⟩, hI, hlen⟩
  have p1 : (gs.map Sl.v)[i]? = some (gs.getD i sl0).v := by
   have : i < gs.length := by rw [h.n1]; exact hi
   simp [this]
  rw [← htk, List.getElem?_take_of_lt (by simp at hi ⊢; omega)] at p1
  simp [World.cell?, hh]; simpa using p1
end Go.Proofs.Ytkoidookanmknaa
namespace Go.Proofs.Ytkoidookanmknaa
set_option linter.unusedSimpArgs false
set_option linter.unusedVariables false
open Go.RowKit

theorem intsInfo : (Try.prog.info? 22).map (fun i => (i.zero, i.size, i.bytes)) = some (some (.slice none 0 0), 1, 24) := by kernel_rfl
theorem ints_one (w : World) (s : Int) (h : Int64 s) : Ints (w.alloc (.cells #[.int .i64 s] 3)) (some ⟨w.heap.size, 0, none⟩) 1 [s] :=
  IRow.ints (l := [s]) (n := 1) (Blk.at _ _ rfl) rfl (by omega) fun j hj => by
    have h0 : j = 0 := by omega
    subst h0; exact h
theorem VRow.one {w : World} {base : Nat} (x : Int) (hb : base ≤ w.heap.size) : VRow (w.alloc (.cells #[.int .i64 x] 3)) base (.slice (some ⟨w.heap.size, 0, none⟩) 1 1) [x] :=
  ⟨rfl, .inr ⟨w.heap.size, 1, #[.int .i64 x], rfl, hb, Blk.at _ _ rfl, Nat.le_refl _, by rw [maxLen]; omega, rfl, rfl⟩⟩
theorem SetOK.len {n : Nat} {P : List Int} (h : SetOK n P) : P.length ≤ n := by
  rcases Nat.eq_zero_or_pos P.length with h0 | h0
  · omega
  · have hc : ∀ k, k < P.length → (k : Int) ≤ P.getD k 0 := fun k => by
      induction k with
      | zero => intro hk; rw [getD_get hk]; have := h.2 _ (List.getElem_mem hk); omega
      | succ k ih =>
        intro hk
        have h1 := ih (by omega)
        rw [getD_get (by omega)] at h1
        rw [getD_get hk]
        have := List.pairwise_iff_getElem.1 h.1 k (k + 1) (by omega) hk (by omega)
        omega
    have h1 := hc (P.length - 1) (by omega)
    rw [getD_get (by omega)] at h1
    have h2 := h.2 _ (List.getElem_mem (show P.length - 1 < P.length by omega))
    omega
structure SmI (w ws : World) (B N : Nat) (i : Nat) (vS vV : Value) (gs : List Sl) (Ls : List (List Int)) (zs : List Int) : Prop where
  ext : Ext w ws
  res : Blk ws B #[.int .i64 0, .slice none 0 0, .slice none 0 0] 25
  box : Blk ws (B + 1) #[.int .i64 (N : Int), vS, vV] 25
  own : GSh ws (B + 1 + 1) vS vV gs Ls zs
  nl : Ls.length = i
  nz : zs.length = i
  ok : ∀ k, k < i → SetOK N (Ls.getD k []) ∧ (Ls.getD k []).length ≠ 0
  bd : ∀ k, k < i → 0 ≤ zs.getD k 0 ∧ zs.getD k 0 ≤ 1000
theorem SmI.keep {w ws ws' : World} {B N i : Nat} {vS vV : Value} {gs : List Sl} {Ls : List (List Int)} {zs : List Int} (h : SmI w ws B N i vS vV gs Ls zs) (k : Ext ws ws') : SmI w ws' B N i vS vV gs Ls zs :=
  ⟨h.ext.trans k, h.res.ext k, h.box.ext k, h.own.ext k, h.nl, h.nz, h.ok, h.bd⟩
theorem blk_grown2 {w w' : World} {b : Nat} {cs : Array Value} {t : TypeId} {row : Option Nat} (h : Blk w b cs t) (k : w.grownBy w' row) (hne : row ≠ some b) : Blk w' b cs t := by
  unfold Blk; rw [k.block b h.lt (fun e => hne e.symm)]; exact h
/-- What lies there, the counts aside. -/
structure SoB (w ws : World) (B N : Nat) (vS vV : Value) (gs : List Sl) (Ls : List (List Int)) (zs : List Int) : Prop where
  sz : w.heap.size = B
  ext : Ext w ws
  res : Blk ws B #[.int .i64 0, .slice none 0 0, .slice none 0 0] 25
  box : Blk ws (B + 1) #[.int .i64 (N : Int), vS, vV] 25
  own : GSh ws (B + 1 + 1) vS vV gs Ls zs
theorem SoB.keep {w ws ws' : World} {B N : Nat} {vS vV : Value} {gs : List Sl} {Ls : List (List Int)} {zs : List Int} (h : SoB w ws B N vS vV gs Ls zs) (k : Ext ws ws') : SoB w ws' B N vS vV gs Ls zs :=
  ⟨h.sz, h.ext.trans k, h.res.ext k, h.box.ext k, h.own.ext k⟩
theorem SoB.addS {w W W1 : World} {B N g cap b n c : Nat} {vS vV : Value} {gs : List Sl} {Ls : List (List Int)} {zs : List Int} {L : List Int} (h : SoB w W B N vS vV gs Ls zs) (hI : Ints W (some ⟨b, 0, none⟩) n L) (hb : B + 1 + 1 ≤ b) (hlt : b < W.heap.size) (h1 : vS.ownBlock ≠ some b) (h2 : vV.ownBlock ≠ some b)
    (hown : W1.ownsRow (B + 1 + 1) 22 1 (.slice (some ⟨g, 0, none⟩) (Ls.length + 1) cap) (Ls.length + 1) (gs.map Sl.v ++ [.slice (some ⟨b, 0, none⟩) n c])) (hgr : W.grownBy W1 vS.ownBlock) (hat : vS.ownBlock = some g ∨ g = W.heap.size) :
    W1.cell? ⟨B + 1, 1, none⟩ = some vS ∧ W1.frozen? ⟨B + 1, 1, none⟩ = false ∧ SoB w (W1.setCell ⟨B + 1, 1, none⟩ (.slice (some ⟨g, 0, none⟩) (Ls.length + 1) cap)) B N (.slice (some ⟨g, 0, none⟩) (Ls.length + 1) cap) vV (gs ++ [⟨some ⟨b, 0, none⟩, n, c⟩]) (Ls ++ [L]) zs := by
  have hge : ∀ x, vS.ownBlock = some x → B + 1 + 1 ≤ x := fun x hx => (owns_lt h.own.S hx).1
  have hX := blk_grown2 h.box hgr (fun e => by have := hge _ e; omega)
  have hR := blk_grown2 h.res hgr (fun e => by have := hge _ e; omega)
  have hs := h.sz
  refine ⟨hX.cell 1, hX.free 1, ⟨hs, (ext_grown h.ext hgr (fun x hx => by have := hge x hx; omega)).setCell (by simp; omega) _, hR.setOther (by simp) _, hX.set 1 _, ?_⟩⟩
  exact (h.own.addS hI hb hlt h1 h2 hown hgr hat).low (by omega)
theorem SoB.addV {w W W1 : World} {B N g cap : Nat} {vS vV : Value} {gs : List Sl} {Ls : List (List Int)} {zs : List Int} {x : Int} (h : SoB w W B N vS vV gs Ls zs)
    (hown : W1.ownsRow (B + 1 + 1) 3 1 (.slice (some ⟨g, 0, none⟩) (zs.length + 1) cap) (zs.length + 1) (ivals zs ++ ivals [x])) (hgr : W.grownBy W1 vV.ownBlock) (hat : vV.ownBlock = some g ∨ g = W.heap.size) :
    W1.cell? ⟨B + 1, 2, none⟩ = some vV ∧ W1.frozen? ⟨B + 1, 2, none⟩ = false ∧ SoB w (W1.setCell ⟨B + 1, 2, none⟩ (.slice (some ⟨g, 0, none⟩) (zs.length + 1) cap)) B N vS (.slice (some ⟨g, 0, none⟩) (zs.length + 1) cap) gs Ls (zs ++ [x]) := by
  have hge : ∀ x, vV.ownBlock = some x → B + 1 + 1 ≤ x := fun x hx => (owns_lt h.own.V hx).1
  have hX := blk_grown2 h.box hgr (fun e => by have := hge _ e; omega)
  have hR := blk_grown2 h.res hgr (fun e => by have := hge _ e; omega)
  have hs := h.sz
  refine ⟨hX.cell 2, hX.free 2, ⟨hs, (ext_grown h.ext hgr (fun x hx => by have := hge x hx; omega)).setCell (by simp; omega) _, hR.setOther (by simp) _, hX.set 2 _, ?_⟩⟩
  exact (h.own.addV hown hgr hat).low (by omega)
theorem SmI.b {w ws : World} {B N i : Nat} {vS vV : Value} {gs : List Sl} {Ls : List (List Int)} {zs : List Int} (h : SmI w ws B N i vS vV gs Ls zs) (hs : w.heap.size = B) : SoB w ws B N vS vV gs Ls zs := ⟨hs, h.ext, h.res, h.box, h.own⟩
theorem SmI.next {w ws W : World} {B N i : Nat} {vS vV vS' vV' : Value} {gs gs' : List Sl} {Ls : List (List Int)} {zs : List Int} {L : List Int} {x : Int} (h : SmI w ws B N i vS vV gs Ls zs) (k : SoB w W B N vS' vV' gs' (Ls ++ [L]) (zs ++ [x])) (hL : SetOK N L) (hL0 : L.length ≠ 0) (hx : 0 ≤ x ∧ x ≤ 1000) :
    SmI w W B N (i + 1) vS' vV' gs' (Ls ++ [L]) (zs ++ [x]) := by
  have hnl := h.nl
  have hnz := h.nz
  refine ⟨k.ext, k.res, k.box, k.own, by simp [hnl], by simp [hnz], fun j hj => ?_, fun j hj => ?_⟩
  · by_cases hlt : j < i
    · have e : (Ls ++ [L]).getD j [] = Ls.getD j [] := by simp [List.getD_eq_getElem?_getD, List.getElem?_append, hnl, hlt]
      rw [e]; exact h.ok j hlt
    · have e : (Ls ++ [L]).getD j [] = L := by obtain rfl : j = Ls.length := by omega
                                               simp [List.getD_eq_getElem?_getD]
      rw [e]; exact ⟨hL, hL0⟩
  · by_cases hlt : j < i
    · have e : (zs ++ [x]).getD j 0 = zs.getD j 0 := by simp [List.getD_eq_getElem?_getD, List.getElem?_append, hnz, hlt]
      rw [e]; exact h.bd j hlt
    · have e : (zs ++ [x]).getD j 0 = x := by obtain rfl : j = zs.length := by omega
                                              simp [List.getD_eq_getElem?_getD]
      rw [e]; exact hx
end Go.Proofs.Ytkoidookanmknaa
