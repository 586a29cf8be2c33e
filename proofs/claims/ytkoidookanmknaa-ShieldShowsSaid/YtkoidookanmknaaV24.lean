/- meresmanlaw30: same, lives. -/
import Derived.Test.YtkoidookanmknaaV23
namespace Go.Proofs.Ytkoidookanmknaa
set_option linter.unusedSimpArgs false
set_option linter.unusedVariables false
open Go.RowKit

set_option maxRecDepth 100000 in
set_option maxHeartbeats 4000000 in
theorem same_c (a b : Option Addr) (n m c d : Nat) (l k : List Bool) (w : World) (hl : Bls w a n l) (hk : Bls w b m k) (hn : n ≤ 1000000) (hm : m ≤ 1000000) :
    Calls Try.prog 22 #[.slice a n c, .slice b m d] w fun e w' => e = .returned (.bool (decide (l = k))) ∧ Ext w w' := by
  have H := Lib.hid (And.intro hl hk)
  by_cases hnm : n = m
  · subst hnm
    have hll := hl.1
    have hkl := hk.1
    have HL := Lib.hid (And.intro hll hkl)
    clear hl hk hll hkl
    go_enter Try.func22, Try.ntmps22
    go_upto_region 4 with (fail)
    go_loopw [5] (fun iv ws => ∃ i : Nat, i ≤ n ∧ iv = .int .i64 (i : Int) ∧ (∀ j, j < i → l.getD j false = k.getD j false) ∧ Ext w ws) (fun iv _ => n - (intOf iv).toNat)
    case atStart => exact ⟨0, by omega, rfl, fun j hj => absurd hj (by omega), Ext.refl w⟩
    case round =>
      obtain ⟨i, hi, rfl, hq, hE⟩ := hrel
      have HQ := Lib.hid hq
      clear hq
      by_cases hlt : i < n
      · obtain ⟨ab, ao, rfl, _, hac⟩ := (H.out.1.ext hE).at i hlt
        obtain ⟨bb, bo, rfl, _, hbc⟩ := (H.out.2.ext hE).at i hlt
        have HA := Lib.hid (fun W (e : Ext wr W) => e.cell hac)
        have HB := Lib.hid (fun W (e : Ext wr W) => e.cell hbc)
        have HE := Lib.hid hE
        clear hE hac hbc
        obtain ⟨x, hx⟩ : ∃ x, l.getD i false = x := ⟨_, rfl⟩
        obtain ⟨y, hy⟩ : ∃ y, k.getD i false = y := ⟨_, rfl⟩
        rw [hx] at HA
        rw [hy] at HB
        have HXY := Lib.hid (And.intro hx hy)
        clear hx hy
        have i0 : (0 : Int) ≤ (i : Int) := by omega
        have i1 : (i : Int) < (n : Int) := by omega
        by_cases hxy : x = y
        · subst hxy
          go_upto_region 6 with (fail)
          refine wp_region_held_drew (S := fun W => Ext wr W) (by kernel_rfl) (Ext.refl wr).drew (fun hHeld => ?_)
          refine takeL (i := 0) (v := ?_) rfl (by kernel_rfl) (by kernel_rfl) (by kernel_rfl) (fun _ _ _ h => h) (Or.inl ⟨by rfl, ?_⟩) (by assumption) ?_; rotate_left; (focus (intro wq hSw; (try dsimp only at hSw); go_simp; try with_reducible rfl)); (try simp only [Act.put, List.setIfInBounds_toArray, List.set_cons_zero, List.set_cons_succ])
          refine takeL (i := 1) (v := ?_) rfl (by kernel_rfl) (by kernel_rfl) (by kernel_rfl) (fun _ _ _ h => h) (Or.inl ⟨by rfl, ?_⟩) (by assumption) ?_; rotate_left; (focus (intro wq hSw; (try dsimp only at hSw); go_simp; try with_reducible rfl)); (try simp only [Act.put, List.setIfInBounds_toArray, List.set_cons_zero, List.set_cons_succ])
          refine takeL (i := 2) (v := ?_) rfl (by kernel_rfl) (by kernel_rfl) (by kernel_rfl) (fun _ _ _ h => h) (Or.inl ⟨by rfl, ?_⟩) (by assumption) ?_; rotate_left; (focus (intro wq hSw; (try dsimp only at hSw); go_simp; try with_reducible rfl)); (try simp only [Act.put, List.setIfInBounds_toArray, List.set_cons_zero, List.set_cons_succ])
          refine takeL (i := 3) (v := ?_) rfl (by kernel_rfl) (by kernel_rfl) (by kernel_rfl) (fun _ _ _ h => h) (Or.inl ⟨by rfl, ?_⟩) (by assumption) ?_; rotate_left; (focus (intro wq hSw; have hcc := HA.out wq hSw; clear hSw; go_simp; try with_reducible rfl)); (try simp only [Act.put, List.setIfInBounds_toArray, List.set_cons_zero, List.set_cons_succ])
          refine takeL (i := 4) (v := ?_) rfl (by kernel_rfl) (by kernel_rfl) (by kernel_rfl) (fun _ _ _ h => h) (Or.inl ⟨by rfl, ?_⟩) (by assumption) ?_; rotate_left; (focus (intro wq hSw; (try dsimp only at hSw); go_simp; try with_reducible rfl)); (try simp only [Act.put, List.setIfInBounds_toArray, List.set_cons_zero, List.set_cons_succ])
          refine takeL (i := 5) (v := ?_) rfl (by kernel_rfl) (by kernel_rfl) (by kernel_rfl) (fun _ _ _ h => h) (Or.inl ⟨by rfl, ?_⟩) (by assumption) ?_; rotate_left; (focus (intro wq hSw; (try dsimp only at hSw); go_simp; try with_reducible rfl)); (try simp only [Act.put, List.setIfInBounds_toArray, List.set_cons_zero, List.set_cons_succ])
          refine takeL (i := 6) (v := ?_) rfl (by kernel_rfl) (by kernel_rfl) (by kernel_rfl) (fun _ _ _ h => h) (Or.inl ⟨by rfl, ?_⟩) (by assumption) ?_; rotate_left; (focus (intro wq hSw; (try dsimp only at hSw); go_simp; try with_reducible rfl)); (try simp only [Act.put, List.setIfInBounds_toArray, List.set_cons_zero, List.set_cons_succ])
          refine takeL (i := 7) (v := ?_) rfl (by kernel_rfl) (by kernel_rfl) (by kernel_rfl) (fun _ _ _ h => h) (Or.inl ⟨by rfl, ?_⟩) (by assumption) ?_; rotate_left; (focus (intro wq hSw; have hcc := HB.out wq hSw; clear hSw; go_simp; try with_reducible rfl)); (try simp only [Act.put, List.setIfInBounds_toArray, List.set_cons_zero, List.set_cons_succ])
          refine takeL (i := 8) (v := ?_) rfl (by kernel_rfl) (by kernel_rfl) (by kernel_rfl) (fun _ _ _ h => h) (Or.inl ⟨by rfl, ?_⟩) (by assumption) ?_; rotate_left; (focus (intro wq hSw; (try dsimp only at hSw); go_simp; try with_reducible rfl)); (try simp only [Act.put, List.setIfInBounds_toArray, List.set_cons_zero, List.set_cons_succ])
          refine doneL (by kernel_rfl) ?_
          have HX := Lib.hid (HE.out.trans hHeld)
          clear hHeld
          go_wp2_with fail
          go_roundw
          case rel => exact ⟨i + 1, by omega, by go_num, fun j hj => by
            by_cases e : j = i
            · rw [e, HXY.out.1, HXY.out.2]
            · exact HQ.out j (by omega), HX.out⟩
          case measure => simp [intOf]; omega
        · have hne : (x == y) = false := by rw [beq_eq_false_iff_ne]; exact hxy
          have HN := Lib.hid (show decide (l = k) = false by
            rw [decide_eq_false_iff_not]
            intro e
            rw [e] at HXY
            exact hxy (HXY.out.1.symm.trans HXY.out.2))
          clear hxy
          go_upto_region 6 with (fail)
          refine wp_region_held_drew (S := fun W => Ext wr W) (by kernel_rfl) (Ext.refl wr).drew (fun hHeld => ?_)
          refine takeL (i := 0) (v := ?_) rfl (by kernel_rfl) (by kernel_rfl) (by kernel_rfl) (fun _ _ _ h => h) (Or.inl ⟨by rfl, ?_⟩) (by assumption) ?_; rotate_left; (focus (intro wq hSw; (try dsimp only at hSw); go_simp; try with_reducible rfl)); (try simp only [Act.put, List.setIfInBounds_toArray, List.set_cons_zero, List.set_cons_succ])
          refine takeL (i := 1) (v := ?_) rfl (by kernel_rfl) (by kernel_rfl) (by kernel_rfl) (fun _ _ _ h => h) (Or.inl ⟨by rfl, ?_⟩) (by assumption) ?_; rotate_left; (focus (intro wq hSw; (try dsimp only at hSw); go_simp; try with_reducible rfl)); (try simp only [Act.put, List.setIfInBounds_toArray, List.set_cons_zero, List.set_cons_succ])
          refine takeL (i := 2) (v := ?_) rfl (by kernel_rfl) (by kernel_rfl) (by kernel_rfl) (fun _ _ _ h => h) (Or.inl ⟨by rfl, ?_⟩) (by assumption) ?_; rotate_left; (focus (intro wq hSw; (try dsimp only at hSw); go_simp; try with_reducible rfl)); (try simp only [Act.put, List.setIfInBounds_toArray, List.set_cons_zero, List.set_cons_succ])
          refine takeL (i := 3) (v := ?_) rfl (by kernel_rfl) (by kernel_rfl) (by kernel_rfl) (fun _ _ _ h => h) (Or.inl ⟨by rfl, ?_⟩) (by assumption) ?_; rotate_left; (focus (intro wq hSw; have hcc := HA.out wq hSw; clear hSw; go_simp; try with_reducible rfl)); (try simp only [Act.put, List.setIfInBounds_toArray, List.set_cons_zero, List.set_cons_succ])
          refine takeL (i := 4) (v := ?_) rfl (by kernel_rfl) (by kernel_rfl) (by kernel_rfl) (fun _ _ _ h => h) (Or.inl ⟨by rfl, ?_⟩) (by assumption) ?_; rotate_left; (focus (intro wq hSw; (try dsimp only at hSw); go_simp; try with_reducible rfl)); (try simp only [Act.put, List.setIfInBounds_toArray, List.set_cons_zero, List.set_cons_succ])
          refine takeL (i := 5) (v := ?_) rfl (by kernel_rfl) (by kernel_rfl) (by kernel_rfl) (fun _ _ _ h => h) (Or.inl ⟨by rfl, ?_⟩) (by assumption) ?_; rotate_left; (focus (intro wq hSw; (try dsimp only at hSw); go_simp; try with_reducible rfl)); (try simp only [Act.put, List.setIfInBounds_toArray, List.set_cons_zero, List.set_cons_succ])
          refine takeL (i := 6) (v := ?_) rfl (by kernel_rfl) (by kernel_rfl) (by kernel_rfl) (fun _ _ _ h => h) (Or.inl ⟨by rfl, ?_⟩) (by assumption) ?_; rotate_left; (focus (intro wq hSw; (try dsimp only at hSw); go_simp; try with_reducible rfl)); (try simp only [Act.put, List.setIfInBounds_toArray, List.set_cons_zero, List.set_cons_succ])
          refine takeL (i := 7) (v := ?_) rfl (by kernel_rfl) (by kernel_rfl) (by kernel_rfl) (fun _ _ _ h => h) (Or.inl ⟨by rfl, ?_⟩) (by assumption) ?_; rotate_left; (focus (intro wq hSw; have hcc := HB.out wq hSw; clear hSw; go_simp; try with_reducible rfl)); (try simp only [Act.put, List.setIfInBounds_toArray, List.set_cons_zero, List.set_cons_succ])
          refine takeL (i := 8) (v := ?_) rfl (by kernel_rfl) (by kernel_rfl) (by kernel_rfl) (fun _ _ _ h => h) (Or.inl ⟨by rfl, ?_⟩) (by assumption) ?_; rotate_left; (focus (intro wq hSw; (try dsimp only at hSw); go_simp; try with_reducible rfl)); (try simp only [Act.put, List.setIfInBounds_toArray, List.set_cons_zero, List.set_cons_succ])
          refine doneL (by kernel_rfl) ?_
          have HX := Lib.hid (HE.out.trans hHeld)
          clear hHeld
          cases x <;> cases y <;> first | (simp at hne; done) | (go_wp2_with fail; go_ret; exact ⟨by rw [HN.out]; rfl, HX.out⟩)
      · obtain rfl : n = i := by omega
        have HN := Lib.hid (show decide (l = k) = true by
          rw [decide_eq_true_iff]
          refine List.ext_getElem (HL.out.1.trans HL.out.2.symm) fun j h1 h2 => ?_
          have := HQ.out j (by have := HL.out.1; omega)
          simpa [List.getD_eq_getElem?_getD, h1, h2] using this)
        go_wp2_with fail
        go_ret
        exact ⟨by rw [HN.out]; rfl, hE⟩
  · have HN := Lib.hid (show decide (l = k) = false by
      rw [decide_eq_false_iff_not]
      intro e
      exact hnm (by rw [← hl.1, ← hk.1, e]))
    have hne : ((n : Int) == (m : Int)) = false := by rw [beq_eq_false_iff_ne]; omega
    clear hl hk hnm
    go_enter Try.func22, Try.ntmps22
    go_wp2_with fail
    go_ret
    exact ⟨by rw [HN.out]; rfl, (by repeat (first | exact Ext.refl _ | assumption | refine Ext.setCell ?_ (by first | (simp; done) | (simp; omega) | omega) _ | refine Ext.alloc ?_ _ | refine Ext.drew ?_ | refine Ext.trans ?_ (by assumption)))⟩
/-- The sheet of the example. -/
def Ls0 : List (List Int) := [[0, 1], [2, 3], [0, 1, 2, 3], [0], [1], [2], [3]]
def zs0 : List Int := [9, 50, 59, 2, 7, 20, 30]
theorem few0 : FewOK Ls0 := .inl (by decide)
theorem row_eq0 : rowV [0] = vless (rowV [0, 1]) (rowV [1]) 1 := funext fun c => by
  unfold vless rowV
  rcases (show c = 0 ∨ c = 1 ∨ 2 ≤ c by omega) with rfl | rfl | h
  · decide +kernel
  · decide +kernel
  · rw [if_neg (by simp; omega), if_neg (by simp; omega), if_neg (by simp; omega)]; grind
theorem row_eq1 : rowV [0] = vless (vless (rowV [0, 1, 2, 3]) (rowV [2, 3]) 1) (rowV [1]) 1 := funext fun c => by
  unfold vless rowV
  rcases (show c = 0 ∨ c = 1 ∨ c = 2 ∨ c = 3 ∨ 4 ≤ c by omega) with rfl | rfl | rfl | rfl | h
  · decide +kernel
  · decide +kernel
  · decide +kernel
  · decide +kernel
  · rw [if_neg (by simp; omega), if_neg (by simp; omega), if_neg (by simp; omega), if_neg (by simp; omega)]; grind
theorem det_a {hs : List Bool} (h0 : hs.getD 0 false = false) (h4 : hs.getD 4 false = false) : dB Ls0 hs 3 = true := by
  rw [dB_iff]
  unfold Det
  rw [show Ls0.getD 3 [] = [0] from rfl, row_eq0]
  exact Sp.less (Sp.mem ⟨0, by decide, h0, rfl⟩) (Sp.mem ⟨4, by decide, h4, rfl⟩) 1
theorem det_b {hs : List Bool} (h1 : hs.getD 1 false = false) (h2 : hs.getD 2 false = false) (h4 : hs.getD 4 false = false) : dB Ls0 hs 3 = true := by
  rw [dB_iff]
  unfold Det
  rw [show Ls0.getD 3 [] = [0] from rfl, row_eq1]
  exact Sp.less (Sp.less (Sp.mem ⟨2, by decide, h2, rfl⟩) (Sp.mem ⟨1, by decide, h1, rfl⟩) 1) (Sp.mem ⟨4, by decide, h4, rfl⟩) 1
def hs2 : List Bool := [false, false, false, true, true, false, false]
theorem nodet {k : Nat} (hk : rowV (Ls0.getD k []) 0 - rowV (Ls0.getD k []) 1 ≠ 0) : dB Ls0 hs2 k = false := by
  cases hd : dB Ls0 hs2 k with
  | false => rfl
  | true =>
    exfalso
    have h := (dB_iff _ _ _).1 hd
    refine hk (Sp.lin (fun v => v 0 - v 1) (by decide +kernel) (fun v u a => by unfold vadd; grind) ?_ h)
    rintro u ⟨i, hi, h1, rfl⟩
    match i, hi with
    | 0, _ => decide +kernel
    | 1, _ => decide +kernel
    | 2, _ => decide +kernel
    | 3, _ => exact absurd h1 (by decide)
    | 4, _ => exact absurd h1 (by decide)
    | 5, _ => decide +kernel
    | 6, _ => decide +kernel
    | i + 7, hi => exact absurd hi (by simp [Ls0])
theorem hide_ex : hideF (dB Ls0) zs0 7 8 (hide0 zs0 3 7) = hs2 := by
  have e0 : hide0 zs0 3 7 = [false, false, false, true, false, false, false] := by decide
  have d3 : dB Ls0 [false, false, false, true, false, false, false] 3 = true := det_a rfl rfl
  have p0 : dB Ls0 [true, false, false, true, false, false, false] 3 = true := det_b rfl rfl rfl
  have p1 : dB Ls0 [false, true, false, true, false, false, false] 3 = true := det_a rfl rfl
  have p2 : dB Ls0 [false, false, true, true, false, false, false] 3 = true := det_a rfl rfl
  have p4 : dB Ls0 [false, false, false, true, true, false, false] 3 = false := nodet (k := 3) (by decide +kernel)
  have q4 : dB Ls0 [false, false, false, true, true, false, false] 4 = false := nodet (k := 4) (by decide +kernel)
  have n1 : nextF (dB Ls0) [false, false, false, true, false, false, false] 7 = 3 := firstF_some _ _ _ 3 (by omega) (by omega) (by simp [d3]) (fun j _ hj => by
    match j, hj with
    | 0, _ => rfl
    | 1, _ => rfl
    | 2, _ => rfl
    | j + 3, hj => omega)
  have n2 : nextF (dB Ls0) [false, false, false, true, true, false, false] 7 = -1 := firstF_none _ _ _ (fun j _ hj => by
    match j, hj with
    | 0, _ => rfl
    | 1, _ => rfl
    | 2, _ => rfl
    | 3, _ => simp [p4]
    | 4, _ => simp [q4]
    | 5, _ => rfl
    | 6, _ => rfl
    | j + 7, hj => omega)
  have m1 : moreF (dB Ls0) zs0 [false, false, false, true, false, false, false] 7 3 = 4 := by
    unfold moreF
    simp [bestF, zs0, p0, p1, p2, p4]
  rw [e0]
  show (if nextF (dB Ls0) [false, false, false, true, false, false, false] 7 < 0 then _ else hideF (dB Ls0) zs0 7 7 ([false, false, false, true, false, false, false].set (moreF (dB Ls0) zs0 [false, false, false, true, false, false, false] 7 (nextF (dB Ls0) [false, false, false, true, false, false, false] 7).toNat).toNat true)) = hs2
  rw [n1, if_neg (by decide), show (3 : Int).toNat = 3 from rfl, m1]
  show (if nextF (dB Ls0) [false, false, false, true, true, false, false] 7 < 0 then [false, false, false, true, true, false, false] else _) = hs2
  rw [n2, if_pos (by decide)]
  rfl
end Go.Proofs.Ytkoidookanmknaa
