/- meresmanref30: divided. -/
import Derived.Test.YtkoidookanmknaaV40
namespace Go.Proofs.Ytkoidookanmknaa
set_option linter.unusedSimpArgs false
set_option linter.unusedVariables false
open Go.RowKit

theorem getD_app {α : Type} {l m : List α} {k : Nat} {d : α} (hk : k < l.length) : (l ++ m).getD k d = l.getD k d := by
  simp [List.getD_eq_getElem?_getD, List.getElem?_append, hk]
theorem getD_last {α : Type} {l : List α} {x d : α} {k : Nat} (hk : k = l.length) : (l ++ [x]).getD k d = x := by
  subst hk; simp [List.getD_eq_getElem?_getD]
theorem tmod_nat (g a : Nat) : (g : Int).tmod (a : Int) = ((g % a : Nat) : Int) := by
  rw [Int.ofNat_tmod]
theorem gcd_stp {g a G : Nat} (h : Nat.gcd g a = G) : Nat.gcd a (g % a) = G := by
  rw [← h, Nat.gcd_comm a, ← Nat.gcd_rec a g, Nat.gcd_comm]
theorem dvd_keep {G g : Nat} {x : Int} (h : G ∣ g) (hx : (g : Int) ∣ x) : (G : Int) ∣ x := Int.dvd_trans (Int.natCast_dvd_natCast.2 h) hx
theorem dvd_abs {G : Nat} {x : Int} (h : G ∣ x.natAbs) : (G : Int) ∣ x := Int.dvd_trans (Int.natCast_dvd_natCast.2 h) (Int.natAbs_dvd.2 (Int.dvd_refl x))
set_option maxRecDepth 100000 in
set_option maxHeartbeats 2000000 in
theorem divided_c (a : Option Addr) (n c : Nat) (l : List Int) (w : World) (h : Ints w a n l) (hn : n ≤ 1000) (hb : ∀ x, x ∈ l → x.natAbs ≤ 4611686018427387904) :
    Calls Try.prog 83 #[.slice a n c] w fun e w' => ∃ (v : Value) (u : List Int) (g : Int), e = .returned v ∧ VRow w' w.heap.size v u ∧ u.length = n ∧ 1 ≤ g ∧ (∀ j, j < n → u.getD j 0 * g = l.getD j 0) ∧ Ext w w' := by
  obtain ⟨i0, hi0, hz0, hz1, hz2⟩ := info_parts intInfo
  have hbd : ∀ j, j < n → (l.getD j 0).natAbs ≤ 4611686018427387904 := fun j hj => by
    rw [getD_get (by have := h.1; omega)]; exact hb _ (List.getElem_mem _)
  have H := Lib.hid (And.intro h hbd)
  clear h hb hbd
  go_enter Try.func83, Try.ntmps83
  go_wp2_with fail
  go_loopw [3, 4] (fun gv iv ws => ∃ i g : Nat, i ≤ n ∧ iv = .int .i64 (i : Int) ∧ gv = .int .i64 (g : Int) ∧ g ≤ 4611686018427387904 ∧ (∀ j, j < i → (g : Int) ∣ l.getD j 0) ∧ Ext w ws) (fun _ iv _ => n - (intOf iv).toNat)
  case atStart => exact ⟨0, 0, by omega, rfl, rfl, by omega, fun k hk => absurd hk (by omega), Ext.refl w⟩
  case round =>
    obtain ⟨i, g, hi, rfl, rfl, hg, hd, hE⟩ := hrel
    have HD := Lib.hid (And.intro hd hE)
    clear hd hE
    by_cases hlt : i < n
    · obtain ⟨b, off, rfl, _, hcell⟩ := H.out.1.at i hlt
      have hy2 := H.out.2 i hlt
      obtain ⟨y, hy⟩ : ∃ y, l.getD i 0 = y := ⟨_, rfl⟩
      rw [hy] at hcell hy2
      have HY := Lib.hid hy
      have HC := Lib.hid (fun W (e : Ext w W) => e.cell hcell)
      clear hy hcell
      have i0 : (0 : Int) ≤ (i : Int) := by omega
      have i1 : (i : Int) < (n : Int) := by omega
      go_upto_region 5 with (fail)
      refine wp_region_held_drew (S := fun W => Ext w W) (by kernel_rfl) HD.out.2.drew (fun hHeld => ?_)
      refine takeL (i := 0) (v := ?_) rfl (by kernel_rfl) (by kernel_rfl) (by kernel_rfl) (fun _ _ _ h => h) (Or.inl ⟨by rfl, ?_⟩) (by assumption) ?_; rotate_left; (focus (intro wq hSw; (try dsimp only at hSw); go_simp; try with_reducible rfl)); (try simp only [Act.put, List.setIfInBounds_toArray, List.set_cons_zero, List.set_cons_succ])
      refine takeL (i := 1) (v := ?_) rfl (by kernel_rfl) (by kernel_rfl) (by kernel_rfl) (fun _ _ _ h => h) (Or.inl ⟨by rfl, ?_⟩) (by assumption) ?_; rotate_left; (focus (intro wq hSw; (try dsimp only at hSw); go_simp; try with_reducible rfl)); (try simp only [Act.put, List.setIfInBounds_toArray, List.set_cons_zero, List.set_cons_succ])
      refine takeL (i := 2) (v := ?_) rfl (by kernel_rfl) (by kernel_rfl) (by kernel_rfl) (fun _ _ _ h => h) (Or.inl ⟨by rfl, ?_⟩) (by assumption) ?_; rotate_left; (focus (intro wq hSw; (try dsimp only at hSw); go_simp; try with_reducible rfl)); (try simp only [Act.put, List.setIfInBounds_toArray, List.set_cons_zero, List.set_cons_succ])
      refine takeL (i := 3) (v := ?_) rfl (by kernel_rfl) (by kernel_rfl) (by kernel_rfl) (fun _ _ _ h => h) (Or.inl ⟨by rfl, ?_⟩) (by assumption) ?_; rotate_left; (focus (intro wq hSw; have hcc := HC.out wq hSw; clear hSw; go_simp; try with_reducible rfl)); (try simp only [Act.put, List.setIfInBounds_toArray, List.set_cons_zero, List.set_cons_succ])
      refine takeL (i := 4) (v := ?_) rfl (by kernel_rfl) (by kernel_rfl) (by kernel_rfl) (fun _ _ _ h => h) (Or.inl ⟨by rfl, ?_⟩) (by assumption) ?_; rotate_left; (focus (intro wq hSw; (try dsimp only at hSw); go_simp; try with_reducible rfl)); (try simp only [Act.put, List.setIfInBounds_toArray, List.set_cons_zero, List.set_cons_succ])
      refine takeL (i := 5) (v := ?_) rfl (by kernel_rfl) (by kernel_rfl) (by kernel_rfl) (fun _ _ _ h => h) (Or.inl ⟨by rfl, ?_⟩) (by assumption) ?_; rotate_left; (focus (intro wq hSw; (try dsimp only at hSw); go_simp; try with_reducible rfl)); (try simp only [Act.put, List.setIfInBounds_toArray, List.set_cons_zero, List.set_cons_succ])
      refine takeL (i := 6) (v := ?_) rfl (by kernel_rfl) (by kernel_rfl) (by kernel_rfl) (fun _ _ _ h => h) (Or.inl ⟨by rfl, ?_⟩) (by assumption) ?_; rotate_left; (focus (intro wq hSw; (try dsimp only at hSw); go_simp; try with_reducible rfl)); (try simp only [Act.put, List.setIfInBounds_toArray, List.set_cons_zero, List.set_cons_succ])
      refine takeL (i := 7) (v := ?_) rfl (by kernel_rfl) (by kernel_rfl) (by kernel_rfl) (fun _ _ _ h => h) (Or.inl ⟨by rfl, ?_⟩) (by assumption) ?_; rotate_left; (focus (intro wq hSw; have hcc := HC.out wq hSw; clear hSw; go_simp; try with_reducible rfl)); (try simp only [Act.put, List.setIfInBounds_toArray, List.set_cons_zero, List.set_cons_succ])
      refine takeL (i := 8) (v := ?_) rfl (by kernel_rfl) (by kernel_rfl) (by kernel_rfl) (fun _ _ _ h => h) (Or.inl ⟨by rfl, ?_⟩) (by assumption) ?_; rotate_left; (focus (intro wq hSw; (try dsimp only at hSw); go_simp; try with_reducible rfl)); (try simp only [Act.put, List.setIfInBounds_toArray, List.set_cons_zero, List.set_cons_succ])
      refine consL (i := 9) (by kernel_rfl) rfl (fun K hK => ?_); go_simp; refine hK.out _ _ ?_ (fun hHeld => ?_); rotate_left; clear hK K; rotate_right; (focus (exact hHeld)); (try simp only [Act.put, List.setIfInBounds_toArray, List.set_cons_zero, List.set_cons_succ])
      have hmx : max y (IntKind.i64.wrap (-y)) = ((y.natAbs : Nat) : Int) := by
        rw [show IntKind.i64.wrap (-y) = -y from IntWalk.i64_in _ (by omega)]; omega
      simp only [hmx]
      clear hmx
      obtain ⟨A, hA⟩ : ∃ A, y.natAbs = A := ⟨_, rfl⟩
      rw [hA] at hy2 ⊢
      have HA := Lib.hid hA
      clear hA
      refine takeL (i := 10) (v := ?_) rfl (by kernel_rfl) (by kernel_rfl) (by kernel_rfl) (fun _ _ _ h => h) (Or.inl ⟨by rfl, ?_⟩) (by assumption) ?_; rotate_left; (focus (intro wq hSw; (try dsimp only at hSw); go_simp; try with_reducible rfl)); (try simp only [Act.put, List.setIfInBounds_toArray, List.set_cons_zero, List.set_cons_succ])
      refine doneL (by kernel_rfl) ?_
      have HH := Lib.hid hHeld
      clear hHeld
      obtain ⟨G, hG⟩ : ∃ G, Nat.gcd g A = G := ⟨_, rfl⟩
      have HG := Lib.hid hG
      go_wp2_with fail
      go_loopw [3, 5] (fun gv av ws => ∃ g' a' : Nat, gv = .int .i64 (g' : Int) ∧ av = .int .i64 (a' : Int) ∧ g' ≤ 4611686018427387904 ∧ a' ≤ 4611686018427387904 ∧ Nat.gcd g' a' = G ∧ Ext w ws) (fun _ av _ => (intOf av).toNat)
      case atStart => exact ⟨g, A, rfl, rfl, hg, hy2, hG, HH.out⟩
      case round =>
        rename World => ws
        clear hG
        obtain ⟨g1, a1, rfl, rfl, hg1, ha1, hgcd, hE⟩ := hrel
        have HE := Lib.hid (And.intro hgcd hE)
        clear hgcd hE
        by_cases ha0 : a1 = 0
        · subst ha0
          go_wp2_with fail
          go_roundw
          case rel =>
            have e : g1 = G := by have := HE.out.1; rwa [Nat.gcd_zero_right] at this
            refine ⟨i + 1, g1, by omega, by go_num, rfl, hg1, fun j hj => ?_, HE.out.2⟩
            rw [e]
            by_cases hji : j = i
            · rw [hji, HY.out]
              exact dvd_abs (by rw [HA.out, ← HG.out]; exact Nat.gcd_dvd_right g A)
            · exact dvd_keep (by rw [← HG.out]; exact Nat.gcd_dvd_left g A) (HD.out.1 j (by omega))
          case measure => simp [intOf]; omega
        · have hr := tmod_nat g1 a1
          have hp : (0 : Int) < (a1 : Int) := by omega
          have hmod := Nat.mod_lt g1 (show 0 < a1 by omega)
          have hne : ((a1 : Int) == 0) = false := by simp; omega
          go_wp2_with fail
          go_roundw
          case rel => exact ⟨a1, g1 % a1, rfl, rfl, ha1, by omega, gcd_stp HE.out.1, HE.out.2⟩
          case measure => first | (simp [intOf]; done) | (simp [intOf]; omega)
    · obtain rfl : i = n := by omega
      go_wp2_with fail
      go_loopw [7, 8] (fun uv jv ws => ∃ (j : Nat) (u : List Int), j ≤ i ∧ jv = .int .i64 (j : Int) ∧ VRow ws w.heap.size uv u ∧ u.length = j ∧ (∀ k, k < j → u.getD k 0 * (if 1 < (g : Int) then (g : Int) else 1) = l.getD k 0) ∧ Ext w ws) (fun _ jv _ => i - (intOf jv).toNat)
      case atStart => exact ⟨0, [], by omega, rfl, VRow.nil _ _, rfl, fun k hk => absurd hk (by omega), HD.out.2⟩
      case round =>
        rename World => ws
        obtain ⟨j, u, hj, rfl, hV, hul, hq, hE⟩ := hrel
        have HV := Lib.hid (And.intro hV (And.intro hq hE))
        have hws := hE.size
        clear hV hq hE
        by_cases hlt2 : j < i
        · obtain ⟨b, off, rfl, _, hcell⟩ := (H.out.1.keep HV.out.2.2.ik).at j hlt2
          have hy2 := H.out.2 j hlt2
          have hdv := HD.out.1 j hlt2
          obtain ⟨y, hy⟩ : ∃ y, l.getD j 0 = y := ⟨_, rfl⟩
          rw [hy] at hcell hy2 hdv
          have HY := Lib.hid hy
          clear hy
          have j0 : (0 : Int) ≤ (j : Int) := by omega
          have j1 : (j : Int) < (i : Int) := by omega
          by_cases hg1 : 1 < (g : Int)
          · have hne : ((g : Int) == 0) = false := by simp; omega
            obtain ⟨q, hq⟩ : ∃ q, y.tdiv (g : Int) = q := ⟨_, rfl⟩
            have hqe : q * (g : Int) = y := by rw [← hq]; exact Int.tdiv_mul_cancel hdv
            have hqb : q.natAbs ≤ 4611686018427387904 := by
              have : q.natAbs * 1 ≤ q.natAbs * (g : Int).natAbs := Nat.mul_le_mul_left _ (by omega)
              rw [← Int.natAbs_mul, hqe] at this
              omega
            have HQ := Lib.hid hqe
            clear hqe hdv
            (have HR1 := Lib.hid (show q * (if 1 < (g : Int) then (g : Int) else 1) = y by rw [if_pos hg1]; exact HQ.out); go_wp2_with (at_builtin; refine wpList_append_lies _ rfl _ _ _ rfl w.heap.size 3 i0 _ 1 8 Try.underlying22 hi0 hz0 hz1 hz2 rfl (by omega) _ _ _ rfl (VRow.ext ((Ext.refl ws).alloc _) HV.out.1) ⟨ws.heap.size, 0, none⟩ 1 1 (ivals [q]) rfl rfl (ints_news (ints_one ws q ⟨by omega, by omega⟩) (by omega)) (ivals_one _) (by omega) (by rw [maxLen]; omega) (by omega) (by simp; omega) _ rfl ?_); intro g2 cap w3 hown hgrow hat hlt1; have HN := Lib.hid (show VRow w3 w.heap.size (.slice (some ⟨g2, 0, none⟩) (j + 1) cap) (u ++ [q]) ∧ Ext w w3 from ⟨VRow.app2 hul rfl hown, ext_grown (HV.out.2.2.alloc _) hgrow (fun g hg => (owns_lt HV.out.1 hg).1)⟩); clear hown hgrow hat; go_wp2_with fail; go_roundw; (case rel => exact ⟨j + 1, u ++ [q], by omega, by go_num, HN.out.1, by simp [hul], fun k hk => if e : k = j then (by rw [getD_last (by omega), e, HY.out]; exact HR1.out) else (by rw [getD_app (by omega)]; exact HV.out.2.1 k (by omega)), HN.out.2⟩); (case measure => simp [intOf]; omega))
          · clear hdv
            (have HR1 := Lib.hid (show y * (if 1 < (g : Int) then (g : Int) else 1) = y by rw [if_neg hg1]; exact Int.mul_one y); go_wp2_with (at_builtin; refine wpList_append_lies _ rfl _ _ _ rfl w.heap.size 3 i0 _ 1 8 Try.underlying22 hi0 hz0 hz1 hz2 rfl (by omega) _ _ _ rfl (VRow.ext ((Ext.refl ws).alloc _) HV.out.1) ⟨ws.heap.size, 0, none⟩ 1 1 (ivals [y]) rfl rfl (ints_news (ints_one ws y ⟨by omega, by omega⟩) (by omega)) (ivals_one _) (by omega) (by rw [maxLen]; omega) (by omega) (by simp; omega) _ rfl ?_); intro g2 cap w3 hown hgrow hat hlt1; have HN := Lib.hid (show VRow w3 w.heap.size (.slice (some ⟨g2, 0, none⟩) (j + 1) cap) (u ++ [y]) ∧ Ext w w3 from ⟨VRow.app2 hul rfl hown, ext_grown (HV.out.2.2.alloc _) hgrow (fun g hg => (owns_lt HV.out.1 hg).1)⟩); clear hown hgrow hat; go_wp2_with fail; go_roundw; (case rel => exact ⟨j + 1, u ++ [y], by omega, by go_num, HN.out.1, by simp [hul], fun k hk => if e : k = j then (by rw [getD_last (by omega), e, HY.out]; exact HR1.out) else (by rw [getD_app (by omega)]; exact HV.out.2.1 k (by omega)), HN.out.2⟩); (case measure => simp [intOf]; omega))
        · obtain rfl : j = i := by omega
          go_wp2_with fail
          go_ret
          exact ⟨_, u, if 1 < (g : Int) then (g : Int) else 1, rfl, HV.out.1, hul, by split <;> omega, HV.out.2.1, HV.out.2.2⟩
end Go.Proofs.Ytkoidookanmknaa
