/- meresmanref01: Has; meresmanref30: Row. -/
import Derived.Test.YtkoidookanmknaaV27
namespace Go.Proofs.Ytkoidookanmknaa
set_option linter.unusedSimpArgs false
set_option linter.unusedVariables false
open Go.RowKit

theorem step_append_lies {ops : Array Oper} {w : World} {P : Program} {o : Oper} {a : Act} {K : Act → World → Prop} {Q : Exit → Act → World → Prop} {E : Prop} (hgd : o.guard = none) (s x : Operand) (t : TypeId)
    (ho : o.op = .call { callee := .builtin .append, args := #[s, x], argTypes := #[t, t] })
    (base : Nat) (e : TypeId) (i : TypeInfo) (z : Value) (size bytes : Nat) (ht : P.underlying t = some (.slice e)) (hi : P.info? e = some i) (hz : i.zero = some z)
    (hsize : i.size = size) (hby : i.bytes = bytes) (hzs : z.cells.size = size) (hsz : 0 < size)
    (v : Value) (n : Nat) (xs : List Value) (hs : a.eval s = v) (hown : w.ownsRow base e size v n xs)
    (ad : Addr) (m c : Nat) (news : List Value) (hx : a.eval x = .slice (some ad) m c) (hl : news.length = m * size) (hnews : ∀ j u, news[j]? = some u → w.cell? (ad.add j) = some u) (h1 : ∀ u ∈ news, u.oneCell' = true)
    (hm : 0 < m) (h63 : n + m ≤ maxLen) (hbytes : (n + m) * bytes ≤ 140737488355328) (hbase : base ≤ w.heap.size) (H : Nat) (hH : w.heap.size = H)
    (h : ∀ g cap w', w'.ownsRow base e size (.slice (some ⟨g, 0, none⟩) (n + m) cap) (n + m) (xs ++ news) → w.grownBy w' v.ownBlock → (v.ownBlock = some g ∨ g = H) → g < w'.heap.size → K (a.put o.dst (.slice (some ⟨g, 0, none⟩) (n + m) cap)) w') :
    if Region.wanted o (yielded ops a.tmps) = true then Oper.wp P o a w K Q else E := by
  have hw : Region.wanted o (yielded ops a.tmps) = true := by simp [Region.wanted, hgd]
  rw [if_pos hw]
  exact wp_append_lies w s x t ho base e i z size bytes ht hi hz hsize hby hzs hsz v n xs hs hown ad m c news hx hl hnews h1 hm h63 hbytes hbase H hH h
set_option maxRecDepth 100000 in
set_option maxHeartbeats 2000000 in
theorem has_c (a : Option Addr) (n c : Nat) (l : List Int) (x : Int) (w : World) (h : Ints w a n l) (hn : n ≤ 1000) :
    Calls Try.prog 82 #[.slice a n c, .int .i64 x] w fun e w' => e = .returned (.bool (decide (x ∈ l))) ∧ Ext w w' := by
  have hl := h.1
  have H := Lib.hid h
  clear h
  go_enter Try.func82, Try.ntmps82
  go_wp2_with fail
  go_loopw [5] (fun iv ws => ∃ i : Nat, i ≤ n ∧ iv = .int .i64 (i : Int) ∧ (∀ k, k < i → l.getD k 0 ≠ x) ∧ Ext w ws) (fun iv _ => n - (intOf iv).toNat)
  case atStart => exact ⟨0, by omega, rfl, fun k hk => absurd hk (by omega), Ext.refl w⟩
  case round =>
    obtain ⟨i, hi, rfl, hz, hE⟩ := hrel
    have HZ := Lib.hid hz
    clear hz
    by_cases hlt : i < n
    · obtain ⟨b, off, rfl, _, hcell⟩ := (H.out.keep hE.ik).at i hlt
      have HE := Lib.hid hE
      clear hE
      have i0 : (0 : Int) ≤ (i : Int) := by omega
      have i1 : (i : Int) < (n : Int) := by omega
      obtain ⟨y, hy⟩ : ∃ y, l.getD i 0 = y := ⟨_, rfl⟩
      rw [hy] at hcell
      have HY := Lib.hid hy
      clear hy
      by_cases hxy : y = x
      · subst hxy
        go_wp2_with fail
        go_ret
        refine ⟨?_, HE.out⟩
        have : y ∈ l := by
          rw [← HY.out, getD_get (by omega)]
          exact List.getElem_mem _
        rw [decide_eq_true this]; rfl
      · go_wp2_with fail
        go_roundw
        case rel => exact ⟨i + 1, by omega, by go_num, fun k hk => by
          by_cases e : k = i
          · rw [e, HY.out]; exact hxy
          · exact HZ.out k (by omega), HE.out⟩
        case measure => simp [intOf]; omega
    · obtain rfl : i = n := by omega
      go_wp2_with fail
      go_ret
      refine ⟨?_, hE⟩
      have : ¬ x ∈ l := fun hm => by
        obtain ⟨k, hk, e⟩ := List.getElem_of_mem hm
        exact HZ.out k (by omega) (by rw [getD_get hk]; exact e)
      rw [decide_eq_false this]; rfl
/-- The row of a set, in integers. -/
def rowI (n : Nat) (L : List Int) : List Int := (List.range n).map fun c : Nat => if (c : Int) ∈ L then (1 : Int) else 0
theorem rowI_len (n : Nat) (L : List Int) : (rowI n L).length = n := by simp [rowI]
theorem rowI_succ (n : Nat) (L : List Int) : rowI (n + 1) L = rowI n L ++ [if (n : Int) ∈ L then 1 else 0] := by simp [rowI, List.range_succ]
theorem rowI_get (n : Nat) (L : List Int) (c : Nat) : (rowI n L).getD c 0 = if c < n then (if (c : Int) ∈ L then 1 else 0) else 0 := by
  unfold rowI
  rw [List.getD_eq_getElem?_getD, List.getElem?_map]
  by_cases hc : c < n
  · rw [List.getElem?_range hc, if_pos hc]; rfl
  · rw [List.getElem?_eq_none (by simpa using hc), if_neg hc]; rfl
theorem rowI_vec {n : Nat} {L : List Int} (h : ∀ x, x ∈ L → x < (n : Int)) : vecI (rowI n L) = rowV L := funext fun c => by
  unfold vecI rowV
  rw [rowI_get]
  by_cases hm : (c : Int) ∈ L
  · have := h _ hm
    rw [if_pos (by omega), if_pos hm, if_pos hm]; rfl
  · rw [if_neg hm, if_neg hm]
    split <;> rfl
theorem rowI_01 (n : Nat) (L : List Int) (x : Int) (hx : x ∈ rowI n L) : x = 0 ∨ x = 1 := by
  unfold rowI at hx
  rw [List.mem_map] at hx
  obtain ⟨c, _, rfl⟩ := hx
  split
  · exact .inr rfl
  · exact .inl rfl
theorem VRow.app2 {w1 : World} {base g cap m n : Nat} {l k : List Int} (hn : l.length = n) (hm : k.length = m) (h : w1.ownsRow base 3 1 (.slice (some ⟨g, 0, none⟩) (n + m) cap) (n + m) (ivals l ++ ivals k)) :
    VRow w1 base (.slice (some ⟨g, 0, none⟩) (n + m) cap) (l ++ k) := by subst hn; exact VRow.app hm h
set_option maxRecDepth 100000 in
set_option maxHeartbeats 2000000 in
theorem rrow_c (n : Nat) (ss vs : Sl) (gs : List Sl) (Ls : List (List Int)) (k : Nat) (w : World) (h : Grps w ss.a ss.n gs Ls) (hlen : ∀ k, (Ls.getD k []).length ≤ 1000) (hn : n ≤ 1000) (hk : k < ss.n) :
    Calls Try.prog 66 #[.agg #[.int .i64 (n : Int), ss.v, vs.v], .int .i64 (k : Int)] w fun e w' => ∃ v, e = .returned v ∧ VRow w' w.heap.size v (rowI n (Ls.getD k [])) ∧ Ext w w' := by
  obtain ⟨i0, hi0, hz0, hz1, hz2⟩ := info_parts intInfo
  obtain ⟨sa, sn, sc⟩ := ss
  obtain ⟨va, vn, vc⟩ := vs
  simp only at h hk
  simp only [Sl.v]
  obtain ⟨B, hB⟩ : ∃ B, w.heap.size = B := ⟨_, rfl⟩
  obtain ⟨sb, so, rfl, _, hcell⟩ := h.at k hk
  have hin := h.2.2.2.2 k hk
  have hLn := hlen k
  obtain ⟨⟨ta, tn, tc⟩, hgk⟩ : ∃ s, gs.getD k sl0 = s := ⟨_, rfl⟩
  obtain ⟨L, hL⟩ : ∃ L, Ls.getD k [] = L := ⟨_, rfl⟩
  rw [hgk] at hcell hin
  rw [hL] at hin hLn ⊢
  simp only [Sl.v] at hcell
  simp only at hin
  have htn := hin.1
  rw [htn] at hLn
  have HI := Lib.hid (And.intro hin hcell)
  clear hin hcell hL hgk h hlen htn
  have k0 : (0 : Int) ≤ (k : Int) := by omega
  have k1 : (k : Int) < (sn : Int) := by omega
  go_enter Try.func66, Try.ntmps66
  go_upto_region 1 with (fail)
  refine wp_gen (fun W => Ext w W ∧ Blk W B #[.int .i64 (n : Int), .slice (some ⟨sb, so, none⟩) sn sc, .slice va vn vc] 25) ⟨(by repeat (first | exact Ext.refl _ | assumption | refine Ext.setCell ?_ (by first | (simp; done) | (simp; omega) | omega) _ | refine Ext.alloc ?_ _ | refine Ext.drew ?_ | refine Ext.trans ?_ (by assumption))), Blk.at _ _ hB.symm⟩ ?_
  rintro V ⟨E0, B0⟩
  have HV := Lib.hid (And.intro E0 B0)
  clear E0 B0
  go_wp2_with fail
  go_loopw [5, 6] (fun sv v ws => ∃ c : Nat, c ≤ n ∧ v = .int .i64 (c : Int) ∧ VRow ws V.heap.size sv (rowI c L) ∧ Ext V ws) (fun _ v _ => n - (intOf v).toNat)
  case atStart => exact ⟨0, by omega, rfl, VRow.nil _ _, Ext.refl _⟩
  case round =>
    obtain ⟨i, hi, rfl, hR, hE⟩ := hrel
    have hb := HV.out.2.ext hE
    have x0 : wr.cell? ⟨B, 0, none⟩ = some (.int .i64 (n : Int)) := hb.cell 0
    have x1 : wr.cell? ⟨B, 1, none⟩ = some (.slice (some ⟨sb, so, none⟩) sn sc) := hb.cell 1
    have hwr := HV.out.1.trans hE
    have x2 : wr.cell? ⟨sb, so + k, none⟩ = some (.slice ta tn tc) := hwr.cell HI.out.2
    have HE := Lib.hid (And.intro hE hwr)
    have HR := Lib.hid hR
    clear hE hb hwr hR
    by_cases hlt : i < n
    · go_wp2_with fail
      refine (has_c ta tn tc L (i : Int) _ (HI.out.1.keep HE.out.2.ik) (by omega)).mono ?_
      rintro e w2 ⟨rfl, hx⟩
      have hln := rowI_len i L
      have hs2 := hx.size
      have HX := Lib.hid (show VRow w2 V.heap.size u5 (rowI i L) ∧ Ext V w2 from ⟨HR.out.ext hx, HE.out.1.trans hx⟩)
      have hs3 := HX.out.2.size
      clear hx x0 x1 x2
      by_cases hm : (i : Int) ∈ L
      · rw [decide_eq_true hm]
        (have HR1 := Lib.hid (show rowI (i + 1) L = rowI i L ++ [1] by rw [rowI_succ, if_pos hm]); clear hm; go_wp2_with (at_builtin; refine wpList_append_lies _ rfl _ _ _ rfl V.heap.size 3 i0 _ 1 8 Try.underlying22 hi0 hz0 hz1 hz2 rfl (by omega) _ _ _ rfl (VRow.ext ((Ext.refl w2).alloc _) HX.out.1) ⟨w2.heap.size, 0, none⟩ 1 1 (ivals [(1 : Int)]) rfl rfl (ints_news (ints_one w2 (1 : Int) ⟨by omega, by omega⟩) (by omega)) (ivals_one _) (by omega) (by rw [maxLen]; omega) (by omega) (by simp; omega) _ rfl ?_); intro g cap w3 hown hgrow hat hlt1; have HN := Lib.hid (show VRow w3 V.heap.size (.slice (some ⟨g, 0, none⟩) (i + 1) cap) (rowI (i + 1) L) ∧ Ext V w3 from ⟨by rw [HR1.out]; exact VRow.app2 hln rfl hown, ext_grown (HX.out.2.alloc _) hgrow (fun g hg => (owns_lt HX.out.1 hg).1)⟩); clear hown hgrow hat; go_wp2_with fail; go_roundw; (case rel => exact ⟨i + 1, by omega, by go_num, HN.out.1, HN.out.2⟩); (case measure => simp [intOf]; omega))
      · rw [decide_eq_false hm]
        (have HR1 := Lib.hid (show rowI (i + 1) L = rowI i L ++ [0] by rw [rowI_succ, if_neg hm]); clear hm; go_wp2_with (at_builtin; refine wpList_append_lies _ rfl _ _ _ rfl V.heap.size 3 i0 _ 1 8 Try.underlying22 hi0 hz0 hz1 hz2 rfl (by omega) _ _ _ rfl (VRow.ext ((Ext.refl w2).alloc _) HX.out.1) ⟨w2.heap.size, 0, none⟩ 1 1 (ivals [(0 : Int)]) rfl rfl (ints_news (ints_one w2 (0 : Int) ⟨by omega, by omega⟩) (by omega)) (ivals_one _) (by omega) (by rw [maxLen]; omega) (by omega) (by simp; omega) _ rfl ?_); intro g cap w3 hown hgrow hat hlt1; have HN := Lib.hid (show VRow w3 V.heap.size (.slice (some ⟨g, 0, none⟩) (i + 1) cap) (rowI (i + 1) L) ∧ Ext V w3 from ⟨by rw [HR1.out]; exact VRow.app2 hln rfl hown, ext_grown (HX.out.2.alloc _) hgrow (fun g hg => (owns_lt HX.out.1 hg).1)⟩); clear hown hgrow hat; go_wp2_with fail; go_roundw; (case rel => exact ⟨i + 1, by omega, by go_num, HN.out.1, HN.out.2⟩); (case measure => simp [intOf]; omega))
    · obtain rfl : i = n := by omega
      go_wp2_with fail
      go_ret
      exact ⟨_, rfl, VRow.base HR.out HV.out.1.size, HE.out.2⟩
/- meresmanref30: divided. -/
open Go.RowKit

theorem getD_app {α : Type} {l m : List α} {k : Nat} {d : α} (hk : k < l.length) : (l ++ m).getD k d = l.getD k d := by
  simp [List.getD_eq_getElem?_getD, List.getElem?_append, hk]
theorem getD_last {α : Type} {l : List α} {x d : α} {k : Nat} (hk : k = l.length) : (l ++ [x]).getD k d = x := by
  subst hk; simp [List.getD_eq_getElem?_getD]
theorem tmod_nat (g a : Nat) : (g : Int).tmod (a : Int) = ((g % a : Nat) : Int) := by
  rw [Int.ofNat_tmod]
theorem gcd_stp {g a G : Nat} (h : Nat.gcd g a = G) : Nat.gcd a (g % a) = G := by
  rw [← h, Nat.gcd_comm a, ← Nat.gcd_rec a g, Nat.gcd_comm]
theorem dvd_keep {G g : Nat} {x : Int} (h : G ∣ g) (hx : (g : Int) ∣ x) : (G : Int) ∣ x := Int.dvd_trans (Int.natCast_dvd_natCast.2 h) hx
theorem dvd_abs {G : Nat} {x : Int} (h : G ∣ x.natAbs) : (G : Int) ∣ x := Int.dvd_trans (Int.natCast_dvd_natCast.2 h) (Int.natAbs_dvd.2 (Int.dvd_refl x))
set_option maxRecDepth 100000 in
set_option maxHeartbeats 2000000 in
theorem divided_c (a : Option Addr) (n c : Nat) (l : List Int) (w : World) (h : Ints w a n l) (hn : n ≤ 1000) (hb : ∀ x, x ∈ l → x.natAbs ≤ 4611686018427387904) :
    Calls Try.prog 83 #[.slice a n c] w fun e w' => ∃ (v : Value) (u : List Int) (g : Int), e = .returned v ∧ VRow w' w.heap.size v u ∧ u.length = n ∧ 1 ≤ g ∧ (∀ j, j < n → u.getD j 0 * g = l.getD j 0) ∧ Ext w w' := by
  obtain ⟨i0, hi0, hz0, hz1, hz2⟩ := info_parts intInfo
  have hbd : ∀ j, j < n → (l.getD j 0).natAbs ≤ 4611686018427387904 := fun j hj => by
    rw [getD_get (by have := h.1; omega)]; exact hb _ (List.getElem_mem _)
  have H := Lib.hid (And.intro h hbd)
  clear h hb hbd
  go_enter Try.func83, Try.ntmps83
  go_wp2_with fail
  go_loopw [3, 4] (fun gv iv ws => ∃ i g : Nat, i ≤ n ∧ iv = .int .i64 (i : Int) ∧ gv = .int .i64 (g : Int) ∧ g ≤ 4611686018427387904 ∧ (∀ j, j < i → (g : Int) ∣ l.getD j 0) ∧ Ext w ws) (fun _ iv _ => n - (intOf iv).toNat)
  case atStart => exact ⟨0, 0, by omega, rfl, rfl, by omega, fun k hk => absurd hk (by omega), Ext.refl w⟩
  case round =>
    obtain ⟨i, g, hi, rfl, rfl, hg, hd, hE⟩ := hrel
    have HD := Lib.hid (And.intro hd hE)
    clear hd hE
    by_cases hlt : i < n
    · obtain ⟨b, off, rfl, _, hcell⟩ := H.out.1.at i hlt
      have hy2 := H.out.2 i hlt
      obtain ⟨y, hy⟩ : ∃ y, l.getD i 0 = y := ⟨_, rfl⟩
      rw [hy] at hcell hy2
      have HY := Lib.hid hy
      have HC := Lib.hid (fun W (e : Ext w W) => e.cell hcell)
      clear hy hcell
      have i0 : (0 : Int) ≤ (i : Int) := by omega
      have i1 : (i : Int) < (n : Int) := by omega
      go_upto_region 5 with (fail)
      refine wp_region_held_drew (S := fun W => Ext w W) (by kernel_rfl) HD.out.2.drew (fun hHeld => ?_)
      refine takeL (i := 0) (v := ?_) rfl (by kernel_rfl) (by kernel_rfl) (by kernel_rfl) (fun _ _ _ h => h) (Or.inl ⟨by rfl, ?_⟩) (by assumption) ?_; rotate_left; (focus (intro wq hSw; (try dsimp only at hSw); go_simp; try with_reducible rfl)); (try simp only [Act.put, List.setIfInBounds_toArray, List.set_cons_zero, List.set_cons_succ])
      refine takeL (i := 1) (v := ?_) rfl (by kernel_rfl) (by kernel_rfl) (by kernel_rfl) (fun _ _ _ h => h) (Or.inl ⟨by rfl, ?_⟩) (by assumption) ?_; rotate_left; (focus (intro wq hSw; (try dsimp only at hSw); go_simp; try with_reducible rfl)); (try simp only [Act.put, List.setIfInBounds_toArray, List.set_cons_zero, List.set_cons_succ])
      refine takeL (i := 2) (v := ?_) rfl (by kernel_rfl) (by kernel_rfl) (by kernel_rfl) (fun _ _ _ h => h) (Or.inl ⟨by rfl, ?_⟩) (by assumption) ?_; rotate_left; (focus (intro wq hSw; (try dsimp only at hSw); go_simp; try with_reducible rfl)); (try simp only [Act.put, List.setIfInBounds_toArray, List.set_cons_zero, List.set_cons_succ])
      refine takeL (i := 3) (v := ?_) rfl (by kernel_rfl) (by kernel_rfl) (by kernel_rfl) (fun _ _ _ h => h) (Or.inl ⟨by rfl, ?_⟩) (by assumption) ?_; rotate_left; (focus (intro wq hSw; have hcc := HC.out wq hSw; clear hSw; go_simp; try with_reducible rfl)); (try simp only [Act.put, List.setIfInBounds_toArray, List.set_cons_zero, List.set_cons_succ])
      refine takeL (i := 4) (v := ?_) rfl (by kernel_rfl) (by kernel_rfl) (by kernel_rfl) (fun _ _ _ h => h) (Or.inl ⟨by rfl, ?_⟩) (by assumption) ?_; rotate_left; (focus (intro wq hSw; (try dsimp only at hSw); go_simp; try with_reducible rfl)); (try simp only [Act.put, List.setIfInBounds_toArray, List.set_cons_zero, List.set_cons_succ])
      refine takeL (i := 5) (v := ?_) rfl (by kernel_rfl) (by kernel_rfl) (by kernel_rfl) (fun _ _ _ h => h) (Or.inl ⟨by rfl, ?_⟩) (by assumption) ?_; rotate_left; (focus (intro wq hSw; (try dsimp only at hSw); go_simp; try with_reducible rfl)); (try simp only [Act.put, List.setIfInBounds_toArray, List.set_cons_zero, List.set_cons_succ])
      refine takeL (i := 6) (v := ?_) rfl (by kernel_rfl) (by kernel_rfl) (by kernel_rfl) (fun _ _ _ h => h) (Or.inl ⟨by rfl, ?_⟩) (by assumption) ?_; rotate_left; (focus (intro wq hSw; (try dsimp only at hSw); go_simp; try with_reducible rfl)); (try simp only [Act.put, List.setIfInBounds_toArray, List.set_cons_zero, List.set_cons_succ])
      refine takeL (i := 7) (v := ?_) rfl (by kernel_rfl) (by kernel_rfl) (by kernel_rfl) (fun _ _ _ h => h) (Or.inl ⟨by rfl, ?_⟩) (by assumption) ?_; rotate_left; (focus (intro wq hSw; have hcc := HC.out wq hSw; clear hSw; go_simp; try with_reducible rfl)); (try simp only [Act.put, List.setIfInBounds_toArray, List.set_cons_zero, List.set_cons_succ])
      refine takeL (i := 8) (v := ?_) rfl (by kernel_rfl) (by kernel_rfl) (by kernel_rfl) (fun _ _ _ h => h) (Or.inl ⟨by rfl, ?_⟩) (by assumption) ?_; rotate_left; (focus (intro wq hSw; (try dsimp only at hSw); go_simp; try with_reducible rfl)); (try simp only [Act.put, List.setIfInBounds_toArray, List.set_cons_zero, List.set_cons_succ])
      refine consL (i := 9) (by kernel_rfl) rfl (fun K hK => ?_); go_simp; refine hK.out _ _ ?_ (fun hHeld => ?_); rotate_left; clear hK K; rotate_right; (focus (exact hHeld)); (try simp only [Act.put, List.setIfInBounds_toArray, List.set_cons_zero, List.set_cons_succ])
      have hmx : max y (IntKind.i64.wrap (-y)) = ((y.natAbs : Nat) : Int) := by
        rw [show IntKind.i64.wrap (-y) = -y from IntWalk.i64_in _ (by omega)]; omega
      simp only [hmx]
      clear hmx
      obtain ⟨A, hA⟩ : ∃ A, y.natAbs = A := ⟨_, rfl⟩
      rw [hA] at hy2 ⊢
      have HA := Lib.hid hA
      clear hA
      refine takeL (i := 10) (v := ?_) rfl (by kernel_rfl) (by kernel_rfl) (by kernel_rfl) (fun _ _ _ h => h) (Or.inl ⟨by rfl, ?_⟩) (by assumption) ?_; rotate_left; (focus (intro wq hSw; (try dsimp only at hSw); go_simp; try with_reducible rfl)); (try simp only [Act.put, List.setIfInBounds_toArray, List.set_cons_zero, List.set_cons_succ])
      refine doneL (by kernel_rfl) ?_
      have HH := Lib.hid hHeld
      clear hHeld
      obtain ⟨G, hG⟩ : ∃ G, Nat.gcd g A = G := ⟨_, rfl⟩
      have HG := Lib.hid hG
      go_wp2_with fail
      go_loopw [3, 5] (fun gv av ws => ∃ g' a' : Nat, gv = .int .i64 (g' : Int) ∧ av = .int .i64 (a' : Int) ∧ g' ≤ 4611686018427387904 ∧ a' ≤ 4611686018427387904 ∧ Nat.gcd g' a' = G ∧ Ext w ws) (fun _ av _ => (intOf av).toNat)
      case atStart => exact ⟨g, A, rfl, rfl, hg, hy2, hG, HH.out⟩
      case round =>
        rename World => ws
        clear hG
        obtain ⟨g1, a1, rfl, rfl, hg1, ha1, hgcd, hE⟩ := hrel
        have HE := Lib.hid (And.intro hgcd hE)
        clear hgcd hE
        by_cases ha0 : a1 = 0
        · subst ha0
          go_wp2_with fail
          go_roundw
          case rel =>
            have e : g1 = G := by have := HE.out.1; rwa [Nat.gcd_zero_right] at this
            refine ⟨i + 1, g1, by omega, by go_num, rfl, hg1, fun j hj => ?_, HE.out.2⟩
            rw [e]
            by_cases hji : j = i
            · rw [hji, HY.out]
              exact dvd_abs (by rw [HA.out, ← HG.out]; exact Nat.gcd_dvd_right g A)
            · exact dvd_keep (by rw [← HG.out]; exact Nat.gcd_dvd_left g A) (HD.out.1 j (by omega))
          case measure => simp [intOf]; omega
        · have hr := tmod_nat g1 a1
          have hp : (0 : Int) < (a1 : Int) := by omega
          have hmod := Nat.mod_lt g1 (show 0 < a1 by omega)
          have hne : ((a1 : Int) == 0) = false := by simp; omega
          go_wp2_with fail
          go_roundw
          case rel => exact ⟨a1, g1 % a1, rfl, rfl, ha1, by omega, gcd_stp HE.out.1, HE.out.2⟩
          case measure => first | (simp [intOf]; done) | (simp [intOf]; omega)
    · obtain rfl : i = n := by omega
      go_wp2_with fail
      go_loopw [7, 8] (fun uv jv ws => ∃ (j : Nat) (u : List Int), j ≤ i ∧ jv = .int .i64 (j : Int) ∧ VRow ws w.heap.size uv u ∧ u.length = j ∧ (∀ k, k < j → u.getD k 0 * (if 1 < (g : Int) then (g : Int) else 1) = l.getD k 0) ∧ Ext w ws) (fun _ jv _ => i - (intOf jv).toNat)
      case atStart => exact ⟨0, [], by omega, rfl, VRow.nil _ _, rfl, fun k hk => absurd hk (by omega), HD.out.2⟩
      case round =>
        rename World => ws
        obtain ⟨j, u, hj, rfl, hV, hul, hq, hE⟩ := hrel
        have HV := Lib.hid (And.intro hV (And.intro hq hE))
        have hws := hE.size
        clear hV hq hE
        by_cases hlt2 : j < i
        · obtain ⟨b, off, rfl, _, hcell⟩ := (H.out.1.keep HV.out.2.2.ik).at j hlt2
          have hy2 := H.out.2 j hlt2
          have hdv := HD.out.1 j hlt2
          obtain ⟨y, hy⟩ : ∃ y, l.getD j 0 = y := ⟨_, rfl⟩
          rw [hy] at hcell hy2 hdv
          have HY := Lib.hid hy
          clear hy
          have j0 : (0 : Int) ≤ (j : Int) := by omega
          have j1 : (j : Int) < (i : Int) := by omega
          by_cases hg1 : 1 < (g : Int)
          · have hne : ((g : Int) == 0) = false := by simp; omega
            obtain ⟨q, hq⟩ : ∃ q, y.tdiv (g : Int) = q := ⟨_, rfl⟩
            have hqe : q * (g : Int) = y := by rw [← hq]; exact Int.tdiv_mul_cancel hdv
            have hqb : q.natAbs ≤ 4611686018427387904 := by
              have : q.natAbs * 1 ≤ q.natAbs * (g : Int).natAbs := Nat.mul_le_mul_left _ (by omega)
              rw [← Int.natAbs_mul, hqe] at this
              omega
            have HQ := Lib.hid hqe
            clear hqe hdv
            (have HR1 := Lib.hid (show q * (if 1 < (g : Int) then (g : Int) else 1) = y by rw [if_pos hg1]; exact HQ.out); go_wp2_with (at_builtin; refine wpList_append_lies _ rfl _ _ _ rfl w.heap.size 3 i0 _ 1 8 Try.underlying22 hi0 hz0 hz1 hz2 rfl (by omega) _ _ _ rfl (VRow.ext ((Ext.refl ws).alloc _) HV.out.1) ⟨ws.heap.size, 0, none⟩ 1 1 (ivals [q]) rfl rfl (ints_news (ints_one ws q ⟨by omega, by omega⟩) (by omega)) (ivals_one _) (by omega) (by rw [maxLen]; omega) (by omega) (by simp; omega) _ rfl ?_); intro g2 cap w3 hown hgrow hat hlt1; have HN := Lib.hid (show VRow w3 w.heap.size (.slice (some ⟨g2, 0, none⟩) (j + 1) cap) (u ++ [q]) ∧ Ext w w3 from ⟨VRow.app2 hul rfl hown, ext_grown (HV.out.2.2.alloc _) hgrow (fun g hg => (owns_lt HV.out.1 hg).1)⟩); clear hown hgrow hat; go_wp2_with fail; go_roundw; (case rel => exact ⟨j + 1, u ++ [q], by omega, by go_num, HN.out.1, by simp [hul], fun k hk => if e : k = j then (by rw [getD_last (by omega), e, HY.out]; exact HR1.out) else (by rw [getD_app (by omega)]; exact HV.out.2.1 k (by omega)), HN.out.2⟩); (case measure => simp [intOf]; omega))
          · clear hdv
            (have HR1 := Lib.hid (show y * (if 1 < (g : Int) then (g : Int) else 1) = y by rw [if_neg hg1]; exact Int.mul_one y); go_wp2_with (at_builtin; refine wpList_append_lies _ rfl _ _ _ rfl w.heap.size 3 i0 _ 1 8 Try.underlying22 hi0 hz0 hz1 hz2 rfl (by omega) _ _ _ rfl (VRow.ext ((Ext.refl ws).alloc _) HV.out.1) ⟨ws.heap.size, 0, none⟩ 1 1 (ivals [y]) rfl rfl (ints_news (ints_one ws y ⟨by omega, by omega⟩) (by omega)) (ivals_one _) (by omega) (by rw [maxLen]; omega) (by omega) (by simp; omega) _ rfl ?_); intro g2 cap w3 hown hgrow hat hlt1; have HN := Lib.hid (show VRow w3 w.heap.size (.slice (some ⟨g2, 0, none⟩) (j + 1) cap) (u ++ [y]) ∧ Ext w w3 from ⟨VRow.app2 hul rfl hown, ext_grown (HV.out.2.2.alloc _) hgrow (fun g hg => (owns_lt HV.out.1 hg).1)⟩); clear hown hgrow hat; go_wp2_with fail; go_roundw; (case rel => exact ⟨j + 1, u ++ [y], by omega, by go_num, HN.out.1, by simp [hul], fun k hk => if e : k = j then (by rw [getD_last (by omega), e, HY.out]; exact HR1.out) else (by rw [getD_app (by omega)]; exact HV.out.2.1 k (by omega)), HN.out.2⟩); (case measure => simp [intOf]; omega))
        · obtain rfl : j = i := by omega
          go_wp2_with fail
          go_ret
          exact ⟨_, u, if 1 < (g : Int) then (g : Int) else 1, rfl, HV.out.1, hul, by split <;> omega, HV.out.2.1, HV.out.2.2⟩
end Go.Proofs.Ytkoidookanmknaa
