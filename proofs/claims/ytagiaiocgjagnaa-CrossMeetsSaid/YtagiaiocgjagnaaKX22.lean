/- meresmanref07: Put. -/
import Derived.Test.YtagiaiocgjagnaaKX21
import Derived.Great.BuildSlice
namespace Go.Proofs.Ytagiaiocgjagnaa
set_option linter.unusedSimpArgs false
set_option linter.unusedVariables false
open Go.RowKit

abbrev RP.ca (p : RP) : Array Value := #[.int .i64 p.x, .int .i64 p.y, .int .i64 p.d]
theorem GAt.r3 {w : World} {g : Nat} {l : List RP} (h : GAt encRP w g l) {i : Nat} {p : RP} (hi : l[i]? = some p) : w.cell? ⟨g, i * 3, none⟩ = some (.int .i64 p.x) ∧ w.cell? ⟨g, i * 3 + 1, none⟩ = some (.int .i64 p.y) ∧ w.cell? ⟨g, i * 3 + 2, none⟩ = some (.int .i64 p.d) := ⟨h i p hi 0 (by decide), h i p hi 1 (by decide), h i p hi 2 (by decide)⟩
theorem Blk.ra {w : World} {b : Nat} {p : RP} {t : TypeId} (h : Blk w b p.ca t) : w.cell? ⟨b, 0, none⟩ = some (.int .i64 p.x) ∧ w.cell? ⟨b, 1, none⟩ = some (.int .i64 p.y) ∧ w.cell? ⟨b, 2, none⟩ = some (.int .i64 p.d) := ⟨h.cell 0, h.cell 1, h.cell 2⟩
theorem eq3 (q p : RP) : ((q.x == p.x) = true ∧ (q.y == p.y) = true ∧ (q.d == p.d) = true) ∨ (q.x == p.x) = false ∨ ((q.x == p.x) = true ∧ (q.y == p.y) = false) ∨ ((q.x == p.x) = true ∧ (q.y == p.y) = true ∧ (q.d == p.d) = false) := by
  cases q.x == p.x <;> cases q.y == p.y <;> cases q.d == p.d <;> simp
theorem src1 {w : World} {b : Nat} {p : RP} {t : TypeId} (h : Blk w b p.ca t) : SrcR w (some ⟨b, 0, none⟩) 1 [p] :=
  ⟨rfl, .inr ⟨_, rfl, gnews_at (gAt_one fun j hj => by
    rcases j with _ | _ | _ | j
    · exact h.cell 0
    · exact h.cell 1
    · exact h.cell 2
    · exact absurd hj (by show ¬ (j + 3 < 3); omega))⟩⟩
theorem wp_build1 {o : Oper} {a : Act} {w : World} {K : Act → World → Prop} {Q : Exit → Act → World → Prop} (p : RP) (x : Operand) (ho : o.op = .buildSlice 81 1 #[(0, x)]) (hx : a.eval x = p.v)
    (h : K (a.put o.dst (.slice (some ⟨w.heap.size, 0, none⟩) 1 1)) (w.alloc (.cells p.ca 72))) : o.wp Try.prog a w K Q := by
  obtain ⟨i0, hi, hz0, hz1, hz2⟩ := info_parts rpInfo
  refine wp_buildSlice 81 72 1 #[(0, x)] ho p.ca i0 _ Try.underlying81 hi hz0 (by rw [hz1]; omega) (by rw [hz1]; omega) ?_ h
  rw [hz1]
  simp only [List.map_toArray, List.map_cons, List.map_nil, hx]
  first
  | kernel_rfl
  | (cases p; rfl)
  | (simp [Instr.fill, RP.v]; rfl)
/-- What the tail of Put is told: the place k, what stands before and behind it. -/
def PutK (l : List RP) (p : RP) (k : Nat) : Prop := insF l p = l.take k ++ p :: l.drop k
set_option maxRecDepth 100000 in
set_option maxHeartbeats 40000000 in
theorem rPut_some (g n c : Nat) (l : List RP) (p : RP) (w : World) (hg : GAt encRP w g l) (hgl : g < w.heap.size) (hln : l.length = n) (h0 : 0 < n) (hnc : n ≤ c) (hcm : c ≤ maxLen) (hin : ∀ q ∈ l, PIn q 4000000) (hp : PIn p 4000000) (hn : n ≤ 100) :
    Calls Try.prog 65 #[.slice (some ⟨g, 0, none⟩) n c, p.v] w fun e w' => ∃ a' c', e = .returned (.slice a' (insF l p).length c') ∧ RPs w' a' (insF l p).length c' (insF l p) ∧ Ext w w' := by
  have HL := Lib.hid (And.intro hg (And.intro hgl hln))
  have HP := Lib.hid (And.intro hin hp)
  have hcm' := hcm
  rw [maxLen] at hcm'
  have hR := Lib.hid (show RPs w (some ⟨g, 0, none⟩) n c l from ⟨hln, hnc, hcm, .inr ⟨g, rfl, h0, hg, hgl⟩⟩)
  clear hg hln hin hp hcm
  obtain ⟨B, hB⟩ : ∃ B, w.heap.size = B := ⟨_, rfl⟩
  go_enter Try.func65, Try.ntmps65
  go_upto_region 2 with fail
  refine wp_gen (fun W => Ext w W ∧ Blk W B p.ca 72) ⟨(by repeat (first | exact Ext.refl _ | assumption | refine Ext.setCell ?_ (by first | (simp; done) | (simp; omega) | omega) _ | refine Ext.alloc ?_ _ | refine Ext.drew ?_ | refine Ext.trans ?_ (by assumption))), Blk.at _ 72 hB.symm⟩ ?_
  rintro V ⟨E0, B0⟩
  have HE := Lib.hid E0
  have HB := Lib.hid B0
  clear E0 B0
  go_loopw [5] (fun v ws => ∃ k : Nat, k ≤ n ∧ v = .int .i64 (k : Int) ∧ (∀ j q, j < k → l[j]? = some q → cmp5 q p < 0) ∧ Ext V ws) (fun v _ => n - (intOf v).toNat)
  case atStart => exact ⟨0, by omega, rfl, fun j q hj => absurd hj (by omega), Ext.refl V⟩
  case round =>
    obtain ⟨k, hk, rfl, hz, hE⟩ := hrel
    have HZ := Lib.hid hz
    have HW := Lib.hid hE
    clear hz
    have l0 : (0 : Int) ≤ (k : Int) := by omega
    have l2 : ¬ (k : Int) < 0 := by omega
    by_cases hlt : k < n
    · obtain ⟨q, hq⟩ : ∃ q, l[k]? = some q := ⟨_, List.getElem?_eq_getElem (by rw [HL.out.2.2]; exact hlt)⟩
      have HQ := Lib.hid hq
      have l1 : (k : Int) < (n : Int) := by omega
      have l1' : decide ((k : Int) < (n : Int)) = true := decide_eq_true l1
      have HC := Lib.hid (fun W (e : Ext wr W) => (show (W.cell? ⟨g, k * 3, none⟩ = some (.int .i64 q.x) ∧ W.cell? ⟨g, k * 3 + 1, none⟩ = some (.int .i64 q.y) ∧ W.cell? ⟨g, k * 3 + 2, none⟩ = some (.int .i64 q.d)) ∧ W.cell? ⟨B, 0, none⟩ = some (.int .i64 p.x) ∧ W.cell? ⟨B, 1, none⟩ = some (.int .i64 p.y) ∧ W.cell? ⟨B, 2, none⟩ = some (.int .i64 p.d) from ⟨GAt.r3 (((HL.out.1.ext HE.out).ext hE).ext e) HQ.out, ((HB.out.ext hE).ext e).ra⟩))
      obtain ⟨z, hz0⟩ : ∃ z, cmp5 q p = z := ⟨_, rfl⟩
      have HZ0 := Lib.hid hz0
      clear hq hz0 hE
      go_upto_region 2 with fail
      refine wp_region_held_drew (S := fun W => Ext wr W) (by kernel_rfl) ((Ext.refl wr).drew) (fun hHeld => ?_)
      refine takeL (i := 0) (v := ?_) rfl (by kernel_rfl) (by kernel_rfl) (by kernel_rfl) (fun _ _ _ h => h) (Or.inl ⟨by rfl, ?_⟩) (by assumption) ?_; rotate_left; (focus (intro wq hSw; (try dsimp only at hSw); go_simp; try with_reducible rfl)); (try simp only [Act.put, List.setIfInBounds_toArray, List.set_cons_zero, List.set_cons_succ])
      refine takeL (i := 1) (v := ?_) rfl (by kernel_rfl) (by kernel_rfl) (by kernel_rfl) (fun _ _ _ h => h) (Or.inl ⟨by rfl, ?_⟩) (by assumption) ?_; rotate_left; (focus (intro wq hSw; (try dsimp only at hSw); go_simp; try with_reducible rfl)); (try simp only [Act.put, List.setIfInBounds_toArray, List.set_cons_zero, List.set_cons_succ])
      refine takeL (i := 2) (v := ?_) rfl (by kernel_rfl) (by kernel_rfl) (by kernel_rfl) (fun _ _ _ h => h) (Or.inl ⟨by rfl, ?_⟩) (by assumption) ?_; rotate_left; (focus (intro wq hSw; (try dsimp only at hSw); go_simp; try with_reducible rfl)); (try simp only [Act.put, List.setIfInBounds_toArray, List.set_cons_zero, List.set_cons_succ])
      refine takeL (i := 3) (v := ?_) rfl (by kernel_rfl) (by kernel_rfl) (by kernel_rfl) (fun _ _ _ h => h) (Or.inl ⟨by rfl, ?_⟩) (by assumption) ?_; rotate_left; (focus (intro wq hSw; (try dsimp only at hSw); go_simp; try with_reducible rfl)); (try simp only [Act.put, List.setIfInBounds_toArray, List.set_cons_zero, List.set_cons_succ])
      refine takeL (i := 4) (v := ?_) rfl (by kernel_rfl) (by kernel_rfl) (by kernel_rfl) (fun _ _ _ h => h) (Or.inl ⟨by rfl, ?_⟩) (by assumption) ?_; rotate_left; (focus (intro wq hSw; (try dsimp only at hSw); go_simp; try with_reducible rfl)); (try simp only [Act.put, List.setIfInBounds_toArray, List.set_cons_zero, List.set_cons_succ])
      refine takeL (i := 5) (v := ?_) rfl (by kernel_rfl) (by kernel_rfl) (by kernel_rfl) (fun _ _ _ h => h) (Or.inl ⟨by rfl, ?_⟩) (by assumption) ?_; rotate_left; (focus (intro wq hSw; (try dsimp only at hSw); go_simp; try with_reducible rfl)); (try simp only [Act.put, List.setIfInBounds_toArray, List.set_cons_zero, List.set_cons_succ])
      refine takeL (i := 6) (v := ?_) rfl (by kernel_rfl) (by kernel_rfl) (by kernel_rfl) (fun _ _ _ h => h) (Or.inl ⟨by rfl, ?_⟩) (by assumption) ?_; rotate_left; (focus (intro wq hSw; (try dsimp only at hSw); go_simp; try with_reducible rfl)); (try simp only [Act.put, List.setIfInBounds_toArray, List.set_cons_zero, List.set_cons_succ])
      refine takeL (i := 7) (v := ?_) rfl (by kernel_rfl) (by kernel_rfl) (by kernel_rfl) (fun _ _ _ h => h) (Or.inl ⟨by rfl, ?_⟩) (by assumption) ?_; rotate_left; (focus (intro wq hSw; (try dsimp only at hSw); go_simp; try with_reducible rfl)); (try simp only [Act.put, List.setIfInBounds_toArray, List.set_cons_zero, List.set_cons_succ])
      refine takeL (i := 8) (v := ?_) rfl (by kernel_rfl) (by kernel_rfl) (by kernel_rfl) (fun _ _ _ h => h) (Or.inl ⟨by rfl, ?_⟩) (by assumption) ?_; rotate_left; (focus (intro wq hSw; have hcc := HC.out wq hSw; clear hSw; go_split_ands; go_simp; try with_reducible rfl)); (try simp only [Act.put, List.setIfInBounds_toArray, List.set_cons_zero, List.set_cons_succ])
      refine takeL (i := 9) (v := ?_) rfl (by kernel_rfl) (by kernel_rfl) (by kernel_rfl) (fun _ _ _ h => h) (Or.inl ⟨by rfl, ?_⟩) (by assumption) ?_; rotate_left; (focus (intro wq hSw; have hcc := HC.out wq hSw; clear hSw; go_split_ands; go_simp; try with_reducible rfl)); (try simp only [Act.put, List.setIfInBounds_toArray, List.set_cons_zero, List.set_cons_succ])
      refine consL (i := 10) (by kernel_rfl) rfl (fun K hK => ?_); go_simp; go_at_call 89; refine (cmp5_c q p _ (HP.out.1 q (List.mem_of_getElem? HQ.out)) HP.out.2).mono ?_; rw [HZ0.out]; rintro e w5 ⟨rfl, hx5⟩; go_wp2_with fail; refine hK.out _ _ ?_ ?_; rotate_left; clear hK K; intro hHeld; rotate_right; (focus (refine Ext.trans ?_ (by assumption); assumption)); (try simp only [Act.put, List.setIfInBounds_toArray, List.set_cons_zero, List.set_cons_succ])
      have HX5 := Lib.hid (show Ext wr w5 by assumption)
      clear hx5
      by_cases hzn : z < 0
      · have hz' : decide (z < 0) = true := decide_eq_true hzn
        refine takeL (i := 11) (v := ?_) rfl (by kernel_rfl) (by kernel_rfl) (by kernel_rfl) (fun _ _ _ h => h) (Or.inl ⟨by rfl, ?_⟩) (by assumption) ?_; rotate_left; (focus (intro wq hSw; (try dsimp only at hSw); go_simp; try with_reducible rfl)); (try simp only [Act.put, List.setIfInBounds_toArray, List.set_cons_zero, List.set_cons_succ])
        refine takeL (i := 12) (v := ?_) rfl (by kernel_rfl) (by kernel_rfl) (by kernel_rfl) (fun _ _ _ h => h) (Or.inl ⟨by rfl, ?_⟩) (by assumption) ?_; rotate_left; (focus (intro wq hSw; (try dsimp only at hSw); go_simp; try with_reducible rfl)); (try simp only [Act.put, List.setIfInBounds_toArray, List.set_cons_zero, List.set_cons_succ])
        refine doneL (by kernel_rfl) ?_
        clear hHeld
        go_wp2_with fail
        go_roundw
        case rel =>
          refine ⟨k + 1, by omega, by go_num, fun j r hj hr => ?_, HW.out.trans HX5.out⟩
          rcases Nat.lt_succ_iff_lt_or_eq.1 hj with h1 | h1
          · exact HZ.out j r h1 hr
          · subst h1
            rw [HQ.out] at hr
            injection hr with hr
            subst hr
            rw [HZ0.out]; exact hzn
        case measure => simp [intOf]; omega
      · have hz' : decide (z < 0) = false := decide_eq_false hzn
        have hat := insF_at l p k (by rw [HL.out.2.2]; exact hk) HZ.out (fun r hr => by rw [HQ.out] at hr; injection hr with hr; subst hr; rw [HZ0.out]; exact hzn)
        rw [HQ.out] at hat
        simp only at hat
        have HAT := Lib.hid hat
        clear hat hzn
        refine takeL (i := 11) (v := ?_) rfl (by kernel_rfl) (by kernel_rfl) (by kernel_rfl) (fun _ _ _ h => h) (Or.inl ⟨by rfl, ?_⟩) (by assumption) ?_; rotate_left; (focus (intro wq hSw; (try dsimp only at hSw); go_simp; try with_reducible rfl)); (try simp only [Act.put, List.setIfInBounds_toArray, List.set_cons_zero, List.set_cons_succ])
        refine takeL (i := 12) (v := ?_) rfl (by kernel_rfl) (by kernel_rfl) (by kernel_rfl) (fun _ _ _ h => h) (Or.inl ⟨by rfl, ?_⟩) (by assumption) ?_; rotate_left; (focus (intro wq hSw; (try dsimp only at hSw); go_simp; try with_reducible rfl)); (try simp only [Act.put, List.setIfInBounds_toArray, List.set_cons_zero, List.set_cons_succ])
        refine doneL (by kernel_rfl) ?_
        clear hHeld
        have HC5 := Lib.hid (fun W (e : Ext w5 W) => HC.out W (HX5.out.trans e))
        rcases eq3 q p with ⟨e1, e2, e3⟩ | e1 | ⟨e1, e2⟩ | ⟨e1, e2, e3⟩
        · have HV := Lib.hid (show insF l p = l by rw [HAT.out, if_pos ⟨by simpa using e1, by simpa using e2, by simpa using e3⟩])
          go_upto_region 4 with fail
          refine wp_region_held_drew (S := fun W => Ext w5 W) (by kernel_rfl) ((Ext.refl w5).drew) (fun hHeld => ?_)
          refine takeL (i := 0) (v := ?_) rfl (by kernel_rfl) (by kernel_rfl) (by kernel_rfl) (fun _ _ _ h => h) (Or.inl ⟨by rfl, ?_⟩) (by assumption) ?_; rotate_left; (focus (intro wq hSw; (try dsimp only at hSw); go_simp; try with_reducible rfl)); (try simp only [Act.put, List.setIfInBounds_toArray, List.set_cons_zero, List.set_cons_succ])
          refine takeL (i := 1) (v := ?_) rfl (by kernel_rfl) (by kernel_rfl) (by kernel_rfl) (fun _ _ _ h => h) (Or.inl ⟨by rfl, ?_⟩) (by assumption) ?_; rotate_left; (focus (intro wq hSw; (try dsimp only at hSw); go_simp; try with_reducible rfl)); (try simp only [Act.put, List.setIfInBounds_toArray, List.set_cons_zero, List.set_cons_succ])
          refine takeL (i := 2) (v := ?_) rfl (by kernel_rfl) (by kernel_rfl) (by kernel_rfl) (fun _ _ _ h => h) (Or.inl ⟨by rfl, ?_⟩) (by assumption) ?_; rotate_left; (focus (intro wq hSw; (try dsimp only at hSw); go_simp; try with_reducible rfl)); (try simp only [Act.put, List.setIfInBounds_toArray, List.set_cons_zero, List.set_cons_succ])
          refine takeL (i := 3) (v := ?_) rfl (by kernel_rfl) (by kernel_rfl) (by kernel_rfl) (fun _ _ _ h => h) (Or.inl ⟨by rfl, ?_⟩) (by assumption) ?_; rotate_left; (focus (intro wq hSw; (try dsimp only at hSw); go_simp; try with_reducible rfl)); (try simp only [Act.put, List.setIfInBounds_toArray, List.set_cons_zero, List.set_cons_succ])
          refine takeL (i := 4) (v := ?_) rfl (by kernel_rfl) (by kernel_rfl) (by kernel_rfl) (fun _ _ _ h => h) (Or.inl ⟨by rfl, ?_⟩) (by assumption) ?_; rotate_left; (focus (intro wq hSw; (try dsimp only at hSw); go_simp; try with_reducible rfl)); (try simp only [Act.put, List.setIfInBounds_toArray, List.set_cons_zero, List.set_cons_succ])
          refine takeL (i := 5) (v := ?_) rfl (by kernel_rfl) (by kernel_rfl) (by kernel_rfl) (fun _ _ _ h => h) (Or.inl ⟨by rfl, ?_⟩) (by assumption) ?_; rotate_left; (focus (intro wq hSw; (try dsimp only at hSw); go_simp; try with_reducible rfl)); (try simp only [Act.put, List.setIfInBounds_toArray, List.set_cons_zero, List.set_cons_succ])
          refine takeL (i := 6) (v := ?_) rfl (by kernel_rfl) (by kernel_rfl) (by kernel_rfl) (fun _ _ _ h => h) (Or.inl ⟨by rfl, ?_⟩) (by assumption) ?_; rotate_left; (focus (intro wq hSw; (try dsimp only at hSw); go_simp; try with_reducible rfl)); (try simp only [Act.put, List.setIfInBounds_toArray, List.set_cons_zero, List.set_cons_succ])
          refine takeL (i := 7) (v := ?_) rfl (by kernel_rfl) (by kernel_rfl) (by kernel_rfl) (fun _ _ _ h => h) (Or.inl ⟨by rfl, ?_⟩) (by assumption) ?_; rotate_left; (focus (intro wq hSw; (try dsimp only at hSw); go_simp; try with_reducible rfl)); (try simp only [Act.put, List.setIfInBounds_toArray, List.set_cons_zero, List.set_cons_succ])
          refine takeL (i := 8) (v := ?_) rfl (by kernel_rfl) (by kernel_rfl) (by kernel_rfl) (fun _ _ _ h => h) (Or.inl ⟨by rfl, ?_⟩) (by assumption) ?_; rotate_left; (focus (intro wq hSw; have hcc := HC5.out wq hSw; clear hSw; go_split_ands; go_simp; try with_reducible rfl)); (try simp only [Act.put, List.setIfInBounds_toArray, List.set_cons_zero, List.set_cons_succ])
          refine takeL (i := 9) (v := ?_) rfl (by kernel_rfl) (by kernel_rfl) (by kernel_rfl) (fun _ _ _ h => h) (Or.inl ⟨by rfl, ?_⟩) (by assumption) ?_; rotate_left; (focus (intro wq hSw; have hcc := HC5.out wq hSw; clear hSw; go_split_ands; go_simp; try with_reducible rfl)); (try simp only [Act.put, List.setIfInBounds_toArray, List.set_cons_zero, List.set_cons_succ])
          refine takeL (i := 10) (v := ?_) rfl (by kernel_rfl) (by kernel_rfl) (by kernel_rfl) (fun _ _ _ h => h) (Or.inl ⟨by rfl, ?_⟩) (by assumption) ?_; rotate_left; (focus (intro wq hSw; (try dsimp only at hSw); go_simp; try with_reducible rfl)); (try simp only [Act.put, List.setIfInBounds_toArray, List.set_cons_zero, List.set_cons_succ])
          refine takeL (i := 11) (v := ?_) rfl (by kernel_rfl) (by kernel_rfl) (by kernel_rfl) (fun _ _ _ h => h) (Or.inl ⟨by rfl, ?_⟩) (by assumption) ?_; rotate_left; (focus (intro wq hSw; (try dsimp only at hSw); go_simp; try with_reducible rfl)); (try simp only [Act.put, List.setIfInBounds_toArray, List.set_cons_zero, List.set_cons_succ])
          refine doneL (by kernel_rfl) ?_
          go_wp2_with fail
          go_ret
          have hx : Ext w w5.drew := (HE.out.trans (HW.out.trans HX5.out)).drew
          exact ⟨_, c, by rw [HV.out, HL.out.2.2]; rfl, by rw [HV.out, HL.out.2.2]; exact hR.out.ext hx, hx⟩
        all_goals
          have HV := Lib.hid (show insF l p = l.take k ++ p :: l.drop k by rw [HAT.out, if_neg (by rintro ⟨g1, g2, g3⟩; simp [g1, g2, g3] at *)])
          go_upto_region 4 with fail
          refine wp_region_held_drew (S := fun W => Ext w5 W) (by kernel_rfl) ((Ext.refl w5).drew) (fun hHeld => ?_)
          refine takeL (i := 0) (v := ?_) rfl (by kernel_rfl) (by kernel_rfl) (by kernel_rfl) (fun _ _ _ h => h) (Or.inl ⟨by rfl, ?_⟩) (by assumption) ?_; rotate_left; (focus (intro wq hSw; (try dsimp only at hSw); go_simp; try with_reducible rfl)); (try simp only [Act.put, List.setIfInBounds_toArray, List.set_cons_zero, List.set_cons_succ])
          refine takeL (i := 1) (v := ?_) rfl (by kernel_rfl) (by kernel_rfl) (by kernel_rfl) (fun _ _ _ h => h) (Or.inl ⟨by rfl, ?_⟩) (by assumption) ?_; rotate_left; (focus (intro wq hSw; (try dsimp only at hSw); go_simp; try with_reducible rfl)); (try simp only [Act.put, List.setIfInBounds_toArray, List.set_cons_zero, List.set_cons_succ])
          refine takeL (i := 2) (v := ?_) rfl (by kernel_rfl) (by kernel_rfl) (by kernel_rfl) (fun _ _ _ h => h) (Or.inl ⟨by rfl, ?_⟩) (by assumption) ?_; rotate_left; (focus (intro wq hSw; (try dsimp only at hSw); go_simp; try with_reducible rfl)); (try simp only [Act.put, List.setIfInBounds_toArray, List.set_cons_zero, List.set_cons_succ])
          refine takeL (i := 3) (v := ?_) rfl (by kernel_rfl) (by kernel_rfl) (by kernel_rfl) (fun _ _ _ h => h) (Or.inl ⟨by rfl, ?_⟩) (by assumption) ?_; rotate_left; (focus (intro wq hSw; (try dsimp only at hSw); go_simp; try with_reducible rfl)); (try simp only [Act.put, List.setIfInBounds_toArray, List.set_cons_zero, List.set_cons_succ])
          refine takeL (i := 4) (v := ?_) rfl (by kernel_rfl) (by kernel_rfl) (by kernel_rfl) (fun _ _ _ h => h) (Or.inl ⟨by rfl, ?_⟩) (by assumption) ?_; rotate_left; (focus (intro wq hSw; (try dsimp only at hSw); go_simp; try with_reducible rfl)); (try simp only [Act.put, List.setIfInBounds_toArray, List.set_cons_zero, List.set_cons_succ])
          refine takeL (i := 5) (v := ?_) rfl (by kernel_rfl) (by kernel_rfl) (by kernel_rfl) (fun _ _ _ h => h) (Or.inl ⟨by rfl, ?_⟩) (by assumption) ?_; rotate_left; (focus (intro wq hSw; (try dsimp only at hSw); go_simp; try with_reducible rfl)); (try simp only [Act.put, List.setIfInBounds_toArray, List.set_cons_zero, List.set_cons_succ])
          refine takeL (i := 6) (v := ?_) rfl (by kernel_rfl) (by kernel_rfl) (by kernel_rfl) (fun _ _ _ h => h) (Or.inl ⟨by rfl, ?_⟩) (by assumption) ?_; rotate_left; (focus (intro wq hSw; (try dsimp only at hSw); go_simp; try with_reducible rfl)); (try simp only [Act.put, List.setIfInBounds_toArray, List.set_cons_zero, List.set_cons_succ])
          refine takeL (i := 7) (v := ?_) rfl (by kernel_rfl) (by kernel_rfl) (by kernel_rfl) (fun _ _ _ h => h) (Or.inl ⟨by rfl, ?_⟩) (by assumption) ?_; rotate_left; (focus (intro wq hSw; (try dsimp only at hSw); go_simp; try with_reducible rfl)); (try simp only [Act.put, List.setIfInBounds_toArray, List.set_cons_zero, List.set_cons_succ])
          refine takeL (i := 8) (v := ?_) rfl (by kernel_rfl) (by kernel_rfl) (by kernel_rfl) (fun _ _ _ h => h) (Or.inl ⟨by rfl, ?_⟩) (by assumption) ?_; rotate_left; (focus (intro wq hSw; have hcc := HC5.out wq hSw; clear hSw; go_split_ands; go_simp; try with_reducible rfl)); (try simp only [Act.put, List.setIfInBounds_toArray, List.set_cons_zero, List.set_cons_succ])
          refine takeL (i := 9) (v := ?_) rfl (by kernel_rfl) (by kernel_rfl) (by kernel_rfl) (fun _ _ _ h => h) (Or.inl ⟨by rfl, ?_⟩) (by assumption) ?_; rotate_left; (focus (intro wq hSw; have hcc := HC5.out wq hSw; clear hSw; go_split_ands; go_simp; try with_reducible rfl)); (try simp only [Act.put, List.setIfInBounds_toArray, List.set_cons_zero, List.set_cons_succ])
          refine takeL (i := 10) (v := ?_) rfl (by kernel_rfl) (by kernel_rfl) (by kernel_rfl) (fun _ _ _ h => h) (Or.inl ⟨by rfl, ?_⟩) (by assumption) ?_; rotate_left; (focus (intro wq hSw; (try dsimp only at hSw); go_simp; try with_reducible rfl)); (try simp only [Act.put, List.setIfInBounds_toArray, List.set_cons_zero, List.set_cons_succ])
          refine takeL (i := 11) (v := ?_) rfl (by kernel_rfl) (by kernel_rfl) (by kernel_rfl) (fun _ _ _ h => h) (Or.inl ⟨by rfl, ?_⟩) (by assumption) ?_; rotate_left; (focus (intro wq hSw; (try dsimp only at hSw); go_simp; try with_reducible rfl)); (try simp only [Act.put, List.setIfInBounds_toArray, List.set_cons_zero, List.set_cons_succ])
          refine doneL (by kernel_rfl) ?_
          clear hHeld
          go_upto_region 7 with fail
          have HX7 := Lib.hid (HE.out.trans (HW.out.trans HX5.out.drew))
          have HBx := Lib.hid (((HB.out.ext HW.out).ext HX5.out).drew)
          generalize w5.drew = W0 at *
          have L0 : (0 : Int) ≤ (k : Int) := by omega
          have L1 : ¬ (k : Int) < 0 := by omega
          have L2 : (k : Int) ≤ (n : Int) := by omega
          have L3 : (k : Int) ≤ (c : Int) := by omega
          have L4 : (k : Int).toNat = k := by omega
          have HC7 := Lib.hid (fun W (e : Ext W0 W) => (HBx.out.ext e).ra)
          have HT7 := Lib.hid ((hR.out.ext HX7.out).take hk)
          refine wp_region_held_drew (S := fun W => Ext W0 W) (by kernel_rfl) ((Ext.refl W0).drew) (fun hHeld => ?_)
          refine takeL (i := 0) (v := ?_) rfl (by kernel_rfl) (by kernel_rfl) (by kernel_rfl) (fun _ _ _ h => h) (Or.inl ⟨by rfl, ?_⟩) (by assumption) ?_; rotate_left; (focus (intro wq hSw; (try dsimp only at hSw); go_simp; try with_reducible rfl)); (try simp only [Act.put, List.setIfInBounds_toArray, List.set_cons_zero, List.set_cons_succ])
          refine takeL (i := 1) (v := ?_) rfl (by kernel_rfl) (by kernel_rfl) (by kernel_rfl) (fun _ _ _ h => h) (Or.inl ⟨by rfl, ?_⟩) (by assumption) ?_; rotate_left; (focus (intro wq hSw; (try dsimp only at hSw); go_simp; try with_reducible rfl)); (try simp only [Act.put, List.setIfInBounds_toArray, List.set_cons_zero, List.set_cons_succ])
          refine takeL (i := 2) (v := ?_) rfl (by kernel_rfl) (by kernel_rfl) (by kernel_rfl) (fun _ _ _ h => h) (Or.inl ⟨by rfl, ?_⟩) (by assumption) ?_; rotate_left; (focus (intro wq hSw; (try dsimp only at hSw); go_simp; try with_reducible rfl)); (try simp only [Act.put, List.setIfInBounds_toArray, List.set_cons_zero, List.set_cons_succ])
          refine takeL (i := 3) (v := ?_) rfl (by kernel_rfl) (by kernel_rfl) (by kernel_rfl) (fun _ _ _ h => h) (Or.inl ⟨by rfl, ?_⟩) (by assumption) ?_; rotate_left; (focus (intro wq hSw; (try dsimp only at hSw); go_simp; try with_reducible rfl)); (try simp only [Act.put, List.setIfInBounds_toArray, List.set_cons_zero, List.set_cons_succ])
          refine takeL (i := 5) (v := ?_) rfl (by kernel_rfl) (by kernel_rfl) (by kernel_rfl) (fun _ _ _ h => h) (Or.inl ⟨by rfl, ?_⟩) (by assumption) ?_; rotate_left; (focus (intro wq hSw; have hcc := HC7.out wq hSw; clear hSw; go_split_ands; go_simp; try with_reducible rfl)); (try simp only [Act.put, List.setIfInBounds_toArray, List.set_cons_zero, List.set_cons_succ])
          have HS7 := Lib.hid (show (l.take k).length = k by rw [List.length_take, HL.out.2.2]; omega)
          have HN7 := Lib.hid (show k + 1 ≤ 1000 by omega)
          refine cons2L (i := 4) (j := 6) (by kernel_rfl) rfl rfl (fun K hK => ?_) (fun K hK => ?_)
          · rw [if_pos (show Region.wanted _ _ = true by rfl)]
            obtain ⟨v1, w1, hr1, hg1, hx1⟩ := app_any (w := W0.drew) (base := W0.heap.size) (l1 := []) (Nat.le_of_eq rfl) (GRow.nil encRP 72 _ _) (HT7.out.ext (Ext.refl W0).drew) (by show 0 + k ≤ 1000; omega) c 81
            rw [List.nil_append] at hg1
            refine wp_append_run _ _ _ (.slice none 0 0) (.slice (some ⟨g, 0, none⟩) k c) v1 rfl rfl rfl hr1 ?_
            have HX1 := Lib.hid (hx1 W0 (Ext.refl W0).drew (Nat.le_refl _))
            have HG1 := Lib.hid hg1
            clear hx1 hg1 hr1
            refine hK.out _ _ ?_ ?_; rotate_left; clear hK K; intro hHeld; rotate_right
            · exact HX1.out
            (try simp only [Act.put, List.setIfInBounds_toArray, List.set_cons_zero, List.set_cons_succ])
            refine consL (i := 6) (by kernel_rfl) rfl (fun K hK => ?_)
            rw [if_pos (show Region.wanted _ _ = true by rfl)]
            refine wp_build1 p _ rfl rfl ?_
            obtain ⟨b2, hb2⟩ : ∃ b, w1.heap.size = b := ⟨_, rfl⟩
            have HB2 := Lib.hid (Blk.at p.ca 72 hb2.symm)
            have HY2 := Lib.hid ((Ext.refl w1).alloc (.cells p.ca 72))
            rw [hb2]
            clear hb2
            generalize w1.alloc (.cells p.ca 72) = w2 at *
            refine hK.out _ _ ?_ ?_; rotate_left; clear hK K; intro hHeld; rotate_right
            · exact HX1.out.trans HY2.out
            (try simp only [Act.put, List.setIfInBounds_toArray, List.set_cons_zero, List.set_cons_succ])
            have HG2 := Lib.hid (HG1.out.ext HY2.out)
            have HX2 := Lib.hid (HX1.out.trans HY2.out)
            have HBS7 := Lib.hid HX2.out.size
            have HWB7 := Lib.hid (Nat.le_refl W0.heap.size)
            have HXA := Lib.hid HX2.out
            clear HX1 HG1 HY2
            obtain ⟨v3, w3, hr3, hg3, hx3⟩ := app_any (w := w2) (base := W0.heap.size) HBS7.out HG2.out (src1 HB2.out) (by show (l.take k).length + 1 ≤ 1000; rw [HS7.out]; exact HN7.out) 1 81
            refine consL (i := 7) (by kernel_rfl) rfl (fun K hK => ?_)
            rw [if_pos (show Region.wanted _ _ = true by rfl)]
            refine wp_append_run _ _ _ v1 (.slice (some ⟨b2, 0, none⟩) 1 1) v3 rfl rfl rfl hr3 ?_
            have HX3 := Lib.hid (hx3 W0 HX2.out HWB7.out)
            have HXA3 := Lib.hid (hx3 W0 HXA.out (Nat.le_refl _))
            have HG3 := Lib.hid hg3
            clear hx3 hg3 hr3
            refine hK.out _ _ ?_ ?_; rotate_left; clear hK K; intro hHeld; rotate_right
            · exact HX3.out
            (try simp only [Act.put, List.setIfInBounds_toArray, List.set_cons_zero, List.set_cons_succ])
            refine takeL (i := 8) (v := ?_) rfl (by kernel_rfl) (by kernel_rfl) (by kernel_rfl) (fun _ _ _ h => h) (Or.inl ⟨by rfl, ?_⟩) (by assumption) ?_; rotate_left; (focus (intro wq hSw; (try dsimp only at hSw); go_simp; try with_reducible rfl)); (try simp only [Act.put, List.setIfInBounds_toArray, List.set_cons_zero, List.set_cons_succ])
            refine doneL (by kernel_rfl) ?_
            clear hHeld
            have HSA := Lib.hid HXA3.out.size
            obtain ⟨v4, w4, hr4, hg4, hx4⟩ := app_any (w := w3) (base := W0.heap.size) HSA.out HG3.out (⟨by rw [List.length_drop, HL.out.2.2], .inr ⟨_, rfl, drop_news (HL.out.1.ext (HX7.out.trans HX3.out))⟩⟩ : SrcR w3 (some ⟨g, k * 3, none⟩) (n - k) (l.drop k)) (by rw [List.length_append, HS7.out]; show k + 1 + (n - k) ≤ 1000; omega) (c - k) 81
            rw [show l.take k ++ [p] ++ l.drop k = insF l p by rw [HV.out, List.append_assoc]; rfl] at hg4
            have HX4 := Lib.hid (hx4 W0 HX3.out HWB7.out)
            obtain ⟨a4, c4, rfl, hR4⟩ := hg4.rps (by rw [HV.out]; simp; omega)
            have HR4 := Lib.hid hR4
            clear hx4 hg4 hR4
            go_wp2_with (at_builtin; refine wpList_plain rfl fun _ hK => wp_append_run _ _ _ _ _ _ rfl rfl rfl hr4 (hK _ _ ?_))
            go_ret
            exact ⟨a4, c4, rfl, HR4.out, HX7.out.trans HX4.out⟩
          · rw [if_pos (show Region.wanted _ _ = true by rfl)]
            refine wp_build1 p _ rfl rfl ?_
            obtain ⟨b2, hb2⟩ : ∃ b, W0.drew.heap.size = b := ⟨_, rfl⟩
            have HB1 := Lib.hid (Blk.at p.ca 72 hb2.symm)
            have HY1 := Lib.hid ((Ext.refl W0).drew.alloc (.cells p.ca 72))
            rw [hb2]
            clear hb2
            generalize W0.drew.alloc (.cells p.ca 72) = w1 at *
            refine hK.out _ _ ?_ ?_; rotate_left; clear hK K; intro hHeld; rotate_right
            · exact HY1.out
            (try simp only [Act.put, List.setIfInBounds_toArray, List.set_cons_zero, List.set_cons_succ])
            obtain ⟨v1, w2, hr1, hg1, hx1⟩ := app_any (w := w1) (base := w1.heap.size) (l1 := []) (Nat.le_refl _) (GRow.nil encRP 72 _ _) (HT7.out.ext HY1.out) (by show 0 + k ≤ 1000; omega) c 81
            refine consL (i := 4) (by kernel_rfl) rfl (fun K hK => ?_)
            rw [if_pos (show Region.wanted _ _ = true by rfl)]
            rw [List.nil_append] at hg1
            refine wp_append_run _ _ _ (.slice none 0 0) (.slice (some ⟨g, 0, none⟩) k c) v1 rfl rfl rfl hr1 ?_
            have HX2 := Lib.hid (hx1 W0 HY1.out HY1.out.size)
            have HXX := Lib.hid (hx1 w1 (Ext.refl w1) (Nat.le_refl _))
            have HG2 := Lib.hid hg1
            clear hx1 hg1 hr1
            refine hK.out _ _ ?_ ?_; rotate_left; clear hK K; intro hHeld; rotate_right
            · exact HX2.out
            (try simp only [Act.put, List.setIfInBounds_toArray, List.set_cons_zero, List.set_cons_succ])
            have HB2 := Lib.hid (HB1.out.ext HXX.out)
            have HBS7 := Lib.hid HXX.out.size
            have HWB7 := Lib.hid HY1.out.size
            have HXA := Lib.hid HXX.out
            clear HB1 HXX
            obtain ⟨v3, w3, hr3, hg3, hx3⟩ := app_any (w := w2) (base := w1.heap.size) HBS7.out HG2.out (src1 HB2.out) (by show (l.take k).length + 1 ≤ 1000; rw [HS7.out]; exact HN7.out) 1 81
            refine consL (i := 7) (by kernel_rfl) rfl (fun K hK => ?_)
            rw [if_pos (show Region.wanted _ _ = true by rfl)]
            refine wp_append_run _ _ _ v1 (.slice (some ⟨b2, 0, none⟩) 1 1) v3 rfl rfl rfl hr3 ?_
            have HX3 := Lib.hid (hx3 W0 HX2.out HWB7.out)
            have HXA3 := Lib.hid (hx3 w1 HXA.out (Nat.le_refl _))
            have HG3 := Lib.hid hg3
            clear hx3 hg3 hr3
            refine hK.out _ _ ?_ ?_; rotate_left; clear hK K; intro hHeld; rotate_right
            · exact HX3.out
            (try simp only [Act.put, List.setIfInBounds_toArray, List.set_cons_zero, List.set_cons_succ])
            refine takeL (i := 8) (v := ?_) rfl (by kernel_rfl) (by kernel_rfl) (by kernel_rfl) (fun _ _ _ h => h) (Or.inl ⟨by rfl, ?_⟩) (by assumption) ?_; rotate_left; (focus (intro wq hSw; (try dsimp only at hSw); go_simp; try with_reducible rfl)); (try simp only [Act.put, List.setIfInBounds_toArray, List.set_cons_zero, List.set_cons_succ])
            refine doneL (by kernel_rfl) ?_
            clear hHeld
            have HSA := Lib.hid HXA3.out.size
            obtain ⟨v4, w4, hr4, hg4, hx4⟩ := app_any (w := w3) (base := w1.heap.size) HSA.out HG3.out (⟨by rw [List.length_drop, HL.out.2.2], .inr ⟨_, rfl, drop_news (HL.out.1.ext (HX7.out.trans HX3.out))⟩⟩ : SrcR w3 (some ⟨g, k * 3, none⟩) (n - k) (l.drop k)) (by rw [List.length_append, HS7.out]; show k + 1 + (n - k) ≤ 1000; omega) (c - k) 81
            rw [show l.take k ++ [p] ++ l.drop k = insF l p by rw [HV.out, List.append_assoc]; rfl] at hg4
            have HX4 := Lib.hid (hx4 W0 HX3.out HWB7.out)
            obtain ⟨a4, c4, rfl, hR4⟩ := hg4.rps (by rw [HV.out]; simp; omega)
            have HR4 := Lib.hid hR4
            clear hx4 hg4 hR4
            go_wp2_with (at_builtin; refine wpList_plain rfl fun _ hK => wp_append_run _ _ _ _ _ _ rfl rfl rfl hr4 (hK _ _ ?_))
            go_ret
            exact ⟨a4, c4, rfl, HR4.out, HX7.out.trans HX4.out⟩
    · have l1 : ¬ (k : Int) < (n : Int) := by omega
      have l1' : decide ((k : Int) < (n : Int)) = false := decide_eq_false l1
      have hno : l[k]? = none := List.getElem?_eq_none (by rw [HL.out.2.2]; omega)
      have hat := insF_at l p k (by rw [HL.out.2.2]; exact hk) HZ.out (fun r hr => by rw [hno] at hr; cases hr)
      rw [hno] at hat
      simp only at hat
      have HV := Lib.hid hat
      clear hat hE hno
      go_upto_region 2 with fail
      refine wp_region_held_drew (S := fun W => Ext wr W) (by kernel_rfl) ((Ext.refl wr).drew) (fun hHeld => ?_)
      refine takeL (i := 0) (v := ?_) rfl (by kernel_rfl) (by kernel_rfl) (by kernel_rfl) (fun _ _ _ h => h) (Or.inl ⟨by rfl, ?_⟩) (by assumption) ?_; rotate_left; (focus (intro wq hSw; (try dsimp only at hSw); go_simp; try with_reducible rfl)); (try simp only [Act.put, List.setIfInBounds_toArray, List.set_cons_zero, List.set_cons_succ])
      refine takeL (i := 1) (v := ?_) rfl (by kernel_rfl) (by kernel_rfl) (by kernel_rfl) (fun _ _ _ h => h) (Or.inl ⟨by rfl, ?_⟩) (by assumption) ?_; rotate_left; (focus (intro wq hSw; (try dsimp only at hSw); go_simp; try with_reducible rfl)); (try simp only [Act.put, List.setIfInBounds_toArray, List.set_cons_zero, List.set_cons_succ])
      refine takeL (i := 2) (v := ?_) rfl (by kernel_rfl) (by kernel_rfl) (by kernel_rfl) (fun _ _ _ h => h) (Or.inl ⟨by rfl, ?_⟩) (by assumption) ?_; rotate_left; (focus (intro wq hSw; (try dsimp only at hSw); go_simp; try with_reducible rfl)); (try simp only [Act.put, List.setIfInBounds_toArray, List.set_cons_zero, List.set_cons_succ])
      refine takeL (i := 3) (v := ?_) rfl (by kernel_rfl) (by kernel_rfl) (by kernel_rfl) (fun _ _ _ h => h) (Or.inl ⟨by rfl, ?_⟩) (by assumption) ?_; rotate_left; (focus (intro wq hSw; (try dsimp only at hSw); go_simp; try with_reducible rfl)); (try simp only [Act.put, List.setIfInBounds_toArray, List.set_cons_zero, List.set_cons_succ])
      refine takeL (i := 4) (v := ?_) rfl (by kernel_rfl) (by kernel_rfl) (by kernel_rfl) (fun _ _ _ h => h) (Or.inl ⟨by rfl, ?_⟩) (by assumption) ?_; rotate_left; (focus (intro wq hSw; (try dsimp only at hSw); go_simp; try with_reducible rfl)); (try simp only [Act.put, List.setIfInBounds_toArray, List.set_cons_zero, List.set_cons_succ])
      refine takeL (i := 5) rfl (by kernel_rfl) (by kernel_rfl) (by kernel_rfl) (fun _ _ _ h => h) (Or.inr ⟨by rfl, rfl⟩) (by assumption) ?_; (try simp only [Act.put, List.setIfInBounds_toArray, List.set_cons_zero, List.set_cons_succ])
      refine takeL (i := 6) rfl (by kernel_rfl) (by kernel_rfl) (by kernel_rfl) (fun _ _ _ h => h) (Or.inr ⟨by rfl, rfl⟩) (by assumption) ?_; (try simp only [Act.put, List.setIfInBounds_toArray, List.set_cons_zero, List.set_cons_succ])
      refine takeL (i := 7) rfl (by kernel_rfl) (by kernel_rfl) (by kernel_rfl) (fun _ _ _ h => h) (Or.inr ⟨by rfl, rfl⟩) (by assumption) ?_; (try simp only [Act.put, List.setIfInBounds_toArray, List.set_cons_zero, List.set_cons_succ])
      refine takeL (i := 8) rfl (by kernel_rfl) (by kernel_rfl) (by kernel_rfl) (fun _ _ _ h => h) (Or.inr ⟨by rfl, rfl⟩) (by assumption) ?_; (try simp only [Act.put, List.setIfInBounds_toArray, List.set_cons_zero, List.set_cons_succ])
      refine takeL (i := 9) rfl (by kernel_rfl) (by kernel_rfl) (by kernel_rfl) (fun _ _ _ h => h) (Or.inr ⟨by rfl, rfl⟩) (by assumption) ?_; (try simp only [Act.put, List.setIfInBounds_toArray, List.set_cons_zero, List.set_cons_succ])
      refine takeL (i := 10) rfl (by kernel_rfl) (by kernel_rfl) (by kernel_rfl) (fun _ _ _ h => h) (Or.inr ⟨by rfl, rfl⟩) (by assumption) ?_; (try simp only [Act.put, List.setIfInBounds_toArray, List.set_cons_zero, List.set_cons_succ])
      refine takeL (i := 11) rfl (by kernel_rfl) (by kernel_rfl) (by kernel_rfl) (fun _ _ _ h => h) (Or.inr ⟨by rfl, rfl⟩) (by assumption) ?_; (try simp only [Act.put, List.setIfInBounds_toArray, List.set_cons_zero, List.set_cons_succ])
      refine takeL (i := 12) (v := ?_) rfl (by kernel_rfl) (by kernel_rfl) (by kernel_rfl) (fun _ _ _ h => h) (Or.inl ⟨by rfl, ?_⟩) (by assumption) ?_; rotate_left; (focus (intro wq hSw; (try dsimp only at hSw); go_simp; try with_reducible rfl)); (try simp only [Act.put, List.setIfInBounds_toArray, List.set_cons_zero, List.set_cons_succ])
      refine doneL (by kernel_rfl) ?_
      clear hHeld
      go_upto_region 4 with fail
      refine wp_region_held_drew (S := fun W => Ext wr W) (by kernel_rfl) ((Ext.refl wr).drew.drew) (fun hHeld => ?_)
      refine takeL (i := 0) (v := ?_) rfl (by kernel_rfl) (by kernel_rfl) (by kernel_rfl) (fun _ _ _ h => h) (Or.inl ⟨by rfl, ?_⟩) (by assumption) ?_; rotate_left; (focus (intro wq hSw; (try dsimp only at hSw); go_simp; try with_reducible rfl)); (try simp only [Act.put, List.setIfInBounds_toArray, List.set_cons_zero, List.set_cons_succ])
      refine takeL (i := 1) (v := ?_) rfl (by kernel_rfl) (by kernel_rfl) (by kernel_rfl) (fun _ _ _ h => h) (Or.inl ⟨by rfl, ?_⟩) (by assumption) ?_; rotate_left; (focus (intro wq hSw; (try dsimp only at hSw); go_simp; try with_reducible rfl)); (try simp only [Act.put, List.setIfInBounds_toArray, List.set_cons_zero, List.set_cons_succ])
      refine takeL (i := 2) (v := ?_) rfl (by kernel_rfl) (by kernel_rfl) (by kernel_rfl) (fun _ _ _ h => h) (Or.inl ⟨by rfl, ?_⟩) (by assumption) ?_; rotate_left; (focus (intro wq hSw; (try dsimp only at hSw); go_simp; try with_reducible rfl)); (try simp only [Act.put, List.setIfInBounds_toArray, List.set_cons_zero, List.set_cons_succ])
      refine takeL (i := 3) (v := ?_) rfl (by kernel_rfl) (by kernel_rfl) (by kernel_rfl) (fun _ _ _ h => h) (Or.inl ⟨by rfl, ?_⟩) (by assumption) ?_; rotate_left; (focus (intro wq hSw; (try dsimp only at hSw); go_simp; try with_reducible rfl)); (try simp only [Act.put, List.setIfInBounds_toArray, List.set_cons_zero, List.set_cons_succ])
      refine takeL (i := 4) (v := ?_) rfl (by kernel_rfl) (by kernel_rfl) (by kernel_rfl) (fun _ _ _ h => h) (Or.inl ⟨by rfl, ?_⟩) (by assumption) ?_; rotate_left; (focus (intro wq hSw; (try dsimp only at hSw); go_simp; try with_reducible rfl)); (try simp only [Act.put, List.setIfInBounds_toArray, List.set_cons_zero, List.set_cons_succ])
      refine takeL (i := 5) rfl (by kernel_rfl) (by kernel_rfl) (by kernel_rfl) (fun _ _ _ h => h) (Or.inr ⟨by rfl, rfl⟩) (by assumption) ?_; (try simp only [Act.put, List.setIfInBounds_toArray, List.set_cons_zero, List.set_cons_succ])
      refine takeL (i := 6) rfl (by kernel_rfl) (by kernel_rfl) (by kernel_rfl) (fun _ _ _ h => h) (Or.inr ⟨by rfl, rfl⟩) (by assumption) ?_; (try simp only [Act.put, List.setIfInBounds_toArray, List.set_cons_zero, List.set_cons_succ])
      refine takeL (i := 7) rfl (by kernel_rfl) (by kernel_rfl) (by kernel_rfl) (fun _ _ _ h => h) (Or.inr ⟨by rfl, rfl⟩) (by assumption) ?_; (try simp only [Act.put, List.setIfInBounds_toArray, List.set_cons_zero, List.set_cons_succ])
      refine takeL (i := 8) rfl (by kernel_rfl) (by kernel_rfl) (by kernel_rfl) (fun _ _ _ h => h) (Or.inr ⟨by rfl, rfl⟩) (by assumption) ?_; (try simp only [Act.put, List.setIfInBounds_toArray, List.set_cons_zero, List.set_cons_succ])
      refine takeL (i := 9) rfl (by kernel_rfl) (by kernel_rfl) (by kernel_rfl) (fun _ _ _ h => h) (Or.inr ⟨by rfl, rfl⟩) (by assumption) ?_; (try simp only [Act.put, List.setIfInBounds_toArray, List.set_cons_zero, List.set_cons_succ])
      refine takeL (i := 10) rfl (by kernel_rfl) (by kernel_rfl) (by kernel_rfl) (fun _ _ _ h => h) (Or.inr ⟨by rfl, rfl⟩) (by assumption) ?_; (try simp only [Act.put, List.setIfInBounds_toArray, List.set_cons_zero, List.set_cons_succ])
      refine takeL (i := 11) (v := ?_) rfl (by kernel_rfl) (by kernel_rfl) (by kernel_rfl) (fun _ _ _ h => h) (Or.inl ⟨by rfl, ?_⟩) (by assumption) ?_; rotate_left; (focus (intro wq hSw; (try dsimp only at hSw); go_simp; try with_reducible rfl)); (try simp only [Act.put, List.setIfInBounds_toArray, List.set_cons_zero, List.set_cons_succ])
      refine doneL (by kernel_rfl) ?_
      clear hHeld
      go_upto_region 7 with fail
      have HX7 := Lib.hid (HE.out.trans (HW.out.trans (Ext.refl wr).drew.drew))
      have HBx := Lib.hid ((HB.out.ext HW.out).ext (Ext.refl wr).drew.drew)
      generalize wr.drew.drew = W0 at *
      have L0 : (0 : Int) ≤ (k : Int) := by omega
      have L1 : ¬ (k : Int) < 0 := by omega
      have L2 : (k : Int) ≤ (n : Int) := by omega
      have L3 : (k : Int) ≤ (c : Int) := by omega
      have L4 : (k : Int).toNat = k := by omega
      have HC7 := Lib.hid (fun W (e : Ext W0 W) => (HBx.out.ext e).ra)
      have HT7 := Lib.hid ((hR.out.ext HX7.out).take hk)
      refine wp_region_held_drew (S := fun W => Ext W0 W) (by kernel_rfl) ((Ext.refl W0).drew) (fun hHeld => ?_)
      refine takeL (i := 0) (v := ?_) rfl (by kernel_rfl) (by kernel_rfl) (by kernel_rfl) (fun _ _ _ h => h) (Or.inl ⟨by rfl, ?_⟩) (by assumption) ?_; rotate_left; (focus (intro wq hSw; (try dsimp only at hSw); go_simp; try with_reducible rfl)); (try simp only [Act.put, List.setIfInBounds_toArray, List.set_cons_zero, List.set_cons_succ])
      refine takeL (i := 1) (v := ?_) rfl (by kernel_rfl) (by kernel_rfl) (by kernel_rfl) (fun _ _ _ h => h) (Or.inl ⟨by rfl, ?_⟩) (by assumption) ?_; rotate_left; (focus (intro wq hSw; (try dsimp only at hSw); go_simp; try with_reducible rfl)); (try simp only [Act.put, List.setIfInBounds_toArray, List.set_cons_zero, List.set_cons_succ])
      refine takeL (i := 2) (v := ?_) rfl (by kernel_rfl) (by kernel_rfl) (by kernel_rfl) (fun _ _ _ h => h) (Or.inl ⟨by rfl, ?_⟩) (by assumption) ?_; rotate_left; (focus (intro wq hSw; (try dsimp only at hSw); go_simp; try with_reducible rfl)); (try simp only [Act.put, List.setIfInBounds_toArray, List.set_cons_zero, List.set_cons_succ])
      refine takeL (i := 3) (v := ?_) rfl (by kernel_rfl) (by kernel_rfl) (by kernel_rfl) (fun _ _ _ h => h) (Or.inl ⟨by rfl, ?_⟩) (by assumption) ?_; rotate_left; (focus (intro wq hSw; (try dsimp only at hSw); go_simp; try with_reducible rfl)); (try simp only [Act.put, List.setIfInBounds_toArray, List.set_cons_zero, List.set_cons_succ])
      refine takeL (i := 5) (v := ?_) rfl (by kernel_rfl) (by kernel_rfl) (by kernel_rfl) (fun _ _ _ h => h) (Or.inl ⟨by rfl, ?_⟩) (by assumption) ?_; rotate_left; (focus (intro wq hSw; have hcc := HC7.out wq hSw; clear hSw; go_split_ands; go_simp; try with_reducible rfl)); (try simp only [Act.put, List.setIfInBounds_toArray, List.set_cons_zero, List.set_cons_succ])
      have HS7 := Lib.hid (show (l.take k).length = k by rw [List.length_take, HL.out.2.2]; omega)
      have HN7 := Lib.hid (show k + 1 ≤ 1000 by omega)
      refine cons2L (i := 4) (j := 6) (by kernel_rfl) rfl rfl (fun K hK => ?_) (fun K hK => ?_)
      · rw [if_pos (show Region.wanted _ _ = true by rfl)]
        obtain ⟨v1, w1, hr1, hg1, hx1⟩ := app_any (w := W0.drew) (base := W0.heap.size) (l1 := []) (Nat.le_of_eq rfl) (GRow.nil encRP 72 _ _) (HT7.out.ext (Ext.refl W0).drew) (by show 0 + k ≤ 1000; omega) c 81
        rw [List.nil_append] at hg1
        refine wp_append_run _ _ _ (.slice none 0 0) (.slice (some ⟨g, 0, none⟩) k c) v1 rfl rfl rfl hr1 ?_
        have HX1 := Lib.hid (hx1 W0 (Ext.refl W0).drew (Nat.le_refl _))
        have HG1 := Lib.hid hg1
        clear hx1 hg1 hr1
        refine hK.out _ _ ?_ ?_; rotate_left; clear hK K; intro hHeld; rotate_right
        · exact HX1.out
        (try simp only [Act.put, List.setIfInBounds_toArray, List.set_cons_zero, List.set_cons_succ])
        refine consL (i := 6) (by kernel_rfl) rfl (fun K hK => ?_)
        rw [if_pos (show Region.wanted _ _ = true by rfl)]
        refine wp_build1 p _ rfl rfl ?_
        obtain ⟨b2, hb2⟩ : ∃ b, w1.heap.size = b := ⟨_, rfl⟩
        have HB2 := Lib.hid (Blk.at p.ca 72 hb2.symm)
        have HY2 := Lib.hid ((Ext.refl w1).alloc (.cells p.ca 72))
        rw [hb2]
        clear hb2
        generalize w1.alloc (.cells p.ca 72) = w2 at *
        refine hK.out _ _ ?_ ?_; rotate_left; clear hK K; intro hHeld; rotate_right
        · exact HX1.out.trans HY2.out
        (try simp only [Act.put, List.setIfInBounds_toArray, List.set_cons_zero, List.set_cons_succ])
        have HG2 := Lib.hid (HG1.out.ext HY2.out)
        have HX2 := Lib.hid (HX1.out.trans HY2.out)
        have HBS7 := Lib.hid HX2.out.size
        have HWB7 := Lib.hid (Nat.le_refl W0.heap.size)
        have HXA := Lib.hid HX2.out
        clear HX1 HG1 HY2
        obtain ⟨v3, w3, hr3, hg3, hx3⟩ := app_any (w := w2) (base := W0.heap.size) HBS7.out HG2.out (src1 HB2.out) (by show (l.take k).length + 1 ≤ 1000; rw [HS7.out]; exact HN7.out) 1 81
        refine consL (i := 7) (by kernel_rfl) rfl (fun K hK => ?_)
        rw [if_pos (show Region.wanted _ _ = true by rfl)]
        refine wp_append_run _ _ _ v1 (.slice (some ⟨b2, 0, none⟩) 1 1) v3 rfl rfl rfl hr3 ?_
        have HX3 := Lib.hid (hx3 W0 HX2.out HWB7.out)
        have HXA3 := Lib.hid (hx3 W0 HXA.out (Nat.le_refl _))
        have HG3 := Lib.hid hg3
        clear hx3 hg3 hr3
        refine hK.out _ _ ?_ ?_; rotate_left; clear hK K; intro hHeld; rotate_right
        · exact HX3.out
        (try simp only [Act.put, List.setIfInBounds_toArray, List.set_cons_zero, List.set_cons_succ])
        refine takeL (i := 8) (v := ?_) rfl (by kernel_rfl) (by kernel_rfl) (by kernel_rfl) (fun _ _ _ h => h) (Or.inl ⟨by rfl, ?_⟩) (by assumption) ?_; rotate_left; (focus (intro wq hSw; (try dsimp only at hSw); go_simp; try with_reducible rfl)); (try simp only [Act.put, List.setIfInBounds_toArray, List.set_cons_zero, List.set_cons_succ])
        refine doneL (by kernel_rfl) ?_
        clear hHeld
        have HSA := Lib.hid HXA3.out.size
        rcases Nat.lt_or_ge k c with hkc | hkc
        · have q1 : (k : Int) < (c : Int) := by omega
          have q2 : ¬ c - k = 0 := by omega
          have q3 : ¬ k = c := by omega
          have q4 : ¬ c = k := by omega
          have q5 : ¬ c ≤ k := by omega
          obtain ⟨v4, w4, hr4, hg4, hx4⟩ := app_any (w := w3) (base := W0.heap.size) HSA.out HG3.out (⟨by rw [List.length_drop, HL.out.2.2], .inr ⟨_, rfl, drop_news (HL.out.1.ext (HX7.out.trans HX3.out))⟩⟩ : SrcR w3 (some ⟨g, k * 3, none⟩) (n - k) (l.drop k)) (by rw [List.length_append, HS7.out]; show k + 1 + (n - k) ≤ 1000; omega) (c - k) 81
          rw [show l.take k ++ [p] ++ l.drop k = insF l p by rw [HV.out, List.append_assoc]; rfl] at hg4
          have HX4 := Lib.hid (hx4 W0 HX3.out HWB7.out)
          obtain ⟨a4, c4, rfl, hR4⟩ := hg4.rps (by rw [HV.out]; simp; omega)
          have HR4 := Lib.hid hR4
          clear hx4 hg4 hR4
          go_wp2_with (at_builtin; refine wpList_plain rfl fun _ hK => wp_append_run _ _ _ _ _ _ rfl rfl rfl hr4 (hK _ _ ?_))
          go_ret
          exact ⟨a4, c4, rfl, HR4.out, HX7.out.trans HX4.out⟩
        · clear l1 l1'
          have hck : k = c := by omega
          subst hck
          have hnk : k = n := by omega
          subst hnk
          obtain ⟨v4, w4, hr4, hg4, hx4⟩ := app_any (w := w3) (base := W0.heap.size) HSA.out HG3.out (⟨by rw [List.length_drop, HL.out.2.2]; omega, .inl rfl⟩ : SrcR w3 (some ⟨g, 0, none⟩) 0 (l.drop k)) (by rw [List.length_append, HS7.out]; show k + 1 + 0 ≤ 1000; omega) 0 81
          rw [show l.take k ++ [p] ++ l.drop k = insF l p by rw [HV.out, List.append_assoc]; rfl] at hg4
          have HX4 := Lib.hid (hx4 W0 HX3.out HWB7.out)
          obtain ⟨a4, c4, rfl, hR4⟩ := hg4.rps (by rw [HV.out]; simp; omega)
          have HR4 := Lib.hid hR4
          clear hx4 hg4 hR4
          go_wp2_with (at_builtin; refine wpList_plain rfl fun _ hK => wp_append_run _ _ _ _ _ _ rfl rfl rfl hr4 (hK _ _ ?_))
          go_ret
          exact ⟨a4, c4, rfl, HR4.out, HX7.out.trans HX4.out⟩
      · rw [if_pos (show Region.wanted _ _ = true by rfl)]
        refine wp_build1 p _ rfl rfl ?_
        obtain ⟨b2, hb2⟩ : ∃ b, W0.drew.heap.size = b := ⟨_, rfl⟩
        have HB1 := Lib.hid (Blk.at p.ca 72 hb2.symm)
        have HY1 := Lib.hid ((Ext.refl W0).drew.alloc (.cells p.ca 72))
        rw [hb2]
        clear hb2
        generalize W0.drew.alloc (.cells p.ca 72) = w1 at *
        refine hK.out _ _ ?_ ?_; rotate_left; clear hK K; intro hHeld; rotate_right
        · exact HY1.out
        (try simp only [Act.put, List.setIfInBounds_toArray, List.set_cons_zero, List.set_cons_succ])
        obtain ⟨v1, w2, hr1, hg1, hx1⟩ := app_any (w := w1) (base := w1.heap.size) (l1 := []) (Nat.le_refl _) (GRow.nil encRP 72 _ _) (HT7.out.ext HY1.out) (by show 0 + k ≤ 1000; omega) c 81
        refine consL (i := 4) (by kernel_rfl) rfl (fun K hK => ?_)
        rw [if_pos (show Region.wanted _ _ = true by rfl)]
        rw [List.nil_append] at hg1
        refine wp_append_run _ _ _ (.slice none 0 0) (.slice (some ⟨g, 0, none⟩) k c) v1 rfl rfl rfl hr1 ?_
        have HX2 := Lib.hid (hx1 W0 HY1.out HY1.out.size)
        have HXX := Lib.hid (hx1 w1 (Ext.refl w1) (Nat.le_refl _))
        have HG2 := Lib.hid hg1
        clear hx1 hg1 hr1
        refine hK.out _ _ ?_ ?_; rotate_left; clear hK K; intro hHeld; rotate_right
        · exact HX2.out
        (try simp only [Act.put, List.setIfInBounds_toArray, List.set_cons_zero, List.set_cons_succ])
        have HB2 := Lib.hid (HB1.out.ext HXX.out)
        have HBS7 := Lib.hid HXX.out.size
        have HWB7 := Lib.hid HY1.out.size
        have HXA := Lib.hid HXX.out
        clear HB1 HXX
        obtain ⟨v3, w3, hr3, hg3, hx3⟩ := app_any (w := w2) (base := w1.heap.size) HBS7.out HG2.out (src1 HB2.out) (by show (l.take k).length + 1 ≤ 1000; rw [HS7.out]; exact HN7.out) 1 81
        refine consL (i := 7) (by kernel_rfl) rfl (fun K hK => ?_)
        rw [if_pos (show Region.wanted _ _ = true by rfl)]
        refine wp_append_run _ _ _ v1 (.slice (some ⟨b2, 0, none⟩) 1 1) v3 rfl rfl rfl hr3 ?_
        have HX3 := Lib.hid (hx3 W0 HX2.out HWB7.out)
        have HXA3 := Lib.hid (hx3 w1 HXA.out (Nat.le_refl _))
        have HG3 := Lib.hid hg3
        clear hx3 hg3 hr3
        refine hK.out _ _ ?_ ?_; rotate_left; clear hK K; intro hHeld; rotate_right
        · exact HX3.out
        (try simp only [Act.put, List.setIfInBounds_toArray, List.set_cons_zero, List.set_cons_succ])
        refine takeL (i := 8) (v := ?_) rfl (by kernel_rfl) (by kernel_rfl) (by kernel_rfl) (fun _ _ _ h => h) (Or.inl ⟨by rfl, ?_⟩) (by assumption) ?_; rotate_left; (focus (intro wq hSw; (try dsimp only at hSw); go_simp; try with_reducible rfl)); (try simp only [Act.put, List.setIfInBounds_toArray, List.set_cons_zero, List.set_cons_succ])
        refine doneL (by kernel_rfl) ?_
        clear hHeld
        have HSA := Lib.hid HXA3.out.size
        rcases Nat.lt_or_ge k c with hkc | hkc
        · have q1 : (k : Int) < (c : Int) := by omega
          have q2 : ¬ c - k = 0 := by omega
          have q3 : ¬ k = c := by omega
          have q4 : ¬ c = k := by omega
          have q5 : ¬ c ≤ k := by omega
          obtain ⟨v4, w4, hr4, hg4, hx4⟩ := app_any (w := w3) (base := w1.heap.size) HSA.out HG3.out (⟨by rw [List.length_drop, HL.out.2.2], .inr ⟨_, rfl, drop_news (HL.out.1.ext (HX7.out.trans HX3.out))⟩⟩ : SrcR w3 (some ⟨g, k * 3, none⟩) (n - k) (l.drop k)) (by rw [List.length_append, HS7.out]; show k + 1 + (n - k) ≤ 1000; omega) (c - k) 81
          rw [show l.take k ++ [p] ++ l.drop k = insF l p by rw [HV.out, List.append_assoc]; rfl] at hg4
          have HX4 := Lib.hid (hx4 W0 HX3.out HWB7.out)
          obtain ⟨a4, c4, rfl, hR4⟩ := hg4.rps (by rw [HV.out]; simp; omega)
          have HR4 := Lib.hid hR4
          clear hx4 hg4 hR4
          go_wp2_with (at_builtin; refine wpList_plain rfl fun _ hK => wp_append_run _ _ _ _ _ _ rfl rfl rfl hr4 (hK _ _ ?_))
          go_ret
          exact ⟨a4, c4, rfl, HR4.out, HX7.out.trans HX4.out⟩
        · clear l1 l1'
          have hck : k = c := by omega
          subst hck
          have hnk : k = n := by omega
          subst hnk
          obtain ⟨v4, w4, hr4, hg4, hx4⟩ := app_any (w := w3) (base := w1.heap.size) HSA.out HG3.out (⟨by rw [List.length_drop, HL.out.2.2]; omega, .inl rfl⟩ : SrcR w3 (some ⟨g, 0, none⟩) 0 (l.drop k)) (by rw [List.length_append, HS7.out]; show k + 1 + 0 ≤ 1000; omega) 0 81
          rw [show l.take k ++ [p] ++ l.drop k = insF l p by rw [HV.out, List.append_assoc]; rfl] at hg4
          have HX4 := Lib.hid (hx4 W0 HX3.out HWB7.out)
          obtain ⟨a4, c4, rfl, hR4⟩ := hg4.rps (by rw [HV.out]; simp; omega)
          have HR4 := Lib.hid hR4
          clear hx4 hg4 hR4
          go_wp2_with (at_builtin; refine wpList_plain rfl fun _ hK => wp_append_run _ _ _ _ _ _ rfl rfl rfl hr4 (hK _ _ ?_))
          go_ret
          exact ⟨a4, c4, rfl, HR4.out, HX7.out.trans HX4.out⟩
set_option maxRecDepth 100000 in
set_option maxHeartbeats 40000000 in
theorem rPut_nil (p : RP) (w : World) :
    Calls Try.prog 65 #[.slice none 0 0, p.v] w fun e w' => ∃ a' c', e = .returned (.slice a' 1 c') ∧ RPs w' a' 1 c' [p] ∧ Ext w w' := by
  obtain ⟨B, hB⟩ : ∃ B, w.heap.size = B := ⟨_, rfl⟩
  go_enter Try.func65, Try.ntmps65
  go_upto_region 2 with fail
  refine wp_gen (fun W => Ext w W ∧ Blk W B p.ca 72) ⟨(by repeat (first | exact Ext.refl _ | assumption | refine Ext.setCell ?_ (by first | (simp; done) | (simp; omega) | omega) _ | refine Ext.alloc ?_ _ | refine Ext.drew ?_ | refine Ext.trans ?_ (by assumption))), Blk.at _ 72 hB.symm⟩ ?_
  rintro V ⟨E0, B0⟩
  have HE := Lib.hid E0
  have HB := Lib.hid B0
  clear E0 B0
  go_loopw [5] (fun v ws => v = .int .i64 0 ∧ Ext V ws) (fun _ _ => 0)
  case atStart => exact ⟨rfl, Ext.refl V⟩
  case round =>
    obtain ⟨rfl, hE⟩ := hrel
    have HW := Lib.hid hE
    clear hE
    go_upto_region 2 with fail
    refine wp_region_held_drew (S := fun W => Ext wr W) (by kernel_rfl) ((Ext.refl wr).drew) (fun hHeld => ?_)
    refine takeL (i := 0) (v := ?_) rfl (by kernel_rfl) (by kernel_rfl) (by kernel_rfl) (fun _ _ _ h => h) (Or.inl ⟨by rfl, ?_⟩) (by assumption) ?_; rotate_left; (focus (intro wq hSw; (try dsimp only at hSw); go_simp; try with_reducible rfl)); (try simp only [Act.put, List.setIfInBounds_toArray, List.set_cons_zero, List.set_cons_succ])
    refine takeL (i := 1) (v := ?_) rfl (by kernel_rfl) (by kernel_rfl) (by kernel_rfl) (fun _ _ _ h => h) (Or.inl ⟨by rfl, ?_⟩) (by assumption) ?_; rotate_left; (focus (intro wq hSw; (try dsimp only at hSw); go_simp; try with_reducible rfl)); (try simp only [Act.put, List.setIfInBounds_toArray, List.set_cons_zero, List.set_cons_succ])
    refine takeL (i := 2) (v := ?_) rfl (by kernel_rfl) (by kernel_rfl) (by kernel_rfl) (fun _ _ _ h => h) (Or.inl ⟨by rfl, ?_⟩) (by assumption) ?_; rotate_left; (focus (intro wq hSw; (try dsimp only at hSw); go_simp; try with_reducible rfl)); (try simp only [Act.put, List.setIfInBounds_toArray, List.set_cons_zero, List.set_cons_succ])
    refine takeL (i := 3) (v := ?_) rfl (by kernel_rfl) (by kernel_rfl) (by kernel_rfl) (fun _ _ _ h => h) (Or.inl ⟨by rfl, ?_⟩) (by assumption) ?_; rotate_left; (focus (intro wq hSw; (try dsimp only at hSw); go_simp; try with_reducible rfl)); (try simp only [Act.put, List.setIfInBounds_toArray, List.set_cons_zero, List.set_cons_succ])
    refine takeL (i := 4) (v := ?_) rfl (by kernel_rfl) (by kernel_rfl) (by kernel_rfl) (fun _ _ _ h => h) (Or.inl ⟨by rfl, ?_⟩) (by assumption) ?_; rotate_left; (focus (intro wq hSw; (try dsimp only at hSw); go_simp; try with_reducible rfl)); (try simp only [Act.put, List.setIfInBounds_toArray, List.set_cons_zero, List.set_cons_succ])
    refine takeL (i := 5) rfl (by kernel_rfl) (by kernel_rfl) (by kernel_rfl) (fun _ _ _ h => h) (Or.inr ⟨by rfl, rfl⟩) (by assumption) ?_; (try simp only [Act.put, List.setIfInBounds_toArray, List.set_cons_zero, List.set_cons_succ])
    refine takeL (i := 6) rfl (by kernel_rfl) (by kernel_rfl) (by kernel_rfl) (fun _ _ _ h => h) (Or.inr ⟨by rfl, rfl⟩) (by assumption) ?_; (try simp only [Act.put, List.setIfInBounds_toArray, List.set_cons_zero, List.set_cons_succ])
    refine takeL (i := 7) rfl (by kernel_rfl) (by kernel_rfl) (by kernel_rfl) (fun _ _ _ h => h) (Or.inr ⟨by rfl, rfl⟩) (by assumption) ?_; (try simp only [Act.put, List.setIfInBounds_toArray, List.set_cons_zero, List.set_cons_succ])
    refine takeL (i := 8) rfl (by kernel_rfl) (by kernel_rfl) (by kernel_rfl) (fun _ _ _ h => h) (Or.inr ⟨by rfl, rfl⟩) (by assumption) ?_; (try simp only [Act.put, List.setIfInBounds_toArray, List.set_cons_zero, List.set_cons_succ])
    refine takeL (i := 9) rfl (by kernel_rfl) (by kernel_rfl) (by kernel_rfl) (fun _ _ _ h => h) (Or.inr ⟨by rfl, rfl⟩) (by assumption) ?_; (try simp only [Act.put, List.setIfInBounds_toArray, List.set_cons_zero, List.set_cons_succ])
    refine takeL (i := 10) rfl (by kernel_rfl) (by kernel_rfl) (by kernel_rfl) (fun _ _ _ h => h) (Or.inr ⟨by rfl, rfl⟩) (by assumption) ?_; (try simp only [Act.put, List.setIfInBounds_toArray, List.set_cons_zero, List.set_cons_succ])
    refine takeL (i := 11) rfl (by kernel_rfl) (by kernel_rfl) (by kernel_rfl) (fun _ _ _ h => h) (Or.inr ⟨by rfl, rfl⟩) (by assumption) ?_; (try simp only [Act.put, List.setIfInBounds_toArray, List.set_cons_zero, List.set_cons_succ])
    refine takeL (i := 12) (v := ?_) rfl (by kernel_rfl) (by kernel_rfl) (by kernel_rfl) (fun _ _ _ h => h) (Or.inl ⟨by rfl, ?_⟩) (by assumption) ?_; rotate_left; (focus (intro wq hSw; (try dsimp only at hSw); go_simp; try with_reducible rfl)); (try simp only [Act.put, List.setIfInBounds_toArray, List.set_cons_zero, List.set_cons_succ])
    refine doneL (by kernel_rfl) ?_
    clear hHeld
    go_upto_region 4 with fail
    refine wp_region_held_drew (S := fun W => Ext wr W) (by kernel_rfl) ((Ext.refl wr).drew.drew) (fun hHeld => ?_)
    refine takeL (i := 0) (v := ?_) rfl (by kernel_rfl) (by kernel_rfl) (by kernel_rfl) (fun _ _ _ h => h) (Or.inl ⟨by rfl, ?_⟩) (by assumption) ?_; rotate_left; (focus (intro wq hSw; (try dsimp only at hSw); go_simp; try with_reducible rfl)); (try simp only [Act.put, List.setIfInBounds_toArray, List.set_cons_zero, List.set_cons_succ])
    refine takeL (i := 1) (v := ?_) rfl (by kernel_rfl) (by kernel_rfl) (by kernel_rfl) (fun _ _ _ h => h) (Or.inl ⟨by rfl, ?_⟩) (by assumption) ?_; rotate_left; (focus (intro wq hSw; (try dsimp only at hSw); go_simp; try with_reducible rfl)); (try simp only [Act.put, List.setIfInBounds_toArray, List.set_cons_zero, List.set_cons_succ])
    refine takeL (i := 2) (v := ?_) rfl (by kernel_rfl) (by kernel_rfl) (by kernel_rfl) (fun _ _ _ h => h) (Or.inl ⟨by rfl, ?_⟩) (by assumption) ?_; rotate_left; (focus (intro wq hSw; (try dsimp only at hSw); go_simp; try with_reducible rfl)); (try simp only [Act.put, List.setIfInBounds_toArray, List.set_cons_zero, List.set_cons_succ])
    refine takeL (i := 3) (v := ?_) rfl (by kernel_rfl) (by kernel_rfl) (by kernel_rfl) (fun _ _ _ h => h) (Or.inl ⟨by rfl, ?_⟩) (by assumption) ?_; rotate_left; (focus (intro wq hSw; (try dsimp only at hSw); go_simp; try with_reducible rfl)); (try simp only [Act.put, List.setIfInBounds_toArray, List.set_cons_zero, List.set_cons_succ])
    refine takeL (i := 4) (v := ?_) rfl (by kernel_rfl) (by kernel_rfl) (by kernel_rfl) (fun _ _ _ h => h) (Or.inl ⟨by rfl, ?_⟩) (by assumption) ?_; rotate_left; (focus (intro wq hSw; (try dsimp only at hSw); go_simp; try with_reducible rfl)); (try simp only [Act.put, List.setIfInBounds_toArray, List.set_cons_zero, List.set_cons_succ])
    refine takeL (i := 5) rfl (by kernel_rfl) (by kernel_rfl) (by kernel_rfl) (fun _ _ _ h => h) (Or.inr ⟨by rfl, rfl⟩) (by assumption) ?_; (try simp only [Act.put, List.setIfInBounds_toArray, List.set_cons_zero, List.set_cons_succ])
    refine takeL (i := 6) rfl (by kernel_rfl) (by kernel_rfl) (by kernel_rfl) (fun _ _ _ h => h) (Or.inr ⟨by rfl, rfl⟩) (by assumption) ?_; (try simp only [Act.put, List.setIfInBounds_toArray, List.set_cons_zero, List.set_cons_succ])
    refine takeL (i := 7) rfl (by kernel_rfl) (by kernel_rfl) (by kernel_rfl) (fun _ _ _ h => h) (Or.inr ⟨by rfl, rfl⟩) (by assumption) ?_; (try simp only [Act.put, List.setIfInBounds_toArray, List.set_cons_zero, List.set_cons_succ])
    refine takeL (i := 8) rfl (by kernel_rfl) (by kernel_rfl) (by kernel_rfl) (fun _ _ _ h => h) (Or.inr ⟨by rfl, rfl⟩) (by assumption) ?_; (try simp only [Act.put, List.setIfInBounds_toArray, List.set_cons_zero, List.set_cons_succ])
    refine takeL (i := 9) rfl (by kernel_rfl) (by kernel_rfl) (by kernel_rfl) (fun _ _ _ h => h) (Or.inr ⟨by rfl, rfl⟩) (by assumption) ?_; (try simp only [Act.put, List.setIfInBounds_toArray, List.set_cons_zero, List.set_cons_succ])
    refine takeL (i := 10) rfl (by kernel_rfl) (by kernel_rfl) (by kernel_rfl) (fun _ _ _ h => h) (Or.inr ⟨by rfl, rfl⟩) (by assumption) ?_; (try simp only [Act.put, List.setIfInBounds_toArray, List.set_cons_zero, List.set_cons_succ])
    refine takeL (i := 11) (v := ?_) rfl (by kernel_rfl) (by kernel_rfl) (by kernel_rfl) (fun _ _ _ h => h) (Or.inl ⟨by rfl, ?_⟩) (by assumption) ?_; rotate_left; (focus (intro wq hSw; (try dsimp only at hSw); go_simp; try with_reducible rfl)); (try simp only [Act.put, List.setIfInBounds_toArray, List.set_cons_zero, List.set_cons_succ])
    refine doneL (by kernel_rfl) ?_
    clear hHeld
    go_upto_region 7 with fail
    have HX7 := Lib.hid (HE.out.trans (HW.out.trans (Ext.refl wr).drew.drew))
    have HBx := Lib.hid ((HB.out.ext HW.out).ext (Ext.refl wr).drew.drew)
    generalize wr.drew.drew = W0 at *
    have HC7 := Lib.hid (fun W (e : Ext W0 W) => (HBx.out.ext e).ra)
    have HT7 := Lib.hid (show SrcR W0 none 0 ([] : List RP) from ⟨rfl, .inl rfl⟩)
    refine wp_region_held_drew (S := fun W => Ext W0 W) (by kernel_rfl) ((Ext.refl W0).drew) (fun hHeld => ?_)
    refine takeL (i := 0) (v := ?_) rfl (by kernel_rfl) (by kernel_rfl) (by kernel_rfl) (fun _ _ _ h => h) (Or.inl ⟨by rfl, ?_⟩) (by assumption) ?_; rotate_left; (focus (intro wq hSw; (try dsimp only at hSw); go_simp; try with_reducible rfl)); (try simp only [Act.put, List.setIfInBounds_toArray, List.set_cons_zero, List.set_cons_succ])
    refine takeL (i := 1) (v := ?_) rfl (by kernel_rfl) (by kernel_rfl) (by kernel_rfl) (fun _ _ _ h => h) (Or.inl ⟨by rfl, ?_⟩) (by assumption) ?_; rotate_left; (focus (intro wq hSw; (try dsimp only at hSw); go_simp; try with_reducible rfl)); (try simp only [Act.put, List.setIfInBounds_toArray, List.set_cons_zero, List.set_cons_succ])
    refine takeL (i := 2) (v := ?_) rfl (by kernel_rfl) (by kernel_rfl) (by kernel_rfl) (fun _ _ _ h => h) (Or.inl ⟨by rfl, ?_⟩) (by assumption) ?_; rotate_left; (focus (intro wq hSw; (try dsimp only at hSw); go_simp; try with_reducible rfl)); (try simp only [Act.put, List.setIfInBounds_toArray, List.set_cons_zero, List.set_cons_succ])
    refine takeL (i := 3) (v := ?_) rfl (by kernel_rfl) (by kernel_rfl) (by kernel_rfl) (fun _ _ _ h => h) (Or.inl ⟨by rfl, ?_⟩) (by assumption) ?_; rotate_left; (focus (intro wq hSw; (try dsimp only at hSw); go_simp; try with_reducible rfl)); (try simp only [Act.put, List.setIfInBounds_toArray, List.set_cons_zero, List.set_cons_succ])
    refine takeL (i := 5) (v := ?_) rfl (by kernel_rfl) (by kernel_rfl) (by kernel_rfl) (fun _ _ _ h => h) (Or.inl ⟨by rfl, ?_⟩) (by assumption) ?_; rotate_left; (focus (intro wq hSw; have hcc := HC7.out wq hSw; clear hSw; go_split_ands; go_simp; try with_reducible rfl)); (try simp only [Act.put, List.setIfInBounds_toArray, List.set_cons_zero, List.set_cons_succ])
    refine cons2L (i := 4) (j := 6) (by kernel_rfl) rfl rfl (fun K hK => ?_) (fun K hK => ?_)
    · rw [if_pos (show Region.wanted _ _ = true by rfl)]
      obtain ⟨v1, w1, hr1, hg1, hx1⟩ := app_any (w := W0.drew) (base := W0.heap.size) (l1 := []) (Nat.le_of_eq rfl) (GRow.nil encRP 72 _ _) (HT7.out.ext (Ext.refl W0).drew) (by show 0 + 0 ≤ 1000; omega) 0 81
      rw [List.nil_append] at hg1
      refine wp_append_run _ _ _ (.slice none 0 0) (.slice none 0 0) v1 rfl rfl rfl hr1 ?_
      have HX1 := Lib.hid (hx1 W0 (Ext.refl W0).drew (Nat.le_refl _))
      have HG1 := Lib.hid hg1
      clear hx1 hg1 hr1
      refine hK.out _ _ ?_ ?_; rotate_left; clear hK K; intro hHeld; rotate_right
      · exact HX1.out
      (try simp only [Act.put, List.setIfInBounds_toArray, List.set_cons_zero, List.set_cons_succ])
      refine consL (i := 6) (by kernel_rfl) rfl (fun K hK => ?_)
      rw [if_pos (show Region.wanted _ _ = true by rfl)]
      refine wp_build1 p _ rfl rfl ?_
      obtain ⟨b2, hb2⟩ : ∃ b, w1.heap.size = b := ⟨_, rfl⟩
      have HB2 := Lib.hid (Blk.at p.ca 72 hb2.symm)
      have HY2 := Lib.hid ((Ext.refl w1).alloc (.cells p.ca 72))
      rw [hb2]
      clear hb2
      generalize w1.alloc (.cells p.ca 72) = w2 at *
      refine hK.out _ _ ?_ ?_; rotate_left; clear hK K; intro hHeld; rotate_right
      · exact HX1.out.trans HY2.out
      (try simp only [Act.put, List.setIfInBounds_toArray, List.set_cons_zero, List.set_cons_succ])
      have HG2 := Lib.hid (HG1.out.ext HY2.out)
      have HX2 := Lib.hid (HX1.out.trans HY2.out)
      have HBS7 := Lib.hid HX2.out.size
      have HWB7 := Lib.hid (Nat.le_refl W0.heap.size)
      have HXA := Lib.hid HX2.out
      clear HX1 HG1 HY2
      obtain ⟨v3, w3, hr3, hg3, hx3⟩ := app_any (w := w2) (base := W0.heap.size) HBS7.out HG2.out (src1 HB2.out) (by show 0 + 1 ≤ 1000; omega) 1 81
      refine consL (i := 7) (by kernel_rfl) rfl (fun K hK => ?_)
      rw [if_pos (show Region.wanted _ _ = true by rfl)]
      refine wp_append_run _ _ _ v1 (.slice (some ⟨b2, 0, none⟩) 1 1) v3 rfl rfl rfl hr3 ?_
      have HX3 := Lib.hid (hx3 W0 HX2.out HWB7.out)
      have HXA3 := Lib.hid (hx3 W0 HXA.out (Nat.le_refl _))
      have HG3 := Lib.hid hg3
      clear hx3 hg3 hr3
      refine hK.out _ _ ?_ ?_; rotate_left; clear hK K; intro hHeld; rotate_right
      · exact HX3.out
      (try simp only [Act.put, List.setIfInBounds_toArray, List.set_cons_zero, List.set_cons_succ])
      refine takeL (i := 8) (v := ?_) rfl (by kernel_rfl) (by kernel_rfl) (by kernel_rfl) (fun _ _ _ h => h) (Or.inl ⟨by rfl, ?_⟩) (by assumption) ?_; rotate_left; (focus (intro wq hSw; (try dsimp only at hSw); go_simp; try with_reducible rfl)); (try simp only [Act.put, List.setIfInBounds_toArray, List.set_cons_zero, List.set_cons_succ])
      refine doneL (by kernel_rfl) ?_
      clear hHeld
      have HSA := Lib.hid HXA3.out.size
      obtain ⟨v4, w4, hr4, hg4, hx4⟩ := app_any (w := w3) (base := W0.heap.size) HSA.out HG3.out (⟨rfl, .inl rfl⟩ : SrcR w3 none 0 ([] : List RP)) (by show 0 + 1 + 0 ≤ 1000; omega) 0 81
      rw [show [] ++ [p] ++ [] = [p] from rfl] at hg4
      have HX4 := Lib.hid (hx4 W0 HX3.out HWB7.out)
      obtain ⟨a4, c4, rfl, hR4⟩ := hg4.rps (Nat.zero_lt_one)
      have HR4 := Lib.hid hR4
      clear hx4 hg4 hR4
      go_wp2_with (at_builtin; refine wpList_plain rfl fun _ hK => wp_append_run _ _ _ _ _ _ rfl rfl rfl hr4 (hK _ _ ?_))
      go_ret
      exact ⟨a4, c4, rfl, HR4.out, HX7.out.trans HX4.out⟩
    · rw [if_pos (show Region.wanted _ _ = true by rfl)]
      refine wp_build1 p _ rfl rfl ?_
      obtain ⟨b2, hb2⟩ : ∃ b, W0.drew.heap.size = b := ⟨_, rfl⟩
      have HB1 := Lib.hid (Blk.at p.ca 72 hb2.symm)
      have HY1 := Lib.hid ((Ext.refl W0).drew.alloc (.cells p.ca 72))
      rw [hb2]
      clear hb2
      generalize W0.drew.alloc (.cells p.ca 72) = w1 at *
      refine hK.out _ _ ?_ ?_; rotate_left; clear hK K; intro hHeld; rotate_right
      · exact HY1.out
      (try simp only [Act.put, List.setIfInBounds_toArray, List.set_cons_zero, List.set_cons_succ])
      obtain ⟨v1, w2, hr1, hg1, hx1⟩ := app_any (w := w1) (base := w1.heap.size) (l1 := []) (Nat.le_refl _) (GRow.nil encRP 72 _ _) (HT7.out.ext HY1.out) (by show 0 + 0 ≤ 1000; omega) 0 81
      refine consL (i := 4) (by kernel_rfl) rfl (fun K hK => ?_)
      rw [if_pos (show Region.wanted _ _ = true by rfl)]
      rw [List.nil_append] at hg1
      refine wp_append_run _ _ _ (.slice none 0 0) (.slice none 0 0) v1 rfl rfl rfl hr1 ?_
      have HX2 := Lib.hid (hx1 W0 HY1.out HY1.out.size)
      have HXX := Lib.hid (hx1 w1 (Ext.refl w1) (Nat.le_refl _))
      have HG2 := Lib.hid hg1
      clear hx1 hg1 hr1
      refine hK.out _ _ ?_ ?_; rotate_left; clear hK K; intro hHeld; rotate_right
      · exact HX2.out
      (try simp only [Act.put, List.setIfInBounds_toArray, List.set_cons_zero, List.set_cons_succ])
      have HB2 := Lib.hid (HB1.out.ext HXX.out)
      have HBS7 := Lib.hid HXX.out.size
      have HWB7 := Lib.hid HY1.out.size
      have HXA := Lib.hid HXX.out
      clear HB1 HXX
      obtain ⟨v3, w3, hr3, hg3, hx3⟩ := app_any (w := w2) (base := w1.heap.size) HBS7.out HG2.out (src1 HB2.out) (by show 0 + 1 ≤ 1000; omega) 1 81
      refine consL (i := 7) (by kernel_rfl) rfl (fun K hK => ?_)
      rw [if_pos (show Region.wanted _ _ = true by rfl)]
      refine wp_append_run _ _ _ v1 (.slice (some ⟨b2, 0, none⟩) 1 1) v3 rfl rfl rfl hr3 ?_
      have HX3 := Lib.hid (hx3 W0 HX2.out HWB7.out)
      have HXA3 := Lib.hid (hx3 w1 HXA.out (Nat.le_refl _))
      have HG3 := Lib.hid hg3
      clear hx3 hg3 hr3
      refine hK.out _ _ ?_ ?_; rotate_left; clear hK K; intro hHeld; rotate_right
      · exact HX3.out
      (try simp only [Act.put, List.setIfInBounds_toArray, List.set_cons_zero, List.set_cons_succ])
      refine takeL (i := 8) (v := ?_) rfl (by kernel_rfl) (by kernel_rfl) (by kernel_rfl) (fun _ _ _ h => h) (Or.inl ⟨by rfl, ?_⟩) (by assumption) ?_; rotate_left; (focus (intro wq hSw; (try dsimp only at hSw); go_simp; try with_reducible rfl)); (try simp only [Act.put, List.setIfInBounds_toArray, List.set_cons_zero, List.set_cons_succ])
      refine doneL (by kernel_rfl) ?_
      clear hHeld
      have HSA := Lib.hid HXA3.out.size
      obtain ⟨v4, w4, hr4, hg4, hx4⟩ := app_any (w := w3) (base := w1.heap.size) HSA.out HG3.out (⟨rfl, .inl rfl⟩ : SrcR w3 none 0 ([] : List RP)) (by show 0 + 1 + 0 ≤ 1000; omega) 0 81
      rw [show [] ++ [p] ++ [] = [p] from rfl] at hg4
      have HX4 := Lib.hid (hx4 W0 HX3.out HWB7.out)
      obtain ⟨a4, c4, rfl, hR4⟩ := hg4.rps (Nat.zero_lt_one)
      have HR4 := Lib.hid hR4
      clear hx4 hg4 hR4
      go_wp2_with (at_builtin; refine wpList_plain rfl fun _ hK => wp_append_run _ _ _ _ _ _ rfl rfl rfl hr4 (hK _ _ ?_))
      go_ret
      exact ⟨a4, c4, rfl, HR4.out, HX7.out.trans HX4.out⟩

/-- Put: any list of at most a hundred points. -/
theorem rPut_c (a : Option Addr) (n c : Nat) (l : List RP) (p : RP) (w : World) (h : RPs w a n c l) (hin : ∀ q ∈ l, PIn q 4000000) (hp : PIn p 4000000) (hn : n ≤ 100) :
    Calls Try.prog 65 #[.slice a n c, p.v] w fun e w' => ∃ a' c', e = .returned (.slice a' (insF l p).length c') ∧ RPs w' a' (insF l p).length c' (insF l p) ∧ Ext w w' := by
  obtain ⟨h1, h2, h3, ⟨rfl, rfl, rfl⟩ | ⟨g, rfl, h4, h5, h6⟩⟩ := h
  · obtain rfl : l = [] := List.eq_nil_of_length_eq_zero h1
    exact rPut_nil p w
  · exact rPut_some g n c l p w h5 h6 h1 h4 h2 h3 hin hp hn
end Go.Proofs.Ytagiaiocgjagnaa
