/- meresmanlaw30: own; meresmanref30: Hidden. -/
import Derived.Test.YtkoidookanmknaaV28
namespace Go.Proofs.Ytkoidookanmknaa
set_option linter.unusedSimpArgs false
set_option linter.unusedVariables false
open Go.RowKit

set_option maxRecDepth 100000 in
set_option maxHeartbeats 4000000 in
theorem own_c (n : Int) (ss vs : Sl) (w : World) :
    Calls Try.prog 13 #[.agg #[.int .i64 n, ss.v, vs.v]] w fun e w' => e = .returned (.agg #[.int .i64 n, ss.v, vs.v]) ∧ Ext w w' := by
  obtain ⟨sa, sn, sc⟩ := ss
  obtain ⟨va, vn, vc⟩ := vs
  simp only [Sl.v]
  obtain ⟨B, hB⟩ : ∃ B, w.heap.size = B := ⟨_, rfl⟩
  go_enter Try.func13, Try.ntmps13
  go_upto_region 1 with (fail)
  refine wp_gen (fun W => Ext w W ∧ Blk W B #[.int .i64 n, .slice sa sn sc, .slice va vn vc] 25 ∧ Blk W (B + 1) #[.int .i64 0, .slice none 0 0, .slice none 0 0] 31) ⟨(by repeat (first | exact Ext.refl _ | assumption | refine Ext.setCell ?_ (by first | (simp; done) | (simp; omega) | omega) _ | refine Ext.alloc ?_ _ | refine Ext.drew ?_ | refine Ext.trans ?_ (by assumption))), (Blk.at _ _ hB.symm).alloc _, Blk.at _ _ (by simp [hB])⟩ ?_
  rintro V ⟨E0, B0, B1⟩
  have x0 : V.cell? ⟨B, 0, none⟩ = some (.int .i64 n) := B0.cell 0
  have x1 : V.cell? ⟨B, 1, none⟩ = some (.slice sa sn sc) := B0.cell 1
  have x2 : V.cell? ⟨B, 2, none⟩ = some (.slice va vn vc) := B0.cell 2
  have r0 : V.cell? ⟨B + 1, 0, none⟩ = some (.int .i64 0) := B1.cell 0
  have r1 : V.cell? ⟨B + 1, 1, none⟩ = some (.slice none 0 0) := B1.cell 1
  have r2 : V.cell? ⟨B + 1, 2, none⟩ = some (.slice none 0 0) := B1.cell 2
  have f0 : V.frozen? ⟨B + 1, 0, none⟩ = false := B1.free 0
  have f1 : V.frozen? ⟨B + 1, 1, none⟩ = false := B1.free 1
  have f2 : V.frozen? ⟨B + 1, 2, none⟩ = false := B1.free 2
  have HB := Lib.hid (And.intro E0 B1)
  clear E0 B0 B1
  go_wp2_with fail
  have hbl := ((HB.out.2.set 0 (.int .i64 n)).set 1 (.slice sa sn sc)).set 2 (.slice va vn vc)
  have q0 := hbl.cell 0
  have q1 := hbl.cell 1
  have q2 := hbl.cell 2
  simp at q0 q1 q2
  refine bodyPost_ret (v := .agg #[.int .i64 n, .slice sa sn sc, .slice va vn vc]) (by simp [results, Try.results13, go_sem, q0, q1, q2]) rfl ?_
  exact ⟨rfl, ((HB.out.1.setCell (by simp; omega) _).setCell (by simp; omega) _).setCell (by simp; omega) _⟩
/-- Which sets are hidden. -/
def hidF (k : Int) (i : Nat) : List Bool := (List.range i).map fun j => (aroundF k 1048576 / 2 ^ (j % 20)).tmod 2 == 1
theorem hidF_length (k : Int) (i : Nat) : (hidF k i).length = i := by simp [hidF]
theorem hidF_succ (k : Int) (i : Nat) : hidF k (i + 1) = hidF k i ++ [(aroundF k 1048576 / 2 ^ (i % 20)).tmod 2 == 1] := by simp [hidF, List.range_succ]
set_option maxRecDepth 100000 in
set_option maxHeartbeats 4000000 in
theorem Hidden_c (n k : Int) (ss vs : Sl) (w : World) (hk : Int64 k) (hn : ss.n ≤ 100000) :
    Calls Try.prog 15 #[.agg #[.int .i64 n, ss.v, vs.v], .int .i64 k] w fun e w' => ∃ a c, e = .returned (.slice a ss.n c) ∧ Bls w' a ss.n (hidF k ss.n) ∧ Ext w w' := by
  obtain ⟨i0, hi0, hz0, hz1, hz2⟩ := info_parts boolInfo
  obtain ⟨sa, sn, sc⟩ := ss
  obtain ⟨va, vn, vc⟩ := vs
  simp only [Sl.v] at hn ⊢
  obtain ⟨B, hB⟩ : ∃ B, w.heap.size = B := ⟨_, rfl⟩
  have H := Lib.hid hk
  clear hk
  go_enter Try.func15, Try.ntmps15
  go_upto_region 1 with (fail)
  refine wp_gen (fun W => Ext w W ∧ Blk W B #[.int .i64 n, .slice sa sn sc, .slice va vn vc] 25) ⟨(by repeat (first | exact Ext.refl _ | assumption | refine Ext.setCell ?_ (by first | (simp; done) | (simp; omega) | omega) _ | refine Ext.alloc ?_ _ | refine Ext.drew ?_ | refine Ext.trans ?_ (by assumption))), (Blk.at _ _ hB.symm)⟩ ?_
  rintro V ⟨E0, B0⟩
  have x1 : V.cell? ⟨B, 1, none⟩ = some (.slice sa sn sc) := B0.cell 1
  have HB := Lib.hid (And.intro E0 B0)
  clear B0
  go_wp2_with fail
  refine (around_c _ _ _ (by omega) (by omega) H.out).mono ?_
  rintro e w2 ⟨rfl, rfl⟩
  have hq := aroundF_bd k 1048576 (by omega)
  obtain ⟨kz, hkz⟩ : ∃ kz, aroundF k 1048576 = kz := ⟨_, rfl⟩
  rw [hkz] at hq ⊢
  have HK := Lib.hid hkz
  clear hkz
  obtain ⟨K, rfl⟩ : ∃ K : Nat, kz = (K : Int) := ⟨kz.toNat, by omega⟩
  go_wp2_with fail
  go_loopw [6, 7] (fun sv v ws => ∃ i : Nat, i ≤ sn ∧ v = .int .i64 (i : Int) ∧ ws.ownsRow V.heap.size 4 1 sv i (bvals (hidF k i)) ∧ Ext V ws) (fun _ v _ => sn - (intOf v).toNat)
  case atStart => exact ⟨0, by omega, rfl, ⟨rfl, .inl ⟨rfl, rfl⟩⟩, Ext.refl _⟩
  case round =>
    obtain ⟨i, hi, rfl, hO, hE⟩ := hrel
    have y1 : wr.cell? ⟨B, 1, none⟩ = some (.slice sa sn sc) := hE.cell x1
    have HO := Lib.hid (And.intro hO hE)
    clear hO hE
    by_cases hlt : i < sn
    · have hnews : ∀ x : Bool, ∀ (j : Nat) (u : Value), (bvals [x])[j]? = some u → (wr.alloc (.cells #[.bool x] 4)).cell? ((⟨wr.heap.size, 0, none⟩ : Addr).add j) = some u := fun x =>
        bls_news (n := 1) ⟨rfl, .inr ⟨_, 0, rfl, by simp, fun j hj => by obtain rfl : j = 0 := by omega
                                                                         exact (Blk.at (w := wr) #[.bool x] 4 rfl).cell 0⟩⟩ (by omega)
      have HN := Lib.hid hnews
      have hbs := HO.out.2.size
      have hbl := HB.out.2.lt
      clear hnews
      go_wp2_with (at_builtin; go_loud (refine wpList_append_lies _ rfl _ _ _ rfl V.heap.size 4 i0 _ 1 1 Try.underlying34 hi0 hz0 hz1 hz2 rfl (by omega) _ i (bvals (hidF k i)) rfl (gowns_ext ((Ext.refl wr).alloc _) HO.out.1) ⟨wr.heap.size, 0, none⟩ 1 1 (bvals [((K : Int) / 2 ^ (i % 20)).tmod 2 == 1]) rfl rfl (HN.out _) (bvals_one _) (by omega) (by rw [maxLen]; omega) (by omega) (by simp <;> omega) _ rfl ?_))
      intro g2 cap w1 hown hgrow hat hlt1
      have HR := Lib.hid (show w1.ownsRow V.heap.size 4 1 (.slice (some ⟨g2, 0, none⟩) (i + 1) cap) (i + 1) (bvals (hidF k (i + 1))) ∧ Ext V w1 from
        ⟨by rw [hidF_succ, HK.out]; unfold bvals at *; rw [List.map_append]; exact hown, gext_grown (HO.out.2.alloc _) hgrow (fun g hg => (gowns_lt HO.out.1 hg).1)⟩)
      clear hown hgrow hat
      go_wp2_with fail
      go_roundw
      case rel => exact ⟨i + 1, by omega, by go_num, HR.out.1, HR.out.2⟩
      case measure => simp [intOf]; omega
    · obtain rfl : i = sn := by omega
      rcases Nat.eq_zero_or_pos i with h0 | h0
      · subst h0
        obtain ⟨_, ⟨hv, _⟩ | ⟨g', cap', cur, hv, _⟩⟩ := HO.out.1
        · subst hv
          go_wp2_with fail
          go_ret
          first | exact ⟨_, ⟨_, rfl⟩, ⟨rfl, .inl rfl⟩, HB.out.1.trans HO.out.2⟩ | exact ⟨_, _, rfl, ⟨rfl, .inl rfl⟩, HB.out.1.trans HO.out.2⟩
        · subst hv
          go_wp2_with fail
          go_ret
          first | exact ⟨_, ⟨_, rfl⟩, ⟨rfl, .inl rfl⟩, HB.out.1.trans HO.out.2⟩ | exact ⟨_, _, rfl, ⟨rfl, .inl rfl⟩, HB.out.1.trans HO.out.2⟩
      · obtain ⟨g, cap, rfl, hgb, hgl⟩ := World.ownsRow.form HO.out.1 (by omega)
        obtain ⟨hB', _⟩ := owns_bls HO.out.1 (hidF_length k i) h0
        have HB' := Lib.hid hB'
        clear hB'
        go_wp2_with fail
        go_ret
        first | exact ⟨_, _, rfl, HB'.out, HB.out.1.trans HO.out.2⟩ | exact ⟨_, ⟨_, rfl⟩, HB'.out, HB.out.1.trans HO.out.2⟩
end Go.Proofs.Ytkoidookanmknaa
