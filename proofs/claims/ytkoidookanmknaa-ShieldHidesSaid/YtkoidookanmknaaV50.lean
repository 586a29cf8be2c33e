/- meresmanref30: with, first, Hide. -/
import Derived.Test.YtkoidookanmknaaV46
import Derived.Test.YtkoidookanmknaaV22
import Derived.Deep.LoopGhost
namespace Go.Proofs.Ytkoidookanmknaa
set_option linter.unusedSimpArgs false
set_option linter.unusedVariables false
open Go.RowKit

set_option maxRecDepth 100000 in
set_option maxHeartbeats 4000000 in
theorem rwith_c (ha : Option Addr) (m hc k : Nat) (hs : List Bool) (w : World) (h : Bls w ha m hs) (hk : k < m) (hm : m ≤ 1000000) :
    Calls Try.prog 44 #[.slice ha m hc, .int .i64 (k : Int)] w fun e w' => ∃ g cap, e = .returned (.slice (some ⟨g, 0, none⟩) m cap) ∧ Bls w' (some ⟨g, 0, none⟩) m (hs.set k true) ∧ Ext w w' := by
  obtain ⟨i0, hi0, hz0, hz1, hz2⟩ := info_parts boolInfo
  have hl := h.1
  obtain ⟨b, off, rfl, _, _⟩ := h.at k hk
  have H := Lib.hid h
  clear h
  have k0 : (0 : Int) ≤ (k : Int) := by omega
  have k1 : (k : Int) < (m : Int) := by omega
  have hm0 : 0 < m := by omega
  have HL := Lib.hid (show hs.length = m ∧ (bvals hs).length = m * 1 ∧ 0 + m ≤ maxLen ∧ (0 + m) * 1 ≤ 140737488355328 from ⟨hl, by simp [bvals]; exact hl, by rw [maxLen]; omega, by omega⟩)
  clear hl
  go_enter Try.func44, Try.ntmps44
  go_wp2_with (at_builtin; refine wpList_append_lies w rfl _ _ _ rfl w.heap.size 4 i0 _ 1 1 Try.underlying34 hi0 hz0 hz1 hz2 rfl (Nat.lt_add_one 0) (.slice none 0 0) 0 [] rfl ⟨rfl, .inl ⟨rfl, rfl⟩⟩ ⟨b, off, none⟩ m hc (bvals hs) rfl HL.out.2.1 (bls_news H.out hm0) (bvals_one _) hm0 HL.out.2.2.1 HL.out.2.2.2 (Nat.le_refl _) _ rfl ?_)
  intro g cap w2 hown hgrow hat hlt
  have hx : Ext w w2 := ext_grown (Ext.refl w) hgrow (fun g hg => by simp [Value.ownBlock] at hg)
  obtain ⟨hB, hg, hfr⟩ := owns_bls (l := hs) (by simpa using hown) HL.out.1 (by omega)
  obtain ⟨b', o', e, hb, hc'⟩ := hB.at k hk
  injection e with e; injection e with e1 e2
  subst e1; subst e2
  rw [Nat.zero_add] at hc'
  have HF := Lib.hid (And.intro hB (And.intro hx hg))
  clear hown hgrow hat hB hx hg
  go_wp2_with fail
  go_ret
  exact ⟨g, ⟨cap, rfl⟩, HF.out.1.set hk, HF.out.2.1.setCell HF.out.2.2 _⟩
set_option maxRecDepth 100000 in
set_option maxHeartbeats 4000000 in
theorem rfirst_c (n m : Nat) (ss vs : Sl) (gs : List Sl) (Ls : List (List Int)) (ha : Option Addr) (hc : Nat) (hs : List Bool) (w : World) (hG : SheetOK w n ss gs Ls) (hm : Ls.length = m) (hf : FewOK Ls) (hn : n ≤ 1000) (hm1 : m ≤ 900) (h6 : ∀ k x, x ∈ Ls.getD k [] → x < 6) (hH : Bls w ha m hs) :
    Calls Try.prog 43 #[.agg #[.int .i64 (n : Int), ss.v, vs.v], .slice ha m hc] w fun e w' => e = .returned (.int .i64 (nextF (dB Ls) hs m)) ∧ Ext w w' := by
  have hsn := hG.grps.2.1
  obtain ⟨sa, sn, sc⟩ := ss
  obtain ⟨va, vn, vc⟩ := vs
  simp only at hsn
  obtain rfl : sn = m := by omega
  simp only [Sl.v]
  obtain ⟨B, hB⟩ : ∃ B, w.heap.size = B := ⟨_, rfl⟩
  have HG := Lib.hid (And.intro hG (And.intro hf (And.intro h6 (And.intro hH hm))))
  obtain ⟨nx, hnx⟩ : ∃ nx, nextF (dB Ls) hs sn = nx := ⟨_, rfl⟩
  have HNX := Lib.hid hnx
  rw [hnx]
  clear hG hf h6 hH hsn hm hnx
  go_enter Try.func43, Try.ntmps43
  go_upto_region 1 with (fail)
  refine wp_gen (fun W => Ext w W ∧ Blk W B #[.int .i64 (n : Int), .slice sa sn sc, .slice va vn vc] 25) ⟨(by repeat (first | exact Ext.refl _ | assumption | refine Ext.setCell ?_ (by first | (simp; done) | (simp; omega) | omega) _ | refine Ext.alloc ?_ _ | refine Ext.drew ?_ | refine Ext.trans ?_ (by assumption))), Blk.at _ _ hB.symm⟩ ?_
  rintro V ⟨E0, B0⟩
  have HV := Lib.hid (And.intro E0 B0)
  clear E0 B0
  go_wp2_with fail
  go_loopw [5] (fun iv ws => ∃ i : Nat, i ≤ sn ∧ iv = .int .i64 (i : Int) ∧ (∀ j, j < i → (hs.getD j false && dB Ls hs j) = false) ∧ Ext V ws) (fun iv _ => sn - (intOf iv).toNat)
  case atStart => exact ⟨0, by omega, rfl, fun j hj => absurd hj (by omega), Ext.refl _⟩
  case round =>
    obtain ⟨i, hi, rfl, hq, hE⟩ := hrel
    have HQ := Lib.hid (And.intro hq hE)
    have hb := HV.out.2.ext hE
    have x0 : wr.cell? ⟨B, 0, none⟩ = some (.int .i64 (n : Int)) := hb.cell 0
    have x1 : wr.cell? ⟨B, 1, none⟩ = some (.slice sa sn sc) := hb.cell 1
    have x2 : wr.cell? ⟨B, 2, none⟩ = some (.slice va vn vc) := hb.cell 2
    clear hq hE hb
    by_cases hlt : i < sn
    · have HE := Lib.hid (HV.out.1.trans HQ.out.2)
      go_wp2_with fail
      refine (rdet_c n sn ⟨sa, sn, sc⟩ ⟨va, vn, vc⟩ gs Ls ha hc hs i _ (HG.out.1.ext HE.out) HG.out.2.2.2.2 HG.out.2.1 hn hm1 HG.out.2.2.1 (HG.out.2.2.2.1.ext HE.out) hlt).mono ?_
      rintro e w2 ⟨rfl, hx⟩
      obtain ⟨hb', ho', rfl, _, hcell⟩ := (HG.out.2.2.2.1.ext (HE.out.trans hx)).at i hlt
      have HX := Lib.hid (And.intro (HQ.out.2.trans hx) (HE.out.trans hx))
      obtain ⟨y, hy⟩ : ∃ y, hs.getD i false = y := ⟨_, rfl⟩
      obtain ⟨d, hd⟩ : ∃ d, dB Ls hs i = d := ⟨_, rfl⟩
      rw [hy] at hcell
      rw [hd]
      have HYD := Lib.hid (And.intro hy hd)
      have i0 : (0 : Int) ≤ (i : Int) := by omega
      have i1 : (i : Int) < (sn : Int) := by omega
      clear hx hy hd x0 x1 x2
      cases y with
      | false => (go_wp2_with fail; go_roundw; (case rel => exact ⟨i + 1, by omega, by go_num, fun j hj => if e : j = i then (by rw [e, HYD.out.1, HYD.out.2]; rfl) else HQ.out.1 j (by omega), HX.out.1⟩); (case measure => simp [intOf]; omega))
      | true =>
        cases d with
        | false => (go_wp2_with fail; go_roundw; (case rel => exact ⟨i + 1, by omega, by go_num, fun j hj => if e : j = i then (by rw [e, HYD.out.1, HYD.out.2]; rfl) else HQ.out.1 j (by omega), HX.out.1⟩); (case measure => simp [intOf]; omega))
        | true =>
          have HF := Lib.hid (show nextF (dB Ls) hs sn = (i : Int) from firstF_some _ _ _ i (Nat.zero_le _) (by omega) (by rw [HYD.out.1, HYD.out.2]; rfl) (fun j _ hj => HQ.out.1 j hj))
          go_wp2_with fail
          go_ret
          exact ⟨by rw [← HNX.out, HF.out]; rfl, HX.out.2⟩
    · obtain rfl : i = sn := by omega
      have HF := Lib.hid (show nextF (dB Ls) hs i = -1 from firstF_none _ _ _ (fun j _ hj => HQ.out.1 j (by omega)))
      have HE := Lib.hid (HV.out.1.trans HQ.out.2)
      go_wp2_with fail
      go_ret
      exact ⟨by rw [← HNX.out, HF.out]; rfl, HE.out⟩
theorem hide0_succ (zs : List Int) (lim : Int) (i : Nat) (b : Bool) (hb : (decide (1 ≤ zs.getD i 0) && decide (zs.getD i 0 < lim)) = b) : hide0 zs lim (i + 1) = hide0 zs lim i ++ [b] := by
  subst hb; simp [hide0, List.range_succ]
end Go.Proofs.Ytkoidookanmknaa
