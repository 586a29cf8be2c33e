/- shield: with; the closures of Hide. -/
import Derived.Test.YtkoidookanmknaaV18
namespace Go.Proofs.Ytkoidookanmknaa
set_option linter.unusedSimpArgs false
set_option linter.unusedVariables false
open Go.RowKit

theorem boolInfo : (Try.prog.info? 4).map (fun i => (i.zero, i.size, i.bytes)) = some (some (.bool false), 1, 1) := by kernel_rfl
def bvals (l : List Bool) : List Value := l.map Value.bool
theorem bls_news {w : World} {b off n : Nat} {l : List Bool} (h : Bls w (some ⟨b, off, none⟩) n l) (h0 : 0 < n) : ∀ (j : Nat) (u : Value), (bvals l)[j]? = some u → w.cell? ((⟨b, off, none⟩ : Addr).add j) = some u := fun j u hu => by
  rw [addr_add]
  have hj : j < l.length := by
    rcases Nat.lt_or_ge j (bvals l).length with h | h
    · simpa [bvals] using h
    · rw [List.getElem?_eq_none h] at hu; cases hu
  obtain ⟨b', off', he, _, hc⟩ := h.at j (by rw [← h.1]; exact hj)
  injection he with he; injection he with e1 e2
  subst e1; subst e2
  rw [hc, ← hu]; simp [bvals, hj]
theorem bvals_one (l : List Bool) : ∀ u ∈ bvals l, u.oneCell' = true := by
  intro u hu
  obtain ⟨b, _, rfl⟩ := List.mem_map.1 hu
  rfl
/-- A slice of bools of the call's own. -/
theorem owns_bls {w : World} {base g n cap : Nat} {l : List Bool} (h : w.ownsRow base 4 1 (.slice (some ⟨g, 0, none⟩) n cap) n (bvals l)) (hl : l.length = n) (h0 : 0 < n) : Bls w (some ⟨g, 0, none⟩) n l ∧ base ≤ g ∧ ∀ o, w.frozen? ⟨g, o, none⟩ = false := by
  obtain ⟨a, c, e, h1⟩ := owns_sl h rfl
  injection e with e1 e2 e3
  subst e1
  obtain ⟨g', e4, hg, ⟨cs, hcs⟩, hc⟩ := h1.resolve_left (by omega)
  injection e4 with e4
  injection e4 with e4
  subst e4
  refine ⟨⟨hl, .inr ⟨g, 0, rfl, hg, fun i hi => ?_⟩⟩, (gowns_lt h (by rfl)).1, fun o => ?_⟩
  · rw [Nat.zero_add]
    exact hc i _ (by simp [bvals, show i < l.length by omega]) hi
  · simp [World.frozen?, hcs]
theorem Bls.set {w : World} {b n k : Nat} {l : List Bool} {x : Bool} (h : Bls w (some ⟨b, 0, none⟩) n l) (hk : k < n) : Bls (w.setCell ⟨b, k, none⟩ (.bool x)) (some ⟨b, 0, none⟩) n (l.set k x) := by
  have hat := fun i hi => h.at i hi
  obtain ⟨h1, h2⟩ := h
  refine ⟨by rw [List.length_set]; exact h1, .inr ⟨b, 0, rfl, ?_, fun i hi => ?_⟩⟩
  · obtain ⟨b', o', e, hb, _⟩ := hat k hk
    injection e with e; injection e with e1 e2
    subst e1
    simpa using hb
  · obtain ⟨b', o', e, hb, hc⟩ := hat i hi
    injection e with e; injection e with e1 e2
    subst e1; subst e2
    rw [Nat.zero_add] at hc ⊢
    by_cases hki : k = i
    · subst hki
      rw [World.cell?_setCell_same _ _ _ hc]
      simp [show k < l.length by omega]
    · rw [World.cell?_setCell_other _ _ _ _ (by intro e; injection e with _ e2; exact hki e2), hc]
      simp [List.getD_eq_getElem?_getD, List.getElem?_set_ne hki]
set_option maxRecDepth 100000 in
set_option maxHeartbeats 4000000 in
theorem cloneB_c (ha : Option Addr) (m hc : Nat) (hs : List Bool) (w : World) (h : Bls w ha m hs) (h0 : 0 < m) (hm : m ≤ 1000000) :
    Calls Try.prog 68 #[.slice ha m hc] w fun e w' => ∃ g cap, e = .returned (.slice (some ⟨g, 0, none⟩) m cap) ∧ w'.ownsRow w.heap.size 4 1 (.slice (some ⟨g, 0, none⟩) m cap) m (bvals hs) ∧ Ext w w' := by
  obtain ⟨i0, hi0, hz0, hz1, hz2⟩ := info_parts boolInfo
  obtain ⟨b, off, rfl, hb, _⟩ := h.at 0 h0
  have hl := h.1
  have H := Lib.hid h
  clear h
  have HL := Lib.hid hl
  clear hl
  have hnil := fun (W : World) => Lib.run_eql_slice_nil (P := Try.prog) W 34 4 (some ⟨b, off, none⟩) m hc 0 0 Try.underlying34
  go_enter Try.func68, Try.ntmps68
  go_wp2_with (refine wpList_append_lies _ rfl _ _ _ rfl w.heap.size 4 i0 _ 1 1 Try.underlying34 hi0 hz0 hz1 hz2 rfl (by omega) _ 0 [] rfl (⟨rfl, .inr ⟨w.heap.size, 0, #[], rfl, Nat.le_refl _, Blk.at _ _ rfl, Nat.le_refl _, by rw [maxLen]; omega, rfl, rfl⟩⟩) ⟨b, off, none⟩ m hc (bvals hs) rfl (by simp [bvals, HL.out]) (bls_news (H.out.ext ((Ext.refl w).alloc _)) h0) (bvals_one _) h0 (by rw [maxLen]; omega) (by omega) (by simp) _ rfl ?_)
  intro g cap w1 hown hgrow hat hlt
  have hE := ext_grown ((Ext.refl w).alloc _) hgrow (fun g hg => by simp [Value.ownBlock] at hg; omega)
  have HF := Lib.hid (And.intro hown hE)
  clear hown hgrow hat hE
  go_wp2_with fail
  go_ret
  exact ⟨g, cap, rfl, by simpa using HF.out.1, HF.out.2⟩
set_option maxRecDepth 100000 in
set_option maxHeartbeats 4000000 in
theorem with_c (ha : Option Addr) (m hc k : Nat) (hs : List Bool) (w : World) (h : Bls w ha m hs) (hk : k < m) (hm : m ≤ 1000000) :
    Calls Try.prog 41 #[.slice ha m hc, .int .i64 (k : Int)] w fun e w' => ∃ g cap, e = .returned (.slice (some ⟨g, 0, none⟩) m cap) ∧ Bls w' (some ⟨g, 0, none⟩) m (hs.set k true) ∧ Ext w w' := by
  have hl := h.1
  have H := Lib.hid h
  clear h
  have k0 : (0 : Int) ≤ (k : Int) := by omega
  have k1 : (k : Int) < (m : Int) := by omega
  have HL := Lib.hid hl
  clear hl
  go_enter Try.func41, Try.ntmps41
  go_wp2_with fail
  refine (cloneB_c ha m hc hs _ H.out (by omega) hm).mono ?_
  rintro e w2 ⟨g, cap, rfl, hown, hx⟩
  obtain ⟨hB, hg, hfr⟩ := owns_bls hown HL.out (by omega)
  obtain ⟨b', o', e, hb, hc'⟩ := hB.at k hk
  injection e with e; injection e with e1 e2
  subst e1; subst e2
  rw [Nat.zero_add] at hc'
  have HF := Lib.hid (And.intro hB (And.intro hx hg))
  clear hown hB hx hg
  go_wp2_with fail
  go_ret
  exact ⟨g, cap, rfl, HF.out.1.set hk, HF.out.2.1.setCell HF.out.2.2 _⟩
end Go.Proofs.Ytkoidookanmknaa
