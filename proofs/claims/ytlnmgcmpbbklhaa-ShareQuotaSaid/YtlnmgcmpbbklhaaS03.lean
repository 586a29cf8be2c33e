/- share: Concat. -/
import Derived.Test.YtlnmgcmpbbklhaaS02
namespace Go.Proofs.Ytlnmgcmpbbklhaa
set_option linter.unusedSimpArgs false
set_option linter.unusedVariables false
open Go.RowKit

/-- A slice, as a value. -/
structure Sl where
  a : Option Addr
  n : Nat
  c : Nat
abbrev Sl.v (s : Sl) : Value := .slice s.a s.n s.c
def sl0 : Sl := ⟨none, 0, 0⟩
/-- A slice of slices of ints. -/
def Grps (w : World) (ga : Option Addr) (m : Nat) (gs : List Sl) (Ls : List (List Int)) : Prop :=
  gs.length = m ∧ Ls.length = m ∧ m ≤ 1000000 ∧ (m = 0 ∨ ∃ b off, ga = some ⟨b, off, none⟩ ∧ b < w.heap.size ∧ ∀ i, i < m → w.cell? ⟨b, off + i, none⟩ = some (gs.getD i sl0).v) ∧
    ∀ i, i < m → Ints w (gs.getD i sl0).a (gs.getD i sl0).n (Ls.getD i [])
theorem Grps.ext {w w' : World} {ga : Option Addr} {m : Nat} {gs : List Sl} {Ls : List (List Int)} (k : Ext w w') (h : Grps w ga m gs Ls) : Grps w' ga m gs Ls := by
  obtain ⟨h1, h2, h3, h4, h5⟩ := h
  refine ⟨h1, h2, h3, ?_, fun i hi => (h5 i hi).keep k.ik⟩
  rcases h4 with h4 | ⟨b, off, ha, hb, hc⟩
  · exact .inl h4
  · exact .inr ⟨b, off, ha, Nat.lt_of_lt_of_le hb k.size, fun i hi => k.cell (hc i hi)⟩
theorem Grps.at {w : World} {ga : Option Addr} {m : Nat} {gs : List Sl} {Ls : List (List Int)} (h : Grps w ga m gs Ls) (i : Nat) (hi : i < m) :
    ∃ b off, ga = some ⟨b, off, none⟩ ∧ b < w.heap.size ∧ w.cell? ⟨b, off + i, none⟩ = some (gs.getD i sl0).v := by
  obtain ⟨_, _, _, h0 | ⟨b, off, ha, hb, hc⟩, _⟩ := h
  · omega
  · exact ⟨b, off, ha, hb, hc i hi⟩
def ivals (l : List Int) : List Value := l.map (Value.int .i64)
/-- A slice of ints of the call's own. -/
def VRow (w : World) (base : Nat) (v : Value) (l : List Int) : Prop := w.ownsRow base 3 1 v l.length (ivals l)
theorem owns_lt {w : World} {base : Nat} {e : TypeId} {s : Nat} {v : Value} {n : Nat} {xs : List Value} (h : w.ownsRow base e s v n xs) {g : Nat} (hg : v.ownBlock = some g) : base ≤ g ∧ g < w.heap.size := by
  obtain ⟨_, ⟨hv, _⟩ | ⟨g', cap, cur, hv, hb, hh, _⟩⟩ := h
  · subst hv; simp [Value.ownBlock] at hg
  · subst hv; simp [Value.ownBlock] at hg; subst hg; exact ⟨hb, lt_of_block hh⟩
theorem owns_ext {w w' : World} {base : Nat} {e : TypeId} {s : Nat} {v : Value} {n : Nat} {xs : List Value} (k : Ext w w') (h : w.ownsRow base e s v n xs) : w'.ownsRow base e s v n xs := by
  obtain ⟨h0, ⟨hv, hn⟩ | ⟨g', cap, cur, hv, hb, hh, r⟩⟩ := h
  · exact ⟨h0, .inl ⟨hv, hn⟩⟩
  · exact ⟨h0, .inr ⟨g', cap, cur, hv, hb, by rw [k.below.block g' (lt_of_block hh)]; exact hh, r⟩⟩
theorem ext_grown {a w w' : World} {row : Option Nat} (h : Ext a w) (k : w.grownBy w' row) (hr : ∀ g, row = some g → a.heap.size ≤ g) : Ext a w' := Below.grown h k h.size hr
theorem VRow.nil (w : World) (base : Nat) : VRow w base (.slice none 0 0) [] := ⟨rfl, .inl ⟨rfl, rfl⟩⟩
theorem VRow.base {w : World} {b b' : Nat} {v : Value} {l : List Int} (h : VRow w b v l) (hb : b' ≤ b) : VRow w b' v l := by
  obtain ⟨h0, ⟨hv, hn⟩ | ⟨g', cap, cur, hv, hg, r⟩⟩ := h
  · exact ⟨h0, .inl ⟨hv, hn⟩⟩
  · exact ⟨h0, .inr ⟨g', cap, cur, hv, Nat.le_trans hb hg, r⟩⟩
theorem VRow.ext {w w' : World} {base : Nat} {v : Value} {l : List Int} (k : Ext w w') (h : VRow w base v l) : VRow w' base v l := owns_ext k h
theorem VRow.cells {w : World} {base g n cap : Nat} {l : List Int} (h : VRow w base (.slice (some ⟨g, 0, none⟩) n cap) l) (i : Nat) (hi : i < l.length) : w.cell? ⟨g, i, none⟩ = some (.int .i64 (l.getD i 0)) := by
  obtain ⟨h0, ⟨hv, _⟩ | ⟨g', cap', cur, hv, hb, hh, hle, hc, hsz, htk⟩⟩ := h
  · simp at hv
  · simp at hv
    obtain ⟨rfl, rfl, rfl⟩ := hv
    have p1 : (ivals l)[i]? = some (.int .i64 (l.getD i 0)) := by simp [ivals, hi]
    rw [← htk, List.getElem?_take_of_lt (by omega)] at p1
    simp [World.cell?, hh]; simpa using p1
/-- What it is, as a slice of ints. -/
theorem VRow.ints {w : World} {base : Nat} {v : Value} {l : List Int} (h : VRow w base v l) (hl : l.length ≤ 1000000) (h64 : ∀ i, i < l.length → Int64 (l.getD i 0)) :
    ∃ a c, v = .slice a l.length c ∧ Ints w a l.length l := by
  have h' := h
  obtain ⟨h0, ⟨hv, hn⟩ | ⟨g', cap', cur, hv, hb, hh, _⟩⟩ := h
  · exact ⟨none, 0, by rw [hv, hn], rfl, by omega, h64, .inl hn⟩
  · subst hv
    exact ⟨_, _, rfl, rfl, by omega, h64, .inr ⟨g', 0, rfl, lt_of_block hh, fun i hi => by rw [Nat.zero_add]; exact h'.cells i hi⟩⟩
theorem VRow.app {w1 : World} {base g cap m : Nat} {l k : List Int} (hm : k.length = m) (h : w1.ownsRow base 3 1 (.slice (some ⟨g, 0, none⟩) (l.length + m) cap) (l.length + m) (ivals l ++ ivals k)) :
    VRow w1 base (.slice (some ⟨g, 0, none⟩) (l.length + m) cap) (l ++ k) := by
  unfold VRow; rw [List.length_append, hm]; unfold ivals at *; rw [List.map_append]; exact h
theorem run_append_none {w : World} {base : Nat} {v : Value} {l : List Int} (h : VRow w base v l) (ty : TypeId) (a : Option Addr) (c : Nat) :
    (Builtin.append_ #[22, 22] ty #[v, .slice a 0 c]).run Try.prog w = .ok v w := by
  obtain ⟨i0, hi, hz0, hz1, hz2⟩ := info_parts intInfo
  have hu := Try.underlying22
  obtain ⟨h0, ⟨hv, hn⟩ | ⟨g', cap', cur, hv, hb, hh, hle, _⟩⟩ := h
  · subst hv
    cases a <;> simp [Builtin.append_, run_underlying hu, sizeOf, typeInfo, hi, Builtin.lenOf, Builtin.firstCells, loadCells, loadCellsFrom]
  · subst hv
    cases a <;> simp [Builtin.append_, run_underlying hu, sizeOf, typeInfo, hi, Builtin.lenOf, Builtin.firstCells, loadCells, loadCellsFrom, hle, storeCells]
theorem ints_news {w : World} {b off n : Nat} {l : List Int} (h : Ints w (some ⟨b, off, none⟩) n l) (h0 : 0 < n) : ∀ (j : Nat) (u : Value), (ivals l)[j]? = some u → w.cell? ((⟨b, off, none⟩ : Addr).add j) = some u := fun j u hu => by
  have hadd : (⟨b, off, none⟩ : Addr).add j = ⟨b, off + j, none⟩ := by unfold Addr.add; split <;> simp_all
  rw [hadd]
  have hj : j < l.length := by
    rcases Nat.lt_or_ge j (ivals l).length with h | h
    · simpa [ivals] using h
    · rw [List.getElem?_eq_none h] at hu; cases hu
  obtain ⟨b', off', he, _, hc⟩ := h.at j (by rw [← h.1]; exact hj)
  injection he with he; injection he with e1 e2
  subst e1; subst e2
  rw [hc, ← hu]; simp [ivals, hj]
theorem ivals_one (l : List Int) : ∀ u ∈ ivals l, u.oneCell' = true := by
  intro u hu
  simp [ivals] at hu
  obtain ⟨p, _, rfl⟩ := hu; rfl
def lens (Ls : List (List Int)) : Int := sumI (Ls.map fun l => (l.length : Int))
theorem lens_next (Ls : List (List Int)) (i : Nat) (hi : i < Ls.length) : lens (Ls.take (i + 1)) = lens (Ls.take i) + ((Ls.getD i []).length : Int) := by
  unfold lens
  rw [List.take_succ_eq_append_getElem hi, List.map_append, sumI_append]; simp [sumI, hi]
theorem flat_next (Ls : List (List Int)) (i : Nat) (hi : i < Ls.length) : (Ls.take (i + 1)).flatten = (Ls.take i).flatten ++ Ls.getD i [] := by
  rw [List.take_succ_eq_append_getElem hi, List.flatten_append]; simp [hi]
theorem flat_length (Ls : List (List Int)) : (Ls.flatten.length : Int) = lens Ls := by
  unfold lens
  induction Ls with
  | nil => rfl
  | cons l Ls ih => simp only [List.flatten_cons, List.length_append, List.map_cons, sumI]; omega
theorem lens_take (Ls : List (List Int)) (i : Nat) : 0 ≤ lens (Ls.take i) ∧ lens (Ls.take i) ≤ lens Ls := by
  rw [← flat_length, ← flat_length]
  have h : Ls.flatten = (Ls.take i).flatten ++ (Ls.drop i).flatten := by rw [← List.flatten_append, List.take_append_drop]
  rw [h, List.length_append]; omega

set_option maxRecDepth 100000 in
set_option maxHeartbeats 2000000 in
theorem concat_c (ga : Option Addr) (m c : Nat) (gs : List Sl) (Ls : List (List Int)) (w : World) (h : Grps w ga m gs Ls) (hT : lens Ls ≤ 100000) :
    Calls Try.prog 51 #[.slice ga m c] w fun e w' => ∃ v, e = .returned v ∧ VRow w' w.heap.size v Ls.flatten ∧ Ext w w' := by
  obtain ⟨i0, hi0, hz0, hz1, hz2⟩ := info_parts intInfo
  have H := Lib.hid h; have HL := Lib.hid hT; clear h hT
  have hm := H.out.2.2.1
  go_enter Try.func51, Try.ntmps51
  go_wp2_with fail
  go_loopw [3, 11] (fun s v ws => ∃ i : Nat, i ≤ m ∧ v = .int .i64 (i : Int) ∧ s = .int .i64 (lens (Ls.take i)) ∧ Ext w ws) (fun _ v _ => m - (intOf v).toNat)
  case atStart => exact ⟨0, by omega, rfl, by simp [lens, sumI], Ext.refl w⟩
  case round =>
    obtain ⟨i, hi, rfl, rfl, hE⟩ := hrel
    have HE := Lib.hid hE; clear hE
    by_cases hlt : i < m
    · obtain ⟨b, off, rfl, hb, hc⟩ := (H.out.ext HE.out).at i hlt
      have hlen := (H.out.2.2.2.2 i hlt).1
      generalize gs.getD i sl0 = g at *
      have hnx := lens_next Ls i (by rw [H.out.2.1]; exact hlt)
      rw [hlen] at hnx
      have hb0 := lens_take Ls i
      have hb1 := lens_take Ls (i + 1)
      have hl := HL.out
      have e1 : IntKind.i64.wrap (lens (Ls.take i) + (g.n : Int)) = lens (Ls.take (i + 1)) := by rw [hnx]; exact IntWalk.i64_in _ (by omega)
      have k1 : 0 ≤ lens (Ls.take (i + 1)) := hb1.1
      have t0 : (i : Int) < (m : Int) := by omega
      generalize lens (Ls.take i) = s0 at *
      generalize hs1 : lens (Ls.take (i + 1)) = s1 at *
      have HS1 := Lib.hid hs1
      clear hs1 hnx hb0 hb1 hl hlen
      go_wp2_with fail
      go_roundw
      case rel => exact ⟨i + 1, by omega, by go_num, by rw [HS1.out], HE.out⟩
      case measure => simp [intOf]; omega
    · obtain rfl : i = m := by omega
      rw [List.take_of_length_le (by rw [H.out.2.1]; exact Nat.le_refl _)]
      rw [← flat_length]
      have hl := HL.out
      rw [← flat_length] at hl
      generalize hT : Ls.flatten.length = T at *
      have HT := Lib.hid hT; clear hT
      go_wp2_with fail
      refine (grow_c T _ (by omega)).mono ?_
      intro e w2 hG
      obtain ⟨v6, rfl, hV, hx2⟩ : ∃ v6, e = .returned v6 ∧ VRow w2 w.heap.size v6 [] ∧ Ext w w2 := by
        rcases hG with ⟨rfl, rfl, rfl⟩ | ⟨_, cap, _, rfl, ho, hx⟩
        · exact ⟨_, rfl, VRow.nil _ _, HE.out⟩
        · exact ⟨_, rfl, VRow.base ho HE.out.size, HE.out.trans hx⟩
      have HV := Lib.hid hV; have HX := Lib.hid hx2; clear hG hV hx2 HE
      go_upto_region 11 with (fail)
      go_loopw [6, 27] (fun v6 v ws => ∃ k : Nat, k ≤ i ∧ v = .int .i64 (k : Int) ∧ VRow ws w.heap.size v6 (Ls.take k).flatten ∧ Ext w ws) (fun _ v _ => i - (intOf v).toNat)
      case atStart => exact ⟨0, by omega, rfl, HV.out, HX.out⟩
      case round =>
        obtain ⟨k, hk, rfl, hV, hE⟩ := hrel
        have HV := Lib.hid hV; have HE := Lib.hid hE
        by_cases hlt2 : k < i
        · obtain ⟨b, off, rfl, hb, hc⟩ := (H.out.ext hE).at k hlt2
          have hin := (H.out.2.2.2.2 k hlt2).keep hE.ik
          generalize gs.getD k sl0 = g at *
          have hfl := flat_next Ls k (by rw [H.out.2.1]; exact hlt2)
          have hsz := hE.size
          have hll := lens_take Ls (k + 1)
          rw [← flat_length, ← flat_length, hfl, List.length_append, HT.out] at hll
          generalize Ls.getD k [] = l at *
          have hln := hin.1
          obtain ⟨ga, gn, gc⟩ := g
          simp only at hin hln hc
          have t0 : (k : Int) < (i : Int) := by omega
          by_cases h0 : gn = 0
          · subst h0
            have hl0 : l = [] := List.eq_nil_of_length_eq_zero hln
            subst hl0
            have hra := fun ty => run_append_none HV.out ty ga gc
            clear hE hV hin hll
            go_wp2_with (at_builtin; refine Lib.wpList_append_run _ rfl _ _ _ _ rfl _ _ rfl rfl _ _ (hra _) ?_)
            go_roundw
            case rel => exact ⟨k + 1, by omega, by go_num, by rw [hfl]; simpa using HV.out, HE.out⟩
            case measure => simp [intOf]; omega
          · obtain ⟨b2, o2, rfl, hb2, _⟩ := hin.at 0 (by omega)
            have HI := Lib.hid hin
            have HFL := Lib.hid hfl
            clear hE hV hin hfl
            generalize (Ls.take k).flatten = F at *
            go_wp2_with (refine wpList_append_lies _ rfl _ _ _ rfl w.heap.size 3 i0 _ 1 8 Try.underlying22 hi0 hz0 hz1 hz2 rfl (by omega) _ _ _ rfl HV.out ⟨b2, o2, none⟩ gn gc (ivals l) rfl (by simp [ivals, hln]) (ints_news HI.out (by omega)) (ivals_one _) (by omega) (by rw [maxLen]; omega) (by omega) (by omega) _ rfl ?_)
            intro g2 cap w1 hown hgrow hat hlt1
            have HR := Lib.hid (show VRow w1 w.heap.size (.slice (some ⟨g2, 0, none⟩) (F.length + gn) cap) (Ls.take (k + 1)).flatten ∧ Ext w w1 from
              ⟨by rw [HFL.out]; exact VRow.app hln hown, ext_grown HE.out hgrow (fun g hg => (owns_lt HV.out hg).1)⟩)
            clear hown hgrow hat
            go_wp2_with fail
            go_roundw
            case rel => exact ⟨k + 1, by omega, by go_num, HR.out.1, HR.out.2⟩
            case measure => simp [intOf]; omega
        · obtain rfl : k = i := by omega
          rw [List.take_of_length_le (by rw [H.out.2.1]; exact Nat.le_refl _)] at hV
          go_wp2_with fail
          go_ret
          exact ⟨_, rfl, hV, HE.out⟩
end Go.Proofs.Ytlnmgcmpbbklhaa
