/- meresmanlaw30: ShieldMore, the walk. -/
import Derived.Test.YtkoidookanmknaaV29
namespace Go.Proofs.Ytkoidookanmknaa
set_option linter.unusedSimpArgs false
set_option linter.unusedVariables false
open Go.RowKit

theorem det_mono {Ls : List (List Int)} {hs hs' : List Bool} {k : Nat} (h : ∀ i, hs'.getD i false = false → hs.getD i false = false) (hd : dB Ls hs' k = true) : dB Ls hs k = true := by
  rw [dB_iff] at hd ⊢
  exact Sp.mono (fun u ⟨i, h1, h2, h3⟩ => ⟨i, h1, h i h2, h3⟩) hd
theorem det_pub {Ls : List (List Int)} {hs : List Bool} {k : Nat} (hk : k < Ls.length) (h : hs.getD k false = false) : dB Ls hs k = true := by
  rw [dB_iff]
  exact Sp.mem ⟨k, hk, h, rfl⟩
theorem det_all {Ls : List (List Int)} {hs : List Bool} {k : Nat} (hall : ∀ i, i < Ls.length → hs.getD i false = true) (hne : ∃ c : Nat, (c : Int) ∈ Ls.getD k []) : dB Ls hs k = false := by
  cases hd : dB Ls hs k with
  | false => rfl
  | true =>
    exfalso
    rw [dB_iff] at hd
    obtain ⟨c, hc⟩ := hne
    have h0 := Sp.lin (fun v => v c) (by rfl) (fun v u a => by unfold vadd; rfl) (fun u ⟨i, h1, h2, _⟩ => by rw [hall i h1] at h2; cases h2) hd
    simp only [rowV, if_pos hc] at h0
    exact absurd h0 (by decide +kernel)
theorem set_le {hs : List Bool} {k : Nat} (i : Nat) (h : (hs.set k true).getD i false = false) : hs.getD i false = false := by
  by_cases hk : k = i
  · subst hk
    rcases Nat.lt_or_ge k hs.length with h1 | h1
    · simp [List.getD_eq_getElem?_getD, h1] at h
    · simp [List.getD_eq_getElem?_getD, h1]
  · simpa [List.getD_eq_getElem?_getD, List.getElem?_set_ne hk] using h
theorem hid_all (n i : Nat) (hi : i < n) (hn : n ≤ 20) : (hidF 1048575 n).getD i false = true := by
  have e : (hidF 1048575 n).getD i false = ((aroundF 1048575 1048576 / 2 ^ (i % 20)).tmod 2 == 1) := by simp [hidF, hi]
  rw [e, show aroundF 1048575 1048576 = 1048575 from rfl]
  have h20 : i < 20 := by omega
  clear e hi
  have : ∀ j : Fin 20, ((1048575 : Int) / 2 ^ (j.val % 20)).tmod 2 == 1 := by decide
  exact this ⟨i, h20⟩
/-- A valid sheet has a cell in each of its sets. -/
theorem valid_ne {n : Int} {Ls : List (List Int)} {zs : List Int} {k : Nat} (h : validE n Ls zs = 0) (hk : k < Ls.length) : ∃ c : Nat, (c : Int) ∈ Ls.getD k [] := by
  obtain ⟨_, _, _, _, h5⟩ := validE_of h
  obtain ⟨h6, h7⟩ := item_cells (h5 k hk)
  have hp : 0 < (Ls.getD k []).length := List.length_pos_iff.2 h6
  have h8 := (h7 0 hp).1
  refine ⟨((Ls.getD k []).getD 0 0).toNat, ?_⟩
  rw [Int.toNat_of_nonneg (by omega), getD_get hp]
  exact List.getElem_mem _
theorem check_ok {n : Int} {Ls : List (List Int)} {zs : List Int} {m i : Nat} (h : validE n Ls zs = 0) (hm : m = Ls.length) (hi : i < Ls.length) : checkE n Ls zs m (i : Int) = 0 := by
  unfold checkE
  rw [if_neg (by omega), if_neg (by omega), if_neg (by omega)]
theorem det_ok (n : Int) (ss vs : Sl) (gs : List Sl) (Ls : List (List Int)) (zs : List Int) (ha : Option Addr) (m hc : Nat) (hs : List Bool) (i : Nat) (w : World) (h : ShIn w n ss vs gs Ls zs) (hH : Bls w ha m hs) (hv : validE n Ls zs = 0) (hm : m = Ls.length) (hf : FewOK Ls) (hi : i < Ls.length) :
    Calls Try.prog 17 #[.agg #[.int .i64 n, ss.v, vs.v], .slice ha m hc, .int .i64 (i : Int)] w fun e w' => e = .returned (.tuple #[.bool (dB Ls hs i), .int .i64 0]) ∧ Ext w w' := by
  have hl := (validE_of hv).2.1
  refine (Determined_c n ss vs gs Ls zs ha m hc hs i w h hH (by omega) (fun _ => hf)).mono ?_
  rw [check_ok hv hm hi, if_pos rfl, Int.toNat_natCast]
  exact fun e w' h => h
/-- The sheet, its box and three lists. -/
structure MoI (w : World) (N X : Nat) (ss vs : Sl) (gs : List Sl) (Ls : List (List Int)) (zs : List Int) (a1 a2 a3 : Option Addr) (l1 l2 l3 : List Bool) (W : World) : Prop where
  ext : Ext w W
  sh : ShIn W N ss vs gs Ls zs
  box : Blk W X #[.int .i64 (N : Int), ss.v, vs.v] 25
  b1 : Bls W a1 ss.n l1
  b2 : Bls W a2 ss.n l2
  b3 : Bls W a3 ss.n l3
theorem MoI.keep {w : World} {N X : Nat} {ss vs : Sl} {gs : List Sl} {Ls : List (List Int)} {zs : List Int} {a1 a2 a3 : Option Addr} {l1 l2 l3 : List Bool} {W W' : World} (h : MoI w N X ss vs gs Ls zs a1 a2 a3 l1 l2 l3 W) (k : Ext W W') : MoI w N X ss vs gs Ls zs a1 a2 a3 l1 l2 l3 W' :=
  ⟨h.ext.trans k, h.sh.ext k, h.box.ext k, h.b1.ext k, h.b2.ext k, h.b3.ext k⟩
set_option maxRecDepth 100000 in
set_option maxHeartbeats 4000000 in
theorem walkMore (a0 : Option Addr) (n c : Nat) (xs : List Int) (a1 a2 : Int) (w : World) (h0 : Ints w a0 n xs) (h1 : Int64 a1) (h2 : Int64 a2) :
    Calls Try.prog 5 #[.slice a0 n c, .int .i64 a1, .int .i64 a2] w fun e w' => e = .returned (.bool true) ∧ Ext w w' := by
  obtain ⟨i0, hi0, hz0, hz1, hz2⟩ := info_parts boolInfo
  have H0 := Lib.hid h0; have H1 := Lib.hid h1; have H2 := Lib.hid h2
  clear h0 h1 h2
  go_enter Try.func5, Try.ntmps5
  go_wp2_with fail
  refine (Some_c a0 n c xs _ H0.out).mono ?_
  rintro e w1 ⟨hE1, N, ss, vs, gs, Ls, zs, rfl, hSh, hV, hN1, hN6, hL1, hL9⟩
  obtain ⟨sa, sn, sc⟩ := ss
  obtain ⟨va, vn, vc⟩ := vs
  simp only [Sl.v]
  obtain ⟨X, hX⟩ : ∃ X, w1.heap.size = X := ⟨_, rfl⟩
  have hsn : sn = Ls.length := hSh.grps.2.1.symm
  have hfew : FewOK Ls := .inl (by omega)
  have HV := Lib.hid (And.intro hV (And.intro hsn hfew))
  have HS := Lib.hid (And.intro hE1 hSh)
  have hs1 : 1 ≤ sn := by omega
  have hs9 : sn ≤ 9 := by omega
  clear hE1 hSh hV hsn hfew hL1 hL9
  go_upto_region 2 with (fail)
  refine wp_gen (fun W => (Ext w W ∧ ShIn W N ⟨sa, sn, sc⟩ ⟨va, vn, vc⟩ gs Ls zs ∧ Blk W X #[.int .i64 (N : Int), .slice sa sn sc, .slice va vn vc] 25)) ⟨HS.out.1.alloc _, HS.out.2.ext ((Ext.refl w1).alloc _), Blk.at _ _ hX.symm⟩ ?_
  clear hX HS
  intro W0 hS
  have x0 : W0.cell? ⟨X, 0, none⟩ = some (.int .i64 (N : Int)) := hS.2.2.cell 0
  have x1 : W0.cell? ⟨X, 1, none⟩ = some (.slice sa sn sc) := hS.2.2.cell 1
  have x2 : W0.cell? ⟨X, 2, none⟩ = some (.slice va vn vc) := hS.2.2.cell 2
  have HS := Lib.hid hS
  clear hS
  go_wp2_with fail
  refine (Hidden_c N a1 ⟨sa, sn, sc⟩ ⟨va, vn, vc⟩ _ H1.out (by simp only; omega)).mono ?_
  rintro e w2 ⟨ha, hc, rfl, hB, hx⟩
  obtain ⟨hb, ho, rfl, g1, g2⟩ := hB.at 0 (by simp only; omega)
  clear g1 g2
  simp only at hB
  have HH := Lib.hid (And.intro hB hx)
  clear hB hx
  have hl := HH.out.1.1
  obtain ⟨h, hh⟩ : ∃ h, hidF a1 sn = h := ⟨_, rfl⟩
  rw [hh] at HH hl
  clear hh
  have HL := Lib.hid hl
  clear hl
  clear x0 x1 x2
  go_upto_region 3 with (fail)
  go_wp2_with (refine wpList_append_lies _ rfl _ _ _ rfl w2.heap.size 4 i0 _ 1 1 Try.underlying34 hi0 hz0 hz1 hz2 rfl (by omega) _ 0 [] rfl (⟨rfl, .inr ⟨w2.heap.size, 0, #[], rfl, Nat.le_refl _, Blk.at _ _ rfl, Nat.le_refl _, by rw [maxLen]; omega, rfl, rfl⟩⟩) ⟨hb, ho, none⟩ sn hc (bvals h) rfl (by simp [bvals, HL.out]) (bls_news (HH.out.1.ext ((Ext.refl w2).alloc _)) (by omega)) (bvals_one _) (by omega) (by rw [maxLen]; omega) (by omega) (by simp) _ rfl ?_)
  intro g cap w3 hown hgrow hat hlt
  have hE := ext_grown ((Ext.refl w2).alloc _) hgrow (fun g hg => by simp [Value.ownBlock] at hg; omega)
  obtain ⟨hM, hg, hfr⟩ := owns_bls (by simpa using hown) HL.out (by omega)
  have HM := Lib.hid (And.intro hM (And.intro hg (HH.out.2.trans hE)))
  have HE3 := Lib.hid hE
  clear hown hgrow hat hlt hE hM hg
  go_wp2_with fail
  refine (around_c _ _ _ (by omega) (by omega) H2.out).mono ?_
  rintro e w4 ⟨rfl, rfl⟩
  have hk := aroundF_bd a2 sn (by omega)
  obtain ⟨kz, hkz⟩ : ∃ kz, aroundF a2 sn = kz := ⟨_, rfl⟩
  rw [hkz] at hk ⊢
  clear hkz
  obtain ⟨K, rfl⟩ : ∃ K : Nat, kz = (K : Int) := ⟨kz.toNat, by omega⟩
  obtain ⟨b', o', e, hb', hc'⟩ := HM.out.1.at K (by omega)
  injection e with e; injection e with e1 e2
  subst e1; subst e2
  rw [Nat.zero_add] at hc'
  go_upto_region 5 with (fail)
  have hgs := HM.out.2.1
  have hg0 := HH.out.2.size
  refine wp_gen (fun W => (Ext w W ∧ ShIn W N ⟨sa, sn, sc⟩ ⟨va, vn, vc⟩ gs Ls zs ∧ Blk W X #[.int .i64 (N : Int), .slice sa sn sc, .slice va vn vc] 25) ∧ Bls W (some ⟨hb, ho, none⟩) sn h ∧ Bls W (some ⟨g, 0, none⟩) sn (h.set K true))
    ⟨⟨(HS.out.1.trans HM.out.2.2).setCell (by have := HS.out.1.size; simp only; omega) _, HS.out.2.1.ext (HM.out.2.2.setCell (by simp only; omega) _), HS.out.2.2.ext (HM.out.2.2.setCell (by simp only; omega) _)⟩, HH.out.1.ext (HE3.out.setCell (by simp only; omega) _), HM.out.1.set (by omega)⟩ ?_
  clear hgs hg0 HM HE3 HH hc' hb' hfr HS
  intro W5 hS
  have x0 : W5.cell? ⟨X, 0, none⟩ = some (.int .i64 (N : Int)) := hS.1.2.2.cell 0
  have x1 : W5.cell? ⟨X, 1, none⟩ = some (.slice sa sn sc) := hS.1.2.2.cell 1
  have x2 : W5.cell? ⟨X, 2, none⟩ = some (.slice va vn vc) := hS.1.2.2.cell 2
  have HS := Lib.hid hS
  clear hS
  go_wp2_with fail
  refine (Hidden_c N 1048575 ⟨sa, sn, sc⟩ ⟨va, vn, vc⟩ _ ⟨by omega, by omega⟩ (by simp only; omega)).mono ?_
  rintro e w6 ⟨aa, ac, rfl, hA, hx⟩
  simp only at hA
  have hall : ∀ i, i < sn → (hidF 1048575 sn).getD i false = true := fun i hi => hid_all sn i hi (by omega)
  obtain ⟨al, hal⟩ : ∃ al, hidF 1048575 sn = al := ⟨_, rfl⟩
  rw [hal] at hA hall
  clear hal
  have HS6 := Lib.hid (show MoI w N X ⟨sa, sn, sc⟩ ⟨va, vn, vc⟩ gs Ls zs (some ⟨hb, ho, none⟩) (some ⟨g, 0, none⟩) aa h (h.set K true) al w6 from
    ⟨HS.out.1.1.trans hx, HS.out.1.2.1.ext hx, HS.out.1.2.2.ext hx, HS.out.2.1.ext hx, HS.out.2.2.ext hx, hA⟩)
  have HA := Lib.hid hall
  clear hA hx hall x0 x1 x2 HS
  go_wp2_with fail
  go_loopw [11] (fun v ws => ∃ i : Nat, i ≤ sn ∧ v = .int .i64 (i : Int) ∧ Ext w6 ws) (fun v _ => sn - (intOf v).toNat)
  case atStart => exact ⟨0, by omega, rfl, Ext.refl _⟩
  case round =>
    obtain ⟨i, hi, rfl, hE⟩ := hrel
    have HE := Lib.hid hE
    have HS := Lib.hid (HS6.out.keep hE)
    (have x0 : wr.cell? ⟨X, 0, none⟩ = some (.int .i64 (N : Int)) := HS.out.box.cell 0; have x1 : wr.cell? ⟨X, 1, none⟩ = some (.slice sa sn sc) := HS.out.box.cell 1; have x2 : wr.cell? ⟨X, 2, none⟩ = some (.slice va vn vc) := HS.out.box.cell 2)
    clear hE
    by_cases hlt : i < sn
    · go_wp2_with fail
      (refine (own_c N ⟨sa, sn, sc⟩ ⟨va, vn, vc⟩ _).mono ?_; rintro e v1 ⟨rfl, hx⟩; have HS1 := Lib.hid (HS.out.keep hx); have HE1 := Lib.hid (HE.out.trans hx); clear hx x0 x1 x2)
      go_wp2_with fail
      (refine (det_ok N ⟨sa, sn, sc⟩ ⟨va, vn, vc⟩ gs Ls zs (some ⟨hb, ho, none⟩) sn hc h i _ HS1.out.sh HS1.out.b1 HV.out.1 HV.out.2.1 HV.out.2.2 (by rw [← HV.out.2.1]; exact hlt)).mono ?_; rintro e v2 ⟨rfl, hx⟩; have HS2 := Lib.hid (HS1.out.keep hx); have HE2 := Lib.hid (HE1.out.trans hx); clear hx)
      (have x0 : v2.cell? ⟨X, 0, none⟩ = some (.int .i64 (N : Int)) := HS2.out.box.cell 0; have x1 : v2.cell? ⟨X, 1, none⟩ = some (.slice sa sn sc) := HS2.out.box.cell 1; have x2 : v2.cell? ⟨X, 2, none⟩ = some (.slice va vn vc) := HS2.out.box.cell 2)
      go_upto_region 10 with (fail)
      go_wp2_with fail
      (refine (own_c N ⟨sa, sn, sc⟩ ⟨va, vn, vc⟩ _).mono ?_; rintro e v3 ⟨rfl, hx⟩; have HS3 := Lib.hid (HS2.out.keep hx); have HE3 := Lib.hid (HE2.out.trans hx); clear hx x0 x1 x2)
      go_wp2_with fail
      (refine (det_ok N ⟨sa, sn, sc⟩ ⟨va, vn, vc⟩ gs Ls zs (some ⟨g, 0, none⟩) sn cap (h.set K true) i _ HS3.out.sh HS3.out.b2 HV.out.1 HV.out.2.1 HV.out.2.2 (by rw [← HV.out.2.1]; exact hlt)).mono ?_; rintro e v4 ⟨rfl, hx⟩; have HS4 := Lib.hid (HS3.out.keep hx); have HE4 := Lib.hid (HE3.out.trans hx); clear hx)
      (have x0 : v4.cell? ⟨X, 0, none⟩ = some (.int .i64 (N : Int)) := HS4.out.box.cell 0; have x1 : v4.cell? ⟨X, 1, none⟩ = some (.slice sa sn sc) := HS4.out.box.cell 1; have x2 : v4.cell? ⟨X, 2, none⟩ = some (.slice va vn vc) := HS4.out.box.cell 2)
      go_upto_region 11 with (fail)
      go_wp2_with fail
      (refine (own_c N ⟨sa, sn, sc⟩ ⟨va, vn, vc⟩ _).mono ?_; rintro e v5 ⟨rfl, hx⟩; have HS5 := Lib.hid (HS4.out.keep hx); have HE5 := Lib.hid (HE4.out.trans hx); clear hx x0 x1 x2)
      go_wp2_with fail
      (refine (det_ok N ⟨sa, sn, sc⟩ ⟨va, vn, vc⟩ gs Ls zs aa sn ac al i _ HS5.out.sh HS5.out.b3 HV.out.1 HV.out.2.1 HV.out.2.2 (by rw [← HV.out.2.1]; exact hlt)).mono ?_; rintro e v6 ⟨rfl, hx⟩; have HS7 := Lib.hid (HS5.out.keep hx); have HE7 := Lib.hid (HE5.out.trans hx); clear hx)
      obtain ⟨a, hea⟩ : ∃ a, dB Ls h i = a := ⟨_, rfl⟩
      obtain ⟨b, heb⟩ : ∃ b, dB Ls (h.set K true) i = b := ⟨_, rfl⟩
      have hec : dB Ls al i = false := det_all (fun j hj => HA.out j (by rw [HV.out.2.1]; exact hj)) (valid_ne HV.out.1 (by rw [← HV.out.2.1]; exact hlt))
      have hab : a = false → b = false := fun ha => by
        cases hb : b with
        | false => rfl
        | true => rw [hb] at heb; rw [det_mono (fun j hj => set_le j hj) heb] at hea; rw [← hea] at ha; cases ha
      obtain ⟨y, hey⟩ : ∃ y, h.getD i false = y := ⟨_, rfl⟩
      have hay : a = false → y = true := fun ha => by
        cases hy : y with
        | true => rfl
        | false => rw [hy] at hey; rw [det_pub (by rw [← HV.out.2.1]; exact hlt) hey] at hea; rw [← hea] at ha; cases ha
      rw [hea, heb, hec]
      obtain ⟨_, _, e, _, hcell⟩ := HS7.out.b1.at i hlt
      injection e with e; injection e with e1 e2
      subst e1; subst e2
      rw [hey] at hcell
      clear hea heb hec hey
      have i0' : (0 : Int) ≤ (i : Int) := by omega
      have i1 : (i : Int) < (sn : Int) := by omega
      have HK := Lib.hid HE7.out
      cases a with
      | false =>
        obtain rfl := hab rfl
        obtain rfl := hay rfl
        clear hab hay
        (go_wp2_with fail; go_roundw; (case rel => exact ⟨i + 1, by omega, by go_num, HK.out⟩); (case measure => simp [intOf]; omega))
      | true =>
        clear hab hay
        cases b <;> cases y <;> (go_wp2_with fail; go_roundw; (case rel => exact ⟨i + 1, by omega, by go_num, HK.out⟩); (case measure => simp [intOf]; omega))
    · obtain rfl : i = sn := by omega
      go_wp2_with fail
      refine (lives_c _).mono ?_
      rintro e w9 ⟨rfl, hx9⟩
      have E9 := HS.out.ext.trans hx9
      clear hx9
      go_wp2_with fail
      go_ret
      exact ⟨rfl, E9⟩
end Go.Proofs.Ytkoidookanmknaa
