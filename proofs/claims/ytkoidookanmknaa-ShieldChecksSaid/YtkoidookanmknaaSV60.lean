/- shield.Check, where no number is too great. -/
import Derived.Test.YtkoidookanmknaaSV19
import Derived.Test.YtkoidookanmknaaSV27
namespace Go.Proofs.Ytkoidookanmknaa
set_option linter.unusedSimpArgs false
set_option linter.unusedVariables false
open Go.RowKit

/-- The sum of a change over the first cells of a set. -/
def sumV (v : Vec) (L : List Int) : Nat → Rat
 | 0 => 0
 | k + 1 => sumV v L k + v (L.getD k 0).toNat
/-- A slice of fractions, read only. -/
def VecOf (w : World) (a : Option Addr) (m : Nat) (v : Vec) : Prop := ∀ i, i < m → ∃ b off f, a = some ⟨b, off, none⟩ ∧ b < w.heap.size ∧ Quad w b (off + i * 4) f ∧ IsQ w f (v i)
theorem VecOf.ext {w w' : World} {a : Option Addr} {m : Nat} {v : Vec} (h : VecOf w a m v) (k : Ext w w') : VecOf w' a m v := fun i hi => by
 obtain ⟨b, off, f, h1, h2, h3, h4⟩ := h i hi
 exact ⟨b, off, f, h1, Nat.lt_of_lt_of_le h2 k.size, h3.ext k, h4.keep k.ik⟩
/-- The numbers of the published sets. -/
def pubI (hs : List Bool) : Nat → List Int
 | 0 => []
 | i + 1 => if hs.getD i false = false then pubI hs i ++ [(i : Int)] else pubI hs i
theorem pubI_len (hs : List Bool) : ∀ i, (pubI hs i).length ≤ i
 | 0 => Nat.le_refl _
 | i + 1 => by
  have := pubI_len hs i
  unfold pubI
  split
  ·rw [List.length_append, List.length_singleton]; omega
  ·omega
theorem pubI_mem (hs : List Bool) : ∀ i x, x ∈ pubI hs i ↔ ∃ k : Nat, k < i ∧ hs.getD k false = false ∧ x = (k : Int)
 | 0, x => ⟨fun h => absurd h (by simp [pubI]), fun ⟨k, hk, _⟩ => absurd hk (by omega)⟩
 | i + 1, x => by
  have ih := pubI_mem hs i x
  unfold pubI
  constructor
  ·intro h
   split at h
   ·rename_i hp
    rcases List.mem_append.1 h with h | h
    ·obtain ⟨k, h1, h2⟩ := ih.1 h
     exact ⟨k, by omega, h2⟩
    ·rw [List.mem_singleton] at h
     exact ⟨i, by omega, hp, h⟩
   ·obtain ⟨k, h1, h2⟩ := ih.1 h
    exact ⟨k, by omega, h2⟩
  ·rintro ⟨k, h1, h2, h3⟩
   by_cases e : k = i
   ·subst e
    rw [if_pos h2]
    exact List.mem_append.2 (.inr (by rw [List.mem_singleton]; exact h3))
   ·have := ih.2 ⟨k, by omega, h2, h3⟩
    split
    ·exact List.mem_append.2 (.inl this)
    ·exact this
/-- Whether a sum is as it must be. -/
noncomputable def goodI (v : Vec) (Ls : List (List Int)) (hs : List Bool) (i : Nat) : Bool := (decide (sumV v (Ls.getD i []) (Ls.getD i []).length = 0)) == !hs.getD i false
noncomputable def outP (v : Vec) (Ls : List (List Int)) (hs : List Bool) (k : Nat) (l : List Int) (t : Nat) : Int := if hs.getD k false = true ∧ (l.take t).all (fun x => goodI v Ls hs x.toNat) = true then 0 else 14
theorem outP_succ (v : Vec) (Ls : List (List Int)) (hs : List Bool) (k : Nat) (l : List Int) (t : Nat) (ht : t < l.length) : outP v Ls hs k l (t + 1) = if goodI v Ls hs (l.getD t 0).toNat = true then outP v Ls hs k l t else 14 := by
 have e : l.take (t + 1) = l.take t ++ [l.getD t 0] := by
  rw [List.take_add_one, List.getElem?_eq_getElem ht, List.getD_eq_getElem?_getD, List.getElem?_eq_getElem ht]; rfl
 unfold outP
 rw [e, List.all_append]
 simp only [List.all_cons, List.all_nil, Bool.and_true, Bool.and_eq_true]
 by_cases hg : goodI v Ls hs (l.getD t 0).toNat = true
 ·rw [if_pos hg]
  by_cases h2 : hs.getD k false = true ∧ (l.take t).all (fun x => goodI v Ls hs x.toNat) = true
  ·rw [if_pos h2, if_pos ⟨h2.1, h2.2, hg⟩]
  ·rw [if_neg h2, if_neg (fun h => h2 ⟨h.1, h.2.1⟩)]
 ·rw [if_neg hg, if_neg (fun h => hg h.2.2)]
noncomputable def chkE (n : Int) (Ls : List (List Int)) (zs : List Int) (hs : List Bool) (m : Nat) (set : Int) (cm : Nat) (v : Vec) : Int :=
 if checkE n Ls zs m set ≠ 0 then checkE n Ls zs m set else if (cm : Int) ≠ n then 1 else outP v Ls hs set.toNat (pubI hs m ++ [set]) (pubI hs m ++ [set]).length
theorem own_putF {w : World} {b b' n : Nat} (h : Own w b n) (f : FV) : Own (putF w b' f) b n :=
 ⟨own1_set (own1_set (own1_set (own1_set h.1))), own2_set (own2_set (own2_set (own2_set h.2.1))), own3_set (own3_set (own3_set (own3_set h.2.2 (by simp)) (by simp)) (by simp)) (by simp)⟩
set_option maxRecDepth 100000 in
set_option maxHeartbeats 4000000 in
theorem Check_c (n : Int) (ss vs : Sl) (gs : List Sl) (Ls : List (List Int)) (zs : List Int) (ha : Option Addr) (m hc : Nat) (hs : List Bool) (set : Int) (ca : Option Addr) (cm cc : Nat) (v : Vec) (w : World) (h : ShIn w n ss vs gs Ls zs) (hH : Bls w ha m hs) (hm : m ≤ 1000) (hv : VecOf w ca cm v) (hcm : cm ≤ 1000)
  (hB : checkE n Ls zs m set = 0 → (∀ k j, j ≤ (Ls.getD k []).length → SmB BB (sumV v (Ls.getD k []) j)) ∧ ∀ c, SmB BB (v c)) :
  Calls Try.prog 25 #[.agg #[.int .i64 n, ss.v, vs.v], .slice ha m hc, .int .i64 set, .slice ca cm cc] w fun e w' => e = .returned (.int .i64 (chkE n Ls zs hs m set cm v)) ∧ Ext w w' := by
 obtain ⟨i0, hi0, hz0, hz1, hz2⟩ := info_parts intInfo
 have H := Lib.hid (And.intro h (And.intro hH (And.intro hv hB)))
 obtain ⟨q, hq⟩ : ∃ q, checkE n Ls zs m set = q := ⟨_, rfl⟩
 obtain ⟨o, ho⟩ : ∃ o, chkE n Ls zs hs m set cm v = o := ⟨_, rfl⟩
 have HQ := Lib.hid hq
 have HO := Lib.hid (show o = if q ≠ 0 then q else if (cm : Int) ≠ n then 1 else outP v Ls hs set.toNat (pubI hs m ++ [set]) (pubI hs m ++ [set]).length from by rw [← ho]; unfold chkE; rw [hq])
 rw [ho]
 obtain ⟨sa, sn, sc⟩ := ss
 obtain ⟨va, vn, vc⟩ := vs
 obtain ⟨B, hBw⟩ : ∃ B, w.heap.size = B := ⟨_, rfl⟩
 simp only [Sl.v]
 clear h hH hv hB hq ho
 by_cases hq0 : q = 0
 ·by_cases hcn : (cm : Int) = n
  ·have hoe := HO.out
   rw [if_neg (by omega), if_neg (by omega)] at hoe
   subst hq0
   obtain ⟨v1, v2, v3, v4⟩ := checkE_ok HQ.out
   obtain ⟨K, rfl⟩ : ∃ K : Nat, set = (K : Int) := ⟨set.toNat, by omega⟩
   subst hcn
   have hKm : K < m := by omega
   have hsm : sn = m := by have := H.out.1.grps.2.1; simp only at this; omega
   subst hsm
   rw [Int.toNat_natCast] at hoe
   have HOE := Lib.hid hoe
   have HVL := Lib.hid (And.intro v1 v2)
   obtain ⟨hbb, hbo, rfl, _, _⟩ := H.out.2.1.at K hKm
   clear hoe v1 v2 v3 v4 HO
   go_enter Try.func25, Try.ntmps25; go_upto_region 1 with (fail); refine wp_gen (fun W => Ext w W ∧ Blk W B #[.int .i64 (cm : Int), .slice sa sn sc, .slice va vn vc] 31) ⟨(by repeat (first | exact Ext.refl _ | assumption | refine Ext.setCell ?_ (by first | (simp; done) | (simp; omega) | omega) _ | refine Ext.alloc ?_ _ | refine Ext.drew ?_ | refine Ext.trans ?_ (by assumption))), Blk.at _ 31 hBw.symm⟩ ?_; rintro V ⟨E0, B0⟩; have HB := Lib.hid (And.intro E0 B0); have x0 : V.cell? ⟨B, 0, none⟩ = some (.int .i64 (cm : Int)) := B0.cell 0; have x1 : V.cell? ⟨B, 1, none⟩ = some (.slice sa sn sc) := B0.cell 1; have x2 : V.cell? ⟨B, 2, none⟩ = some (.slice va vn vc) := B0.cell 2; clear E0 B0; go_step3; go_wp2_with fail; refine (shcheck_c (cm : Int) ⟨sa, sn, sc⟩ ⟨va, vn, vc⟩ gs Ls zs _ _ hc _ _ (H.out.1.ext HB.out.1) (Nat.le_trans hm (by omega))).mono ?_; rw [HQ.out]; rintro e w2 ⟨rfl, hx2⟩; have HX := Lib.hid (And.intro (HB.out.1.trans hx2) (HB.out.2.ext hx2)); have y0 : w2.cell? ⟨B, 0, none⟩ = some (.int .i64 (cm : Int)) := hx2.cell x0; have y1 : w2.cell? ⟨B, 1, none⟩ = some (.slice sa sn sc) := hx2.cell x1; clear x0 x1 x2 hx2
   obtain ⟨_, _, e, _, hcell⟩ := (H.out.2.1.ext HX.out.1).at K hKm
   injection e with e; injection e with e1 e2
   subst e1; subst e2
   obtain ⟨y, hy⟩ : ∃ y, hs.getD K false = y := ⟨_, rfl⟩
   rw [hy] at hcell
   have HY := Lib.hid hy
   have k0 : (0 : Int) ≤ (K : Int) := by omega
   have k1 : (K : Int) < (sn : Int) := by omega
   clear hy
   go_upto_if 35 with (fail)
   go_cut [10] (fun ov wx => ov = .int .i64 (if y = true then 0 else 14) ∧ Ext w2 wx)
   case first =>
    cases y with
    | true =>
     go_wp2_with fail
     go_meet
     case rel => exact ⟨rfl, Ext.refl _⟩
    | false =>
     go_wp2_with fail
     go_meet
     case rel => exact ⟨rfl, Ext.refl _⟩
   case rest =>
    obtain ⟨rfl, hEc⟩ := hcut
    obtain ⟨o0, ho0⟩ : ∃ o, (if y = true then (0 : Int) else 14) = o := ⟨_, rfl⟩
    rw [ho0]
    have HO0 := Lib.hid (show outP v Ls hs K (pubI hs sn ++ [(K : Int)]) 0 = o0 from by rw [← ho0]; unfold outP; rw [HY.out]; cases y <;> simp)
    have HEc := Lib.hid (And.intro (HX.out.1.trans hEc) (HX.out.2.ext hEc))
    have y1 : wc.cell? ⟨B, 1, none⟩ = some (.slice sa sn sc) := HEc.out.2.cell 1
    clear hEc ho0 hcell y0
    obtain ⟨G, hG⟩ : ∃ G, wc.heap.size = G := ⟨_, rfl⟩
    have hrow0 : VRow (wc.alloc (.cells #[] 3)) G (.slice (some ⟨G, 0, none⟩) 0 0) (pubI hs 0) := ⟨rfl, .inr ⟨G, 0, #[], rfl, Nat.le_refl _, Blk.at _ _ hG.symm, Nat.le_refl _, by rw [maxLen]; omega, rfl, rfl⟩⟩
    have HR0 := Lib.hid hrow0
    clear hrow0
    go_upto_region 10 with (fail)
    refine wp_gen (fun W => Ext wc W ∧ VRow W G (.slice (some ⟨G, 0, none⟩) 0 0) (pubI hs 0)) ⟨(Ext.refl _).alloc _, HR0.out⟩ ?_
    rintro W ⟨hEW, hVW⟩
    have HR0 := Lib.hid (And.intro hVW hEW)
    have y1 : W.cell? ⟨B, 1, none⟩ = some (.slice sa sn sc) := hEW.cell y1
    clear hVW hEW
    go_wp2_with fail
    go_loopw [11, 40] (fun ov iv ws => ∃ i : Nat, i ≤ sn ∧ iv = .int .i64 (i : Int) ∧ VRow ws G ov (pubI hs i) ∧ Ext wc ws) (fun _ iv _ => sn - (intOf iv).toNat)
    case atStart => exact ⟨0, by omega, rfl, HR0.out.1, HR0.out.2⟩
    case round =>
     rename World => ws
     obtain ⟨i, hi, rfl, hV, hE⟩ := hrel
     have HV := Lib.hid (And.intro hV hE)
     have hsz := hE.size
     have hpl := pubI_len hs i
     by_cases hlt : i < sn
     ·--{{
      obtain ⟨_, _, e, _, hcell⟩ := (H.out.2.1.ext (HEc.out.1.trans hE)).at i hlt
      injection e with e; injection e with e1 e2
      subst e1; subst e2
      obtain ⟨z, hz⟩ : ∃ z, hs.getD i false = z := ⟨_, rfl⟩
      rw [hz] at hcell
      have HZ := Lib.hid hz
      have j0 : (0 : Int) ≤ (i : Int) := by omega
      have j1 : (i : Int) < (sn : Int) := by omega
      clear hV hE hz
      cases z with
      | true =>
       go_wp2_with fail
       go_roundw
       case rel => exact ⟨i + 1, by omega, by go_num, by rw [pubI, if_neg (by rw [HZ.out]; simp)]; exact HV.out.1, HV.out.2⟩
       case measure => simp [intOf]; omega
      | false =>
       obtain ⟨P, hP⟩ : ∃ P, pubI hs i = P := ⟨_, rfl⟩
       have HP := Lib.hid (show pubI hs (i + 1) = P ++ [(i : Int)] from by rw [pubI, if_pos HZ.out, hP])
       rw [hP] at HV hpl
       clear hP
       have h64 : Int64 (i : Int) := ⟨by omega, by omega⟩
       have HNW := Lib.hid (ints_news (ints_one ws (i : Int) h64) (by omega))
       clear h64
       go_wp2_with (at_builtin; refine wpList_append_lies _ rfl _ _ _ rfl G 3 i0 _ 1 8 Try.underlying22 hi0 hz0 hz1 hz2 rfl (by omega) u11 P.length (ivals P) rfl (VRow.ext ((Ext.refl ws).alloc _) HV.out.1) ⟨ws.heap.size, 0, none⟩ 1 1 (ivals [(i : Int)]) rfl rfl HNW.out (ivals_one _) (by omega) (by rw [maxLen]; omega) (by omega) (by simp; omega) _ rfl ?_)
       intro g cap w5 hown hgrow hat hlt5
       have HN := Lib.hid (show VRow w5 G (.slice (some ⟨g, 0, none⟩) (P.length + 1) cap) (pubI hs (i + 1)) ∧ Ext wc w5 from ⟨by rw [HP.out]; exact VRow.app rfl hown, ext_grown (HV.out.2.alloc _) hgrow (fun g hg => by have := (owns_lt HV.out.1 hg).1; omega)⟩)
       clear hown hgrow hat
       go_wp2_with fail
       go_roundw
       case rel => exact ⟨i + 1, by omega, by go_num, HN.out.1, HN.out.2⟩
       case measure => simp [intOf]; omega
      --}}
     ·have hie : i = sn := by omega
      have hin : ¬ (i : Int) < (sn : Int) := by omega
      obtain ⟨P, hP⟩ : ∃ P, pubI hs i = P := ⟨_, rfl⟩
      have hPs : pubI hs sn = P := by rw [← hP, hie]
      rw [hP] at HV hpl
      have hmemP : ∀ x, x ∈ P → ∃ k : Nat, k < sn ∧ x = (k : Int) := fun x hx => by rw [← hPs] at hx; obtain ⟨k, h1, _, h3⟩ := (pubI_mem hs sn x).1 hx; exact ⟨k, h1, h3⟩
      rw [hPs] at HO0 HOE
      have HMP := Lib.hid hmemP
      have h64 : Int64 (K : Int) := ⟨by omega, by omega⟩
      have HNW := Lib.hid (ints_news (ints_one ws (K : Int) h64) (by omega))
      clear h64 hV hE hP hPs hmemP hie
      go_wp2_with fail
      go_step3
      go_wp2_with (at_builtin; refine wpList_append_lies _ rfl _ _ _ rfl G 3 i0 _ 1 8 Try.underlying22 hi0 hz0 hz1 hz2 rfl (by omega) u11 P.length (ivals P) rfl (VRow.ext ((Ext.refl ws).alloc _) HV.out.1) ⟨ws.heap.size, 0, none⟩ 1 1 (ivals [(K : Int)]) rfl rfl HNW.out (ivals_one _) (by omega) (by rw [maxLen]; omega) (by omega) (by simp; omega) _ rfl ?_)
      intro g cap w5 hown hgrow hat hlt5
      have hV5 : VRow w5 G (.slice (some ⟨g, 0, none⟩) (P.length + 1) cap) (P ++ [(K : Int)]) := VRow.app rfl hown
      have hE5 : Ext wc w5 := ext_grown (HV.out.2.alloc _) hgrow (fun g hg => by have := (owns_lt HV.out.1 hg).1; omega)
      obtain ⟨LL, hLL⟩ : ∃ l, P ++ [(K : Int)] = l := ⟨_, rfl⟩
      have hLm : ∀ x, x ∈ LL → ∃ k : Nat, k < sn ∧ x = (k : Int) := fun x hx => by
       rw [← hLL] at hx
       rcases List.mem_append.1 hx with hx | hx
       ·exact HMP.out x hx
       ·rw [List.mem_singleton] at hx; exact ⟨K, hKm, hx⟩
      have hLl : LL.length = P.length + 1 := by rw [← hLL]; simp
      rw [hLL] at hV5 HO0 HOE
      have hI5 : Ints w5 (some ⟨g, 0, none⟩) (P.length + 1) LL := by
       obtain ⟨a, c, e, hI⟩ := hV5.ints (by omega) (fun k hk => by rw [getD_get hk]; obtain ⟨k', h1, h2⟩ := hLm _ (List.getElem_mem hk); rw [h2]; exact ⟨by omega, by omega⟩)
       injection e with e1 e2 e3
       rw [← e1, hLl] at hI
       exact hI
      obtain ⟨M, hM⟩ : ∃ M, P.length + 1 = M := ⟨_, rfl⟩
      rw [hM] at hI5 hLl ⊢
      have HL := Lib.hid (And.intro hI5 (And.intro hLm (And.intro hLl (HEc.out.1.trans hE5))))
      have HBY := Lib.hid (HEc.out.2.ext hE5)
      clear hown hgrow hat hV5 hE5 hI5 hLm hLl hLL HV HR0 HMP y1 HNW
      go_wp2_with fail
      have y5 : w5.cell? ⟨B, 1, none⟩ = some (.slice sa sn sc) := HBY.out.cell 1
      go_loopw [10, 58] (fun ov iv ws => ∃ t : Nat, t ≤ M ∧ iv = .int .i64 (t : Int) ∧ ov = .int .i64 (outP v Ls hs K LL t) ∧ Ext w5 ws) (fun _ iv _ => M - (intOf iv).toNat)
      case atStart => exact ⟨0, by omega, rfl, by rw [HO0.out], Ext.refl _⟩
      case round =>
       rename World => wr
       obtain ⟨t, ht, rfl, rfl, hE⟩ := hrel
       have HE := Lib.hid hE
       by_cases hlt : t < M
       ·obtain ⟨ot, hot⟩ : ∃ ot, outP v Ls hs K LL t = ot := ⟨_, rfl⟩
        rw [hot]
        obtain ⟨i, hi, hLi⟩ := HL.out.2.1 (LL.getD t 0) (by rw [getD_get (by have := HL.out.2.2.1; omega)]; exact List.getElem_mem _)
        obtain ⟨_, _, e, _, hcell⟩ := (HL.out.1.keep hE.ik).at t hlt
        injection e with e; injection e with e1 e2
        subst e1; subst e2
        rw [hLi, Nat.zero_add] at hcell
        have HT := Lib.hid (And.intro hot hLi)
        have j0 : (0 : Int) ≤ (i : Int) := by omega
        have j1 : (i : Int) < (sn : Int) := by omega
        have t0 : (0 : Int) ≤ (t : Int) := by omega
        have t1 : (t : Int) < (M : Int) := by omega
        clear hot hE
        go_wp2_with fail
        refine (number_c 0 wr (by omega) (by omega)).mono ?_
        rintro e w6 ⟨f, rfl, hf, hx6⟩
        have H6 := Lib.hid (And.intro hf hx6)
        clear hf hx6 hcell
        go_upto_region 20 with (fail)
        obtain ⟨zb, hzb⟩ : ∃ b, w6.heap.size = b := ⟨_, rfl⟩
        rw [hzb]
        obtain ⟨xs, xo, exs, _, hset⟩ := (H.out.1.ext ((HL.out.2.2.2).trans HE.out)).grps.at i hi
        simp only at exs
        subst exs
        have hI := (H.out.1.ext ((HL.out.2.2.2).trans HE.out)).grps.2.2.2.2 i hi
        obtain ⟨⟨ga, gn, gc⟩, hg⟩ : ∃ s, gs.getD i sl0 = s := ⟨_, rfl⟩
        obtain ⟨l, hl⟩ : ∃ l, Ls.getD i [] = l := ⟨_, rfl⟩
        rw [hg] at hset hI
        rw [hl] at hI
        simp only [Sl.v] at hset hI
        have hgn := hI.1
        have hgm := hI.2.1
        have HI := Lib.hid (And.intro hI (And.intro hl (show ∀ x, x ∈ l → 0 ≤ x ∧ x < (cm : Int) from fun x hx => by have := (H.out.1.sheet HVL.out.1).cell i x (by rw [hl]; exact hx); omega)))
        have y6 : wr.cell? ⟨B, 1, none⟩ = some (.slice (some ⟨xs, xo, none⟩) sn sc) := HE.out.cell y5
        have HZ := Lib.hid hzb
        refine wp_gen (fun W => Ext wr W ∧ Own W zb 4 ∧ Quad0 W zb f ∧ IsQ W f 0) ⟨H6.out.2.alloc _, (Blk.at _ 58 hzb.symm).own _ (by simp) (noIntF _ _ _ _ _ _ _ _), Blk.quad0 (Blk.at _ 58 hzb.symm), H6.out.1.keep ((Ext.refl _).alloc _).ik⟩ ?_
        rintro W ⟨hx7, ho7, hq7, hf7⟩
        have y7 : W.cell? ⟨B, 1, none⟩ = some (.slice (some ⟨xs, xo, none⟩) sn sc) := hx7.cell y6
        have hset7 := hx7.cell hset
        have H7 := Lib.hid (And.intro hx7 (And.intro ho7 (And.intro hq7 hf7)))
        have hzs : wr.heap.size ≤ zb := by rw [← hzb]; exact H6.out.2.size
        clear hx7 ho7 hq7 hf7 hset y6 hI hzb
        go_wp2_with fail
        go_loopw [10, 69] (fun ov qv wz => ∃ (j : Nat) (fs : FV), j ≤ gn ∧ ov = .int .i64 ot ∧ qv = .int .i64 (j : Int) ∧ Ext wr wz ∧ Own wz zb 4 ∧ Quad0 wz zb fs ∧ IsQ wz fs (sumV v l j)) (fun _ qv _ => gn - (intOf qv).toNat)
        case atStart => exact ⟨0, f, by omega, rfl, rfl, H7.out.1, H7.out.2.1, H7.out.2.2.1, H7.out.2.2.2⟩
        case round =>
         rename World => wz
         obtain ⟨j, fs, hj, rfl, rfl, hxz, hoz, hqz, hfz⟩ := hrel
         have HJ := Lib.hid (And.intro hxz (And.intro hoz (And.intro hqz hfz)))
         by_cases hjl : j < gn
         ·obtain ⟨lb, lo, rfl, _, hcell⟩ := (HI.out.1.keep hxz.ik).at j hjl
          obtain ⟨c, hc, hcm2⟩ : ∃ c : Nat, l.getD j 0 = (c : Int) ∧ c < cm := by
           have := HI.out.2.2 (l.getD j 0) (by rw [getD_get (by omega)]; exact List.getElem_mem _)
           exact ⟨(l.getD j 0).toNat, by omega, by omega⟩
          rw [hc] at hcell
          obtain ⟨cb, co, gq, rfl, _, hgq, hvq⟩ := (H.out.2.2.1.ext ((HL.out.2.2.2.trans HE.out).trans hxz)) c hcm2
          have HC := Lib.hid (And.intro hc (And.intro hvq (H.out.2.2.2 HQ.out)))
          have i0' : (0 : Int) ≤ (j : Int) := by omega
          have i1' : (j : Int) < (gn : Int) := by omega
          have c0' : (0 : Int) ≤ (c : Int) := by omega
          have c1' : (c : Int) < (cm : Int) := by omega
          have hSt : Quad0 wz zb fs ∧ Quad wz cb (co + c * 4) gq := ⟨hqz, hgq⟩
          have HSt := Lib.hid hSt
          clear hxz hoz hqz hfz hc hvq hgq
          go_upto_region 24 with (fail)
          refine wp_region_E (fun W => Quad0 W zb fs ∧ Quad W cb (co + c * 4) gq) [9] (by kernel_rfl) hSt (fun hSd => ?_)
          refine takeE (i := 0) (v := ?_) rfl (by kernel_rfl) (by kernel_rfl) (by kernel_rfl) (fun _ _ _ h => h) (by kernel_rfl) (by kernel_rfl) (Or.inl ⟨by rfl, ?_⟩) (by assumption) ?_; rotate_left; (focus (intro wq hSw; obtain ⟨⟨q1, q2, q3, q4⟩, ⟨p1, p2, p3, p4⟩⟩ := hSw; go_simp; try with_reducible rfl)); (try simp only [Act.put, List.setIfInBounds_toArray, List.set_cons_zero, List.set_cons_succ])
          refine takeP (i := 1) (v := ?_) rfl (by kernel_rfl) (by kernel_rfl) (by kernel_rfl) (fun _ _ _ h => h) (Or.inl ⟨by rfl, ?_⟩) ?_; rotate_left; (focus (intro wq hSw; clear hSw; go_simp; try with_reducible rfl)); (try simp only [Act.put, List.setIfInBounds_toArray, List.set_cons_zero, List.set_cons_succ])
          refine takeP (i := 2) (v := ?_) rfl (by kernel_rfl) (by kernel_rfl) (by kernel_rfl) (fun _ _ _ h => h) (Or.inl ⟨by rfl, ?_⟩) ?_; rotate_left; (focus (intro wq hSw; clear hSw; go_simp; try with_reducible rfl)); (try simp only [Act.put, List.setIfInBounds_toArray, List.set_cons_zero, List.set_cons_succ])
          refine takeP (i := 3) (v := ?_) rfl (by kernel_rfl) (by kernel_rfl) (by kernel_rfl) (fun _ _ _ h => h) (Or.inl ⟨by rfl, ?_⟩) ?_; rotate_left; (focus (intro wq hSw; clear hSw; go_simp; try with_reducible rfl)); (try simp only [Act.put, List.setIfInBounds_toArray, List.set_cons_zero, List.set_cons_succ])
          refine takeE (i := 4) (v := ?_) rfl (by kernel_rfl) (by kernel_rfl) (by kernel_rfl) (fun _ _ _ h => h) (by kernel_rfl) (by kernel_rfl) (Or.inl ⟨by rfl, ?_⟩) (by assumption) ?_; rotate_left; (focus (intro wq hSw; obtain ⟨⟨q1, q2, q3, q4⟩, ⟨p1, p2, p3, p4⟩⟩ := hSw; go_simp; try with_reducible rfl)); (try simp only [Act.put, List.setIfInBounds_toArray, List.set_cons_zero, List.set_cons_succ])
          refine consE (i := 5) (by kernel_rfl) rfl (fun K hK => ?_)
          go_simp
          go_at_call 31
          refine (addQ_c fs gq (sumV v l j) (v c) BB BBk _ (HJ.out.2.2.2.keep ((Ext.refl wz).drew.ik)) (HC.out.2.1.keep ((Ext.refl wz).drew.ik)) (by have := (HC.out.2.2.1 i j); rw [HI.out.2.1, HI.out.1.1] at this; exact this (by omega)) (HC.out.2.2.2 c) BB_lt (by decide)).mono ?_
          rintro e w8 ⟨r, rfl, hr, hx8⟩
          go_wp2_with fail
          have hx8' : Ext wz w8 := (Ext.refl wz).drew.trans hx8
          refine hK.out _ _ ?_ (fun _ => ?_); rotate_left; clear hK K; rotate_right; (focus (exact .inr (.inl ⟨HSt.out.1.ext hx8', HSt.out.2.ext hx8'⟩))); (try simp only [Act.put, List.setIfInBounds_toArray, List.set_cons_zero, List.set_cons_succ])
          have H8 := Lib.hid (And.intro hr hx8')
          clear hr hx8 hx8'
          refine takeP (i := 6) (v := ?_) rfl (by kernel_rfl) (by kernel_rfl) (by kernel_rfl) (fun _ _ _ h => h) (Or.inl ⟨by rfl, ?_⟩) ?_; rotate_left; (focus (intro wq hSw; clear hSw; go_simp; try with_reducible rfl)); (try simp only [Act.put, List.setIfInBounds_toArray, List.set_cons_zero, List.set_cons_succ])
          refine takeP (i := 7) (v := ?_) rfl (by kernel_rfl) (by kernel_rfl) (by kernel_rfl) (fun _ _ _ h => h) (Or.inl ⟨by rfl, ?_⟩) ?_; rotate_left; (focus (intro wq hSw; clear hSw; go_simp; try with_reducible rfl)); (try simp only [Act.put, List.setIfInBounds_toArray, List.set_cons_zero, List.set_cons_succ])
          refine takeP (i := 8) (v := ?_) rfl (by kernel_rfl) (by kernel_rfl) (by kernel_rfl) (fun _ _ _ h => h) (Or.inl ⟨by rfl, ?_⟩) ?_; rotate_left; (focus (intro wq hSw; clear hSw; go_simp; try with_reducible rfl)); (try simp only [Act.put, List.setIfInBounds_toArray, List.set_cons_zero, List.set_cons_succ])
          have ho8 : Own w8 zb 4 := Own.ext H8.out.2 HJ.out.2.1 (by omega)
          have q0 := ho8.1 0 (by omega)
          have q1 := ho8.1 1 (by omega)
          have q2 := ho8.1 2 (by omega)
          have q3 := ho8.1 3 (by omega)
          have qf := ho8.2.1
          refine consE (i := 9) (by kernel_rfl) rfl (fun K hK => ?_)
          go_simp
          refine hK.out _ _ ?_ (fun _ => ?_); rotate_left; clear hK K; rotate_right; (focus (exact .inl (by simp))); (try simp only [Act.put, List.setIfInBounds_toArray, List.set_cons_zero, List.set_cons_succ])
          refine takeP (i := 10) (v := ?_) rfl (by kernel_rfl) (by kernel_rfl) (by kernel_rfl) (fun _ _ _ h => h) (Or.inl ⟨by rfl, ?_⟩) ?_; rotate_left; (focus (intro wq hSw; clear hSw; go_simp; try with_reducible rfl)); (try simp only [Act.put, List.setIfInBounds_toArray, List.set_cons_zero, List.set_cons_succ])
          refine doneE (by kernel_rfl) ?_ _
          go_wp2_with fail
          go_roundw
          case rel => exact ⟨j + 1, r, by omega, rfl, by go_num, ext_putF (HJ.out.1.trans H8.out.2) hzs r, own_putF ho8 r, Quad0.putF ho8 r, by rw [show sumV v l (j + 1) = sumV v l j + v c from by (show sumV v l j + v (l.getD j 0).toNat = _; rw [HC.out.1, Int.toNat_natCast])]; exact H8.out.1.keep (IK.putF ho8 r)⟩
          case measure => simp [intOf]; omega
         ·obtain rfl : j = gn := by omega
          obtain ⟨_, _, e, _, hcell⟩ := (H.out.2.1.ext (((HL.out.2.2.2).trans HE.out).trans HJ.out.1)).at i hi
          injection e with e; injection e with e1 e2
          subst e1; subst e2
          obtain ⟨z, hz⟩ : ∃ z, hs.getD i false = z := ⟨_, rfl⟩
          rw [hz] at hcell
          have HZ9 := Lib.hid hz
          have hSt : Quad0 wz zb fs ∧ wz.cell? ⟨hbb, hbo + i, none⟩ = some (.bool z) := ⟨hqz, hcell⟩
          have HSt := Lib.hid hSt
          clear hxz hoz hqz hfz hcell hz
          go_upto_region 28 with (fail)
          refine wp_region_E (fun W => Quad0 W zb fs ∧ W.cell? ⟨hbb, hbo + i, none⟩ = some (.bool z)) [] (by kernel_rfl) hSt (fun hSd => ?_)
          refine takeE (i := 0) (v := ?_) rfl (by kernel_rfl) (by kernel_rfl) (by kernel_rfl) (fun _ _ _ h => h) (by kernel_rfl) (by kernel_rfl) (Or.inl ⟨by rfl, ?_⟩) (by assumption) ?_; rotate_left; (focus (intro wq hSw; obtain ⟨⟨q1, q2, q3, q4⟩, p1⟩ := hSw; go_simp; try with_reducible rfl)); (try simp only [Act.put, List.setIfInBounds_toArray, List.set_cons_zero, List.set_cons_succ])
          refine takeP (i := 3) (v := ?_) rfl (by kernel_rfl) (by kernel_rfl) (by kernel_rfl) (fun _ _ _ h => h) (Or.inl ⟨by rfl, ?_⟩) ?_; rotate_left; (focus (intro wq hSw; clear hSw; go_simp; try with_reducible rfl)); (try simp only [Act.put, List.setIfInBounds_toArray, List.set_cons_zero, List.set_cons_succ])
          refine takeP (i := 4) (v := ?_) rfl (by kernel_rfl) (by kernel_rfl) (by kernel_rfl) (fun _ _ _ h => h) (Or.inl ⟨by rfl, ?_⟩) ?_; rotate_left; (focus (intro wq hSw; clear hSw; go_simp; try with_reducible rfl)); (try simp only [Act.put, List.setIfInBounds_toArray, List.set_cons_zero, List.set_cons_succ])
          refine takeP (i := 5) (v := ?_) rfl (by kernel_rfl) (by kernel_rfl) (by kernel_rfl) (fun _ _ _ h => h) (Or.inl ⟨by rfl, ?_⟩) ?_; rotate_left; (focus (intro wq hSw; clear hSw; go_simp; try with_reducible rfl)); (try simp only [Act.put, List.setIfInBounds_toArray, List.set_cons_zero, List.set_cons_succ])
          refine takeE (i := 6) (v := ?_) rfl (by kernel_rfl) (by kernel_rfl) (by kernel_rfl) (fun _ _ _ h => h) (by kernel_rfl) (by kernel_rfl) (Or.inl ⟨by rfl, ?_⟩) (by assumption) ?_; rotate_left; (focus (intro wq hSw; obtain ⟨⟨q1, q2, q3, q4⟩, p1⟩ := hSw; go_simp; try with_reducible rfl)); (try simp only [Act.put, List.setIfInBounds_toArray, List.set_cons_zero, List.set_cons_succ])
          refine takeP (i := 7) (v := ?_) rfl (by kernel_rfl) (by kernel_rfl) (by kernel_rfl) (fun _ _ _ h => h) (Or.inl ⟨by rfl, ?_⟩) ?_; rotate_left; (focus (intro wq hSw; clear hSw; go_simp; try with_reducible rfl)); (try simp only [Act.put, List.setIfInBounds_toArray, List.set_cons_zero, List.set_cons_succ])
          refine consE (i := 1) (by kernel_rfl) rfl (fun K hK => ?_)
          go_simp
          go_at_call 33
          refine (signQ_c fs (sumV v l j) _ (HJ.out.2.2.2.keep ((Ext.refl wz).drew.ik))).mono ?_
          rintro e w8 ⟨⟨s, rfl, hs⟩, hx8⟩
          go_wp2_with fail
          have hx8' : Ext wz w8 := (Ext.refl wz).drew.trans hx8
          refine hK.out _ _ ?_ (fun _ => ?_); rotate_left; clear hK K; rotate_right; (focus (exact .inr (.inl ⟨HSt.out.1.ext hx8', hx8'.cell HSt.out.2⟩))); (try simp only [Act.put, List.setIfInBounds_toArray, List.set_cons_zero, List.set_cons_succ])
          have H8 := Lib.hid (And.intro hs hx8')
          clear hs hx8 hx8'
          have HGD := Lib.hid (show goodI v Ls hs i = (decide (sumV v l j = 0) == !z) from by unfold goodI; rw [HI.out.2.1, HI.out.1.1, HZ9.out])
          by_cases s0 : s = 0
          ·have HS0 := Lib.hid (H8.out.1.1 s0)
           subst s0
           cases z with
           | true =>
            refine takeP (i := 2) (v := ?_) rfl (by kernel_rfl) (by kernel_rfl) (by kernel_rfl) (fun _ _ _ h => h) (Or.inl ⟨by rfl, ?_⟩) ?_; rotate_left; (focus (intro wq hSw; clear hSw; go_simp; try with_reducible rfl)); (try simp only [Act.put, List.setIfInBounds_toArray, List.set_cons_zero, List.set_cons_succ]); refine takeP (i := 8) (v := ?_) rfl (by kernel_rfl) (by kernel_rfl) (by kernel_rfl) (fun _ _ _ h => h) (Or.inl ⟨by rfl, ?_⟩) ?_; rotate_left; (focus (intro wq hSw; clear hSw; go_simp; try with_reducible rfl)); (try simp only [Act.put, List.setIfInBounds_toArray, List.set_cons_zero, List.set_cons_succ]); refine doneE (by kernel_rfl) ?_ _; go_wp2_with fail; go_roundw; (case rel => exact ⟨t + 1, by omega, by go_num, (by rw [outP_succ v Ls hs K LL t (by have := HL.out.2.2.1; omega), HT.out.2, Int.toNat_natCast, if_neg (by rw [HGD.out, HS0.out]; simp)]), (HE.out.trans HJ.out.1).trans H8.out.2⟩); (case measure => simp [intOf]; omega)
           | false =>
            refine takeP (i := 2) (v := ?_) rfl (by kernel_rfl) (by kernel_rfl) (by kernel_rfl) (fun _ _ _ h => h) (Or.inl ⟨by rfl, ?_⟩) ?_; rotate_left; (focus (intro wq hSw; clear hSw; go_simp; try with_reducible rfl)); (try simp only [Act.put, List.setIfInBounds_toArray, List.set_cons_zero, List.set_cons_succ]); refine takeP (i := 8) (v := ?_) rfl (by kernel_rfl) (by kernel_rfl) (by kernel_rfl) (fun _ _ _ h => h) (Or.inl ⟨by rfl, ?_⟩) ?_; rotate_left; (focus (intro wq hSw; clear hSw; go_simp; try with_reducible rfl)); (try simp only [Act.put, List.setIfInBounds_toArray, List.set_cons_zero, List.set_cons_succ]); refine doneE (by kernel_rfl) ?_ _; go_wp2_with fail; go_roundw; (case rel => exact ⟨t + 1, by omega, by go_num, (by rw [outP_succ v Ls hs K LL t (by have := HL.out.2.2.1; omega), HT.out.2, Int.toNat_natCast, if_pos (by rw [HGD.out, HS0.out]; simp), HT.out.1]), (HE.out.trans HJ.out.1).trans H8.out.2⟩); (case measure => simp [intOf]; omega)
          ·have HS0 := Lib.hid (fun e => s0 (H8.out.1.2 e))
           have s1 : (s == 0) = false := by rw [beq_eq_false_iff_ne]; exact s0
           clear s0
           cases z with
           | true =>
            refine takeP (i := 2) (v := ?_) rfl (by kernel_rfl) (by kernel_rfl) (by kernel_rfl) (fun _ _ _ h => h) (Or.inl ⟨by rfl, ?_⟩) ?_; rotate_left; (focus (intro wq hSw; clear hSw; go_simp; try with_reducible rfl)); (try simp only [Act.put, List.setIfInBounds_toArray, List.set_cons_zero, List.set_cons_succ]); refine takeP (i := 8) (v := ?_) rfl (by kernel_rfl) (by kernel_rfl) (by kernel_rfl) (fun _ _ _ h => h) (Or.inl ⟨by rfl, ?_⟩) ?_; rotate_left; (focus (intro wq hSw; clear hSw; go_simp; try with_reducible rfl)); (try simp only [Act.put, List.setIfInBounds_toArray, List.set_cons_zero, List.set_cons_succ]); refine doneE (by kernel_rfl) ?_ _; go_wp2_with fail; go_roundw; (case rel => exact ⟨t + 1, by omega, by go_num, (by rw [outP_succ v Ls hs K LL t (by have := HL.out.2.2.1; omega), HT.out.2, Int.toNat_natCast, if_pos (by rw [HGD.out, decide_eq_false HS0.out]; rfl), HT.out.1]), (HE.out.trans HJ.out.1).trans H8.out.2⟩); (case measure => simp [intOf]; omega)
           | false =>
            refine takeP (i := 2) (v := ?_) rfl (by kernel_rfl) (by kernel_rfl) (by kernel_rfl) (fun _ _ _ h => h) (Or.inl ⟨by rfl, ?_⟩) ?_; rotate_left; (focus (intro wq hSw; clear hSw; go_simp; try with_reducible rfl)); (try simp only [Act.put, List.setIfInBounds_toArray, List.set_cons_zero, List.set_cons_succ]); refine takeP (i := 8) (v := ?_) rfl (by kernel_rfl) (by kernel_rfl) (by kernel_rfl) (fun _ _ _ h => h) (Or.inl ⟨by rfl, ?_⟩) ?_; rotate_left; (focus (intro wq hSw; clear hSw; go_simp; try with_reducible rfl)); (try simp only [Act.put, List.setIfInBounds_toArray, List.set_cons_zero, List.set_cons_succ]); refine doneE (by kernel_rfl) ?_ _; go_wp2_with fail; go_roundw; (case rel => exact ⟨t + 1, by omega, by go_num, (by rw [outP_succ v Ls hs K LL t (by have := HL.out.2.2.1; omega), HT.out.2, Int.toNat_natCast, if_neg (by rw [HGD.out, decide_eq_false HS0.out]; simp)]), (HE.out.trans HJ.out.1).trans H8.out.2⟩); (case measure => simp [intOf]; omega)
       ·have htm : t = M := by omega
        have hin2 : ¬ (t : Int) < (M : Int) := by omega
        have HTM := Lib.hid htm
        clear htm hE
        go_wp2_with fail
        go_ret
        exact ⟨by rw [HOE.out, HL.out.2.2.1, HTM.out]; rfl, HL.out.2.2.2.trans HE.out⟩
  ·have hoe := HO.out
   rw [if_neg (by omega), if_pos hcn] at hoe
   have hcn' : ((cm : Int) == n) = false := by rw [beq_eq_false_iff_ne]; exact hcn
   subst hq0
   have HOE := Lib.hid hoe
   clear hoe HO hcn
   go_enter Try.func25, Try.ntmps25; go_upto_region 1 with (fail); refine wp_gen (fun W => Ext w W ∧ Blk W B #[.int .i64 n, .slice sa sn sc, .slice va vn vc] 31) ⟨(by repeat (first | exact Ext.refl _ | assumption | refine Ext.setCell ?_ (by first | (simp; done) | (simp; omega) | omega) _ | refine Ext.alloc ?_ _ | refine Ext.drew ?_ | refine Ext.trans ?_ (by assumption))), Blk.at _ 31 hBw.symm⟩ ?_; rintro V ⟨E0, B0⟩; have HB := Lib.hid (And.intro E0 B0); have x0 : V.cell? ⟨B, 0, none⟩ = some (.int .i64 n) := B0.cell 0; have x1 : V.cell? ⟨B, 1, none⟩ = some (.slice sa sn sc) := B0.cell 1; have x2 : V.cell? ⟨B, 2, none⟩ = some (.slice va vn vc) := B0.cell 2; clear E0 B0; go_step3; go_wp2_with fail; refine (shcheck_c n ⟨sa, sn, sc⟩ ⟨va, vn, vc⟩ gs Ls zs _ _ hc _ _ (H.out.1.ext HB.out.1) (Nat.le_trans hm (by omega))).mono ?_; rw [HQ.out]; rintro e w2 ⟨rfl, hx2⟩; have HX := Lib.hid (And.intro (HB.out.1.trans hx2) (HB.out.2.ext hx2)); have y0 : w2.cell? ⟨B, 0, none⟩ = some (.int .i64 n) := hx2.cell x0; have y1 : w2.cell? ⟨B, 1, none⟩ = some (.slice sa sn sc) := hx2.cell x1; clear x0 x1 x2 hx2
   go_wp2_with fail
   rw [Exit.noGoto_ret]
   go_ret
   exact ⟨by rw [HOE.out]; rfl, HX.out.1⟩
 ·have hoe := HO.out
  rw [if_pos hq0] at hoe
  have hq1 : (q == 0) = false := by rw [beq_eq_false_iff_ne]; exact hq0
  have HOE := Lib.hid hoe
  clear hoe HO hq0
  go_enter Try.func25, Try.ntmps25; go_upto_region 1 with (fail); refine wp_gen (fun W => Ext w W ∧ Blk W B #[.int .i64 n, .slice sa sn sc, .slice va vn vc] 31) ⟨(by repeat (first | exact Ext.refl _ | assumption | refine Ext.setCell ?_ (by first | (simp; done) | (simp; omega) | omega) _ | refine Ext.alloc ?_ _ | refine Ext.drew ?_ | refine Ext.trans ?_ (by assumption))), Blk.at _ 31 hBw.symm⟩ ?_; rintro V ⟨E0, B0⟩; have HB := Lib.hid (And.intro E0 B0); have x0 : V.cell? ⟨B, 0, none⟩ = some (.int .i64 n) := B0.cell 0; have x1 : V.cell? ⟨B, 1, none⟩ = some (.slice sa sn sc) := B0.cell 1; have x2 : V.cell? ⟨B, 2, none⟩ = some (.slice va vn vc) := B0.cell 2; clear E0 B0; go_step3; go_wp2_with fail; refine (shcheck_c n ⟨sa, sn, sc⟩ ⟨va, vn, vc⟩ gs Ls zs _ _ hc _ _ (H.out.1.ext HB.out.1) (Nat.le_trans hm (by omega))).mono ?_; rw [HQ.out]; rintro e w2 ⟨rfl, hx2⟩; have HX := Lib.hid (And.intro (HB.out.1.trans hx2) (HB.out.2.ext hx2)); have y0 : w2.cell? ⟨B, 0, none⟩ = some (.int .i64 n) := hx2.cell x0; have y1 : w2.cell? ⟨B, 1, none⟩ = some (.slice sa sn sc) := hx2.cell x1; clear x0 x1 x2 hx2
  go_wp2_with fail
  rw [Exit.noGoto_ret]
  go_ret
  exact ⟨by rw [HOE.out]; rfl, HX.out.1⟩
end Go.Proofs.Ytkoidookanmknaa
