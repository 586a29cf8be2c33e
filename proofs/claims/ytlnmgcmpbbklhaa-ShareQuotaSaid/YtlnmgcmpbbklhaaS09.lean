/- share: Nested. -/
import Derived.Test.YtlnmgcmpbbklhaaS08
namespace Go.Proofs.Ytlnmgcmpbbklhaa
set_option linter.unusedSimpArgs false
set_option linter.unusedVariables false
open Go.RowKit

theorem bump_ge (o : List Int) (b i : Nat) : o.getD i 0 ≤ (bump o b).getD i 0 := by
  by_cases hi : i < o.length
  · rw [bump_at _ _ _ hi]; split <;> omega
  · rw [List.getD_eq_getElem?_getD, List.getD_eq_getElem?_getD, List.getElem?_eq_none (by omega), List.getElem?_eq_none (by rw [bump_length]; omega)]; exact Int.le_refl _
theorem pickN_ge (m t : Nat) (s : List Int × List Int) (i : Nat) : s.1.getD i 0 ≤ (pickN m t s).1.getD i 0 := by
  induction t with
  | zero => exact Int.le_refl _
  | succ t ih => rw [pickN, pick1]; exact Int.le_trans ih (bump_ge _ _ _)
theorem largestF_nonneg {n : Int} {w : List Int} (h0 : 0 ≤ n) (hw : ∀ x, x ∈ w → 0 ≤ x) (i : Nat) : 0 ≤ (largestF n w).getD i 0 := by
  by_cases hi : i < w.length
  · unfold largestF; split
    · simp [List.getD_eq_getElem?_getD, hi]
    · refine Int.le_trans ?_ (pickN_ge _ _ _ i)
      unfold quos; rw [getD_map _ _ _ hi]
      have hs : 0 ≤ sumI w := by
        have := hw; clear hi
        induction w with
        | nil => simp [sumI]
        | cons x l ih =>
          have h1 := this x (by simp)
          by_cases hz : n = 0 ∨ sumI l = 0
          · rcases hz with hz | hz
            · have h2 : ∀ k : List Int, (∀ x, x ∈ k → 0 ≤ x) → 0 ≤ sumI k := fun k hk => by
                induction k with
                | nil => simp [sumI]
                | cons z k ih => have := hk z (by simp); have := ih fun u hu => hk u (by simp [hu]); simp only [sumI]; omega
              exact h2 _ this
            · simp only [sumI]; omega
          · have := ih (fun y hy => this y (by simp [hy])) hz (fun y hy => this y (by simp [hy])); simp only [sumI]; omega
      exact Int.ediv_nonneg (Int.mul_nonneg h0 (hw _ (getD_mem hi))) hs
  · rw [List.getD_eq_getElem?_getD, List.getElem?_eq_none (by rw [largestF_length]; omega)]; simp
theorem sumI_flat (Ls : List (List Int)) : sumI (Ls.map sumI) = sumI Ls.flatten := by
  induction Ls with
  | nil => rfl
  | cons l Ls ih => simp only [List.map_cons, sumI, List.flatten_cons, sumI_append, ih]
/-- What each of the members gets. -/
def nestedF (n : Int) (Ls : List (List Int)) : List (List Int) := (List.range Ls.length).map fun i => largestF ((largestF n (Ls.map sumI)).getD i 0) (Ls.getD i [])
theorem nestedF_length (n : Int) (Ls : List (List Int)) : (nestedF n Ls).length = Ls.length := by simp [nestedF]
theorem nestedF_at (n : Int) (Ls : List (List Int)) (i : Nat) (hi : i < Ls.length) : (nestedF n Ls).getD i [] = largestF ((largestF n (Ls.map sumI)).getD i 0) (Ls.getD i []) := by
  simp [nestedF, hi]

/-- A slice of slices of the call's own, each of which lies in a block of its own. -/
def GOut (w : World) (base : Nat) (v : Value) (gs : List Nat) (Fs : List (List Int)) : Prop :=
  gs.length = Fs.length ∧ w.ownsRow base 22 1 v Fs.length ((List.range Fs.length).map fun i => .slice (some ⟨gs.getD i 0, 0, none⟩) (Fs.getD i []).length (Fs.getD i []).length) ∧
    ∀ i, i < Fs.length → IRow w (gs.getD i 0) (Fs.getD i []) ∧ v.ownBlock ≠ some (gs.getD i 0)
theorem GOut.ext {w w' : World} {base : Nat} {v : Value} {gs : List Nat} {Fs : List (List Int)} (k : Ext w w') (h : GOut w base v gs Fs) : GOut w' base v gs Fs :=
  ⟨h.1, owns_ext k h.2.1, fun i hi => ⟨(h.2.2 i hi).1.ext k, (h.2.2 i hi).2⟩⟩
theorem GOut.empty {w : World} {base b : Nat} (hb : base ≤ b) (h : Blk w b #[] 22) : GOut w base (.slice (some ⟨b, 0, none⟩) 0 0) [] [] :=
  ⟨rfl, ⟨rfl, .inr ⟨b, 0, #[], rfl, hb, h, Nat.le_refl _, by rw [maxLen]; omega, rfl, rfl⟩⟩, fun i hi => absurd hi (by simp)⟩
theorem GOut.app {w w' w1 : World} {base : Nat} {v : Value} {gs : List Nat} {Fs : List (List Int)} {g g2 cap n : Nat} {F : List Int} (h : GOut w base v gs Fs) (k : Ext w w') (hF : IRow w' g F) (hg : w.heap.size ≤ g) (hn : F.length = n)
    (hown : w1.ownsRow base 22 1 (.slice (some ⟨g2, 0, none⟩) (Fs.length + 1) cap) (Fs.length + 1) (((List.range Fs.length).map fun i => .slice (some ⟨gs.getD i 0, 0, none⟩) (Fs.getD i []).length (Fs.getD i []).length) ++ [.slice (some ⟨g, 0, none⟩) n n]))
    (hgr : w'.grownBy w1 v.ownBlock) (hat : v.ownBlock = some g2 ∨ g2 = w'.heap.size) : GOut w1 base (.slice (some ⟨g2, 0, none⟩) (Fs.length + 1) cap) (gs ++ [g]) (Fs ++ [F]) := by
  have hne : v.ownBlock ≠ some g := fun e => by have := (owns_lt h.2.1 e).2; omega
  have hat2 : ∀ i, i < Fs.length → (gs ++ [g]).getD i 0 = gs.getD i 0 ∧ (Fs ++ [F]).getD i [] = Fs.getD i [] := fun i hi => by
    simp [List.getD_eq_getElem?_getD, List.getElem?_append, hi, h.1]
  have hat3 : (gs ++ [g]).getD Fs.length 0 = g ∧ (Fs ++ [F]).getD Fs.length [] = F := by
    rw [← h.1]
    simp [List.getD_eq_getElem?_getD, h.1]
  have hblk : ∀ c L, IRow w' c L → v.ownBlock ≠ some c → IRow w1 c L := fun c L hc hn => by
    have hlt := hc.lt
    unfold IRow Blk at hc ⊢
    rw [hgr.block c hlt (fun e => hn e.symm)]; exact hc
  refine ⟨by simp [h.1], ?_, fun i hi => ?_⟩
  · rw [List.length_append, List.length_singleton, List.range_succ, List.map_append, List.map_singleton, hat3.1, hat3.2, hn]
    rw [show ((List.range Fs.length).map fun i => Value.slice (some ⟨(gs ++ [g]).getD i 0, 0, none⟩) ((Fs ++ [F]).getD i []).length ((Fs ++ [F]).getD i []).length) = ((List.range Fs.length).map fun i => Value.slice (some ⟨gs.getD i 0, 0, none⟩) (Fs.getD i []).length (Fs.getD i []).length) from
      List.map_congr_left fun i hi => by rw [(hat2 i (List.mem_range.1 hi)).1, (hat2 i (List.mem_range.1 hi)).2]]
    exact hown
  · rw [List.length_append, List.length_singleton] at hi
    have hfin : ∀ c L, IRow w' c L → v.ownBlock ≠ some c → IRow w1 c L ∧ (Value.slice (some ⟨g2, 0, none⟩) (Fs.length + 1) cap).ownBlock ≠ some c := fun c L hc hn => by
      refine ⟨hblk c L hc hn, fun e => ?_⟩
      simp [Value.ownBlock] at e
      rcases hat with hat | hat
      · rw [hat, e] at hn; exact hn rfl
      · have := hc.lt; omega
    by_cases hlt : i < Fs.length
    · rw [(hat2 i hlt).1, (hat2 i hlt).2]
      exact hfin _ _ ((h.2.2 i hlt).1.ext k) (h.2.2 i hlt).2
    · obtain rfl : i = Fs.length := by omega
      rw [hat3.1, hat3.2]; exact hfin _ _ hF hne
/-- What 'Nested' returns. -/
def NestR (err : Int) (Fs : List (List Int)) (w : World) (e : Ending) (w' : World) : Prop :=
  Ext w w' ∧ ((err ≠ 0 ∧ e = .returned (.tuple #[.slice none 0 0, .int .i64 err])) ∨
    (err = 0 ∧ ∃ v gs, e = .returned (.tuple #[v, .int .i64 0]) ∧ GOut w' w.heap.size v gs Fs))
theorem ints_one (w : World) (s : Int) (h : Int64 s) : Ints (w.alloc (.cells #[.int .i64 s] 3)) (some ⟨w.heap.size, 0, none⟩) 1 [s] :=
  IRow.ints (l := [s]) (n := 1) (Blk.at _ _ rfl) rfl (by omega) fun j hj => by
    have h0 : j = 0 := by omega
    subst h0; exact h
theorem intsInfo : (Try.prog.info? 22).map (fun i => (i.zero, i.size, i.bytes)) = some (some (.slice none 0 0), 1, 24) := by kernel_rfl
set_option maxRecDepth 100000 in
set_option maxHeartbeats 4000000 in
theorem Nested_c (n : Int) (ga : Option Addr) (m c : Nat) (gs : List Sl) (Ls : List (List Int)) (w : World) (h : Grps w ga m gs Ls) (hT : lens Ls ≤ 100000) (hm : m ≤ 19 ∨ 4096 < m) (hl : m ≤ 19 → ∀ i, i < m → (Ls.getD i []).length ≤ 19) :
    Calls Try.prog 22 #[.int .i64 n, .slice ga m c] w (NestR (errF n Ls.flatten m) (nestedF n Ls) w) := by
  obtain ⟨i0, hi0, hz0, hz1, hz2⟩ := info_parts intInfo
  obtain ⟨j0, hj0, hy0, hy1, hy2⟩ := info_parts intsInfo
  have H := Lib.hid h; have HT := Lib.hid hT; have HL := Lib.hid hl
  have hlen := h.2.1
  clear h hT hl
  go_enter Try.func22, Try.ntmps22
  go_wp2_with fail
  refine (check_c n ga m c gs Ls _ H.out HT.out).mono ?_
  rintro e w2 ⟨rfl, hx⟩
  have HE := Lib.hid hx; clear hx
  by_cases h0 : errF n Ls.flatten m = 0
  · have hok := errF_ok h0
    have hm3 : m ≤ 19 := by
      rcases hm with hm | hm
      · exact hm
      · unfold errF at h0; rw [if_pos (.inr hm)] at h0; omega
    have hgood := good_of_any hok.2.2.1
    have hgL : ∀ i, i < m → ∀ x, x ∈ Ls.getD i [] → 0 ≤ x ∧ x ≤ 1048576 := fun i hi x hx => hgood x (by
      refine List.mem_flatten.2 ⟨Ls.getD i [], ?_, hx⟩
      rw [List.getD_eq_getElem?_getD, List.getElem?_eq_getElem (by omega)]; exact List.getElem_mem _)
    have hfs := sumI_flat Ls
    have hfb := sum_bd _ hgood
    have hfl := flat_length Ls
    have hOK := hok
    have HOK := Lib.hid hok; have H0 := Lib.hid h0; have HGL := Lib.hid hgL
    have hbig : sumI (Ls.map sumI) ≤ 4294967296 := by rw [hfs]; omega
    have hpos : n ≠ 0 → 0 < sumI (Ls.map sumI) := fun hn => by rw [hfs]; have := hOK.2.2.2.1 hn; omega
    have hsb : ∀ i, i < m → 0 ≤ sumI (Ls.getD i []) ∧ sumI (Ls.getD i []) ≤ 4294967296 := fun i hi => by
      have h1 := sum_bd _ (hgL i hi)
      have h2 := HL.out hm3 i hi
      omega
    have hss : ∀ x, x ∈ Ls.map sumI → 0 ≤ x ∧ x ≤ 4294967296 := fun x hx => by
      obtain ⟨l, hl, rfl⟩ := List.mem_map.1 hx
      obtain ⟨i, hi, rfl⟩ := List.getElem_of_mem hl
      have := hsb i (by omega)
      rw [List.getD_eq_getElem?_getD, List.getElem?_eq_getElem hi] at this
      exact this
    have HSB := Lib.hid hsb; have HSS := Lib.hid hss; have HBIG := Lib.hid hbig; have HP := Lib.hid hpos
    rw [h0]
    clear hok hOK h0 hgood hgL hfs hfb hfl hbig hpos hsb hss hm
    go_wp2_with fail
    go_loopw [7, 21] (fun sv v ws => ∃ i : Nat, i ≤ m ∧ v = .int .i64 (i : Int) ∧ VRow ws w.heap.size sv ((Ls.take i).map sumI) ∧ Ext w ws) (fun _ v _ => m - (intOf v).toNat)
    case atStart => exact ⟨0, by omega, rfl, VRow.nil _ _, HE.out⟩
    case round =>
      obtain ⟨i, hi, rfl, hV, hE⟩ := hrel
      have HV := Lib.hid hV; have HE2 := Lib.hid hE; clear hV hE
      by_cases hlt : i < m
      · obtain ⟨b, off, rfl, hb, hc⟩ := (H.out.ext HE2.out).at i hlt
        have hin := (H.out.2.2.2.2 i hlt).keep HE2.out.ik
        have hnx : (Ls.take (i + 1)).map sumI = (Ls.take i).map sumI ++ [sumI (Ls.getD i [])] := by
          have e1 : Ls.getD i [] = Ls[i] := by simp [List.getD_eq_getElem?_getD, show i < Ls.length by omega]
          rw [List.take_succ_eq_append_getElem (by omega), List.map_append, e1]; rfl
        have hgl := HGL.out i hlt
        have hll := HL.out hm3 i hlt
        have hsv := HSB.out i hlt
        generalize gs.getD i sl0 = gg at *
        generalize Ls.getD i [] = l at *
        have HIN := Lib.hid hin; have HNX := Lib.hid hnx; have HGLI := Lib.hid hgl
        clear hin hnx hgl
        have hvl : ((Ls.take i).map sumI).length ≤ 19 := by rw [List.length_map, List.length_take]; omega
        have hsz := HE2.out.size
        have t0 : (i : Int) < (m : Int) := by omega
        generalize (Ls.take i).map sumI = P at *
        go_wp2_with fail
        refine (ssum_c _ _ _ l _ HIN.out (parts_bd HGLI.out (by omega))).mono ?_
        rintro e w3 ⟨rfl, hx⟩
        have HE3 := Lib.hid (HE2.out.trans hx); have HV3 := Lib.hid (HV.out.ext hx)
        have hs3 := HE3.out.size
        clear hx
        generalize sumI l = s at *
        have h64s : Int64 s := ⟨by omega, by omega⟩
        have HNW := Lib.hid (ints_news (ints_one w3 s h64s) (by omega))
        go_wp2_with (refine wpList_append_lies _ rfl _ _ _ rfl w.heap.size 3 i0 _ 1 8 Try.underlying22 hi0 hz0 hz1 hz2 rfl (by omega) _ _ _ rfl (VRow.ext ((Ext.refl w3).alloc _) HV3.out) ⟨w3.heap.size, 0, none⟩ 1 1 (ivals [s]) rfl rfl HNW.out (ivals_one _) (by omega) (by rw [maxLen]; omega) (by omega) (by simp; omega) _ rfl ?_)
        intro g2 cap w1 hown hgrow hat hlt1
        have HR := Lib.hid (show VRow w1 w.heap.size (.slice (some ⟨g2, 0, none⟩) (P.length + 1) cap) (P ++ [s]) ∧ Ext w w1 from
          ⟨VRow.app rfl hown, ext_grown (HE3.out.alloc _) hgrow (fun g hg => (owns_lt HV3.out hg).1)⟩)
        clear hown hgrow hat
        go_wp2_with fail
        go_roundw
        case rel => exact ⟨i + 1, by omega, by go_num, by rw [HNX.out]; exact HR.out.1, HR.out.2⟩
        case measure => simp [intOf]; omega
      · obtain rfl : i = m := by omega
        rw [List.take_of_length_le (by omega)] at HV
        obtain ⟨a5, c5, rfl, hin⟩ := HV.out.ints (by rw [List.length_map]; omega) (fun j hj => by have := HSS.out _ (getD_mem hj); exact ⟨by omega, by omega⟩)
        rw [List.length_map, hlen] at hin
        rw [List.length_map, hlen]
        have HIN := Lib.hid hin; clear hin HV
        go_wp2_with fail
        refine (largest0_c n a5 i c5 _ _ (HIN.out.keep ((Ext.refl wr).alloc _).ik) HOK.out.1 HOK.out.2.1 HSS.out (by have := HBIG.out; omega) hm3).mono ?_
        rintro e w3 ⟨gp, rfl, hgp, hrow, hx⟩
        have hpl : (largestF n (Ls.map sumI)).length = i := by rw [largestF_length, List.length_map, hlen]
        have hpn : ∀ j, j < i → 0 ≤ (largestF n (Ls.map sumI)).getD j 0 ∧ (largestF n (Ls.map sumI)).getD j 0 ≤ n := fun j hj => by
          have h1 := largestF_nonneg (w := Ls.map sumI) HOK.out.1 (fun x hx => (HSS.out x hx).1)
          have h2 := mem_le_sum (l := largestF n (Ls.map sumI)) (fun x hx => by obtain ⟨k, _, rfl⟩ := mem_getD hx; exact h1 k) (getD_mem (by omega : j < _))
          rw [largestF_sum (fun x hx => (HSS.out x hx).1) HP.out] at h2
          exact ⟨h1 j, h2⟩
        have hG0 : GOut (wr.alloc (.cells #[] 22)) w.heap.size (.slice (some ⟨wr.heap.size, 0, none⟩) 0 0) [] [] := GOut.empty HE2.out.size (Blk.at _ _ rfl)
        have HST := Lib.hid (show GOut w3 w.heap.size (.slice (some ⟨wr.heap.size, 0, none⟩) 0 0) [] [] ∧ Ext w w3 ∧ IRow w3 gp (largestF n (Ls.map sumI)) from ⟨hG0.ext hx, (HE2.out.alloc _).trans hx, hrow⟩)
        have hnl := nestedF_length n Ls
        have hna := fun j (hj : j < i) => nestedF_at n Ls j (by omega)
        rw [hlen] at hnl
        generalize nestedF n Ls = Fs at *
        have HPL := Lib.hid hpl; have HPN := Lib.hid hpn; have HNA := Lib.hid hna; have HNL := Lib.hid hnl
        simp only [World.size_alloc] at hgp
        clear hG0 hx hrow hpl hpn hna hnl HIN
        generalize largestF n (Ls.map sumI) = P at *
        go_wp2_with fail
        go_loopw [10, 36] (fun ov v ws => ∃ (k : Nat) (bs : List Nat), k ≤ i ∧ v = .int .i64 (k : Int) ∧ GOut ws w.heap.size ov bs (Fs.take k) ∧ Ext w ws ∧ IRow ws gp P ∧ ov.ownBlock ≠ some gp) (fun _ v _ => i - (intOf v).toNat)
        case atStart => exact ⟨0, [], by omega, rfl, HST.out.1, HST.out.2.1, HST.out.2.2, by simp [Value.ownBlock]; omega⟩
        case round =>
          obtain ⟨k, bs, hk, rfl, hG, hE, hP, hob⟩ := hrel
          have HG := Lib.hid hG; have HE4 := Lib.hid hE; have HPR := Lib.hid hP; clear hG hE hP HST
          by_cases hlt2 : k < i
          · obtain ⟨b, off, rfl, hb, hc⟩ := (H.out.ext HE4.out).at k hlt2
            have hin := (H.out.2.2.2.2 k hlt2).keep HE4.out.ik
            have hgl := HGL.out k hlt2
            have hll := HL.out hm3 k hlt2
            have hsv := HSB.out k hlt2
            have hna := HNA.out k hlt2
            have hpk := HPN.out k hlt2
            have cp := IRow.cell HPR.out k (by rw [HPL.out]; exact hlt2)
            have htk : Fs.take (k + 1) = Fs.take k ++ [Fs.getD k []] := by
              have e1 : Fs.getD k [] = Fs[k]'(by rw [HNL.out]; exact hlt2) := by simp [List.getD_eq_getElem?_getD, show k < Fs.length by rw [HNL.out]; exact hlt2]
              rw [List.take_succ_eq_append_getElem (by rw [HNL.out]; exact hlt2), e1]
            rw [hna] at htk
            generalize gs.getD k sl0 = gg at *
            generalize Ls.getD k [] = l at *
            generalize P.getD k 0 = pk at *
            obtain ⟨qa, qn, qc⟩ := gg
            simp only at hin hc
            have hln := hin.1
            have HIN := Lib.hid hin; have HTK := Lib.hid htk; have HGLI := Lib.hid hgl
            clear hin htk hgl hna
            have hfl : (Fs.take k).length = k := by rw [List.length_take, HNL.out]; omega
            have t0 : (k : Int) < (i : Int) := by omega
            have lp := HPR.out.lt
            go_wp2_with fail
            refine (largest0_c pk qa qn qc l _ HIN.out hpk.1 (by have := HOK.out.2.1; omega) (fun x hx => by have := HGLI.out x hx; omega) (by omega) (by omega)).mono ?_
            rintro e w6 ⟨g, rfl, hgs, hrow, hx6⟩
            have hFl : (largestF pk l).length = qn := by rw [largestF_length]; exact hln
            have hs6 := hx6.size
            have hse := HE4.out.size
            have HG6 := Lib.hid (And.intro hrow (And.intro (HE4.out.trans hx6) (And.intro (HPR.out.ext hx6) hx6)))
            have HOWN := Lib.hid (owns_ext hx6 HG.out.2.1)
            generalize hF : largestF pk l = F at *
            have HFF := Lib.hid hF
            have HOB := Lib.hid hob
            clear hrow hx6 hF hob
            generalize Fs.take k = T at *
            have HFLN := Lib.hid hfl; clear hfl
            obtain ⟨XS, tl, hXS, htl, hOW⟩ : ∃ (XS : List Value) (tl : Nat), XS = ((List.range T.length).map fun i => Value.slice (some ⟨bs.getD i 0, 0, none⟩) (T.getD i []).length (T.getD i []).length) ∧ tl = T.length ∧ w6.ownsRow w.heap.size 22 1 u10 tl XS := ⟨_, _, rfl, rfl, HOWN.out⟩
            have htl2 : tl ≤ 19 := by rw [htl, HFLN.out]; omega
            have HXS := Lib.hid hXS; have HTL := Lib.hid htl; have HOW := Lib.hid hOW; clear hXS htl hOW HOWN
            go_wp2_with (refine wpList_append_lies _ rfl _ _ _ rfl w.heap.size 22 j0 _ 1 24 Try.underlying25 hj0 hy0 hy1 hy2 rfl (by omega) _ tl XS rfl (owns_ext ((Ext.refl w6).alloc _) HOW.out) ⟨w6.heap.size, 0, none⟩ 1 1 [.slice (some ⟨g, 0, none⟩) qn qn] rfl rfl (World.news_of_block (cs := #[.slice (some ⟨g, 0, none⟩) qn qn]) (t := 22) (fr := (0, 0)) (heap_alloc_new w6 _)) (by simp [Value.oneCell']) (by omega) (by rw [maxLen]; omega) (by omega) (by simp; omega) _ rfl ?_)
            intro g2 cap w1 hown hgrow hat hlt1
            have hxw := (Ext.refl w6).alloc (.cells #[.slice (some ⟨g, 0, none⟩) qn qn] 22)
            rw [HXS.out, HTL.out] at hown
            have hA := GOut.app HG.out (HG6.out.2.2.2.trans hxw) (HG6.out.1.ext hxw) hgs hFl hown hgrow (hat.imp id (fun h => by rw [h]; simp))
            have hgpl := HG6.out.2.2.1.lt
            have hP1 : IRow w1 gp P := by
              have h0 := HG6.out.2.2.1.ext hxw
              have hlt := h0.lt
              unfold IRow Blk at h0 ⊢
              rw [hgrow.block gp hlt (fun e => HOB.out e.symm)]; exact h0
            have hE1 : Ext w w1 := ext_grown (HG6.out.2.1.trans hxw) hgrow (fun g hg => (owns_lt HG.out.2.1 hg).1)
            have hob1 : (Value.slice (some ⟨g2, 0, none⟩) (tl + 1) cap).ownBlock ≠ some gp := fun e => by
              simp [Value.ownBlock] at e
              rcases hat with hat | hat
              · rw [hat, e] at HOB; exact HOB.out rfl
              · omega
            rw [← HTL.out] at hA
            have HR := Lib.hid (And.intro hA (And.intro hE1 (And.intro hP1 hob1)))
            clear hown hgrow hat hA hE1 hP1 hob1 hxw
            go_wp2_with fail
            go_roundw
            case rel => exact ⟨k + 1, _, by omega, by go_num, by rw [HTK.out]; exact HR.out.1, HR.out.2⟩
            case measure => simp [intOf]; omega
          · obtain rfl : k = i := by omega
            rw [List.take_of_length_le (by rw [HNL.out]; exact Nat.le_refl _)] at HG
            go_wp2_with fail
            go_ret2
            exact ⟨HE4.out, .inr ⟨H0.out, _, bs, rfl, HG.out⟩⟩
  · have h0' : (errF n Ls.flatten m != 0) = true := by rw [bne_iff_ne]; exact h0
    have H0 := Lib.hid h0; clear h0
    generalize errF n Ls.flatten m = er at *
    go_wp2_with fail
    go_ret2
    exact ⟨HE.out, .inl ⟨H0.out, rfl⟩⟩
end Go.Proofs.Ytlnmgcmpbbklhaa
