/- share: Check; meresmanref27: Check. -/
import Derived.Test.YtlnmgcmpbbklhaaS13
import Derived.Test.YtlnmgcmpbbklhaaWSkip
namespace Go.Proofs.Ytlnmgcmpbbklhaa
set_option linter.unusedSimpArgs false
set_option linter.unusedVariables false
open Go.RowKit

def outF (q : Int) (x : Int) : Bool := decide (x < 0 ∨ q < x)
theorem bound_c (x q : Int) (nb : Nat) (w : World) (hq : w.cell? ⟨nb, 0, none⟩ = some (.int .i64 q)) : Calls Try.prog 38 #[.int .i64 x, .pointer (some ⟨nb, 0, none⟩)] w fun e w' => e = .returned (.bool (outF q x)) ∧ Ext w w' := by
  have hl := lt_of_cell hq
  have hk : (x < 0 ∧ outF q x = true) ∨ (¬ x < 0 ∧ q < x ∧ outF q x = true) ∨ (¬ x < 0 ∧ ¬ q < x ∧ outF q x = false) := by
    unfold outF
    by_cases h1 : x < 0
    · left; exact ⟨h1, by simp [h1]⟩
    · by_cases h2 : q < x
      · right; left; exact ⟨h1, h2, by simp [h2]⟩
      · right; right; exact ⟨h1, h2, by simp; omega⟩
  rcases hk with ⟨k1, hf⟩ | ⟨k1, k2, hf⟩ | ⟨k1, k2, hf⟩
  all_goals
    have HF := Lib.hid hf; clear hf
    go_enter Try.func38, Try.ntmps38
    go_wp2
    go_ret
    exact ⟨by rw [HF.out]; rfl, (by repeat (first | exact Ext.refl _ | assumption | refine Ext.setCell ?_ (by first | (simp; done) | (simp; omega) | omega) _ | refine Ext.alloc ?_ _ | refine Ext.drew ?_ | refine Ext.trans ?_ (by assumption)))⟩
set_option maxHeartbeats 1000000 in
theorem index2_c (a : Option Addr) (n c : Nat) (zs : List Int) (w : World) (h : Ints w a n zs) (q : Int) (nb : Nat) (hq : w.cell? ⟨nb, 0, none⟩ = some (.int .i64 q)) :
    Calls Try.prog 55 #[.slice a n c, .func (.func 38) #[] #[.pointer (some ⟨nb, 0, none⟩)]] w fun e w' => ∃ r : Int, e = .returned (.int .i64 r) ∧ -1 ≤ r ∧ r ≤ n ∧ decide (0 ≤ r) = zs.any (outF q) ∧ Ext w w' := by
  have H := Lib.hid h; have hn := h.2.1; have HQ := Lib.hid hq; clear h hq
  go_enter Try.func55, Try.ntmps55
  go_wp2_with fail
  go_loopw [8] (fun v ws => ∃ i : Nat, i ≤ n ∧ v = .int .i64 (i : Int) ∧ (zs.take i).any (outF q) = false ∧ Ext w ws) (fun v _ => n - (intOf v).toNat)
  case atStart => exact ⟨0, by omega, rfl, by simp, Ext.refl w⟩
  case round =>
    obtain ⟨i, hi, rfl, hz, hE⟩ := hrel
    have HE := Lib.hid hE; clear hE
    by_cases hlt : i < n
    · obtain ⟨b, off, rfl, hbl, hc⟩ := Ints.at (H.out.keep HE.out.ik) i hlt
      have htk : zs.take (i + 1) = zs.take i ++ [zs.getD i 0] := by
        rw [List.take_succ_eq_append_getElem (by rw [H.out.1]; exact hlt)]
        simp [List.getD_eq_getElem?_getD, show i < zs.length by rw [H.out.1]; exact hlt]
      have hmem : zs.getD i 0 ∈ zs := by
        rw [List.getD_eq_getElem?_getD, List.getElem?_eq_getElem (by rw [H.out.1]; exact hlt)]; exact List.getElem_mem _
      generalize zs.getD i 0 = z at *
      have HZ := Lib.hid hz; have HTK := Lib.hid htk; have HM := Lib.hid hmem; clear hz htk hmem
      have t0 : (i : Int) < (n : Int) := by omega
      obtain ⟨bz, hbz⟩ : ∃ x, (outF q) z = x := ⟨_, rfl⟩
      have HB := Lib.hid hbz; clear hbz
      cases bz
      · go_wp2_with fail
        refine (bound_c z q nb _ (HE.out.cell HQ.out)).mono ?_
        rw [HB.out]
        rintro e w2 ⟨rfl, hx2⟩
        have HE2 := Lib.hid (HE.out.trans hx2); clear hx2
        go_wp2_with fail
        go_roundw
        case rel => exact ⟨i + 1, by omega, by go_num, by rw [HTK.out, List.any_append, HZ.out]; simp [HB.out], HE2.out⟩
        case measure => simp [intOf]; omega
      · go_wp2_with fail
        refine (bound_c z q nb _ (HE.out.cell HQ.out)).mono ?_
        rw [HB.out]
        rintro e w2 ⟨rfl, hx2⟩
        have HE2 := Lib.hid (HE.out.trans hx2); clear hx2
        go_wp2_with fail
        go_ret
        refine ⟨(i : Int), rfl, by omega, by omega, ?_, HE2.out⟩
        have : zs.any (outF q) = true := List.any_eq_true.2 ⟨z, HM.out, HB.out⟩
        rw [this]; simp
    · obtain rfl : i = n := by omega
      rw [List.take_of_length_le (by rw [H.out.1]; exact Nat.le_refl _)] at hz
      have HZ := Lib.hid hz; clear hz
      go_wp2_with fail
      go_ret
      exact ⟨-1, rfl, by omega, by omega, by rw [HZ.out]; rfl, HE.out⟩
theorem contains2_c (a : Option Addr) (n c : Nat) (zs : List Int) (w : World) (h : Ints w a n zs) (q : Int) (nb : Nat) (hq : w.cell? ⟨nb, 0, none⟩ = some (.int .i64 q)) :
    Calls Try.prog 37 #[.slice a n c, .func (.func 38) #[] #[.pointer (some ⟨nb, 0, none⟩)]] w fun e w' => e = .returned (.bool (zs.any (outF q))) ∧ Ext w w' := by
  have H := Lib.hid h; have HQ := Lib.hid hq; clear h hq
  go_enter Try.func37, Try.ntmps37
  go_wp2_with fail
  refine (index2_c a n c zs _ H.out q nb HQ.out).mono ?_
  rintro e w2 ⟨r, rfl, h1, h2, h3, hx2⟩
  have H3 := Lib.hid h3; clear h3
  go_wp2_with fail
  go_ret
  exact ⟨by rw [← H3.out]; rfl, hx2⟩

/-- Whether a part is further than one from its quota. -/
def offF (n al x p : Int) : Bool := decide (p < n * x / al ∨ n * x / al + (if n * x % al = 0 then 0 else 1) < p)
def offs (n : Int) (l ps : List Int) (i : Nat) : Bool := (List.range i).any fun j => offF n (if 1 < sumI l then sumI l else 1) (l.getD j 0) (ps.getD j 0)
theorem offs_succ (n : Int) (l ps : List Int) (i : Nat) : offs n l ps (i + 1) = (offs n l ps i || offF n (if 1 < sumI l then sumI l else 1) (l.getD i 0) (ps.getD i 0)) := by
  unfold offs; rw [List.range_succ, List.any_append]; simp
theorem offs_mono (n : Int) (l ps : List Int) (i k : Nat) (h : offs n l ps i = true) (hk : i ≤ k) : offs n l ps k = true := by
  unfold offs at *
  obtain ⟨j, hj, h2⟩ := List.any_eq_true.1 h
  exact List.any_eq_true.2 ⟨j, List.mem_range.2 (by have := List.mem_range.1 hj; omega), h2⟩
/-- What 'Check' answers. -/
def checkF (n : Int) (l ps : List Int) : Int :=
  if errF n l 1 ≠ 0 then errF n l 1 else if ps.length ≠ l.length then 1 else if ps.any (outF n) = true then 1 else if sumI ps ≠ n then 24 else if offs n l ps l.length = true then 14 else 0
theorem offF_cases (n al x p : Int) (q r : Int) (hq : n * x / al = q) (hr : n * x % al = r) (h0 : 0 ≤ r) :
    (p < q ∧ offF n al x p = true) ∨ (¬ p < q ∧ r = 0 ∧ q < p ∧ offF n al x p = true) ∨ (¬ p < q ∧ r = 0 ∧ ¬ q < p ∧ offF n al x p = false) ∨
    (¬ p < q ∧ 1 ≤ r ∧ q + 1 < p ∧ offF n al x p = true) ∨ (¬ p < q ∧ 1 ≤ r ∧ ¬ q + 1 < p ∧ offF n al x p = false) := by
  unfold offF
  rw [hq, hr]
  by_cases h1 : p < q
  · left; exact ⟨h1, by simp [h1]⟩
  · by_cases h2 : r = 0
    · subst h2
      by_cases h3 : q < p
      · right; left; exact ⟨h1, rfl, h3, by simp; omega⟩
      · right; right; left; exact ⟨h1, rfl, h3, by simp; omega⟩
    · by_cases h3 : q + 1 < p
      · right; right; right; left; exact ⟨h1, by omega, h3, by simp [h2]; omega⟩
      · right; right; right; right; exact ⟨h1, by omega, h3, by simp [h2]; omega⟩
theorem all_lt {n : Int} {l : List Int} (h : errF n l 1 = 0) {x : Int} (hx : x ∈ l) : 0 ≤ x ∧ x ≤ (if 1 < sumI l then sumI l else 1) := by
  have hg := good_of_any (errF_ok h).2.2.1
  have h1 := mem_le_sum (l := l) (fun y hy => (hg y hy).1) hx
  have h2 := hg x hx
  split <;> omega
theorem any_bd {n : Int} {ps : List Int} (h : ps.any (outF n) = false) : ∀ x, x ∈ ps → 0 ≤ x ∧ x ≤ n := fun x hx => by
  have := List.any_eq_false.1 h x hx
  unfold outF at this
  simp at this
  omega
theorem sum_small {n : Int} {ps : List Int} (h : ∀ x, x ∈ ps → 0 ≤ x ∧ x ≤ n) (hn : n ≤ 1099511627776) (hl : ps.length ≤ 19) (i : Nat) : Int64 (sumI (ps.take i)) := by
  have h2 : (ps.take i).length ≤ 19 := by rw [List.length_take]; omega
  have h3 := sum_bdB (B := 1099511627776) (ps.take i) fun x hx => by have := h x (List.mem_of_mem_take hx); omega
  exact ⟨by omega, by omega⟩
theorem al_bd {n : Int} {l : List Int} (h : errF n l 1 = 0) (hl : l.length ≤ 19) : 1 ≤ (if 1 < sumI l then sumI l else 1) ∧ (if 1 < sumI l then sumI l else 1) ≤ 8589934592 := by
  have := sum_bd l (good_of_any (errF_ok h).2.2.1)
  split <;> omega
set_option maxRecDepth 100000 in
set_option maxHeartbeats 4000000 in
theorem Check_c (n : Int) (a : Option Addr) (m c : Nat) (l : List Int) (a2 : Option Addr) (m2 d : Nat) (ps : List Int) (w : World) (h : Ints w a m l) (h2 : Ints w a2 m2 ps) (hm : m ≤ 19) :
    Calls Try.prog 25 #[.int .i64 n, .slice a m c, .slice a2 m2 d] w fun e w' => e = .returned (.int .i64 (checkF n l ps)) ∧ Ext w w' := by
  have H := Lib.hid h; have H2 := Lib.hid h2
  have hlen := h.1
  have hlen2 := h2.1
  have HF := Lib.hid (checkF.eq_1 n l ps)
  clear h h2
  go_enter Try.func25, Try.ntmps25
  go_wp2_with fail
  refine (check_c n _ 1 1 [⟨a, m, c⟩] [l] _ (Grps.one (Blk.at _ _ (by simp)).at' (H.out.keep (((Ext.refl w).alloc _).alloc _).ik)) (by simp [lens, sumI]; omega)).mono ?_
  rw [show ([l] : List (List Int)).flatten = l by simp]
  rintro e w2 ⟨rfl, hx⟩
  have cn : w2.cell? ⟨w.heap.size, 0, none⟩ = some (.int .i64 n) := hx.cell (by go_simp)
  have hE : Ext w w2 := (((Ext.refl w).alloc _).alloc _).trans hx
  have ln := lt_of_cell cn
  have HE := Lib.hid hE; clear hx hE
  by_cases h0 : errF n l 1 = 0
  · have hok := errF_ok h0
    have hal := al_bd h0 (by omega)
    have hxl := fun x hx => all_lt h0 (x := x) hx
    have hgl := good_of_any hok.2.2.1
    rw [h0] at HF
    have hn0 := hok.1
    have hn1 := hok.2.1
    have HXL := Lib.hid hxl; have HGL := Lib.hid hgl
    rw [h0]
    clear hok hxl hgl
    have hof := offs_succ n l ps
    have hom := offs_mono n l ps
    obtain ⟨s, hs⟩ : ∃ s, sumI l = s := ⟨_, rfl⟩
    rw [hs] at hal
    simp only [hs] at hof
    obtain ⟨al, hale⟩ : ∃ x, (if 1 < s then s else 1) = x := ⟨_, rfl⟩
    rw [hale] at hal
    simp only [hale] at hof
    have hxl2 := HXL.out
    simp only [hs, hale] at hxl2
    have HXL2 := Lib.hid hxl2
    have HOF := Lib.hid hof; have HOM := Lib.hid hom; have HS := Lib.hid hs; have HALE := Lib.hid hale
    clear hof hom hs hale hxl2
    obtain ⟨hal1, hal2⟩ := hal
    rw [if_neg (by simp)] at HF
    by_cases hml : m2 = m
    · subst hml
      rw [if_neg (by omega)] at HF
      obtain ⟨bb, hbb⟩ : ∃ x, ps.any (outF n) = x := ⟨_, rfl⟩
      have HB := Lib.hid hbb
      rw [hbb] at HF
      cases bb
      · have hpb := any_bd hbb
        have hsm := sum_small hpb hn1 (by omega)
        have HPB := Lib.hid hpb; have HSM := Lib.hid hsm
        clear hpb hsm hbb
        rw [if_neg (by simp)] at HF
        go_wp2_with fail
        refine (contains2_c a2 m2 d ps _ (H2.out.keep HE.out.ik) n w.heap.size cn).mono ?_
        rw [HB.out]
        rintro e w3 ⟨rfl, hx⟩
        have cn3 := hx.cell cn
        have HE3 := Lib.hid (HE.out.trans hx)
        have ln3 := lt_of_cell cn3
        clear hx cn
        obtain ⟨sp, hsp⟩ : ∃ x, sumI ps = x := ⟨_, rfl⟩
        rw [hsp] at HF
        have HSP := Lib.hid hsp
        have E0 : Ext w3 w3 := Ext.refl _
        clear hsp
        go_upto_region 6 with (fail)
        refine wp_region_held_drew (S := fun w' => Ext w3 w' ∧ w'.cell? ⟨w.heap.size, 0, none⟩ = some (.int .i64 n)) (by kernel_rfl) ?_ (fun hHeld => ?_)
        · exact ⟨E0.drew, cn3⟩
        refine takeL (i := 0) (v := ?_) rfl (by kernel_rfl) (by kernel_rfl) (by kernel_rfl) (fun _ _ _ h => h) (Or.inl ⟨by rfl, ?_⟩) (by assumption) ?_; rotate_left; (focus (intro wq hSw; (try dsimp only at hSw); go_simp; try with_reducible rfl)); (try simp only [Act.put, List.setIfInBounds_toArray, List.set_cons_zero, List.set_cons_succ])
        refine takeL (i := 2) (v := ?_) rfl (by kernel_rfl) (by kernel_rfl) (by kernel_rfl) (fun _ _ _ h => h) (Or.inl ⟨by rfl, ?_⟩) (by assumption) ?_; rotate_left; (focus (intro wq hSw; (try dsimp only at hSw); go_simp; try with_reducible rfl)); (try simp only [Act.put, List.setIfInBounds_toArray, List.set_cons_zero, List.set_cons_succ])
        refine consL (i := 1) (by kernel_rfl) rfl (fun K hK => ?_); go_simp; go_at_call 36; refine (ssum_c a2 m2 d ps _ (H2.out.keep (Ext.ik (Ext.trans HE3.out (And.left (by assumption))))) HSM.out).mono ?_; rw [HSP.out]; rintro e w4 ⟨rfl, hx4⟩; go_wp2_with fail; refine hK.out _ _ ?_ (fun hHeld => ?_); rotate_left; clear hK K; rotate_right; (focus (try dsimp only); refine (fun hq => ⟨hq, Ext.cell hq cn3⟩ : Ext w3 _ → _) ?_; repeat' (first | with_reducible assumption | with_reducible exact And.left (by assumption) | with_reducible refine Ext.drew ?_ | with_reducible refine Ext.alloc ?_ _ | with_reducible exact Ext.trans (And.left (by assumption)) (by assumption))); (try simp only [Act.put, List.setIfInBounds_toArray, List.set_cons_zero, List.set_cons_succ])
        refine takeL (i := 3) (v := ?_) rfl (by kernel_rfl) (by kernel_rfl) (by kernel_rfl) (fun _ _ _ h => h) (Or.inl ⟨by rfl, ?_⟩) (by assumption) ?_; rotate_left; (focus (intro wq hSw; (try dsimp only at hSw); go_simp; try with_reducible rfl)); (try simp only [Act.put, List.setIfInBounds_toArray, List.set_cons_zero, List.set_cons_succ])
        refine doneL (by kernel_rfl) ?_
        have HE4 := Lib.hid (HE3.out.trans (And.left hHeld))
        have cn4 := And.right hHeld
        have ln4 := lt_of_cell cn4
        clear hHeld hx4 E0 cn3
        by_cases hsn : n = sp
        · subst hsn
          rw [if_neg (by simp)] at HF
          go_wp2_with fail
          refine (ssum_c a m2 c l _ (H.out.keep HE4.out.ik) (parts_bd HGL.out (by omega))).mono ?_
          rw [HS.out]
          rintro e w5 ⟨rfl, hx5⟩
          have cn5 := hx5.cell cn4
          have HE5 := Lib.hid (HE4.out.trans hx5)
          clear hx5 cn4
          have hale2 := HALE.out
          go_upto_region 10 with (fail)
          clear hale2
          go_loopw [39] (fun v ws => ∃ i : Nat, i ≤ m2 ∧ v = .int .i64 (i : Int) ∧ offs n l ps i = false ∧ ws.cell? ⟨w.heap.size, 0, none⟩ = some (.int .i64 n) ∧ Ext w ws) (fun v _ => m2 - (intOf v).toNat)
          case atStart => exact ⟨0, by omega, rfl, rfl, cn5, HE5.out⟩
          case round =>
            obtain ⟨i, hi, rfl, hz, cnr, hE⟩ := hrel
            have HZ := Lib.hid hz; have HEr := Lib.hid hE
            clear hz
            by_cases hlt : i < m2
            · have t0 : (i : Int) < (m2 : Int) := by omega
              have t1 : (0 : Int) ≤ (i : Int) := by omega
              obtain ⟨b, off, rfl, hb, hc⟩ := (H.out.keep hE.ik).at i hlt
              obtain ⟨b2, off2, rfl, hb2, hc2⟩ := (H2.out.keep hE.ik).at i hlt
              have lnr := lt_of_cell cnr
              have hx := HXL2.out _ (getD_mem (l := l) (i := i) (by omega))
              have hp := HPB.out _ (getD_mem (l := ps) (i := i) (by omega))
              have hof := HOF.out i
              generalize l.getD i 0 = x at *
              generalize ps.getD i 0 = p at *
              have hqb := quo_bd (n := n) (x := x) (all := al) hn0 hx.1 hx.2 hal1
              have hr0 := Int.emod_nonneg (n * x) (show al ≠ 0 by omega)
              have hr1 := Int.emod_lt_of_pos (n * x) (show 0 < al by omega)
              obtain ⟨q, hq⟩ : ∃ q, n * x / al = q := ⟨_, rfl⟩
              obtain ⟨r, hr⟩ : ∃ r, n * x % al = r := ⟨_, rfl⟩
              have hca := offF_cases n al x p q r hq hr (by omega)
              rw [hq] at hqb
              rw [hr] at hr0 hr1
              have HQ := Lib.hid hq; have HR := Lib.hid hr; have HOF1 := Lib.hid hof
              clear hq hr hof hE
              have E0 : Ext wr wr := Ext.refl _
              have e1 : IntKind.i64.wrap (q + 1) = q + 1 := IntWalk.i64_in _ (by omega)
              have e2 : IntKind.i64.wrap (q + 0) = q := by rw [Int.add_zero]; exact IntWalk.i64_in _ (by omega)
              have e3 : IntKind.i64.wrap q = q := IntWalk.i64_in _ (by omega)
              go_upto_region 12 with (fail)
              refine wp_region_held_drew (S := fun w' => Ext wr w' ∧ w'.cell? ⟨w.heap.size, 0, none⟩ = some (.int .i64 n) ∧ w'.cell? ⟨b, off + i, none⟩ = some (.int .i64 x)) (by kernel_rfl) ?_ (fun hHeld => ?_)
              · exact ⟨E0.drew, cnr, hc⟩
              refine takeL (i := 0) (v := ?_) rfl (by kernel_rfl) (by kernel_rfl) (by kernel_rfl) (fun _ _ _ h => h) (Or.inl ⟨by rfl, ?_⟩) (by assumption) ?_; rotate_left; (focus (intro wq hSw; (try dsimp only at hSw); go_simp; try with_reducible rfl)); (try simp only [Act.put, List.setIfInBounds_toArray, List.set_cons_zero, List.set_cons_succ])
              refine takeL (i := 1) (v := ?_) rfl (by kernel_rfl) (by kernel_rfl) (by kernel_rfl) (fun _ _ _ h => h) (Or.inl ⟨by rfl, ?_⟩) (by assumption) ?_; rotate_left; (focus (intro wq hSw; (try dsimp only at hSw); go_simp; try with_reducible rfl)); (try simp only [Act.put, List.setIfInBounds_toArray, List.set_cons_zero, List.set_cons_succ])
              refine takeL (i := 2) (v := ?_) rfl (by kernel_rfl) (by kernel_rfl) (by kernel_rfl) (fun _ _ _ h => h) (Or.inl ⟨by rfl, ?_⟩) (by assumption) ?_; rotate_left; (focus (intro wq hSw; (try dsimp only at hSw); go_simp; try with_reducible rfl)); (try simp only [Act.put, List.setIfInBounds_toArray, List.set_cons_zero, List.set_cons_succ])
              refine takeL (i := 3) (v := ?_) rfl (by kernel_rfl) (by kernel_rfl) (by kernel_rfl) (fun _ _ _ h => h) (Or.inl ⟨by rfl, ?_⟩) (by assumption) ?_; rotate_left; (focus (intro wq hSw; (try dsimp only at hSw); go_simp; try with_reducible rfl)); (try simp only [Act.put, List.setIfInBounds_toArray, List.set_cons_zero, List.set_cons_succ])
              refine takeL (i := 4) (v := ?_) rfl (by kernel_rfl) (by kernel_rfl) (by kernel_rfl) (fun _ _ _ h => h) (Or.inl ⟨by rfl, ?_⟩) (by assumption) ?_; rotate_left; (focus (intro wq hSw; (try dsimp only at hSw); go_simp; try with_reducible rfl)); (try simp only [Act.put, List.setIfInBounds_toArray, List.set_cons_zero, List.set_cons_succ])
              refine takeL (i := 5) (v := ?_) rfl (by kernel_rfl) (by kernel_rfl) (by kernel_rfl) (fun _ _ _ h => h) (Or.inl ⟨by rfl, ?_⟩) (by assumption) ?_; rotate_left; (focus (intro wq hSw; (try dsimp only at hSw); go_simp; try with_reducible rfl)); (try simp only [Act.put, List.setIfInBounds_toArray, List.set_cons_zero, List.set_cons_succ])
              refine consL (i := 6) (by kernel_rfl) rfl (fun K hK => ?_); go_simp; go_at_call 39; refine (quota_c n x al _ hn0 hn1 hx.1 (by omega) hal1 hal2 hx.2).mono ?_; rw [HQ.out, HR.out]; rintro e w6 ⟨rfl, hx6⟩; replace hx6 := hx6.ext; go_wp2_with fail; refine hK.out _ _ ?_ (fun hHeld => ?_); rotate_left; clear hK K; rotate_right; (focus (try dsimp only); refine (fun hq => ⟨hq, Ext.cell hq cnr, Ext.cell hq hc⟩ : Ext wr _ → _) ?_; repeat' (first | with_reducible assumption | with_reducible exact And.left (by assumption) | with_reducible refine Ext.drew ?_ | with_reducible refine Ext.alloc ?_ _ | with_reducible exact Ext.trans (And.left (by assumption)) (by assumption))); (try simp only [Act.put, List.setIfInBounds_toArray, List.set_cons_zero, List.set_cons_succ])
              refine takeL (i := 7) (v := ?_) rfl (by kernel_rfl) (by kernel_rfl) (by kernel_rfl) (fun _ _ _ h => h) (Or.inl ⟨by rfl, ?_⟩) (by assumption) ?_; rotate_left; (focus (intro wq hSw; (try dsimp only at hSw); go_simp; try with_reducible rfl)); (try simp only [Act.put, List.setIfInBounds_toArray, List.set_cons_zero, List.set_cons_succ])
              refine takeL (i := 8) (v := ?_) rfl (by kernel_rfl) (by kernel_rfl) (by kernel_rfl) (fun _ _ _ h => h) (Or.inl ⟨by rfl, ?_⟩) (by assumption) ?_; rotate_left; (focus (intro wq hSw; (try dsimp only at hSw); go_simp; try with_reducible rfl)); (try simp only [Act.put, List.setIfInBounds_toArray, List.set_cons_zero, List.set_cons_succ])
              refine takeL (i := 9) (v := ?_) rfl (by kernel_rfl) (by kernel_rfl) (by kernel_rfl) (fun _ _ _ h => h) (Or.inl ⟨by rfl, ?_⟩) (by assumption) ?_; rotate_left; (focus (intro wq hSw; (try dsimp only at hSw); go_simp; try with_reducible rfl)); (try simp only [Act.put, List.setIfInBounds_toArray, List.set_cons_zero, List.set_cons_succ])
              refine consL (i := 10) (by kernel_rfl) rfl (fun K hK => ?_); go_simp; refine hK.out _ _ ?_ (fun hHeld => ?_); rotate_left; clear hK K; rotate_right; (focus (try dsimp only); refine (fun hq => ⟨hq, Ext.cell hq cnr, Ext.cell hq hc⟩ : Ext wr _ → _) ?_; repeat' (first | with_reducible assumption | with_reducible exact And.left (by assumption) | with_reducible refine Ext.drew ?_ | with_reducible refine Ext.alloc ?_ _ | with_reducible exact Ext.trans (And.left (by assumption)) (by assumption))); (try simp only [Act.put, List.setIfInBounds_toArray, List.set_cons_zero, List.set_cons_succ])
              refine consL (i := 11) (by kernel_rfl) rfl (fun K hK => ?_); go_simp; refine hK.out _ _ ?_ (fun hHeld => ?_); rotate_left; clear hK K; rotate_right; (focus (try dsimp only); refine (fun hq => ⟨hq, Ext.cell hq cnr, Ext.cell hq hc⟩ : Ext wr _ → _) ?_; repeat' (first | with_reducible assumption | with_reducible exact And.left (by assumption) | with_reducible refine Ext.drew ?_ | with_reducible refine Ext.alloc ?_ _ | with_reducible exact Ext.trans (And.left (by assumption)) (by assumption))); (try simp only [Act.put, List.setIfInBounds_toArray, List.set_cons_zero, List.set_cons_succ])
              refine doneL (by kernel_rfl) ?_
              have HE6 := Lib.hid (HEr.out.trans (And.left hHeld))
              have cn6 := (And.right hHeld).1
              clear hHeld hx6 E0 cnr hc hc2
              rcases hca with ⟨k1, hf⟩ | ⟨k1, rfl, k3, hf⟩ | ⟨k1, rfl, k3, hf⟩ | ⟨k1, k2, k3, hf⟩ | ⟨k1, k2, k3, hf⟩
              · have hbad : offs n l ps l.length = true := HOM.out (i + 1) l.length (by rw [HOF1.out, hf]; simp) (by omega); rw [if_pos hbad] at HF; clear hbad hf; go_wp2_with fail; go_ret; exact ⟨by rw [HF.out]; rfl, HE6.out⟩
              · have hbad : offs n l ps l.length = true := HOM.out (i + 1) l.length (by rw [HOF1.out, hf]; simp) (by omega); rw [if_pos hbad] at HF; clear hbad hf; go_wp2_with fail; go_ret; exact ⟨by rw [HF.out]; rfl, HE6.out⟩
              · have HGD := Lib.hid (show offs n l ps (i + 1) = false by rw [HOF1.out, hf, HZ.out]; rfl); clear hf; go_wp2_with fail; go_roundw; (case rel => exact ⟨i + 1, by omega, by go_num, HGD.out, cn6, HE6.out⟩); (case measure => simp [intOf]; omega)
              · have hbad : offs n l ps l.length = true := HOM.out (i + 1) l.length (by rw [HOF1.out, hf]; simp) (by omega); rw [if_pos hbad] at HF; clear hbad hf; go_wp2_with fail; go_ret; exact ⟨by rw [HF.out]; rfl, HE6.out⟩
              · have HGD := Lib.hid (show offs n l ps (i + 1) = false by rw [HOF1.out, hf, HZ.out]; rfl); clear hf; go_wp2_with fail; go_roundw; (case rel => exact ⟨i + 1, by omega, by go_num, HGD.out, cn6, HE6.out⟩); (case measure => simp [intOf]; omega)
            · obtain rfl : i = m2 := by omega
              rw [hlen, HZ.out, if_neg (by simp)] at HF
              go_wp2_with fail
              go_ret
              exact ⟨by rw [HF.out]; rfl, HEr.out⟩
        · rw [if_pos (fun h => hsn h.symm)] at HF
          have hsn2 : ¬ sp = n := fun h => hsn h.symm
          go_wp2_with fail
          go_ret
          exact ⟨by rw [HF.out]; rfl, HE4.out⟩
      · rw [if_pos rfl] at HF
        go_wp2_with fail
        refine (contains2_c a2 m2 d ps _ (H2.out.keep HE.out.ik) n w.heap.size cn).mono ?_
        rw [HB.out]
        rintro e w3 ⟨rfl, hx⟩
        have HE3 := Lib.hid (HE.out.trans hx)
        clear hx cn
        go_wp2_with fail
        go_ret
        exact ⟨by rw [HF.out]; rfl, HE3.out⟩
    · rw [if_pos (by omega)] at HF
      have hml2 : ¬ ((m2 : Int) = (m : Int)) := by omega
      go_wp2_with fail
      go_ret
      exact ⟨by rw [HF.out]; rfl, HE.out⟩
  · have h0' : (errF n l 1 != 0) = true := by rw [bne_iff_ne]; exact h0
    rw [if_pos h0] at HF
    have H0 := Lib.hid h0; clear h0
    generalize errF n l 1 = er at *
    go_wp2_with fail
    go_ret
    exact ⟨by rw [HF.out]; rfl, HE.out⟩
end Go.Proofs.Ytlnmgcmpbbklhaa
