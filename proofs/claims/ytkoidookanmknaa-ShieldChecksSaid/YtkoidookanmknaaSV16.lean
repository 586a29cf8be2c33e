/- shield: solve; what is determined, as a span. -/
import Derived.Test.YtkoidookanmknaaSV15
import Derived.Test.YtkoidookanmknaaSV03
namespace Go.Proofs.Ytkoidookanmknaa
set_option linter.unusedSimpArgs false
set_option linter.unusedVariables false
open Go.RowKit

/-- A slice of bools. -/
def Bls (w : World) (a : Option Addr) (n : Nat) (hs : List Bool) : Prop :=
 hs.length = n ∧ (n = 0 ∨ ∃ b off, a = some ⟨b, off, none⟩ ∧ b < w.heap.size ∧ ∀ i, i < n → w.cell? ⟨b, off + i, none⟩ = some (.bool (hs.getD i false)))
theorem Bls.at {w : World} {a : Option Addr} {n : Nat} {hs : List Bool} (h : Bls w a n hs) (i : Nat) (hi : i < n) : ∃ b off, a = some ⟨b, off, none⟩ ∧ b < w.heap.size ∧ w.cell? ⟨b, off + i, none⟩ = some (.bool (hs.getD i false)) := by
 obtain ⟨_, h0 | ⟨b, off, ha, hb, hc⟩⟩ := h
 ·omega
 ·exact ⟨b, off, ha, hb, hc i hi⟩
theorem Bls.ext {w w' : World} {a : Option Addr} {n : Nat} {hs : List Bool} (h : Bls w a n hs) (k : Ext w w') : Bls w' a n hs := by
 obtain ⟨h1, h0 | ⟨b, off, ha, hb, hc⟩⟩ := h
 ·exact ⟨h1, .inl h0⟩
 ·exact ⟨h1, .inr ⟨b, off, ha, Nat.lt_of_lt_of_le hb k.size, fun i hi => k.cell (hc i hi)⟩⟩
/-- The solver's rows behind i sets. -/
def solveR (n : Nat) (Ls : List (List Int)) (hs : List Bool) : Nat → Lds
 | 0 => []
 | i + 1 => if hs.getD i false = true then solveR n Ls hs i else addV n (solveR n Ls hs i) (rowV (Ls.getD i []))
/-- Few sets, or few cells in use. -/
def FewOK (Ls : List (List Int)) : Prop := Ls.length ≤ 12 ∨ ∀ k x, x ∈ Ls.getD k [] → x < 12
theorem nodup_bound : ∀ (k : Nat) (l : List Nat), l.Nodup → (∀ x, x ∈ l → x < k) → l.length ≤ k
 | 0, l, _, h => by
  cases l with
  | nil => exact Nat.le_refl _
  | cons x l => exact absurd (h x List.mem_cons_self) (by omega)
 | k + 1, l, hn, h => by
  by_cases hk : k ∈ l
  ·have h1 := nodup_bound k (l.erase k) (hn.erase k) (fun x hx => by
    have h2 := h x (List.mem_of_mem_erase hx)
    have h3 : x ≠ k := fun e => by subst e; exact (List.Nodup.not_mem_erase hn) hx
    omega)
   rw [List.length_erase_of_mem hk] at h1
   omega
  ·have := nodup_bound k l hn (fun x hx => by
    have h2 := h x hx
    have h3 : x ≠ k := fun e => hk (e ▸ hx)
    omega)
   omega
theorem red_nodup {R : Lds} (h : Red R) : (R.map fun p => p.2).Nodup := by
 rw [List.nodup_iff_pairwise_ne, List.pairwise_map]
 refine List.Pairwise.imp_of_mem ?_ h.2
 intro p q hp hq hpq e
 have h1 := h.1 q hq
 rw [← e, hpq.2] at h1
 exact absurd h1 (by decide)
theorem addV_length (n : Nat) (R : Lds) (v : Vec) : (leadOf (redV R v) 0 n = none → (addV n R v).length = R.length) ∧ (∀ l, leadOf (redV R v) 0 n = some l → (addV n R v).length = R.length + 1) := by
 constructor
 ·intro h; rw [addV_none h]
 ·intro l h; rw [addV_some h]; unfold addR; simp
theorem addV_supp {n m : Nat} {R : Lds} (h : ∀ p, p ∈ R → Supp m p.1) {v : Vec} (hv : Supp m v) : ∀ p, p ∈ addV n R v → Supp m p.1 := by
 cases hl : leadOf (redV R v) 0 n with
 | none => rw [addV_none hl]; exact h
 | some l =>
  rw [addV_some hl]
  have hy := redV_supp R v h hv
  have hrow : Supp m (newRow (redV R v) l) := fun c hc => by unfold newRow; rw [hy c hc]; exact rat_zero_div _
  intro p hp
  rcases List.mem_append.1 hp with hp | hp
  ·obtain ⟨q, hq, rfl⟩ := List.mem_map.1 hp
   exact (h q hq).less hrow _
  ·rw [List.mem_singleton.1 hp]; exact hrow
theorem addV_lt {n m : Nat} {R : Lds} (h : ∀ p, p ∈ R → p.2 < m) {v : Vec} (hl : ∀ l, leadOf (redV R v) 0 n = some l → l < m) : ∀ p, p ∈ addV n R v → p.2 < m := by
 cases h0 : leadOf (redV R v) 0 n with
 | none => rw [addV_none h0]; exact h
 | some l =>
  rw [addV_some h0]
  intro p hp
  rcases List.mem_append.1 hp with hp | hp
  ·obtain ⟨q, hq, rfl⟩ := List.mem_map.1 hp
   exact h q hq
  ·rw [List.mem_singleton.1 hp]; exact hl l h0
/-- What is known of the solver's rows. -/
structure SolveOK (n : Nat) (Ls : List (List Int)) (i : Nat) (R : Lds) : Prop where
 red : Red R
 redz : RedZ R
 sol : Sol R R.length
 le : R.length ≤ i
 le12 : R.length ≤ 12
 supp : ∀ p, p ∈ R → Supp n p.1
 few : (∀ k x, x ∈ Ls.getD k [] → x < 12) → (∀ p, p ∈ R → Supp 12 p.1) ∧ ∀ p, p ∈ R → p.2 < 12
theorem SolveOK.next {n : Nat} {Ls : List (List Int)} {i : Nat} {R : Lds} (h : SolveOK n Ls i R) (hf : FewOK Ls) (hi : i < Ls.length) (l : Nat) (hl : leadOf (redV R (rowV (Ls.getD i []))) 0 n = some l) : R.length + 1 ≤ 12 := by
 rcases hf with h1 | h1
 ·have := h.le; omega
 ·obtain ⟨s1, s2⟩ := h.few h1
  obtain ⟨_, h3, h4, _⟩ := leadOf_some _ _ _ _ hl
  have hv : Supp 12 (rowV (Ls.getD i [])) := rowV_supp (n := 12) (fun x hx => h1 i x hx)
  have hl12 : l < 12 := by
   rcases Nat.lt_or_ge l 12 with h5 | h5
   ·exact h5
   ·exact absurd (redV_supp R _ s1 hv l h5) h4
  have hnd : (l :: R.map fun p => p.2).Nodup := by
   rw [List.nodup_cons]
   refine ⟨fun hm => ?_, red_nodup h.red⟩
   obtain ⟨p, hp, e⟩ := List.mem_map.1 hm
   have := redV_lead R h.red (rowV (Ls.getD i [])) p hp
   rw [e] at this
   exact h4 this
  have := nodup_bound 12 _ hnd (fun x hx => by
   rcases List.mem_cons.1 hx with rfl | hx
   ·exact hl12
   ·obtain ⟨p, hp, rfl⟩ := List.mem_map.1 hx
    exact s2 p hp)
  simpa using this
theorem SolveOK.zero (n : Nat) (Ls : List (List Int)) : SolveOK n Ls 0 [] :=
 ⟨Sol.nil.red, fun p hp => by simp at hp, Sol.nil, Nat.le_refl _, by simp, fun p hp => by simp at hp, fun _ => ⟨fun p hp => by simp at hp, fun p hp => by simp at hp⟩⟩
theorem SolveOK.skip {n : Nat} {Ls : List (List Int)} {i : Nat} {R : Lds} (h : SolveOK n Ls i R) : SolveOK n Ls (i + 1) R := ⟨h.red, h.redz, h.sol, by have := h.le; omega, h.le12, h.supp, h.few⟩
theorem SolveOK.step {n : Nat} {Ls : List (List Int)} {i : Nat} {R : Lds} (h : SolveOK n Ls i R) (hf : FewOK Ls) (hi : i < Ls.length) (hc : ∀ x, x ∈ Ls.getD i [] → x < (n : Int)) : SolveOK n Ls (i + 1) (addV n R (rowV (Ls.getD i []))) := by
 have hle := h.le
 refine ⟨addV_red h.red _, addV_redZ h.redz h.red _, ?_, ?_, ?_, addV_supp h.supp (rowV_supp hc), fun h1 => ?_⟩
 ·cases hl : leadOf (redV R (rowV (Ls.getD i []))) 0 n with
  | none => rw [addV_none hl]; exact h.sol
  | some l =>
   rw [(addV_length n R _).2 l hl, addV_some hl]
   exact (h.sol.add (h.next hf hi l hl) (rowV_zo _) (leadOf_some _ _ _ _ hl).2.2.1).2
 ·cases hl : leadOf (redV R (rowV (Ls.getD i []))) 0 n with
  | none => rw [(addV_length n R _).1 hl]; omega
  | some l => rw [(addV_length n R _).2 l hl]; omega
 ·cases hl : leadOf (redV R (rowV (Ls.getD i []))) 0 n with
  | none => rw [(addV_length n R _).1 hl]; exact h.le12
  | some l => rw [(addV_length n R _).2 l hl]; exact h.next hf hi l hl
 ·obtain ⟨s1, s2⟩ := h.few h1
  have hv : Supp 12 (rowV (Ls.getD i [])) := rowV_supp (n := 12) (fun x hx => h1 i x hx)
  refine ⟨addV_supp s1 hv, addV_lt s2 (fun l hl => ?_)⟩
  rcases Nat.lt_or_ge l 12 with h5 | h5
  ·exact h5
  ·exact absurd (redV_supp R _ s1 hv l h5) (leadOf_some _ _ _ _ hl).2.2.1
theorem solve_ok {n : Nat} {Ls : List (List Int)} (hs : List Bool) (hf : FewOK Ls) (hc : ∀ k x, x ∈ Ls.getD k [] → x < (n : Int)) : ∀ i, i ≤ Ls.length → SolveOK n Ls i (solveR n Ls hs i)
 | 0, _ => SolveOK.zero n Ls
 | i + 1, h => by
  have ih := solve_ok hs hf hc i (by omega)
  unfold solveR
  split
  ·exact ih.skip
  ·exact ih.step hf (by omega) (hc i)
/-- The rows of the published sets. -/
def Pub (Ls : List (List Int)) (hs : List Bool) (m : Nat) (u : Vec) : Prop := ∃ i, i < m ∧ hs.getD i false = false ∧ u = rowV (Ls.getD i [])
theorem solve_span {n : Nat} {Ls : List (List Int)} (hs : List Bool) (hf : FewOK Ls) (hc : ∀ k x, x ∈ Ls.getD k [] → x < (n : Int)) : ∀ i, i ≤ Ls.length → ∀ x, Sp (InR (solveR n Ls hs i)) x ↔ Sp (Pub Ls hs i) x
 | 0, _, x => by
  constructor
  ·exact Sp.mono fun u hu => by obtain ⟨p, hp, _⟩ := hu; cases hp
  ·exact Sp.mono fun u hu => by obtain ⟨i, hi, _⟩ := hu; omega
 | i + 1, h, x => by
  have ih := solve_span hs hf hc i (by omega)
  have hok := solve_ok hs hf hc i (by omega)
  unfold solveR
  by_cases hh : hs.getD i false = true
  ·rw [if_pos hh, ih x]
   constructor
   ·exact Sp.mono fun u hu => by obtain ⟨j, hj, e⟩ := hu; exact ⟨j, by omega, e⟩
   ·refine Sp.mono fun u hu => ?_
    obtain ⟨j, hj, e1, e2⟩ := hu
    by_cases hji : j = i
    ·subst hji; rw [hh] at e1; cases e1
    ·exact ⟨j, by omega, e1, e2⟩
  ·rw [if_neg hh, addV_span hok.supp _ (rowV_supp (hc i))]
   constructor
   ·refine Sp.sub fun u hu => ?_
    rcases hu with hu | rfl
    ·exact Sp.mono (fun v hv => by obtain ⟨j, hj, e⟩ := hv; exact ⟨j, by omega, e⟩) ((ih u).1 (Sp.mem hu))
    ·exact Sp.mem ⟨i, by omega, by simpa using hh, rfl⟩
   ·refine Sp.sub fun u hu => ?_
    obtain ⟨j, hj, e1, e2⟩ := hu
    by_cases hji : j = i
    ·subst hji; exact Sp.mem (.inr e2)
    ·exact Sp.mono (fun v hv => .inl hv) ((ih u).2 (Sp.mem ⟨j, by omega, e1, e2⟩))
/-- A set is determined: its row lies in the span of the published ones. -/
def Det (Ls : List (List Int)) (hs : List Bool) (k : Nat) : Prop := Sp (Pub Ls hs Ls.length) (rowV (Ls.getD k []))
theorem det_iff {n : Nat} {Ls : List (List Int)} (hs : List Bool) (hf : FewOK Ls) (hc : ∀ k x, x ∈ Ls.getD k [] → x < (n : Int)) (k : Nat) : detB (solveR n Ls hs Ls.length) n (Ls.getD k []) = true ↔ Det Ls hs k := by
 have hok := solve_ok hs hf hc Ls.length (Nat.le_refl _)
 unfold Det
 rw [← solve_span hs hf hc Ls.length (Nat.le_refl _), redV_iff hok.red]
 unfold detB
 rw [Bool.not_eq_true', decide_eq_false_iff_not]
 have hbd := leadI_bd (redV (solveR n Ls hs Ls.length) (rowV (Ls.getD k []))) n
 constructor
 ·intro h
  have h1 : leadI (redV (solveR n Ls hs Ls.length) (rowV (Ls.getD k []))) n = -1 := by omega
  unfold leadI at h1
  cases hl : leadOf (redV (solveR n Ls hs Ls.length) (rowV (Ls.getD k []))) 0 n with
  | none =>
   refine funext fun c => ?_
   rcases Nat.lt_or_ge c n with hcn | hcn
   ·exact (leadOf_none _ _ _).1 hl c (by omega) (by omega)
   ·exact redV_supp _ _ hok.supp (rowV_supp (hc k)) c hcn
  | some l => rw [hl] at h1; simp only at h1; omega
 ·intro h
  rw [h, show leadI vzero n = -1 from leadI_none (fun c _ => rfl)]
  omega
set_option maxRecDepth 100000 in
set_option maxHeartbeats 4000000 in
theorem solve_c (n m : Nat) (ss vs : Sl) (gs : List Sl) (Ls : List (List Int)) (ha : Option Addr) (hc : Nat) (hs : List Bool) (w : World) (hG : SheetOK w n ss gs Ls) (hm : Ls.length = m) (hf : FewOK Ls) (hn : n ≤ 1000) (hH : Bls w ha m hs) :
  Calls Try.prog 35 #[.agg #[.int .i64 (n : Int), ss.v, vs.v], .slice ha m hc] w fun e w' => ∃ xb rv lv bs, e = .returned (.pointer (some ⟨xb, 0, none⟩)) ∧ SolAt w' w.heap.size xb n ss vs rv lv (solveR n Ls hs m) bs ∧ Ext w w' := by
 obtain ⟨sa, sn, sc⟩ := ss
 obtain ⟨va, vn, vc⟩ := vs
 have hmn : sn = m := by have := hG.grps.2.1; simp only at this; omega
 subst hmn
 have hm1 := hG.grps.2.2.1
 simp only at hm1
 have hok := solve_ok hs hf (fun k x hx => (hG.cell k x hx).2)
 have H := Lib.hid (And.intro hG (And.intro hH (And.intro hok hf)))
 have HM := Lib.hid hm
 clear hG hH hok hf hm
 obtain ⟨B, hB⟩ : ∃ B, w.heap.size = B := ⟨_, rfl⟩
 simp only [Sl.v]
 go_enter Try.func35, Try.ntmps35
 go_upto_region 2 with (fail)
 refine wp_gen (fun W => Ext w W ∧ Blk W B #[.int .i64 (n : Int), .slice sa sn sc, .slice va vn vc] 31 ∧ Blk W (B + 1) #[.int .i64 (n : Int), .slice sa sn sc, .slice va vn vc, .slice none 0 0, .slice none 0 0] 100) ⟨(by repeat (first | exact Ext.refl _ | assumption | refine Ext.setCell ?_ (by first | (simp; done) | (simp; omega) | omega) _ | refine Ext.alloc ?_ _ | refine Ext.drew ?_ | refine Ext.trans ?_ (by assumption))), (Blk.at _ 31 hB.symm).alloc _, Blk.at _ 100 (by simp [hB])⟩ ?_
 rintro V ⟨E0, B0, B1⟩
 have hS0 : SolAt V w.heap.size (B + 1) n ⟨sa, sn, sc⟩ ⟨va, vn, vc⟩ (.slice none 0 0) (.slice none 0 0) [] [] :=
  ⟨B1, ⟨rfl, .inl ⟨rfl, rfl⟩⟩, VRow.nil _ _, rfl, fun i b p h1 => by simp at h1, by simp, ⟨by omega, fun b hb => by simp at hb⟩, fun p hp => by simp at hp, NUv.nil V, NUv.nil V⟩
 have x1 : V.cell? ⟨B, 1, none⟩ = some (.slice sa sn sc) := B0.cell 1
 have HV := Lib.hid (And.intro E0 hS0)
 clear E0 B0 B1 hS0
 go_upto_region 3 with (fail)
 clear x1
 go_loopw [13] (fun iv ws => ∃ (i : Nat) (rv lv : Value) (bs : List Nat), i ≤ sn ∧ iv = .int .i64 (i : Int) ∧ SolAt ws w.heap.size (B + 1) n ⟨sa, sn, sc⟩ ⟨va, vn, vc⟩ rv lv (solveR n Ls hs i) bs ∧ Ext w ws) (fun iv _ => sn - (intOf iv).toNat)
 case atStart => exact ⟨0, _, _, [], by omega, rfl, HV.out.2, HV.out.1⟩
 case round =>
  obtain ⟨i, rv, lv, bs, hi, rfl, hSi, hEi⟩ := hrel
  by_cases hlt : i < sn
  ·obtain ⟨hb, ho, rfl, hbl, hcell⟩ := (H.out.2.1.ext hEi).at i hlt
   have i0 : (0 : Int) ≤ (i : Int) := by omega
   have i1 : (i : Int) < (sn : Int) := by omega
   cases hv : hs.getD i false with
   | true =>
    rw [hv] at hcell
    have HN := Lib.hid (show solveR n Ls hs (i + 1) = solveR n Ls hs i by rw [show solveR n Ls hs (i + 1) = if hs.getD i false = true then solveR n Ls hs i else addV n (solveR n Ls hs i) (rowV (Ls.getD i [])) from rfl, if_pos hv])
    have HS := Lib.hid (And.intro hSi hEi)
    clear hSi hEi hv
    go_wp2_with fail
    go_roundw
    case rel => exact ⟨i + 1, rv, lv, bs, by omega, by go_num, by rw [HN.out]; exact HS.out.1, HS.out.2⟩
    case measure => simp [intOf]; omega
   | false =>
    rw [hv] at hcell
    have HN := Lib.hid (show solveR n Ls hs (i + 1) = addV n (solveR n Ls hs i) (rowV (Ls.getD i [])) by rw [show solveR n Ls hs (i + 1) = if hs.getD i false = true then solveR n Ls hs i else addV n (solveR n Ls hs i) (rowV (Ls.getD i [])) from rfl, if_neg (by rw [hv]; simp)])
    have hk := H.out.2.2.1 i (by rw [HM.out]; omega)
    have HK := Lib.hid (And.intro hk.sol (And.intro hk.le12 (fun l hl => hk.next H.out.2.2.2 (by rw [HM.out]; exact hlt) l hl)))
    have HS := Lib.hid (And.intro hSi hEi)
    clear hSi hEi hv hk
    go_wp2_with fail
    refine (add_c w (B + 1) n _ i _ _ rv lv _ bs gs Ls _ HS.out.2 HS.out.1 H.out.1 hlt hn HK.out.1 HK.out.2.1 HK.out.2.2).mono ?_
    rintro e w5 ⟨rfl, ⟨rv', lv', bs', hS'⟩, hE'⟩
    have HF := Lib.hid (And.intro hS' hE')
    clear hS' hE' hcell
    go_wp2_with fail
    go_roundw
    case rel => exact ⟨i + 1, rv', lv', bs', by omega, by go_num, by rw [HN.out]; exact HF.out.1, HF.out.2⟩
    case measure => simp [intOf]; omega
  ·obtain rfl : sn = i := by omega
   go_wp2_with fail
   go_ret
   exact ⟨B + 1, rv, lv, bs, rfl, hSi, hEi⟩
end Go.Proofs.Ytkoidookanmknaa
