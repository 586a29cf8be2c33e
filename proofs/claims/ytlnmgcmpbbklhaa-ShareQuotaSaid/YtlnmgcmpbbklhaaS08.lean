/- share: Largest, Highest. -/
import Derived.Test.YtlnmgcmpbbklhaaS07
namespace Go.Proofs.Ytlnmgcmpbbklhaa
set_option linter.unusedSimpArgs false
set_option linter.unusedVariables false
open Go.RowKit

/-- What the divisions return. -/
def DivR (err : Int) (F : List Int) (m : Nat) (w : World) (e : Ending) (w' : World) : Prop :=
  Ext w w' ∧ ((err ≠ 0 ∧ e = .returned (.tuple #[.slice none 0 0, .int .i64 err])) ∨
    (err = 0 ∧ ∃ g, e = .returned (.tuple #[.slice (some ⟨g, 0, none⟩) m m, .int .i64 0]) ∧ w.heap.size ≤ g ∧ IRow w' g F))
theorem Grps.one {w : World} {b : Nat} {a : Option Addr} {m c : Nat} {l : List Int} (hb : At w b #[.slice a m c]) (h : Ints w a m l) : Grps w (some ⟨b, 0, none⟩) 1 [⟨a, m, c⟩] [l] := by
  refine ⟨rfl, rfl, by omega, .inr ⟨b, 0, rfl, hb.lt (by simp), fun i hi => ?_⟩, fun i hi => ?_⟩
  · match i, hi with
    | 0, _ => exact hb 0 (by simp)
  · match i, hi with
    | 0, _ => exact h
theorem errF_ok {n : Int} {l : List Int} {m : Nat} (h : errF n l m = 0) : 0 ≤ n ∧ n ≤ 1099511627776 ∧ l.any badF = false ∧ (n ≠ 0 → sumI l ≠ 0) ∧ l.length ≤ 4096 := by
  unfold errF at h
  by_cases h1 : 4096 < l.length ∨ 4096 < m
  · rw [if_pos h1] at h; omega
  · rw [if_neg h1] at h
    by_cases h2 : n < 0 ∨ 1099511627776 < n ∨ l.any badF = true
    · rw [if_pos h2] at h; omega
    · rw [if_neg h2] at h
      by_cases h3 : 0 < n ∧ sumI l = 0
      · rw [if_pos h3] at h; omega
      · exact ⟨by omega, by omega, by rw [Bool.eq_false_iff]; exact fun hc => h2 (.inr (.inr hc)), fun hn hs => h3 ⟨by omega, hs⟩, by omega⟩
theorem errF_le {n : Int} {l : List Int} {m : Nat} (h : errF n l m = 0) (hm : l.length ≤ 19 ∨ 4096 < l.length) : l.length ≤ 19 := by
  have := (errF_ok h).2.2.2.2; omega
set_option maxHeartbeats 2000000 in
theorem Largest_c (n : Int) (a : Option Addr) (m c : Nat) (l : List Int) (w : World) (h : Ints w a m l) (hm : m ≤ 19 ∨ 4096 < m) (hm2 : m ≤ 100000) :
    Calls Try.prog 14 #[.int .i64 n, .slice a m c] w (DivR (errF n l 1) (largestF n l) m w) := by
  have H := Lib.hid h
  have hlen := h.1
  clear h
  go_enter Try.func14, Try.ntmps14
  go_wp2_with fail
  refine (check_c n _ 1 1 [⟨a, m, c⟩] [l] _ (Grps.one (Blk.at _ _ rfl).at' (H.out.keep ((Ext.refl w).alloc _).ik)) (by simp [lens, sumI]; omega)).mono ?_
  rw [show ([l] : List (List Int)).flatten = l by simp]
  rintro e w2 ⟨rfl, hx⟩
  have hE : Ext w w2 := ((Ext.refl w).alloc _).trans hx
  have HE := Lib.hid hE; clear hx hE
  by_cases h0 : errF n l 1 = 0
  · have hok := errF_ok h0
    have hm3 := errF_le h0 (by rw [hlen]; exact hm)
    rw [hlen] at hm3
    have HOK := Lib.hid hok; have H0 := Lib.hid h0
    rw [h0]
    clear hok h0 hm
    go_wp2_with fail
    refine (largest0_c n a m c l _ (H.out.keep HE.out.ik) HOK.out.1 HOK.out.2.1 (fun x hx => by have := good_of_any HOK.out.2.2.1 x hx; omega) (by have := sum_bd l (good_of_any HOK.out.2.2.1); omega) hm3).mono ?_
    rintro e w3 ⟨g, rfl, hg, hr, hx⟩
    have hs := HE.out.size
    have HR := Lib.hid (show w.heap.size ≤ g ∧ IRow w3 g (largestF n l) ∧ Ext w w3 from ⟨by omega, hr, HE.out.trans hx⟩)
    clear hg hr hx hs
    go_wp2_with fail
    go_ret2
    exact ⟨HR.out.2.2, .inr ⟨H0.out, g, rfl, HR.out.1, HR.out.2.1⟩⟩
  · have h0' : (errF n l 1 != 0) = true := by rw [bne_iff_ne]; exact h0
    have H0 := Lib.hid h0; clear h0
    generalize errF n l 1 = er at *
    go_wp2_with fail
    go_ret2
    exact ⟨HE.out, .inl ⟨H0.out, rfl⟩⟩

def highErr (n : Int) (l : List Int) : Int := if errF n l 1 ≠ 0 then errF n l 1 else if 4096 < n then 4 else 0
theorem bestF_succ (l o : List Int) (i : Nat) : bestF l o (i + 1) = if l.getD (bestF l o i) 0 * (2 * o.getD i 0 + 1) < l.getD i 0 * (2 * o.getD (bestF l o i) 0 + 1) then i else bestF l o i := rfl
theorem part_bd {x o : Int} (h1 : 0 ≤ x) (h2 : x ≤ 1048576) (h3 : 0 ≤ o) (h4 : o ≤ 4096) : 0 ≤ x * (2 * o + 1) ∧ x * (2 * o + 1) ≤ 8590983168 := by
  refine ⟨Int.mul_nonneg h1 (by omega), ?_⟩
  have := Int.mul_le_mul h2 (show 2 * o + 1 ≤ 8193 by omega) (by omega) (by omega)
  simpa using this
theorem high_bd (l : List Int) (hl : 0 < l.length) (k : Nat) (i : Nat) : 0 ≤ (highN l k).getD i 0 ∧ (highN l k).getD i 0 ≤ k := by
  refine ⟨highN_nonneg l k i, ?_⟩
  by_cases hi : i < (highN l k).length
  · have := mem_le_sum (l := highN l k) (fun x hx => by obtain ⟨j, _, rfl⟩ := mem_getD hx; exact highN_nonneg l k j) (getD_mem hi)
    rw [highN_sum l hl] at this; exact this
  · rw [List.getD_eq_getElem?_getD, List.getElem?_eq_none (by omega)]; simp
set_option maxRecDepth 100000 in
set_option maxHeartbeats 4000000 in
theorem Highest_c (n : Int) (a : Option Addr) (m c : Nat) (l : List Int) (w : World) (h : Ints w a m l) (hm2 : m ≤ 100000) :
    Calls Try.prog 15 #[.int .i64 n, .slice a m c] w (DivR (highErr n l) (highN l n.toNat) m w) := by
  have H := Lib.hid h
  have hlen := h.1
  have hmk := make_ints m (m : Int) (m : Int) rfl rfl (by omega)
  have HE0 := Lib.hid (highErr.eq_1 n l)
  clear h
  go_enter Try.func15, Try.ntmps15
  go_wp2_with fail
  refine (check_c n _ 1 1 [⟨a, m, c⟩] [l] _ (Grps.one (Blk.at _ _ rfl).at' (H.out.keep ((Ext.refl w).alloc _).ik)) (by simp [lens, sumI]; omega)).mono ?_
  rw [show ([l] : List (List Int)).flatten = l by simp]
  rintro e w2 ⟨rfl, hx⟩
  have hE : Ext w w2 := ((Ext.refl w).alloc _).trans hx
  have HE := Lib.hid hE; clear hx hE
  by_cases h0 : errF n l 1 = 0
  · have hok := errF_ok h0
    have hhe := HE0.out
    rw [if_neg (fun h => h h0)] at hhe
    have hgood := good_of_any hok.2.2.1
    rw [h0]
    by_cases hn : 4096 < n
    · rw [if_pos hn] at hhe
      have HHE := Lib.hid hhe
      clear hok h0 hhe HE0 hgood hmk
      go_wp2_with fail
      go_ret2
      exact ⟨HE.out, .inl ⟨by rw [HHE.out]; omega, by rw [HHE.out]; rfl⟩⟩
    · rw [if_neg hn] at hhe
      obtain ⟨N, rfl⟩ : ∃ N : Nat, n = N := ⟨n.toNat, by omega⟩
      have hm4 : m ≤ 4096 := by have := hok.2.2.2.2; omega
      have hpos : 0 < N → 0 < m := fun h => by
        rcases Nat.eq_zero_or_pos m with h1 | h1
        · have := hok.2.2.2.1 (by omega)
          rw [List.eq_nil_of_length_eq_zero (by omega : l.length = 0)] at this
          simp [sumI] at this
        · exact h1
      have HHE := Lib.hid hhe; have HG := Lib.hid hgood; have HPOS := Lib.hid hpos
      clear hok h0 hhe HE0 hgood hpos
      rw [Int.toNat_natCast]
      go_wp2_with fail
      have hrow : IRow (w2.alloc (.cells (icells (List.replicate m 0)) 3)) w2.heap.size (highN l 0) := by rw [highN, hlen]; exact Blk.new _ _ _
      have hsw := HE.out.size
      have HR0 := Lib.hid hrow; clear hrow hmk
      obtain ⟨ob, hob⟩ : ∃ b, b = w2.heap.size := ⟨_, rfl⟩
      rw [← hob]
      rw [← hob] at hsw HR0
      clear hob
      go_loopw [26] (fun v ws => ∃ k : Nat, k ≤ N ∧ v = .int .i64 (k : Int) ∧ IRow ws ob (highN l k) ∧ Ext w ws) (fun v _ => N - (intOf v).toNat)
      case atStart => exact ⟨0, by omega, rfl, HR0.out, HE.out.alloc _⟩
      case round =>
        obtain ⟨k, hk, rfl, hr, hE2⟩ := hrel
        have HR := Lib.hid hr; have HE2 := Lib.hid hE2; clear hr hE2 HR0
        by_cases hlt : k < N
        · have hm0 := HPOS.out (by omega)
          have hhl := highN_length l k
          have hhb := fun i => high_bd l (by omega) k i
          have hnx : highN l (k + 1) = bump (highN l k) (bestF l (highN l k) l.length) := rfl
          rw [hlen] at hhl hnx
          have HHB := Lib.hid hhb; have HNX := Lib.hid hnx; have HHL := Lib.hid hhl
          clear hhb hnx hhl
          generalize highN l k = o at *
          go_wp2_with fail
          go_loopw [8, 30] (fun bv v ws => ∃ i : Nat, i ≤ m ∧ v = .int .i64 (i : Int) ∧ bv = .int .i64 ((bestF l o i : Nat) : Int) ∧ IRow ws ob o ∧ Ext w ws) (fun _ v _ => m - (intOf v).toNat)
          case atStart => exact ⟨0, by omega, rfl, rfl, HR.out, HE2.out⟩
          case round =>
            obtain ⟨i, hi, rfl, rfl, hr, hE3⟩ := hrel
            have hbl : bestF l o i < m := by
              rcases Nat.eq_zero_or_pos i with h | h
              · subst h; exact hm0
              · have := bestF_lt l o i h; omega
            by_cases hlt2 : i < m
            · have hnb := bestF_succ l o i
              have hin := H.out.keep hE3.ik
              obtain ⟨b, off, rfl, hbb, hci⟩ := Ints.at hin i hlt2
              obtain ⟨b', off', he, _, hcb⟩ := Ints.at hin (bestF l o i) hbl
              injection he with he; injection he with e1 e2
              subst e1; subst e2
              have o1 := IRow.cell hr i (by rw [HHL.out]; exact hlt2)
              have o2 := IRow.cell hr (bestF l o i) (by rw [HHL.out]; exact hbl)
              have g1 := HG.out _ (getD_mem (l := l) (i := i) (by omega))
              have g2 := HG.out _ (getD_mem (l := l) (i := bestF l o i) (by omega))
              have g3 := HHB.out i
              have g4 := HHB.out (bestF l o i)
              have lo := hr.lt
              have HR3 := Lib.hid hr; have HE3 := Lib.hid hE3; clear hr hE3 hin
              generalize bestF l o i = bb at *
              generalize l.getD i 0 = x at *
              generalize l.getD bb 0 = y at *
              generalize o.getD i 0 = p at *
              generalize o.getD bb 0 = q at *
              have p1 := part_bd g1.1 g1.2 g4.1 (by omega)
              have p2 := part_bd g2.1 g2.2 g3.1 (by omega)
              have t0 : (i : Int) < (m : Int) := by omega
              have t1 : (bb : Int) < (m : Int) := by omega
              have t2 : (0 : Int) ≤ (bb : Int) := by omega
              by_cases hc : y * (2 * p + 1) < x * (2 * q + 1)
              · rw [if_pos hc] at hnb
                have HNB := Lib.hid hnb; clear hnb
                go_wp2_with fail
                go_quiet (fail)
                go_wp2_with fail
                go_roundw
                case rel => exact ⟨i + 1, by omega, by go_num, by rw [HNB.out], Blk.drewN HR3.out _, HE3.out.drewN _⟩
                case measure => simp [intOf]; omega
              · rw [if_neg hc] at hnb
                have HNB := Lib.hid hnb; clear hnb
                go_wp2_with fail
                go_quiet (fail)
                go_wp2_with fail
                go_roundw
                case rel => exact ⟨i + 1, by omega, by go_num, by rw [HNB.out], Blk.drewN HR3.out _, HE3.out.drewN _⟩
                case measure => simp [intOf]; omega
            · obtain rfl : i = m := by omega
              have o2 := IRow.cell hr (bestF l o i) (by rw [HHL.out]; exact hbl)
              have f2 := IRow.free hr (bestF l o i)
              have g4 := HHB.out (bestF l o i)
              have lo := hr.lt
              have hset := IRow.set hr (bestF l o i) (o.getD (bestF l o i) 0 + 1)
              have hset' : IRow _ ob (bump o (bestF l o i)) := hset
              rw [← HNX.out] at hset'
              have HS := Lib.hid hset'; have HE3 := Lib.hid hE3; clear hr hE3 hset hset'
              generalize bestF l o i = bb at *
              generalize o.getD bb 0 = q at *
              have t1 : (bb : Int) < (i : Int) := by omega
              have t2 : (0 : Int) ≤ (bb : Int) := by omega
              go_wp2_with fail
              go_roundw
              case rel => exact ⟨k + 1, by omega, by go_num, HS.out, HE3.out.setCell hsw _⟩
              case measure => simp [intOf]; omega
        · obtain rfl : k = N := by omega
          go_wp2_with fail
          go_ret2
          exact ⟨HE2.out, .inr ⟨HHE.out, ob, rfl, hsw, HR.out⟩⟩
  · have h0' : (errF n l 1 != 0) = true := by rw [bne_iff_ne]; exact h0
    have hhe := HE0.out
    rw [if_pos h0] at hhe
    have H0 := Lib.hid h0; have HHE := Lib.hid hhe; clear h0 hhe HE0 hmk
    generalize errF n l 1 = er at *
    go_wp2_with fail
    go_ret2
    exact ⟨HE.out, .inl ⟨by rw [HHE.out]; exact H0.out, by rw [HHE.out]; rfl⟩⟩
end Go.Proofs.Ytlnmgcmpbbklhaa
