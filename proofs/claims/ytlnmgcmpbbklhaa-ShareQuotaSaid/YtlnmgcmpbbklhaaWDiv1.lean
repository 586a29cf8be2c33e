/- wide: divide where the divisor has one word, or is greater. -/
import Derived.Test.YtlnmgcmpbbklhaaWShort
import Derived.Test.YtlnmgcmpbbklhaaWAdd
import Derived.WalkMore
namespace Go.Proofs.Ytlnmgcmpbbklhaa
set_option linter.unusedSimpArgs false
set_option linter.unusedVariables false
open Go.RowKit

/-- Two magnitudes. -/
def RetWW (q r : Nat) (w : World) (e : Ending) (w' : World) : Prop :=
  ∃ (a : Option Addr) (n c : Nat) (l : List Nat) (b : Option Addr) (m d : Nat) (k : List Nat), e = .returned (.tuple #[.slice a n c, .slice b m d]) ∧
    Wds w' a n c l ∧ Norm l ∧ mval l = q ∧ Wds w' b m d k ∧ Norm k ∧ mval k = r ∧ Ext w w'
/-- What 'divide' can do so far. -/
def DivOK (x y : Nat) : Prop := x < y ∨ y < B32
theorem one_word {k : List Nat} {m : Nat} (hk : Norm k) (fk : Fit k) (hl : k.length = m) (h : mval k < B32) (h0 : 0 < mval k) : m = 1 ∧ k = [mval k] := by
  have h1 := (norm_len_le hk fk 1).1 (by rw [Nat.pow_one]; exact h)
  match k, h1 with
  | [], _ => simp [mval] at h0
  | [d], _ => exact ⟨by rw [← hl]; rfl, by simp [mval]⟩
  | _ :: _ :: _, h1 => simp at h1
set_option maxRecDepth 100000 in
set_option maxHeartbeats 1000000 in
theorem divide_c (a b : Option Addr) (n m c d : Nat) (l k : List Nat) (w : World) (hl : Wds w a n c l) (hk : Wds w b m d k) (nl : Norm l) (nk : Norm k) (hn : n ≤ 512) (h0 : 0 < mval k) (hok : DivOK (mval l) (mval k)) :
    Calls Try.prog 57 #[.slice a n c, .slice b m d] w (RetWW (mval l / mval k) (mval l % mval k) w) := by
  have HL := Lib.hid hl; have HK := Lib.hid hk; have NL := Lib.hid nl; have NK := Lib.hid nk
  have hcm := compare_c a b n m c d l k
  by_cases hlt : mval l < mval k
  · have ec : cmpI (mval l : Int) (mval k : Int) = -1 := by rw [cmpI, if_pos (by omega)]
    have EC := Lib.hid ec
    have hq : mval l / mval k = 0 := Nat.div_eq_of_lt hlt
    have hr : mval l % mval k = mval l := Nat.mod_eq_of_lt hlt
    rw [hq, hr]
    clear hl hk nl nk hcm ec hq hr hok
    go_enter Try.func57, Try.ntmps57
    go_wp2_with fail
    go_step3
    go_wp2_with fail
    refine (compare_c a b n m c d l k _ HL.out HK.out NL.out NK.out).mono ?_
    rw [EC.out]
    rintro e w2 ⟨rfl, hx⟩
    have HX := Lib.hid hx; clear hx
    go_wp2_with fail
    rw [Exit.noGoto_ret]
    go_ret2
    exact ⟨none, 0, 0, [], a, n, c, l, rfl, Wds.nil _, .inl rfl, rfl, HL.out.keep HX.out.ik, NL.out, rfl, HX.out.ext⟩
  · have ec : cmpI (mval l : Int) (mval k : Int) = 0 ∨ cmpI (mval l : Int) (mval k : Int) = 1 := by
      rw [cmpI, if_neg (by omega)]; split
      · right; rfl
      · left; rfl
    have hk1 : mval k < B32 := by rcases hok with h | h; exact absurd h hlt; exact h
    obtain ⟨hm, hke⟩ := one_word nk hk.fit hk.len hk1 h0
    subst hm
    obtain ⟨b2, o2, rfl, hb2, hc2⟩ := hk.at 0 (by omega)
    have hdg : dg k 0 = (mval k : Int) := by rw [hke]; simp [dg, mval]
    rw [hdg, Nat.add_zero] at hc2
    have hn4 : n ≤ 4096 := by omega
    have HC := Lib.hid hc2
    generalize hd : mval k = dv at *
    have hrd : mval l % dv < B32 := Nat.lt_of_lt_of_le (Nat.mod_lt _ h0) (by omega)
    have hlen := hl.len
    have hcm2 := (hd : mval k = dv)
    have HD := Lib.hid hd
    clear hl hk nl nk hcm hc2 hdg hke hlt hok hd hcm2
    rcases ec with ec | ec
    all_goals
      have EC := Lib.hid ec
      clear ec
      go_enter Try.func57, Try.ntmps57
      go_wp2_with fail
      go_step3
      go_wp2_with fail
      refine (compare_c a (some ⟨b2, o2, none⟩) n 1 c d l k _ HL.out HK.out NL.out NK.out).mono ?_
      rw [HD.out, EC.out]
      rintro e w2 ⟨rfl, hx⟩
      have hc3 := hx.ext.cell HC.out
      have hb3 := lt_of_cell hc3
      have HX := Lib.hid hx; clear hx
      go_wp2_with fail
      refine (short_c a n c l dv _ (HL.out.keep HX.out.ik) hn4 h0 hk1).mono ?_
      rintro e w3 ⟨o, rfl, hrow, hol, hof, hov, hx3⟩
      have hw3 : Wds w3 (some ⟨w2.heap.size, 0, none⟩) n n o := hrow.wds hof (by omega) hol (Nat.le_refl _) (by omega)
      have hnn := normal_w hw3
      have HNN := Lib.hid hnn; have HW3 := Lib.hid hw3; have HX3 := Lib.hid (HX.out.ext.trans hx3); have HOV := Lib.hid hov
      clear hw3 hnn hx3 hrow hof hov hc3
      generalize hrr : mval l % dv = rr at *
      go_wp2_with fail
      refine (normal_c _ n n o _ HW3.out).mono ?_
      rintro e w4 ⟨rfl, rfl⟩
      go_wp2_with fail
      have hR : Wds (w3.alloc (.cells #[.int .u32 (rr : Int)] 67)) (some ⟨w3.heap.size, 0, none⟩) 1 1 [rr] := Wds.new w3 #[.int .u32 (rr : Int)] 67 _ rfl [rr] (Fit.nil.cons hrd) (by simp) (fun i hi => by
        have : i = 0 := by simpa using hi
        subst this; rfl)
      have hRN := normal_w hR
      have HRN := Lib.hid hRN; have HR := Lib.hid hR
      clear hR hRN
      refine (normal_c _ 1 1 [rr] _ HR.out).mono ?_
      rintro e w5 ⟨rfl, rfl⟩
      go_wp2_with fail
      rw [Exit.noGoto_ret]
      go_ret2
      exact ⟨_, _, _, _, _, _, _, _, rfl, HNN.out.keep ((Ext.refl w3).alloc _).ik, trim_norm _, by rw [mval_trim, HOV.out], HRN.out, trim_norm _, by rw [mval_trim]; simp [mval], HX3.out.alloc _⟩
end Go.Proofs.Ytlnmgcmpbbklhaa
