/- wide: short: division by a word. -/
import Derived.Test.YtlnmgcmpbbklhaaWTimes
import Derived.Deep.DeepCutAuto
import Derived.Deep.CutRange
namespace Go.Proofs.Ytlnmgcmpbbklhaa
set_option linter.unusedSimpArgs false
set_option linter.unusedVariables false
open Go.RowKit

theorem mval_drop (l : List Nat) (i : Nat) (h : i < l.length) : mval (l.drop i) = l.getD i 0 + B32 * mval (l.drop (i + 1)) := by
  have e1 : l.getD i 0 = l[i] := by simp [List.getD_eq_getElem?_getD, h]
  rw [← List.getElem_cons_drop h, e1]; rfl
/-- What holds in the midst of the rounds: j words are left. -/
structure ShortMid (l o : List Nat) (d j r : Nat) : Prop where
  len : o.length = l.length
  fit : Fit o
  rest : r < d
  eq : mval (l.drop j) = mval (o.drop j) * d + r
theorem ShortMid.begin (l : List Nat) (d : Nat) (hd : 0 < d) : ShortMid l (List.replicate l.length 0) d l.length 0 :=
  ⟨by simp, fit_zeros _, hd, by simp [mval]⟩
theorem ShortMid.step {l o : List Nat} {d j r : Nat} (h : ShortMid l o d (j + 1) r) (hj : j < l.length) (fl : Fit l) (hd : d < B32) (t : Nat) (ht : t = r * B32 + l.getD j 0) :
    ShortMid l (o.set j (t / d)) d j (t % d) ∧ t / d < B32 := by
  have hr := h.rest
  have hl := fl.getD j
  have hq : t / d < B32 := by
    rw [Nat.div_lt_iff_lt_mul (by omega), ht]
    have : (r + 1) * B32 ≤ d * B32 := Nat.mul_le_mul_right _ hr
    rw [Nat.add_mul, Nat.one_mul] at this
    rw [Nat.mul_comm B32 d]; omega
  refine ⟨⟨by rw [List.length_set, h.len], h.fit.set _ _ hq, Nat.mod_lt _ (by omega), ?_⟩, hq⟩
  have e := Nat.div_add_mod t d
  rw [mval_drop l j hj, mval_drop _ j (by rw [List.length_set, h.len]; exact hj), getD_set_same _ _ _ (by rw [h.len]; exact hj), set_drop, h.eq]
  generalize mval (o.drop (j + 1)) = Q at *
  generalize t / d = q at *
  generalize t % d = s at *
  generalize l.getD j 0 = x at *
  subst ht
  have : B32 * (Q * d + r) = B32 * Q * d + r * B32 := by grind
  have e2 : (q + B32 * Q) * d = d * q + B32 * Q * d := by grind
  omega
theorem or_words (r x : Nat) (hr : r < 4294967296) (hx : x < 4294967296) : bits BinOp.or IntKind.u64 ((r : Int) * 4294967296) (x : Int) = ((r * 4294967296 + x : Nat) : Int) := by
  have h1 : (r : Int) * 4294967296 = ((2 ^ 32 * r : Nat) : Int) := by omega
  have h2 := Nat.two_pow_add_eq_or_of_lt (i := 32) (b := x) (by omega) r
  have e : IntKind.u64.bits = 64 := rfl
  unfold bits
  simp only
  rw [h1, BitVec.ofInt_natCast, BitVec.ofInt_natCast, BitVec.toNat_or, BitVec.toNat_ofNat, BitVec.toNat_ofNat, Nat.mod_eq_of_lt (by rw [e]; omega), Nat.mod_eq_of_lt (by rw [e]; omega), ← h2]
  have h3 : IntKind.u64.wrap ((2 ^ 32 * r + x : Nat) : Int) = ((2 ^ 32 * r + x : Nat) : Int) := by
    unfold IntKind.wrap; simp [IntKind.signed, IntKind.bits]; omega
  rw [h3]; omega
set_option maxRecDepth 100000 in
set_option maxHeartbeats 1000000 in
theorem short_c (a : Option Addr) (n c : Nat) (l : List Nat) (d : Nat) (w : World) (hl : Wds w a n c l) (hn : n ≤ 4096) (hd0 : 0 < d) (hd : d < B32) :
    Calls Try.prog 69 #[.slice a n c, .int .u32 (d : Int)] w fun e w' => ∃ (o : List Nat), e = .returned (.tuple #[.slice (some ⟨w.heap.size, 0, none⟩) n n, .int .u32 ((mval l % d : Nat) : Int)]) ∧ Row w' w.heap.size o ∧ o.length = n ∧ Fit o ∧ mval o = mval l / d ∧ Ext w w' := by
  have hmk := make_words n (n : Int) (n : Int) rfl rfl (by omega)
  have HL := Lib.hid hl
  have hlen := hl.len
  clear hl
  have hd1 : d ≤ 4294967295 := by rw [B32_eq] at hd; omega
  go_enter Try.func69, Try.ntmps69
  go_wp2_with fail
  have hrow : Row (w.alloc (.cells (wcells (List.replicate n 0)) 67)) w.heap.size (List.replicate n 0) := Blk.new _ _ _
  have HROW := Lib.hid hrow
  clear hrow hmk
  go_loopw [7, 8] (fun rv v ws => ∃ (j r : Nat) (o : List Nat), j ≤ n ∧ v = .int .i64 ((j : Int) - 1) ∧ rv = .int .u64 (r : Int) ∧ Row ws w.heap.size o ∧ ShortMid l o d j r ∧ Ext w ws) (fun _ v _ => (intOf v + 1).toNat)
  case atStart => exact ⟨n, 0, _, Nat.le_refl _, rfl, rfl, HROW.out, by rw [← hlen]; exact ShortMid.begin l d hd0, (by repeat (first | exact Ext.refl _ | assumption | refine Ext.setCell ?_ (by first | (simp; done) | (simp; omega) | omega) _ | refine Ext.alloc ?_ _ | refine Ext.drew ?_ | refine Ext.trans ?_ (by assumption)))⟩
  case round =>
    obtain ⟨j, r, o, hj, rfl, rfl, hrow, hmid, hE⟩ := hrel
    by_cases h0 : j = 0
    · subst h0
      have hfin := hmid.eq
      rw [List.drop_zero, List.drop_zero] at hfin
      have hq : mval l / d = mval o := by rw [hfin, Nat.mul_comm, Nat.mul_add_div hd0, Nat.div_eq_of_lt hmid.rest]; omega
      have hr : mval l % d = r := by rw [hfin, Nat.mul_comm, Nat.mul_add_mod, Nat.mod_eq_of_lt hmid.rest]
      have hrd := hmid.rest
      have HH := Lib.hid (And.intro hq (And.intro hr (And.intro hrow (And.intro hE hmid))))
      clear hfin hq hr hrow hE hmid
      go_wp2_with fail
      go_ret2
      exact ⟨o, by rw [HH.out.2.1]; rfl, HH.out.2.2.1, by rw [HH.out.2.2.2.2.len, hlen], HH.out.2.2.2.2.fit, HH.out.1.symm, HH.out.2.2.2.1⟩
    · obtain ⟨k, rfl⟩ : ∃ k, j = k + 1 := ⟨j - 1, by omega⟩
      obtain ⟨b, off, rfl, hb, hc⟩ := (HL.out.keep hE.ik).at k (by omega)
      have ek : ((k + 1 : Nat) : Int) - 1 = (k : Int) := by omega
      rw [ek]
      have hrd := hmid.rest
      have hx := HL.out.fit.getD k
      rw [B32_eq] at hx
      have hdg : dg l k = ((l.getD k 0 : Nat) : Int) := rfl
      rw [hdg] at hc
      obtain ⟨x, hxx⟩ : ∃ x, l.getD k 0 = x := ⟨_, rfl⟩
      rw [hxx] at hc hx
      obtain ⟨T, hT⟩ : ∃ T, T = r * 4294967296 + x := ⟨_, rfl⟩
      have hor := or_words r x (by omega) hx
      rw [← hT] at hor
      obtain ⟨hst, hqb⟩ := ShortMid.step hmid (by omega) HL.out.fit hd T (by rw [hT, hxx, B32_eq])
      rw [B32_eq] at hqb
      have ho := hmid.len
      have c0 := hrow.cell k (by omega)
      have f0 := hrow.free k
      have l0 := hrow.lt
      have HST := Lib.hid hst; have HR := Lib.hid hrow; have HE := Lib.hid hE
      have hwx : IntKind.u64.wrap (x : Int) = (x : Int) := by unfold IntKind.wrap; simp [IntKind.signed, IntKind.bits]; omega
      clear hdg hxx hst hrow hE hmid ho
      generalize dg o k = z at c0
      have hTd : (T : Int) / (d : Int) = ((T / d : Nat) : Int) := by omega
      have hTm : (T : Int) % (d : Int) = ((T % d : Nat) : Int) := by omega
      have hTb : (T : Int) ≤ 18446744073709551615 := by omega
      have hT0 : (0 : Int) ≤ (T : Int) := by omega
      have hqb2 : (T : Int) / (d : Int) ≤ 4294967295 := by omega
      have hrm : (T : Int) % (d : Int) ≤ 4294967295 := by rw [hTm]; have := Nat.mod_lt T hd0; omega
      have hq0 : (0 : Int) ≤ (T : Int) / (d : Int) := by rw [hTd]; exact Int.natCast_nonneg _
      have hr0 : (0 : Int) ≤ (T : Int) % (d : Int) := by rw [hTm]; exact Int.natCast_nonneg _
      have hdI : (d : Int) ≤ 4294967295 := by omega
      have hrr : (r : Int) ≤ 4294967294 := by omega
      have k0 : (0 : Int) ≤ (k : Int) := by omega
      have k1 : (k : Int) < (n : Int) := by omega
      have k2 : (0 : Int) < (d : Int) := by omega
      have k3 : ((d : Int) == 0) = false := by rw [beq_eq_false_iff_ne]; omega
      have k4 : (d : Int) ≠ 0 := by omega
      have hxb : (x : Int) ≤ 4294967295 := by omega
      have HD1 := Lib.hid hd1
      have HTD := Lib.hid hTd; have HTM := Lib.hid hTm
      clear hT hqb hx hrd hd1 hTd hTm
      go_upto_region 7 with (fail)
      try rw [hor]


      clear hor hwx
      go_wp2_with fail
      go_roundw
      case rel => exact ⟨k, T % d, _, by omega, by go_num, by rw [HTM.out], Row.set HR.out k _ _ HTD.out, HST.out, HE.out.setCell (Nat.le_refl _) _⟩
      case measure => first | (simp [intOf]; done) | (simp [intOf]; omega)
end Go.Proofs.Ytlnmgcmpbbklhaa
