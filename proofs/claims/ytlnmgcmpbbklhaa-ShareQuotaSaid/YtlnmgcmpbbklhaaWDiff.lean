/- wide: subtract, difference. -/
import Derived.Test.YtlnmgcmpbbklhaaWSum
namespace Go.Proofs.Ytlnmgcmpbbklhaa
set_option linter.unusedSimpArgs false
set_option linter.unusedVariables false
open Go.RowKit

set_option maxHeartbeats 1000000 in
theorem subtract_c (W0 : World) (ab : Nat) (b : Option Addr) (n m cA d : Nat) (l r : List Nat) (w : World) (hl : Row w ab l) (hln : l.length = n) (hlf : Fit l) (hr : Wds W0 b m d r) (hx : Ext W0 w) (hab : W0.heap.size ≤ ab) (hn : n ≤ 4096) :
    Calls Try.prog 74 #[.slice (some ⟨ab, 0, none⟩) n cA, .slice b m d] w fun e w' => ∃ (q : List Nat) (bo : Nat), e = .returned (.int .u32 (bo : Int)) ∧ Row w' ab q ∧ SubMid l r q n bo ∧ Ext W0 w' := by
  have HR := Lib.hid hr; have HL := Lib.hid hl; have HN := Lib.hid hln; have HX := Lib.hid hx
  have hm4 := hr.most; have hm5 := hr.cap
  clear hl hr hln hx
  go_enter Try.func74, Try.ntmps74
  go_wp2
  go_loopw [5, 11] (fun bv v ws => ∃ (i bo : Nat) (q : List Nat), i ≤ n ∧ v = .int .i64 (i : Int) ∧ bv = .int .u64 (bo : Int) ∧ Row ws ab q ∧ SubMid l r q i bo ∧ Ext W0 ws)
    (fun _ v _ => n - (intOf v).toNat)
  case atStart => exact ⟨0, 0, l, by omega, rfl, rfl, HL.out, SubMid.begin l r hlf, HX.out⟩
  case round =>
    obtain ⟨i, bo, q, hi, rfl, rfl, hrow, hmid, hx⟩ := hrel
    have hB := HR.out.keep hx.ik
    have hol := hmid.len
    rw [HN.out] at hol
    have hbo := hmid.borrow
    have fq := hmid.fit.getD i
    have fr := HR.out.fit.getD i
    rw [B32_eq] at fq fr
    by_cases hlt : i < n
    · have hsz := hrow.lt
      have rc := hrow.cell i (by omega)
      have rf := hrow.free i
      have p1 := dg_nonneg q i
      have p2 := dg_lt hmid.fit i
      have RO := Lib.hid hrow; have MD := Lib.hid hmid; have HX := Lib.hid hx; have OL := Lib.hid hol
      clear hrow hmid hx hol
      by_cases him : i < m
      · obtain ⟨b2, o2, rfl, hb2, hc2⟩ := hB.at i him
        have p3 := dg_nonneg r i
        have p4 := dg_lt HR.out.fit i
        by_cases hgt : dg q i < (bo : Int) + dg r i
        · obtain ⟨x, hxe⟩ : ∃ x : Nat, x + (bo + r.getD i 0) = q.getD i 0 + 4294967296 * 1 := ⟨q.getD i 0 + 4294967296 - (bo + r.getD i 0), by omega⟩
          have hval : dg q i + 4294967296 - ((bo : Int) + dg r i) = (x : Int) := by unfold dg at *; omega
          have hxB : x < 4294967296 := by unfold dg at hgt; omega
          have hwx : (x : Int) % 4294967296 = (x : Int) := by omega
          have hxb : (0 : Int) ≤ (x : Int) := by omega
          have HXE := Lib.hid hxe; have HVAL := Lib.hid hval; have HXB := Lib.hid hxB; have HWX := Lib.hid hwx
          clear hxe hval hxB hB fq fr hwx 
          go_wp2
          go_roundw
          case rel =>
            exact ⟨i + 1, 1, q.set i x, by omega, by go_num, rfl, Row.set RO.out _ _ _ (by first | exact HVAL.out | (rw [HVAL.out, HWX.out]) | (rw [← HVAL.out]; omega) | omega), MD.out.step HR.out.fit (by rw [HN.out]; exact hlt) x 1 (by rw [B32_eq]; exact HXE.out) (by rw [B32_eq]; exact HXB.out) (by omega), HX.out.setCell hab _⟩
          case measure => simp [intOf]; omega
        · obtain ⟨x, hxe⟩ : ∃ x : Nat, x + (bo + r.getD i 0) = q.getD i 0 + 4294967296 * 0 := ⟨q.getD i 0 - (bo + r.getD i 0), by unfold dg at hgt; omega⟩
          have hval : dg q i - ((bo : Int) + dg r i) = (x : Int) := by unfold dg at *; omega
          have hxB : x < 4294967296 := by omega
          have hwx : (x : Int) % 4294967296 = (x : Int) := by omega
          have hxb : (0 : Int) ≤ (x : Int) := by omega
          have HXE := Lib.hid hxe; have HVAL := Lib.hid hval; have HXB := Lib.hid hxB; have HWX := Lib.hid hwx
          clear hxe hval hxB hB fq fr hwx 
          go_wp2
          go_roundw
          case rel =>
            exact ⟨i + 1, 0, q.set i x, by omega, by go_num, rfl, Row.set RO.out _ _ _ (by first | exact HVAL.out | (rw [HVAL.out, HWX.out]) | (rw [← HVAL.out]; omega) | omega), MD.out.step HR.out.fit (by rw [HN.out]; exact hlt) x 0 (by rw [B32_eq]; exact HXE.out) (by rw [B32_eq]; exact HXB.out) (by omega), HX.out.setCell hab _⟩
          case measure => simp [intOf]; omega
      · have hz : r.getD i 0 = 0 := getD_ge _ _ (by rw [HR.out.len]; omega)
        by_cases hgt : dg q i < (bo : Int)
        · obtain ⟨x, hxe⟩ : ∃ x : Nat, x + (bo + r.getD i 0) = q.getD i 0 + 4294967296 * 1 := ⟨q.getD i 0 + 4294967296 - (bo + r.getD i 0), by omega⟩
          have hval : dg q i + 4294967296 - (bo : Int) = (x : Int) := by unfold dg at *; omega
          have hxB : x < 4294967296 := by unfold dg at hgt; omega
          have hwx : (x : Int) % 4294967296 = (x : Int) := by omega
          have hxb : (0 : Int) ≤ (x : Int) := by omega
          have HXE := Lib.hid hxe; have HVAL := Lib.hid hval; have HXB := Lib.hid hxB; have HWX := Lib.hid hwx
          clear hxe hval hxB hB fq fr hwx hz
          go_wp2
          go_roundw
          case rel =>
            exact ⟨i + 1, 1, q.set i x, by omega, by go_num, rfl, Row.set RO.out _ _ _ (by first | exact HVAL.out | (rw [HVAL.out, HWX.out]) | (rw [← HVAL.out]; omega) | omega), MD.out.step HR.out.fit (by rw [HN.out]; exact hlt) x 1 (by rw [B32_eq]; exact HXE.out) (by rw [B32_eq]; exact HXB.out) (by omega), HX.out.setCell hab _⟩
          case measure => simp [intOf]; omega
        · obtain ⟨x, hxe⟩ : ∃ x : Nat, x + (bo + r.getD i 0) = q.getD i 0 + 4294967296 * 0 := ⟨q.getD i 0 - (bo + r.getD i 0), by unfold dg at hgt; omega⟩
          have hval : dg q i - (bo : Int) = (x : Int) := by unfold dg at *; omega
          have hxB : x < 4294967296 := by omega
          have hwx : (x : Int) % 4294967296 = (x : Int) := by omega
          have hxb : (0 : Int) ≤ (x : Int) := by omega
          have HXE := Lib.hid hxe; have HVAL := Lib.hid hval; have HXB := Lib.hid hxB; have HWX := Lib.hid hwx
          clear hxe hval hxB hB fq fr hwx hz
          go_wp2
          go_roundw
          case rel =>
            exact ⟨i + 1, 0, q.set i x, by omega, by go_num, rfl, Row.set RO.out _ _ _ (by first | exact HVAL.out | (rw [HVAL.out, HWX.out]) | (rw [← HVAL.out]; omega) | omega), MD.out.step HR.out.fit (by rw [HN.out]; exact hlt) x 0 (by rw [B32_eq]; exact HXE.out) (by rw [B32_eq]; exact HXB.out) (by omega), HX.out.setCell hab _⟩
          case measure => simp [intOf]; omega
    · obtain rfl : i = n := by omega
      have RO := Lib.hid hrow; have MD := Lib.hid hmid; have HX := Lib.hid hx
      clear hB fq fr hrow hmid hx hol
      go_wp2
      go_ret
      exact ⟨q, bo, rfl, RO.out, MD.out, HX.out⟩

/-- The cells of a list of words, as a list. -/
def wlist (l : List Nat) : List Value := l.map fun d : Nat => Value.int .u32 (d : Int)
theorem wlist_length (l : List Nat) : (wlist l).length = l.length := by simp [wlist]
theorem wlist_one (l : List Nat) : ∀ v ∈ wlist l, v.oneCell' = true := by
  intro v hv; obtain ⟨d, _, rfl⟩ := List.mem_map.1 hv; rfl
theorem wlist_get (l : List Nat) (j : Nat) (v : Value) (h : (wlist l)[j]? = some v) : j < l.length ∧ v = .int .u32 (dg l j) := by
  have hj : j < l.length := by
    by_cases hj : j < l.length
    · exact hj
    · simp [wlist, hj] at h
  refine ⟨hj, ?_⟩
  simp [wlist, hj] at h
  rw [← h]; simp [dg, hj]

theorem sizeU32 : (Try.prog.info? 67).map (·.size) = some 1 := by kernel_rfl

theorem addr_add (b o j : Nat) : (⟨b, o, none⟩ : Addr).add j = ⟨b, o + j, none⟩ := by
  unfold Addr.add; split
  · rename_i h; subst h; rfl
  · rfl
/-- 'copy(out, a)' of a slice into a new row of the same length. -/
theorem copy_words (w W0 : World) (B n c : Nat) (a : Option Addr) (l0 l : List Nat) (h0 : Row W0 B l0) (hlen : l0.length = n) (hl : Wds W0 a n c l) (hx : Ext w W0) (hB : w.heap.size ≤ B) :
    ∃ w1, (Builtin.copy_ #[46, 46] 3 #[.slice (some ⟨B, 0, none⟩) n n, .slice a n c]).run Try.prog W0 = .ok (.int .i64 (n : Int)) w1 ∧ Row w1 B l ∧ Ext w w1 := by
  have hll := hl.len
  by_cases hn : n = 0
  · subst hn
    have e1 : l = [] := List.eq_nil_of_length_eq_zero hll
    have e2 : l0 = [] := List.eq_nil_of_length_eq_zero hlen
    subst e1; subst e2
    refine ⟨W0, ?_, h0, hx⟩
    rw [run_copy_none W0 46 46 3 67 _ _ _ _ _ _ Try.underlying46 sizeU32 (by simp)]
    rfl
  · obtain ⟨b1, o1, rfl, hb1, _⟩ := hl.at 0 (by omega)
    refine ⟨W0.setRow B (wcells l), ?_, ?_, ?_⟩
    · rw [run_copy_row Try.prog W0 46 46 3 67 B 0 n n ⟨b1, o1, none⟩ n c (wcells l0) 67 (wlist l) Try.underlying46 sizeU32 h0 (by rw [wlist_length, hll]; simp)
        (fun j v hv => by
          obtain ⟨hj, rfl⟩ := wlist_get _ _ _ hv
          obtain ⟨b2, o2, he, _, hc⟩ := hl.at j (by rw [← hll]; exact hj)
          cases he
          rw [addr_add]; exact hc) (by simp [wlist_length, wcells, hlen, hll]) (wlist_one l)]
      have e3 : List.drop n (List.map (fun d : Nat => Value.int .u32 (d : Int)) l0) = [] := List.drop_of_length_le (by rw [List.length_map, hlen]; exact Nat.le_refl _)
      simp [wlist, wcells, hll, goInt, e3]
    · exact setRow_heap W0 B _ _ _ _ h0
    · exact Below.trans hx ⟨rfl, rfl, rfl, by simp [World.setRow], fun k hk => setRow_other W0 B k _ (by have := hx.size; omega)⟩

set_option maxHeartbeats 1000000 in
theorem difference_c (a b : Option Addr) (n m c d : Nat) (l r : List Nat) (w : World) (hl : Wds w a n c l) (hr : Wds w b m d r) (hn : n ≤ 4096) (hmn : m ≤ n) (hge : mval r ≤ mval l) :
    Calls Try.prog 63 #[.slice a n c, .slice b m d] w (RetW (mval l - mval r) w) := by
  have HL := Lib.hid hl; have HR := Lib.hid hr; have HG := Lib.hid hge; clear hl hr hge
  have hmk := make_words n (n : Int) (n : Int) rfl rfl (by omega)
  have hB0 := Lib.hid (Blk.new w (wcells (List.replicate n 0)) 67)
  have hE0 : Ext w (w.alloc (.cells (wcells (List.replicate n 0)) 67)) := (by repeat (first | exact Ext.refl _ | assumption | refine Ext.setCell ?_ (by first | (simp; done) | (simp; omega) | omega) _ | refine Ext.alloc ?_ _ | refine Ext.drew ?_ | refine Ext.trans ?_ (by assumption)))
  have HE0 := Lib.hid hE0; clear hE0
  go_enter Try.func63, Try.ntmps63
  go_upto_region 2 with (fail)
  clear hmk
  refine wp_gen (fun W => Ext w W ∧ Row W w.heap.size (List.replicate n 0)) ⟨HE0.out, hB0.out⟩ ?_
  rintro w0 ⟨hE0, hB0⟩
  obtain ⟨w1, hcp, hR1, hE1⟩ := copy_words w w0 w.heap.size n c a _ l hB0 (by simp) (HL.out.keep hE0.ik) hE0 (Nat.le_refl _)
  have HR1 := Lib.hid hR1; have HE1 := Lib.hid hE1; clear hR1 hE1 hB0 hE0 HE0
  go_wp2_with (go_at_call 74; refine (subtract_c w w.heap.size b n m n d l r _ HR1.out HL.out.len HL.out.fit HR.out HE1.out (Nat.le_refl _) hn).mono ?_; rintro e w2 ⟨q, bo, rfl, hq, hs, hx⟩; have HQ := Lib.hid hq; have HS := Lib.hid hs; have HX := Lib.hid hx; clear hq hs hx)
  go_ret
  have hs := HS.out
  rw [← HL.out.len] at hs
  have hd := hs.done (by rw [HL.out.len, HR.out.len]; exact hmn) HG.out
  have hql := hs.len
  rw [HL.out.len] at hql
  exact ⟨_, _, _, q, rfl, HQ.out.wds hs.fit (by omega) hql (Nat.le_refl _) (by omega), hd.2, HX.out⟩
end Go.Proofs.Ytlnmgcmpbbklhaa
