/- R7c X17 X21 X22 X23 X24: several texts of this proof in one. -/
import Derived.Test.YtagiaiocgjagnaaQR7b
import Derived.Test.YtagiaiocgjagnaaQWS
import Derived.Test.YtagiaiocgjagnaaQX14
import Derived.Test.YtagiaiocgjagnaaQC04
import Derived.Test.YtagiaiocgjagnaaQX11
import Derived.Test.YtagiaiocgjagnaaQC06
import Derived.Test.YtagiaiocgjagnaaQLRow
import Derived.Test.YtagiaiocgjagnaaQWT
import Derived.Great.BuildSlice
import Derived.Test.YtagiaiocgjagnaaQX13
namespace Go.Proofs.Ytagiaiocgjagnaa
set_option linter.unusedSimpArgs false
set_option linter.unusedVariables false
open Go.RowKit

def dens : List Int := [1, 1, 1, 2, 2, 3, 5, 12]
def denF (k : Int) : Int := dens.getD (k % 8).toNat 1
def someF (n : Int) : RP :=
 let k := aroundF n 1048576
 let p := gridF (k / 8)
 if denF k = 1 then ⟨p.x, p.y, 1⟩ else makeF (p.x * denF k - k / 64 % denF k) (p.y * denF k - k / 256 % denF k) (denF k)
end Go.Proofs.Ytagiaiocgjagnaa
namespace Go.Proofs.Ytagiaiocgjagnaa
set_option linter.unusedSimpArgs false
set_option linter.unusedVariables false
open Go.RowKit

/-- The numbers of a point of the reference are small. -/
structure PIn (p : RP) (m : Int) : Prop where
 d1 : 1 ≤ p.d
 dm : p.d ≤ m
 x1 : -m ≤ p.x
 x2 : p.x ≤ m
 y1 : -m ≤ p.y
 y2 : p.y ≤ m
theorem PIn.rb {p : RP} {m : Int} (h : PIn p m) (hm : m ≤ 4000000) : RB64 p := by
 obtain ⟨a, b, c, d, e, f⟩ := h
 exact ⟨by omega, by omega, by omega⟩
theorem mkF_in {x y d m : Int} (hd : 1 ≤ d) (hm : d ≤ m) (x1 : -m ≤ x) (x2 : x ≤ m) (y1 : -m ≤ y) (y2 : y ≤ m) : PIn (mkF x y d) m := by
 have b2 := rgcd_pos (x := rgcd x y) (y := d) (by omega)
 have d1 := rgcd_dvd x y
 have d2 := rgcd_dvd (rgcd x y) d
 have ex := div_bd b2 (m := m) x1 x2 (Int.dvd_trans d2.1 d1.1)
 have ey := div_bd b2 (m := m) y1 y2 (Int.dvd_trans d2.1 d1.2)
 have ed := div_bd b2 (m := m) (by omega) hm d2.2
 exact ⟨(mkF_props x y d hd).1.1, ed.2.1, ex.1, ex.2.1, ey.1, ey.2.1⟩
set_option maxRecDepth 100000 in
set_option maxHeartbeats 8000000 in
theorem rOn_c (s : Sg) (p : RP) (w : World) (hs : SegIn s (-100) 100) (hp : PIn p 4000000) :
  Calls Try.prog 37 #[s.v, p.v] w fun e w' => e = .returned (.bool (onF s p)) ∧ Ext w w' := by
 obtain ⟨⟨ax, ay⟩, ⟨bx, b0⟩⟩ := s
 obtain ⟨px, py, pd⟩ := p
 obtain ⟨⟨a1, a2⟩, ⟨a3, a4⟩, ⟨b1, b2⟩, ⟨b3, b4⟩, hne⟩ := hs
 obtain ⟨d1, d2, p1, p2, p3, p4⟩ := hp
 simp only at a1 a2 a3 a4 b1 b2 b3 b4 d1 d2 p1 p2 p3 p4
 have bd : ∀ (c z : Int), -200 ≤ c → c ≤ 200 → -1000000000 ≤ z → z ≤ 1000000000 → -200000000000 ≤ c * z ∧ c * z ≤ 200000000000 := fun c z h1 h2 h3 h4 => by
  have := abs_mul_le (x := c) (y := z) (m := 200) (n := 1000000000) (by omega) (by omega)
  omega
 have e1 := bd ax pd (by omega) (by omega) (by omega) (by omega)
 have e2 := bd ay pd (by omega) (by omega) (by omega) (by omega)
 have f1 := abs_mul_le (x := ax) (y := pd) (m := 100) (n := 4000000) (by omega) (by omega)
 have f2 := abs_mul_le (x := ay) (y := pd) (m := 100) (n := 4000000) (by omega) (by omega)
 have w1 : IntKind.i64.wrap (ax * pd) = ax * pd := IntWalk.i64_in _ (by omega)
 have w2 : IntKind.i64.wrap (ay * pd) = ay * pd := IntWalk.i64_in _ (by omega)
 obtain ⟨X, hX⟩ : ∃ X, px - ax * pd = X := ⟨_, rfl⟩
 obtain ⟨Y, hY⟩ : ∃ Y, py - ay * pd = Y := ⟨_, rfl⟩
 obtain ⟨U, hU⟩ : ∃ U, bx - ax = U := ⟨_, rfl⟩
 obtain ⟨V, hV⟩ : ∃ V, b0 - ay = V := ⟨_, rfl⟩
 have w3 : IntKind.i64.wrap (px - ax * pd) = X := by rw [hX]; exact IntWalk.i64_in _ (by omega)
 have w4 : IntKind.i64.wrap (py - ay * pd) = Y := by rw [hY]; exact IntWalk.i64_in _ (by omega)
 have w5 : IntKind.i64.wrap (bx - ax) = U := by rw [hU]; exact IntWalk.i64_in _ (by omega)
 have w6 : IntKind.i64.wrap (b0 - ay) = V := by rw [hV]; exact IntWalk.i64_in _ (by omega)
 have g1 := bd U Y (by omega) (by omega) (by omega) (by omega)
 have g2 := bd V X (by omega) (by omega) (by omega) (by omega)
 have g3 := bd U X (by omega) (by omega) (by omega) (by omega)
 have g4 := bd V Y (by omega) (by omega) (by omega) (by omega)
 have g5 := bd U U (by omega) (by omega) (by omega) (by omega)
 have g6 := bd V V (by omega) (by omega) (by omega) (by omega)
 have g7 := abs_mul_le (x := U) (y := U) (m := 200) (n := 200) (by omega) (by omega)
 have g8 := abs_mul_le (x := V) (y := V) (m := 200) (n := 200) (by omega) (by omega)
 have w7 : IntKind.i64.wrap (U * Y) = U * Y := IntWalk.i64_in _ (by omega)
 have w8 : IntKind.i64.wrap (V * X) = V * X := IntWalk.i64_in _ (by omega)
 have w9 : IntKind.i64.wrap (U * X) = U * X := IntWalk.i64_in _ (by omega)
 have w10 : IntKind.i64.wrap (V * Y) = V * Y := IntWalk.i64_in _ (by omega)
 have w11 : IntKind.i64.wrap (U * X + V * Y) = U * X + V * Y := IntWalk.i64_in _ (by omega)
 have w12 : IntKind.i64.wrap (U * U) = U * U := IntWalk.i64_in _ (by omega)
 have w13 : IntKind.i64.wrap (V * V) = V * V := IntWalk.i64_in _ (by omega)
 have w14 : IntKind.i64.wrap (U * U + V * V) = U * U + V * V := IntWalk.i64_in _ (by omega)
 have g9 := abs_mul_le (x := U * U + V * V) (y := pd) (m := 80000) (n := 4000000) (by omega) (by omega)
 have w15 : IntKind.i64.wrap ((U * U + V * V) * pd) = (U * U + V * V) * pd := IntWalk.i64_in _ (by omega)
 have hon : onF ⟨⟨ax, ay⟩, ⟨bx, b0⟩⟩ ⟨px, py, pd⟩ = if U * Y = V * X then decide (0 ≤ U * X + V * Y ∧ U * X + V * Y ≤ (U * U + V * V) * pd) else false := by
  unfold onF; simp only; rw [hX, hY, hU, hV]
 have HV := Lib.hid hon
 rw [HV.out]
 clear a1 a2 a3 a4 b1 b2 b3 b4 hne d1 d2 p1 p2 p3 p4 bd e1 e2 f1 f2 g1 g2 g3 g4 g5 g6 g7 g8 g9 hX hY hU hV hon HV
 obtain ⟨A, hA⟩ : ∃ A, U * Y = A := ⟨_, rfl⟩
 obtain ⟨Bq, hBq⟩ : ∃ B, V * X = B := ⟨_, rfl⟩
 obtain ⟨C, hC⟩ : ∃ C, U * X + V * Y = C := ⟨_, rfl⟩
 obtain ⟨Dq, hDq⟩ : ∃ D, (U * U + V * V) * pd = D := ⟨_, rfl⟩
 rw [hA, hBq, hC, hDq]
 rw [hA] at w7
 rw [hBq] at w8
 rw [hC] at w11
 rw [hDq] at w15
 by_cases c1 : A = Bq
 ·have k1 : (A != Bq) = false := by simp [c1]
  rw [if_pos c1]
  clear c1
  by_cases c2 : 0 ≤ C
  ·have k2 : decide (0 ≤ C) = true := decide_eq_true c2
   have HD := Lib.hid (show decide (0 ≤ C ∧ C ≤ Dq) = decide (C ≤ Dq) by simp [c2])
   rw [HD.out]
   go_enter Try.func37, Try.ntmps37
   go_wp2_with fail
   go_ret
   exact ⟨rfl, (by repeat (first | exact Ext.refl _ | assumption | refine Ext.setCell ?_ (by first | (simp; done) | (simp; omega) | omega) _ | refine Ext.alloc ?_ _ | refine Ext.drew ?_ | refine Ext.trans ?_ (by assumption)))⟩
  ·have k2 : decide (0 ≤ C) = false := decide_eq_false c2
   have HD := Lib.hid (show decide (0 ≤ C ∧ C ≤ Dq) = false by simp [c2])
   rw [HD.out]
   clear c2
   go_enter Try.func37, Try.ntmps37
   go_wp2_with fail
   go_ret
   exact ⟨rfl, (by repeat (first | exact Ext.refl _ | assumption | refine Ext.setCell ?_ (by first | (simp; done) | (simp; omega) | omega) _ | refine Ext.alloc ?_ _ | refine Ext.drew ?_ | refine Ext.trans ?_ (by assumption)))⟩
 ·have k1 : (A != Bq) = true := by rw [bne_iff_ne]; exact c1
  rw [if_neg c1]
  clear c1
  go_enter Try.func37, Try.ntmps37
  go_wp2_with fail
  go_ret
  exact ⟨rfl, (by repeat (first | exact Ext.refl _ | assumption | refine Ext.setCell ?_ (by first | (simp; done) | (simp; omega) | omega) _ | refine Ext.alloc ?_ _ | refine Ext.drew ?_ | refine Ext.trans ?_ (by assumption)))⟩
end Go.Proofs.Ytagiaiocgjagnaa
namespace Go.Proofs.Ytagiaiocgjagnaa
set_option linter.unusedSimpArgs false
set_option linter.unusedVariables false
open Go.RowKit

def encRP : Enc RP := ⟨fun p => [.int .i64 p.x, .int .i64 p.y, .int .i64 p.d], 3, fun _ => rfl, fun p u hu => by
 simp at hu
 rcases hu with rfl | rfl | rfl <;> rfl, by omega⟩
theorem rpInfo : (Try.prog.info? 72).map (fun i => (i.zero, i.size, i.bytes)) = some (some (.agg #[.int .i64 0, .int .i64 0, .int .i64 0]), 3, 24) := by kernel_rfl
/-- A slice of points. -/
structure RPs (w : World) (a : Option Addr) (n c : Nat) (l : List RP) : Prop where
 len : l.length = n
 cap : n ≤ c
 most : c ≤ maxLen
 at' : (a = none ∧ n = 0 ∧ c = 0) ∨ ∃ g, a = some ⟨g, 0, none⟩ ∧ 0 < n ∧ GAt encRP w g l ∧ g < w.heap.size
theorem RPs.nil (w : World) : RPs w none 0 0 [] := ⟨rfl, Nat.le_refl _, by rw [maxLen]; omega, .inl ⟨rfl, rfl, rfl⟩⟩
theorem RPs.ext {w w' : World} {a : Option Addr} {n c : Nat} {l : List RP} (h : RPs w a n c l) (e : Ext w w') : RPs w' a n c l := by
 obtain ⟨h1, h2, h3, h4⟩ := h
 refine ⟨h1, h2, h3, ?_⟩
 rcases h4 with h4 | ⟨g, ha, hn, hg, hl⟩
 ·exact .inl h4
 ·exact .inr ⟨g, ha, hn, hg.ext e, Nat.lt_of_lt_of_le hl e.size⟩
/-- Where the elements of a slice lie that is appended. -/
def SrcR (w : World) (a : Option Addr) (n : Nat) (l : List RP) : Prop := l.length = n ∧ (n = 0 ∨ ∃ ad, a = some ad ∧ ∀ (j : Nat) (u : Value), (gcells encRP l)[j]? = some u → w.cell? (ad.add j) = some u)
theorem SrcR.ext {w w' : World} {a : Option Addr} {n : Nat} {l : List RP} (h : SrcR w a n l) (e : Ext w w') : SrcR w' a n l := by
 obtain ⟨h1, h2 | ⟨ad, ha, hc⟩⟩ := h
 ·exact ⟨h1, .inl h2⟩
 ·exact ⟨h1, .inr ⟨ad, ha, fun j u hj => e.cell (hc j u hj)⟩⟩
theorem gat_take {w : World} {g k : Nat} {l : List RP} (h : GAt encRP w g l) : GAt encRP w g (l.take k) := fun i a hi j hj => by
 rcases Nat.lt_or_ge i k with h1 | h1
 ·rw [List.getElem?_take_of_lt h1] at hi
  exact h i a hi j hj
 ·rw [List.getElem?_eq_none (by rw [List.length_take]; omega)] at hi; cases hi
theorem RPs.take {w : World} {a : Option Addr} {n c k : Nat} {l : List RP} (h : RPs w a n c l) (hk : k ≤ n) : SrcR w a k (l.take k) := by
 obtain ⟨h1, h2, h3, h4⟩ := h
 refine ⟨by rw [List.length_take]; omega, ?_⟩
 rcases h4 with ⟨ha, hn, hc⟩ | ⟨g, ha, hn, hg, hl⟩
 ·exact .inl (by omega)
 ·exact .inr ⟨_, ha, gnews_at (gat_take hg)⟩
theorem drop_news {w : World} {g k : Nat} {l : List RP} (h : GAt encRP w g l) : ∀ (j : Nat) (u : Value), (gcells encRP (l.drop k))[j]? = some u → w.cell? ((⟨g, k * 3, none⟩ : Addr).add j) = some u := fun j u hj => by
 have hk : k ≤ l.length := by
  rcases Nat.le_total k l.length with h1 | h1
  ·exact h1
  ·rw [List.drop_eq_nil_of_le h1] at hj; simp [gcells] at hj
 have e : gcells encRP l = gcells encRP (l.take k) ++ gcells encRP (l.drop k) := by rw [← gcells_append, List.take_append_drop]
 have hlen : (gcells encRP (l.take k)).length = k * 3 := by rw [gcells_length, List.length_take, Nat.min_eq_left hk]; rfl
 have := gnews_at h (k * 3 + j) u (by rw [e, List.getElem?_append_right (by omega), hlen, Nat.add_sub_cancel_left]; exact hj)
 rw [show ((⟨g, k * 3, none⟩ : Addr).add j) = ⟨g, k * 3 + j, none⟩ by unfold Addr.add; split <;> simp_all]
 rw [show ((⟨g, 0, none⟩ : Addr).add (k * 3 + j)) = ⟨g, k * 3 + j, none⟩ by unfold Addr.add; split <;> simp_all] at this
 exact this
theorem run_append_noneR {w : World} {base : Nat} {v : Value} {l : List RP} (h : GRow encRP 72 w base v l) (ty : TypeId) (a : Option Addr) (c : Nat) :
  (Builtin.append_ #[81, 81] ty #[v, .slice a 0 c]).run Try.prog w = .ok v w := by
 obtain ⟨i0, hi, hz0, hz1, hz2⟩ := info_parts rpInfo
 have hu := Try.underlying81
 obtain ⟨h0, ⟨hv, hn⟩ | ⟨g', cap', cur, hv, hb, hh, hle, _⟩⟩ := h
 ·subst hv
  cases a <;> simp [Builtin.append_, run_underlying hu, sizeOf, typeInfo, hi, Builtin.lenOf, Builtin.firstCells, loadCells, loadCellsFrom]
 ·subst hv
  cases a <;> simp [Builtin.append_, run_underlying hu, sizeOf, typeInfo, hi, Builtin.lenOf, Builtin.firstCells, loadCells, loadCellsFrom, hle, storeCells]
/-- Appending a slice of points, also an empty one. -/
theorem app_any {w : World} {base : Nat} {v : Value} {l1 l2 : List RP} {a : Option Addr} {n : Nat} (hb : base ≤ w.heap.size) (h1 : GRow encRP 72 w base v l1) (h2 : SrcR w a n l2) (hs : l1.length + n ≤ 1000) (c : Nat) (ty : TypeId) :
  ∃ v' w', (Builtin.append_ #[81, 81] ty #[v, .slice a n c]).run Try.prog w = .ok v' w' ∧ GRow encRP 72 w' base v' (l1 ++ l2) ∧ ∀ A, Ext A w → A.heap.size ≤ base → Ext A w' := by
 obtain ⟨i0, hi, hz0, hz1, hz2⟩ := info_parts rpInfo
 obtain ⟨hl, h2⟩ := h2
 rcases Nat.eq_zero_or_pos n with hn | hn
 ·subst hn
  have : l2 = [] := List.eq_nil_of_length_eq_zero hl
  subst this
  exact ⟨v, w, run_append_noneR h1 ty a c, by rw [List.append_nil]; exact h1, fun A hA _ => hA⟩
 ·obtain ⟨ad, rfl, hc⟩ := h2.resolve_left (by omega)
  obtain ⟨g, cap, w', hr, hown, hgrow, hat, hlt⟩ := run_append_lies (P := Try.prog) w 81 ty base 72 i0 _ 3 24 Try.underlying81 hi hz0 hz1 hz2 rfl (by omega) v l1.length (gcells encRP l1) h1 ad n c (gcells encRP l2) (by rw [gcells_length, hl]; rfl) hc (gcells_one _ _) hn (by rw [maxLen]; omega) (by omega) hb _ rfl
  refine ⟨_, w', hr, ?_, fun A hA hAb => ?_⟩
  ·unfold GRow
   rw [gcells_append, List.length_append, hl]
   exact hown
  ·exact gext_grown hA hgrow fun g' hg' => Nat.le_trans hAb (gowns_lt h1 hg').1
theorem GRow.rps {w : World} {base : Nat} {v : Value} {l : List RP} (h : GRow encRP 72 w base v l) (hl : 0 < l.length) : ∃ a c, v = .slice a l.length c ∧ RPs w a l.length c l := by
 obtain ⟨g, cap, rfl, hb, hlt⟩ := World.ownsRow.form h hl
 refine ⟨_, cap, rfl, rfl, ?_, ?_, .inr ⟨g, rfl, hl, h.gat, hlt⟩⟩
 ·obtain ⟨h0, ⟨hv, _⟩ | ⟨g', cap', cur, hv, hb, hh, hle, hc, _⟩⟩ := h
  ·simp at hv
  ·simp at hv; obtain ⟨rfl, rfl⟩ := hv; exact hle
 ·obtain ⟨h0, ⟨hv, _⟩ | ⟨g', cap', cur, hv, hb, hh, hle, hc, _⟩⟩ := h
  ·simp at hv
  ·simp at hv; obtain ⟨rfl, rfl⟩ := hv; exact hc
theorem wp_append_run {P : Program} {o : Oper} {a : Act} {w w' : World} {K : Act → World → Prop} {Q : Exit → Act → World → Prop} (s x : Operand) (t : TypeId) (v u r : Value)
  (ho : o.op = .call { callee := .builtin .append, args := #[s, x], argTypes := #[t, t] }) (hs : a.eval s = v) (hx : a.eval x = u)
  (hr : (Builtin.append_ #[t, t] o.type #[v, u]).run P w = .ok r w') (h : K (a.put o.dst r) w') : o.wp P a w K Q := by
 unfold Oper.wp execOp
 simp only [ho, resolve, invoke, builtin, Sem.run_bind, Sem.run_pure, Result.andThen_ok, List.map_toArray, List.map_cons, List.map_nil, hs, hx, hr]
 exact h
theorem cmp5_c (a b : RP) (w : World) (ha : PIn a 4000000) (hb : PIn b 4000000) : Calls Try.prog 89 #[a.v, b.v] w fun e w' => e = .returned (.int .i64 (cmp5 a b)) ∧ Ext w w' := by
 obtain ⟨a1, a2, a3, a4, a5, a6⟩ := ha
 obtain ⟨b1, b2, b3, b4, b5, b6⟩ := hb
 have n : ∀ {x y : Int}, x.natAbs ≤ 4000000 → y.natAbs ≤ 4000000 → N62 (x * y) := fun h1 h2 => by
  have := abs_mul_le h1 h2
  exact ⟨by omega, by omega⟩
 exact compare5_c a b w (n (by omega) (by omega)) (n (by omega) (by omega)) (n (by omega) (by omega)) (n (by omega) (by omega))
end Go.Proofs.Ytagiaiocgjagnaa
namespace Go.Proofs.Ytagiaiocgjagnaa
set_option linter.unusedSimpArgs false
set_option linter.unusedVariables false
open Go.RowKit

abbrev RP.ca (p : RP) : Array Value := #[.int .i64 p.x, .int .i64 p.y, .int .i64 p.d]
theorem GAt.r3 {w : World} {g : Nat} {l : List RP} (h : GAt encRP w g l) {i : Nat} {p : RP} (hi : l[i]? = some p) : w.cell? ⟨g, i * 3, none⟩ = some (.int .i64 p.x) ∧ w.cell? ⟨g, i * 3 + 1, none⟩ = some (.int .i64 p.y) ∧ w.cell? ⟨g, i * 3 + 2, none⟩ = some (.int .i64 p.d) := ⟨h i p hi 0 (by decide), h i p hi 1 (by decide), h i p hi 2 (by decide)⟩
theorem Blk.ra {w : World} {b : Nat} {p : RP} {t : TypeId} (h : Blk w b p.ca t) : w.cell? ⟨b, 0, none⟩ = some (.int .i64 p.x) ∧ w.cell? ⟨b, 1, none⟩ = some (.int .i64 p.y) ∧ w.cell? ⟨b, 2, none⟩ = some (.int .i64 p.d) := ⟨h.cell 0, h.cell 1, h.cell 2⟩
theorem eq3 (q p : RP) : ((q.x == p.x) = true ∧ (q.y == p.y) = true ∧ (q.d == p.d) = true) ∨ (q.x == p.x) = false ∨ ((q.x == p.x) = true ∧ (q.y == p.y) = false) ∨ ((q.x == p.x) = true ∧ (q.y == p.y) = true ∧ (q.d == p.d) = false) := by
 cases q.x == p.x <;> cases q.y == p.y <;> cases q.d == p.d <;> simp
theorem src1 {w : World} {b : Nat} {p : RP} {t : TypeId} (h : Blk w b p.ca t) : SrcR w (some ⟨b, 0, none⟩) 1 [p] :=
 ⟨rfl, .inr ⟨_, rfl, gnews_at (gAt_one fun j hj => by
  rcases j with _ | _ | _ | j
  ·exact h.cell 0
  ·exact h.cell 1
  ·exact h.cell 2
  ·exact absurd hj (by show ¬ (j + 3 < 3); omega))⟩⟩
theorem wp_build1 {o : Oper} {a : Act} {w : World} {K : Act → World → Prop} {Q : Exit → Act → World → Prop} (p : RP) (x : Operand) (ho : o.op = .buildSlice 81 1 #[(0, x)]) (hx : a.eval x = p.v)
  (h : K (a.put o.dst (.slice (some ⟨w.heap.size, 0, none⟩) 1 1)) (w.alloc (.cells p.ca 72))) : o.wp Try.prog a w K Q := by
 obtain ⟨i0, hi, hz0, hz1, hz2⟩ := info_parts rpInfo
 refine wp_buildSlice 81 72 1 #[(0, x)] ho p.ca i0 _ Try.underlying81 hi hz0 (by rw [hz1]; omega) (by rw [hz1]; omega) ?_ h
 rw [hz1]
 simp only [List.map_toArray, List.map_cons, List.map_nil, hx]
 first
 | kernel_rfl
 | (cases p; rfl)
 | (simp [Instr.fill, RP.v]; rfl)
/-- What the tail of Put is told: the place k, what stands before and behind it. -/
def PutK (l : List RP) (p : RP) (k : Nat) : Prop := insF l p = l.take k ++ p :: l.drop k
set_option maxRecDepth 100000 in
set_option maxHeartbeats 40000000 in
theorem rPut_some (g n c : Nat) (l : List RP) (p : RP) (w : World) (hg : GAt encRP w g l) (hgl : g < w.heap.size) (hln : l.length = n) (h0 : 0 < n) (hnc : n ≤ c) (hcm : c ≤ maxLen) (hin : ∀ q ∈ l, PIn q 4000000) (hp : PIn p 4000000) (hn : n ≤ 100) :
  Calls Try.prog 65 #[.slice (some ⟨g, 0, none⟩) n c, p.v] w fun e w' => ∃ a' c', e = .returned (.slice a' (insF l p).length c') ∧ RPs w' a' (insF l p).length c' (insF l p) ∧ Ext w w' := by
 have HL := Lib.hid (And.intro hg (And.intro hgl hln))
 have HP := Lib.hid (And.intro hin hp)
 have hcm' := hcm
 rw [maxLen] at hcm'
 have hR := Lib.hid (show RPs w (some ⟨g, 0, none⟩) n c l from ⟨hln, hnc, hcm, .inr ⟨g, rfl, h0, hg, hgl⟩⟩)
 clear hg hln hin hp hcm
 obtain ⟨B, hB⟩ : ∃ B, w.heap.size = B := ⟨_, rfl⟩
 go_enter Try.func65, Try.ntmps65
 go_upto_region 2 with fail
 refine wp_gen (fun W => Ext w W ∧ Blk W B p.ca 72) ⟨(by repeat (first | exact Ext.refl _ | assumption | refine Ext.setCell ?_ (by first | (simp; done) | (simp; omega) | omega) _ | refine Ext.alloc ?_ _ | refine Ext.drew ?_ | refine Ext.trans ?_ (by assumption))), Blk.at _ 72 hB.symm⟩ ?_
 rintro V ⟨E0, B0⟩
 have HE := Lib.hid E0
 have HB := Lib.hid B0
 clear E0 B0
 go_loopw [5] (fun v ws => ∃ k : Nat, k ≤ n ∧ v = .int .i64 (k : Int) ∧ (∀ j q, j < k → l[j]? = some q → cmp5 q p < 0) ∧ Ext V ws) (fun v _ => n - (intOf v).toNat)
 case atStart => exact ⟨0, by omega, rfl, fun j q hj => absurd hj (by omega), Ext.refl V⟩
 case round =>
  obtain ⟨k, hk, rfl, hz, hE⟩ := hrel
  have HZ := Lib.hid hz
  have HW := Lib.hid hE
  clear hz
  have l0 : (0 : Int) ≤ (k : Int) := by omega
  have l2 : ¬ (k : Int) < 0 := by omega
  by_cases hlt : k < n
  ·obtain ⟨q, hq⟩ : ∃ q, l[k]? = some q := ⟨_, List.getElem?_eq_getElem (by rw [HL.out.2.2]; exact hlt)⟩
   have HQ := Lib.hid hq
   have l1 : (k : Int) < (n : Int) := by omega
   have l1' : decide ((k : Int) < (n : Int)) = true := decide_eq_true l1
   have HC := Lib.hid (fun W (e : Ext wr W) => (show (W.cell? ⟨g, k * 3, none⟩ = some (.int .i64 q.x) ∧ W.cell? ⟨g, k * 3 + 1, none⟩ = some (.int .i64 q.y) ∧ W.cell? ⟨g, k * 3 + 2, none⟩ = some (.int .i64 q.d)) ∧ W.cell? ⟨B, 0, none⟩ = some (.int .i64 p.x) ∧ W.cell? ⟨B, 1, none⟩ = some (.int .i64 p.y) ∧ W.cell? ⟨B, 2, none⟩ = some (.int .i64 p.d) from ⟨GAt.r3 (((HL.out.1.ext HE.out).ext hE).ext e) HQ.out, ((HB.out.ext hE).ext e).ra⟩))
   obtain ⟨z, hz0⟩ : ∃ z, cmp5 q p = z := ⟨_, rfl⟩
   have HZ0 := Lib.hid hz0
   clear hq hz0 hE
   go_upto_region 2 with fail
   refine wp_region_held_drew (S := fun W => Ext wr W) (by kernel_rfl) ((Ext.refl wr).drew) (fun hHeld => ?_)
   refine tkW (i := 0) (h := ?_)
   refine tkW (i := 1) (h := ?_)
   refine tkW (i := 2) (h := ?_)
   refine tkW (i := 3) (h := ?_)
   refine tkW (i := 4) (h := ?_)
   refine tkW (i := 5) (h := ?_)
   refine tkW (i := 6) (h := ?_)
   refine tkW (i := 7) (h := ?_)
   refine takeL (i := 8) (v := ?_) rfl (by kernel_rfl) (by kernel_rfl) (by kernel_rfl) (fun _ _ _ h => h) (Or.inl ⟨by rfl, ?_⟩) (by assumption) ?_; rotate_left; (focus (intro wq hSw; have hcc := HC.out wq hSw; clear hSw; go_split_ands; go_simp; try with_reducible rfl)); (try simp only [Act.put, List.setIfInBounds_toArray, List.set_cons_zero, List.set_cons_succ])
   refine takeL (i := 9) (v := ?_) rfl (by kernel_rfl) (by kernel_rfl) (by kernel_rfl) (fun _ _ _ h => h) (Or.inl ⟨by rfl, ?_⟩) (by assumption) ?_; rotate_left; (focus (intro wq hSw; have hcc := HC.out wq hSw; clear hSw; go_split_ands; go_simp; try with_reducible rfl)); (try simp only [Act.put, List.setIfInBounds_toArray, List.set_cons_zero, List.set_cons_succ])
   refine consL (i := 10) (by kernel_rfl) rfl (fun K hK => ?_); go_simp; go_at_call 89; refine (cmp5_c q p _ (HP.out.1 q (List.mem_of_getElem? HQ.out)) HP.out.2).mono ?_; rw [HZ0.out]; rintro e w5 ⟨rfl, hx5⟩; go_wp2_with fail; refine hK.out _ _ ?_ ?_; rotate_left; clear hK K; intro hHeld; rotate_right; (focus (refine Ext.trans ?_ (by assumption); assumption)); (try simp only [Act.put, List.setIfInBounds_toArray, List.set_cons_zero, List.set_cons_succ])
   have HX5 := Lib.hid (show Ext wr w5 by assumption)
   clear hx5
   by_cases hzn : z < 0
   ·have hz' : decide (z < 0) = true := decide_eq_true hzn
    refine tkW (i := 11) (h := ?_)
    refine tkW (i := 12) (h := ?_)
    refine doneL (by kernel_rfl) ?_
    clear hHeld
    go_wp2_with fail
    go_roundw
    case rel =>
     refine ⟨k + 1, by omega, by go_num, fun j r hj hr => ?_, HW.out.trans HX5.out⟩
     rcases Nat.lt_succ_iff_lt_or_eq.1 hj with h1 | h1
     ·exact HZ.out j r h1 hr
     ·subst h1
      rw [HQ.out] at hr
      injection hr with hr
      subst hr
      rw [HZ0.out]; exact hzn
    case measure => simp [intOf]; omega
   ·have hz' : decide (z < 0) = false := decide_eq_false hzn
    have hat := insF_at l p k (by rw [HL.out.2.2]; exact hk) HZ.out (fun r hr => by rw [HQ.out] at hr; injection hr with hr; subst hr; rw [HZ0.out]; exact hzn)
    rw [HQ.out] at hat
    simp only at hat
    have HAT := Lib.hid hat
    clear hat hzn
    refine tkW (i := 11) (h := ?_)
    refine tkW (i := 12) (h := ?_)
    refine doneL (by kernel_rfl) ?_
    clear hHeld
    have HC5 := Lib.hid (fun W (e : Ext w5 W) => HC.out W (HX5.out.trans e))
    rcases eq3 q p with ⟨e1, e2, e3⟩ | e1 | ⟨e1, e2⟩ | ⟨e1, e2, e3⟩
    ·have HV := Lib.hid (show insF l p = l by rw [HAT.out, if_pos ⟨by simpa using e1, by simpa using e2, by simpa using e3⟩])
     go_upto_region 4 with fail
     refine wp_region_held_drew (S := fun W => Ext w5 W) (by kernel_rfl) ((Ext.refl w5).drew) (fun hHeld => ?_)
     refine tkW (i := 0) (h := ?_)
     refine tkW (i := 1) (h := ?_)
     refine tkW (i := 2) (h := ?_)
     refine tkW (i := 3) (h := ?_)
     refine tkW (i := 4) (h := ?_)
     refine tkW (i := 5) (h := ?_)
     refine tkW (i := 6) (h := ?_)
     refine tkW (i := 7) (h := ?_)
     refine takeL (i := 8) (v := ?_) rfl (by kernel_rfl) (by kernel_rfl) (by kernel_rfl) (fun _ _ _ h => h) (Or.inl ⟨by rfl, ?_⟩) (by assumption) ?_; rotate_left; (focus (intro wq hSw; have hcc := HC5.out wq hSw; clear hSw; go_split_ands; go_simp; try with_reducible rfl)); (try simp only [Act.put, List.setIfInBounds_toArray, List.set_cons_zero, List.set_cons_succ])
     refine takeL (i := 9) (v := ?_) rfl (by kernel_rfl) (by kernel_rfl) (by kernel_rfl) (fun _ _ _ h => h) (Or.inl ⟨by rfl, ?_⟩) (by assumption) ?_; rotate_left; (focus (intro wq hSw; have hcc := HC5.out wq hSw; clear hSw; go_split_ands; go_simp; try with_reducible rfl)); (try simp only [Act.put, List.setIfInBounds_toArray, List.set_cons_zero, List.set_cons_succ])
     refine tkW (i := 10) (h := ?_)
     refine tkW (i := 11) (h := ?_)
     refine doneL (by kernel_rfl) ?_
     go_wp2_with fail
     go_ret
     have hx : Ext w w5.drew := (HE.out.trans (HW.out.trans HX5.out)).drew
     exact ⟨_, c, by rw [HV.out, HL.out.2.2]; rfl, by rw [HV.out, HL.out.2.2]; exact hR.out.ext hx, hx⟩
    all_goals
     have HV := Lib.hid (show insF l p = l.take k ++ p :: l.drop k by rw [HAT.out, if_neg (by rintro ⟨g1, g2, g3⟩; simp [g1, g2, g3] at *)])
     go_upto_region 4 with fail
     refine wp_region_held_drew (S := fun W => Ext w5 W) (by kernel_rfl) ((Ext.refl w5).drew) (fun hHeld => ?_)
     refine tkW (i := 0) (h := ?_)
     refine tkW (i := 1) (h := ?_)
     refine tkW (i := 2) (h := ?_)
     refine tkW (i := 3) (h := ?_)
     refine tkW (i := 4) (h := ?_)
     refine tkW (i := 5) (h := ?_)
     refine tkW (i := 6) (h := ?_)
     refine tkW (i := 7) (h := ?_)
     refine takeL (i := 8) (v := ?_) rfl (by kernel_rfl) (by kernel_rfl) (by kernel_rfl) (fun _ _ _ h => h) (Or.inl ⟨by rfl, ?_⟩) (by assumption) ?_; rotate_left; (focus (intro wq hSw; have hcc := HC5.out wq hSw; clear hSw; go_split_ands; go_simp; try with_reducible rfl)); (try simp only [Act.put, List.setIfInBounds_toArray, List.set_cons_zero, List.set_cons_succ])
     refine takeL (i := 9) (v := ?_) rfl (by kernel_rfl) (by kernel_rfl) (by kernel_rfl) (fun _ _ _ h => h) (Or.inl ⟨by rfl, ?_⟩) (by assumption) ?_; rotate_left; (focus (intro wq hSw; have hcc := HC5.out wq hSw; clear hSw; go_split_ands; go_simp; try with_reducible rfl)); (try simp only [Act.put, List.setIfInBounds_toArray, List.set_cons_zero, List.set_cons_succ])
     refine tkW (i := 10) (h := ?_)
     refine tkW (i := 11) (h := ?_)
     refine doneL (by kernel_rfl) ?_
     clear hHeld
     go_upto_region 7 with fail
     have HX7 := Lib.hid (HE.out.trans (HW.out.trans HX5.out.drew))
     have HBx := Lib.hid (((HB.out.ext HW.out).ext HX5.out).drew)
     generalize w5.drew = W0 at *
     have L0 : (0 : Int) ≤ (k : Int) := by omega
     have L1 : ¬ (k : Int) < 0 := by omega
     have L2 : (k : Int) ≤ (n : Int) := by omega
     have L3 : (k : Int) ≤ (c : Int) := by omega
     have L4 : (k : Int).toNat = k := by omega
     have HC7 := Lib.hid (fun W (e : Ext W0 W) => (HBx.out.ext e).ra)
     have HT7 := Lib.hid ((hR.out.ext HX7.out).take hk)
     refine wp_region_held_drew (S := fun W => Ext W0 W) (by kernel_rfl) ((Ext.refl W0).drew) (fun hHeld => ?_)
     refine tkW (i := 0) (h := ?_)
     refine tkW (i := 1) (h := ?_)
     refine tkW (i := 2) (h := ?_)
     refine tkW (i := 3) (h := ?_)
     refine takeL (i := 5) (v := ?_) rfl (by kernel_rfl) (by kernel_rfl) (by kernel_rfl) (fun _ _ _ h => h) (Or.inl ⟨by rfl, ?_⟩) (by assumption) ?_; rotate_left; (focus (intro wq hSw; have hcc := HC7.out wq hSw; clear hSw; go_split_ands; go_simp; try with_reducible rfl)); (try simp only [Act.put, List.setIfInBounds_toArray, List.set_cons_zero, List.set_cons_succ])
     have HS7 := Lib.hid (show (l.take k).length = k by rw [List.length_take, HL.out.2.2]; omega)
     have HN7 := Lib.hid (show k + 1 ≤ 1000 by omega)
     refine cons2L (i := 4) (j := 6) (by kernel_rfl) rfl rfl (fun K hK => ?_) (fun K hK => ?_)
     ·rw [if_pos (show Region.wanted _ _ = true by rfl)]
      obtain ⟨v1, w1, hr1, hg1, hx1⟩ := app_any (w := W0.drew) (base := W0.heap.size) (l1 := []) (Nat.le_of_eq rfl) (GRow.nil encRP 72 _ _) (HT7.out.ext (Ext.refl W0).drew) (by show 0 + k ≤ 1000; omega) c 81
      rw [List.nil_append] at hg1
      refine wp_append_run _ _ _ (.slice none 0 0) (.slice (some ⟨g, 0, none⟩) k c) v1 rfl rfl rfl hr1 ?_
      have HX1 := Lib.hid (hx1 W0 (Ext.refl W0).drew (Nat.le_refl _))
      have HG1 := Lib.hid hg1
      clear hx1 hg1 hr1
      refine hK.out _ _ ?_ ?_; rotate_left; clear hK K; intro hHeld; rotate_right
      ·exact HX1.out
      (try simp only [Act.put, List.setIfInBounds_toArray, List.set_cons_zero, List.set_cons_succ])
      refine consL (i := 6) (by kernel_rfl) rfl (fun K hK => ?_)
      rw [if_pos (show Region.wanted _ _ = true by rfl)]
      refine wp_build1 p _ rfl rfl ?_
      obtain ⟨b2, hb2⟩ : ∃ b, w1.heap.size = b := ⟨_, rfl⟩
      have HB2 := Lib.hid (Blk.at p.ca 72 hb2.symm)
      have HY2 := Lib.hid ((Ext.refl w1).alloc (.cells p.ca 72))
      rw [hb2]
      clear hb2
      generalize w1.alloc (.cells p.ca 72) = w2 at *
      refine hK.out _ _ ?_ ?_; rotate_left; clear hK K; intro hHeld; rotate_right
      ·exact HX1.out.trans HY2.out
      (try simp only [Act.put, List.setIfInBounds_toArray, List.set_cons_zero, List.set_cons_succ])
      have HG2 := Lib.hid (HG1.out.ext HY2.out)
      have HX2 := Lib.hid (HX1.out.trans HY2.out)
      have HBS7 := Lib.hid HX2.out.size
      have HWB7 := Lib.hid (Nat.le_refl W0.heap.size)
      have HXA := Lib.hid HX2.out
      clear HX1 HG1 HY2
      obtain ⟨v3, w3, hr3, hg3, hx3⟩ := app_any (w := w2) (base := W0.heap.size) HBS7.out HG2.out (src1 HB2.out) (by show (l.take k).length + 1 ≤ 1000; rw [HS7.out]; exact HN7.out) 1 81
      refine consL (i := 7) (by kernel_rfl) rfl (fun K hK => ?_)
      rw [if_pos (show Region.wanted _ _ = true by rfl)]
      refine wp_append_run _ _ _ v1 (.slice (some ⟨b2, 0, none⟩) 1 1) v3 rfl rfl rfl hr3 ?_
      have HX3 := Lib.hid (hx3 W0 HX2.out HWB7.out)
      have HXA3 := Lib.hid (hx3 W0 HXA.out (Nat.le_refl _))
      have HG3 := Lib.hid hg3
      clear hx3 hg3 hr3
      refine hK.out _ _ ?_ ?_; rotate_left; clear hK K; intro hHeld; rotate_right
      ·exact HX3.out
      (try simp only [Act.put, List.setIfInBounds_toArray, List.set_cons_zero, List.set_cons_succ])
      refine tkW (i := 8) (h := ?_)
      refine doneL (by kernel_rfl) ?_
      clear hHeld
      have HSA := Lib.hid HXA3.out.size
      obtain ⟨v4, w4, hr4, hg4, hx4⟩ := app_any (w := w3) (base := W0.heap.size) HSA.out HG3.out (⟨by rw [List.length_drop, HL.out.2.2], .inr ⟨_, rfl, drop_news (HL.out.1.ext (HX7.out.trans HX3.out))⟩⟩ : SrcR w3 (some ⟨g, k * 3, none⟩) (n - k) (l.drop k)) (by rw [List.length_append, HS7.out]; show k + 1 + (n - k) ≤ 1000; omega) (c - k) 81
      rw [show l.take k ++ [p] ++ l.drop k = insF l p by rw [HV.out, List.append_assoc]; rfl] at hg4
      have HX4 := Lib.hid (hx4 W0 HX3.out HWB7.out)
      obtain ⟨a4, c4, rfl, hR4⟩ := hg4.rps (by rw [HV.out]; simp; omega)
      have HR4 := Lib.hid hR4
      clear hx4 hg4 hR4
      go_wp2_with (at_builtin; refine wpList_plain rfl fun _ hK => wp_append_run _ _ _ _ _ _ rfl rfl rfl hr4 (hK _ _ ?_))
      go_ret
      exact ⟨a4, c4, rfl, HR4.out, HX7.out.trans HX4.out⟩
     ·rw [if_pos (show Region.wanted _ _ = true by rfl)]
      refine wp_build1 p _ rfl rfl ?_
      obtain ⟨b2, hb2⟩ : ∃ b, W0.drew.heap.size = b := ⟨_, rfl⟩
      have HB1 := Lib.hid (Blk.at p.ca 72 hb2.symm)
      have HY1 := Lib.hid ((Ext.refl W0).drew.alloc (.cells p.ca 72))
      rw [hb2]
      clear hb2
      generalize W0.drew.alloc (.cells p.ca 72) = w1 at *
      refine hK.out _ _ ?_ ?_; rotate_left; clear hK K; intro hHeld; rotate_right
      ·exact HY1.out
      (try simp only [Act.put, List.setIfInBounds_toArray, List.set_cons_zero, List.set_cons_succ])
      obtain ⟨v1, w2, hr1, hg1, hx1⟩ := app_any (w := w1) (base := w1.heap.size) (l1 := []) (Nat.le_refl _) (GRow.nil encRP 72 _ _) (HT7.out.ext HY1.out) (by show 0 + k ≤ 1000; omega) c 81
      refine consL (i := 4) (by kernel_rfl) rfl (fun K hK => ?_)
      rw [if_pos (show Region.wanted _ _ = true by rfl)]
      rw [List.nil_append] at hg1
      refine wp_append_run _ _ _ (.slice none 0 0) (.slice (some ⟨g, 0, none⟩) k c) v1 rfl rfl rfl hr1 ?_
      have HX2 := Lib.hid (hx1 W0 HY1.out HY1.out.size)
      have HXX := Lib.hid (hx1 w1 (Ext.refl w1) (Nat.le_refl _))
      have HG2 := Lib.hid hg1
      clear hx1 hg1 hr1
      refine hK.out _ _ ?_ ?_; rotate_left; clear hK K; intro hHeld; rotate_right
      ·exact HX2.out
      (try simp only [Act.put, List.setIfInBounds_toArray, List.set_cons_zero, List.set_cons_succ])
      have HB2 := Lib.hid (HB1.out.ext HXX.out)
      have HBS7 := Lib.hid HXX.out.size
      have HWB7 := Lib.hid HY1.out.size
      have HXA := Lib.hid HXX.out
      clear HB1 HXX
      obtain ⟨v3, w3, hr3, hg3, hx3⟩ := app_any (w := w2) (base := w1.heap.size) HBS7.out HG2.out (src1 HB2.out) (by show (l.take k).length + 1 ≤ 1000; rw [HS7.out]; exact HN7.out) 1 81
      refine consL (i := 7) (by kernel_rfl) rfl (fun K hK => ?_)
      rw [if_pos (show Region.wanted _ _ = true by rfl)]
      refine wp_append_run _ _ _ v1 (.slice (some ⟨b2, 0, none⟩) 1 1) v3 rfl rfl rfl hr3 ?_
      have HX3 := Lib.hid (hx3 W0 HX2.out HWB7.out)
      have HXA3 := Lib.hid (hx3 w1 HXA.out (Nat.le_refl _))
      have HG3 := Lib.hid hg3
      clear hx3 hg3 hr3
      refine hK.out _ _ ?_ ?_; rotate_left; clear hK K; intro hHeld; rotate_right
      ·exact HX3.out
      (try simp only [Act.put, List.setIfInBounds_toArray, List.set_cons_zero, List.set_cons_succ])
      refine tkW (i := 8) (h := ?_)
      refine doneL (by kernel_rfl) ?_
      clear hHeld
      have HSA := Lib.hid HXA3.out.size
      obtain ⟨v4, w4, hr4, hg4, hx4⟩ := app_any (w := w3) (base := w1.heap.size) HSA.out HG3.out (⟨by rw [List.length_drop, HL.out.2.2], .inr ⟨_, rfl, drop_news (HL.out.1.ext (HX7.out.trans HX3.out))⟩⟩ : SrcR w3 (some ⟨g, k * 3, none⟩) (n - k) (l.drop k)) (by rw [List.length_append, HS7.out]; show k + 1 + (n - k) ≤ 1000; omega) (c - k) 81
      rw [show l.take k ++ [p] ++ l.drop k = insF l p by rw [HV.out, List.append_assoc]; rfl] at hg4
      have HX4 := Lib.hid (hx4 W0 HX3.out HWB7.out)
      obtain ⟨a4, c4, rfl, hR4⟩ := hg4.rps (by rw [HV.out]; simp; omega)
      have HR4 := Lib.hid hR4
      clear hx4 hg4 hR4
      go_wp2_with (at_builtin; refine wpList_plain rfl fun _ hK => wp_append_run _ _ _ _ _ _ rfl rfl rfl hr4 (hK _ _ ?_))
      go_ret
      exact ⟨a4, c4, rfl, HR4.out, HX7.out.trans HX4.out⟩
  ·have l1 : ¬ (k : Int) < (n : Int) := by omega
   have l1' : decide ((k : Int) < (n : Int)) = false := decide_eq_false l1
   have hno : l[k]? = none := List.getElem?_eq_none (by rw [HL.out.2.2]; omega)
   have hat := insF_at l p k (by rw [HL.out.2.2]; exact hk) HZ.out (fun r hr => by rw [hno] at hr; cases hr)
   rw [hno] at hat
   simp only at hat
   have HV := Lib.hid hat
   clear hat hE hno
   go_upto_region 2 with fail
   refine wp_region_held_drew (S := fun W => Ext wr W) (by kernel_rfl) ((Ext.refl wr).drew) (fun hHeld => ?_)
   refine tkW (i := 0) (h := ?_)
   refine tkW (i := 1) (h := ?_)
   refine tkW (i := 2) (h := ?_)
   refine tkW (i := 3) (h := ?_)
   refine tkW (i := 4) (h := ?_)
   refine takeL (i := 5) rfl (by kernel_rfl) (by kernel_rfl) (by kernel_rfl) (fun _ _ _ h => h) (Or.inr ⟨by rfl, rfl⟩) (by assumption) ?_; (try simp only [Act.put, List.setIfInBounds_toArray, List.set_cons_zero, List.set_cons_succ])
   refine takeL (i := 6) rfl (by kernel_rfl) (by kernel_rfl) (by kernel_rfl) (fun _ _ _ h => h) (Or.inr ⟨by rfl, rfl⟩) (by assumption) ?_; (try simp only [Act.put, List.setIfInBounds_toArray, List.set_cons_zero, List.set_cons_succ])
   refine takeL (i := 7) rfl (by kernel_rfl) (by kernel_rfl) (by kernel_rfl) (fun _ _ _ h => h) (Or.inr ⟨by rfl, rfl⟩) (by assumption) ?_; (try simp only [Act.put, List.setIfInBounds_toArray, List.set_cons_zero, List.set_cons_succ])
   refine takeL (i := 8) rfl (by kernel_rfl) (by kernel_rfl) (by kernel_rfl) (fun _ _ _ h => h) (Or.inr ⟨by rfl, rfl⟩) (by assumption) ?_; (try simp only [Act.put, List.setIfInBounds_toArray, List.set_cons_zero, List.set_cons_succ])
   refine takeL (i := 9) rfl (by kernel_rfl) (by kernel_rfl) (by kernel_rfl) (fun _ _ _ h => h) (Or.inr ⟨by rfl, rfl⟩) (by assumption) ?_; (try simp only [Act.put, List.setIfInBounds_toArray, List.set_cons_zero, List.set_cons_succ])
   refine takeL (i := 10) rfl (by kernel_rfl) (by kernel_rfl) (by kernel_rfl) (fun _ _ _ h => h) (Or.inr ⟨by rfl, rfl⟩) (by assumption) ?_; (try simp only [Act.put, List.setIfInBounds_toArray, List.set_cons_zero, List.set_cons_succ])
   refine takeL (i := 11) rfl (by kernel_rfl) (by kernel_rfl) (by kernel_rfl) (fun _ _ _ h => h) (Or.inr ⟨by rfl, rfl⟩) (by assumption) ?_; (try simp only [Act.put, List.setIfInBounds_toArray, List.set_cons_zero, List.set_cons_succ])
   refine tkW (i := 12) (h := ?_)
   refine doneL (by kernel_rfl) ?_
   clear hHeld
   go_upto_region 4 with fail
   refine wp_region_held_drew (S := fun W => Ext wr W) (by kernel_rfl) ((Ext.refl wr).drew.drew) (fun hHeld => ?_)
   refine tkW (i := 0) (h := ?_)
   refine tkW (i := 1) (h := ?_)
   refine tkW (i := 2) (h := ?_)
   refine tkW (i := 3) (h := ?_)
   refine tkW (i := 4) (h := ?_)
   refine takeL (i := 5) rfl (by kernel_rfl) (by kernel_rfl) (by kernel_rfl) (fun _ _ _ h => h) (Or.inr ⟨by rfl, rfl⟩) (by assumption) ?_; (try simp only [Act.put, List.setIfInBounds_toArray, List.set_cons_zero, List.set_cons_succ])
   refine takeL (i := 6) rfl (by kernel_rfl) (by kernel_rfl) (by kernel_rfl) (fun _ _ _ h => h) (Or.inr ⟨by rfl, rfl⟩) (by assumption) ?_; (try simp only [Act.put, List.setIfInBounds_toArray, List.set_cons_zero, List.set_cons_succ])
   refine takeL (i := 7) rfl (by kernel_rfl) (by kernel_rfl) (by kernel_rfl) (fun _ _ _ h => h) (Or.inr ⟨by rfl, rfl⟩) (by assumption) ?_; (try simp only [Act.put, List.setIfInBounds_toArray, List.set_cons_zero, List.set_cons_succ])
   refine takeL (i := 8) rfl (by kernel_rfl) (by kernel_rfl) (by kernel_rfl) (fun _ _ _ h => h) (Or.inr ⟨by rfl, rfl⟩) (by assumption) ?_; (try simp only [Act.put, List.setIfInBounds_toArray, List.set_cons_zero, List.set_cons_succ])
   refine takeL (i := 9) rfl (by kernel_rfl) (by kernel_rfl) (by kernel_rfl) (fun _ _ _ h => h) (Or.inr ⟨by rfl, rfl⟩) (by assumption) ?_; (try simp only [Act.put, List.setIfInBounds_toArray, List.set_cons_zero, List.set_cons_succ])
   refine takeL (i := 10) rfl (by kernel_rfl) (by kernel_rfl) (by kernel_rfl) (fun _ _ _ h => h) (Or.inr ⟨by rfl, rfl⟩) (by assumption) ?_; (try simp only [Act.put, List.setIfInBounds_toArray, List.set_cons_zero, List.set_cons_succ])
   refine tkW (i := 11) (h := ?_)
   refine doneL (by kernel_rfl) ?_
   clear hHeld
   go_upto_region 7 with fail
   have HX7 := Lib.hid (HE.out.trans (HW.out.trans (Ext.refl wr).drew.drew))
   have HBx := Lib.hid ((HB.out.ext HW.out).ext (Ext.refl wr).drew.drew)
   generalize wr.drew.drew = W0 at *
   have L0 : (0 : Int) ≤ (k : Int) := by omega
   have L1 : ¬ (k : Int) < 0 := by omega
   have L2 : (k : Int) ≤ (n : Int) := by omega
   have L3 : (k : Int) ≤ (c : Int) := by omega
   have L4 : (k : Int).toNat = k := by omega
   have HC7 := Lib.hid (fun W (e : Ext W0 W) => (HBx.out.ext e).ra)
   have HT7 := Lib.hid ((hR.out.ext HX7.out).take hk)
   refine wp_region_held_drew (S := fun W => Ext W0 W) (by kernel_rfl) ((Ext.refl W0).drew) (fun hHeld => ?_)
   refine tkW (i := 0) (h := ?_)
   refine tkW (i := 1) (h := ?_)
   refine tkW (i := 2) (h := ?_)
   refine tkW (i := 3) (h := ?_)
   refine takeL (i := 5) (v := ?_) rfl (by kernel_rfl) (by kernel_rfl) (by kernel_rfl) (fun _ _ _ h => h) (Or.inl ⟨by rfl, ?_⟩) (by assumption) ?_; rotate_left; (focus (intro wq hSw; have hcc := HC7.out wq hSw; clear hSw; go_split_ands; go_simp; try with_reducible rfl)); (try simp only [Act.put, List.setIfInBounds_toArray, List.set_cons_zero, List.set_cons_succ])
   have HS7 := Lib.hid (show (l.take k).length = k by rw [List.length_take, HL.out.2.2]; omega)
   have HN7 := Lib.hid (show k + 1 ≤ 1000 by omega)
   refine cons2L (i := 4) (j := 6) (by kernel_rfl) rfl rfl (fun K hK => ?_) (fun K hK => ?_)
   ·rw [if_pos (show Region.wanted _ _ = true by rfl)]
    obtain ⟨v1, w1, hr1, hg1, hx1⟩ := app_any (w := W0.drew) (base := W0.heap.size) (l1 := []) (Nat.le_of_eq rfl) (GRow.nil encRP 72 _ _) (HT7.out.ext (Ext.refl W0).drew) (by show 0 + k ≤ 1000; omega) c 81
    rw [List.nil_append] at hg1
    refine wp_append_run _ _ _ (.slice none 0 0) (.slice (some ⟨g, 0, none⟩) k c) v1 rfl rfl rfl hr1 ?_
    have HX1 := Lib.hid (hx1 W0 (Ext.refl W0).drew (Nat.le_refl _))
    have HG1 := Lib.hid hg1
    clear hx1 hg1 hr1
    refine hK.out _ _ ?_ ?_; rotate_left; clear hK K; intro hHeld; rotate_right
    ·exact HX1.out
    (try simp only [Act.put, List.setIfInBounds_toArray, List.set_cons_zero, List.set_cons_succ])
    refine consL (i := 6) (by kernel_rfl) rfl (fun K hK => ?_)
    rw [if_pos (show Region.wanted _ _ = true by rfl)]
    refine wp_build1 p _ rfl rfl ?_
    obtain ⟨b2, hb2⟩ : ∃ b, w1.heap.size = b := ⟨_, rfl⟩
    have HB2 := Lib.hid (Blk.at p.ca 72 hb2.symm)
    have HY2 := Lib.hid ((Ext.refl w1).alloc (.cells p.ca 72))
    rw [hb2]
    clear hb2
    generalize w1.alloc (.cells p.ca 72) = w2 at *
    refine hK.out _ _ ?_ ?_; rotate_left; clear hK K; intro hHeld; rotate_right
    ·exact HX1.out.trans HY2.out
    (try simp only [Act.put, List.setIfInBounds_toArray, List.set_cons_zero, List.set_cons_succ])
    have HG2 := Lib.hid (HG1.out.ext HY2.out)
    have HX2 := Lib.hid (HX1.out.trans HY2.out)
    have HBS7 := Lib.hid HX2.out.size
    have HWB7 := Lib.hid (Nat.le_refl W0.heap.size)
    have HXA := Lib.hid HX2.out
    clear HX1 HG1 HY2
    obtain ⟨v3, w3, hr3, hg3, hx3⟩ := app_any (w := w2) (base := W0.heap.size) HBS7.out HG2.out (src1 HB2.out) (by show (l.take k).length + 1 ≤ 1000; rw [HS7.out]; exact HN7.out) 1 81
    refine consL (i := 7) (by kernel_rfl) rfl (fun K hK => ?_)
    rw [if_pos (show Region.wanted _ _ = true by rfl)]
    refine wp_append_run _ _ _ v1 (.slice (some ⟨b2, 0, none⟩) 1 1) v3 rfl rfl rfl hr3 ?_
    have HX3 := Lib.hid (hx3 W0 HX2.out HWB7.out)
    have HXA3 := Lib.hid (hx3 W0 HXA.out (Nat.le_refl _))
    have HG3 := Lib.hid hg3
    clear hx3 hg3 hr3
    refine hK.out _ _ ?_ ?_; rotate_left; clear hK K; intro hHeld; rotate_right
    ·exact HX3.out
    (try simp only [Act.put, List.setIfInBounds_toArray, List.set_cons_zero, List.set_cons_succ])
    refine tkW (i := 8) (h := ?_)
    refine doneL (by kernel_rfl) ?_
    clear hHeld
    have HSA := Lib.hid HXA3.out.size
    rcases Nat.lt_or_ge k c with hkc | hkc
    ·have q1 : (k : Int) < (c : Int) := by omega
     have q2 : ¬ c - k = 0 := by omega
     have q3 : ¬ k = c := by omega
     have q4 : ¬ c = k := by omega
     have q5 : ¬ c ≤ k := by omega
     obtain ⟨v4, w4, hr4, hg4, hx4⟩ := app_any (w := w3) (base := W0.heap.size) HSA.out HG3.out (⟨by rw [List.length_drop, HL.out.2.2], .inr ⟨_, rfl, drop_news (HL.out.1.ext (HX7.out.trans HX3.out))⟩⟩ : SrcR w3 (some ⟨g, k * 3, none⟩) (n - k) (l.drop k)) (by rw [List.length_append, HS7.out]; show k + 1 + (n - k) ≤ 1000; omega) (c - k) 81
     rw [show l.take k ++ [p] ++ l.drop k = insF l p by rw [HV.out, List.append_assoc]; rfl] at hg4
     have HX4 := Lib.hid (hx4 W0 HX3.out HWB7.out)
     obtain ⟨a4, c4, rfl, hR4⟩ := hg4.rps (by rw [HV.out]; simp; omega)
     have HR4 := Lib.hid hR4
     clear hx4 hg4 hR4
     go_wp2_with (at_builtin; refine wpList_plain rfl fun _ hK => wp_append_run _ _ _ _ _ _ rfl rfl rfl hr4 (hK _ _ ?_))
     go_ret
     exact ⟨a4, c4, rfl, HR4.out, HX7.out.trans HX4.out⟩
    ·clear l1 l1'
     have hck : k = c := by omega
     subst hck
     have hnk : k = n := by omega
     subst hnk
     obtain ⟨v4, w4, hr4, hg4, hx4⟩ := app_any (w := w3) (base := W0.heap.size) HSA.out HG3.out (⟨by rw [List.length_drop, HL.out.2.2]; omega, .inl rfl⟩ : SrcR w3 (some ⟨g, 0, none⟩) 0 (l.drop k)) (by rw [List.length_append, HS7.out]; show k + 1 + 0 ≤ 1000; omega) 0 81
     rw [show l.take k ++ [p] ++ l.drop k = insF l p by rw [HV.out, List.append_assoc]; rfl] at hg4
     have HX4 := Lib.hid (hx4 W0 HX3.out HWB7.out)
     obtain ⟨a4, c4, rfl, hR4⟩ := hg4.rps (by rw [HV.out]; simp; omega)
     have HR4 := Lib.hid hR4
     clear hx4 hg4 hR4
     go_wp2_with (at_builtin; refine wpList_plain rfl fun _ hK => wp_append_run _ _ _ _ _ _ rfl rfl rfl hr4 (hK _ _ ?_))
     go_ret
     exact ⟨a4, c4, rfl, HR4.out, HX7.out.trans HX4.out⟩
   ·rw [if_pos (show Region.wanted _ _ = true by rfl)]
    refine wp_build1 p _ rfl rfl ?_
    obtain ⟨b2, hb2⟩ : ∃ b, W0.drew.heap.size = b := ⟨_, rfl⟩
    have HB1 := Lib.hid (Blk.at p.ca 72 hb2.symm)
    have HY1 := Lib.hid ((Ext.refl W0).drew.alloc (.cells p.ca 72))
    rw [hb2]
    clear hb2
    generalize W0.drew.alloc (.cells p.ca 72) = w1 at *
    refine hK.out _ _ ?_ ?_; rotate_left; clear hK K; intro hHeld; rotate_right
    ·exact HY1.out
    (try simp only [Act.put, List.setIfInBounds_toArray, List.set_cons_zero, List.set_cons_succ])
    obtain ⟨v1, w2, hr1, hg1, hx1⟩ := app_any (w := w1) (base := w1.heap.size) (l1 := []) (Nat.le_refl _) (GRow.nil encRP 72 _ _) (HT7.out.ext HY1.out) (by show 0 + k ≤ 1000; omega) c 81
    refine consL (i := 4) (by kernel_rfl) rfl (fun K hK => ?_)
    rw [if_pos (show Region.wanted _ _ = true by rfl)]
    rw [List.nil_append] at hg1
    refine wp_append_run _ _ _ (.slice none 0 0) (.slice (some ⟨g, 0, none⟩) k c) v1 rfl rfl rfl hr1 ?_
    have HX2 := Lib.hid (hx1 W0 HY1.out HY1.out.size)
    have HXX := Lib.hid (hx1 w1 (Ext.refl w1) (Nat.le_refl _))
    have HG2 := Lib.hid hg1
    clear hx1 hg1 hr1
    refine hK.out _ _ ?_ ?_; rotate_left; clear hK K; intro hHeld; rotate_right
    ·exact HX2.out
    (try simp only [Act.put, List.setIfInBounds_toArray, List.set_cons_zero, List.set_cons_succ])
    have HB2 := Lib.hid (HB1.out.ext HXX.out)
    have HBS7 := Lib.hid HXX.out.size
    have HWB7 := Lib.hid HY1.out.size
    have HXA := Lib.hid HXX.out
    clear HB1 HXX
    obtain ⟨v3, w3, hr3, hg3, hx3⟩ := app_any (w := w2) (base := w1.heap.size) HBS7.out HG2.out (src1 HB2.out) (by show (l.take k).length + 1 ≤ 1000; rw [HS7.out]; exact HN7.out) 1 81
    refine consL (i := 7) (by kernel_rfl) rfl (fun K hK => ?_)
    rw [if_pos (show Region.wanted _ _ = true by rfl)]
    refine wp_append_run _ _ _ v1 (.slice (some ⟨b2, 0, none⟩) 1 1) v3 rfl rfl rfl hr3 ?_
    have HX3 := Lib.hid (hx3 W0 HX2.out HWB7.out)
    have HXA3 := Lib.hid (hx3 w1 HXA.out (Nat.le_refl _))
    have HG3 := Lib.hid hg3
    clear hx3 hg3 hr3
    refine hK.out _ _ ?_ ?_; rotate_left; clear hK K; intro hHeld; rotate_right
    ·exact HX3.out
    (try simp only [Act.put, List.setIfInBounds_toArray, List.set_cons_zero, List.set_cons_succ])
    refine tkW (i := 8) (h := ?_)
    refine doneL (by kernel_rfl) ?_
    clear hHeld
    have HSA := Lib.hid HXA3.out.size
    rcases Nat.lt_or_ge k c with hkc | hkc
    ·have q1 : (k : Int) < (c : Int) := by omega
     have q2 : ¬ c - k = 0 := by omega
     have q3 : ¬ k = c := by omega
     have q4 : ¬ c = k := by omega
     have q5 : ¬ c ≤ k := by omega
     obtain ⟨v4, w4, hr4, hg4, hx4⟩ := app_any (w := w3) (base := w1.heap.size) HSA.out HG3.out (⟨by rw [List.length_drop, HL.out.2.2], .inr ⟨_, rfl, drop_news (HL.out.1.ext (HX7.out.trans HX3.out))⟩⟩ : SrcR w3 (some ⟨g, k * 3, none⟩) (n - k) (l.drop k)) (by rw [List.length_append, HS7.out]; show k + 1 + (n - k) ≤ 1000; omega) (c - k) 81
     rw [show l.take k ++ [p] ++ l.drop k = insF l p by rw [HV.out, List.append_assoc]; rfl] at hg4
     have HX4 := Lib.hid (hx4 W0 HX3.out HWB7.out)
     obtain ⟨a4, c4, rfl, hR4⟩ := hg4.rps (by rw [HV.out]; simp; omega)
     have HR4 := Lib.hid hR4
     clear hx4 hg4 hR4
     go_wp2_with (at_builtin; refine wpList_plain rfl fun _ hK => wp_append_run _ _ _ _ _ _ rfl rfl rfl hr4 (hK _ _ ?_))
     go_ret
     exact ⟨a4, c4, rfl, HR4.out, HX7.out.trans HX4.out⟩
    ·clear l1 l1'
     have hck : k = c := by omega
     subst hck
     have hnk : k = n := by omega
     subst hnk
     obtain ⟨v4, w4, hr4, hg4, hx4⟩ := app_any (w := w3) (base := w1.heap.size) HSA.out HG3.out (⟨by rw [List.length_drop, HL.out.2.2]; omega, .inl rfl⟩ : SrcR w3 (some ⟨g, 0, none⟩) 0 (l.drop k)) (by rw [List.length_append, HS7.out]; show k + 1 + 0 ≤ 1000; omega) 0 81
     rw [show l.take k ++ [p] ++ l.drop k = insF l p by rw [HV.out, List.append_assoc]; rfl] at hg4
     have HX4 := Lib.hid (hx4 W0 HX3.out HWB7.out)
     obtain ⟨a4, c4, rfl, hR4⟩ := hg4.rps (by rw [HV.out]; simp; omega)
     have HR4 := Lib.hid hR4
     clear hx4 hg4 hR4
     go_wp2_with (at_builtin; refine wpList_plain rfl fun _ hK => wp_append_run _ _ _ _ _ _ rfl rfl rfl hr4 (hK _ _ ?_))
     go_ret
     exact ⟨a4, c4, rfl, HR4.out, HX7.out.trans HX4.out⟩
set_option maxRecDepth 100000 in
set_option maxHeartbeats 40000000 in
theorem rPut_nil (p : RP) (w : World) :
  Calls Try.prog 65 #[.slice none 0 0, p.v] w fun e w' => ∃ a' c', e = .returned (.slice a' 1 c') ∧ RPs w' a' 1 c' [p] ∧ Ext w w' := by
 obtain ⟨B, hB⟩ : ∃ B, w.heap.size = B := ⟨_, rfl⟩
 go_enter Try.func65, Try.ntmps65
 go_upto_region 2 with fail
 refine wp_gen (fun W => Ext w W ∧ Blk W B p.ca 72) ⟨(by repeat (first | exact Ext.refl _ | assumption | refine Ext.setCell ?_ (by first | (simp; done) | (simp; omega) | omega) _ | refine Ext.alloc ?_ _ | refine Ext.drew ?_ | refine Ext.trans ?_ (by assumption))), Blk.at _ 72 hB.symm⟩ ?_
 rintro V ⟨E0, B0⟩
 have HE := Lib.hid E0
 have HB := Lib.hid B0
 clear E0 B0
 go_loopw [5] (fun v ws => v = .int .i64 0 ∧ Ext V ws) (fun _ _ => 0)
 case atStart => exact ⟨rfl, Ext.refl V⟩
 case round =>
  obtain ⟨rfl, hE⟩ := hrel
  have HW := Lib.hid hE
  clear hE
  go_upto_region 2 with fail
  refine wp_region_held_drew (S := fun W => Ext wr W) (by kernel_rfl) ((Ext.refl wr).drew) (fun hHeld => ?_)
  refine tkW (i := 0) (h := ?_)
  refine tkW (i := 1) (h := ?_)
  refine tkW (i := 2) (h := ?_)
  refine tkW (i := 3) (h := ?_)
  refine tkW (i := 4) (h := ?_)
  refine takeL (i := 5) rfl (by kernel_rfl) (by kernel_rfl) (by kernel_rfl) (fun _ _ _ h => h) (Or.inr ⟨by rfl, rfl⟩) (by assumption) ?_; (try simp only [Act.put, List.setIfInBounds_toArray, List.set_cons_zero, List.set_cons_succ])
  refine takeL (i := 6) rfl (by kernel_rfl) (by kernel_rfl) (by kernel_rfl) (fun _ _ _ h => h) (Or.inr ⟨by rfl, rfl⟩) (by assumption) ?_; (try simp only [Act.put, List.setIfInBounds_toArray, List.set_cons_zero, List.set_cons_succ])
  refine takeL (i := 7) rfl (by kernel_rfl) (by kernel_rfl) (by kernel_rfl) (fun _ _ _ h => h) (Or.inr ⟨by rfl, rfl⟩) (by assumption) ?_; (try simp only [Act.put, List.setIfInBounds_toArray, List.set_cons_zero, List.set_cons_succ])
  refine takeL (i := 8) rfl (by kernel_rfl) (by kernel_rfl) (by kernel_rfl) (fun _ _ _ h => h) (Or.inr ⟨by rfl, rfl⟩) (by assumption) ?_; (try simp only [Act.put, List.setIfInBounds_toArray, List.set_cons_zero, List.set_cons_succ])
  refine takeL (i := 9) rfl (by kernel_rfl) (by kernel_rfl) (by kernel_rfl) (fun _ _ _ h => h) (Or.inr ⟨by rfl, rfl⟩) (by assumption) ?_; (try simp only [Act.put, List.setIfInBounds_toArray, List.set_cons_zero, List.set_cons_succ])
  refine takeL (i := 10) rfl (by kernel_rfl) (by kernel_rfl) (by kernel_rfl) (fun _ _ _ h => h) (Or.inr ⟨by rfl, rfl⟩) (by assumption) ?_; (try simp only [Act.put, List.setIfInBounds_toArray, List.set_cons_zero, List.set_cons_succ])
  refine takeL (i := 11) rfl (by kernel_rfl) (by kernel_rfl) (by kernel_rfl) (fun _ _ _ h => h) (Or.inr ⟨by rfl, rfl⟩) (by assumption) ?_; (try simp only [Act.put, List.setIfInBounds_toArray, List.set_cons_zero, List.set_cons_succ])
  refine tkW (i := 12) (h := ?_)
  refine doneL (by kernel_rfl) ?_
  clear hHeld
  go_upto_region 4 with fail
  refine wp_region_held_drew (S := fun W => Ext wr W) (by kernel_rfl) ((Ext.refl wr).drew.drew) (fun hHeld => ?_)
  refine tkW (i := 0) (h := ?_)
  refine tkW (i := 1) (h := ?_)
  refine tkW (i := 2) (h := ?_)
  refine tkW (i := 3) (h := ?_)
  refine tkW (i := 4) (h := ?_)
  refine takeL (i := 5) rfl (by kernel_rfl) (by kernel_rfl) (by kernel_rfl) (fun _ _ _ h => h) (Or.inr ⟨by rfl, rfl⟩) (by assumption) ?_; (try simp only [Act.put, List.setIfInBounds_toArray, List.set_cons_zero, List.set_cons_succ])
  refine takeL (i := 6) rfl (by kernel_rfl) (by kernel_rfl) (by kernel_rfl) (fun _ _ _ h => h) (Or.inr ⟨by rfl, rfl⟩) (by assumption) ?_; (try simp only [Act.put, List.setIfInBounds_toArray, List.set_cons_zero, List.set_cons_succ])
  refine takeL (i := 7) rfl (by kernel_rfl) (by kernel_rfl) (by kernel_rfl) (fun _ _ _ h => h) (Or.inr ⟨by rfl, rfl⟩) (by assumption) ?_; (try simp only [Act.put, List.setIfInBounds_toArray, List.set_cons_zero, List.set_cons_succ])
  refine takeL (i := 8) rfl (by kernel_rfl) (by kernel_rfl) (by kernel_rfl) (fun _ _ _ h => h) (Or.inr ⟨by rfl, rfl⟩) (by assumption) ?_; (try simp only [Act.put, List.setIfInBounds_toArray, List.set_cons_zero, List.set_cons_succ])
  refine takeL (i := 9) rfl (by kernel_rfl) (by kernel_rfl) (by kernel_rfl) (fun _ _ _ h => h) (Or.inr ⟨by rfl, rfl⟩) (by assumption) ?_; (try simp only [Act.put, List.setIfInBounds_toArray, List.set_cons_zero, List.set_cons_succ])
  refine takeL (i := 10) rfl (by kernel_rfl) (by kernel_rfl) (by kernel_rfl) (fun _ _ _ h => h) (Or.inr ⟨by rfl, rfl⟩) (by assumption) ?_; (try simp only [Act.put, List.setIfInBounds_toArray, List.set_cons_zero, List.set_cons_succ])
  refine tkW (i := 11) (h := ?_)
  refine doneL (by kernel_rfl) ?_
  clear hHeld
  go_upto_region 7 with fail
  have HX7 := Lib.hid (HE.out.trans (HW.out.trans (Ext.refl wr).drew.drew))
  have HBx := Lib.hid ((HB.out.ext HW.out).ext (Ext.refl wr).drew.drew)
  generalize wr.drew.drew = W0 at *
  have HC7 := Lib.hid (fun W (e : Ext W0 W) => (HBx.out.ext e).ra)
  have HT7 := Lib.hid (show SrcR W0 none 0 ([] : List RP) from ⟨rfl, .inl rfl⟩)
  refine wp_region_held_drew (S := fun W => Ext W0 W) (by kernel_rfl) ((Ext.refl W0).drew) (fun hHeld => ?_)
  refine tkW (i := 0) (h := ?_)
  refine tkW (i := 1) (h := ?_)
  refine tkW (i := 2) (h := ?_)
  refine tkW (i := 3) (h := ?_)
  refine takeL (i := 5) (v := ?_) rfl (by kernel_rfl) (by kernel_rfl) (by kernel_rfl) (fun _ _ _ h => h) (Or.inl ⟨by rfl, ?_⟩) (by assumption) ?_; rotate_left; (focus (intro wq hSw; have hcc := HC7.out wq hSw; clear hSw; go_split_ands; go_simp; try with_reducible rfl)); (try simp only [Act.put, List.setIfInBounds_toArray, List.set_cons_zero, List.set_cons_succ])
  refine cons2L (i := 4) (j := 6) (by kernel_rfl) rfl rfl (fun K hK => ?_) (fun K hK => ?_)
  ·rw [if_pos (show Region.wanted _ _ = true by rfl)]
   obtain ⟨v1, w1, hr1, hg1, hx1⟩ := app_any (w := W0.drew) (base := W0.heap.size) (l1 := []) (Nat.le_of_eq rfl) (GRow.nil encRP 72 _ _) (HT7.out.ext (Ext.refl W0).drew) (by show 0 + 0 ≤ 1000; omega) 0 81
   rw [List.nil_append] at hg1
   refine wp_append_run _ _ _ (.slice none 0 0) (.slice none 0 0) v1 rfl rfl rfl hr1 ?_
   have HX1 := Lib.hid (hx1 W0 (Ext.refl W0).drew (Nat.le_refl _))
   have HG1 := Lib.hid hg1
   clear hx1 hg1 hr1
   refine hK.out _ _ ?_ ?_; rotate_left; clear hK K; intro hHeld; rotate_right
   ·exact HX1.out
   (try simp only [Act.put, List.setIfInBounds_toArray, List.set_cons_zero, List.set_cons_succ])
   refine consL (i := 6) (by kernel_rfl) rfl (fun K hK => ?_)
   rw [if_pos (show Region.wanted _ _ = true by rfl)]
   refine wp_build1 p _ rfl rfl ?_
   obtain ⟨b2, hb2⟩ : ∃ b, w1.heap.size = b := ⟨_, rfl⟩
   have HB2 := Lib.hid (Blk.at p.ca 72 hb2.symm)
   have HY2 := Lib.hid ((Ext.refl w1).alloc (.cells p.ca 72))
   rw [hb2]
   clear hb2
   generalize w1.alloc (.cells p.ca 72) = w2 at *
   refine hK.out _ _ ?_ ?_; rotate_left; clear hK K; intro hHeld; rotate_right
   ·exact HX1.out.trans HY2.out
   (try simp only [Act.put, List.setIfInBounds_toArray, List.set_cons_zero, List.set_cons_succ])
   have HG2 := Lib.hid (HG1.out.ext HY2.out)
   have HX2 := Lib.hid (HX1.out.trans HY2.out)
   have HBS7 := Lib.hid HX2.out.size
   have HWB7 := Lib.hid (Nat.le_refl W0.heap.size)
   have HXA := Lib.hid HX2.out
   clear HX1 HG1 HY2
   obtain ⟨v3, w3, hr3, hg3, hx3⟩ := app_any (w := w2) (base := W0.heap.size) HBS7.out HG2.out (src1 HB2.out) (by show 0 + 1 ≤ 1000; omega) 1 81
   refine consL (i := 7) (by kernel_rfl) rfl (fun K hK => ?_)
   rw [if_pos (show Region.wanted _ _ = true by rfl)]
   refine wp_append_run _ _ _ v1 (.slice (some ⟨b2, 0, none⟩) 1 1) v3 rfl rfl rfl hr3 ?_
   have HX3 := Lib.hid (hx3 W0 HX2.out HWB7.out)
   have HXA3 := Lib.hid (hx3 W0 HXA.out (Nat.le_refl _))
   have HG3 := Lib.hid hg3
   clear hx3 hg3 hr3
   refine hK.out _ _ ?_ ?_; rotate_left; clear hK K; intro hHeld; rotate_right
   ·exact HX3.out
   (try simp only [Act.put, List.setIfInBounds_toArray, List.set_cons_zero, List.set_cons_succ])
   refine tkW (i := 8) (h := ?_)
   refine doneL (by kernel_rfl) ?_
   clear hHeld
   have HSA := Lib.hid HXA3.out.size
   obtain ⟨v4, w4, hr4, hg4, hx4⟩ := app_any (w := w3) (base := W0.heap.size) HSA.out HG3.out (⟨rfl, .inl rfl⟩ : SrcR w3 none 0 ([] : List RP)) (by show 0 + 1 + 0 ≤ 1000; omega) 0 81
   rw [show [] ++ [p] ++ [] = [p] from rfl] at hg4
   have HX4 := Lib.hid (hx4 W0 HX3.out HWB7.out)
   obtain ⟨a4, c4, rfl, hR4⟩ := hg4.rps (Nat.zero_lt_one)
   have HR4 := Lib.hid hR4
   clear hx4 hg4 hR4
   go_wp2_with (at_builtin; refine wpList_plain rfl fun _ hK => wp_append_run _ _ _ _ _ _ rfl rfl rfl hr4 (hK _ _ ?_))
   go_ret
   exact ⟨a4, c4, rfl, HR4.out, HX7.out.trans HX4.out⟩
  ·rw [if_pos (show Region.wanted _ _ = true by rfl)]
   refine wp_build1 p _ rfl rfl ?_
   obtain ⟨b2, hb2⟩ : ∃ b, W0.drew.heap.size = b := ⟨_, rfl⟩
   have HB1 := Lib.hid (Blk.at p.ca 72 hb2.symm)
   have HY1 := Lib.hid ((Ext.refl W0).drew.alloc (.cells p.ca 72))
   rw [hb2]
   clear hb2
   generalize W0.drew.alloc (.cells p.ca 72) = w1 at *
   refine hK.out _ _ ?_ ?_; rotate_left; clear hK K; intro hHeld; rotate_right
   ·exact HY1.out
   (try simp only [Act.put, List.setIfInBounds_toArray, List.set_cons_zero, List.set_cons_succ])
   obtain ⟨v1, w2, hr1, hg1, hx1⟩ := app_any (w := w1) (base := w1.heap.size) (l1 := []) (Nat.le_refl _) (GRow.nil encRP 72 _ _) (HT7.out.ext HY1.out) (by show 0 + 0 ≤ 1000; omega) 0 81
   refine consL (i := 4) (by kernel_rfl) rfl (fun K hK => ?_)
   rw [if_pos (show Region.wanted _ _ = true by rfl)]
   rw [List.nil_append] at hg1
   refine wp_append_run _ _ _ (.slice none 0 0) (.slice none 0 0) v1 rfl rfl rfl hr1 ?_
   have HX2 := Lib.hid (hx1 W0 HY1.out HY1.out.size)
   have HXX := Lib.hid (hx1 w1 (Ext.refl w1) (Nat.le_refl _))
   have HG2 := Lib.hid hg1
   clear hx1 hg1 hr1
   refine hK.out _ _ ?_ ?_; rotate_left; clear hK K; intro hHeld; rotate_right
   ·exact HX2.out
   (try simp only [Act.put, List.setIfInBounds_toArray, List.set_cons_zero, List.set_cons_succ])
   have HB2 := Lib.hid (HB1.out.ext HXX.out)
   have HBS7 := Lib.hid HXX.out.size
   have HWB7 := Lib.hid HY1.out.size
   have HXA := Lib.hid HXX.out
   clear HB1 HXX
   obtain ⟨v3, w3, hr3, hg3, hx3⟩ := app_any (w := w2) (base := w1.heap.size) HBS7.out HG2.out (src1 HB2.out) (by show 0 + 1 ≤ 1000; omega) 1 81
   refine consL (i := 7) (by kernel_rfl) rfl (fun K hK => ?_)
   rw [if_pos (show Region.wanted _ _ = true by rfl)]
   refine wp_append_run _ _ _ v1 (.slice (some ⟨b2, 0, none⟩) 1 1) v3 rfl rfl rfl hr3 ?_
   have HX3 := Lib.hid (hx3 W0 HX2.out HWB7.out)
   have HXA3 := Lib.hid (hx3 w1 HXA.out (Nat.le_refl _))
   have HG3 := Lib.hid hg3
   clear hx3 hg3 hr3
   refine hK.out _ _ ?_ ?_; rotate_left; clear hK K; intro hHeld; rotate_right
   ·exact HX3.out
   (try simp only [Act.put, List.setIfInBounds_toArray, List.set_cons_zero, List.set_cons_succ])
   refine tkW (i := 8) (h := ?_)
   refine doneL (by kernel_rfl) ?_
   clear hHeld
   have HSA := Lib.hid HXA3.out.size
   obtain ⟨v4, w4, hr4, hg4, hx4⟩ := app_any (w := w3) (base := w1.heap.size) HSA.out HG3.out (⟨rfl, .inl rfl⟩ : SrcR w3 none 0 ([] : List RP)) (by show 0 + 1 + 0 ≤ 1000; omega) 0 81
   rw [show [] ++ [p] ++ [] = [p] from rfl] at hg4
   have HX4 := Lib.hid (hx4 W0 HX3.out HWB7.out)
   obtain ⟨a4, c4, rfl, hR4⟩ := hg4.rps (Nat.zero_lt_one)
   have HR4 := Lib.hid hR4
   clear hx4 hg4 hR4
   go_wp2_with (at_builtin; refine wpList_plain rfl fun _ hK => wp_append_run _ _ _ _ _ _ rfl rfl rfl hr4 (hK _ _ ?_))
   go_ret
   exact ⟨a4, c4, rfl, HR4.out, HX7.out.trans HX4.out⟩

/-- Put: any list of at most a hundred points. -/
theorem rPut_c (a : Option Addr) (n c : Nat) (l : List RP) (p : RP) (w : World) (h : RPs w a n c l) (hin : ∀ q ∈ l, PIn q 4000000) (hp : PIn p 4000000) (hn : n ≤ 100) :
  Calls Try.prog 65 #[.slice a n c, p.v] w fun e w' => ∃ a' c', e = .returned (.slice a' (insF l p).length c') ∧ RPs w' a' (insF l p).length c' (insF l p) ∧ Ext w w' := by
 obtain ⟨h1, h2, h3, ⟨rfl, rfl, rfl⟩ | ⟨g, rfl, h4, h5, h6⟩⟩ := h
 ·obtain rfl : l = [] := List.eq_nil_of_length_eq_zero h1
  exact rPut_nil p w
 ·exact rPut_some g n c l p w h5 h6 h1 h4 h2 h3 hin hp hn
end Go.Proofs.Ytagiaiocgjagnaa
namespace Go.Proofs.Ytagiaiocgjagnaa
set_option linter.unusedSimpArgs false
set_option linter.unusedVariables false
open Go.RowKit

theorem Blk.c4 {w : World} {b : Nat} {s : Sg} {t : TypeId} (h : Blk w b s.cs t) : w.cell? ⟨b, 0, none⟩ = some (.int .i64 s.a.x) ∧ w.cell? ⟨b, 1, none⟩ = some (.int .i64 s.a.y) ∧ w.cell? ⟨b, 2, none⟩ = some (.int .i64 s.b.x) ∧ w.cell? ⟨b, 3, none⟩ = some (.int .i64 s.b.y) := ⟨h.cell 0, h.cell 1, h.cell 2, h.cell 3⟩
set_option maxRecDepth 100000 in
set_option maxHeartbeats 40000000 in
theorem rCommon_c (a : Option Addr) (n c : Nat) (l : List RP) (s t : Sg) (p : RP) (w : World) (h : RPs w a n c l) (hin : ∀ q ∈ l, PIn q 4000000) (hp : PIn p 4000000) (hn : n ≤ 100) (hs : SegIn s (-100) 100) (ht : SegIn t (-100) 100) :
  Calls Try.prog 62 #[.slice a n c, s.v, t.v, p.v] w fun e w' => ∃ a' c', e = .returned (.slice a' (comF s t l p).length c') ∧ RPs w' a' (comF s t l p).length c' (comF s t l p) ∧ Ext w w' := by
 have HR := Lib.hid h
 have HI := Lib.hid (And.intro hin (And.intro hp (And.intro hs (And.intro ht hn))))
 clear h hin hp hs ht hn
 obtain ⟨B, hB⟩ : ∃ B, w.heap.size = B := ⟨_, rfl⟩
 obtain ⟨o1, h1⟩ : ∃ o, onF s p = o := ⟨_, rfl⟩
 obtain ⟨o2, h2⟩ : ∃ o, onF t p = o := ⟨_, rfl⟩
 have HO := Lib.hid (And.intro h1 h2)
 have HC := Lib.hid (show comF s t l p = if o1 = true ∧ o2 = true then insF l p else l by rw [comF, h1, h2])
 clear h1 h2
 go_enter Try.func62, Try.ntmps62
 go_upto_region 1 with fail
 refine wp_gen (fun W => Ext w W ∧ Blk W B s.cs 25 ∧ Blk W (B + 1) t.cs 25 ∧ Blk W (B + 1 + 1) p.ca 72) ⟨(by repeat (first | exact Ext.refl _ | assumption | refine Ext.setCell ?_ (by first | (simp; done) | (simp; omega) | omega) _ | refine Ext.alloc ?_ _ | refine Ext.drew ?_ | refine Ext.trans ?_ (by assumption))), ((Blk.at s.cs 25 hB.symm).alloc _).alloc _, (Blk.at (b := B + 1) t.cs 25 (w := w.alloc (.cells s.cs 25)) (by simp [hB])).alloc _, Blk.at _ 72 (by simp [hB])⟩ ?_
 rintro V ⟨E0, B0, B1, B2⟩
 have HE := Lib.hid E0
 have HB := Lib.hid (And.intro B1 B2)
 obtain ⟨x0, x1, x2, x3⟩ := B0.c4
 obtain ⟨z0, z1, z2⟩ := B2.ra
 clear E0 B0 B1 B2
 go_wp2_with fail
 refine (rOn_c s p _ HI.out.2.2.1 HI.out.2.1).mono ?_
 rw [HO.out.1]
 rintro e w2 ⟨rfl, hx⟩
 have HE2 := Lib.hid (HE.out.trans hx)
 have HB2 := Lib.hid (And.intro (HB.out.1.ext hx) (HB.out.2.ext hx))
 clear hx x0 x1 x2 x3 z0 z1 z2
 obtain ⟨x0, x1, x2, x3⟩ := HB2.out.1.c4
 obtain ⟨z0, z1, z2⟩ := HB2.out.2.ra
 go_wp2_with fail
 refine (rOn_c t p _ HI.out.2.2.2.1 HI.out.2.1).mono ?_
 rw [HO.out.2]
 rintro e w3 ⟨rfl, hx⟩
 have HE3 := Lib.hid (HE2.out.trans hx)
 have HB3 := Lib.hid (HB2.out.2.ext hx)
 clear hx x0 x1 x2 x3 z0 z1 z2
 by_cases hoo : o1 = true ∧ o2 = true
 ·obtain ⟨rfl, rfl⟩ := hoo
  have HV := Lib.hid (show comF s t l p = insF l p by rw [HC.out]; simp)
  obtain ⟨z0, z1, z2⟩ := HB3.out.ra
  go_wp2_with fail
  refine (rPut_c a n c l p _ (HR.out.ext HE3.out) HI.out.1 HI.out.2.1 HI.out.2.2.2.2).mono ?_
  rintro e w4 ⟨a', c', rfl, hr, hx⟩
  have HQ := Lib.hid (And.intro hr (HE3.out.trans hx))
  clear hr hx z0 z1 z2
  go_wp2_with fail
  go_ret
  exact ⟨a', c', by rw [HV.out]; rfl, by rw [HV.out]; exact HQ.out.1, HQ.out.2⟩
 ·have HV := Lib.hid (show comF s t l p = l by rw [HC.out, if_neg hoo])
  have hl : l.length = n := HR.out.len
  have HL := Lib.hid hl
  clear hl
  rcases o1 with _ | _ <;> rcases o2 with _ | _
  case true.true => exact absurd ⟨rfl, rfl⟩ hoo
  all_goals
   clear hoo
   go_wp2_with fail
   go_ret
   exact ⟨a, c, by rw [HV.out, HL.out]; rfl, by rw [HV.out, HL.out]; exact HR.out.ext HE3.out, HE3.out⟩
end Go.Proofs.Ytagiaiocgjagnaa
namespace Go.Proofs.Ytagiaiocgjagnaa
set_option linter.unusedSimpArgs false
set_option linter.unusedVariables false
open Go.RowKit

def zRP : RP := ⟨0, 0, 0⟩
/-- What the reference's Meet returns, by its list. -/
def rcOf (l : List RP) : RC := if l.length = 0 then ⟨0, zRP, zRP⟩ else if l.length = 1 then ⟨1, (l[0]?).getD zRP, zRP⟩ else ⟨2, (l[0]?).getD zRP, (l[l.length - 1]?).getD zRP⟩
theorem comF_in {s t : Sg} {l : List RP} {p : RP} (h : ∀ q ∈ l, PIn q 4000000) (hp : PIn p 4000000) : ∀ q ∈ comF s t l p, PIn q 4000000 := fun q hq => by
 unfold comF at hq
 split at hq
 ·rcases (insF_mem l p q).1 hq with h1 | h1
  ·exact h q h1
  ·subst h1; exact hp
 ·exact h q hq
theorem comF_len (s t : Sg) (l : List RP) (p : RP) : (comF s t l p).length ≤ l.length + 1 := by
 unfold comF
 split
 ·exact insF_len l p
 ·omega
theorem foldF_in {s t : Sg} : ∀ (c l : List RP), (∀ q ∈ l, PIn q 4000000) → (∀ q ∈ c, PIn q 4000000) → ∀ q ∈ c.foldl (comF s t) l, PIn q 4000000
 | [], l, h, _ => h
 | p :: c, l, h, hc => foldF_in c (comF s t l p) (comF_in h (hc p List.mem_cons_self)) (fun q hq => hc q (List.mem_cons_of_mem _ hq))
theorem foldF_len {s t : Sg} : ∀ (c l : List RP), (c.foldl (comF s t) l).length ≤ l.length + c.length
 | [], l => by simp
 | p :: c, l => by
  have h1 := foldF_len (s := s) (t := t) c (comF s t l p)
  have h2 := comF_len s t l p
  rw [List.foldl_cons, List.length_cons]
  omega
theorem ofR_in {p : Pt} (hx : -33 ≤ p.x ∧ p.x ≤ 67) (hy : -33 ≤ p.y ∧ p.y ≤ 67) : PIn (ofR p) 4000000 := ⟨by simp [ofR], by simp [ofR], by simp only [ofR]; omega, by simp only [ofR]; omega, by simp only [ofR]; omega, by simp only [ofR]; omega⟩
/-- The sizes of the crossing's numbers. -/
theorem cr_bd {s t : Sg} (hs : SegIn s (-33) 67) (ht : SegIn t (-33) 67) : (-20000 ≤ crD s t ∧ crD s t ≤ 20000) ∧ (-20000 ≤ crN s t ∧ crN s t ≤ 20000) := by
 obtain ⟨a1, a2, a3, a4, _⟩ := hs
 obtain ⟨b1, b2, b3, b4, _⟩ := ht
 have m : ∀ {u v : Int}, -100 ≤ u → u ≤ 100 → -100 ≤ v → v ≤ 100 → -10000 ≤ u * v ∧ u * v ≤ 10000 := fun {u v} h1 h2 h3 h4 => by
  have := abs_mul_le (x := u) (y := v) (m := 100) (n := 100) (by omega) (by omega)
  omega
 have m1 := m (u := s.b.x - s.a.x) (v := t.b.y - t.a.y) (by omega) (by omega) (by omega) (by omega)
 have m2 := m (u := s.b.y - s.a.y) (v := t.b.x - t.a.x) (by omega) (by omega) (by omega) (by omega)
 have m3 := m (u := t.a.x - s.a.x) (v := t.b.y - t.a.y) (by omega) (by omega) (by omega) (by omega)
 have m4 := m (u := t.a.y - s.a.y) (v := t.b.x - t.a.x) (by omega) (by omega) (by omega) (by omega)
 unfold crD crN
 omega
theorem makeF_in' {x y d m : Int} (hd : d ≠ 0) (d1 : -m ≤ d) (d2 : d ≤ m) (x1 : -m ≤ x) (x2 : x ≤ m) (y1 : -m ≤ y) (y2 : y ≤ m) : PIn (makeF x y d) m := by
 unfold makeF
 split
 ·exact mkF_in (by omega) (by omega) (by omega) (by omega) (by omega) (by omega)
 ·exact mkF_in (by omega) (by omega) (by omega) (by omega) (by omega) (by omega)
theorem crX_bd {s t : Sg} (hs : SegIn s (-33) 67) (ht : SegIn t (-33) 67) :
  ((0 - 2000000 ≤ s.a.x * crD s t ∧ s.a.x * crD s t ≤ 2000000) ∧ (0 - 2000000 ≤ (s.b.x - s.a.x) * crN s t ∧ (s.b.x - s.a.x) * crN s t ≤ 2000000)) ∧
  ((0 - 2000000 ≤ s.a.y * crD s t ∧ s.a.y * crD s t ≤ 2000000) ∧ (0 - 2000000 ≤ (s.b.y - s.a.y) * crN s t ∧ (s.b.y - s.a.y) * crN s t ≤ 2000000)) := by
 obtain ⟨c1, c2⟩ := cr_bd hs ht
 obtain ⟨a1, a2, a3, a4, _⟩ := hs
 have m : ∀ {u v : Int}, -100 ≤ u → u ≤ 100 → -20000 ≤ v → v ≤ 20000 → 0 - 2000000 ≤ u * v ∧ u * v ≤ 2000000 := fun {u v} h1 h2 h3 h4 => by
  have := abs_mul_le (x := u) (y := v) (m := 100) (n := 20000) (by omega) (by omega)
  omega
 exact ⟨⟨m (by omega) (by omega) c1.1 c1.2, m (by omega) (by omega) c2.1 c2.2⟩, ⟨m (by omega) (by omega) c1.1 c1.2, m (by omega) (by omega) c2.1 c2.2⟩⟩
theorem crP_in {s t : Sg} (hs : SegIn s (-33) 67) (ht : SegIn t (-33) 67) (h : crD s t ≠ 0) : PIn (crP s t) 4000000 := by
 obtain ⟨⟨x1, x2⟩, ⟨y1, y2⟩⟩ := crX_bd hs ht
 obtain ⟨c1, _⟩ := cr_bd hs ht
 exact makeF_in' h (by omega) (by omega) (by omega) (by omega) (by omega) (by omega)
theorem four_in {s t : Sg} (hs : SegIn s (-33) 67) (ht : SegIn t (-33) 67) : ∀ q ∈ four s t, PIn q 4000000 := fun q hq => by
 simp only [four, List.mem_cons, List.not_mem_nil, or_false] at hq
 rcases hq with rfl | rfl | rfl | rfl
 ·exact ofR_in hs.ax hs.ay
 ·exact ofR_in hs.bx hs.by'
 ·exact ofR_in ht.ax ht.ay
 ·exact ofR_in ht.bx ht.by'
theorem cand_in {s t : Sg} (hs : SegIn s (-33) 67) (ht : SegIn t (-33) 67) : ∀ q ∈ candF s t, PIn q 4000000 := fun q hq => by
 rcases List.mem_append.1 hq with h | h
 ·exact four_in hs ht q h
 ·split at h
  ·cases h
  ·rename_i h0
   rw [List.mem_singleton] at h
   subst h
   exact crP_in hs ht h0
/-- The list after the first i ends. -/
def preF (s t : Sg) (i : Nat) : List RP := ((four s t).take i).foldl (comF s t) []
theorem preF_succ {s t : Sg} {i : Nat} {p : RP} (h : (four s t)[i]? = some p) : preF s t (i + 1) = comF s t (preF s t i) p := by
 unfold preF
 rw [List.take_add_one, h, List.foldl_append]
 rfl
theorem preF_all (s t : Sg) : allF s t = if crD s t = 0 then preF s t 4 else comF s t (preF s t 4) (crP s t) := by
 unfold allF candF preF
 rw [show (four s t).take 4 = four s t from rfl, List.foldl_append]
 split <;> rfl
theorem preF_len (s t : Sg) (i : Nat) : (preF s t i).length ≤ 4 := by
 have := foldF_len (s := s) (t := t) ((four s t).take i) []
 have h4 : (four s t).length = 4 := rfl
 rw [List.length_take, h4] at this
 simp only [List.length_nil] at this
 unfold preF
 omega
theorem preF_in {s t : Sg} (hs : SegIn s (-33) 67) (ht : SegIn t (-33) 67) (i : Nat) : ∀ q ∈ preF s t i, PIn q 4000000 :=
 foldF_in _ _ (fun q hq => by cases hq) (fun q hq => four_in hs ht q (List.mem_of_mem_take hq))
end Go.Proofs.Ytagiaiocgjagnaa
