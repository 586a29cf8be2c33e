/- meresmanref07: Put; lists of points of the reference. -/
import Derived.Test.YtagiaiocgjagnaaKX17
import Derived.Test.YtagiaiocgjagnaaKC06
import Derived.Test.YtagiaiocgjagnaaLRow
namespace Go.Proofs.Ytagiaiocgjagnaa
set_option linter.unusedSimpArgs false
set_option linter.unusedVariables false
open Go.RowKit

def encRP : Enc RP := ⟨fun p => [.int .i64 p.x, .int .i64 p.y, .int .i64 p.d], 3, fun _ => rfl, fun p u hu => by
  simp at hu
  rcases hu with rfl | rfl | rfl <;> rfl, by omega⟩
theorem rpInfo : (Try.prog.info? 72).map (fun i => (i.zero, i.size, i.bytes)) = some (some (.agg #[.int .i64 0, .int .i64 0, .int .i64 0]), 3, 24) := by kernel_rfl
/-- A slice of points. -/
structure RPs (w : World) (a : Option Addr) (n c : Nat) (l : List RP) : Prop where
  len : l.length = n
  cap : n ≤ c
  most : c ≤ maxLen
  at' : (a = none ∧ n = 0 ∧ c = 0) ∨ ∃ g, a = some ⟨g, 0, none⟩ ∧ 0 < n ∧ GAt encRP w g l ∧ g < w.heap.size
theorem RPs.nil (w : World) : RPs w none 0 0 [] := ⟨rfl, Nat.le_refl _, by rw [maxLen]; omega, .inl ⟨rfl, rfl, rfl⟩⟩
theorem RPs.ext {w w' : World} {a : Option Addr} {n c : Nat} {l : List RP} (h : RPs w a n c l) (e : Ext w w') : RPs w' a n c l := by
  obtain ⟨h1, h2, h3, h4⟩ := h
  refine ⟨h1, h2, h3, ?_⟩
  rcases h4 with h4 | ⟨g, ha, hn, hg, hl⟩
  · exact .inl h4
  · exact .inr ⟨g, ha, hn, hg.ext e, Nat.lt_of_lt_of_le hl e.size⟩
/-- Where the elements of a slice lie that is appended. -/
def SrcR (w : World) (a : Option Addr) (n : Nat) (l : List RP) : Prop := l.length = n ∧ (n = 0 ∨ ∃ ad, a = some ad ∧ ∀ (j : Nat) (u : Value), (gcells encRP l)[j]? = some u → w.cell? (ad.add j) = some u)
theorem SrcR.ext {w w' : World} {a : Option Addr} {n : Nat} {l : List RP} (h : SrcR w a n l) (e : Ext w w') : SrcR w' a n l := by
  obtain ⟨h1, h2 | ⟨ad, ha, hc⟩⟩ := h
  · exact ⟨h1, .inl h2⟩
  · exact ⟨h1, .inr ⟨ad, ha, fun j u hj => e.cell (hc j u hj)⟩⟩
theorem gat_take {w : World} {g k : Nat} {l : List RP} (h : GAt encRP w g l) : GAt encRP w g (l.take k) := fun i a hi j hj => by
  rcases Nat.lt_or_ge i k with h1 | h1
  · rw [List.getElem?_take_of_lt h1] at hi
    exact h i a hi j hj
  · rw [List.getElem?_eq_none (by rw [List.length_take]; omega)] at hi; cases hi
theorem RPs.take {w : World} {a : Option Addr} {n c k : Nat} {l : List RP} (h : RPs w a n c l) (hk : k ≤ n) : SrcR w a k (l.take k) := by
  obtain ⟨h1, h2, h3, h4⟩ := h
  refine ⟨by rw [List.length_take]; omega, ?_⟩
  rcases h4 with ⟨ha, hn, hc⟩ | ⟨g, ha, hn, hg, hl⟩
  · exact .inl (by omega)
  · exact .inr ⟨_, ha, gnews_at (gat_take hg)⟩
theorem drop_news {w : World} {g k : Nat} {l : List RP} (h : GAt encRP w g l) : ∀ (j : Nat) (u : Value), (gcells encRP (l.drop k))[j]? = some u → w.cell? ((⟨g, k * 3, none⟩ : Addr).add j) = some u := fun j u hj => by
  have hk : k ≤ l.length := by
    rcases Nat.le_total k l.length with h1 | h1
    · exact h1
    · rw [List.drop_eq_nil_of_le h1] at hj; simp [gcells] at hj
  have e : gcells encRP l = gcells encRP (l.take k) ++ gcells encRP (l.drop k) := by rw [← gcells_append, List.take_append_drop]
  have hlen : (gcells encRP (l.take k)).length = k * 3 := by rw [gcells_length, List.length_take, Nat.min_eq_left hk]; rfl
  have := gnews_at h (k * 3 + j) u (by rw [e, List.getElem?_append_right (by omega), hlen, Nat.add_sub_cancel_left]; exact hj)
  rw [show ((⟨g, k * 3, none⟩ : Addr).add j) = ⟨g, k * 3 + j, none⟩ by unfold Addr.add; split <;> simp_all]
  rw [show ((⟨g, 0, none⟩ : Addr).add (k * 3 + j)) = ⟨g, k * 3 + j, none⟩ by unfold Addr.add; split <;> simp_all] at this
  exact this
theorem run_append_noneR {w : World} {base : Nat} {v : Value} {l : List RP} (h : GRow encRP 72 w base v l) (ty : TypeId) (a : Option Addr) (c : Nat) :
    (Builtin.append_ #[81, 81] ty #[v, .slice a 0 c]).run Try.prog w = .ok v w := by
  obtain ⟨i0, hi, hz0, hz1, hz2⟩ := info_parts rpInfo
  have hu := Try.underlying81
  obtain ⟨h0, ⟨hv, hn⟩ | ⟨g', cap', cur, hv, hb, hh, hle, _⟩⟩ := h
  · subst hv
    cases a <;> simp [Builtin.append_, run_underlying hu, sizeOf, typeInfo, hi, Builtin.lenOf, Builtin.firstCells, loadCells, loadCellsFrom]
  · subst hv
    cases a <;> simp [Builtin.append_, run_underlying hu, sizeOf, typeInfo, hi, Builtin.lenOf, Builtin.firstCells, loadCells, loadCellsFrom, hle, storeCells]
/-- Appending a slice of points, also an empty one. -/
theorem app_any {w : World} {base : Nat} {v : Value} {l1 l2 : List RP} {a : Option Addr} {n : Nat} (hb : base ≤ w.heap.size) (h1 : GRow encRP 72 w base v l1) (h2 : SrcR w a n l2) (hs : l1.length + n ≤ 1000) (c : Nat) (ty : TypeId) :
    ∃ v' w', (Builtin.append_ #[81, 81] ty #[v, .slice a n c]).run Try.prog w = .ok v' w' ∧ GRow encRP 72 w' base v' (l1 ++ l2) ∧ ∀ A, Ext A w → A.heap.size ≤ base → Ext A w' := by
  obtain ⟨i0, hi, hz0, hz1, hz2⟩ := info_parts rpInfo
  obtain ⟨hl, h2⟩ := h2
  rcases Nat.eq_zero_or_pos n with hn | hn
  · subst hn
    have : l2 = [] := List.eq_nil_of_length_eq_zero hl
    subst this
    exact ⟨v, w, run_append_noneR h1 ty a c, by rw [List.append_nil]; exact h1, fun A hA _ => hA⟩
  · obtain ⟨ad, rfl, hc⟩ := h2.resolve_left (by omega)
    obtain ⟨g, cap, w', hr, hown, hgrow, hat, hlt⟩ := run_append_lies (P := Try.prog) w 81 ty base 72 i0 _ 3 24 Try.underlying81 hi hz0 hz1 hz2 rfl (by omega) v l1.length (gcells encRP l1) h1 ad n c (gcells encRP l2) (by rw [gcells_length, hl]; rfl) hc (gcells_one _ _) hn (by rw [maxLen]; omega) (by omega) hb _ rfl
    refine ⟨_, w', hr, ?_, fun A hA hAb => ?_⟩
    · unfold GRow
      rw [gcells_append, List.length_append, hl]
      exact hown
    · exact gext_grown hA hgrow fun g' hg' => Nat.le_trans hAb (gowns_lt h1 hg').1
theorem GRow.rps {w : World} {base : Nat} {v : Value} {l : List RP} (h : GRow encRP 72 w base v l) (hl : 0 < l.length) : ∃ a c, v = .slice a l.length c ∧ RPs w a l.length c l := by
  obtain ⟨g, cap, rfl, hb, hlt⟩ := World.ownsRow.form h hl
  refine ⟨_, cap, rfl, rfl, ?_, ?_, .inr ⟨g, rfl, hl, h.gat, hlt⟩⟩
  · obtain ⟨h0, ⟨hv, _⟩ | ⟨g', cap', cur, hv, hb, hh, hle, hc, _⟩⟩ := h
    · simp at hv
    · simp at hv; obtain ⟨rfl, rfl⟩ := hv; exact hle
  · obtain ⟨h0, ⟨hv, _⟩ | ⟨g', cap', cur, hv, hb, hh, hle, hc, _⟩⟩ := h
    · simp at hv
    · simp at hv; obtain ⟨rfl, rfl⟩ := hv; exact hc
theorem wp_append_run {P : Program} {o : Oper} {a : Act} {w w' : World} {K : Act → World → Prop} {Q : Exit → Act → World → Prop} (s x : Operand) (t : TypeId) (v u r : Value)
    (ho : o.op = .call { callee := .builtin .append, args := #[s, x], argTypes := #[t, t] }) (hs : a.eval s = v) (hx : a.eval x = u)
    (hr : (Builtin.append_ #[t, t] o.type #[v, u]).run P w = .ok r w') (h : K (a.put o.dst r) w') : o.wp P a w K Q := by
  unfold Oper.wp execOp
  simp only [ho, resolve, invoke, builtin, Sem.run_bind, Sem.run_pure, Result.andThen_ok, List.map_toArray, List.map_cons, List.map_nil, hs, hx, hr]
  exact h
theorem cmp5_c (a b : RP) (w : World) (ha : PIn a 4000000) (hb : PIn b 4000000) : Calls Try.prog 89 #[a.v, b.v] w fun e w' => e = .returned (.int .i64 (cmp5 a b)) ∧ Ext w w' := by
  obtain ⟨a1, a2, a3, a4, a5, a6⟩ := ha
  obtain ⟨b1, b2, b3, b4, b5, b6⟩ := hb
  have n : ∀ {x y : Int}, x.natAbs ≤ 4000000 → y.natAbs ≤ 4000000 → N62 (x * y) := fun h1 h2 => by
    have := abs_mul_le h1 h2
    exact ⟨by omega, by omega⟩
  exact compare5_c a b w (n (by omega) (by omega)) (n (by omega) (by omega)) (n (by omega) (by omega)) (n (by omega) (by omega))
end Go.Proofs.Ytagiaiocgjagnaa
