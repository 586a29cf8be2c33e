/- Three slices of points that grow side by side; Bound and Scaled of the references. -/
import Derived.Test.YtgmedfloflplgaaP06z
import Derived.Test.YtgmedfloflplgaaLRow
import Derived.Test.YtgmedfloflplgaaWT
import Derived.Test.YtgmedfloflplgaaR06d
import Derived.Great.BuildSlice
namespace Go.Proofs.Ytgmedfloflplgaa
set_option linter.unusedSimpArgs false
set_option linter.unusedVariables false
open Go.RowKit

def encPt : Enc Pt := ⟨fun p => [.int .i64 p.x, .int .i64 p.y], 2, fun _ => rfl, fun p u hu => by
  simp at hu
  rcases hu with rfl | rfl <;> rfl, by omega⟩
theorem ptInfo : (Try.prog.info? 25).map (fun i => (i.zero, i.size, i.bytes)) = some (some (.agg #[.int .i64 0, .int .i64 0]), encPt.s, 16) := by kernel_rfl
theorem GAt.pts2 {w : World} {b i : Nat} {l : List Pt} {p : Pt} (h : GAt encPt w b l) (hi : l[i]? = some p) : w.cell? ⟨b, i * 2, none⟩ = some (.int .i64 p.x) ∧ w.cell? ⟨b, i * 2 + 1, none⟩ = some (.int .i64 p.y) := ⟨h i p hi 0 (by decide), h i p hi 1 (by decide)⟩
theorem wp_append_runZ {P : Program} {o : Oper} {a : Act} {w w' : World} {K : Act → World → Prop} {Q : Exit → Act → World → Prop} (s x : Operand) (t t' : TypeId) (v u r : Value)
    (ho : o.op = .call { callee := .builtin .append, args := #[s, x], argTypes := #[t, t'] }) (hs : a.eval s = v) (hx : a.eval x = u)
    (hr : (Builtin.append_ #[t, t'] o.type #[v, u]).run P w = .ok r w') (h : K (a.put o.dst r) w') : o.wp P a w K Q := by
  unfold Oper.wp execOp
  simp only [ho, resolve, invoke, builtin, Sem.run_bind, Sem.run_pure, Result.andThen_ok, List.map_toArray, List.map_cons, List.map_nil, hs, hx, hr]
  exact h
theorem wp_build1Pt {o : Oper} {a : Act} {w : World} {K : Act → World → Prop} {Q : Exit → Act → World → Prop} (p : Pt) (x : Operand) (ho : o.op = .buildSlice 23 1 #[(0, x)]) (hx : a.eval x = p.v)
    (h : K (a.put o.dst (.slice (some ⟨w.heap.size, 0, none⟩) 1 1)) (w.alloc (.cells #[.int .i64 p.x, .int .i64 p.y] 25))) : o.wp Try.prog a w K Q := by
  obtain ⟨i0, hi, hz0, hz1, hz2⟩ := info_parts ptInfo
  refine wp_buildSlice 23 25 1 _ ho #[.int .i64 p.x, .int .i64 p.y] i0 _ Try.underlying23 hi hz0 (by rw [hz1]; decide) (by rw [hz1]; decide) ?_ h
  rw [hz1]
  simp only [List.map_toArray, List.map_cons, List.map_nil, hx]
  first
  | kernel_rfl
  | (cases p; rfl)
theorem Blk.onePt {w : World} {b : Nat} {p : Pt} (h : Blk w b #[.int .i64 p.x, .int .i64 p.y] 25) : GAt encPt w b [p] := gAt_one fun j hj => by
  rw [h.cell]; exact Array.getElem?_toList.symm
/-- Two slices that do not share a block. -/
def Dis (u v : Value) : Prop := ∀ g, u.ownBlock = some g → v.ownBlock ≠ some g
theorem Dis.symm {u v : Value} (h : Dis u v) : Dis v u := fun g hg e => h g e hg
theorem Dis.nil (v : Value) : Dis (.slice none 0 0) v := fun g hg => by simp [Value.ownBlock] at hg
theorem GRow.other {α : Type} {F : Enc α} {T : TypeId} {w w' : World} {base : Nat} {v : Value} {l : List α} (h : GRow F T w base v l) (hk : ∀ k, v.ownBlock = some k → w'.heap[k]? = w.heap[k]?) : GRow F T w' base v l := by
  obtain ⟨h0, ⟨hv, hn⟩ | ⟨g', cap, cur, hv, hb, hh, r⟩⟩ := h
  · exact ⟨h0, .inl ⟨hv, hn⟩⟩
  · exact ⟨h0, .inr ⟨g', cap, cur, hv, hb, by rw [hk g' (by subst hv; rfl)]; exact hh, r⟩⟩
/-- A point is appended to one of three slices. -/
theorem app_three {w : World} {base b : Nat} {v v2 v3 : Value} {l l2 l3 : List Pt} {p : Pt} (hb : base ≤ w.heap.size) (h1 : GRow encPt 25 w base v l) (h2 : GRow encPt 25 w base v2 l2) (h3 : GRow encPt 25 w base v3 l3) (d2 : Dis v v2) (d3 : Dis v v3)
    (hp : Blk w b #[.int .i64 p.x, .int .i64 p.y] 25) (hs : l.length ≤ 1000) (ty : TypeId) :
    ∃ v' w', (Builtin.append_ #[23, 23] ty #[v, .slice (some ⟨b, 0, none⟩) 1 1]).run Try.prog w = .ok v' w' ∧ GRow encPt 25 w' base v' (l ++ [p]) ∧ GRow encPt 25 w' base v2 l2 ∧ GRow encPt 25 w' base v3 l3 ∧ Dis v' v2 ∧ Dis v' v3 ∧ ∀ A, Ext A w → A.heap.size ≤ base → Ext A w' := by
  obtain ⟨i0, hi, hz0, hz1, hz2⟩ := info_parts ptInfo
  have hc := gnews_at hp.onePt
  obtain ⟨g, cap, w', hr, hown, hgrow, hat, hlt⟩ := run_append_lies (P := Try.prog) w 23 ty base 25 i0 _ encPt.s 16 Try.underlying23 hi hz0 hz1 hz2 (by decide) encPt.pos v l.length (gcells encPt l) h1 ⟨b, 0, none⟩ 1 1 (gcells encPt [p]) (by rw [gcells_length]; rfl) hc (gcells_one _ _) (by omega) (by rw [maxLen]; omega) (by omega) hb _ rfl
  have keep : ∀ {u : Value} {k : List Pt}, GRow encPt 25 w base u k → Dis v u → GRow encPt 25 w' base u k := fun hu d => hu.other fun x hx => hgrow.block x (gowns_lt hu hx).2 (fun e => d x e.symm hx)
  have dis : ∀ {u : Value} {k : List Pt}, GRow encPt 25 w base u k → Dis v u → Dis (.slice (some ⟨g, 0, none⟩) (l.length + 1) cap) u := fun hu d x hx e => by
    simp [Value.ownBlock] at hx
    subst hx
    rcases hat with h | h
    · exact d _ h e
    · have := (gowns_lt hu e).2; omega
  refine ⟨_, w', hr, ?_, keep h2 d2, keep h3 d3, dis h2 d2, dis h3 d3, fun A hA hAb => ?_⟩
  · unfold GRow
    rw [gcells_append, List.length_append]
    exact hown
  · exact gext_grown hA hgrow fun g' hg' => Nat.le_trans hAb (gowns_lt h1 hg').1
def boundF (n : Int) : Int := aroundF n 536870913 - 268435456
theorem boundF_bd (n : Int) : -268435456 ≤ boundF n ∧ boundF n ≤ 268435456 := by
  have := aroundF_bd n 536870913 (by omega)
  unfold boundF; omega
theorem bound_c (n : Int) (w : World) (hn : Int64 n) : Calls Try.prog 25 #[.int .i64 n, .int .i64 268435456] w fun e w' => e = .returned (.int .i64 (boundF n)) ∧ w = w' := by
  have hb := aroundF_bd n 536870913 (by omega)
  have H64 := Lib.hid hn; clear hn
  obtain ⟨k, hk⟩ : ∃ k, aroundF n 536870913 = k := ⟨_, rfl⟩
  have HV := Lib.hid (show boundF n = k - 268435456 by unfold boundF; rw [hk])
  rw [hk] at hb
  have HK := Lib.hid hk; clear hk
  have w1 : IntKind.i64.wrap (k - 268435456) = k - 268435456 := IntWalk.i64_in _ (by omega)
  go_enter Try.func25, Try.ntmps25
  go_wp2_with fail
  refine (around_c _ _ _ (by omega) (by omega) H64.out).mono ?_
  rintro e w2 ⟨rfl, rfl⟩
  rw [HK.out]
  go_wp2_with fail
  go_ret
  exact ⟨by rw [HV.out]; rfl, rfl⟩
set_option maxHeartbeats 1000000 in
theorem rScaled_c (p : Pt) (f : Int) (d : Pt) (w : World) (hp : Tiny p) (hf : 1 ≤ f ∧ f ≤ 16777216) (hd : (-268435456 ≤ d.x ∧ d.x ≤ 268435456) ∧ -268435456 ≤ d.y ∧ d.y ≤ 268435456) :
    Calls Try.prog 26 #[p.v, .int .i64 f, d.v] w fun e w' => e = .returned (scP f d p).v ∧ Ext w w' := by
  obtain ⟨x, y⟩ := p
  obtain ⟨u, v⟩ := d
  obtain ⟨x1, x2, y1, y2⟩ := hp
  obtain ⟨⟨u1, u2⟩, v1, v2⟩ := hd
  simp only at x1 x2 y1 y2 u1 u2 v1 v2
  have e1 : 0 ≤ f * x := Int.mul_nonneg (by omega) x1
  have e2 : f * x ≤ 16777216 * 32 := Int.mul_le_mul hf.2 x2 x1 (by omega)
  have e3 : 0 ≤ f * y := Int.mul_nonneg (by omega) y1
  have e4 : f * y ≤ 16777216 * 32 := Int.mul_le_mul hf.2 y2 y1 (by omega)
  have w1 : IntKind.i64.wrap (f * x) = f * x := IntWalk.i64_in _ (by omega)
  have w2 : IntKind.i64.wrap (f * y) = f * y := IntWalk.i64_in _ (by omega)
  have w3 : IntKind.i64.wrap (f * x + u) = f * x + u := IntWalk.i64_in _ (by omega)
  have w4 : IntKind.i64.wrap (f * y + v) = f * y + v := IntWalk.i64_in _ (by omega)
  clear e1 e2 e3 e4 x1 x2 y1 y2 u1 u2 v1 v2
  go_enter Try.func26, Try.ntmps26
  go_wp2_with fail
  refine bodyPost_ret (v := (scP f ⟨u, v⟩ ⟨x, y⟩).v) (by simp [results, Try.results26, go_sem, scP]) rfl ?_
  exact ⟨rfl, (by repeat (first | exact Ext.refl _ | assumption | refine Ext.setCell ?_ (by first | (simp; done) | (simp; omega) | omega) _ | refine Ext.alloc ?_ _ | refine Ext.drew ?_ | refine Ext.trans ?_ (by assumption)))⟩
end Go.Proofs.Ytgmedfloflplgaa
