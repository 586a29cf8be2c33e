/- X30 X31 X32: several texts of this proof in one. -/
import Derived.Test.YtagiaiocgjagnaaQX03
import Derived.Test.YtagiaiocgjagnaaQLNi
import Derived.Test.YtagiaiocgjagnaaQWS
import Derived.Lib.Overlaps
import Derived.Lib.AppendZerosOnto
import Derived.Test.YtagiaiocgjagnaaQWT
namespace Go.Proofs.Ytagiaiocgjagnaa
set_option linter.unusedSimpArgs false
set_option linter.unusedVariables false
open Go.RowKit

def encPV : Enc PV := ⟨fun p => p.cs.toList, 8, fun _ => rfl, fun p u hu => by
 simp at hu
 rcases hu with rfl | rfl | rfl | rfl | rfl | rfl | rfl | rfl <;> rfl, by omega⟩
abbrev pzero : Value := .agg #[.bool false, .slice none 0 0, .bool false, .slice none 0 0, .bool false, .slice none 0 0, .bool false, .slice none 0 0]
theorem pInfo : (Try.prog.info? 43).map (fun i => (i.zero, i.size, i.bytes)) = some (some pzero, 8, 128) := by kernel_rfl
theorem encPV_ni (l : List PV) : ∀ u ∈ gcells encPV l, ∀ k m, u ≠ Value.int k m := by
 intro u hu k m
 simp [gcells] at hu
 obtain ⟨p, _, hp⟩ := hu
 simp [encPV] at hp
 rcases hp with rfl | rfl | rfl | rfl | rfl | rfl | rfl | rfl <;> simp
theorem pz_ni : ∀ u ∈ pzero.cells, ∀ k m, u ≠ Value.int k m := by
 intro u hu k m
 simp [Value.cells] at hu
 rcases hu with rfl | rfl | rfl | rfl | rfl | rfl | rfl | rfl <;> simp
/-- A copy into a row that is known whole. -/
theorem run_copy_rowN {P : Program} (w : World) (dT sT ty elem : TypeId) (size g o dLen dCap : Nat) (a : Addr) (sLen sCap : Nat) (cur : Array Value) (t : TypeId) (cs : List Value)
  (hu : P.underlying dT = some (.slice elem)) (hs : (P.info? elem).map (·.size) = some size)
  (hg : w.heap[g]? = some (.cells cur t (0, 0))) (hn : cs.length = Nat.min sLen dLen * size)
  (hsrc : ∀ j v, cs[j]? = some v → w.cell? (a.add j) = some v) (hfit : o + cs.length ≤ cur.size) (h1 : ∀ v ∈ cs, v.oneCell' = true) :
  (Builtin.copy_ #[dT, sT] ty #[.slice (some ⟨g, o, none⟩) dLen dCap, .slice (some a) sLen sCap]).run P w =
   .ok (goInt (Nat.min sLen dLen)) (w.setRow g (cur.toList.take o ++ cs ++ cur.toList.drop (o + cs.length)).toArray) := by
 have hl := run_loadCells_list (P := P) w a cs hsrc
 have hst := run_storeCells_at P g o t cs 0 cur w hg (by simpa using hfit) h1
 cases hq : P.info? elem with
 | none => simp [hq] at hs
 | some i =>
  have hi : i.size = size := by simpa [hq] using hs
  simp [Builtin.copy_, run_underlying hu, Builtin.lenOf, Builtin.firstCells, sizeOf, typeInfo, hq, hi, ← hn, hl, hst]
theorem wp_copy_run {P : Program} {o : Oper} {a : Act} {w w' : World} {K : Act → World → Prop} {Q : Exit → Act → World → Prop} (s x : Operand) (t t' : TypeId) (v u r : Value)
  (ho : o.op = .call { callee := .builtin .copy, args := #[s, x], argTypes := #[t, t'] }) (hs : a.eval s = v) (hx : a.eval x = u)
  (hr : (Builtin.copy_ #[t, t'] o.type #[v, u]).run P w = .ok r w') (h : K (a.put o.dst r) w') : o.wp P a w K Q := by
 unfold Oper.wp execOp
 simp only [ho, resolve, invoke, builtin, Sem.run_bind, Sem.run_pure, Result.andThen_ok, List.map_toArray, List.map_cons, List.map_nil, hs, hx, hr]
 exact h
/-- What was laid from A.length on is moved on, and C laid there. -/
theorem splice_shift {α : Type} {L A B C : List α} {k : Nat} (hL : L.take (A.length + B.length) = A ++ B) (hk : A.length + k + B.length ≤ L.length) (hC : C.length = k) :
  (((L.take (A.length + k) ++ B ++ L.drop (A.length + k + B.length)).take A.length ++ C ++ (L.take (A.length + k) ++ B ++ L.drop (A.length + k + B.length)).drop (A.length + C.length)).length = L.length) ∧
  ((L.take (A.length + k) ++ B ++ L.drop (A.length + k + B.length)).take A.length ++ C ++ (L.take (A.length + k) ++ B ++ L.drop (A.length + k + B.length)).drop (A.length + C.length)).take (A.length + k + B.length) = A ++ C ++ B := by
 have e1 : L.take A.length = A := by
  have := congrArg (List.take A.length) hL
  rw [List.take_take, Nat.min_eq_left (by omega), List.take_left' rfl] at this
  exact this
 have e2 : (L.take (A.length + k) ++ B ++ L.drop (A.length + k + B.length)).take A.length = A := by
  rw [List.append_assoc, List.take_append_of_le_length (by rw [List.length_take]; omega), List.take_take, Nat.min_eq_left (by omega), e1]
 have e3 : (L.take (A.length + k) ++ B ++ L.drop (A.length + k + B.length)).drop (A.length + C.length) = B ++ L.drop (A.length + k + B.length) := by
  rw [List.append_assoc, hC, List.drop_left' (by rw [List.length_take]; omega)]
 rw [e2, e3]
 refine ⟨by simp; omega, ?_⟩
 rw [← List.append_assoc, List.take_left' (by simp; omega)]
/-- C and then B are laid behind A. -/
theorem splice_lay {α : Type} {L A B C : List α} {k : Nat} (hL : L.take A.length = A) (hk : A.length + k + B.length ≤ L.length) (hC : C.length = k) :
  (((L.take A.length ++ C ++ L.drop (A.length + C.length)).take (A.length + k) ++ B ++ (L.take A.length ++ C ++ L.drop (A.length + C.length)).drop (A.length + k + B.length)).length = L.length) ∧
  ((L.take A.length ++ C ++ L.drop (A.length + C.length)).take (A.length + k) ++ B ++ (L.take A.length ++ C ++ L.drop (A.length + C.length)).drop (A.length + k + B.length)).take (A.length + k + B.length) = A ++ C ++ B := by
 rw [hL]
 have e1 : (A ++ C ++ L.drop (A.length + C.length)).take (A.length + k) = A ++ C := List.take_left' (by simp [hC])
 have e2 : ((A ++ C ++ L.drop (A.length + C.length)).drop (A.length + k + B.length)).length = L.length - (A.length + k + B.length) := by simp; omega
 rw [e1]
 refine ⟨by rw [List.length_append, e2]; simp; omega, ?_⟩
 rw [List.take_left' (by simp; omega)]
theorem GRow.form {α : Type} {F : Enc α} {T : TypeId} {w : World} {base : Nat} {v : Value} {l : List α} (h : GRow F T w base v l) :
  (v = .slice none 0 0 ∧ l = []) ∨ ∃ g cap cur, v = .slice (some ⟨g, 0, none⟩) l.length cap ∧ base ≤ g ∧ w.heap[g]? = some (.cells cur T (0, 0)) ∧ l.length ≤ cap ∧ cap ≤ maxLen ∧ cur.size = cap * F.s ∧ cur.toList.take (l.length * F.s) = gcells F l := by
 obtain ⟨h0, ⟨hv, hn⟩ | ⟨g, cap, cur, hv, hb, hg, h1, h2, h3, h4⟩⟩ := h
 ·exact .inl ⟨hv, List.eq_nil_of_length_eq_zero hn⟩
 ·exact .inr ⟨g, cap, cur, hv, hb, hg, h1, h2, h3, h4⟩
theorem GRow.mk {α : Type} {F : Enc α} {T : TypeId} {w : World} {base g cap : Nat} {cur : Array Value} {l : List α} (hb : base ≤ g) (hg : w.heap[g]? = some (.cells cur T (0, 0))) (h1 : l.length ≤ cap) (h2 : cap ≤ maxLen) (h3 : cur.size = cap * F.s) (h4 : cur.toList.take (l.length * F.s) = gcells F l) :
  GRow F T w base (.slice (some ⟨g, 0, none⟩) l.length cap) l := ⟨gcells_length F l, .inr ⟨g, cap, cur, rfl, hb, hg, h1, h2, h3, h4⟩⟩
theorem Blk.pv {w : World} {b : Nat} {p : PV} {t : TypeId} (h : Blk w b p.cs t) : GAt encPV w b [p] := gAt_one fun j hj => by
 rw [h.cell]; exact Array.getElem?_toList.symm
/-- What Insert leaves. -/
def InsPost (w : World) (base : Nat) (v : Value) (qs : List PV) (e : Ending) (w' : World) : Prop :=
 ∃ v', e = .returned v' ∧ GRow encPV 43 w' base v' qs ∧ NIv w' v' ∧ IK w w' ∧ Below base w w' ∧ ∀ k, k < w.heap.size → v.ownBlock ≠ some k → w'.heap[k]? = w.heap[k]?
theorem below_row {B g : Nat} {w0 w : World} (hb : Below B w0 w) (hBg : B ≤ g) (cs : Array Value) : Below B w0 (w.setRow g cs) :=
 hb.trans ⟨rfl, rfl, rfl, by simp [World.setRow], fun k hk => setRow_other w g k cs (by omega)⟩
end Go.Proofs.Ytagiaiocgjagnaa
namespace Go.Proofs.Ytagiaiocgjagnaa
set_option linter.unusedSimpArgs false
set_option linter.unusedVariables false
open Go.RowKit

set_option maxRecDepth 100000 in
set_option maxHeartbeats 8000000 in
theorem insert_end (base b : Nat) (v : Value) (qs : List PV) (p : PV) (w : World) (hb : base ≤ w.heap.size) (hr : GRow encPV 43 w base v qs) (hni : NIv w v) (hs : Blk w b p.cs 43) (hl : qs.length ≤ 1000) :
  Calls Try.prog 50 #[v, .int .i64 (qs.length : Int), .slice (some ⟨b, 0, none⟩) 1 1] w (InsPost w base v (qs ++ [p])) := by
 obtain ⟨i0, hi0, hz0, hz1, hz2⟩ := info_parts pInfo
 have HB := Lib.hid (gnews_at hs.pv)
 have HR := Lib.hid (And.intro hr hni)
 obtain ⟨n, hn⟩ : ∃ n, qs.length = n := ⟨_, rfl⟩
 have HN := Lib.hid hn
 rw [hn] at hl ⊢
 have hown : w.ownsRow base 43 8 v n (gcells encPV qs) := by rw [← hn]; exact hr
 have HO := Lib.hid hown
 have l0 : (0 : Int) ≤ (n : Int) := by omega
 have l2 : ¬ (n : Int) < 0 := by omega
 have l3 : (n : Int).toNat = n := by omega
 have l4 : (n : Int) ≤ (n : Int) := by omega
 rcases hr.form with ⟨rfl, hq⟩ | ⟨g, cap, cur, rfl, hg, hh, hc, hm, hsz, htk⟩
 ·have h0 : n = 0 := by rw [← hn, hq]; rfl
  clear hq hr hni hn hs hown
  subst h0
  go_enter Try.func50, Try.ntmps50
  go_wp2_with (at_builtin; refine wpList_append_ni _ rfl _ _ _ rfl base 43 i0 _ 8 128 Try.underlying51 hi0 hz0 hz1 hz2 rfl (by omega) _ 0 (gcells encPV qs) rfl HO.out ⟨b, 0, none⟩ 1 1 (gcells encPV [p]) rfl rfl HB.out (gcells_one _ _) (by omega) (by rw [maxLen]; omega) (by omega) hb _ rfl HR.out.2 (encPV_ni _) (encPV_ni _) pz_ni ?_)
  intro g' cap' w1 hown1 hgrow hat hlt hik hni1
  have HF := Lib.hid (show GRow encPV 43 w1 base (.slice (some ⟨g', 0, none⟩) 1 cap') (qs ++ [p]) ∧ NIv w1 (.slice (some ⟨g', 0, none⟩) 1 cap') ∧ IK w w1 ∧ Below base w w1 ∧ (∀ k, k < w.heap.size → Value.ownBlock (.slice none 0 0) ≠ some k → w1.heap[k]? = w.heap[k]?) from
   ⟨GRow.app hown1 (by rw [HN.out]), (fun x hx => by simp [Value.ownBlock] at hx; subst hx; exact hni1), hik, (Below.refl base w).grown hgrow hb (fun k hk => by simp [Value.ownBlock] at hk), fun k hk hne => hgrow.block k hk (fun e => hne e.symm)⟩)
  clear hown1 hgrow hat hik hni1
  go_wp2_with fail
  go_ret
  exact ⟨_, rfl, HF.out.1, HF.out.2.1, HF.out.2.2.1, HF.out.2.2.2.1, HF.out.2.2.2.2⟩
 ·rw [hn] at hc HR HO ⊢
  have HX := Lib.hid (And.intro hg (And.intro hh (And.intro hsz htk)))
  have hcm := hm
  rw [maxLen] at hcm
  clear hr hni hs hown hh hsz htk
  have l5 : (n : Int) ≤ (cap : Int) := by omega
  by_cases hcn : cap = n
  ·subst hcn
   have l6 : cap - cap = 0 := by omega
   go_enter Try.func50, Try.ntmps50
   go_wp2_with (at_builtin; refine wpList_append_ni _ rfl _ _ _ rfl base 43 i0 _ 8 128 Try.underlying51 hi0 hz0 hz1 hz2 rfl (by omega) _ cap (gcells encPV qs) rfl HO.out ⟨b, 0, none⟩ 1 1 (gcells encPV [p]) rfl rfl HB.out (gcells_one _ _) (by omega) (by rw [maxLen]; omega) (by omega) hb _ rfl HR.out.2 (encPV_ni _) (encPV_ni _) pz_ni ?_)
   intro g' cap' w1 hown1 hgrow hat hlt hik hni1
   have HF := Lib.hid (show GRow encPV 43 w1 base (.slice (some ⟨g', 0, none⟩) (cap + 1) cap') (qs ++ [p]) ∧ NIv w1 (.slice (some ⟨g', 0, none⟩) (cap + 1) cap') ∧ IK w w1 ∧ Below base w w1 ∧ (∀ k, k < w.heap.size → Value.ownBlock (.slice (some ⟨g, 0, none⟩) cap cap) ≠ some k → w1.heap[k]? = w.heap[k]?) from
    ⟨GRow.app hown1 (by rw [HN.out]), (fun x hx => by simp [Value.ownBlock] at hx; subst hx; exact hni1), hik, (Below.refl base w).grown hgrow hb (fun k hk => by simp [Value.ownBlock] at hk; subst hk; exact HX.out.1), fun k hk hne => hgrow.block k hk (fun e => hne e.symm)⟩)
   clear hown1 hgrow hat hik hni1
   go_wp2_with fail
   go_ret
   exact ⟨_, rfl, HF.out.1, HF.out.2.1, HF.out.2.2.1, HF.out.2.2.2.1, HF.out.2.2.2.2⟩
  ·have l6 : ¬ cap - n = 0 := by omega
   have l7 : ¬ n = cap := by omega
   have l8 : ¬ cap ≤ n := by omega
   go_enter Try.func50, Try.ntmps50
   go_wp2_with (at_builtin; refine wpList_append_ni _ rfl _ _ _ rfl base 43 i0 _ 8 128 Try.underlying51 hi0 hz0 hz1 hz2 rfl (by omega) _ n (gcells encPV qs) rfl HO.out ⟨b, 0, none⟩ 1 1 (gcells encPV [p]) rfl rfl HB.out (gcells_one _ _) (by omega) (by rw [maxLen]; omega) (by omega) hb _ rfl HR.out.2 (encPV_ni _) (encPV_ni _) pz_ni ?_)
   intro g' cap' w1 hown1 hgrow hat hlt hik hni1
   have HF := Lib.hid (show GRow encPV 43 w1 base (.slice (some ⟨g', 0, none⟩) (n + 1) cap') (qs ++ [p]) ∧ NIv w1 (.slice (some ⟨g', 0, none⟩) (n + 1) cap') ∧ IK w w1 ∧ Below base w w1 ∧ (∀ k, k < w.heap.size → Value.ownBlock (.slice (some ⟨g, 0, none⟩) n cap) ≠ some k → w1.heap[k]? = w.heap[k]?) from
    ⟨GRow.app hown1 (by rw [HN.out]), (fun x hx => by simp [Value.ownBlock] at hx; subst hx; exact hni1), hik, (Below.refl base w).grown hgrow hb (fun k hk => by simp [Value.ownBlock] at hk; subst hk; exact HX.out.1), fun k hk hne => hgrow.block k hk (fun e => hne e.symm)⟩)
   clear hown1 hgrow hat hik hni1
   go_wp2_with fail
   go_ret
   exact ⟨_, rfl, HF.out.1, HF.out.2.1, HF.out.2.2.1, HF.out.2.2.2.1, HF.out.2.2.2.2⟩
end Go.Proofs.Ytagiaiocgjagnaa
namespace Go.Proofs.Ytagiaiocgjagnaa
set_option linter.unusedSimpArgs false
set_option linter.unusedVariables false
open Go.RowKit

theorem sz8 : (Try.prog.info? 43).map (·.size) = some 8 := by
 obtain ⟨i0, hi0, hz0, hz1, hz2⟩ := info_parts pInfo
 rw [hi0]; simp [hz1]
theorem run_size8 (w : World) : (Go.sizeOf 43).run Try.prog w = .ok 8 w := by
 obtain ⟨i0, hi0, hz0, hz1, hz2⟩ := info_parts pInfo
 simp [sizeOf, typeInfo, hi0, hz1]
theorem overlaps_run (w : World) (g b o lb cb : Nat) (cur ds : Array Value) (tA tB : TypeId) (hg : w.heap[g]? = some (.cells cur tB (0, 0))) (hb : w.heap[b]? = some (.cells ds tA (0, 0))) (hne : b ≠ g) (hk : cur.size ≠ 0) :
  (callFunc 74 #[.slice (some ⟨b, 0, none⟩) 1 1, .slice (some ⟨g, o, none⟩) lb cb]).run Try.prog w = .ok (.value (.bool false)) w := by
 rw [run_callFunc_extern Try.func74 (by kernel_rfl) (by kernel_rfl) (by kernel_rfl) (e := Extern.SlicesOverlaps.overlaps #[51, 51] #[4]) (by kernel_rfl),
  Lib.run_overlaps_apart w 51 4 43 Try.underlying51 8 run_size8 ⟨b, 0, none⟩ ⟨g, o, none⟩ 1 1 lb cb hne tA tB ds.size cur.size (by simp [World.shape?, hb]) (by simp [World.shape?, hg]) hk (by simp [World.frozen?, hb]) (by simp [World.frozen?, hb])]
 rfl
set_option maxRecDepth 100000 in
set_option maxHeartbeats 8000000 in
theorem insert_room (base b g cap i : Nat) (qs : List PV) (p : PV) (w : World) (hr : GRow encPV 43 w base (.slice (some ⟨g, 0, none⟩) qs.length cap) qs) (hni : NI w g) (hs : Blk w b p.cs 43) (hne : b ≠ g) (hi : i < qs.length) (hc : qs.length + 1 ≤ cap) (hl : qs.length ≤ 1000) :
  Calls Try.prog 50 #[.slice (some ⟨g, 0, none⟩) qs.length cap, .int .i64 (i : Int), .slice (some ⟨b, 0, none⟩) 1 1] w (InsPost w base (.slice (some ⟨g, 0, none⟩) qs.length cap) (qs.take i ++ p :: qs.drop i)) := by
 obtain ⟨h0, ⟨hv, _⟩ | ⟨g', cap', cur, hv, hbg, hh, hle, hcm, hsz, htk⟩⟩ := hr
 ·simp at hv
 simp at hv
 obtain ⟨rfl, rfl⟩ := hv
 have HNI := Lib.hid (NI.at hh hni)
 have HNW := Lib.hid hni
 obtain ⟨n, hn⟩ : ∃ n, qs.length = n := ⟨_, rfl⟩
 obtain ⟨A, hA⟩ : ∃ A, gcells encPV (qs.take i) = A := ⟨_, rfl⟩
 obtain ⟨B, hB⟩ : ∃ B, gcells encPV (qs.drop i) = B := ⟨_, rfl⟩
 obtain ⟨C, hC⟩ : ∃ C, gcells encPV [p] = C := ⟨_, rfl⟩
 have lA : A.length = i * 8 := by rw [← hA, gcells_length, List.length_take]; show min i qs.length * 8 = _; rw [Nat.min_eq_left (by omega)]
 have lB : B.length = (n - i) * 8 := by rw [← hB, gcells_length, List.length_drop, hn]; rfl
 have lC : C.length = 8 := by rw [← hC, gcells_length]; rfl
 have hAB : gcells encPV qs = A ++ B := by rw [← hA, ← hB, ← gcells_append, List.take_append_drop]
 have hres : gcells encPV (qs.take i ++ p :: qs.drop i) = A ++ C ++ B := by
  rw [show qs.take i ++ p :: qs.drop i = qs.take i ++ [p] ++ qs.drop i by simp, gcells_append, gcells_append, hA, hB, hC]
 have oB : ∀ u ∈ B, u.oneCell' = true := by rw [← hB]; exact gcells_one _ _
 have oC : ∀ u ∈ C, u.oneCell' = true := by rw [← hC]; exact gcells_one _ _
 have nB : ∀ u ∈ B, ∀ k m, u ≠ Value.int k m := by rw [← hB]; exact encPV_ni _
 have nC : ∀ u ∈ C, ∀ k m, u ≠ Value.int k m := by rw [← hC]; exact encPV_ni _
 have htk : cur.toList.take (n * 8) = A ++ B := by rw [← hAB, ← hn]; exact htk
 have hcm' := hcm
 rw [maxLen] at hcm'
 rw [hn] at hi hc hl ⊢
 have hsz8 : cur.size = cap * 8 := hsz
 have hll : cur.toList.length = cap * 8 := by rw [Array.length_toList]; exact hsz8
 have hspl := splice_shift (L := cur.toList) (A := A) (B := B) (C := C) (k := 8) (by rw [lA, lB, ← htk]; congr 1; omega) (by rw [lA, lB, hll]; omega) lC
 obtain ⟨L1, hL1⟩ : ∃ L1, cur.toList.take (A.length + 8) ++ B ++ cur.toList.drop (A.length + 8 + B.length) = L1 := ⟨_, rfl⟩
 obtain ⟨L2, hL2⟩ : ∃ L2, L1.take A.length ++ C ++ L1.drop (A.length + C.length) = L2 := ⟨_, rfl⟩
 rw [hL1, hL2] at hspl
 have l1l : L1.length = cap * 8 := by rw [← hL1]; simp; omega
 have nL1 : ∀ u ∈ L1, ∀ k m, u ≠ Value.int k m := fun u hu => by
  rw [← hL1, List.mem_append, List.mem_append] at hu
  rcases hu with (hu | hu) | hu
  ·exact HNI.out u (by simpa using List.mem_of_mem_take hu)
  ·exact nB u hu
  ·exact HNI.out u (by simpa using List.mem_of_mem_drop hu)
 have nL2 : ∀ u ∈ L2, ∀ k m, u ≠ Value.int k m := fun u hu => by
  rw [← hL2, List.mem_append, List.mem_append] at hu
  rcases hu with (hu | hu) | hu
  ·exact nL1 u (List.mem_of_mem_take hu)
  ·exact nC u hu
  ·exact nL1 u (List.mem_of_mem_drop hu)
 have hcells : ∀ (j : Nat) (u : Value), B[j]? = some u → w.cell? ⟨g, i * 8 + j, none⟩ = some u := fun j u hj => by
  have hjl : j < B.length := by
   rcases Nat.lt_or_ge j B.length with h | h
   ·exact h
   ·rw [List.getElem?_eq_none h] at hj; cases hj
  have : (A ++ B)[A.length + j]? = some u := by rw [List.getElem?_append_right (by omega), Nat.add_sub_cancel_left]; exact hj
  rw [← htk, List.getElem?_take_of_lt (by omega), lA] at this
  simp only [World.cell?, hh]
  simpa using this
 have hsrc : ∀ (j : Nat) (u : Value), C[j]? = some u → w.cell? ((⟨b, 0, none⟩ : Addr).add j) = some u := by rw [← hC]; exact gnews_at hs.pv
 have m1 : Nat.min (n + 1 - i) (n + 1 - (i + 1)) = n - i := by simp only [Nat.min_def]; split <;> omega
 have m2 : Nat.min 1 (n + 1 - i) = 1 := by simp only [Nat.min_def]; split <;> omega
 have hcp1 : ∀ W : World, (∀ k, W.heap[k]? = w.heap[k]?) → ∀ ty dc sc, (Builtin.copy_ #[51, 51] ty #[.slice (some ⟨g, (i + 1) * 8, none⟩) (n + 1 - (i + 1)) dc, .slice (some ⟨g, i * 8, none⟩) (n + 1 - i) sc]).run Try.prog W = .ok (goInt ((n - i : Nat) : Int)) (W.setRow g L1.toArray) := fun W hW ty dc sc => by
  rw [run_copy_rowN W 51 51 ty 43 8 g ((i + 1) * 8) (n + 1 - (i + 1)) dc ⟨g, i * 8, none⟩ (n + 1 - i) sc cur 43 B Try.underlying51 sz8 (by rw [hW]; exact hh) (by rw [m1, lB]) (fun j u hj => by rw [Addr.add_lit, World.cell?_of_block (w := w) (hW _)]; exact hcells j u hj) (by rw [lB, hsz8]; omega) oB, m1]
  rw [← hL1, lA, lB, show (i + 1) * 8 = i * 8 + 8 by omega]
 obtain ⟨W1, hW1⟩ : ∃ W1, w.drew.setRow g L1.toArray = W1 := ⟨_, rfl⟩
 have hg1 : W1.heap[g]? = some (.cells L1.toArray 43 (0, 0)) := by rw [← hW1]; exact setRow_heap w.drew g cur L1.toArray 43 _ hh
 have hb1 : ∀ k, k ≠ g → W1.heap[k]? = w.heap[k]? := fun k hk => by rw [← hW1]; exact setRow_other w.drew g k _ hk
 have hcp2 : ∀ ty dc, (Builtin.copy_ #[51, 51] ty #[.slice (some ⟨g, i * 8, none⟩) (n + 1 - i) dc, .slice (some ⟨b, 0, none⟩) 1 1]).run Try.prog W1 = .ok (goInt 1) (W1.setRow g L2.toArray) := fun ty dc => by
  rw [run_copy_rowN W1 51 51 ty 43 8 g (i * 8) (n + 1 - i) dc ⟨b, 0, none⟩ 1 1 L1.toArray 43 C Try.underlying51 sz8 hg1 (by rw [m2, lC]) (fun j u hj => by rw [World.cell?_of_block (w := w) (by rw [Addr.add_lit]; exact hb1 b hne)]; exact hsrc j u hj) (by rw [lC]; simp [l1l]; omega) oC, m2]
  rw [← hL2, lA]
  rfl
 have hfin : GRow encPV 43 (W1.setRow g L2.toArray) base (.slice (some ⟨g, 0, none⟩) (n + 1) cap) (qs.take i ++ p :: qs.drop i) := by
  have hlen : (qs.take i ++ p :: qs.drop i).length = n + 1 := by simp; omega
  rw [← hlen]
  refine GRow.mk (cur := L2.toArray) hbg (setRow_heap W1 g _ _ _ _ hg1) (by rw [hlen]; exact hc) hcm (by simp [hspl.1]; exact hsz8) ?_
  rw [hres, hlen, ← hspl.2, lA, lB]
  simp only
  congr 1
  show (n + 1) * 8 = _
  omega
 have hik : IK w (W1.setRow g L2.toArray) := by
  have k1 : IK w W1 := by rw [← hW1]; exact IK.setRow (w := w.drew) HNW.out
  exact k1.trans (IK.setRow (NI.block hg1 (fun u hu => nL1 u (by simpa using hu))))
 have hni2 : NI (W1.setRow g L2.toArray) g := NI.block (setRow_heap W1 g _ L2.toArray _ _ hg1) (fun u hu => nL2 u (by simpa using hu))
 have hbel : Below base w (W1.setRow g L2.toArray) := below_row (by rw [← hW1]; exact below_row (Below.refl base w).drew hbg _) hbg _
 have hoth : ∀ k, k < w.heap.size → Value.ownBlock (.slice (some ⟨g, 0, none⟩) n cap) ≠ some k → (W1.setRow g L2.toArray).heap[k]? = w.heap[k]? := fun k _ hk => by
  have hkg : k ≠ g := fun e => hk (by rw [e]; rfl)
  rw [setRow_other W1 g k _ hkg]
  exact hb1 k hkg
 have HF := Lib.hid (And.intro hfin (And.intro hni2 (And.intro hik (And.intro hbel hoth))))
 clear hoth
 have hov : ∀ lb cb, (callFunc 74 #[.slice (some ⟨b, 0, none⟩) 1 1, .slice (some ⟨g, (i + 1) * 8, none⟩) lb cb]).run Try.prog w = .ok (.value (.bool false)) w := fun lb cb => overlaps_run w g b _ lb cb cur p.cs 43 43 hh hs hne (by omega)
 have HC1 := Lib.hid (hcp1 w.drew (fun k => rfl))
 have HC2 := Lib.hid hcp2
 have HW1 := Lib.hid hW1
 have HOV := Lib.hid hov
 clear hcp1 hcp2 hW1 hov hfin hik hni2 hbel hspl hcells hsrc hg1 hb1 hres hAB htk hh hs h0 hsz hsz8 hll l1l nL1 nL2 oB oC nB nC lA lB lC hA hB hC hL1 hL2 m1 m2 hn
 have l0 : (0 : Int) ≤ (i : Int) := by omega
 have l2 : ¬ (i : Int) < 0 := by omega
 have l3 : (i : Int).toNat = i := by omega
 have l4 : (i : Int) ≤ (n : Int) := by omega
 have l5 : ¬ cap - i = 0 := by omega
 have l6 : ¬ i = cap := by omega
 have l7 : ¬ cap ≤ i := by omega
 have l8 : ¬ (i : Int) = (n : Int) := by omega
 have l9 : IntKind.i64.wrap ((n : Int) + 1) = (n : Int) + 1 := IntWalk.i64_in _ (by omega)
 have l10 : ¬ (cap : Int) < (n : Int) + 1 := by omega
 have l11 : (0 : Int) ≤ (n : Int) + 1 := by omega
 have l12 : ((n : Int) + 1).toNat = n + 1 := by omega
 have l13 : (n : Int) + 1 ≤ (cap : Int) := by omega
 have l14 : IntKind.i64.wrap ((i : Int) + 1) = (i : Int) + 1 := IntWalk.i64_in _ (by omega)
 have l15 : ((i : Int) + 1).toNat = i + 1 := by omega
 have l16 : (0 : Int) ≤ (i : Int) + 1 := by omega
 have l17 : (i : Int) + 1 ≤ (n : Int) + 1 := by omega
 have l18 : ¬ cap - (i + 1) = 0 := by omega
 have l19 : ¬ i + 1 = cap := by omega
 have l20 : (i : Int) ≤ (n : Int) + 1 := by omega
 have l21 : ¬ cap = i := by omega
 have l22 : ¬ cap = i + 1 := by omega
 go_enter Try.func50, Try.ntmps50
 go_wp2_with (simp only [HOV.out])
 refine wp_region_held_drew (S := fun _ => True) (by kernel_rfl) trivial (fun hHeld => ?_)
 refine tkW (i := 0) (h := ?_)
 refine tkW (i := 1) (h := ?_)
 refine tkW (i := 2) (h := ?_)
 refine tkW (i := 3) (h := ?_)
 refine tkW (i := 4) (h := ?_)
 refine tkW (i := 5) (h := ?_)
 refine tkW (i := 6) (h := ?_)
 refine tkW (i := 7) (h := ?_)
 refine consL (i := 8) (by kernel_rfl) rfl (fun K hK => ?_)
 rw [if_pos (show Region.wanted _ _ = true by rfl)]
 refine wp_copy_run _ _ _ _ (.slice (some ⟨g, (i + 1) * 8, none⟩) (n + 1 - (i + 1)) (cap - (i + 1))) (.slice (some ⟨g, i * 8, none⟩) (n + 1 - i) (cap - i)) _ rfl (by simp [Act.eval, l21, l22]) (by simp [Act.eval, l21, l22]) (HC1.out _ _ _) ?_
 rw [HW1.out]
 refine hK.out _ _ ?_ ?_; rotate_left; clear hK K; intro hHeld; rotate_right
 ·trivial
 (try simp only [Act.put, List.setIfInBounds_toArray, List.set_cons_zero, List.set_cons_succ])
 refine doneL (by kernel_rfl) ?_
 clear hHeld
 go_wp2_with (refine wpList_plain rfl fun _ hK => wp_copy_run _ _ _ _ (.slice (some ⟨g, i * 8, none⟩) (n + 1 - i) (cap - i)) (.slice (some ⟨b, 0, none⟩) 1 1) _ rfl rfl rfl (HC2.out _ _) (hK _ _ ?_))
 go_ret
 exact ⟨_, rfl, HF.out.1, fun x hx => by simp [Value.ownBlock] at hx; subst hx; exact HF.out.2.1, HF.out.2.2.1, HF.out.2.2.2.1, HF.out.2.2.2.2⟩
theorem wp_append_runZ {P : Program} {o : Oper} {a : Act} {w w' : World} {K : Act → World → Prop} {Q : Exit → Act → World → Prop} (s x : Operand) (t t' : TypeId) (v u r : Value)
  (ho : o.op = .call { callee := .builtin .append, args := #[s, x], argTypes := #[t, t'] }) (hs : a.eval s = v) (hx : a.eval x = u)
  (hr : (Builtin.append_ #[t, t'] o.type #[v, u]).run P w = .ok r w') (h : K (a.put o.dst r) w') : o.wp P a w K Q := by
 unfold Oper.wp execOp
 simp only [ho, resolve, invoke, builtin, Sem.run_bind, Sem.run_pure, Result.andThen_ok, List.map_toArray, List.map_cons, List.map_nil, hs, hx, hr]
 exact h
theorem zero_ni {z : Array Value} (hz : ∀ u ∈ z, ∀ k m, u ≠ Value.int k m) (n : Nat) : ∀ u ∈ Builtin.zeroCells z n, ∀ k m, u ≠ Value.int k m := fun u hu => hz u (zeroCells_mem hu)
set_option maxRecDepth 100000 in
set_option maxHeartbeats 8000000 in
theorem insert_grow (base b g i : Nat) (qs : List PV) (p : PV) (w : World) (hb : base ≤ w.heap.size) (hr : GRow encPV 43 w base (.slice (some ⟨g, 0, none⟩) qs.length qs.length) qs) (hs : Blk w b p.cs 43) (hne : b ≠ g) (hi : i < qs.length) (hl : qs.length ≤ 1000) :
  Calls Try.prog 50 #[.slice (some ⟨g, 0, none⟩) qs.length qs.length, .int .i64 (i : Int), .slice (some ⟨b, 0, none⟩) 1 1] w (InsPost w base (.slice (some ⟨g, 0, none⟩) qs.length qs.length) (qs.take i ++ p :: qs.drop i)) := by
 obtain ⟨i0, hi0, hz0, hz1, hz2⟩ := info_parts pInfo
 obtain ⟨n, hn⟩ : ∃ n, qs.length = n := ⟨_, rfl⟩
 have holds : ∀ j u, (gcells encPV qs)[j]? = some u → w.cell? ((⟨g, 0, none⟩ : Addr).add j) = some u := hr.cells (g := g) rfl
 have hgw := (gowns_lt hr (g := g) rfl).2
 have hbw := Blk.lt hs
 obtain ⟨A, hA⟩ : ∃ A, gcells encPV (qs.take i) = A := ⟨_, rfl⟩
 obtain ⟨B, hB⟩ : ∃ B, gcells encPV (qs.drop i) = B := ⟨_, rfl⟩
 obtain ⟨C, hC⟩ : ∃ C, gcells encPV [p] = C := ⟨_, rfl⟩
 have lA : A.length = i * 8 := by rw [← hA, gcells_length, List.length_take]; show min i qs.length * 8 = _; rw [Nat.min_eq_left (by omega)]
 have lB : B.length = (n - i) * 8 := by rw [← hB, gcells_length, List.length_drop, hn]; rfl
 have lC : C.length = 8 := by rw [← hC, gcells_length]; rfl
 have hAB : gcells encPV qs = A ++ B := by rw [← hA, ← hB, ← gcells_append, List.take_append_drop]
 have hres : gcells encPV (qs.take i ++ p :: qs.drop i) = A ++ C ++ B := by
  rw [show qs.take i ++ p :: qs.drop i = qs.take i ++ [p] ++ qs.drop i by simp, gcells_append, gcells_append, hA, hB, hC]
 have oB : ∀ u ∈ B, u.oneCell' = true := by rw [← hB]; exact gcells_one _ _
 have oC : ∀ u ∈ C, u.oneCell' = true := by rw [← hC]; exact gcells_one _ _
 have nA : ∀ u ∈ A, ∀ k m, u ≠ Value.int k m := by rw [← hA]; exact encPV_ni _
 have nB : ∀ u ∈ B, ∀ k m, u ≠ Value.int k m := by rw [← hB]; exact encPV_ni _
 have nC : ∀ u ∈ C, ∀ k m, u ≠ Value.int k m := by rw [← hC]; exact encPV_ni _
 rw [hAB] at holds
 rw [hn] at hi hl ⊢
 obtain ⟨G, hG⟩ : ∃ G, grownCap w (n + 1) n 43 = G := ⟨_, rfl⟩
 have hGn : n + 1 ≤ G := by rw [← hG]; exact grownCap_ge w _ _ _
 have hGm : G ≤ maxLen := by rw [← hG]; exact grownCap_le_maxLen w (n + 1) n 43 (by rw [maxLen]; omega)
 have hik : i + (n + 1 - i) = n + 1 := by omega
 obtain ⟨ROW, hROW⟩ : ∃ ROW : Array Value, A.toArray ++ Builtin.zeroCells pzero.cells (n + 1 - i) ++ Builtin.zeroCells pzero.cells (G - (n + 1)) = ROW := ⟨_, rfl⟩
 have zs8 : pzero.cells.size = 8 := rfl
 have hRl : ROW.size = G * 8 := by
  rw [← hROW, Array.size_append, Array.size_append, size_zeroCells, size_zeroCells, zs8, List.size_toArray, lA]
  omega
 have nR : ∀ u ∈ ROW, ∀ k m, u ≠ Value.int k m := fun u hu => by
  rw [← hROW, Array.mem_append, Array.mem_append] at hu
  rcases hu with (hu | hu) | hu
  ·exact nA u (by simpa using hu)
  ·exact zero_ni pz_ni _ u hu
  ·exact zero_ni pz_ni _ u hu
 have hRt : ROW.toList.take A.length = A := by
  rw [← hROW, Array.toList_append, Array.toList_append, List.append_assoc]
  exact List.take_left' rfl
 have hspl := splice_lay (L := ROW.toList) (A := A) (B := B) (C := C) (k := 8) hRt (by rw [lA, lB, Array.length_toList, hRl]; omega) lC
 obtain ⟨L1, hL1⟩ : ∃ L1, ROW.toList.take A.length ++ C ++ ROW.toList.drop (A.length + C.length) = L1 := ⟨_, rfl⟩
 obtain ⟨L2, hL2⟩ : ∃ L2, L1.take (A.length + 8) ++ B ++ L1.drop (A.length + 8 + B.length) = L2 := ⟨_, rfl⟩
 rw [hL1, hL2] at hspl
 have hRlt : ROW.toList.length = G * 8 := by rw [Array.length_toList, hRl]
 have l1l : L1.length = G * 8 := by rw [← hL1]; simp only [List.length_append, List.length_take, List.length_drop, lA, lC]; omega
 have nL1 : ∀ u ∈ L1, ∀ k m, u ≠ Value.int k m := fun u hu => by
  rw [← hL1, List.mem_append, List.mem_append] at hu
  rcases hu with (hu | hu) | hu
  ·exact nR u (by simpa using List.mem_of_mem_take hu)
  ·exact nC u hu
  ·exact nR u (by simpa using List.mem_of_mem_drop hu)
 have nL2 : ∀ u ∈ L2, ∀ k m, u ≠ Value.int k m := fun u hu => by
  rw [← hL2, List.mem_append, List.mem_append] at hu
  rcases hu with (hu | hu) | hu
  ·exact nL1 u (List.mem_of_mem_take hu)
  ·exact nB u hu
  ·exact nL1 u (List.mem_of_mem_drop hu)
 have hcells : ∀ (j : Nat) (u : Value), B[j]? = some u → w.cell? ⟨g, i * 8 + j, none⟩ = some u := fun j u hj => by
  have := holds (i * 8 + j) u (by rw [List.getElem?_append_right (by omega), lA, Nat.add_sub_cancel_left]; exact hj)
  rw [Addr.add_lit, Nat.zero_add] at this
  exact this
 have hsrc : ∀ (j : Nat) (u : Value), C[j]? = some u → w.cell? ((⟨b, 0, none⟩ : Addr).add j) = some u := by rw [← hC]; exact gnews_at hs.pv
 have hold : (Builtin.firstCells i0.size i (.slice (some ⟨g, 0, none⟩) i n)).run Try.prog w.drew = .ok A.toArray w.drew := by
  rw [hz1]
  exact run_firstCells_some w.drew 8 i ⟨g, 0, none⟩ i n A lA (fun j v hj => by
   have hjl : j < A.length := by
    rcases Nat.lt_or_ge j A.length with h | h
    ·exact h
    ·rw [List.getElem?_eq_none h] at hj; cases hj
   exact holds j v (by rw [List.getElem?_append_left hjl]; exact hj))
 have hrz : ∀ ty, (Builtin.append_ #[51, 3] ty #[.slice (some ⟨g, 0, none⟩) i n, .int .i64 ((n : Int) + 1 - (i : Int))]).run Try.prog w =
   .ok (.slice (some ⟨w.heap.size, 0, none⟩) (n + 1) G) (w.drew.alloc (.cells ROW 43)) := fun ty => by
  have h := Lib.run_append_grow_zeros w 51 3 ty 43 i0 _ .i64 .i64 Try.underlying51 Try.underlying3 hi0 hz0 (some ⟨g, 0, none⟩) i n A hold (n + 1 - i) (by omega) (by omega) (by omega) (by omega) (by rw [hz2]; omega) (by rw [hz2, hik]; exact growslice_fits (by omega) (by omega))
  rw [hik, hG, hROW] at h
  rw [show (n : Int) + 1 - (i : Int) = ((n + 1 - i : Nat) : Int) by omega]
  exact h
 obtain ⟨H, hH⟩ : ∃ H, w.heap.size = H := ⟨_, rfl⟩
 rw [hH] at hrz hgw hbw
 obtain ⟨W1, hW1⟩ : ∃ W1, w.drew.alloc (.cells ROW 43) = W1 := ⟨_, rfl⟩
 rw [hW1] at hrz
 have E1 : Ext w W1 := by rw [← hW1]; exact (Ext.refl w).drew.alloc _
 have G1 : Blk W1 H ROW 43 := by rw [← hW1]; exact Blk.at _ _ hH.symm
 have m1 : Nat.min 1 (n + 1 - i) = 1 := by simp only [Nat.min_def]; split <;> omega
 have m2 : Nat.min (n - i) (n + 1 - (i + 1)) = n - i := by simp only [Nat.min_def]; split <;> omega
 have hcp1 : ∀ ty dc, (Builtin.copy_ #[51, 51] ty #[.slice (some ⟨H, i * 8, none⟩) (n + 1 - i) dc, .slice (some ⟨b, 0, none⟩) 1 1]).run Try.prog W1 = .ok (goInt 1) (W1.setRow H L1.toArray) := fun ty dc => by
  rw [run_copy_rowN W1 51 51 ty 43 8 H (i * 8) (n + 1 - i) dc ⟨b, 0, none⟩ 1 1 ROW 43 C Try.underlying51 sz8 G1 (by rw [m1, lC]) (fun j u hj => E1.cell (hsrc j u hj)) (by rw [lC, hRl]; omega) oC, m1]
  rw [← hL1, lA]
  rfl
 obtain ⟨W2, hW2⟩ : ∃ W2, (W1.setRow H L1.toArray).drew = W2 := ⟨_, rfl⟩
 have G2 : Blk W2 H L1.toArray 43 := by rw [← hW2]; exact Blk.setRow G1
 have hcp2 : ∀ ty dc sc, (Builtin.copy_ #[51, 51] ty #[.slice (some ⟨H, (i + 1) * 8, none⟩) (n + 1 - (i + 1)) dc, .slice (some ⟨g, i * 8, none⟩) (n - i) sc]).run Try.prog W2 = .ok (goInt ((n - i : Nat) : Int)) (W2.setRow H L2.toArray) := fun ty dc sc => by
  rw [run_copy_rowN W2 51 51 ty 43 8 H ((i + 1) * 8) (n + 1 - (i + 1)) dc ⟨g, i * 8, none⟩ (n - i) sc L1.toArray 43 B Try.underlying51 sz8 G2 (by rw [m2, lB]) (fun j u hj => by
   rw [Addr.add_lit, ← hW2]
   rw [show (W1.setRow H L1.toArray).drew.cell? ⟨g, i * 8 + j, none⟩ = W1.cell? ⟨g, i * 8 + j, none⟩ from World.cell?_of_block (setRow_other W1 H g _ (by omega))]
   exact E1.cell (hcells j u hj)) (by rw [lB]; simp only [List.size_toArray]; omega) oB, m2]
  rw [← hL2, lA, lB, show (i + 1) * 8 = i * 8 + 8 by omega]
 have hfin : GRow encPV 43 (W2.setRow H L2.toArray) base (.slice (some ⟨H, 0, none⟩) (n + 1) G) (qs.take i ++ p :: qs.drop i) := by
  have hlen : (qs.take i ++ p :: qs.drop i).length = n + 1 := by simp; omega
  rw [← hlen]
  refine GRow.mk (cur := L2.toArray) (by omega) (Blk.setRow G2) (by rw [hlen]; exact hGn) hGm (by rw [List.size_toArray, hspl.1, hRlt]; rfl) ?_
  rw [hres, hlen, ← hspl.2, lA, lB]
  simp only
  congr 1
  show (n + 1) * 8 = _
  omega
 have k1 : IK w W1 := E1.ik
 have k2 : IK W1 W2 := by rw [← hW2]; exact IK.drew (IK.setRow (NI.block G1 nR))
 have k3 : IK W2 (W2.setRow H L2.toArray) := IK.setRow (NI.block G2 (fun u hu => nL1 u (by simpa using hu)))
 have hik2 : IK w (W2.setRow H L2.toArray) := k1.trans (k2.trans k3)
 have hni2 : NI (W2.setRow H L2.toArray) H := NI.block (Blk.setRow (cs := L2.toArray) G2) (fun u hu => nL2 u (by simpa using hu))
 have hbel : Below base w (W2.setRow H L2.toArray) := by
  refine below_row ?_ (show base ≤ H by omega) _
  rw [← hW2]
  exact (below_row (E1.below.mono hb) (show base ≤ H by omega) _).drew
 have hoth : ∀ k, k < w.heap.size → Value.ownBlock (.slice (some ⟨g, 0, none⟩) n n) ≠ some k → (W2.setRow H L2.toArray).heap[k]? = w.heap[k]? := fun k hk _ => by
  rw [hH] at hk
  rw [setRow_other W2 H k _ (by omega), ← hW2]
  refine (setRow_other W1 H k _ (by omega)).trans (E1.below.block k (by omega))
 have HF := Lib.hid (And.intro hfin (And.intro hni2 (And.intro hik2 (And.intro hbel hoth))))
 clear hoth
 have HRZ := Lib.hid hrz
 have HC1 := Lib.hid hcp1
 have HC2 := Lib.hid hcp2
 have HW2 := Lib.hid hW2
 rw [maxLen] at hGm
 clear hcp1 hcp2 hW2 hW1 hfin hik2 hni2 hbel hspl hcells hsrc hres hAB hs nL1 nL2 nR nA nB nC oB oC lA lB lC hA hB hC hL1 hL2 m1 m2 hn k1 k2 k3 E1 G1 G2 hrz hold holds hRt hRl hRlt l1l hROW zs8 hr hik hG
 have l0 : (0 : Int) ≤ (i : Int) := by omega
 have l2 : ¬ (i : Int) < 0 := by omega
 have l3 : (i : Int).toNat = i := by omega
 have l4 : (i : Int) ≤ (n : Int) := by omega
 have l5 : ¬ n - i = 0 := by omega
 have l6 : ¬ i = n := by omega
 have l7 : ¬ n ≤ i := by omega
 have l7' : ¬ n = i := by omega
 have l8 : ¬ (i : Int) = (n : Int) := by omega
 have l9 : IntKind.i64.wrap ((n : Int) + 1) = (n : Int) + 1 := IntWalk.i64_in _ (by omega)
 have l9' : IntKind.i64.wrap ((n : Int) + 1 - (i : Int)) = (n : Int) + 1 - (i : Int) := IntWalk.i64_in _ (by omega)
 have l10 : (n : Int) < (n : Int) + 1 := by omega
 have l12 : ((n : Int) + 1).toNat = n + 1 := by omega
 have l14 : IntKind.i64.wrap ((i : Int) + 1) = (i : Int) + 1 := IntWalk.i64_in _ (by omega)
 have l15 : ((i : Int) + 1).toNat = i + 1 := by omega
 have l16 : (0 : Int) ≤ (i : Int) + 1 := by omega
 have l17 : (i : Int) + 1 ≤ (n : Int) + 1 := by omega
 have l18 : ¬ G - i = 0 := by omega
 have l19 : ¬ G = i := by omega
 have l20 : (i : Int) ≤ (n : Int) + 1 := by omega
 have l21 : ¬ G = i + 1 := by omega
 have l22 : ¬ G ≤ i := by omega
 go_enter Try.func50, Try.ntmps50
 go_wp2_with (first | (refine wpList_plain rfl fun _ hK => wp_append_runZ _ _ _ _ (.slice (some ⟨g, 0, none⟩) i n) (.int .i64 ((n : Int) + 1 - (i : Int))) _ rfl rfl rfl (HRZ.out _) (hK _ _ ?_)) | (refine wpList_plain rfl fun _ hK => wp_copy_run _ _ _ _ (.slice (some ⟨H, i * 8, none⟩) (n + 1 - i) (G - i)) (.slice (some ⟨b, 0, none⟩) 1 1) _ rfl rfl rfl (HC1.out _ _) (hK _ _ ?_)))
 refine wp_region_held_drew (S := fun _ => True) (by kernel_rfl) trivial (fun hHeld => ?_)
 rw [HW2.out]
 refine tkW (i := 0) (h := ?_)
 refine tkW (i := 1) (h := ?_)
 refine tkW (i := 2) (h := ?_)
 refine tkW (i := 3) (h := ?_)
 refine tkW (i := 4) (h := ?_)
 refine tkW (i := 5) (h := ?_)
 refine tkW (i := 6) (h := ?_)
 refine tkW (i := 7) (h := ?_)
 refine consL (i := 8) (by kernel_rfl) rfl (fun K hK => ?_)
 rw [if_pos (show Region.wanted _ _ = true by rfl)]
 refine wp_copy_run _ _ _ _ (.slice (some ⟨H, (i + 1) * 8, none⟩) (n + 1 - (i + 1)) (G - (i + 1))) (.slice (some ⟨g, i * 8, none⟩) (n - i) (n - i)) _ rfl (by simp [Act.eval, l19, l21, l7']) (by simp [Act.eval, l19, l21, l7']) (HC2.out _ _ _) ?_
 refine hK.out _ _ ?_ ?_; rotate_left; clear hK K; intro hHeld; rotate_right
 ·trivial
 (try simp only [Act.put, List.setIfInBounds_toArray, List.set_cons_zero, List.set_cons_succ])
 refine doneL (by kernel_rfl) ?_
 clear hHeld
 go_wp2_with fail
 go_ret
 exact ⟨_, rfl, HF.out.1, fun x hx => by simp [Value.ownBlock] at hx; subst hx; exact HF.out.2.1, HF.out.2.2.1, HF.out.2.2.2.1, HF.out.2.2.2.2⟩
end Go.Proofs.Ytagiaiocgjagnaa
