/- Regions that draw their order and overwrite, at their end, cells that they have read: the condition S need not hold behind the operations of E, which wait for the loads. -/
import Derived.Test.YtkoidookanmknaaSWS
namespace Go.Proofs.Ytkoidookanmknaa
set_option linter.unusedSimpArgs false
set_option linter.unusedVariables false
open Go

section
variable {P : Program} {ops : Array Oper} {Q : Exit → Act → World → Prop} {md : Region.Mode} {S : World → Prop} {E : List Nat}

/-- Whatever order is picked from here on, and S holds behind every operation but those of E. -/
def wpAnyE (P : Program) (md : Region.Mode) (ops : Array Oper) (Q : Exit → Act → World → Prop) (S : World → Prop) (E : List Nat) : Nat → Array Bool → Act → World → Prop
 | 0, listed, a, w => Region.ready md ops listed = [] ∧ Q .normal a w
 | fuel + 1, listed, a, w =>
  (Region.ready md ops listed = [] → Q .normal a w) ∧
  ∀ i ∈ Region.ready md ops listed, wpOp P ops Q i (fun a' w' => (i ∈ E ∨ S w' ∨ w' = w) ∧ wpAnyE P md ops Q S E fuel (listed.setIfInBounds i true) a' w') a w
theorem wpAny_of_E : ∀ (fuel : Nat) (listed : Array Bool) (a : Act) (w : World), wpAnyE P md ops Q S E fuel listed a w → wpAny P md ops Q fuel listed a w
 | 0, _, _, _, h => h
 | fuel + 1, _, _, _, h => ⟨h.1, fun i hi => wpOp_mono (fun a' w' h' => wpAny_of_E fuel _ a' w' h'.2) (h.2 i hi)⟩
/-- What has come up is closed: each operation's forerunners have come up too. -/
def Closed (md : Region.Mode) (ops : Array Oper) (l : Array Bool) : Prop := ∀ (j : Nat) (oj : Oper), ops[j]? = some oj → l.getD j false = true → ∀ e ∈ oj.after, Region.binds md e = true → l.getD e.on false = true
def closedB (md : Region.Mode) (ops : Array Oper) (l : Array Bool) : Bool := (List.range ops.size).all fun j => !l.getD j false || ((ops[j]?).map fun o => o.after.all fun e => !Region.binds md e || l.getD e.on false).getD true
theorem closedB_spec {l : Array Bool} (h : closedB md ops l = true) : Closed md ops l := by
 intro j oj hj hl e he hb
 unfold closedB at h
 rw [List.all_eq_true] at h
 have hjs : j < ops.size := by
  rcases Nat.lt_or_ge j ops.size with h1 | h1
  ·exact h1
  ·rw [Array.getElem?_eq_none h1] at hj; cases hj
 have h2 := h j (List.mem_range.2 hjs)
 rw [hj, hl] at h2
 simp only [Bool.not_true, Bool.false_or, Option.map_some, Option.getD_some, Array.all_eq_true_iff_forall_mem] at h2
 have h3 := h2 e he
 rw [hb] at h3
 simpa using h3
theorem getD_set_eq {l : Array Bool} {j k : Nat} {d : Bool} (h : l.getD k d = true) : (l.setIfInBounds j true).getD k d = true := by
 by_cases hk : j = k
 ·subst hk
  rcases Nat.lt_or_ge j l.size with h1 | h1
  ·simp [h1]
  ·rw [Array.getD_eq_getD_getElem?, Array.getElem?_eq_none (by simpa using h1)]
   rw [Array.getD_eq_getD_getElem?, Array.getElem?_eq_none h1] at h
   exact h
 ·rw [getD_set_ne d hk]; exact h
theorem Closed.step {l : Array Bool} (h : Closed md ops l) {j : Nat} (hj : j ∈ Region.ready md ops l) : Closed md ops (l.setIfInBounds j true) := by
 intro k ok hk hl e he hb
 by_cases hjk : j = k
 ·subst hjk
  obtain ⟨_, oj, hoj, hall⟩ := mem_ready.1 hj
  rw [hoj] at hk
  cases hk
  exact getD_set_eq (hall e he hb)
 ·rw [getD_set_ne false hjk] at hl
  exact getD_set_eq (h k ok hk hl e he hb)
/-- Operation e waits for i. -/
def waits (md : Region.Mode) (ops : Array Oper) (i : Nat) : Nat → Nat → Bool
 | 0, _ => false
 | f + 1, e => ((ops[e]?).map fun o => o.after.any fun x => Region.binds md x && (x.on == i || waits md ops i f x.on)).getD false
theorem waits_listed {i : Nat} {l : Array Bool} (hc : Closed md ops l) : ∀ (f e : Nat), waits md ops i f e = true → l.getD e false = true → l.getD i false = true
 | 0, _, h, _ => by cases h
 | f + 1, e, h, hl => by
  unfold waits at h
  cases ho : ops[e]? with
  | none => rw [ho] at h; cases h
  | some o =>
   rw [ho] at h
   simp only [Option.map_some, Option.getD_some, Array.any_eq_true'] at h
   obtain ⟨x, hx, hb⟩ := h
   rw [Bool.and_eq_true, Bool.or_eq_true] at hb
   have hxl := hc e o ho hl x hx hb.1
   rcases hb.2 with h1 | h1
   ·rw [beq_iff_eq] at h1; rw [← h1]; exact hxl
   ·exact waits_listed hc f x.on h1 hxl
theorem waits_ready {i : Nat} {l : Array Bool} (hc : Closed md ops l) (f e : Nat) (h : waits md ops i f e = true) (hr : e ∈ Region.ready md ops l) : l.getD i false = true := by
 obtain ⟨_, o, ho, hall⟩ := mem_ready.1 hr
 cases f with
 | zero => cases h
 | succ f =>
  unfold waits at h
  rw [ho] at h
  simp only [Option.map_some, Option.getD_some, Array.any_eq_true'] at h
  obtain ⟨x, hx, hb⟩ := h
  rw [Bool.and_eq_true, Bool.or_eq_true] at hb
  have hxl := hall x hx hb.1
  rcases hb.2 with h1 | h1
  ·rw [beq_iff_eq] at h1; rw [← h1]; exact hxl
  ·exact waits_listed hc f x.on h1 hxl
theorem getD_true_false {l : Array Bool} {i : Nat} (h : l.getD i true = false) : l.getD i false = false := by
 rcases Nat.lt_or_ge i l.size with h1 | h1
 ·simp [h1] at h ⊢; exact h
 ·simp [Array.getElem?_eq_none h1] at h
/-- An operation that yields its value in every world that meets S, and for which the operations of E wait, may be taken first. -/
theorem wpAnyE_first {i : Nat} {oi : Oper} {v : Value} (hi : ops[i]? = some oi) (hsel : ∀ (j : Nat) (o : Oper) cs b, ops[j]? = some o → o.op ≠ .select cs b)
  (hQ : ∀ c a w, Q (.panic c) (a.put oi.dst v) w → Q (.panic c) a w) (hE : ∀ e ∈ E, ∃ f, waits md ops i f e = true) :
  ∀ (fuel : Nat) (listed : Array Bool) (a : Act) (w : World),
   (∀ j oj, ops[j]? = some oj → j ≠ i → listed.getD j true = false → (∀ e ∈ oj.after, Region.binds md e = true → e.on ≠ i) → oi.apart ops oj = true) →
   i ∈ Region.ready md ops listed → Closed md ops listed → YieldsIf P ops S oi v a → S w →
   wpAnyE P md ops Q S E fuel (listed.setIfInBounds i true) (a.put oi.dst v) w → wpAnyE P md ops Q S E (fuel + 1) listed a w := by
 intro fuel
 induction fuel with
 | zero =>
  intro listed a w _ hr _ hy hS H
  refine ⟨fun h => (by rw [h] at hr; cases hr), fun j hj => ?_⟩
  by_cases hji : j = i
  ·subst hji; exact hy.wpOp hi hS ⟨.inr (.inl hS), H⟩
  ·have := ready_mono hj hji
   rw [H.1] at this
   cases this
 | succ fuel ih =>
  intro listed a w hfree hr hcl hy hS H
  refine ⟨fun h => (by rw [h] at hr; cases hr), fun j hj => ?_⟩
  by_cases hji : j = i
  ·subst hji; exact hy.wpOp hi hS ⟨.inr (.inl hS), H⟩
  ·have hjE : j ∉ E := fun hm => by
    obtain ⟨f, hf⟩ := hE j hm
    have h1 := waits_ready hcl f j hf hj
    have h0 := (mem_ready.1 hr).1
    rw [getD_true_false h0] at h1
    cases h1
   have h1 := H.2 j (ready_mono hj hji)
   obtain ⟨hjun, oj, hoj, hall⟩ := mem_ready.1 hj
   have hnot : ∀ e ∈ oj.after, Region.binds md e = true → e.on ≠ i := fun e he hb heq => by
    have h1 := hall e he hb
    have h0 := (mem_ready.1 hr).1
    rw [heq, getD_true_false h0] at h1
    cases h1
   have h2 := wpOp_putIf hoj (hfree j oj hoj hji hjun hnot) (fun cs b => hsel i oi cs b hi) (fun cs b => hsel j oj cs b hoj) hQ hy h1
   have hfree' : ∀ k ok, ops[k]? = some ok → k ≠ i → (listed.setIfInBounds j true).getD k true = false →
     (∀ e ∈ ok.after, Region.binds md e = true → e.on ≠ i) → oi.apart ops ok = true := fun k ok hk hki hun hno => by
    refine hfree k ok hk hki ?_ hno
    by_cases hjk : j = k
    ·subst hjk; exact hjun
    ·rw [getD_set_ne true hjk] at hun; exact hun
   refine wpOp_mono (fun a' w' h3 => ?_) h2
   have hS' : S w' := by
    rcases h3.2.1.resolve_left hjE with h9 | h9
    ·exact h9
    ·rw [h9]; exact hS
   refine ⟨.inr (.inl hS'), ih (listed.setIfInBounds j true) a' w' hfree' (ready_mono hr (Ne.symm hji)) (hcl.step hj) h3.1 hS' ?_⟩
   rw [Array.setIfInBounds_comm _ _ hji]
   exact h3.2.2
/-- An operation that yields its value in whatever world may be taken first. -/
theorem wpAnyE_pure {i : Nat} {oi : Oper} {v : Value} (hi : ops[i]? = some oi) (hsel : ∀ (j : Nat) (o : Oper) cs b, ops[j]? = some o → o.op ≠ .select cs b)
  (hQ : ∀ c a w, Q (.panic c) (a.put oi.dst v) w → Q (.panic c) a w) :
  ∀ (fuel : Nat) (listed : Array Bool) (a : Act) (w : World),
   (∀ j oj, ops[j]? = some oj → j ≠ i → listed.getD j true = false → (∀ e ∈ oj.after, Region.binds md e = true → e.on ≠ i) → oi.apart ops oj = true) →
   i ∈ Region.ready md ops listed → YieldsIf P ops (fun _ => True) oi v a →
   wpAnyE P md ops Q S E fuel (listed.setIfInBounds i true) (a.put oi.dst v) w → wpAnyE P md ops Q S E (fuel + 1) listed a w := by
 intro fuel
 induction fuel with
 | zero =>
  intro listed a w _ hr hy H
  refine ⟨fun h => (by rw [h] at hr; cases hr), fun j hj => ?_⟩
  by_cases hji : j = i
  ·subst hji; exact hy.wpOp hi trivial ⟨.inr (.inr rfl), H⟩
  ·have := ready_mono hj hji
   rw [H.1] at this
   cases this
 | succ fuel ih =>
  intro listed a w hfree hr hy H
  refine ⟨fun h => (by rw [h] at hr; cases hr), fun j hj => ?_⟩
  by_cases hji : j = i
  ·subst hji; exact hy.wpOp hi trivial ⟨.inr (.inr rfl), H⟩
  ·have h1 := H.2 j (ready_mono hj hji)
   obtain ⟨hjun, oj, hoj, hall⟩ := mem_ready.1 hj
   have hnot : ∀ e ∈ oj.after, Region.binds md e = true → e.on ≠ i := fun e he hb heq => by
    have h1 := hall e he hb
    have h0 := (mem_ready.1 hr).1
    rw [heq, getD_true_false h0] at h1
    cases h1
   have h2 := wpOp_putIf hoj (hfree j oj hoj hji hjun hnot) (fun cs b => hsel i oi cs b hi) (fun cs b => hsel j oj cs b hoj) hQ hy h1
   have hfree' : ∀ k ok, ops[k]? = some ok → k ≠ i → (listed.setIfInBounds j true).getD k true = false →
     (∀ e ∈ ok.after, Region.binds md e = true → e.on ≠ i) → oi.apart ops ok = true := fun k ok hk hki hun hno => by
    refine hfree k ok hk hki ?_ hno
    by_cases hjk : j = k
    ·subst hjk; exact hjun
    ·rw [getD_set_ne true hjk] at hun; exact hun
   refine wpOp_mono (fun a' w' h3 => ⟨h3.2.1, ih (listed.setIfInBounds j true) a' w' hfree' (ready_mono hr (Ne.symm hji)) h3.1 ?_⟩) h2
   rw [Array.setIfInBounds_comm _ _ hji]
   exact h3.2.2
/-- The moves. -/
theorem takeP {i : Nat} {oi : Oper} {v : Value} {fuel : Nat} {listed : Array Bool} {a : Act} {w : World} (hi : ops.toList[i]? = some oi)
  (hs : Region.noSelect ops = true) (hf : Region.free md ops listed i = true) (hr : (Region.ready md ops listed).contains i = true)
  (hQ : ∀ c a w, Q (.panic c) (a.put oi.dst v) w → Q (.panic c) a w) (hy : YieldsIf P ops (fun _ => True) oi v a)
  (h : wpAnyE P md ops Q S E fuel (listed.setIfInBounds i true) (a.put oi.dst v) w) : wpAnyE P md ops Q S E (fuel + 1) listed a w :=
 wpAnyE_pure (by rw [← Array.getElem?_toList]; exact hi) (Region.noSelect_spec hs) hQ fuel listed a w (Region.free_spec (by rw [← Array.getElem?_toList]; exact hi) hf) (by simpa using hr) hy h
theorem takeE {i : Nat} {oi : Oper} {v : Value} {fuel : Nat} {listed : Array Bool} {a : Act} {w : World} (hi : ops.toList[i]? = some oi)
  (hs : Region.noSelect ops = true) (hf : Region.free md ops listed i = true) (hr : (Region.ready md ops listed).contains i = true)
  (hQ : ∀ c a w, Q (.panic c) (a.put oi.dst v) w → Q (.panic c) a w) (hE : (E.all fun e => waits md ops i 30 e) = true) (hc : closedB md ops listed = true) (hy : YieldsIf P ops S oi v a) (hS : S w)
  (h : wpAnyE P md ops Q S E fuel (listed.setIfInBounds i true) (a.put oi.dst v) w) : wpAnyE P md ops Q S E (fuel + 1) listed a w :=
 wpAnyE_first (by rw [← Array.getElem?_toList]; exact hi) (Region.noSelect_spec hs) hQ (fun e he => ⟨30, List.all_eq_true.1 hE e he⟩) fuel listed a w (Region.free_spec (by rw [← Array.getElem?_toList]; exact hi) hf) (by simpa using hr) (closedB_spec hc) hy hS h
theorem doneE {listed : Array Bool} {a : Act} {w : World} (hr : Region.ready md ops listed = []) (h : Q .normal a w) : ∀ fuel, wpAnyE P md ops Q S E fuel listed a w
 | 0 => ⟨hr, h⟩
 | _ + 1 => ⟨fun _ => h, by rw [hr]; simp⟩
theorem oneE {i : Nat} {o : Oper} {fuel : Nat} {listed : Array Bool} {a : Act} {w : World} (ho : ops.toList[i]? = some o)
  (h : ∀ K' : Act → World → Prop, Shut (∀ a w', (i ∈ E ∨ S w' ∨ w' = w) → ((i ∈ E ∨ S w' ∨ w' = w) → wpAnyE P md ops Q S E fuel (listed.setIfInBounds i true) a w') → K' a w') → if Region.wanted o (yielded ops a.tmps) = true then Oper.wp P o a w K' Q else K' (a.put o.dst undef) w) :
  wpOp P ops Q i (fun a' w' => (i ∈ E ∨ S w' ∨ w' = w) ∧ wpAnyE P md ops Q S E fuel (listed.setIfInBounds i true) a' w') a w :=
 wpOp_step (by rw [← Array.getElem?_toList]; exact ho) (fun K' hK => h K' (fun a w hS hW => hK a w ⟨hS, hW hS⟩))
theorem consE {fuel : Nat} {listed : Array Bool} {a : Act} {w : World} {i : Nat} {o : Oper} (hr : Region.ready md ops listed = [i]) (ho : ops.toList[i]? = some o)
  (h : ∀ K' : Act → World → Prop, Shut (∀ a w', (i ∈ E ∨ S w' ∨ w' = w) → ((i ∈ E ∨ S w' ∨ w' = w) → wpAnyE P md ops Q S E fuel (listed.setIfInBounds i true) a w') → K' a w') → if Region.wanted o (yielded ops a.tmps) = true then Oper.wp P o a w K' Q else K' (a.put o.dst undef) w) :
  wpAnyE P md ops Q S E (fuel + 1) listed a w :=
 ⟨fun h0 => by rw [hr] at h0; simp at h0, fun j hj => by rw [hr] at hj; rw [List.mem_singleton.1 hj]; exact oneE ho h⟩
theorem cons2E {fuel : Nat} {listed : Array Bool} {a : Act} {w : World} {i j : Nat} {o u : Oper} (hr : Region.ready md ops listed = [i, j]) (ho : ops.toList[i]? = some o) (hu : ops.toList[j]? = some u)
  (h : ∀ K' : Act → World → Prop, Shut (∀ a w', (i ∈ E ∨ S w' ∨ w' = w) → ((i ∈ E ∨ S w' ∨ w' = w) → wpAnyE P md ops Q S E fuel (listed.setIfInBounds i true) a w') → K' a w') → if Region.wanted o (yielded ops a.tmps) = true then Oper.wp P o a w K' Q else K' (a.put o.dst undef) w)
  (h2 : ∀ K' : Act → World → Prop, Shut (∀ a w', (j ∈ E ∨ S w' ∨ w' = w) → ((j ∈ E ∨ S w' ∨ w' = w) → wpAnyE P md ops Q S E fuel (listed.setIfInBounds j true) a w') → K' a w') → if Region.wanted u (yielded ops a.tmps) = true then Oper.wp P u a w K' Q else K' (a.put u.dst undef) w) :
  wpAnyE P md ops Q S E (fuel + 1) listed a w :=
 ⟨fun h0 => by rw [hr] at h0; simp at h0, fun k hk => by
  rw [hr] at hk
  rcases List.mem_cons.1 hk with rfl | hk
  ·exact oneE ho h
  ·rw [List.mem_singleton.1 hk]; exact oneE hu h2⟩
theorem wpAnyE_gen {n : Nat} {l : Array Bool} {a : Act} {w : World} (F : World → Prop) (h0 : F w) (h : ∀ W, F W → wpAnyE P md ops Q S E n l a W) : wpAnyE P md ops Q S E n l a w := h _ h0
/-- The beginning. -/
theorem wp_region_E (S : World → Prop) (E : List Nat) {id : Nat} {a : Act} {w : World} (hm : P.follows .mixedOrders = true) (hS : S w.drew)
  (h : S w.drew → wpAnyE P .any ops Q S E ops.size (Array.replicate ops.size false) a w.drew) : (Code.region id ops true).wp P Q a w :=
 wp_region_any hm (wpAny_of_E _ _ _ _ (h hS))
end
end Go.Proofs.Ytkoidookanmknaa
