/- meresmanref07.Meet: plain part. -/
import Derived.Test.YtagiaiocgjagnaaKX23
import Derived.Test.YtagiaiocgjagnaaKX12
namespace Go.Proofs.Ytagiaiocgjagnaa
set_option linter.unusedSimpArgs false
set_option linter.unusedVariables false
open Go.RowKit

def zRP : RP := ⟨0, 0, 0⟩
/-- What the reference's Meet returns, by its list. -/
def rcOf (l : List RP) : RC := if l.length = 0 then ⟨0, zRP, zRP⟩ else if l.length = 1 then ⟨1, (l[0]?).getD zRP, zRP⟩ else ⟨2, (l[0]?).getD zRP, (l[l.length - 1]?).getD zRP⟩
theorem zRP_ok : ownQ zRP = zeroQ ∧ RB64 zRP := ⟨ownQ_zero, ⟨by decide, by decide, by decide⟩⟩
theorem comF_in {s t : Sg} {l : List RP} {p : RP} (h : ∀ q ∈ l, PIn q 4000000) (hp : PIn p 4000000) : ∀ q ∈ comF s t l p, PIn q 4000000 := fun q hq => by
  unfold comF at hq
  split at hq
  · rcases (insF_mem l p q).1 hq with h1 | h1
    · exact h q h1
    · subst h1; exact hp
  · exact h q hq
theorem comF_len (s t : Sg) (l : List RP) (p : RP) : (comF s t l p).length ≤ l.length + 1 := by
  unfold comF
  split
  · exact insF_len l p
  · omega
theorem foldF_in {s t : Sg} : ∀ (c l : List RP), (∀ q ∈ l, PIn q 4000000) → (∀ q ∈ c, PIn q 4000000) → ∀ q ∈ c.foldl (comF s t) l, PIn q 4000000
  | [], l, h, _ => h
  | p :: c, l, h, hc => foldF_in c (comF s t l p) (comF_in h (hc p List.mem_cons_self)) (fun q hq => hc q (List.mem_cons_of_mem _ hq))
theorem foldF_len {s t : Sg} : ∀ (c l : List RP), (c.foldl (comF s t) l).length ≤ l.length + c.length
  | [], l => by simp
  | p :: c, l => by
    have h1 := foldF_len (s := s) (t := t) c (comF s t l p)
    have h2 := comF_len s t l p
    rw [List.foldl_cons, List.length_cons]
    omega
theorem ofR_in {p : Pt} (hx : -33 ≤ p.x ∧ p.x ≤ 67) (hy : -33 ≤ p.y ∧ p.y ≤ 67) : PIn (ofR p) 4000000 := ⟨by simp [ofR], by simp [ofR], by simp only [ofR]; omega, by simp only [ofR]; omega, by simp only [ofR]; omega, by simp only [ofR]; omega⟩
/-- The sizes of the crossing's numbers. -/
theorem cr_bd {s t : Sg} (hs : SegIn s (-33) 67) (ht : SegIn t (-33) 67) : (-20000 ≤ crD s t ∧ crD s t ≤ 20000) ∧ (-20000 ≤ crN s t ∧ crN s t ≤ 20000) := by
  obtain ⟨a1, a2, a3, a4, _⟩ := hs
  obtain ⟨b1, b2, b3, b4, _⟩ := ht
  have m : ∀ {u v : Int}, -100 ≤ u → u ≤ 100 → -100 ≤ v → v ≤ 100 → -10000 ≤ u * v ∧ u * v ≤ 10000 := fun {u v} h1 h2 h3 h4 => by
    have := abs_mul_le (x := u) (y := v) (m := 100) (n := 100) (by omega) (by omega)
    omega
  have m1 := m (u := s.b.x - s.a.x) (v := t.b.y - t.a.y) (by omega) (by omega) (by omega) (by omega)
  have m2 := m (u := s.b.y - s.a.y) (v := t.b.x - t.a.x) (by omega) (by omega) (by omega) (by omega)
  have m3 := m (u := t.a.x - s.a.x) (v := t.b.y - t.a.y) (by omega) (by omega) (by omega) (by omega)
  have m4 := m (u := t.a.y - s.a.y) (v := t.b.x - t.a.x) (by omega) (by omega) (by omega) (by omega)
  unfold crD crN
  omega
theorem makeF_in' {x y d m : Int} (hd : d ≠ 0) (d1 : -m ≤ d) (d2 : d ≤ m) (x1 : -m ≤ x) (x2 : x ≤ m) (y1 : -m ≤ y) (y2 : y ≤ m) : PIn (makeF x y d) m := by
  unfold makeF
  split
  · exact mkF_in (by omega) (by omega) (by omega) (by omega) (by omega) (by omega)
  · exact mkF_in (by omega) (by omega) (by omega) (by omega) (by omega) (by omega)
theorem crX_bd {s t : Sg} (hs : SegIn s (-33) 67) (ht : SegIn t (-33) 67) :
    ((0 - 2000000 ≤ s.a.x * crD s t ∧ s.a.x * crD s t ≤ 2000000) ∧ (0 - 2000000 ≤ (s.b.x - s.a.x) * crN s t ∧ (s.b.x - s.a.x) * crN s t ≤ 2000000)) ∧
    ((0 - 2000000 ≤ s.a.y * crD s t ∧ s.a.y * crD s t ≤ 2000000) ∧ (0 - 2000000 ≤ (s.b.y - s.a.y) * crN s t ∧ (s.b.y - s.a.y) * crN s t ≤ 2000000)) := by
  obtain ⟨c1, c2⟩ := cr_bd hs ht
  obtain ⟨a1, a2, a3, a4, _⟩ := hs
  have m : ∀ {u v : Int}, -100 ≤ u → u ≤ 100 → -20000 ≤ v → v ≤ 20000 → 0 - 2000000 ≤ u * v ∧ u * v ≤ 2000000 := fun {u v} h1 h2 h3 h4 => by
    have := abs_mul_le (x := u) (y := v) (m := 100) (n := 20000) (by omega) (by omega)
    omega
  exact ⟨⟨m (by omega) (by omega) c1.1 c1.2, m (by omega) (by omega) c2.1 c2.2⟩, ⟨m (by omega) (by omega) c1.1 c1.2, m (by omega) (by omega) c2.1 c2.2⟩⟩
theorem crP_in {s t : Sg} (hs : SegIn s (-33) 67) (ht : SegIn t (-33) 67) (h : crD s t ≠ 0) : PIn (crP s t) 4000000 := by
  obtain ⟨⟨x1, x2⟩, ⟨y1, y2⟩⟩ := crX_bd hs ht
  obtain ⟨c1, _⟩ := cr_bd hs ht
  exact makeF_in' h (by omega) (by omega) (by omega) (by omega) (by omega) (by omega)
theorem four_in {s t : Sg} (hs : SegIn s (-33) 67) (ht : SegIn t (-33) 67) : ∀ q ∈ four s t, PIn q 4000000 := fun q hq => by
  simp only [four, List.mem_cons, List.not_mem_nil, or_false] at hq
  rcases hq with rfl | rfl | rfl | rfl
  · exact ofR_in hs.ax hs.ay
  · exact ofR_in hs.bx hs.by'
  · exact ofR_in ht.ax ht.ay
  · exact ofR_in ht.bx ht.by'
theorem cand_in {s t : Sg} (hs : SegIn s (-33) 67) (ht : SegIn t (-33) 67) : ∀ q ∈ candF s t, PIn q 4000000 := fun q hq => by
  rcases List.mem_append.1 hq with h | h
  · exact four_in hs ht q h
  · split at h
    · cases h
    · rename_i h0
      rw [List.mem_singleton] at h
      subst h
      exact crP_in hs ht h0
theorem rcOf_ok {s t : Sg} (hs : SegIn s (-33) 67) (ht : SegIn t (-33) 67) : RCok (rcOf (allF s t)) (meetF s t) := by
  have h1 := hs.ok (by omega) (by omega)
  have h2 := ht.ok (by omega) (by omega)
  have hin : ∀ q ∈ allF s t, PIn q 4000000 := foldF_in _ _ (fun q hq => by cases hq) (cand_in hs ht)
  obtain ⟨m0, m1, m2⟩ := allF_meet h1 h2
  have hm := meetF_meet h1 h2
  have own : ∀ q, PIn q 4000000 → ownQ q = q.q := fun q hq => ownQ_pos hq.d1
  have rb : ∀ q, PIn q 4000000 → RB64 q := fun q hq => hq.rb (by omega)
  generalize meetF s t = M at *
  obtain ⟨k, A, T⟩ := M
  simp only at m0 m1 m2 hm
  generalize allF s t = L at *
  rcases hm with ⟨rfl, rfl, rfl, _⟩ | ⟨rfl, rfl, _⟩ | ⟨rfl, _⟩
  · rw [m0 rfl]
    exact ⟨rfl, zRP_ok.1, zRP_ok.1, zRP_ok.2, zRP_ok.2⟩
  · obtain ⟨r, rfl, hr⟩ := m1 rfl
    have hri := hin r List.mem_cons_self
    exact ⟨rfl, (own r hri).trans hr, zRP_ok.1, rb r hri, zRP_ok.2⟩
  · obtain ⟨a, l, b, rfl, ha, hb⟩ := m2 rfl
    have hai := hin a List.mem_cons_self
    have hbi := hin b (by simp)
    have e : rcOf (a :: (l ++ [b])) = ⟨2, a, b⟩ := by
      unfold rcOf
      rw [if_neg (by simp), if_neg (by simp)]
      simp [List.getElem?_append]
    rw [e]
    exact ⟨rfl, (own a hai).trans ha, (own b hbi).trans hb, rb a hai, rb b hbi⟩
/-- The list after the first i ends. -/
def preF (s t : Sg) (i : Nat) : List RP := ((four s t).take i).foldl (comF s t) []
theorem preF_succ {s t : Sg} {i : Nat} {p : RP} (h : (four s t)[i]? = some p) : preF s t (i + 1) = comF s t (preF s t i) p := by
  unfold preF
  rw [List.take_add_one, h, List.foldl_append]
  rfl
theorem preF_all (s t : Sg) : allF s t = if crD s t = 0 then preF s t 4 else comF s t (preF s t 4) (crP s t) := by
  unfold allF candF preF
  rw [show (four s t).take 4 = four s t from rfl, List.foldl_append]
  split <;> rfl
theorem preF_len (s t : Sg) (i : Nat) : (preF s t i).length ≤ 4 := by
  have := foldF_len (s := s) (t := t) ((four s t).take i) []
  have h4 : (four s t).length = 4 := rfl
  rw [List.length_take, h4] at this
  simp only [List.length_nil] at this
  unfold preF
  omega
theorem preF_in {s t : Sg} (hs : SegIn s (-33) 67) (ht : SegIn t (-33) 67) (i : Nat) : ∀ q ∈ preF s t i, PIn q 4000000 :=
  foldF_in _ _ (fun q hq => by cases hq) (fun q hq => four_in hs ht q (List.mem_of_mem_take hq))
end Go.Proofs.Ytagiaiocgjagnaa
