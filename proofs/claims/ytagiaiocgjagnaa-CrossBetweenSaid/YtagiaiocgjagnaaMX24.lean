/- R7c X17 X21 X22 X23 X24: several texts of this proof in one. -/
import Derived.Test.YtagiaiocgjagnaaMR7b
import Derived.Test.YtagiaiocgjagnaaWS
import Derived.Test.YtagiaiocgjagnaaMX14
import Derived.Test.YtagiaiocgjagnaaMC04
import Derived.Test.YtagiaiocgjagnaaMX11
import Derived.Test.YtagiaiocgjagnaaMC06
import Derived.Test.YtagiaiocgjagnaaLRow
import Derived.Great.BuildSlice
import Derived.Test.YtagiaiocgjagnaaMX12
namespace Go.Proofs.Ytagiaiocgjagnaa
set_option linter.unusedSimpArgs false
set_option linter.unusedVariables false
open Go.RowKit

def dens : List Int := [1, 1, 1, 2, 2, 3, 5, 12]
def denF (k : Int) : Int := dens.getD (k % 8).toNat 1
def someF (n : Int) : RP :=
  let k := aroundF n 1048576
  let p := gridF (k / 8)
  if denF k = 1 then ⟨p.x, p.y, 1⟩ else makeF (p.x * denF k - k / 64 % denF k) (p.y * denF k - k / 256 % denF k) (denF k)
end Go.Proofs.Ytagiaiocgjagnaa
namespace Go.Proofs.Ytagiaiocgjagnaa
set_option linter.unusedSimpArgs false
set_option linter.unusedVariables false
open Go.RowKit

/-- The numbers of a point of the reference are small. -/
structure PIn (p : RP) (m : Int) : Prop where
  d1 : 1 ≤ p.d
  dm : p.d ≤ m
  x1 : -m ≤ p.x
  x2 : p.x ≤ m
  y1 : -m ≤ p.y
  y2 : p.y ≤ m
theorem mkF_in {x y d m : Int} (hd : 1 ≤ d) (hm : d ≤ m) (x1 : -m ≤ x) (x2 : x ≤ m) (y1 : -m ≤ y) (y2 : y ≤ m) : PIn (mkF x y d) m := by
  have b2 := rgcd_pos (x := rgcd x y) (y := d) (by omega)
  have d1 := rgcd_dvd x y
  have d2 := rgcd_dvd (rgcd x y) d
  have ex := div_bd b2 (m := m) x1 x2 (Int.dvd_trans d2.1 d1.1)
  have ey := div_bd b2 (m := m) y1 y2 (Int.dvd_trans d2.1 d1.2)
  have ed := div_bd b2 (m := m) (by omega) hm d2.2
  exact ⟨(mkF_props x y d hd).1.1, ed.2.1, ex.1, ex.2.1, ey.1, ey.2.1⟩
end Go.Proofs.Ytagiaiocgjagnaa
namespace Go.Proofs.Ytagiaiocgjagnaa
set_option linter.unusedSimpArgs false
set_option linter.unusedVariables false
open Go.RowKit

def encRP : Enc RP := ⟨fun p => [.int .i64 p.x, .int .i64 p.y, .int .i64 p.d], 3, fun _ => rfl, fun p u hu => by
  simp at hu
  rcases hu with rfl | rfl | rfl <;> rfl, by omega⟩
/-- A slice of points. -/
structure RPs (w : World) (a : Option Addr) (n c : Nat) (l : List RP) : Prop where
  len : l.length = n
  cap : n ≤ c
  most : c ≤ maxLen
  at' : (a = none ∧ n = 0 ∧ c = 0) ∨ ∃ g, a = some ⟨g, 0, none⟩ ∧ 0 < n ∧ GAt encRP w g l ∧ g < w.heap.size
/-- Where the elements of a slice lie that is appended. -/
def SrcR (w : World) (a : Option Addr) (n : Nat) (l : List RP) : Prop := l.length = n ∧ (n = 0 ∨ ∃ ad, a = some ad ∧ ∀ (j : Nat) (u : Value), (gcells encRP l)[j]? = some u → w.cell? (ad.add j) = some u)
end Go.Proofs.Ytagiaiocgjagnaa
namespace Go.Proofs.Ytagiaiocgjagnaa
set_option linter.unusedSimpArgs false
set_option linter.unusedVariables false
open Go.RowKit

abbrev RP.ca (p : RP) : Array Value := #[.int .i64 p.x, .int .i64 p.y, .int .i64 p.d]
/-- What the tail of Put is told: the place k, what stands before and behind it. -/
def PutK (l : List RP) (p : RP) (k : Nat) : Prop := insF l p = l.take k ++ p :: l.drop k
end Go.Proofs.Ytagiaiocgjagnaa
namespace Go.Proofs.Ytagiaiocgjagnaa
set_option linter.unusedSimpArgs false
set_option linter.unusedVariables false
open Go.RowKit

end Go.Proofs.Ytagiaiocgjagnaa
namespace Go.Proofs.Ytagiaiocgjagnaa
set_option linter.unusedSimpArgs false
set_option linter.unusedVariables false
open Go.RowKit

def zRP : RP := ⟨0, 0, 0⟩
/-- What the reference's Meet returns, by its list. -/
def rcOf (l : List RP) : RC := if l.length = 0 then ⟨0, zRP, zRP⟩ else if l.length = 1 then ⟨1, (l[0]?).getD zRP, zRP⟩ else ⟨2, (l[0]?).getD zRP, (l[l.length - 1]?).getD zRP⟩
theorem comF_in {s t : Sg} {l : List RP} {p : RP} (h : ∀ q ∈ l, PIn q 4000000) (hp : PIn p 4000000) : ∀ q ∈ comF s t l p, PIn q 4000000 := fun q hq => by
  unfold comF at hq
  split at hq
  · rcases (insF_mem l p q).1 hq with h1 | h1
    · exact h q h1
    · subst h1; exact hp
  · exact h q hq
theorem foldF_in {s t : Sg} : ∀ (c l : List RP), (∀ q ∈ l, PIn q 4000000) → (∀ q ∈ c, PIn q 4000000) → ∀ q ∈ c.foldl (comF s t) l, PIn q 4000000
  | [], l, h, _ => h
  | p :: c, l, h, hc => foldF_in c (comF s t l p) (comF_in h (hc p List.mem_cons_self)) (fun q hq => hc q (List.mem_cons_of_mem _ hq))
theorem ofR_in {p : Pt} (hx : -33 ≤ p.x ∧ p.x ≤ 67) (hy : -33 ≤ p.y ∧ p.y ≤ 67) : PIn (ofR p) 4000000 := ⟨by simp [ofR], by simp [ofR], by simp only [ofR]; omega, by simp only [ofR]; omega, by simp only [ofR]; omega, by simp only [ofR]; omega⟩
/-- The sizes of the crossing's numbers. -/
theorem cr_bd {s t : Sg} (hs : SegIn s (-33) 67) (ht : SegIn t (-33) 67) : (-20000 ≤ crD s t ∧ crD s t ≤ 20000) ∧ (-20000 ≤ crN s t ∧ crN s t ≤ 20000) := by
  obtain ⟨a1, a2, a3, a4, _⟩ := hs
  obtain ⟨b1, b2, b3, b4, _⟩ := ht
  have m : ∀ {u v : Int}, -100 ≤ u → u ≤ 100 → -100 ≤ v → v ≤ 100 → -10000 ≤ u * v ∧ u * v ≤ 10000 := fun {u v} h1 h2 h3 h4 => by
    have := abs_mul_le (x := u) (y := v) (m := 100) (n := 100) (by omega) (by omega)
    omega
  have m1 := m (u := s.b.x - s.a.x) (v := t.b.y - t.a.y) (by omega) (by omega) (by omega) (by omega)
  have m2 := m (u := s.b.y - s.a.y) (v := t.b.x - t.a.x) (by omega) (by omega) (by omega) (by omega)
  have m3 := m (u := t.a.x - s.a.x) (v := t.b.y - t.a.y) (by omega) (by omega) (by omega) (by omega)
  have m4 := m (u := t.a.y - s.a.y) (v := t.b.x - t.a.x) (by omega) (by omega) (by omega) (by omega)
  unfold crD crN
  omega
theorem makeF_in' {x y d m : Int} (hd : d ≠ 0) (d1 : -m ≤ d) (d2 : d ≤ m) (x1 : -m ≤ x) (x2 : x ≤ m) (y1 : -m ≤ y) (y2 : y ≤ m) : PIn (makeF x y d) m := by
  unfold makeF
  split
  · exact mkF_in (by omega) (by omega) (by omega) (by omega) (by omega) (by omega)
  · exact mkF_in (by omega) (by omega) (by omega) (by omega) (by omega) (by omega)
theorem crX_bd {s t : Sg} (hs : SegIn s (-33) 67) (ht : SegIn t (-33) 67) :
    ((0 - 2000000 ≤ s.a.x * crD s t ∧ s.a.x * crD s t ≤ 2000000) ∧ (0 - 2000000 ≤ (s.b.x - s.a.x) * crN s t ∧ (s.b.x - s.a.x) * crN s t ≤ 2000000)) ∧
    ((0 - 2000000 ≤ s.a.y * crD s t ∧ s.a.y * crD s t ≤ 2000000) ∧ (0 - 2000000 ≤ (s.b.y - s.a.y) * crN s t ∧ (s.b.y - s.a.y) * crN s t ≤ 2000000)) := by
  obtain ⟨c1, c2⟩ := cr_bd hs ht
  obtain ⟨a1, a2, a3, a4, _⟩ := hs
  have m : ∀ {u v : Int}, -100 ≤ u → u ≤ 100 → -20000 ≤ v → v ≤ 20000 → 0 - 2000000 ≤ u * v ∧ u * v ≤ 2000000 := fun {u v} h1 h2 h3 h4 => by
    have := abs_mul_le (x := u) (y := v) (m := 100) (n := 20000) (by omega) (by omega)
    omega
  exact ⟨⟨m (by omega) (by omega) c1.1 c1.2, m (by omega) (by omega) c2.1 c2.2⟩, ⟨m (by omega) (by omega) c1.1 c1.2, m (by omega) (by omega) c2.1 c2.2⟩⟩
theorem crP_in {s t : Sg} (hs : SegIn s (-33) 67) (ht : SegIn t (-33) 67) (h : crD s t ≠ 0) : PIn (crP s t) 4000000 := by
  obtain ⟨⟨x1, x2⟩, ⟨y1, y2⟩⟩ := crX_bd hs ht
  obtain ⟨c1, _⟩ := cr_bd hs ht
  exact makeF_in' h (by omega) (by omega) (by omega) (by omega) (by omega) (by omega)
theorem four_in {s t : Sg} (hs : SegIn s (-33) 67) (ht : SegIn t (-33) 67) : ∀ q ∈ four s t, PIn q 4000000 := fun q hq => by
  simp only [four, List.mem_cons, List.not_mem_nil, or_false] at hq
  rcases hq with rfl | rfl | rfl | rfl
  · exact ofR_in hs.ax hs.ay
  · exact ofR_in hs.bx hs.by'
  · exact ofR_in ht.ax ht.ay
  · exact ofR_in ht.bx ht.by'
theorem cand_in {s t : Sg} (hs : SegIn s (-33) 67) (ht : SegIn t (-33) 67) : ∀ q ∈ candF s t, PIn q 4000000 := fun q hq => by
  rcases List.mem_append.1 hq with h | h
  · exact four_in hs ht q h
  · split at h
    · cases h
    · rename_i h0
      rw [List.mem_singleton] at h
      subst h
      exact crP_in hs ht h0
/-- The list after the first i ends. -/
def preF (s t : Sg) (i : Nat) : List RP := ((four s t).take i).foldl (comF s t) []
end Go.Proofs.Ytagiaiocgjagnaa
