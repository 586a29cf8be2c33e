/- meresmanref07: common. -/
import Derived.Test.YtagiaiocgjagnaaKX22
namespace Go.Proofs.Ytagiaiocgjagnaa
set_option linter.unusedSimpArgs false
set_option linter.unusedVariables false
open Go.RowKit

theorem Blk.c4 {w : World} {b : Nat} {s : Sg} {t : TypeId} (h : Blk w b s.cs t) : w.cell? ⟨b, 0, none⟩ = some (.int .i64 s.a.x) ∧ w.cell? ⟨b, 1, none⟩ = some (.int .i64 s.a.y) ∧ w.cell? ⟨b, 2, none⟩ = some (.int .i64 s.b.x) ∧ w.cell? ⟨b, 3, none⟩ = some (.int .i64 s.b.y) := ⟨h.cell 0, h.cell 1, h.cell 2, h.cell 3⟩
set_option maxRecDepth 100000 in
set_option maxHeartbeats 40000000 in
theorem rCommon_c (a : Option Addr) (n c : Nat) (l : List RP) (s t : Sg) (p : RP) (w : World) (h : RPs w a n c l) (hin : ∀ q ∈ l, PIn q 4000000) (hp : PIn p 4000000) (hn : n ≤ 100) (hs : SegIn s (-100) 100) (ht : SegIn t (-100) 100) :
    Calls Try.prog 62 #[.slice a n c, s.v, t.v, p.v] w fun e w' => ∃ a' c', e = .returned (.slice a' (comF s t l p).length c') ∧ RPs w' a' (comF s t l p).length c' (comF s t l p) ∧ Ext w w' := by
  have HR := Lib.hid h
  have HI := Lib.hid (And.intro hin (And.intro hp (And.intro hs (And.intro ht hn))))
  clear h hin hp hs ht hn
  obtain ⟨B, hB⟩ : ∃ B, w.heap.size = B := ⟨_, rfl⟩
  obtain ⟨o1, h1⟩ : ∃ o, onF s p = o := ⟨_, rfl⟩
  obtain ⟨o2, h2⟩ : ∃ o, onF t p = o := ⟨_, rfl⟩
  have HO := Lib.hid (And.intro h1 h2)
  have HC := Lib.hid (show comF s t l p = if o1 = true ∧ o2 = true then insF l p else l by rw [comF, h1, h2])
  clear h1 h2
  go_enter Try.func62, Try.ntmps62
  go_upto_region 1 with fail
  refine wp_gen (fun W => Ext w W ∧ Blk W B s.cs 25 ∧ Blk W (B + 1) t.cs 25 ∧ Blk W (B + 1 + 1) p.ca 72) ⟨(by repeat (first | exact Ext.refl _ | assumption | refine Ext.setCell ?_ (by first | (simp; done) | (simp; omega) | omega) _ | refine Ext.alloc ?_ _ | refine Ext.drew ?_ | refine Ext.trans ?_ (by assumption))), ((Blk.at s.cs 25 hB.symm).alloc _).alloc _, (Blk.at (b := B + 1) t.cs 25 (w := w.alloc (.cells s.cs 25)) (by simp [hB])).alloc _, Blk.at _ 72 (by simp [hB])⟩ ?_
  rintro V ⟨E0, B0, B1, B2⟩
  have HE := Lib.hid E0
  have HB := Lib.hid (And.intro B1 B2)
  obtain ⟨x0, x1, x2, x3⟩ := B0.c4
  obtain ⟨z0, z1, z2⟩ := B2.ra
  clear E0 B0 B1 B2
  go_wp2_with fail
  refine (rOn_c s p _ HI.out.2.2.1 HI.out.2.1).mono ?_
  rw [HO.out.1]
  rintro e w2 ⟨rfl, hx⟩
  have HE2 := Lib.hid (HE.out.trans hx)
  have HB2 := Lib.hid (And.intro (HB.out.1.ext hx) (HB.out.2.ext hx))
  clear hx x0 x1 x2 x3 z0 z1 z2
  obtain ⟨x0, x1, x2, x3⟩ := HB2.out.1.c4
  obtain ⟨z0, z1, z2⟩ := HB2.out.2.ra
  go_wp2_with fail
  refine (rOn_c t p _ HI.out.2.2.2.1 HI.out.2.1).mono ?_
  rw [HO.out.2]
  rintro e w3 ⟨rfl, hx⟩
  have HE3 := Lib.hid (HE2.out.trans hx)
  have HB3 := Lib.hid (HB2.out.2.ext hx)
  clear hx x0 x1 x2 x3 z0 z1 z2
  by_cases hoo : o1 = true ∧ o2 = true
  · obtain ⟨rfl, rfl⟩ := hoo
    have HV := Lib.hid (show comF s t l p = insF l p by rw [HC.out]; simp)
    obtain ⟨z0, z1, z2⟩ := HB3.out.ra
    go_wp2_with fail
    refine (rPut_c a n c l p _ (HR.out.ext HE3.out) HI.out.1 HI.out.2.1 HI.out.2.2.2.2).mono ?_
    rintro e w4 ⟨a', c', rfl, hr, hx⟩
    have HQ := Lib.hid (And.intro hr (HE3.out.trans hx))
    clear hr hx z0 z1 z2
    go_wp2_with fail
    go_ret
    exact ⟨a', c', by rw [HV.out]; rfl, by rw [HV.out]; exact HQ.out.1, HQ.out.2⟩
  · have HV := Lib.hid (show comF s t l p = l by rw [HC.out, if_neg hoo])
    have hl : l.length = n := HR.out.len
    have HL := Lib.hid hl
    clear hl
    rcases o1 with _ | _ <;> rcases o2 with _ | _
    case true.true => exact absurd ⟨rfl, rfl⟩ hoo
    all_goals
      clear hoo
      go_wp2_with fail
      go_ret
      exact ⟨a, c, by rw [HV.out, HL.out]; rfl, by rw [HV.out, HL.out]; exact HR.out.ext HE3.out, HE3.out⟩
end Go.Proofs.Ytagiaiocgjagnaa
