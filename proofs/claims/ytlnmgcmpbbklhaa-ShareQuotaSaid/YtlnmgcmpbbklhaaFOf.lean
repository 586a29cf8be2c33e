/- frac: Of, Num. -/
import Derived.Test.YtlnmgcmpbbklhaaFMake
namespace Go.Proofs.Ytlnmgcmpbbklhaa
set_option linter.unusedSimpArgs false
set_option linter.unusedVariables false
open Go.RowKit

set_option maxRecDepth 100000 in
set_option maxHeartbeats 1000000 in
theorem Of_c (x y : Int) (w : World) (hx1 : -9223372036854775808 ≤ x) (hx2 : x ≤ 9223372036854775807) (hy : 1 ≤ y) (hy2 : y.natAbs < B32) : Calls Try.prog 30 #[.int .i64 x, .int .i64 y] w (RetQ (x / gcdI x y) (y / gcdI x y) w) := by
  have hy3 : y ≤ 4294967295 := by rw [B32_eq] at hy2; omega
  go_enter Try.func30, Try.ntmps30
  go_wp2_with fail
  refine (From_c x _ hx1 hx2).mono ?_
  rintro e w2 ⟨p, rfl, hp, hx2⟩
  have HP := Lib.hid (And.intro hp hx2)
  have O2 : Own w2 w.heap.size 4 := Own.ext hx2 ((Blk.at #[.bool false, .slice none 0 0, .bool false, .slice none 0 0] 53 rfl).own _ (by simp) (noIntF _ _ _ _ _ _ _ _)) (by omega)
  clear hp hx2
  go_wp2_with fail
  refine (From_c y _ (by omega) (by omega)).mono ?_
  rintro e w3 ⟨q, rfl, hq, hx3⟩
  have HQ := Lib.hid (And.intro hq hx3)
  have O3 := O2.ext hx3 (by omega)
  clear hq hx3 O2
  go_wp2_with fail
  refine (Make_c p q x y _ (HP.out.1.keep HQ.out.2.ik) HQ.out.1 hy hy2).mono ?_
  rintro e w4 ⟨f, rfl, hf, hx4⟩
  have O4 := O3.ext hx4 (by omega)
  have HF := Lib.hid (And.intro hf (show Ext w w4 from ((((Ext.refl w).alloc _).trans HP.out.2).trans HQ.out.2).trans hx4))
  clear O3 hf hx4
  have hp := putF_cells O4 f
  obtain ⟨p0, p1, p2, p3⟩ := hp
  go_wp2_with fail
  refine bodyPost_ret (v := .tuple #[f.v, .int .i64 0]) (by simp [results, Try.results30, go_sem, p0, p1, p2, p3]) rfl ?_
  exact ⟨f, rfl, HF.out.1.keep (IK.putF O4 f), ext_putF HF.out.2 (by omega) f⟩
end Go.Proofs.Ytlnmgcmpbbklhaa
