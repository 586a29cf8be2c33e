/- meresmanlaw06: ExactTurns, the walk. -/
import Derived.Test.YtgmedfloflplgaaL06a
import Derived.Test.YtgmedfloflplgaaL06b
import Derived.Test.YtgmedfloflplgaaR06l
namespace Go.Proofs.Ytgmedfloflplgaa
open Go.RowKit

/-- The directions of the law. -/
def dirL (zs : List Int) (i : Nat) : List Pt := (List.range i).map fun k => dirF (pickF zs k 1048576)
theorem dirL_succ (zs : List Int) (i : Nat) : dirL zs (i + 1) = dirL zs i ++ [dirF (pickF zs i 1048576)] := by simp [dirL, List.range_succ]
theorem dirL_length (zs : List Int) (i : Nat) : (dirL zs i).length = i := by simp [dirL]
theorem int64_pick' (zs : List Int) (i : Nat) : Int64 (pickF zs i 1048576) := by
  have := pickF_bd zs i 1048576 (by omega)
  exact ⟨by omega, by omega⟩
def Dir (p : Pt) : Prop := Small p ∧ dirE p = 0
theorem dir_at {q0 q1 q2 q3 : Pt} (h : Dir q0 ∧ Dir q1 ∧ Dir q2 ∧ Dir q3) (o : Nat) (ho : o < 4) : Dir (([q0, q1, q2, q3] : List Pt).getD o ⟨0, 0⟩) := by
  match o, ho with
  | 0, _ => exact h.1
  | 1, _ => exact h.2.1
  | 2, _ => exact h.2.2.1
  | 3, _ => exact h.2.2.2
theorem TurnF_ok {a b : Pt} (ha : Dir a) (hb : Dir b) : TurnF a b = (turnF a b, 0) := by
  unfold TurnF; rw [if_pos (by simp [firstE, ha.2, hb.2])]
theorem SectorF_ok {a b d : Pt} (ha : Dir a) (hb : Dir b) (hd : Dir d) : SectorF a b d = (sectorF a b d, 0) := by
  unfold SectorF; rw [if_pos (by simp [firstE, ha.2, hb.2, hd.2])]

set_option maxRecDepth 100000 in
set_option maxHeartbeats 4000000 in
theorem walkTurns (a0 : Option Addr) (n c : Nat) (zs : List Int) (a1 a2 : Int) (w : World) (h0 : Ints w a0 n zs) (h1 : Int64 a1) (h2 : Int64 a2) :
    Calls Try.prog 4 #[.slice a0 n c, .int .i64 a1, .int .i64 a2] w fun e w' => e = .returned (.bool true) ∧ Ext w w' := by
  obtain ⟨i0, hi0, hz0, hz1, hz2⟩ := info_parts pointInfo
  have H0 := Lib.hid h0; have H1 := Lib.hid h1; have H2 := Lib.hid h2; clear h0 h1 h2
  go_enter Try.func4, Try.ntmps4
  go_wp2_with fail
  go_loopw [7, 8] (fun qv iv ws => ∃ i : Nat, i ≤ 4 ∧ iv = .int .i64 (i : Int) ∧ PRow ws w.heap.size qv (dirL zs i) ∧ Ext w ws) (fun _ v _ => 4 - (intOf v).toNat)
  case atStart => exact ⟨0, by omega, rfl, PRow.nil w _, Ext.refl w⟩
  case round =>
    obtain ⟨i, hi, rfl, hP, hE⟩ := hrel
    have HP := Lib.hid hP; have HE := Lib.hid hE; clear hP
    have hsz := hE.size
    by_cases hlt : i < 4
    · clear hE
      go_wp2_with fail
      refine (pick_c a0 n c zs _ i _ _ (H0.out.keep HE.out.ik) rfl (by omega) (by omega) (by omega)).mono ?_
      rintro e w2 ⟨rfl, rfl⟩
      go_wp2_with fail
      refine (dir_c _ _ (int64_pick' zs i)).mono ?_
      rintro e w3 ⟨rfl, hx3⟩
      have hE3 := HE.out.trans hx3
      have hs3 := hE3.size
      have hP3 := Lib.hid (HP.out.ext hx3)
      have HE3 := Lib.hid hE3
      clear hx3 hE3
      go_wp2_with (refine wpList_append_lies _ rfl _ _ _ rfl w.heap.size 25 i0 _ 2 16 Try.underlying23 hi0 hz0 hz1 hz2 rfl (by omega) _ _ _ rfl (hP3.out.ext (by repeat (first | exact Ext.refl _ | assumption | refine Ext.setCell ?_ (by first | (simp; done) | (simp; omega) | omega) _ | refine Ext.alloc ?_ _ | refine Ext.drew ?_ | refine Ext.trans ?_ (by assumption)))) ⟨w3.heap.size, 0, none⟩ 1 1 (pcells [dirF (pickF zs i 1048576)]) rfl rfl (news_atL (fun k hk => ?c1)) (pcells_one _) (by omega) (by rw [dirL_length, maxLen]; omega) (by rw [dirL_length]; omega) (by simp; omega) _ rfl ?_)
      case c1 =>
        match k, hk with
        | 0, _ => exact ⟨by simp, by simp⟩
        | k + 1, hk => simp at hk
      · intro g cap w1 hown hgrow hat hlt1
        have hR := Lib.hid (show PRow w1 w.heap.size (.slice (some ⟨g, 0, none⟩) ((dirL zs i).length + 1) cap) (dirL zs (i + 1)) ∧ Ext w w1 from
          ⟨by rw [dirL_succ]; exact PRow.app hown, ext_grown (HE3.out.alloc _) hgrow (fun g hg => (owns_lt HP.out hg).1)⟩)
        clear hown hgrow hat
        go_wp2_with fail
        go_roundw
        case rel => exact ⟨i + 1, by omega, by go_num, hR.out.1, hR.out.2⟩
        case measure => simp [intOf]; omega
    · obtain rfl : i = 4 := by omega
      obtain ⟨g, cap, rfl, hgb, hgl⟩ := World.ownsRow.form HP.out (by rw [dirL_length]; omega)
      rw [dirL_length]
      have hq := HP.out.pts
      have hl4 := dirL_length zs 4
      have ht : ∀ p, p ∈ dirL zs 4 → Dir p := fun p hp => by simp [dirL] at hp; obtain ⟨k, _, rfl⟩ := hp; exact dirF_small _
      obtain ⟨q0, q1, q2, q3, hL⟩ := four_of hl4
      rw [hL] at hq ht
      have HT := Lib.hid (show Dir q0 ∧ Dir q1 ∧ Dir q2 ∧ Dir q3 from ⟨ht _ (by simp), ht _ (by simp), ht _ (by simp), ht _ (by simp)⟩)
      have A0 := hq.at4
      have HE0 := Lib.hid hE
      clear hl4 ht hL hq HP hE HE
      go_wp2_with fail
      refine (bent_c q0 a1 a2 _ H1.out H2.out).mono ?_
      rintro e w3 ⟨rfl, hx3⟩
      have hpi : IntPt (bentF q0 a1 a2) := bent_int HT.out.1.1 a1 a2 H2.out
      generalize bentF q0 a1 a2 = p' at hpi
      have HPI := Lib.hid hpi; clear hpi
      have A3 := At.ext hx3 A0 (by simp)
      have E3 := HE0.out.trans hx3
      clear hx3 A0
      have hl0 := A3.lt (by simp)
      go_upto_region 8 with (fail)
      obtain ⟨gb, hgb'⟩ : ∃ gb, gb = w3.heap.size := ⟨_, rfl⟩
      rw [← hgb']
      refine wp_gen (fun V => Ext w V ∧ At V g #[.int .i64 q0.x, .int .i64 q0.y, .int .i64 q1.x, .int .i64 q1.y, .int .i64 q2.x, .int .i64 q2.y, .int .i64 q3.x, .int .i64 q3.y] ∧ At V gb #[.int .i64 p'.x, .int .i64 p'.y, .int .i64 0, .int .i64 0]) ⟨E3.alloc _, At.alloc A3 (by simp), by rw [hgb']; exact (Blk.at _ 25 rfl).at'⟩ ?_
      rw [← hgb'] at hl0
      clear hgb' E3 A3
      rintro V ⟨E0, B0, B1⟩
      have HS := Lib.hid (show Ext w V ∧ At V g #[.int .i64 q0.x, .int .i64 q0.y, .int .i64 q1.x, .int .i64 q1.y, .int .i64 q2.x, .int .i64 q2.y, .int .i64 q3.x, .int .i64 q3.y] ∧ At V gb #[.int .i64 p'.x, .int .i64 p'.y, .int .i64 0, .int .i64 0] from ⟨E0, B0, B1⟩)
      clear E0 B0 B1
      go_outline
      go_loopw [10] (fun v ws => ∃ i : Nat, i ≤ 2 ∧ v = .int .i64 (i : Int) ∧ Ext w ws ∧ At ws g #[.int .i64 q0.x, .int .i64 q0.y, .int .i64 q1.x, .int .i64 q1.y, .int .i64 q2.x, .int .i64 q2.y, .int .i64 q3.x, .int .i64 q3.y] ∧ At ws gb #[.int .i64 p'.x, .int .i64 p'.y, .int .i64 0, .int .i64 0]) (fun v _ => 2 - (intOf v).toNat)
      case atStart => exact ⟨0, by omega, rfl, HS.out⟩
      case round =>
        obtain ⟨i, hi, rfl, E2, C0, C1⟩ := hrel
        by_cases hlt2 : i < 2
        · --{{
          obtain ⟨p, hp, d0, d1⟩ : ∃ p : Pt, (IntPt p) ∧ wr.cell? ⟨gb, i * 2, none⟩ = some (.int .i64 p.x) ∧ wr.cell? ⟨gb, i * 2 + 1, none⟩ = some (.int .i64 p.y) := by
            match i, hlt2 with
            | 0, _ => exact ⟨p', HPI.out, C1 0 (by simp), C1 1 (by simp)⟩
            | 1, _ => exact ⟨⟨0, 0⟩, ⟨by decide, by decide, by decide, by decide⟩, C1 2 (by simp), C1 3 (by simp)⟩
          obtain ⟨r1, r2, r3⟩ := errs_law (d1 := q1) (d2 := q2) (p := p) HT.out.2.1.2 HT.out.2.2.1.2
          have HP := Lib.hid hp; clear hp
          obtain ⟨ve, hve⟩ : ∃ x, dirE p = x := ⟨_, rfl⟩
          rw [hve] at r1 r2 r3
          obtain ⟨t1, ht1⟩ : ∃ x, TurnF q1 p = x := ⟨_, rfl⟩
          obtain ⟨t2, ht2⟩ : ∃ x, TurnF p ⟨0, 0⟩ = x := ⟨_, rfl⟩
          obtain ⟨t3, ht3⟩ : ∃ x, SectorF q1 q2 p = x := ⟨_, rfl⟩
          rw [ht1] at r1; rw [ht2] at r2; rw [ht3] at r3
          have HR := Lib.hid (show t1.2 = ve ∧ t2.2 = (if ve = 0 then 1 else ve) ∧ t3.2 = ve from ⟨r1, r2, r3⟩)
          have HT1 := Lib.hid ht1; have HT2 := Lib.hid ht2; have HT3 := Lib.hid ht3; have HVE := Lib.hid hve
          clear r1 r2 r3 ht1 ht2 ht3 hve
          have u0 : (0 : Int) ≤ (i : Int) := by omega
          have u1 : (i : Int) < 2 := by omega
          have m0 := C0.lt (by simp)
          have m1 := C1.lt (by simp)
          go_upto_region 10 with (fail)
          go_region_held3 (fun w' => Ext w w' ∧ At w' g #[.int .i64 q0.x, .int .i64 q0.y, .int .i64 q1.x, .int .i64 q1.y, .int .i64 q2.x, .int .i64 q2.y, .int .i64 q3.x, .int .i64 q3.y] ∧ At w' gb #[.int .i64 p'.x, .int .i64 p'.y, .int .i64 0, .int .i64 0] ∧ w'.cell? ⟨gb, i * 2, none⟩ = some (.int .i64 p.x) ∧ w'.cell? ⟨gb, i * 2 + 1, none⟩ = some (.int .i64 p.y))
            (first | exact ⟨E2.drew, C0, C1, d0, d1⟩ | (go_split_ands; repeat' (first | with_reducible assumption | with_reducible apply And.intro | with_reducible exact Ext.refl _ | with_reducible refine Ext.setCell ?_ (by simp; omega) _ | with_reducible refine Ext.setCell ?_ (by simp) _ | with_reducible refine At.set ?_ (by omega) | with_reducible refine own1_set ?_ | with_reducible refine own2_set ?_ | with_reducible refine own3_set ?_ (by simp) | with_reducible refine Ext.drew ?_ | with_reducible refine At.drew ?_ | with_reducible refine own1_drew ?_ | with_reducible refine Ext.alloc ?_ _ | with_reducible refine At.alloc ?_ (by simp) | with_reducible refine own1_alloc ?_ | with_reducible refine cell_alloc ?_ | with_reducible refine cell_drew ?_ | with_reducible refine own2_drew ?_ | with_reducible refine own3_drew ?_ | with_reducible refine own2_alloc (by first | omega | (simp; omega)) ?_ | with_reducible refine own3_alloc (by first | omega | (simp; omega)) ?_ | with_reducible refine cell_set ?_ (by omega) | with_reducible exact Ext.trans' (by assumption) (by assumption) | with_reducible exact At.ext (by assumption) (by assumption) (by simp) | with_reducible exact Ext.cell (by assumption) (by assumption) | exact (Own.ext (by assumption) ⟨by assumption, by assumption, by assumption⟩ (by simp)).1 | exact (Own.ext (by assumption) ⟨by assumption, by assumption, by assumption⟩ (by simp)).2.1 | exact (Own.ext (by assumption) ⟨by assumption, by assumption, by assumption⟩ (by simp)).2.2)))
            ((go_at_call 20; refine (Turn_c q1 p _ HT.out.2.1.1.int HP.out).mono ?_; rw [HT1.out]; rintro e w6 ⟨rfl, hx6⟩))
          clear E2 C0 C1 d0 d1
          obtain ⟨E2, C0, C1, d0, d1⟩ : Ext w w6 ∧ At w6 g #[.int .i64 q0.x, .int .i64 q0.y, .int .i64 q1.x, .int .i64 q1.y, .int .i64 q2.x, .int .i64 q2.y, .int .i64 q3.x, .int .i64 q3.y] ∧ At w6 gb #[.int .i64 p'.x, .int .i64 p'.y, .int .i64 0, .int .i64 0] ∧ w6.cell? ⟨gb, i * 2, none⟩ = some (.int .i64 p.x) ∧ w6.cell? ⟨gb, i * 2 + 1, none⟩ = some (.int .i64 p.y) := by assumption
          clear hx6
          have m0 := C0.lt (by simp)
          have m1 := C1.lt (by simp)
          go_wp2_with fail
          refine (Turn_c p ⟨0, 0⟩ _ HP.out ⟨by decide, by decide, by decide, by decide⟩).mono ?_
          rw [HT2.out]
          rintro e w7 ⟨rfl, hx7⟩
          obtain ⟨E2, C0, C1, d0, d1⟩ : Ext w w7 ∧ At w7 g #[.int .i64 q0.x, .int .i64 q0.y, .int .i64 q1.x, .int .i64 q1.y, .int .i64 q2.x, .int .i64 q2.y, .int .i64 q3.x, .int .i64 q3.y] ∧ At w7 gb #[.int .i64 p'.x, .int .i64 p'.y, .int .i64 0, .int .i64 0] ∧ w7.cell? ⟨gb, i * 2, none⟩ = some (.int .i64 p.x) ∧ w7.cell? ⟨gb, i * 2 + 1, none⟩ = some (.int .i64 p.y) := ⟨E2.trans hx7, At.ext hx7 C0 (by simp), At.ext hx7 C1 (by simp), hx7.cell d0, hx7.cell d1⟩
          clear hx7
          have m0 := C0.lt (by simp)
          have m1 := C1.lt (by simp)
          go_upto_region 12 with (fail)
          go_region_held3 (fun w' => Ext w w' ∧ At w' g #[.int .i64 q0.x, .int .i64 q0.y, .int .i64 q1.x, .int .i64 q1.y, .int .i64 q2.x, .int .i64 q2.y, .int .i64 q3.x, .int .i64 q3.y] ∧ At w' gb #[.int .i64 p'.x, .int .i64 p'.y, .int .i64 0, .int .i64 0] ∧ w'.cell? ⟨gb, i * 2, none⟩ = some (.int .i64 p.x) ∧ w'.cell? ⟨gb, i * 2 + 1, none⟩ = some (.int .i64 p.y))
            (first | exact ⟨E2.drew, C0, C1, d0, d1⟩ | (go_split_ands; repeat' (first | with_reducible assumption | with_reducible apply And.intro | with_reducible exact Ext.refl _ | with_reducible refine Ext.setCell ?_ (by simp; omega) _ | with_reducible refine Ext.setCell ?_ (by simp) _ | with_reducible refine At.set ?_ (by omega) | with_reducible refine own1_set ?_ | with_reducible refine own2_set ?_ | with_reducible refine own3_set ?_ (by simp) | with_reducible refine Ext.drew ?_ | with_reducible refine At.drew ?_ | with_reducible refine own1_drew ?_ | with_reducible refine Ext.alloc ?_ _ | with_reducible refine At.alloc ?_ (by simp) | with_reducible refine own1_alloc ?_ | with_reducible refine cell_alloc ?_ | with_reducible refine cell_drew ?_ | with_reducible refine own2_drew ?_ | with_reducible refine own3_drew ?_ | with_reducible refine own2_alloc (by first | omega | (simp; omega)) ?_ | with_reducible refine own3_alloc (by first | omega | (simp; omega)) ?_ | with_reducible refine cell_set ?_ (by omega) | with_reducible exact Ext.trans' (by assumption) (by assumption) | with_reducible exact At.ext (by assumption) (by assumption) (by simp) | with_reducible exact Ext.cell (by assumption) (by assumption) | exact (Own.ext (by assumption) ⟨by assumption, by assumption, by assumption⟩ (by simp)).1 | exact (Own.ext (by assumption) ⟨by assumption, by assumption, by assumption⟩ (by simp)).2.1 | exact (Own.ext (by assumption) ⟨by assumption, by assumption, by assumption⟩ (by simp)).2.2)))
            ((go_at_call 21; refine (Sector_c q1 q2 p _ HT.out.2.1.1.int HT.out.2.2.1.1.int HP.out).mono ?_; rw [HT3.out]; rintro e w8 ⟨rfl, hx8⟩))
          clear E2 C0 C1 d0 d1
          obtain ⟨E2, C0, C1, d0, d1⟩ : Ext w w8 ∧ At w8 g #[.int .i64 q0.x, .int .i64 q0.y, .int .i64 q1.x, .int .i64 q1.y, .int .i64 q2.x, .int .i64 q2.y, .int .i64 q3.x, .int .i64 q3.y] ∧ At w8 gb #[.int .i64 p'.x, .int .i64 p'.y, .int .i64 0, .int .i64 0] ∧ w8.cell? ⟨gb, i * 2, none⟩ = some (.int .i64 p.x) ∧ w8.cell? ⟨gb, i * 2 + 1, none⟩ = some (.int .i64 p.y) := by assumption
          clear hx8
          have m1 := C1.lt (by simp)
          go_wp2_with fail
          refine (rDirection_c p _).mono ?_
          rw [HVE.out]
          rintro e w9 ⟨rfl, hx9⟩
          have hS : Ext w w9 ∧ At w9 g #[.int .i64 q0.x, .int .i64 q0.y, .int .i64 q1.x, .int .i64 q1.y, .int .i64 q2.x, .int .i64 q2.y, .int .i64 q3.x, .int .i64 q3.y] ∧ At w9 gb #[.int .i64 p'.x, .int .i64 p'.y, .int .i64 0, .int .i64 0] := ⟨E2.trans hx9, At.ext hx9 C0 (by simp), At.ext hx9 C1 (by simp)⟩
          have HS9 := Lib.hid hS
          clear E2 C0 C1 d0 d1 hx9 hS
          have hcs : (ve = 0 ∧ t1.2 = 0 ∧ t2.2 = 1 ∧ t3.2 = 0) ∨ ((ve == 0) = false ∧ t1.2 = ve ∧ t2.2 = ve ∧ t3.2 = ve) := by
            obtain ⟨r1, r2, r3⟩ := HR.out
            by_cases hv0 : ve = 0
            · left; rw [if_pos hv0] at r2; exact ⟨hv0, by omega, r2, by omega⟩
            · right; rw [if_neg hv0] at r2; exact ⟨by rw [beq_eq_false_iff_ne]; exact hv0, r1, r2, r3⟩
          clear HR HT1 HT2 HT3 HVE HP
          obtain ⟨t11, t12⟩ := t1
          obtain ⟨t21, t22⟩ := t2
          obtain ⟨t31, t32⟩ := t3
          simp only at hcs
          rcases hcs with ⟨rfl, rfl, rfl, rfl⟩ | ⟨r0, rfl, rfl, rfl⟩
          all_goals
            go_wp2_with fail
            go_roundw
            case rel => exact ⟨i + 1, by omega, by go_num, HS9.out⟩
            case measure => simp [intOf]; omega
          --}}
        · obtain rfl : i = 2 := by omega
          have HQ := Lib.hid (show Ext w wr ∧ At wr g #[.int .i64 q0.x, .int .i64 q0.y, .int .i64 q1.x, .int .i64 q1.y, .int .i64 q2.x, .int .i64 q2.y, .int .i64 q3.x, .int .i64 q3.y] from ⟨E2, C0⟩)
          clear E2 C0 C1
          go_upto_region 20 with (fail)
          rw [show ((2 : Nat) : Int) = 2 from rfl]
          go_loopw [19] (fun v ws => ∃ i : Nat, i ≤ 64 ∧ v = .int .i64 (i : Int) ∧ Ext w ws ∧ At ws g #[.int .i64 q0.x, .int .i64 q0.y, .int .i64 q1.x, .int .i64 q1.y, .int .i64 q2.x, .int .i64 q2.y, .int .i64 q3.x, .int .i64 q3.y]) (fun v _ => 64 - (intOf v).toNat)
          case atStart => exact ⟨0, by omega, rfl, HQ.out⟩
          case round =>
            obtain ⟨i, hi, rfl, E2, C0⟩ := hrel
            by_cases hlt3 : i < 64
            · obtain ⟨oa, hoa⟩ : ∃ o, o = i % 4 := ⟨_, rfl⟩
              obtain ⟨ob, hob⟩ : ∃ o, o = i / 4 % 4 := ⟨_, rfl⟩
              obtain ⟨od, hod⟩ : ∃ o, o = i / 16 := ⟨_, rfl⟩
              have la : oa < 4 := by omega
              have lb : ob < 4 := by omega
              have ld : od < 4 := by omega
              have ea : (i : Int) % 4 = (oa : Int) := by omega
              have eb : (i : Int) / 4 % 4 = (ob : Int) := by omega
              have ed : (i : Int) / 16 = (od : Int) := by omega
              clear hoa hob hod
              have hPP := Pts.four C0
              have da := dir_at HT.out oa la
              have db := dir_at HT.out ob lb
              have dd := dir_at HT.out od ld
              obtain ⟨c0, c0'⟩ := hPP oa (by simpa using la)
              obtain ⟨c1, c1'⟩ := hPP ob (by simpa using lb)
              obtain ⟨c2, c2'⟩ := hPP od (by simpa using ld)
              generalize ([q0, q1, q2, q3] : List Pt).getD oa ⟨0, 0⟩ = a at da c0 c0'
              generalize ([q0, q1, q2, q3] : List Pt).getD ob ⟨0, 0⟩ = b at db c1 c1'
              generalize ([q0, q1, q2, q3] : List Pt).getD od ⟨0, 0⟩ = d at dd c2 c2'
              have hlw := dirs_law da.1 db.1 dd.1 da.2 db.2 dd.2
              have hxb : -1 ≤ turnF a b ∧ turnF a b ≤ 1 := by rw [(turn_rank da.1 db.1 da.2 db.2).1]; exact cmpI_bd _ _
              obtain ⟨x, hx⟩ : ∃ x, turnF a b = x := ⟨_, rfl⟩
              obtain ⟨z, hz⟩ : ∃ x, turnF b d = x := ⟨_, rfl⟩
              obtain ⟨v, hv⟩ : ∃ x, turnF a d = x := ⟨_, rfl⟩
              obtain ⟨s1, hs1⟩ : ∃ x, sectorF a b d = x := ⟨_, rfl⟩
              obtain ⟨s2, hs2⟩ : ∃ x, sectorF b a d = x := ⟨_, rfl⟩
              obtain ⟨s3, hs3⟩ : ∃ x, sectorF b d a = x := ⟨_, rfl⟩
              have f1 : TurnF a b = (x, 0) := by rw [TurnF_ok da db, hx]
              have f2 : TurnF b a = (-x, 0) := by rw [TurnF_ok db da, (turn_law da.1 db.1 dd.1 da.2 db.2 dd.2).1, hx]
              have f3 : TurnF b d = (z, 0) := by rw [TurnF_ok db dd, hz]
              have f4 : TurnF a d = (v, 0) := by rw [TurnF_ok da dd, hv]
              have f5 : orderF a b = x := by rw [(turn_law da.1 db.1 dd.1 da.2 db.2 dd.2).2.2, hx]
              have f6 : SectorF a b d = (s1, 0) := by rw [SectorF_ok da db dd, hs1]
              have f7 : rsectorF a b d = s1 := by rw [sector_law da.1 db.1 dd.1 da.2 db.2 dd.2, hs1]
              have f8 : SectorF b a d = (s2, 0) := by rw [SectorF_ok db da dd, hs2]
              have f9 : SectorF b d a = (s3, 0) := by rw [SectorF_ok db dd da, hs3]
              rw [hx, hz, hv, hs1, hs2, hs3] at hlw
              rw [hx] at hxb
              have F1 := Lib.hid f1; have F2 := Lib.hid f2; have F3 := Lib.hid f3; have F4 := Lib.hid f4; have F5 := Lib.hid f5; have F6 := Lib.hid f6; have F7 := Lib.hid f7; have F8 := Lib.hid f8; have F9 := Lib.hid f9
              have HLW := Lib.hid hlw; have HD := Lib.hid (show Dir a ∧ Dir b ∧ Dir d from ⟨da, db, dd⟩); have HXB := Lib.hid hxb
              clear f1 f2 f3 f4 f5 f6 f7 f8 f9 hx hz hv hs1 hs2 hs3 hlw da db dd hPP hxb
              have m0 := C0.lt (by simp)
              have u0 : (0 : Int) ≤ (i : Int) := by omega
              have u1 : (i : Int) < 64 := by omega
              go_upto_region 25 with (fail)
              clear ea eb ed u0 u1 c0 c0' c1 c1' c2 c2'
              obtain ⟨ba, hba⟩ : ∃ ba, ba = wr.heap.size := ⟨_, rfl⟩
              rw [← hba]
              refine wp_gen (fun V => Ext w V ∧ At V g #[.int .i64 q0.x, .int .i64 q0.y, .int .i64 q1.x, .int .i64 q1.y, .int .i64 q2.x, .int .i64 q2.y, .int .i64 q3.x, .int .i64 q3.y] ∧ At V ba #[.int .i64 a.x, .int .i64 a.y] ∧ At V (ba + 1) #[.int .i64 b.x, .int .i64 b.y] ∧ At V (ba + 2) #[.int .i64 d.x, .int .i64 d.y]) ⟨(by repeat (first | exact Ext.refl _ | assumption | refine Ext.setCell ?_ (by first | (simp; done) | (simp; omega) | omega) _ | refine Ext.alloc ?_ _ | refine Ext.drew ?_ | refine Ext.trans ?_ (by assumption))), ((At.alloc C0 (by simp)).alloc (by simp)).alloc (by simp), by rw [hba]; exact (((Blk.at _ 25 rfl).alloc _).alloc _).at', by rw [hba]; exact ((Blk.at _ 25 (by simp)).alloc _).at', by rw [hba]; exact (Blk.at _ 25 (by simp)).at'⟩ ?_
              clear E2 C0 hba m0
              rintro V3 ⟨E2, C0, D0, D1, D2⟩
              have HD' := Lib.hid HD.out
              go_wp2_with fail
              refine (Turn_c a b _ HD.out.1.1.int HD.out.2.1.1.int).mono ?_
              rw [F1.out]
              rintro e w9 ⟨rfl, hx9⟩; obtain ⟨E2, C0, D0, D1, D2⟩ : Ext w w9 ∧ At w9 g #[.int .i64 q0.x, .int .i64 q0.y, .int .i64 q1.x, .int .i64 q1.y, .int .i64 q2.x, .int .i64 q2.y, .int .i64 q3.x, .int .i64 q3.y] ∧ At w9 ba #[.int .i64 a.x, .int .i64 a.y] ∧ At w9 (ba + 1) #[.int .i64 b.x, .int .i64 b.y] ∧ At w9 (ba + 2) #[.int .i64 d.x, .int .i64 d.y] := ⟨E2.trans hx9, At.ext hx9 C0 (by simp), At.ext hx9 D0 (by simp), At.ext hx9 D1 (by simp), At.ext hx9 D2 (by simp)⟩; clear hx9
              go_wp2_with fail
              refine (Turn_c b a _ HD.out.2.1.1.int HD.out.1.1.int).mono ?_
              rw [F2.out]
              rintro e w9 ⟨rfl, hx9⟩; obtain ⟨E2, C0, D0, D1, D2⟩ : Ext w w9 ∧ At w9 g #[.int .i64 q0.x, .int .i64 q0.y, .int .i64 q1.x, .int .i64 q1.y, .int .i64 q2.x, .int .i64 q2.y, .int .i64 q3.x, .int .i64 q3.y] ∧ At w9 ba #[.int .i64 a.x, .int .i64 a.y] ∧ At w9 (ba + 1) #[.int .i64 b.x, .int .i64 b.y] ∧ At w9 (ba + 2) #[.int .i64 d.x, .int .i64 d.y] := ⟨E2.trans hx9, At.ext hx9 C0 (by simp), At.ext hx9 D0 (by simp), At.ext hx9 D1 (by simp), At.ext hx9 D2 (by simp)⟩; clear hx9
              go_wp2_with fail
              refine (Turn_c b d _ HD.out.2.1.1.int HD.out.2.2.1.int).mono ?_
              rw [F3.out]
              rintro e w9 ⟨rfl, hx9⟩; obtain ⟨E2, C0, D0, D1, D2⟩ : Ext w w9 ∧ At w9 g #[.int .i64 q0.x, .int .i64 q0.y, .int .i64 q1.x, .int .i64 q1.y, .int .i64 q2.x, .int .i64 q2.y, .int .i64 q3.x, .int .i64 q3.y] ∧ At w9 ba #[.int .i64 a.x, .int .i64 a.y] ∧ At w9 (ba + 1) #[.int .i64 b.x, .int .i64 b.y] ∧ At w9 (ba + 2) #[.int .i64 d.x, .int .i64 d.y] := ⟨E2.trans hx9, At.ext hx9 C0 (by simp), At.ext hx9 D0 (by simp), At.ext hx9 D1 (by simp), At.ext hx9 D2 (by simp)⟩; clear hx9
              go_wp2_with fail
              refine (Turn_c a d _ HD.out.1.1.int HD.out.2.2.1.int).mono ?_
              rw [F4.out]
              rintro e w9 ⟨rfl, hx9⟩; obtain ⟨E2, C0, D0, D1, D2⟩ : Ext w w9 ∧ At w9 g #[.int .i64 q0.x, .int .i64 q0.y, .int .i64 q1.x, .int .i64 q1.y, .int .i64 q2.x, .int .i64 q2.y, .int .i64 q3.x, .int .i64 q3.y] ∧ At w9 ba #[.int .i64 a.x, .int .i64 a.y] ∧ At w9 (ba + 1) #[.int .i64 b.x, .int .i64 b.y] ∧ At w9 (ba + 2) #[.int .i64 d.x, .int .i64 d.y] := ⟨E2.trans hx9, At.ext hx9 C0 (by simp), At.ext hx9 D0 (by simp), At.ext hx9 D1 (by simp), At.ext hx9 D2 (by simp)⟩; clear hx9
              go_wp2_with fail
              refine (rTurn_c a b _ HD.out.1.1 HD.out.2.1.1 HD.out.1.2 HD.out.2.1.2).mono ?_
              rw [F5.out]
              rintro e w9 ⟨rfl, hx9⟩; obtain ⟨E2, C0, D0, D1, D2⟩ : Ext w w9 ∧ At w9 g #[.int .i64 q0.x, .int .i64 q0.y, .int .i64 q1.x, .int .i64 q1.y, .int .i64 q2.x, .int .i64 q2.y, .int .i64 q3.x, .int .i64 q3.y] ∧ At w9 ba #[.int .i64 a.x, .int .i64 a.y] ∧ At w9 (ba + 1) #[.int .i64 b.x, .int .i64 b.y] ∧ At w9 (ba + 2) #[.int .i64 d.x, .int .i64 d.y] := ⟨E2.trans hx9, At.ext hx9 C0 (by simp), At.ext hx9 D0 (by simp), At.ext hx9 D1 (by simp), At.ext hx9 D2 (by simp)⟩; clear hx9
              have hxb := HXB.out
              obtain ⟨xb1, xb2⟩ := hxb
              rcases HLW.out with ⟨rfl, rfl⟩ | ⟨rfl, k1, rfl⟩ | ⟨rfl, k1, k2, rfl, rfl⟩ | ⟨rfl, rfl⟩ | ⟨rfl, k1, k2⟩ | ⟨rfl, rfl, rfl⟩ | ⟨rfl, rfl, k2, rfl, rfl⟩ | ⟨rfl, rfl, k2⟩ | ⟨rfl, rfl, rfl⟩ | ⟨rfl, rfl, rfl, rfl, rfl⟩
              all_goals
                as_aux_lemma =>
                    clear HLW HXB F1 F2 F3 F4 F5
                    go_wp2_with fail
                    refine (Sector_c a b d _ HD.out.1.1.int HD.out.2.1.1.int HD.out.2.2.1.int).mono ?_
                    rw [F6.out]
                    rintro e w9 ⟨rfl, hx9⟩; obtain ⟨E2, C0, D0, D1, D2⟩ : Ext w w9 ∧ At w9 g #[.int .i64 q0.x, .int .i64 q0.y, .int .i64 q1.x, .int .i64 q1.y, .int .i64 q2.x, .int .i64 q2.y, .int .i64 q3.x, .int .i64 q3.y] ∧ At w9 ba #[.int .i64 a.x, .int .i64 a.y] ∧ At w9 (ba + 1) #[.int .i64 b.x, .int .i64 b.y] ∧ At w9 (ba + 2) #[.int .i64 d.x, .int .i64 d.y] := ⟨E2.trans hx9, At.ext hx9 C0 (by simp), At.ext hx9 D0 (by simp), At.ext hx9 D1 (by simp), At.ext hx9 D2 (by simp)⟩; clear hx9
                    go_wp2_with fail
                    refine (rSector_c a b d _ HD.out.1.1 HD.out.2.1.1 HD.out.2.2.1 HD.out.1.2 HD.out.2.1.2 HD.out.2.2.2).mono ?_
                    rw [F7.out]
                    rintro e w9 ⟨rfl, hx9⟩; obtain ⟨E2, C0, D0, D1, D2⟩ : Ext w w9 ∧ At w9 g #[.int .i64 q0.x, .int .i64 q0.y, .int .i64 q1.x, .int .i64 q1.y, .int .i64 q2.x, .int .i64 q2.y, .int .i64 q3.x, .int .i64 q3.y] ∧ At w9 ba #[.int .i64 a.x, .int .i64 a.y] ∧ At w9 (ba + 1) #[.int .i64 b.x, .int .i64 b.y] ∧ At w9 (ba + 2) #[.int .i64 d.x, .int .i64 d.y] := ⟨E2.trans hx9, At.ext hx9 C0 (by simp), At.ext hx9 D0 (by simp), At.ext hx9 D1 (by simp), At.ext hx9 D2 (by simp)⟩; clear hx9
                    go_wp2_with fail
                    refine (Sector_c b a d _ HD.out.2.1.1.int HD.out.1.1.int HD.out.2.2.1.int).mono ?_
                    rw [F8.out]
                    rintro e w9 ⟨rfl, hx9⟩; obtain ⟨E2, C0, D0, D1, D2⟩ : Ext w w9 ∧ At w9 g #[.int .i64 q0.x, .int .i64 q0.y, .int .i64 q1.x, .int .i64 q1.y, .int .i64 q2.x, .int .i64 q2.y, .int .i64 q3.x, .int .i64 q3.y] ∧ At w9 ba #[.int .i64 a.x, .int .i64 a.y] ∧ At w9 (ba + 1) #[.int .i64 b.x, .int .i64 b.y] ∧ At w9 (ba + 2) #[.int .i64 d.x, .int .i64 d.y] := ⟨E2.trans hx9, At.ext hx9 C0 (by simp), At.ext hx9 D0 (by simp), At.ext hx9 D1 (by simp), At.ext hx9 D2 (by simp)⟩; clear hx9
                    go_wp2_with fail
                    refine (Sector_c b d a _ HD.out.2.1.1.int HD.out.2.2.1.int HD.out.1.1.int).mono ?_
                    rw [F9.out]
                    rintro e w9 ⟨rfl, hx9⟩; obtain ⟨E2, C0, D0, D1, D2⟩ : Ext w w9 ∧ At w9 g #[.int .i64 q0.x, .int .i64 q0.y, .int .i64 q1.x, .int .i64 q1.y, .int .i64 q2.x, .int .i64 q2.y, .int .i64 q3.x, .int .i64 q3.y] ∧ At w9 ba #[.int .i64 a.x, .int .i64 a.y] ∧ At w9 (ba + 1) #[.int .i64 b.x, .int .i64 b.y] ∧ At w9 (ba + 2) #[.int .i64 d.x, .int .i64 d.y] := ⟨E2.trans hx9, At.ext hx9 C0 (by simp), At.ext hx9 D0 (by simp), At.ext hx9 D1 (by simp), At.ext hx9 D2 (by simp)⟩; clear hx9
                    have HQ9 := Lib.hid (show Ext w w9 ∧ At w9 g #[.int .i64 q0.x, .int .i64 q0.y, .int .i64 q1.x, .int .i64 q1.y, .int .i64 q2.x, .int .i64 q2.y, .int .i64 q3.x, .int .i64 q3.y] from ⟨E2, C0⟩)
                    clear E2 C0 D0 D1 D2 F6 F7 F8 F9
                    go_wp2_with fail
                    all_goals
                      go_roundw
                      case rel => exact ⟨i + 1, by omega, by go_num, HQ9.out⟩
                      case measure => simp [intOf]; omega
            · obtain rfl : i = 64 := by omega
              clear C0
              go_wp2_with fail
              refine (lives_c _).mono ?_
              rintro e w9 ⟨rfl, hx9⟩
              have E9 := E2.trans hx9
              clear hx9
              go_wp2_with fail
              go_ret
              exact ⟨rfl, E9⟩
end Go.Proofs.Ytgmedfloflplgaa
