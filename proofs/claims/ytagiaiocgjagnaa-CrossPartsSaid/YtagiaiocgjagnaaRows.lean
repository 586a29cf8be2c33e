/-
  No cell of these rows narrows 'for every input' (looked for: loops, veiled, ifaces, maps, wideKeys, modest, calm, conditions, laid).
  DERIVED. THE GIVEN ROWS OF THIS SEAT. 8 by the template 'for every input the law returns true; each argument reads behind the call as it read before'; 0 by the template 'total and deterministic' (their statements: YtagiaiocgjagnaaTotals.lean).
  GIVEN WITH THE SEED: the statements are not yours to turn. If you find one false, say at which input.
  Laid BY PROGRAM, IN A SANDBOX (cutbox-rows.mjs): the forced cells as the released guide's own fill.sh prints them over the translation ad280e6e30ea79aa… (all of the seat's roots in one cut). By AI agents, Wed Nov 11 2026. No macro, syntax, notation, axiom, sorry.
-/
import Derived.Test.YtagiaiocgjagnaaChecked
import GoSem.Claim
import GoSem.ClaimJoined
import GoSem.ClaimMapViews
import Derived.JoinedTies
import Derived.KernelRfl
namespace Go.Proofs.Ytagiaiocgjagnaa
/- THE CELL 'sum', in the pinned program and in every row, IS THE sha256 OF THE DUMP (.gsa) THAT YtagiaiocgjagnaaProg.lean LOADS. Nothing in Lean hashes anything: it is a label: what it is worth is what the hold of that sum in a sandbox is worth. -/
noncomputable def Try.pinned : Pinned := { name := "ytagiaiocgjagnaa", sum := "ad280e6e30ea79aa75a3c9fe56312fd0e8a295bed78d2deea55a4e35d78005cd", checked := Try.checked }
namespace Rows
def none {H : Type} : Left H := { results := [], args := [] }

/-- 'meresmanlaw07.CrossErrors': WHATEVER THE INPUT: true; the input reads as it did. -/
def crossErrorsSpec : ChangeSpec := { name := "crossErrors", fn := fun _ => fun
  | [d1, d2, d3, d4, d5] => { results := [.lit (.bool true)], args := [d1, d2, d3, d4, d5] }
  | _ => none }
def crossErrorsRow : OpenClaim := { program := "ytagiaiocgjagnaa", sum := "ad280e6e30ea79aa75a3c9fe56312fd0e8a295bed78d2deea55a4e35d78005cd", func := "meresman/meresmanlaw07.CrossErrors", spec := "crossErrors", inPlace := ["slices.overlaps[meresman/point.P]"], unfollowed := true, recurses := true, apart := false }
def CrossErrorsSaid : Prop := crossErrorsRow.holds Try.pinned (OpenSpec.ofChange crossErrorsSpec)

/-- ITS FALSE NEIGHBOUR: 'it returns false'. Refute it at one input. -/
def crossErrorsWrong : ChangeSpec := { name := "crossErrors", fn := fun _ => fun
  | [d1, d2, d3, d4, d5] => { results := [.lit (.bool false)], args := [d1, d2, d3, d4, d5] }
  | _ => none }
def CrossErrorsWrongFalsely : Prop := crossErrorsRow.holds Try.pinned (OpenSpec.ofChange crossErrorsWrong)

/-- 'meresmanlaw07.CrossBetween': WHATEVER THE INPUT: true; the input reads as it did. -/
def crossBetweenSpec : ChangeSpec := { name := "crossBetween", fn := fun _ => fun
  | [d1, d2, d3] => { results := [.lit (.bool true)], args := [d1, d2, d3] }
  | _ => none }
def crossBetweenRow : OpenClaim := { program := "ytagiaiocgjagnaa", sum := "ad280e6e30ea79aa75a3c9fe56312fd0e8a295bed78d2deea55a4e35d78005cd", func := "meresman/meresmanlaw07.CrossBetween", spec := "crossBetween", inPlace := ["slices.overlaps[meresman/point.P]"], unfollowed := true, recurses := true, apart := false }
def CrossBetweenSaid : Prop := crossBetweenRow.holds Try.pinned (OpenSpec.ofChange crossBetweenSpec)

/-- ITS FALSE NEIGHBOUR: 'it returns false'. Refute it at one input. -/
def crossBetweenWrong : ChangeSpec := { name := "crossBetween", fn := fun _ => fun
  | [d1, d2, d3] => { results := [.lit (.bool false)], args := [d1, d2, d3] }
  | _ => none }
def CrossBetweenWrongFalsely : Prop := crossBetweenRow.holds Try.pinned (OpenSpec.ofChange crossBetweenWrong)

/-- 'meresmanlaw07.CrossTurned': WHATEVER THE INPUT: true; the input reads as it did. -/
def crossTurnedSpec : ChangeSpec := { name := "crossTurned", fn := fun _ => fun
  | [d1, d2, d3] => { results := [.lit (.bool true)], args := [d1, d2, d3] }
  | _ => none }
def crossTurnedRow : OpenClaim := { program := "ytagiaiocgjagnaa", sum := "ad280e6e30ea79aa75a3c9fe56312fd0e8a295bed78d2deea55a4e35d78005cd", func := "meresman/meresmanlaw07.CrossTurned", spec := "crossTurned", unfollowed := true, recurses := true, apart := false }
def CrossTurnedSaid : Prop := crossTurnedRow.holds Try.pinned (OpenSpec.ofChange crossTurnedSpec)

/-- ITS FALSE NEIGHBOUR: 'it returns false'. Refute it at one input. -/
def crossTurnedWrong : ChangeSpec := { name := "crossTurned", fn := fun _ => fun
  | [d1, d2, d3] => { results := [.lit (.bool false)], args := [d1, d2, d3] }
  | _ => none }
def CrossTurnedWrongFalsely : Prop := crossTurnedRow.holds Try.pinned (OpenSpec.ofChange crossTurnedWrong)

/-- 'meresmanlaw07.CrossScaled': WHATEVER THE INPUT: true; the input reads as it did. -/
def crossScaledSpec : ChangeSpec := { name := "crossScaled", fn := fun _ => fun
  | [d1, d2, d3, d4, d5, d6] => { results := [.lit (.bool true)], args := [d1, d2, d3, d4, d5, d6] }
  | _ => none }
def crossScaledRow : OpenClaim := { program := "ytagiaiocgjagnaa", sum := "ad280e6e30ea79aa75a3c9fe56312fd0e8a295bed78d2deea55a4e35d78005cd", func := "meresman/meresmanlaw07.CrossScaled", spec := "crossScaled", unfollowed := true, recurses := true, apart := false }
def CrossScaledSaid : Prop := crossScaledRow.holds Try.pinned (OpenSpec.ofChange crossScaledSpec)

/-- ITS FALSE NEIGHBOUR: 'it returns false'. Refute it at one input. -/
def crossScaledWrong : ChangeSpec := { name := "crossScaled", fn := fun _ => fun
  | [d1, d2, d3, d4, d5, d6] => { results := [.lit (.bool false)], args := [d1, d2, d3, d4, d5, d6] }
  | _ => none }
def CrossScaledWrongFalsely : Prop := crossScaledRow.holds Try.pinned (OpenSpec.ofChange crossScaledWrong)

/-- 'meresmanlaw07.CrossMeets': WHATEVER THE INPUT: true; the input reads as it did. -/
def crossMeetsSpec : ChangeSpec := { name := "crossMeets", fn := fun _ => fun
  | [d1, d2, d3] => { results := [.lit (.bool true)], args := [d1, d2, d3] }
  | _ => none }
def crossMeetsRow : OpenClaim := { program := "ytagiaiocgjagnaa", sum := "ad280e6e30ea79aa75a3c9fe56312fd0e8a295bed78d2deea55a4e35d78005cd", func := "meresman/meresmanlaw07.CrossMeets", spec := "crossMeets", unfollowed := true, recurses := true, apart := false }
def CrossMeetsSaid : Prop := crossMeetsRow.holds Try.pinned (OpenSpec.ofChange crossMeetsSpec)

/-- ITS FALSE NEIGHBOUR: 'it returns false'. Refute it at one input. -/
def crossMeetsWrong : ChangeSpec := { name := "crossMeets", fn := fun _ => fun
  | [d1, d2, d3] => { results := [.lit (.bool false)], args := [d1, d2, d3] }
  | _ => none }
def CrossMeetsWrongFalsely : Prop := crossMeetsRow.holds Try.pinned (OpenSpec.ofChange crossMeetsWrong)

/-- 'meresmanlaw07.CrossOn': WHATEVER THE INPUT: true; the input reads as it did. -/
def crossOnSpec : ChangeSpec := { name := "crossOn", fn := fun _ => fun
  | [d1, d2, d3, d4] => { results := [.lit (.bool true)], args := [d1, d2, d3, d4] }
  | _ => none }
def crossOnRow : OpenClaim := { program := "ytagiaiocgjagnaa", sum := "ad280e6e30ea79aa75a3c9fe56312fd0e8a295bed78d2deea55a4e35d78005cd", func := "meresman/meresmanlaw07.CrossOn", spec := "crossOn", unfollowed := true, recurses := true, apart := false }
def CrossOnSaid : Prop := crossOnRow.holds Try.pinned (OpenSpec.ofChange crossOnSpec)

/-- ITS FALSE NEIGHBOUR: 'it returns false'. Refute it at one input. -/
def crossOnWrong : ChangeSpec := { name := "crossOn", fn := fun _ => fun
  | [d1, d2, d3, d4] => { results := [.lit (.bool false)], args := [d1, d2, d3, d4] }
  | _ => none }
def CrossOnWrongFalsely : Prop := crossOnRow.holds Try.pinned (OpenSpec.ofChange crossOnWrong)

/-- 'meresmanlaw07.CrossParts': WHATEVER THE INPUT: true; the input reads as it did. -/
def crossPartsSpec : ChangeSpec := { name := "crossParts", fn := fun _ => fun
  | [d1, d2, d3, d4] => { results := [.lit (.bool true)], args := [d1, d2, d3, d4] }
  | _ => none }
def crossPartsRow : OpenClaim := { program := "ytagiaiocgjagnaa", sum := "ad280e6e30ea79aa75a3c9fe56312fd0e8a295bed78d2deea55a4e35d78005cd", func := "meresman/meresmanlaw07.CrossParts", spec := "crossParts", inPlace := ["slices.overlaps[meresman/point.P]"], unfollowed := true, recurses := true, apart := false }
def CrossPartsSaid : Prop := crossPartsRow.holds Try.pinned (OpenSpec.ofChange crossPartsSpec)

/-- ITS FALSE NEIGHBOUR: 'it returns false'. Refute it at one input. -/
def crossPartsWrong : ChangeSpec := { name := "crossParts", fn := fun _ => fun
  | [d1, d2, d3, d4] => { results := [.lit (.bool false)], args := [d1, d2, d3, d4] }
  | _ => none }
def CrossPartsWrongFalsely : Prop := crossPartsRow.holds Try.pinned (OpenSpec.ofChange crossPartsWrong)

/-- 'meresmanlaw07.CrossCommon': WHATEVER THE INPUT: true; the input reads as it did. -/
def crossCommonSpec : ChangeSpec := { name := "crossCommon", fn := fun _ => fun
  | [d1, d2, d3] => { results := [.lit (.bool true)], args := [d1, d2, d3] }
  | _ => none }
def crossCommonRow : OpenClaim := { program := "ytagiaiocgjagnaa", sum := "ad280e6e30ea79aa75a3c9fe56312fd0e8a295bed78d2deea55a4e35d78005cd", func := "meresman/meresmanlaw07.CrossCommon", spec := "crossCommon", inPlace := ["slices.overlaps[meresman/point.P]"], unfollowed := true, recurses := true, apart := false }
def CrossCommonSaid : Prop := crossCommonRow.holds Try.pinned (OpenSpec.ofChange crossCommonSpec)

/-- ITS FALSE NEIGHBOUR: 'it returns false'. Refute it at one input. -/
def crossCommonWrong : ChangeSpec := { name := "crossCommon", fn := fun _ => fun
  | [d1, d2, d3] => { results := [.lit (.bool false)], args := [d1, d2, d3] }
  | _ => none }
def CrossCommonWrongFalsely : Prop := crossCommonRow.holds Try.pinned (OpenSpec.ofChange crossCommonWrong)

/- THE SECOND FORM. 'bulk': how many values and letters a reading holds, each counted each time it is reached (what is shared counts as often as it is met; a slice's spare places count too). A statement '..UptoSaid' is the law's where the arguments, and the package variables that the reading takes, are together of bulk at most 1048576: NARROWER than '..Said'. Prove '..Said' where nothing that the law and all that it calls make is longer than what came in: it says more and counts as full. Else prove '..UptoSaid'. A law counts once. -/
mutual
def uptoBulk {H : Type} : DataW H → Nat
  | .lit (.string bytes) => bytes.length + 1
  | .lit _ => 1
  | .nil => 1
  | .ptr d => uptoBulk d + 1
  | .slice elems spare => uptoBulkAll elems + uptoBulkAll spare + 1
  | .agg parts => uptoBulkAll parts + 1
  | .iface _ d => uptoBulk d + 1
  | .map entries => uptoBulkEntries entries + 1
  | .held _ => 1
def uptoBulkAll {H : Type} : List (DataW H) → Nat
  | [] => 0
  | d :: r => uptoBulk d + uptoBulkAll r
def uptoBulkEntries {H : Type} : List (Lit × DataW H) → Nat
  | [] => 0
  | x :: r => uptoBulkEntry x + uptoBulkEntries r
def uptoBulkEntry {H : Type} : Lit × DataW H → Nat
  | (.string bytes, d) => bytes.length + uptoBulk d + 1
  | (_, d) => uptoBulk d + 1
 end
def uptoSmall : (H : Type) → List (DataW H) → Bool := fun _ ds => decide (uptoBulkAll ds ≤ 1048576)
def OpenSpec.upto (s : _root_.Go.ChangeSpec) : _root_.Go.OpenSpec := { _root_.Go.OpenSpec.ofChange s with cond := some uptoSmall }

/-- 'meresmanlaw07.CrossErrors', WHERE WHAT IT READS IS OF BULK AT MOST 1048576: true; the input reads as it did. -/
def crossErrorsUptoRow : OpenClaim := { program := "ytagiaiocgjagnaa", sum := "ad280e6e30ea79aa75a3c9fe56312fd0e8a295bed78d2deea55a4e35d78005cd", func := "meresman/meresmanlaw07.CrossErrors", spec := "crossErrors", inPlace := ["slices.overlaps[meresman/point.P]"], unfollowed := true, recurses := true, apart := false, narrowed := true }
def CrossErrorsUptoSaid : Prop := crossErrorsUptoRow.holds Try.pinned (OpenSpec.upto crossErrorsSpec)

/-- 'meresmanlaw07.CrossBetween', WHERE WHAT IT READS IS OF BULK AT MOST 1048576: true; the input reads as it did. -/
def crossBetweenUptoRow : OpenClaim := { program := "ytagiaiocgjagnaa", sum := "ad280e6e30ea79aa75a3c9fe56312fd0e8a295bed78d2deea55a4e35d78005cd", func := "meresman/meresmanlaw07.CrossBetween", spec := "crossBetween", inPlace := ["slices.overlaps[meresman/point.P]"], unfollowed := true, recurses := true, apart := false, narrowed := true }
def CrossBetweenUptoSaid : Prop := crossBetweenUptoRow.holds Try.pinned (OpenSpec.upto crossBetweenSpec)

/-- 'meresmanlaw07.CrossTurned', WHERE WHAT IT READS IS OF BULK AT MOST 1048576: true; the input reads as it did. -/
def crossTurnedUptoRow : OpenClaim := { program := "ytagiaiocgjagnaa", sum := "ad280e6e30ea79aa75a3c9fe56312fd0e8a295bed78d2deea55a4e35d78005cd", func := "meresman/meresmanlaw07.CrossTurned", spec := "crossTurned", unfollowed := true, recurses := true, apart := false, narrowed := true }
def CrossTurnedUptoSaid : Prop := crossTurnedUptoRow.holds Try.pinned (OpenSpec.upto crossTurnedSpec)

/-- 'meresmanlaw07.CrossScaled', WHERE WHAT IT READS IS OF BULK AT MOST 1048576: true; the input reads as it did. -/
def crossScaledUptoRow : OpenClaim := { program := "ytagiaiocgjagnaa", sum := "ad280e6e30ea79aa75a3c9fe56312fd0e8a295bed78d2deea55a4e35d78005cd", func := "meresman/meresmanlaw07.CrossScaled", spec := "crossScaled", unfollowed := true, recurses := true, apart := false, narrowed := true }
def CrossScaledUptoSaid : Prop := crossScaledUptoRow.holds Try.pinned (OpenSpec.upto crossScaledSpec)

/-- 'meresmanlaw07.CrossMeets', WHERE WHAT IT READS IS OF BULK AT MOST 1048576: true; the input reads as it did. -/
def crossMeetsUptoRow : OpenClaim := { program := "ytagiaiocgjagnaa", sum := "ad280e6e30ea79aa75a3c9fe56312fd0e8a295bed78d2deea55a4e35d78005cd", func := "meresman/meresmanlaw07.CrossMeets", spec := "crossMeets", unfollowed := true, recurses := true, apart := false, narrowed := true }
def CrossMeetsUptoSaid : Prop := crossMeetsUptoRow.holds Try.pinned (OpenSpec.upto crossMeetsSpec)

/-- 'meresmanlaw07.CrossOn', WHERE WHAT IT READS IS OF BULK AT MOST 1048576: true; the input reads as it did. -/
def crossOnUptoRow : OpenClaim := { program := "ytagiaiocgjagnaa", sum := "ad280e6e30ea79aa75a3c9fe56312fd0e8a295bed78d2deea55a4e35d78005cd", func := "meresman/meresmanlaw07.CrossOn", spec := "crossOn", unfollowed := true, recurses := true, apart := false, narrowed := true }
def CrossOnUptoSaid : Prop := crossOnUptoRow.holds Try.pinned (OpenSpec.upto crossOnSpec)

/-- 'meresmanlaw07.CrossParts', WHERE WHAT IT READS IS OF BULK AT MOST 1048576: true; the input reads as it did. -/
def crossPartsUptoRow : OpenClaim := { program := "ytagiaiocgjagnaa", sum := "ad280e6e30ea79aa75a3c9fe56312fd0e8a295bed78d2deea55a4e35d78005cd", func := "meresman/meresmanlaw07.CrossParts", spec := "crossParts", inPlace := ["slices.overlaps[meresman/point.P]"], unfollowed := true, recurses := true, apart := false, narrowed := true }
def CrossPartsUptoSaid : Prop := crossPartsUptoRow.holds Try.pinned (OpenSpec.upto crossPartsSpec)

/-- 'meresmanlaw07.CrossCommon', WHERE WHAT IT READS IS OF BULK AT MOST 1048576: true; the input reads as it did. -/
def crossCommonUptoRow : OpenClaim := { program := "ytagiaiocgjagnaa", sum := "ad280e6e30ea79aa75a3c9fe56312fd0e8a295bed78d2deea55a4e35d78005cd", func := "meresman/meresmanlaw07.CrossCommon", spec := "crossCommon", inPlace := ["slices.overlaps[meresman/point.P]"], unfollowed := true, recurses := true, apart := false, narrowed := true }
def CrossCommonUptoSaid : Prop := crossCommonUptoRow.holds Try.pinned (OpenSpec.upto crossCommonSpec)

end Rows
end Go.Proofs.Ytagiaiocgjagnaa
