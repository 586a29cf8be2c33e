/-
  No cell of these rows narrows 'for every input' (looked for: loops, veiled, ifaces, maps, wideKeys, modest, calm, conditions, laid).
  DERIVED. THE GIVEN ROWS OF THIS SEAT. 7 by the template 'for every input the law returns true; each argument reads behind the call as it read before'; 0 by the template 'total and deterministic' (their statements: YtgmedfloflplgaaTotals.lean).
  GIVEN WITH THE SEED: the statements are not yours to turn. If you find one false, say at which input.
  Laid BY PROGRAM, IN A SANDBOX (cutbox-rows.mjs): the forced cells as the released guide's own fill.sh prints them over the translation a24b6b1c7edac2f4… (all of the seat's roots in one cut). By AI agents, Wed Nov 11 2026. No macro, syntax, notation, axiom, sorry.
-/
import Derived.Test.YtgmedfloflplgaaChecked
import GoSem.Claim
import GoSem.ClaimJoined
import GoSem.ClaimMapViews
import Derived.JoinedTies
import Derived.KernelRfl
namespace Go.Proofs.Ytgmedfloflplgaa
/- THE CELL 'sum', in the pinned program and in every row, IS THE sha256 OF THE DUMP (.gsa) THAT YtgmedfloflplgaaProg.lean LOADS. Nothing in Lean hashes anything: it is a label: what it is worth is what the hold of that sum in a sandbox is worth. -/
noncomputable def Try.pinned : Pinned := { name := "ytgmedfloflplgaa", sum := "a24b6b1c7edac2f45aa36f1af297911a7acf3f5cb1f29868e5b92df8b356b426", checked := Try.checked }
namespace Rows
def none {H : Type} : Left H := { results := [], args := [] }

/-- 'meresmanlaw06.ExactCircles': WHATEVER THE INPUT: true; the input reads as it did. -/
def exactCirclesSpec : ChangeSpec := { name := "exactCircles", fn := fun _ => fun
  | [d1, d2, d3, d4] => { results := [.lit (.bool true)], args := [d1, d2, d3, d4] }
  | _ => none }
def exactCirclesRow : OpenClaim := { program := "ytgmedfloflplgaa", sum := "a24b6b1c7edac2f45aa36f1af297911a7acf3f5cb1f29868e5b92df8b356b426", func := "meresman/meresmanlaw06.ExactCircles", spec := "exactCircles", unfollowed := true, recurses := true, apart := false }
def ExactCirclesSaid : Prop := exactCirclesRow.holds Try.pinned (OpenSpec.ofChange exactCirclesSpec)

/-- ITS FALSE NEIGHBOUR: 'it returns false'. Refute it at one input. -/
def exactCirclesWrong : ChangeSpec := { name := "exactCircles", fn := fun _ => fun
  | [d1, d2, d3, d4] => { results := [.lit (.bool false)], args := [d1, d2, d3, d4] }
  | _ => none }
def ExactCirclesWrongFalsely : Prop := exactCirclesRow.holds Try.pinned (OpenSpec.ofChange exactCirclesWrong)

/-- 'meresmanlaw06.ExactTurns': WHATEVER THE INPUT: true; the input reads as it did. -/
def exactTurnsSpec : ChangeSpec := { name := "exactTurns", fn := fun _ => fun
  | [d1, d2, d3] => { results := [.lit (.bool true)], args := [d1, d2, d3] }
  | _ => none }
def exactTurnsRow : OpenClaim := { program := "ytgmedfloflplgaa", sum := "a24b6b1c7edac2f45aa36f1af297911a7acf3f5cb1f29868e5b92df8b356b426", func := "meresman/meresmanlaw06.ExactTurns", spec := "exactTurns", unfollowed := true, recurses := true, apart := false }
def ExactTurnsSaid : Prop := exactTurnsRow.holds Try.pinned (OpenSpec.ofChange exactTurnsSpec)

/-- ITS FALSE NEIGHBOUR: 'it returns false'. Refute it at one input. -/
def exactTurnsWrong : ChangeSpec := { name := "exactTurns", fn := fun _ => fun
  | [d1, d2, d3] => { results := [.lit (.bool false)], args := [d1, d2, d3] }
  | _ => none }
def ExactTurnsWrongFalsely : Prop := exactTurnsRow.holds Try.pinned (OpenSpec.ofChange exactTurnsWrong)

/-- 'meresmanlaw06.ExactScaled': WHATEVER THE INPUT: true; the input reads as it did. -/
def exactScaledSpec : ChangeSpec := { name := "exactScaled", fn := fun _ => fun
  | [d1, d2, d3, d4] => { results := [.lit (.bool true)], args := [d1, d2, d3, d4] }
  | _ => none }
def exactScaledRow : OpenClaim := { program := "ytgmedfloflplgaa", sum := "a24b6b1c7edac2f45aa36f1af297911a7acf3f5cb1f29868e5b92df8b356b426", func := "meresman/meresmanlaw06.ExactScaled", spec := "exactScaled", unfollowed := true, recurses := true, apart := false }
def ExactScaledSaid : Prop := exactScaledRow.holds Try.pinned (OpenSpec.ofChange exactScaledSpec)

/-- ITS FALSE NEIGHBOUR: 'it returns false'. Refute it at one input. -/
def exactScaledWrong : ChangeSpec := { name := "exactScaled", fn := fun _ => fun
  | [d1, d2, d3, d4] => { results := [.lit (.bool false)], args := [d1, d2, d3, d4] }
  | _ => none }
def ExactScaledWrongFalsely : Prop := exactScaledRow.holds Try.pinned (OpenSpec.ofChange exactScaledWrong)

/-- 'meresmanlaw06.ExactAreas': WHATEVER THE INPUT: true; the input reads as it did. -/
def exactAreasSpec : ChangeSpec := { name := "exactAreas", fn := fun _ => fun
  | [d1, d2, d3] => { results := [.lit (.bool true)], args := [d1, d2, d3] }
  | _ => none }
def exactAreasRow : OpenClaim := { program := "ytgmedfloflplgaa", sum := "a24b6b1c7edac2f45aa36f1af297911a7acf3f5cb1f29868e5b92df8b356b426", func := "meresman/meresmanlaw06.ExactAreas", spec := "exactAreas", unfollowed := true, recurses := true, apart := false }
def ExactAreasSaid : Prop := exactAreasRow.holds Try.pinned (OpenSpec.ofChange exactAreasSpec)

/-- ITS FALSE NEIGHBOUR: 'it returns false'. Refute it at one input. -/
def exactAreasWrong : ChangeSpec := { name := "exactAreas", fn := fun _ => fun
  | [d1, d2, d3] => { results := [.lit (.bool false)], args := [d1, d2, d3] }
  | _ => none }
def ExactAreasWrongFalsely : Prop := exactAreasRow.holds Try.pinned (OpenSpec.ofChange exactAreasWrong)

/-- 'meresmanlaw06.ExactBetween': WHATEVER THE INPUT: true; the input reads as it did. -/
def exactBetweenSpec : ChangeSpec := { name := "exactBetween", fn := fun _ => fun
  | [d] => { results := [.lit (.bool true)], args := [d] }
  | _ => none }
def exactBetweenRow : OpenClaim := { program := "ytgmedfloflplgaa", sum := "a24b6b1c7edac2f45aa36f1af297911a7acf3f5cb1f29868e5b92df8b356b426", func := "meresman/meresmanlaw06.ExactBetween", spec := "exactBetween", unfollowed := true, recurses := true, apart := false }
def ExactBetweenSaid : Prop := exactBetweenRow.holds Try.pinned (OpenSpec.ofChange exactBetweenSpec)

/-- ITS FALSE NEIGHBOUR: 'it returns false'. Refute it at one input. -/
def exactBetweenWrong : ChangeSpec := { name := "exactBetween", fn := fun _ => fun
  | [d] => { results := [.lit (.bool false)], args := [d] }
  | _ => none }
def ExactBetweenWrongFalsely : Prop := exactBetweenRow.holds Try.pinned (OpenSpec.ofChange exactBetweenWrong)

/-- 'meresmanlaw06.ExactSides': WHATEVER THE INPUT: true; the input reads as it did. -/
def exactSidesSpec : ChangeSpec := { name := "exactSides", fn := fun _ => fun
  | [d] => { results := [.lit (.bool true)], args := [d] }
  | _ => none }
def exactSidesRow : OpenClaim := { program := "ytgmedfloflplgaa", sum := "a24b6b1c7edac2f45aa36f1af297911a7acf3f5cb1f29868e5b92df8b356b426", func := "meresman/meresmanlaw06.ExactSides", spec := "exactSides", unfollowed := true, recurses := true, apart := false }
def ExactSidesSaid : Prop := exactSidesRow.holds Try.pinned (OpenSpec.ofChange exactSidesSpec)

/-- ITS FALSE NEIGHBOUR: 'it returns false'. Refute it at one input. -/
def exactSidesWrong : ChangeSpec := { name := "exactSides", fn := fun _ => fun
  | [d] => { results := [.lit (.bool false)], args := [d] }
  | _ => none }
def ExactSidesWrongFalsely : Prop := exactSidesRow.holds Try.pinned (OpenSpec.ofChange exactSidesWrong)

/-- 'meresmanlaw06.ExactTriangles': WHATEVER THE INPUT: true; the input reads as it did. -/
def exactTrianglesSpec : ChangeSpec := { name := "exactTriangles", fn := fun _ => fun
  | [d] => { results := [.lit (.bool true)], args := [d] }
  | _ => none }
def exactTrianglesRow : OpenClaim := { program := "ytgmedfloflplgaa", sum := "a24b6b1c7edac2f45aa36f1af297911a7acf3f5cb1f29868e5b92df8b356b426", func := "meresman/meresmanlaw06.ExactTriangles", spec := "exactTriangles", unfollowed := true, recurses := true, apart := false }
def ExactTrianglesSaid : Prop := exactTrianglesRow.holds Try.pinned (OpenSpec.ofChange exactTrianglesSpec)

/-- ITS FALSE NEIGHBOUR: 'it returns false'. Refute it at one input. -/
def exactTrianglesWrong : ChangeSpec := { name := "exactTriangles", fn := fun _ => fun
  | [d] => { results := [.lit (.bool false)], args := [d] }
  | _ => none }
def ExactTrianglesWrongFalsely : Prop := exactTrianglesRow.holds Try.pinned (OpenSpec.ofChange exactTrianglesWrong)

/- THE SECOND FORM. 'bulk': how many values and letters a reading holds, each counted each time it is reached (what is shared counts as often as it is met; a slice's spare places count too). A statement '..UptoSaid' is the law's where the arguments, and the package variables that the reading takes, are together of bulk at most 1048576: NARROWER than '..Said'. Prove '..Said' where nothing that the law and all that it calls make is longer than what came in: it says more and counts as full. Else prove '..UptoSaid'. A law counts once. -/
mutual
def uptoBulk {H : Type} : DataW H → Nat
  | .lit (.string bytes) => bytes.length + 1
  | .lit _ => 1
  | .nil => 1
  | .ptr d => uptoBulk d + 1
  | .slice elems spare => uptoBulkAll elems + uptoBulkAll spare + 1
  | .agg parts => uptoBulkAll parts + 1
  | .iface _ d => uptoBulk d + 1
  | .map entries => uptoBulkEntries entries + 1
  | .held _ => 1
def uptoBulkAll {H : Type} : List (DataW H) → Nat
  | [] => 0
  | d :: r => uptoBulk d + uptoBulkAll r
def uptoBulkEntries {H : Type} : List (Lit × DataW H) → Nat
  | [] => 0
  | x :: r => uptoBulkEntry x + uptoBulkEntries r
def uptoBulkEntry {H : Type} : Lit × DataW H → Nat
  | (.string bytes, d) => bytes.length + uptoBulk d + 1
  | (_, d) => uptoBulk d + 1
 end
def uptoSmall : (H : Type) → List (DataW H) → Bool := fun _ ds => decide (uptoBulkAll ds ≤ 1048576)
def OpenSpec.upto (s : _root_.Go.ChangeSpec) : _root_.Go.OpenSpec := { _root_.Go.OpenSpec.ofChange s with cond := some uptoSmall }

/-- 'meresmanlaw06.ExactCircles', WHERE WHAT IT READS IS OF BULK AT MOST 1048576: true; the input reads as it did. -/
def exactCirclesUptoRow : OpenClaim := { program := "ytgmedfloflplgaa", sum := "a24b6b1c7edac2f45aa36f1af297911a7acf3f5cb1f29868e5b92df8b356b426", func := "meresman/meresmanlaw06.ExactCircles", spec := "exactCircles", unfollowed := true, recurses := true, apart := false, narrowed := true }
def ExactCirclesUptoSaid : Prop := exactCirclesUptoRow.holds Try.pinned (OpenSpec.upto exactCirclesSpec)

/-- 'meresmanlaw06.ExactTurns', WHERE WHAT IT READS IS OF BULK AT MOST 1048576: true; the input reads as it did. -/
def exactTurnsUptoRow : OpenClaim := { program := "ytgmedfloflplgaa", sum := "a24b6b1c7edac2f45aa36f1af297911a7acf3f5cb1f29868e5b92df8b356b426", func := "meresman/meresmanlaw06.ExactTurns", spec := "exactTurns", unfollowed := true, recurses := true, apart := false, narrowed := true }
def ExactTurnsUptoSaid : Prop := exactTurnsUptoRow.holds Try.pinned (OpenSpec.upto exactTurnsSpec)

/-- 'meresmanlaw06.ExactScaled', WHERE WHAT IT READS IS OF BULK AT MOST 1048576: true; the input reads as it did. -/
def exactScaledUptoRow : OpenClaim := { program := "ytgmedfloflplgaa", sum := "a24b6b1c7edac2f45aa36f1af297911a7acf3f5cb1f29868e5b92df8b356b426", func := "meresman/meresmanlaw06.ExactScaled", spec := "exactScaled", unfollowed := true, recurses := true, apart := false, narrowed := true }
def ExactScaledUptoSaid : Prop := exactScaledUptoRow.holds Try.pinned (OpenSpec.upto exactScaledSpec)

/-- 'meresmanlaw06.ExactAreas', WHERE WHAT IT READS IS OF BULK AT MOST 1048576: true; the input reads as it did. -/
def exactAreasUptoRow : OpenClaim := { program := "ytgmedfloflplgaa", sum := "a24b6b1c7edac2f45aa36f1af297911a7acf3f5cb1f29868e5b92df8b356b426", func := "meresman/meresmanlaw06.ExactAreas", spec := "exactAreas", unfollowed := true, recurses := true, apart := false, narrowed := true }
def ExactAreasUptoSaid : Prop := exactAreasUptoRow.holds Try.pinned (OpenSpec.upto exactAreasSpec)

/-- 'meresmanlaw06.ExactBetween', WHERE WHAT IT READS IS OF BULK AT MOST 1048576: true; the input reads as it did. -/
def exactBetweenUptoRow : OpenClaim := { program := "ytgmedfloflplgaa", sum := "a24b6b1c7edac2f45aa36f1af297911a7acf3f5cb1f29868e5b92df8b356b426", func := "meresman/meresmanlaw06.ExactBetween", spec := "exactBetween", unfollowed := true, recurses := true, apart := false, narrowed := true }
def ExactBetweenUptoSaid : Prop := exactBetweenUptoRow.holds Try.pinned (OpenSpec.upto exactBetweenSpec)

/-- 'meresmanlaw06.ExactSides', WHERE WHAT IT READS IS OF BULK AT MOST 1048576: true; the input reads as it did. -/
def exactSidesUptoRow : OpenClaim := { program := "ytgmedfloflplgaa", sum := "a24b6b1c7edac2f45aa36f1af297911a7acf3f5cb1f29868e5b92df8b356b426", func := "meresman/meresmanlaw06.ExactSides", spec := "exactSides", unfollowed := true, recurses := true, apart := false, narrowed := true }
def ExactSidesUptoSaid : Prop := exactSidesUptoRow.holds Try.pinned (OpenSpec.upto exactSidesSpec)

/-- 'meresmanlaw06.ExactTriangles', WHERE WHAT IT READS IS OF BULK AT MOST 1048576: true; the input reads as it did. -/
def exactTrianglesUptoRow : OpenClaim := { program := "ytgmedfloflplgaa", sum := "a24b6b1c7edac2f45aa36f1af297911a7acf3f5cb1f29868e5b92df8b356b426", func := "meresman/meresmanlaw06.ExactTriangles", spec := "exactTriangles", unfollowed := true, recurses := true, apart := false, narrowed := true }
def ExactTrianglesUptoSaid : Prop := exactTrianglesUptoRow.holds Try.pinned (OpenSpec.upto exactTrianglesSpec)

end Rows
end Go.Proofs.Ytgmedfloflplgaa
