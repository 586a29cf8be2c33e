/-
  No cell of these rows narrows 'for every input' (looked for: loops, veiled, ifaces, maps, wideKeys, modest, calm, conditions, laid).
  DERIVED. THE GIVEN ROWS OF THIS SEAT. 7 by the template 'for every input the law returns true; each argument reads behind the call as it read before'; 0 by the template 'total and deterministic' (their statements: YtlnmgcmpbbklhaaTotals.lean).
  GIVEN WITH THE SEED: the statements are not yours to turn. If you find one false, say at which input.
  Laid BY PROGRAM, IN A SANDBOX (cutbox-rows.mjs): the forced cells as the released guide's own fill.sh prints them over the translation 43b3cb8f79317126… (all of the seat's roots in one cut). By AI agents, Wed Nov 11 2026. No macro, syntax, notation, axiom, sorry.
-/
import Derived.Test.YtlnmgcmpbbklhaaChecked
import GoSem.Claim
import GoSem.ClaimJoined
import GoSem.ClaimMapViews
import Derived.JoinedTies
import Derived.KernelRfl
namespace Go.Proofs.Ytlnmgcmpbbklhaa
/- THE CELL 'sum', in the pinned program and in every row, IS THE sha256 OF THE DUMP (.gsa) THAT YtlnmgcmpbbklhaaProg.lean LOADS. Nothing in Lean hashes anything: it is a label: what it is worth is what the hold of that sum in a sandbox is worth. -/
noncomputable def Try.pinned : Pinned := { name := "ytlnmgcmpbbklhaa", sum := "43b3cb8f793171262596142bd41e307de3d8882e04850a7ae002af3115929c96", checked := Try.checked }
namespace Rows
def none {H : Type} : Left H := { results := [], args := [] }

/-- 'meresmanlaw27.ShareDivides': WHATEVER THE INPUT: true; the input reads as it did. -/
def shareDividesSpec : ChangeSpec := { name := "shareDivides", fn := fun _ => fun
  | [d1, d2, d3, d4] => { results := [.lit (.bool true)], args := [d1, d2, d3, d4] }
  | _ => none }
def shareDividesRow : OpenClaim := { program := "ytlnmgcmpbbklhaa", sum := "43b3cb8f793171262596142bd41e307de3d8882e04850a7ae002af3115929c96", func := "meresman/meresmanlaw27.ShareDivides", spec := "shareDivides", unfollowed := true, recurses := true, apart := false }
def ShareDividesSaid : Prop := shareDividesRow.holds Try.pinned (OpenSpec.ofChange shareDividesSpec)

/-- ITS FALSE NEIGHBOUR: 'it returns false'. Refute it at one input. -/
def shareDividesWrong : ChangeSpec := { name := "shareDivides", fn := fun _ => fun
  | [d1, d2, d3, d4] => { results := [.lit (.bool false)], args := [d1, d2, d3, d4] }
  | _ => none }
def ShareDividesWrongFalsely : Prop := shareDividesRow.holds Try.pinned (OpenSpec.ofChange shareDividesWrong)

/-- 'meresmanlaw27.ShareNested': WHATEVER THE INPUT: true; the input reads as it did. -/
def shareNestedSpec : ChangeSpec := { name := "shareNested", fn := fun _ => fun
  | [d1, d2, d3] => { results := [.lit (.bool true)], args := [d1, d2, d3] }
  | _ => none }
def shareNestedRow : OpenClaim := { program := "ytlnmgcmpbbklhaa", sum := "43b3cb8f793171262596142bd41e307de3d8882e04850a7ae002af3115929c96", func := "meresman/meresmanlaw27.ShareNested", spec := "shareNested", unfollowed := true, recurses := true, apart := false }
def ShareNestedSaid : Prop := shareNestedRow.holds Try.pinned (OpenSpec.ofChange shareNestedSpec)

/-- ITS FALSE NEIGHBOUR: 'it returns false'. Refute it at one input. -/
def shareNestedWrong : ChangeSpec := { name := "shareNested", fn := fun _ => fun
  | [d1, d2, d3] => { results := [.lit (.bool false)], args := [d1, d2, d3] }
  | _ => none }
def ShareNestedWrongFalsely : Prop := shareNestedRow.holds Try.pinned (OpenSpec.ofChange shareNestedWrong)

/-- 'meresmanlaw27.ShareMore': WHATEVER THE INPUT: true; the input reads as it did. -/
def shareMoreSpec : ChangeSpec := { name := "shareMore", fn := fun _ => fun
  | [d1, d2] => { results := [.lit (.bool true)], args := [d1, d2] }
  | _ => none }
def shareMoreRow : OpenClaim := { program := "ytlnmgcmpbbklhaa", sum := "43b3cb8f793171262596142bd41e307de3d8882e04850a7ae002af3115929c96", func := "meresman/meresmanlaw27.ShareMore", spec := "shareMore", unfollowed := true, recurses := true, apart := false }
def ShareMoreSaid : Prop := shareMoreRow.holds Try.pinned (OpenSpec.ofChange shareMoreSpec)

/-- ITS FALSE NEIGHBOUR: 'it returns false'. Refute it at one input. -/
def shareMoreWrong : ChangeSpec := { name := "shareMore", fn := fun _ => fun
  | [d1, d2] => { results := [.lit (.bool false)], args := [d1, d2] }
  | _ => none }
def ShareMoreWrongFalsely : Prop := shareMoreRow.holds Try.pinned (OpenSpec.ofChange shareMoreWrong)

/-- 'meresmanlaw27.ShareEven': WHATEVER THE INPUT: true; the input reads as it did. -/
def shareEvenSpec : ChangeSpec := { name := "shareEven", fn := fun _ => fun
  | [d1, d2] => { results := [.lit (.bool true)], args := [d1, d2] }
  | _ => none }
def shareEvenRow : OpenClaim := { program := "ytlnmgcmpbbklhaa", sum := "43b3cb8f793171262596142bd41e307de3d8882e04850a7ae002af3115929c96", func := "meresman/meresmanlaw27.ShareEven", spec := "shareEven", unfollowed := true, recurses := true, apart := false }
def ShareEvenSaid : Prop := shareEvenRow.holds Try.pinned (OpenSpec.ofChange shareEvenSpec)

/-- ITS FALSE NEIGHBOUR: 'it returns false'. Refute it at one input. -/
def shareEvenWrong : ChangeSpec := { name := "shareEven", fn := fun _ => fun
  | [d1, d2] => { results := [.lit (.bool false)], args := [d1, d2] }
  | _ => none }
def ShareEvenWrongFalsely : Prop := shareEvenRow.holds Try.pinned (OpenSpec.ofChange shareEvenWrong)

/-- 'meresmanlaw27.ShareScale': WHATEVER THE INPUT: true; the input reads as it did. -/
def shareScaleSpec : ChangeSpec := { name := "shareScale", fn := fun _ => fun
  | [d1, d2, d3] => { results := [.lit (.bool true)], args := [d1, d2, d3] }
  | _ => none }
def shareScaleRow : OpenClaim := { program := "ytlnmgcmpbbklhaa", sum := "43b3cb8f793171262596142bd41e307de3d8882e04850a7ae002af3115929c96", func := "meresman/meresmanlaw27.ShareScale", spec := "shareScale", unfollowed := true, recurses := true, apart := false }
def ShareScaleSaid : Prop := shareScaleRow.holds Try.pinned (OpenSpec.ofChange shareScaleSpec)

/-- ITS FALSE NEIGHBOUR: 'it returns false'. Refute it at one input. -/
def shareScaleWrong : ChangeSpec := { name := "shareScale", fn := fun _ => fun
  | [d1, d2, d3] => { results := [.lit (.bool false)], args := [d1, d2, d3] }
  | _ => none }
def ShareScaleWrongFalsely : Prop := shareScaleRow.holds Try.pinned (OpenSpec.ofChange shareScaleWrong)

/-- 'meresmanlaw27.ShareChecks': WHATEVER THE INPUT: true; the input reads as it did. -/
def shareChecksSpec : ChangeSpec := { name := "shareChecks", fn := fun _ => fun
  | [d1, d2, d3, d4, d5, d6] => { results := [.lit (.bool true)], args := [d1, d2, d3, d4, d5, d6] }
  | _ => none }
def shareChecksRow : OpenClaim := { program := "ytlnmgcmpbbklhaa", sum := "43b3cb8f793171262596142bd41e307de3d8882e04850a7ae002af3115929c96", func := "meresman/meresmanlaw27.ShareChecks", spec := "shareChecks", unfollowed := true, recurses := true, apart := false }
def ShareChecksSaid : Prop := shareChecksRow.holds Try.pinned (OpenSpec.ofChange shareChecksSpec)

/-- ITS FALSE NEIGHBOUR: 'it returns false'. Refute it at one input. -/
def shareChecksWrong : ChangeSpec := { name := "shareChecks", fn := fun _ => fun
  | [d1, d2, d3, d4, d5, d6] => { results := [.lit (.bool false)], args := [d1, d2, d3, d4, d5, d6] }
  | _ => none }
def ShareChecksWrongFalsely : Prop := shareChecksRow.holds Try.pinned (OpenSpec.ofChange shareChecksWrong)

/-- 'meresmanlaw27.ShareQuota': WHATEVER THE INPUT: true; the input reads as it did. -/
def shareQuotaSpec : ChangeSpec := { name := "shareQuota", fn := fun _ => fun
  | [d1, d2] => { results := [.lit (.bool true)], args := [d1, d2] }
  | _ => none }
def shareQuotaRow : OpenClaim := { program := "ytlnmgcmpbbklhaa", sum := "43b3cb8f793171262596142bd41e307de3d8882e04850a7ae002af3115929c96", func := "meresman/meresmanlaw27.ShareQuota", spec := "shareQuota", unfollowed := true, recurses := true, apart := false }
def ShareQuotaSaid : Prop := shareQuotaRow.holds Try.pinned (OpenSpec.ofChange shareQuotaSpec)

/-- ITS FALSE NEIGHBOUR: 'it returns false'. Refute it at one input. -/
def shareQuotaWrong : ChangeSpec := { name := "shareQuota", fn := fun _ => fun
  | [d1, d2] => { results := [.lit (.bool false)], args := [d1, d2] }
  | _ => none }
def ShareQuotaWrongFalsely : Prop := shareQuotaRow.holds Try.pinned (OpenSpec.ofChange shareQuotaWrong)

/- THE SECOND FORM. 'bulk': how many values and letters a reading holds, each counted each time it is reached (what is shared counts as often as it is met; a slice's spare places count too). A statement '..UptoSaid' is the law's where the arguments, and the package variables that the reading takes, are together of bulk at most 1048576: NARROWER than '..Said'. Prove '..Said' where nothing that the law and all that it calls make is longer than what came in: it says more and counts as full. Else prove '..UptoSaid'. A law counts once. -/
mutual
def uptoBulk {H : Type} : DataW H → Nat
  | .lit (.string bytes) => bytes.length + 1
  | .lit _ => 1
  | .nil => 1
  | .ptr d => uptoBulk d + 1
  | .slice elems spare => uptoBulkAll elems + uptoBulkAll spare + 1
  | .agg parts => uptoBulkAll parts + 1
  | .iface _ d => uptoBulk d + 1
  | .map entries => uptoBulkEntries entries + 1
  | .held _ => 1
def uptoBulkAll {H : Type} : List (DataW H) → Nat
  | [] => 0
  | d :: r => uptoBulk d + uptoBulkAll r
def uptoBulkEntries {H : Type} : List (Lit × DataW H) → Nat
  | [] => 0
  | x :: r => uptoBulkEntry x + uptoBulkEntries r
def uptoBulkEntry {H : Type} : Lit × DataW H → Nat
  | (.string bytes, d) => bytes.length + uptoBulk d + 1
  | (_, d) => uptoBulk d + 1
 end
def uptoSmall : (H : Type) → List (DataW H) → Bool := fun _ ds => decide (uptoBulkAll ds ≤ 1048576)
def OpenSpec.upto (s : _root_.Go.ChangeSpec) : _root_.Go.OpenSpec := { _root_.Go.OpenSpec.ofChange s with cond := some uptoSmall }

/-- 'meresmanlaw27.ShareDivides', WHERE WHAT IT READS IS OF BULK AT MOST 1048576: true; the input reads as it did. -/
def shareDividesUptoRow : OpenClaim := { program := "ytlnmgcmpbbklhaa", sum := "43b3cb8f793171262596142bd41e307de3d8882e04850a7ae002af3115929c96", func := "meresman/meresmanlaw27.ShareDivides", spec := "shareDivides", unfollowed := true, recurses := true, apart := false, narrowed := true }
def ShareDividesUptoSaid : Prop := shareDividesUptoRow.holds Try.pinned (OpenSpec.upto shareDividesSpec)

/-- 'meresmanlaw27.ShareNested', WHERE WHAT IT READS IS OF BULK AT MOST 1048576: true; the input reads as it did. -/
def shareNestedUptoRow : OpenClaim := { program := "ytlnmgcmpbbklhaa", sum := "43b3cb8f793171262596142bd41e307de3d8882e04850a7ae002af3115929c96", func := "meresman/meresmanlaw27.ShareNested", spec := "shareNested", unfollowed := true, recurses := true, apart := false, narrowed := true }
def ShareNestedUptoSaid : Prop := shareNestedUptoRow.holds Try.pinned (OpenSpec.upto shareNestedSpec)

/-- 'meresmanlaw27.ShareMore', WHERE WHAT IT READS IS OF BULK AT MOST 1048576: true; the input reads as it did. -/
def shareMoreUptoRow : OpenClaim := { program := "ytlnmgcmpbbklhaa", sum := "43b3cb8f793171262596142bd41e307de3d8882e04850a7ae002af3115929c96", func := "meresman/meresmanlaw27.ShareMore", spec := "shareMore", unfollowed := true, recurses := true, apart := false, narrowed := true }
def ShareMoreUptoSaid : Prop := shareMoreUptoRow.holds Try.pinned (OpenSpec.upto shareMoreSpec)

/-- 'meresmanlaw27.ShareEven', WHERE WHAT IT READS IS OF BULK AT MOST 1048576: true; the input reads as it did. -/
def shareEvenUptoRow : OpenClaim := { program := "ytlnmgcmpbbklhaa", sum := "43b3cb8f793171262596142bd41e307de3d8882e04850a7ae002af3115929c96", func := "meresman/meresmanlaw27.ShareEven", spec := "shareEven", unfollowed := true, recurses := true, apart := false, narrowed := true }
def ShareEvenUptoSaid : Prop := shareEvenUptoRow.holds Try.pinned (OpenSpec.upto shareEvenSpec)

/-- 'meresmanlaw27.ShareScale', WHERE WHAT IT READS IS OF BULK AT MOST 1048576: true; the input reads as it did. -/
def shareScaleUptoRow : OpenClaim := { program := "ytlnmgcmpbbklhaa", sum := "43b3cb8f793171262596142bd41e307de3d8882e04850a7ae002af3115929c96", func := "meresman/meresmanlaw27.ShareScale", spec := "shareScale", unfollowed := true, recurses := true, apart := false, narrowed := true }
def ShareScaleUptoSaid : Prop := shareScaleUptoRow.holds Try.pinned (OpenSpec.upto shareScaleSpec)

/-- 'meresmanlaw27.ShareChecks', WHERE WHAT IT READS IS OF BULK AT MOST 1048576: true; the input reads as it did. -/
def shareChecksUptoRow : OpenClaim := { program := "ytlnmgcmpbbklhaa", sum := "43b3cb8f793171262596142bd41e307de3d8882e04850a7ae002af3115929c96", func := "meresman/meresmanlaw27.ShareChecks", spec := "shareChecks", unfollowed := true, recurses := true, apart := false, narrowed := true }
def ShareChecksUptoSaid : Prop := shareChecksUptoRow.holds Try.pinned (OpenSpec.upto shareChecksSpec)

/-- 'meresmanlaw27.ShareQuota', WHERE WHAT IT READS IS OF BULK AT MOST 1048576: true; the input reads as it did. -/
def shareQuotaUptoRow : OpenClaim := { program := "ytlnmgcmpbbklhaa", sum := "43b3cb8f793171262596142bd41e307de3d8882e04850a7ae002af3115929c96", func := "meresman/meresmanlaw27.ShareQuota", spec := "shareQuota", unfollowed := true, recurses := true, apart := false, narrowed := true }
def ShareQuotaUptoSaid : Prop := shareQuotaUptoRow.holds Try.pinned (OpenSpec.upto shareQuotaSpec)

end Rows
end Go.Proofs.Ytlnmgcmpbbklhaa
