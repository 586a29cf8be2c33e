/-
  No cell of these rows narrows 'for every input' (looked for: loops, veiled, ifaces, maps, wideKeys, modest, calm, conditions, laid).
  DERIVED. THE GIVEN ROWS OF THIS SEAT. 7 by the template 'for every input the law returns true; each argument reads behind the call as it read before'; 0 by the template 'total and deterministic' (their statements: YtkoidookanmknaaTotals.lean).
  GIVEN WITH THE SEED: the statements are not yours to turn. If you find one false, say at which input.
  Laid BY PROGRAM, IN A SANDBOX (cutbox-rows.mjs): the forced cells as the released guide's own fill.sh prints them over the translation 540830aaf56cbc18… (all of the seat's roots in one cut). By AI agents, Wed Nov 11 2026. No macro, syntax, notation, axiom, sorry.
-/
import Derived.Test.YtkoidookanmknaaChecked
import GoSem.Claim
import GoSem.ClaimJoined
import GoSem.ClaimMapViews
import Derived.JoinedTies
import Derived.KernelRfl
namespace Go.Proofs.Ytkoidookanmknaa
/- THE CELL 'sum', in the pinned program and in every row, IS THE sha256 OF THE DUMP (.gsa) THAT YtkoidookanmknaaProg.lean LOADS. Nothing in Lean hashes anything: it is a label: what it is worth is what the hold of that sum in a sandbox is worth. -/
noncomputable def Try.pinned : Pinned := { name := "ytkoidookanmknaa", sum := "540830aaf56cbc1891854d06cdbb67179dd53e1b302c65f7522abbd05e6f944e", checked := Try.checked }
namespace Rows
def none {H : Type} : Left H := { results := [], args := [] }

/-- 'meresmanlaw30.ShieldDetermines': WHATEVER THE INPUT: true; the input reads as it did. -/
def shieldDeterminesSpec : ChangeSpec := { name := "shieldDetermines", fn := fun _ => fun
  | [d1, d2, d3, d4, d5, d6] => { results := [.lit (.bool true)], args := [d1, d2, d3, d4, d5, d6] }
  | _ => none }
def shieldDeterminesRow : OpenClaim := { program := "ytkoidookanmknaa", sum := "540830aaf56cbc1891854d06cdbb67179dd53e1b302c65f7522abbd05e6f944e", func := "meresman/meresmanlaw30.ShieldDetermines", spec := "shieldDetermines", unfollowed := true, recurses := true, apart := false }
def ShieldDeterminesSaid : Prop := shieldDeterminesRow.holds Try.pinned (OpenSpec.ofChange shieldDeterminesSpec)

/-- ITS FALSE NEIGHBOUR: 'it returns false'. Refute it at one input. -/
def shieldDeterminesWrong : ChangeSpec := { name := "shieldDetermines", fn := fun _ => fun
  | [d1, d2, d3, d4, d5, d6] => { results := [.lit (.bool false)], args := [d1, d2, d3, d4, d5, d6] }
  | _ => none }
def ShieldDeterminesWrongFalsely : Prop := shieldDeterminesRow.holds Try.pinned (OpenSpec.ofChange shieldDeterminesWrong)

/-- 'meresmanlaw30.ShieldHides': WHATEVER THE INPUT: true; the input reads as it did. -/
def shieldHidesSpec : ChangeSpec := { name := "shieldHides", fn := fun _ => fun
  | [d1, d2, d3, d4, d5] => { results := [.lit (.bool true)], args := [d1, d2, d3, d4, d5] }
  | _ => none }
def shieldHidesRow : OpenClaim := { program := "ytkoidookanmknaa", sum := "540830aaf56cbc1891854d06cdbb67179dd53e1b302c65f7522abbd05e6f944e", func := "meresman/meresmanlaw30.ShieldHides", spec := "shieldHides", unfollowed := true, recurses := true, apart := false }
def ShieldHidesSaid : Prop := shieldHidesRow.holds Try.pinned (OpenSpec.ofChange shieldHidesSpec)

/-- ITS FALSE NEIGHBOUR: 'it returns false'. Refute it at one input. -/
def shieldHidesWrong : ChangeSpec := { name := "shieldHides", fn := fun _ => fun
  | [d1, d2, d3, d4, d5] => { results := [.lit (.bool false)], args := [d1, d2, d3, d4, d5] }
  | _ => none }
def ShieldHidesWrongFalsely : Prop := shieldHidesRow.holds Try.pinned (OpenSpec.ofChange shieldHidesWrong)

/-- 'meresmanlaw30.ShieldMore': WHATEVER THE INPUT: true; the input reads as it did. -/
def shieldMoreSpec : ChangeSpec := { name := "shieldMore", fn := fun _ => fun
  | [d1, d2, d3] => { results := [.lit (.bool true)], args := [d1, d2, d3] }
  | _ => none }
def shieldMoreRow : OpenClaim := { program := "ytkoidookanmknaa", sum := "540830aaf56cbc1891854d06cdbb67179dd53e1b302c65f7522abbd05e6f944e", func := "meresman/meresmanlaw30.ShieldMore", spec := "shieldMore", unfollowed := true, recurses := true, apart := false }
def ShieldMoreSaid : Prop := shieldMoreRow.holds Try.pinned (OpenSpec.ofChange shieldMoreSpec)

/-- ITS FALSE NEIGHBOUR: 'it returns false'. Refute it at one input. -/
def shieldMoreWrong : ChangeSpec := { name := "shieldMore", fn := fun _ => fun
  | [d1, d2, d3] => { results := [.lit (.bool false)], args := [d1, d2, d3] }
  | _ => none }
def ShieldMoreWrongFalsely : Prop := shieldMoreRow.holds Try.pinned (OpenSpec.ofChange shieldMoreWrong)

/-- 'meresmanlaw30.ShieldNumbers': WHATEVER THE INPUT: true; the input reads as it did. -/
def shieldNumbersSpec : ChangeSpec := { name := "shieldNumbers", fn := fun _ => fun
  | [d1, d2, d3, d4] => { results := [.lit (.bool true)], args := [d1, d2, d3, d4] }
  | _ => none }
def shieldNumbersRow : OpenClaim := { program := "ytkoidookanmknaa", sum := "540830aaf56cbc1891854d06cdbb67179dd53e1b302c65f7522abbd05e6f944e", func := "meresman/meresmanlaw30.ShieldNumbers", spec := "shieldNumbers", unfollowed := true, recurses := true, apart := false }
def ShieldNumbersSaid : Prop := shieldNumbersRow.holds Try.pinned (OpenSpec.ofChange shieldNumbersSpec)

/-- ITS FALSE NEIGHBOUR: 'it returns false'. Refute it at one input. -/
def shieldNumbersWrong : ChangeSpec := { name := "shieldNumbers", fn := fun _ => fun
  | [d1, d2, d3, d4] => { results := [.lit (.bool false)], args := [d1, d2, d3, d4] }
  | _ => none }
def ShieldNumbersWrongFalsely : Prop := shieldNumbersRow.holds Try.pinned (OpenSpec.ofChange shieldNumbersWrong)

/-- 'meresmanlaw30.ShieldSums': WHATEVER THE INPUT: true; the input reads as it did. -/
def shieldSumsSpec : ChangeSpec := { name := "shieldSums", fn := fun _ => fun
  | [d1, d2, d3, d4] => { results := [.lit (.bool true)], args := [d1, d2, d3, d4] }
  | _ => none }
def shieldSumsRow : OpenClaim := { program := "ytkoidookanmknaa", sum := "540830aaf56cbc1891854d06cdbb67179dd53e1b302c65f7522abbd05e6f944e", func := "meresman/meresmanlaw30.ShieldSums", spec := "shieldSums", unfollowed := true, recurses := true, apart := false }
def ShieldSumsSaid : Prop := shieldSumsRow.holds Try.pinned (OpenSpec.ofChange shieldSumsSpec)

/-- ITS FALSE NEIGHBOUR: 'it returns false'. Refute it at one input. -/
def shieldSumsWrong : ChangeSpec := { name := "shieldSums", fn := fun _ => fun
  | [d1, d2, d3, d4] => { results := [.lit (.bool false)], args := [d1, d2, d3, d4] }
  | _ => none }
def ShieldSumsWrongFalsely : Prop := shieldSumsRow.holds Try.pinned (OpenSpec.ofChange shieldSumsWrong)

/-- 'meresmanlaw30.ShieldChecks': WHATEVER THE INPUT: true; the input reads as it did. -/
def shieldChecksSpec : ChangeSpec := { name := "shieldChecks", fn := fun _ => fun
  | [d1, d2, d3, d4, d5, d6, d7] => { results := [.lit (.bool true)], args := [d1, d2, d3, d4, d5, d6, d7] }
  | _ => none }
def shieldChecksRow : OpenClaim := { program := "ytkoidookanmknaa", sum := "540830aaf56cbc1891854d06cdbb67179dd53e1b302c65f7522abbd05e6f944e", func := "meresman/meresmanlaw30.ShieldChecks", spec := "shieldChecks", unfollowed := true, recurses := true, apart := false }
def ShieldChecksSaid : Prop := shieldChecksRow.holds Try.pinned (OpenSpec.ofChange shieldChecksSpec)

/-- ITS FALSE NEIGHBOUR: 'it returns false'. Refute it at one input. -/
def shieldChecksWrong : ChangeSpec := { name := "shieldChecks", fn := fun _ => fun
  | [d1, d2, d3, d4, d5, d6, d7] => { results := [.lit (.bool false)], args := [d1, d2, d3, d4, d5, d6, d7] }
  | _ => none }
def ShieldChecksWrongFalsely : Prop := shieldChecksRow.holds Try.pinned (OpenSpec.ofChange shieldChecksWrong)

/-- 'meresmanlaw30.ShieldShows': WHATEVER THE INPUT: true; the input reads as it did. -/
def shieldShowsSpec : ChangeSpec := { name := "shieldShows", fn := fun _ => fun
  | [d1, d2] => { results := [.lit (.bool true)], args := [d1, d2] }
  | _ => none }
def shieldShowsRow : OpenClaim := { program := "ytkoidookanmknaa", sum := "540830aaf56cbc1891854d06cdbb67179dd53e1b302c65f7522abbd05e6f944e", func := "meresman/meresmanlaw30.ShieldShows", spec := "shieldShows", unfollowed := true, recurses := true, apart := false }
def ShieldShowsSaid : Prop := shieldShowsRow.holds Try.pinned (OpenSpec.ofChange shieldShowsSpec)

/-- ITS FALSE NEIGHBOUR: 'it returns false'. Refute it at one input. -/
def shieldShowsWrong : ChangeSpec := { name := "shieldShows", fn := fun _ => fun
  | [d1, d2] => { results := [.lit (.bool false)], args := [d1, d2] }
  | _ => none }
def ShieldShowsWrongFalsely : Prop := shieldShowsRow.holds Try.pinned (OpenSpec.ofChange shieldShowsWrong)

/- THE SECOND FORM. 'bulk': how many values and letters a reading holds, each counted each time it is reached (what is shared counts as often as it is met; a slice's spare places count too). A statement '..UptoSaid' is the law's where the arguments, and the package variables that the reading takes, are together of bulk at most 1048576: NARROWER than '..Said'. Prove '..Said' where nothing that the law and all that it calls make is longer than what came in: it says more and counts as full. Else prove '..UptoSaid'. A law counts once. -/
mutual
def uptoBulk {H : Type} : DataW H → Nat
  | .lit (.string bytes) => bytes.length + 1
  | .lit _ => 1
  | .nil => 1
  | .ptr d => uptoBulk d + 1
  | .slice elems spare => uptoBulkAll elems + uptoBulkAll spare + 1
  | .agg parts => uptoBulkAll parts + 1
  | .iface _ d => uptoBulk d + 1
  | .map entries => uptoBulkEntries entries + 1
  | .held _ => 1
def uptoBulkAll {H : Type} : List (DataW H) → Nat
  | [] => 0
  | d :: r => uptoBulk d + uptoBulkAll r
def uptoBulkEntries {H : Type} : List (Lit × DataW H) → Nat
  | [] => 0
  | x :: r => uptoBulkEntry x + uptoBulkEntries r
def uptoBulkEntry {H : Type} : Lit × DataW H → Nat
  | (.string bytes, d) => bytes.length + uptoBulk d + 1
  | (_, d) => uptoBulk d + 1
 end
def uptoSmall : (H : Type) → List (DataW H) → Bool := fun _ ds => decide (uptoBulkAll ds ≤ 1048576)
def OpenSpec.upto (s : _root_.Go.ChangeSpec) : _root_.Go.OpenSpec := { _root_.Go.OpenSpec.ofChange s with cond := some uptoSmall }

/-- 'meresmanlaw30.ShieldDetermines', WHERE WHAT IT READS IS OF BULK AT MOST 1048576: true; the input reads as it did. -/
def shieldDeterminesUptoRow : OpenClaim := { program := "ytkoidookanmknaa", sum := "540830aaf56cbc1891854d06cdbb67179dd53e1b302c65f7522abbd05e6f944e", func := "meresman/meresmanlaw30.ShieldDetermines", spec := "shieldDetermines", unfollowed := true, recurses := true, apart := false, narrowed := true }
def ShieldDeterminesUptoSaid : Prop := shieldDeterminesUptoRow.holds Try.pinned (OpenSpec.upto shieldDeterminesSpec)

/-- 'meresmanlaw30.ShieldHides', WHERE WHAT IT READS IS OF BULK AT MOST 1048576: true; the input reads as it did. -/
def shieldHidesUptoRow : OpenClaim := { program := "ytkoidookanmknaa", sum := "540830aaf56cbc1891854d06cdbb67179dd53e1b302c65f7522abbd05e6f944e", func := "meresman/meresmanlaw30.ShieldHides", spec := "shieldHides", unfollowed := true, recurses := true, apart := false, narrowed := true }
def ShieldHidesUptoSaid : Prop := shieldHidesUptoRow.holds Try.pinned (OpenSpec.upto shieldHidesSpec)

/-- 'meresmanlaw30.ShieldMore', WHERE WHAT IT READS IS OF BULK AT MOST 1048576: true; the input reads as it did. -/
def shieldMoreUptoRow : OpenClaim := { program := "ytkoidookanmknaa", sum := "540830aaf56cbc1891854d06cdbb67179dd53e1b302c65f7522abbd05e6f944e", func := "meresman/meresmanlaw30.ShieldMore", spec := "shieldMore", unfollowed := true, recurses := true, apart := false, narrowed := true }
def ShieldMoreUptoSaid : Prop := shieldMoreUptoRow.holds Try.pinned (OpenSpec.upto shieldMoreSpec)

/-- 'meresmanlaw30.ShieldNumbers', WHERE WHAT IT READS IS OF BULK AT MOST 1048576: true; the input reads as it did. -/
def shieldNumbersUptoRow : OpenClaim := { program := "ytkoidookanmknaa", sum := "540830aaf56cbc1891854d06cdbb67179dd53e1b302c65f7522abbd05e6f944e", func := "meresman/meresmanlaw30.ShieldNumbers", spec := "shieldNumbers", unfollowed := true, recurses := true, apart := false, narrowed := true }
def ShieldNumbersUptoSaid : Prop := shieldNumbersUptoRow.holds Try.pinned (OpenSpec.upto shieldNumbersSpec)

/-- 'meresmanlaw30.ShieldSums', WHERE WHAT IT READS IS OF BULK AT MOST 1048576: true; the input reads as it did. -/
def shieldSumsUptoRow : OpenClaim := { program := "ytkoidookanmknaa", sum := "540830aaf56cbc1891854d06cdbb67179dd53e1b302c65f7522abbd05e6f944e", func := "meresman/meresmanlaw30.ShieldSums", spec := "shieldSums", unfollowed := true, recurses := true, apart := false, narrowed := true }
def ShieldSumsUptoSaid : Prop := shieldSumsUptoRow.holds Try.pinned (OpenSpec.upto shieldSumsSpec)

/-- 'meresmanlaw30.ShieldChecks', WHERE WHAT IT READS IS OF BULK AT MOST 1048576: true; the input reads as it did. -/
def shieldChecksUptoRow : OpenClaim := { program := "ytkoidookanmknaa", sum := "540830aaf56cbc1891854d06cdbb67179dd53e1b302c65f7522abbd05e6f944e", func := "meresman/meresmanlaw30.ShieldChecks", spec := "shieldChecks", unfollowed := true, recurses := true, apart := false, narrowed := true }
def ShieldChecksUptoSaid : Prop := shieldChecksUptoRow.holds Try.pinned (OpenSpec.upto shieldChecksSpec)

/-- 'meresmanlaw30.ShieldShows', WHERE WHAT IT READS IS OF BULK AT MOST 1048576: true; the input reads as it did. -/
def shieldShowsUptoRow : OpenClaim := { program := "ytkoidookanmknaa", sum := "540830aaf56cbc1891854d06cdbb67179dd53e1b302c65f7522abbd05e6f944e", func := "meresman/meresmanlaw30.ShieldShows", spec := "shieldShows", unfollowed := true, recurses := true, apart := false, narrowed := true }
def ShieldShowsUptoSaid : Prop := shieldShowsUptoRow.holds Try.pinned (OpenSpec.upto shieldShowsSpec)

end Rows
end Go.Proofs.Ytkoidookanmknaa
