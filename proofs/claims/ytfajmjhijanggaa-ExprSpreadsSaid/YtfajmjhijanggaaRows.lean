/-
  No cell of these rows narrows 'for every input' (looked for: loops, veiled, ifaces, maps, wideKeys, modest, calm, conditions, laid).
  DERIVED. THE GIVEN ROWS OF THIS SEAT. 6 by the template 'for every input the law returns true; each argument reads behind the call as it read before'; 0 by the template 'total and deterministic' (their statements: YtfajmjhijanggaaTotals.lean).
  GIVEN WITH THE SEED: the statements are not yours to turn. If you find one false, say at which input.
  Laid BY PROGRAM, IN A SANDBOX (cutbox-rows.mjs): the forced cells as the released guide's own fill.sh prints them over the translation 43fdd66c1225936d… (all of the seat's roots in one cut). By AI agents, Wed Nov 11 2026. No macro, syntax, notation, axiom, sorry.
-/
import Derived.Test.YtfajmjhijanggaaChecked
import GoSem.Claim
import GoSem.ClaimJoined
import GoSem.ClaimMapViews
import Derived.JoinedTies
import Derived.KernelRfl
namespace Go.Proofs.Ytfajmjhijanggaa
/- THE CELL 'sum', in the pinned program and in every row, IS THE sha256 OF THE DUMP (.gsa) THAT YtfajmjhijanggaaProg.lean LOADS. Nothing in Lean hashes anything: it is a label: what it is worth is what the hold of that sum in a sandbox is worth. -/
noncomputable def Try.pinned : Pinned := { name := "ytfajmjhijanggaa", sum := "43fdd66c1225936d6101ace3a760246806d25a125be8c1890f207babd7ac2a95", checked := Try.checked }
namespace Rows
def none {H : Type} : Left H := { results := [], args := [] }

/-- 'beadlelaw14.ExprParses': WHATEVER THE INPUT: true; the input reads as it did. -/
def exprParsesSpec : ChangeSpec := { name := "exprParses", fn := fun _ => fun
  | [d] => { results := [.lit (.bool true)], args := [d] }
  | _ => none }
def exprParsesRow : OpenClaim := { program := "ytfajmjhijanggaa", sum := "43fdd66c1225936d6101ace3a760246806d25a125be8c1890f207babd7ac2a95", func := "beadle/beadlelaw14.ExprParses", spec := "exprParses", inPlace := ["internal/bytealg.IndexByteString", "internal/abi.NoEscape", "internal/bytealg.MakeNoZero"], unfollowed := true, recurses := true, apart := false }
def ExprParsesSaid : Prop := exprParsesRow.holds Try.pinned (OpenSpec.ofChange exprParsesSpec)

/-- ITS FALSE NEIGHBOUR: 'it returns false'. Refute it at one input. -/
def exprParsesWrong : ChangeSpec := { name := "exprParses", fn := fun _ => fun
  | [d] => { results := [.lit (.bool false)], args := [d] }
  | _ => none }
def ExprParsesWrongFalsely : Prop := exprParsesRow.holds Try.pinned (OpenSpec.ofChange exprParsesWrong)

/-- 'beadlelaw14.ExprNests': WHATEVER THE INPUT: true; the input reads as it did. -/
def exprNestsSpec : ChangeSpec := { name := "exprNests", fn := fun _ => fun
  | [d] => { results := [.lit (.bool true)], args := [d] }
  | _ => none }
def exprNestsRow : OpenClaim := { program := "ytfajmjhijanggaa", sum := "43fdd66c1225936d6101ace3a760246806d25a125be8c1890f207babd7ac2a95", func := "beadle/beadlelaw14.ExprNests", spec := "exprNests", inPlace := ["internal/bytealg.IndexByteString", "internal/abi.NoEscape", "internal/bytealg.MakeNoZero"], unfollowed := true, recurses := true, apart := false }
def ExprNestsSaid : Prop := exprNestsRow.holds Try.pinned (OpenSpec.ofChange exprNestsSpec)

/-- ITS FALSE NEIGHBOUR: 'it returns false'. Refute it at one input. -/
def exprNestsWrong : ChangeSpec := { name := "exprNests", fn := fun _ => fun
  | [d] => { results := [.lit (.bool false)], args := [d] }
  | _ => none }
def ExprNestsWrongFalsely : Prop := exprNestsRow.holds Try.pinned (OpenSpec.ofChange exprNestsWrong)

/-- 'beadlelaw14.ExprBlanks': WHATEVER THE INPUT: true; the input reads as it did. -/
def exprBlanksSpec : ChangeSpec := { name := "exprBlanks", fn := fun _ => fun
  | [d1, d2] => { results := [.lit (.bool true)], args := [d1, d2] }
  | _ => none }
def exprBlanksRow : OpenClaim := { program := "ytfajmjhijanggaa", sum := "43fdd66c1225936d6101ace3a760246806d25a125be8c1890f207babd7ac2a95", func := "beadle/beadlelaw14.ExprBlanks", spec := "exprBlanks", inPlace := ["internal/bytealg.IndexByteString", "internal/abi.NoEscape", "internal/bytealg.MakeNoZero"], unfollowed := true, recurses := true, apart := false }
def ExprBlanksSaid : Prop := exprBlanksRow.holds Try.pinned (OpenSpec.ofChange exprBlanksSpec)

/-- ITS FALSE NEIGHBOUR: 'it returns false'. Refute it at one input. -/
def exprBlanksWrong : ChangeSpec := { name := "exprBlanks", fn := fun _ => fun
  | [d1, d2] => { results := [.lit (.bool false)], args := [d1, d2] }
  | _ => none }
def ExprBlanksWrongFalsely : Prop := exprBlanksRow.holds Try.pinned (OpenSpec.ofChange exprBlanksWrong)

/-- 'beadlelaw14.ExprShows': WHATEVER THE INPUT: true; the input reads as it did. -/
def exprShowsSpec : ChangeSpec := { name := "exprShows", fn := fun _ => fun
  | [d] => { results := [.lit (.bool true)], args := [d] }
  | _ => none }
def exprShowsRow : OpenClaim := { program := "ytfajmjhijanggaa", sum := "43fdd66c1225936d6101ace3a760246806d25a125be8c1890f207babd7ac2a95", func := "beadle/beadlelaw14.ExprShows", spec := "exprShows", inPlace := ["internal/bytealg.IndexByteString", "internal/abi.NoEscape", "internal/bytealg.MakeNoZero"], unfollowed := true, recurses := true, apart := false }
def ExprShowsSaid : Prop := exprShowsRow.holds Try.pinned (OpenSpec.ofChange exprShowsSpec)

/-- ITS FALSE NEIGHBOUR: 'it returns false'. Refute it at one input. -/
def exprShowsWrong : ChangeSpec := { name := "exprShows", fn := fun _ => fun
  | [d] => { results := [.lit (.bool false)], args := [d] }
  | _ => none }
def ExprShowsWrongFalsely : Prop := exprShowsRow.holds Try.pinned (OpenSpec.ofChange exprShowsWrong)

/-- 'beadlelaw14.ExprJoins': WHATEVER THE INPUT: true; the input reads as it did. -/
def exprJoinsSpec : ChangeSpec := { name := "exprJoins", fn := fun _ => fun
  | [d1, d2] => { results := [.lit (.bool true)], args := [d1, d2] }
  | _ => none }
def exprJoinsRow : OpenClaim := { program := "ytfajmjhijanggaa", sum := "43fdd66c1225936d6101ace3a760246806d25a125be8c1890f207babd7ac2a95", func := "beadle/beadlelaw14.ExprJoins", spec := "exprJoins", inPlace := ["internal/bytealg.IndexByteString", "internal/abi.NoEscape", "internal/bytealg.MakeNoZero"], unfollowed := true, recurses := true, apart := false }
def ExprJoinsSaid : Prop := exprJoinsRow.holds Try.pinned (OpenSpec.ofChange exprJoinsSpec)

/-- ITS FALSE NEIGHBOUR: 'it returns false'. Refute it at one input. -/
def exprJoinsWrong : ChangeSpec := { name := "exprJoins", fn := fun _ => fun
  | [d1, d2] => { results := [.lit (.bool false)], args := [d1, d2] }
  | _ => none }
def ExprJoinsWrongFalsely : Prop := exprJoinsRow.holds Try.pinned (OpenSpec.ofChange exprJoinsWrong)

/-- 'beadlelaw14.ExprSpreads': WHATEVER THE INPUT: true; the input reads as it did. -/
def exprSpreadsSpec : ChangeSpec := { name := "exprSpreads", fn := fun _ => fun
  | [d] => { results := [.lit (.bool true)], args := [d] }
  | _ => none }
def exprSpreadsRow : OpenClaim := { program := "ytfajmjhijanggaa", sum := "43fdd66c1225936d6101ace3a760246806d25a125be8c1890f207babd7ac2a95", func := "beadle/beadlelaw14.ExprSpreads", spec := "exprSpreads", inPlace := ["internal/bytealg.IndexByteString", "internal/abi.NoEscape", "internal/bytealg.MakeNoZero"], unfollowed := true, recurses := true, apart := false }
def ExprSpreadsSaid : Prop := exprSpreadsRow.holds Try.pinned (OpenSpec.ofChange exprSpreadsSpec)

/-- ITS FALSE NEIGHBOUR: 'it returns false'. Refute it at one input. -/
def exprSpreadsWrong : ChangeSpec := { name := "exprSpreads", fn := fun _ => fun
  | [d] => { results := [.lit (.bool false)], args := [d] }
  | _ => none }
def ExprSpreadsWrongFalsely : Prop := exprSpreadsRow.holds Try.pinned (OpenSpec.ofChange exprSpreadsWrong)

/- THE SECOND FORM. 'bulk': how many values and letters a reading holds, each counted each time it is reached (what is shared counts as often as it is met; a slice's spare places count too). A statement '..UptoSaid' is the law's where the arguments, and the package variables that the reading takes, are together of bulk at most 1048576: NARROWER than '..Said'. Prove '..Said' where nothing that the law and all that it calls make is longer than what came in: it says more and counts as full. Else prove '..UptoSaid'. A law counts once. -/
mutual
def uptoBulk {H : Type} : DataW H → Nat
  | .lit (.string bytes) => bytes.length + 1
  | .lit _ => 1
  | .nil => 1
  | .ptr d => uptoBulk d + 1
  | .slice elems spare => uptoBulkAll elems + uptoBulkAll spare + 1
  | .agg parts => uptoBulkAll parts + 1
  | .iface _ d => uptoBulk d + 1
  | .map entries => uptoBulkEntries entries + 1
  | .held _ => 1
def uptoBulkAll {H : Type} : List (DataW H) → Nat
  | [] => 0
  | d :: r => uptoBulk d + uptoBulkAll r
def uptoBulkEntries {H : Type} : List (Lit × DataW H) → Nat
  | [] => 0
  | x :: r => uptoBulkEntry x + uptoBulkEntries r
def uptoBulkEntry {H : Type} : Lit × DataW H → Nat
  | (.string bytes, d) => bytes.length + uptoBulk d + 1
  | (_, d) => uptoBulk d + 1
 end
def uptoSmall : (H : Type) → List (DataW H) → Bool := fun _ ds => decide (uptoBulkAll ds ≤ 1048576)
def OpenSpec.upto (s : _root_.Go.ChangeSpec) : _root_.Go.OpenSpec := { _root_.Go.OpenSpec.ofChange s with cond := some uptoSmall }

/-- 'beadlelaw14.ExprParses', WHERE WHAT IT READS IS OF BULK AT MOST 1048576: true; the input reads as it did. -/
def exprParsesUptoRow : OpenClaim := { program := "ytfajmjhijanggaa", sum := "43fdd66c1225936d6101ace3a760246806d25a125be8c1890f207babd7ac2a95", func := "beadle/beadlelaw14.ExprParses", spec := "exprParses", inPlace := ["internal/bytealg.IndexByteString", "internal/abi.NoEscape", "internal/bytealg.MakeNoZero"], unfollowed := true, recurses := true, apart := false, narrowed := true }
def ExprParsesUptoSaid : Prop := exprParsesUptoRow.holds Try.pinned (OpenSpec.upto exprParsesSpec)

/-- 'beadlelaw14.ExprNests', WHERE WHAT IT READS IS OF BULK AT MOST 1048576: true; the input reads as it did. -/
def exprNestsUptoRow : OpenClaim := { program := "ytfajmjhijanggaa", sum := "43fdd66c1225936d6101ace3a760246806d25a125be8c1890f207babd7ac2a95", func := "beadle/beadlelaw14.ExprNests", spec := "exprNests", inPlace := ["internal/bytealg.IndexByteString", "internal/abi.NoEscape", "internal/bytealg.MakeNoZero"], unfollowed := true, recurses := true, apart := false, narrowed := true }
def ExprNestsUptoSaid : Prop := exprNestsUptoRow.holds Try.pinned (OpenSpec.upto exprNestsSpec)

/-- 'beadlelaw14.ExprBlanks', WHERE WHAT IT READS IS OF BULK AT MOST 1048576: true; the input reads as it did. -/
def exprBlanksUptoRow : OpenClaim := { program := "ytfajmjhijanggaa", sum := "43fdd66c1225936d6101ace3a760246806d25a125be8c1890f207babd7ac2a95", func := "beadle/beadlelaw14.ExprBlanks", spec := "exprBlanks", inPlace := ["internal/bytealg.IndexByteString", "internal/abi.NoEscape", "internal/bytealg.MakeNoZero"], unfollowed := true, recurses := true, apart := false, narrowed := true }
def ExprBlanksUptoSaid : Prop := exprBlanksUptoRow.holds Try.pinned (OpenSpec.upto exprBlanksSpec)

/-- 'beadlelaw14.ExprShows', WHERE WHAT IT READS IS OF BULK AT MOST 1048576: true; the input reads as it did. -/
def exprShowsUptoRow : OpenClaim := { program := "ytfajmjhijanggaa", sum := "43fdd66c1225936d6101ace3a760246806d25a125be8c1890f207babd7ac2a95", func := "beadle/beadlelaw14.ExprShows", spec := "exprShows", inPlace := ["internal/bytealg.IndexByteString", "internal/abi.NoEscape", "internal/bytealg.MakeNoZero"], unfollowed := true, recurses := true, apart := false, narrowed := true }
def ExprShowsUptoSaid : Prop := exprShowsUptoRow.holds Try.pinned (OpenSpec.upto exprShowsSpec)

/-- 'beadlelaw14.ExprJoins', WHERE WHAT IT READS IS OF BULK AT MOST 1048576: true; the input reads as it did. -/
def exprJoinsUptoRow : OpenClaim := { program := "ytfajmjhijanggaa", sum := "43fdd66c1225936d6101ace3a760246806d25a125be8c1890f207babd7ac2a95", func := "beadle/beadlelaw14.ExprJoins", spec := "exprJoins", inPlace := ["internal/bytealg.IndexByteString", "internal/abi.NoEscape", "internal/bytealg.MakeNoZero"], unfollowed := true, recurses := true, apart := false, narrowed := true }
def ExprJoinsUptoSaid : Prop := exprJoinsUptoRow.holds Try.pinned (OpenSpec.upto exprJoinsSpec)

/-- 'beadlelaw14.ExprSpreads', WHERE WHAT IT READS IS OF BULK AT MOST 1048576: true; the input reads as it did. -/
def exprSpreadsUptoRow : OpenClaim := { program := "ytfajmjhijanggaa", sum := "43fdd66c1225936d6101ace3a760246806d25a125be8c1890f207babd7ac2a95", func := "beadle/beadlelaw14.ExprSpreads", spec := "exprSpreads", inPlace := ["internal/bytealg.IndexByteString", "internal/abi.NoEscape", "internal/bytealg.MakeNoZero"], unfollowed := true, recurses := true, apart := false, narrowed := true }
def ExprSpreadsUptoSaid : Prop := exprSpreadsUptoRow.holds Try.pinned (OpenSpec.upto exprSpreadsSpec)

end Rows
end Go.Proofs.Ytfajmjhijanggaa
