/-
  No cell of these rows narrows 'for every input' (looked for: loops, veiled, ifaces, maps, wideKeys, modest, calm, conditions, laid).
  DERIVED. THE GIVEN ROWS OF THIS SEAT. 7 by the template 'for every input the law returns true; each argument reads behind the call as it read before'; 0 by the template 'total and deterministic' (their statements: YtlhplhncdljicaaTotals.lean).
  GIVEN WITH THE SEED: the statements are not yours to turn. If you find one false, say at which input.
  Laid BY PROGRAM, IN A SANDBOX (cutbox-rows.mjs): the forced cells as the released guide's own fill.sh prints them over the translation 7bf367a6d0dc4e71… (all of the seat's roots in one cut). By AI agents, Wed Nov 11 2026. No macro, syntax, notation, axiom, sorry.
-/
import Derived.Test.YtlhplhncdljicaaChecked
import GoSem.Claim
import GoSem.ClaimJoined
import GoSem.ClaimMapViews
import Derived.JoinedTies
import Derived.KernelRfl
namespace Go.Proofs.Ytlhplhncdljicaa
/- THE CELL 'sum', in the pinned program and in every row, IS THE sha256 OF THE DUMP (.gsa) THAT YtlhplhncdljicaaProg.lean LOADS. Nothing in Lean hashes anything: it is a label: what it is worth is what the hold of that sum in a sandbox is worth. -/
noncomputable def Try.pinned : Pinned := { name := "ytlhplhncdljicaa", sum := "7bf367a6d0dc4e7189171661353c8ed0bdf0126b1f988529da5b13059e712942", checked := Try.checked }
namespace Rows
def none {H : Type} : Left H := { results := [], args := [] }

/-- 'beadlelaw09.StackScopes': WHATEVER THE INPUT: true; the input reads as it did. -/
def stackScopesSpec : ChangeSpec := { name := "stackScopes", fn := fun _ => fun
  | [d1, d2] => { results := [.lit (.bool true)], args := [d1, d2] }
  | _ => none }
def stackScopesRow : OpenClaim := { program := "ytlhplhncdljicaa", sum := "7bf367a6d0dc4e7189171661353c8ed0bdf0126b1f988529da5b13059e712942", func := "beadle/beadlelaw09.StackScopes", spec := "stackScopes", unfollowed := true, recurses := true, apart := false }
def StackScopesSaid : Prop := stackScopesRow.holds Try.pinned (OpenSpec.ofChange stackScopesSpec)

/-- ITS FALSE NEIGHBOUR: 'it returns false'. Refute it at one input. -/
def stackScopesWrong : ChangeSpec := { name := "stackScopes", fn := fun _ => fun
  | [d1, d2] => { results := [.lit (.bool false)], args := [d1, d2] }
  | _ => none }
def StackScopesWrongFalsely : Prop := stackScopesRow.holds Try.pinned (OpenSpec.ofChange stackScopesWrong)

/-- 'beadlelaw10.MarksAlike': WHATEVER THE INPUT: true; the input reads as it did. -/
def marksAlikeSpec : ChangeSpec := { name := "marksAlike", fn := fun _ => fun
  | [d1, d2] => { results := [.lit (.bool true)], args := [d1, d2] }
  | _ => none }
def marksAlikeRow : OpenClaim := { program := "ytlhplhncdljicaa", sum := "7bf367a6d0dc4e7189171661353c8ed0bdf0126b1f988529da5b13059e712942", func := "beadle/beadlelaw10.MarksAlike", spec := "marksAlike", unfollowed := true, recurses := true, apart := false }
def MarksAlikeSaid : Prop := marksAlikeRow.holds Try.pinned (OpenSpec.ofChange marksAlikeSpec)

/-- ITS FALSE NEIGHBOUR: 'it returns false'. Refute it at one input. -/
def marksAlikeWrong : ChangeSpec := { name := "marksAlike", fn := fun _ => fun
  | [d1, d2] => { results := [.lit (.bool false)], args := [d1, d2] }
  | _ => none }
def MarksAlikeWrongFalsely : Prop := marksAlikeRow.holds Try.pinned (OpenSpec.ofChange marksAlikeWrong)

/-- 'beadlelaw10.MarksMost': WHATEVER THE INPUT: true; the input reads as it did. -/
def marksMostSpec : ChangeSpec := { name := "marksMost", fn := fun _ => fun
  | [d] => { results := [.lit (.bool true)], args := [d] }
  | _ => none }
def marksMostRow : OpenClaim := { program := "ytlhplhncdljicaa", sum := "7bf367a6d0dc4e7189171661353c8ed0bdf0126b1f988529da5b13059e712942", func := "beadle/beadlelaw10.MarksMost", spec := "marksMost", unfollowed := true, recurses := true, apart := false }
def MarksMostSaid : Prop := marksMostRow.holds Try.pinned (OpenSpec.ofChange marksMostSpec)

/-- ITS FALSE NEIGHBOUR: 'it returns false'. Refute it at one input. -/
def marksMostWrong : ChangeSpec := { name := "marksMost", fn := fun _ => fun
  | [d] => { results := [.lit (.bool false)], args := [d] }
  | _ => none }
def MarksMostWrongFalsely : Prop := marksMostRow.holds Try.pinned (OpenSpec.ofChange marksMostWrong)

/-- 'beadlelaw09.StackScripts': WHATEVER THE INPUT: true; the input reads as it did. -/
def stackScriptsSpec : ChangeSpec := { name := "stackScripts", fn := fun _ => fun
  | [d] => { results := [.lit (.bool true)], args := [d] }
  | _ => none }
def stackScriptsRow : OpenClaim := { program := "ytlhplhncdljicaa", sum := "7bf367a6d0dc4e7189171661353c8ed0bdf0126b1f988529da5b13059e712942", func := "beadle/beadlelaw09.StackScripts", spec := "stackScripts", inPlace := ["slices.overlaps[beadle/stack.Item]"], unfollowed := true, recurses := true, apart := false }
def StackScriptsSaid : Prop := stackScriptsRow.holds Try.pinned (OpenSpec.ofChange stackScriptsSpec)

/-- ITS FALSE NEIGHBOUR: 'it returns false'. Refute it at one input. -/
def stackScriptsWrong : ChangeSpec := { name := "stackScripts", fn := fun _ => fun
  | [d] => { results := [.lit (.bool false)], args := [d] }
  | _ => none }
def StackScriptsWrongFalsely : Prop := stackScriptsRow.holds Try.pinned (OpenSpec.ofChange stackScriptsWrong)

/-- 'beadlelaw09.StackNil': WHATEVER THE INPUT: true; the input reads as it did. -/
def stackNilSpec : ChangeSpec := { name := "stackNil", fn := fun _ => fun
  | [d1, d2] => { results := [.lit (.bool true)], args := [d1, d2] }
  | _ => none }
def stackNilRow : OpenClaim := { program := "ytlhplhncdljicaa", sum := "7bf367a6d0dc4e7189171661353c8ed0bdf0126b1f988529da5b13059e712942", func := "beadle/beadlelaw09.StackNil", spec := "stackNil", inPlace := ["slices.overlaps[beadle/stack.Item]"], unfollowed := true, recurses := true, apart := false }
def StackNilSaid : Prop := stackNilRow.holds Try.pinned (OpenSpec.ofChange stackNilSpec)

/-- ITS FALSE NEIGHBOUR: 'it returns false'. Refute it at one input. -/
def stackNilWrong : ChangeSpec := { name := "stackNil", fn := fun _ => fun
  | [d1, d2] => { results := [.lit (.bool false)], args := [d1, d2] }
  | _ => none }
def StackNilWrongFalsely : Prop := stackNilRow.holds Try.pinned (OpenSpec.ofChange stackNilWrong)

/-- 'beadlelaw10.MarksScripts': WHATEVER THE INPUT: true; the input reads as it did. -/
def marksScriptsSpec : ChangeSpec := { name := "marksScripts", fn := fun _ => fun
  | [d1, d2] => { results := [.lit (.bool true)], args := [d1, d2] }
  | _ => none }
def marksScriptsRow : OpenClaim := { program := "ytlhplhncdljicaa", sum := "7bf367a6d0dc4e7189171661353c8ed0bdf0126b1f988529da5b13059e712942", func := "beadle/beadlelaw10.MarksScripts", spec := "marksScripts", inPlace := ["slices.overlaps[beadle/marks.Entry]"], unfollowed := true, recurses := true, apart := false }
def MarksScriptsSaid : Prop := marksScriptsRow.holds Try.pinned (OpenSpec.ofChange marksScriptsSpec)

/-- ITS FALSE NEIGHBOUR: 'it returns false'. Refute it at one input. -/
def marksScriptsWrong : ChangeSpec := { name := "marksScripts", fn := fun _ => fun
  | [d1, d2] => { results := [.lit (.bool false)], args := [d1, d2] }
  | _ => none }
def MarksScriptsWrongFalsely : Prop := marksScriptsRow.holds Try.pinned (OpenSpec.ofChange marksScriptsWrong)

/-- 'beadlelaw10.MarksNil': WHATEVER THE INPUT: true; the input reads as it did. -/
def marksNilSpec : ChangeSpec := { name := "marksNil", fn := fun _ => fun
  | [d1, d2] => { results := [.lit (.bool true)], args := [d1, d2] }
  | _ => none }
def marksNilRow : OpenClaim := { program := "ytlhplhncdljicaa", sum := "7bf367a6d0dc4e7189171661353c8ed0bdf0126b1f988529da5b13059e712942", func := "beadle/beadlelaw10.MarksNil", spec := "marksNil", inPlace := ["slices.overlaps[beadle/marks.Entry]"], unfollowed := true, recurses := true, apart := false }
def MarksNilSaid : Prop := marksNilRow.holds Try.pinned (OpenSpec.ofChange marksNilSpec)

/-- ITS FALSE NEIGHBOUR: 'it returns false'. Refute it at one input. -/
def marksNilWrong : ChangeSpec := { name := "marksNil", fn := fun _ => fun
  | [d1, d2] => { results := [.lit (.bool false)], args := [d1, d2] }
  | _ => none }
def MarksNilWrongFalsely : Prop := marksNilRow.holds Try.pinned (OpenSpec.ofChange marksNilWrong)

/- THE SECOND FORM. 'bulk': how many values and letters a reading holds, each counted each time it is reached (what is shared counts as often as it is met; a slice's spare places count too). A statement '..UptoSaid' is the law's where the arguments, and the package variables that the reading takes, are together of bulk at most 1048576: NARROWER than '..Said'. Prove '..Said' where nothing that the law and all that it calls make is longer than what came in: it says more and counts as full. Else prove '..UptoSaid'. A law counts once. -/
mutual
def uptoBulk {H : Type} : DataW H → Nat
  | .lit (.string bytes) => bytes.length + 1
  | .lit _ => 1
  | .nil => 1
  | .ptr d => uptoBulk d + 1
  | .slice elems spare => uptoBulkAll elems + uptoBulkAll spare + 1
  | .agg parts => uptoBulkAll parts + 1
  | .iface _ d => uptoBulk d + 1
  | .map entries => uptoBulkEntries entries + 1
  | .held _ => 1
def uptoBulkAll {H : Type} : List (DataW H) → Nat
  | [] => 0
  | d :: r => uptoBulk d + uptoBulkAll r
def uptoBulkEntries {H : Type} : List (Lit × DataW H) → Nat
  | [] => 0
  | x :: r => uptoBulkEntry x + uptoBulkEntries r
def uptoBulkEntry {H : Type} : Lit × DataW H → Nat
  | (.string bytes, d) => bytes.length + uptoBulk d + 1
  | (_, d) => uptoBulk d + 1
 end
def uptoSmall : (H : Type) → List (DataW H) → Bool := fun _ ds => decide (uptoBulkAll ds ≤ 1048576)
def OpenSpec.upto (s : _root_.Go.ChangeSpec) : _root_.Go.OpenSpec := { _root_.Go.OpenSpec.ofChange s with cond := some uptoSmall }

/-- 'beadlelaw09.StackScopes', WHERE WHAT IT READS IS OF BULK AT MOST 1048576: true; the input reads as it did. -/
def stackScopesUptoRow : OpenClaim := { program := "ytlhplhncdljicaa", sum := "7bf367a6d0dc4e7189171661353c8ed0bdf0126b1f988529da5b13059e712942", func := "beadle/beadlelaw09.StackScopes", spec := "stackScopes", unfollowed := true, recurses := true, apart := false, narrowed := true }
def StackScopesUptoSaid : Prop := stackScopesUptoRow.holds Try.pinned (OpenSpec.upto stackScopesSpec)

/-- 'beadlelaw10.MarksAlike', WHERE WHAT IT READS IS OF BULK AT MOST 1048576: true; the input reads as it did. -/
def marksAlikeUptoRow : OpenClaim := { program := "ytlhplhncdljicaa", sum := "7bf367a6d0dc4e7189171661353c8ed0bdf0126b1f988529da5b13059e712942", func := "beadle/beadlelaw10.MarksAlike", spec := "marksAlike", unfollowed := true, recurses := true, apart := false, narrowed := true }
def MarksAlikeUptoSaid : Prop := marksAlikeUptoRow.holds Try.pinned (OpenSpec.upto marksAlikeSpec)

/-- 'beadlelaw10.MarksMost', WHERE WHAT IT READS IS OF BULK AT MOST 1048576: true; the input reads as it did. -/
def marksMostUptoRow : OpenClaim := { program := "ytlhplhncdljicaa", sum := "7bf367a6d0dc4e7189171661353c8ed0bdf0126b1f988529da5b13059e712942", func := "beadle/beadlelaw10.MarksMost", spec := "marksMost", unfollowed := true, recurses := true, apart := false, narrowed := true }
def MarksMostUptoSaid : Prop := marksMostUptoRow.holds Try.pinned (OpenSpec.upto marksMostSpec)

/-- 'beadlelaw09.StackScripts', WHERE WHAT IT READS IS OF BULK AT MOST 1048576: true; the input reads as it did. -/
def stackScriptsUptoRow : OpenClaim := { program := "ytlhplhncdljicaa", sum := "7bf367a6d0dc4e7189171661353c8ed0bdf0126b1f988529da5b13059e712942", func := "beadle/beadlelaw09.StackScripts", spec := "stackScripts", inPlace := ["slices.overlaps[beadle/stack.Item]"], unfollowed := true, recurses := true, apart := false, narrowed := true }
def StackScriptsUptoSaid : Prop := stackScriptsUptoRow.holds Try.pinned (OpenSpec.upto stackScriptsSpec)

/-- 'beadlelaw09.StackNil', WHERE WHAT IT READS IS OF BULK AT MOST 1048576: true; the input reads as it did. -/
def stackNilUptoRow : OpenClaim := { program := "ytlhplhncdljicaa", sum := "7bf367a6d0dc4e7189171661353c8ed0bdf0126b1f988529da5b13059e712942", func := "beadle/beadlelaw09.StackNil", spec := "stackNil", inPlace := ["slices.overlaps[beadle/stack.Item]"], unfollowed := true, recurses := true, apart := false, narrowed := true }
def StackNilUptoSaid : Prop := stackNilUptoRow.holds Try.pinned (OpenSpec.upto stackNilSpec)

/-- 'beadlelaw10.MarksScripts', WHERE WHAT IT READS IS OF BULK AT MOST 1048576: true; the input reads as it did. -/
def marksScriptsUptoRow : OpenClaim := { program := "ytlhplhncdljicaa", sum := "7bf367a6d0dc4e7189171661353c8ed0bdf0126b1f988529da5b13059e712942", func := "beadle/beadlelaw10.MarksScripts", spec := "marksScripts", inPlace := ["slices.overlaps[beadle/marks.Entry]"], unfollowed := true, recurses := true, apart := false, narrowed := true }
def MarksScriptsUptoSaid : Prop := marksScriptsUptoRow.holds Try.pinned (OpenSpec.upto marksScriptsSpec)

/-- 'beadlelaw10.MarksNil', WHERE WHAT IT READS IS OF BULK AT MOST 1048576: true; the input reads as it did. -/
def marksNilUptoRow : OpenClaim := { program := "ytlhplhncdljicaa", sum := "7bf367a6d0dc4e7189171661353c8ed0bdf0126b1f988529da5b13059e712942", func := "beadle/beadlelaw10.MarksNil", spec := "marksNil", inPlace := ["slices.overlaps[beadle/marks.Entry]"], unfollowed := true, recurses := true, apart := false, narrowed := true }
def MarksNilUptoSaid : Prop := marksNilUptoRow.holds Try.pinned (OpenSpec.upto marksNilSpec)

end Rows
end Go.Proofs.Ytlhplhncdljicaa
