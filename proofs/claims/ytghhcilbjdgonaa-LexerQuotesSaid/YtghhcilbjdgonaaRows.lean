/-
  No cell of these rows narrows 'for every input' (looked for: loops, veiled, ifaces, maps, wideKeys, modest, calm, conditions, laid).
  DERIVED. THE GIVEN ROWS OF THIS SEAT. 5 by the template 'for every input the law returns true; each argument reads behind the call as it read before'; 0 by the template 'total and deterministic' (their statements: YtghhcilbjdgonaaTotals.lean).
  GIVEN WITH THE SEED: the statements are not yours to turn. If you find one false, say at which input.
  Laid BY PROGRAM, IN A SANDBOX (cutbox-rows.mjs): the forced cells as the released guide's own fill.sh prints them over the translation 50796d9dbf62a393… (all of the seat's roots in one cut). By AI agents, Wed Nov 11 2026. No macro, syntax, notation, axiom, sorry.
-/
import Derived.Test.YtghhcilbjdgonaaChecked
import GoSem.Claim
import GoSem.ClaimJoined
import GoSem.ClaimMapViews
import Derived.JoinedTies
import Derived.KernelRfl
namespace Go.Proofs.Ytghhcilbjdgonaa
/- THE CELL 'sum', in the pinned program and in every row, IS THE sha256 OF THE DUMP (.gsa) THAT YtghhcilbjdgonaaProg.lean LOADS. Nothing in Lean hashes anything: it is a label: what it is worth is what the hold of that sum in a sandbox is worth. -/
noncomputable def Try.pinned : Pinned := { name := "ytghhcilbjdgonaa", sum := "50796d9dbf62a3931f1082c0edbe43aa006b521bf44423ee8cabe3bb921a2647", checked := Try.checked }
namespace Rows
def none {H : Type} : Left H := { results := [], args := [] }

/-- 'beadlelaw05.LexerQuotes': WHATEVER THE INPUT: true; the input reads as it did. -/
def lexerQuotesSpec : ChangeSpec := { name := "lexerQuotes", fn := fun _ => fun
  | [d] => { results := [.lit (.bool true)], args := [d] }
  | _ => none }
def lexerQuotesRow : OpenClaim := { program := "ytghhcilbjdgonaa", sum := "50796d9dbf62a3931f1082c0edbe43aa006b521bf44423ee8cabe3bb921a2647", func := "beadle/beadlelaw05.LexerQuotes", spec := "lexerQuotes", inPlace := ["internal/bytealg.IndexByteString", "internal/bytealg.abigen_runtime_cmpstring"], unfollowed := true, recurses := true, apart := false }
def LexerQuotesSaid : Prop := lexerQuotesRow.holds Try.pinned (OpenSpec.ofChange lexerQuotesSpec)

/-- ITS FALSE NEIGHBOUR: 'it returns false'. Refute it at one input. -/
def lexerQuotesWrong : ChangeSpec := { name := "lexerQuotes", fn := fun _ => fun
  | [d] => { results := [.lit (.bool false)], args := [d] }
  | _ => none }
def LexerQuotesWrongFalsely : Prop := lexerQuotesRow.holds Try.pinned (OpenSpec.ofChange lexerQuotesWrong)

/-- 'beadlelaw05.LexerNil': WHATEVER THE INPUT: true; the input reads as it did. -/
def lexerNilSpec : ChangeSpec := { name := "lexerNil", fn := fun _ => fun
  | [d] => { results := [.lit (.bool true)], args := [d] }
  | _ => none }
def lexerNilRow : OpenClaim := { program := "ytghhcilbjdgonaa", sum := "50796d9dbf62a3931f1082c0edbe43aa006b521bf44423ee8cabe3bb921a2647", func := "beadle/beadlelaw05.LexerNil", spec := "lexerNil", inPlace := ["internal/bytealg.IndexByteString", "internal/bytealg.abigen_runtime_cmpstring"], unfollowed := true, recurses := true, apart := false }
def LexerNilSaid : Prop := lexerNilRow.holds Try.pinned (OpenSpec.ofChange lexerNilSpec)

/-- ITS FALSE NEIGHBOUR: 'it returns false'. Refute it at one input. -/
def lexerNilWrong : ChangeSpec := { name := "lexerNil", fn := fun _ => fun
  | [d] => { results := [.lit (.bool false)], args := [d] }
  | _ => none }
def LexerNilWrongFalsely : Prop := lexerNilRow.holds Try.pinned (OpenSpec.ofChange lexerNilWrong)

/-- 'beadlelaw05.LexerPlain': WHATEVER THE INPUT: true; the input reads as it did. -/
def lexerPlainSpec : ChangeSpec := { name := "lexerPlain", fn := fun _ => fun
  | [d1, d2] => { results := [.lit (.bool true)], args := [d1, d2] }
  | _ => none }
def lexerPlainRow : OpenClaim := { program := "ytghhcilbjdgonaa", sum := "50796d9dbf62a3931f1082c0edbe43aa006b521bf44423ee8cabe3bb921a2647", func := "beadle/beadlelaw05.LexerPlain", spec := "lexerPlain", inPlace := ["internal/bytealg.IndexByteString", "internal/bytealg.abigen_runtime_cmpstring"], unfollowed := true, recurses := true, apart := false }
def LexerPlainSaid : Prop := lexerPlainRow.holds Try.pinned (OpenSpec.ofChange lexerPlainSpec)

/-- ITS FALSE NEIGHBOUR: 'it returns false'. Refute it at one input. -/
def lexerPlainWrong : ChangeSpec := { name := "lexerPlain", fn := fun _ => fun
  | [d1, d2] => { results := [.lit (.bool false)], args := [d1, d2] }
  | _ => none }
def LexerPlainWrongFalsely : Prop := lexerPlainRow.holds Try.pinned (OpenSpec.ofChange lexerPlainWrong)

/-- 'beadlelaw05.LexerTexts': WHATEVER THE INPUT: true; the input reads as it did. -/
def lexerTextsSpec : ChangeSpec := { name := "lexerTexts", fn := fun _ => fun
  | [d] => { results := [.lit (.bool true)], args := [d] }
  | _ => none }
def lexerTextsRow : OpenClaim := { program := "ytghhcilbjdgonaa", sum := "50796d9dbf62a3931f1082c0edbe43aa006b521bf44423ee8cabe3bb921a2647", func := "beadle/beadlelaw05.LexerTexts", spec := "lexerTexts", inPlace := ["internal/bytealg.IndexByteString", "internal/bytealg.abigen_runtime_cmpstring"], unfollowed := true, recurses := true, apart := false }
def LexerTextsSaid : Prop := lexerTextsRow.holds Try.pinned (OpenSpec.ofChange lexerTextsSpec)

/-- ITS FALSE NEIGHBOUR: 'it returns false'. Refute it at one input. -/
def lexerTextsWrong : ChangeSpec := { name := "lexerTexts", fn := fun _ => fun
  | [d] => { results := [.lit (.bool false)], args := [d] }
  | _ => none }
def LexerTextsWrongFalsely : Prop := lexerTextsRow.holds Try.pinned (OpenSpec.ofChange lexerTextsWrong)

/-- 'beadlelaw05.LexerEnds': WHATEVER THE INPUT: true; the input reads as it did. -/
def lexerEndsSpec : ChangeSpec := { name := "lexerEnds", fn := fun _ => fun
  | [d1, d2] => { results := [.lit (.bool true)], args := [d1, d2] }
  | _ => none }
def lexerEndsRow : OpenClaim := { program := "ytghhcilbjdgonaa", sum := "50796d9dbf62a3931f1082c0edbe43aa006b521bf44423ee8cabe3bb921a2647", func := "beadle/beadlelaw05.LexerEnds", spec := "lexerEnds", inPlace := ["internal/bytealg.IndexByteString", "internal/bytealg.abigen_runtime_cmpstring"], unfollowed := true, recurses := true, apart := false }
def LexerEndsSaid : Prop := lexerEndsRow.holds Try.pinned (OpenSpec.ofChange lexerEndsSpec)

/-- ITS FALSE NEIGHBOUR: 'it returns false'. Refute it at one input. -/
def lexerEndsWrong : ChangeSpec := { name := "lexerEnds", fn := fun _ => fun
  | [d1, d2] => { results := [.lit (.bool false)], args := [d1, d2] }
  | _ => none }
def LexerEndsWrongFalsely : Prop := lexerEndsRow.holds Try.pinned (OpenSpec.ofChange lexerEndsWrong)

/- THE SECOND FORM. 'bulk': how many values and letters a reading holds, each counted each time it is reached (what is shared counts as often as it is met; a slice's spare places count too). A statement '..UptoSaid' is the law's where the arguments, and the package variables that the reading takes, are together of bulk at most 1048576: NARROWER than '..Said'. Prove '..Said' where nothing that the law and all that it calls make is longer than what came in: it says more and counts as full. Else prove '..UptoSaid'. A law counts once. -/
mutual
def uptoBulk {H : Type} : DataW H → Nat
  | .lit (.string bytes) => bytes.length + 1
  | .lit _ => 1
  | .nil => 1
  | .ptr d => uptoBulk d + 1
  | .slice elems spare => uptoBulkAll elems + uptoBulkAll spare + 1
  | .agg parts => uptoBulkAll parts + 1
  | .iface _ d => uptoBulk d + 1
  | .map entries => uptoBulkEntries entries + 1
  | .held _ => 1
def uptoBulkAll {H : Type} : List (DataW H) → Nat
  | [] => 0
  | d :: r => uptoBulk d + uptoBulkAll r
def uptoBulkEntries {H : Type} : List (Lit × DataW H) → Nat
  | [] => 0
  | x :: r => uptoBulkEntry x + uptoBulkEntries r
def uptoBulkEntry {H : Type} : Lit × DataW H → Nat
  | (.string bytes, d) => bytes.length + uptoBulk d + 1
  | (_, d) => uptoBulk d + 1
 end
def uptoSmall : (H : Type) → List (DataW H) → Bool := fun _ ds => decide (uptoBulkAll ds ≤ 1048576)
def OpenSpec.upto (s : _root_.Go.ChangeSpec) : _root_.Go.OpenSpec := { _root_.Go.OpenSpec.ofChange s with cond := some uptoSmall }

/-- 'beadlelaw05.LexerQuotes', WHERE WHAT IT READS IS OF BULK AT MOST 1048576: true; the input reads as it did. -/
def lexerQuotesUptoRow : OpenClaim := { program := "ytghhcilbjdgonaa", sum := "50796d9dbf62a3931f1082c0edbe43aa006b521bf44423ee8cabe3bb921a2647", func := "beadle/beadlelaw05.LexerQuotes", spec := "lexerQuotes", inPlace := ["internal/bytealg.IndexByteString", "internal/bytealg.abigen_runtime_cmpstring"], unfollowed := true, recurses := true, apart := false, narrowed := true }
def LexerQuotesUptoSaid : Prop := lexerQuotesUptoRow.holds Try.pinned (OpenSpec.upto lexerQuotesSpec)

/-- 'beadlelaw05.LexerNil', WHERE WHAT IT READS IS OF BULK AT MOST 1048576: true; the input reads as it did. -/
def lexerNilUptoRow : OpenClaim := { program := "ytghhcilbjdgonaa", sum := "50796d9dbf62a3931f1082c0edbe43aa006b521bf44423ee8cabe3bb921a2647", func := "beadle/beadlelaw05.LexerNil", spec := "lexerNil", inPlace := ["internal/bytealg.IndexByteString", "internal/bytealg.abigen_runtime_cmpstring"], unfollowed := true, recurses := true, apart := false, narrowed := true }
def LexerNilUptoSaid : Prop := lexerNilUptoRow.holds Try.pinned (OpenSpec.upto lexerNilSpec)

/-- 'beadlelaw05.LexerPlain', WHERE WHAT IT READS IS OF BULK AT MOST 1048576: true; the input reads as it did. -/
def lexerPlainUptoRow : OpenClaim := { program := "ytghhcilbjdgonaa", sum := "50796d9dbf62a3931f1082c0edbe43aa006b521bf44423ee8cabe3bb921a2647", func := "beadle/beadlelaw05.LexerPlain", spec := "lexerPlain", inPlace := ["internal/bytealg.IndexByteString", "internal/bytealg.abigen_runtime_cmpstring"], unfollowed := true, recurses := true, apart := false, narrowed := true }
def LexerPlainUptoSaid : Prop := lexerPlainUptoRow.holds Try.pinned (OpenSpec.upto lexerPlainSpec)

/-- 'beadlelaw05.LexerTexts', WHERE WHAT IT READS IS OF BULK AT MOST 1048576: true; the input reads as it did. -/
def lexerTextsUptoRow : OpenClaim := { program := "ytghhcilbjdgonaa", sum := "50796d9dbf62a3931f1082c0edbe43aa006b521bf44423ee8cabe3bb921a2647", func := "beadle/beadlelaw05.LexerTexts", spec := "lexerTexts", inPlace := ["internal/bytealg.IndexByteString", "internal/bytealg.abigen_runtime_cmpstring"], unfollowed := true, recurses := true, apart := false, narrowed := true }
def LexerTextsUptoSaid : Prop := lexerTextsUptoRow.holds Try.pinned (OpenSpec.upto lexerTextsSpec)

/-- 'beadlelaw05.LexerEnds', WHERE WHAT IT READS IS OF BULK AT MOST 1048576: true; the input reads as it did. -/
def lexerEndsUptoRow : OpenClaim := { program := "ytghhcilbjdgonaa", sum := "50796d9dbf62a3931f1082c0edbe43aa006b521bf44423ee8cabe3bb921a2647", func := "beadle/beadlelaw05.LexerEnds", spec := "lexerEnds", inPlace := ["internal/bytealg.IndexByteString", "internal/bytealg.abigen_runtime_cmpstring"], unfollowed := true, recurses := true, apart := false, narrowed := true }
def LexerEndsUptoSaid : Prop := lexerEndsUptoRow.holds Try.pinned (OpenSpec.upto lexerEndsSpec)

end Rows
end Go.Proofs.Ytghhcilbjdgonaa
