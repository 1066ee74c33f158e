/-
  No cell of these rows narrows 'for every input' (looked for: loops, veiled, ifaces, maps, wideKeys, modest, calm, conditions, laid).
  DERIVED. THE GIVEN ROWS OF THIS SEAT. 12 by the template 'for every input the law returns true; each argument reads behind the call as it read before'; 0 by the template 'total and deterministic' (their statements: YtebgogcdndmaaaaTotals.lean).
  GIVEN WITH THE SEED: the statements are not yours to turn. If you find one false, say at which input.
  Laid BY PROGRAM, IN A SANDBOX (cutbox-rows.mjs): the forced cells as the released guide's own fill.sh prints them over the translation 839c4419d4a93d90… (all of the seat's roots in one cut). By AI agents, Wed Nov 11 2026. No macro, syntax, notation, axiom, sorry.
-/
import Derived.Test.YtebgogcdndmaaaaChecked
import GoSem.Claim
import GoSem.ClaimJoined
import GoSem.ClaimMapViews
import Derived.JoinedTies
import Derived.KernelRfl
namespace Go.Proofs.Ytebgogcdndmaaaa
/- THE CELL 'sum', in the pinned program and in every row, IS THE sha256 OF THE DUMP (.gsa) THAT YtebgogcdndmaaaaProg.lean LOADS. Nothing in Lean hashes anything: it is a label: what it is worth is what the hold of that sum in a sandbox is worth. -/
noncomputable def Try.pinned : Pinned := { name := "ytebgogcdndmaaaa", sum := "839c4419d4a93d90cadd3da9bd4c53e2a9ab5bb8c399196ecd5e04315eb8caa6", checked := Try.checked }
namespace Rows
def none {H : Type} : Left H := { results := [], args := [] }

/-- 'beadlelaw11.TreeVoid': WHATEVER THE INPUT: true; the input reads as it did. -/
def treeVoidSpec : ChangeSpec := { name := "treeVoid", fn := fun _ => fun
  | [d] => { results := [.lit (.bool true)], args := [d] }
  | _ => none }
def treeVoidRow : OpenClaim := { program := "ytebgogcdndmaaaa", sum := "839c4419d4a93d90cadd3da9bd4c53e2a9ab5bb8c399196ecd5e04315eb8caa6", func := "beadle/beadlelaw11.TreeVoid", spec := "treeVoid", apart := false }
def TreeVoidSaid : Prop := treeVoidRow.holds Try.pinned (OpenSpec.ofChange treeVoidSpec)

/-- ITS FALSE NEIGHBOUR: 'it returns false'. Refute it at one input. -/
def treeVoidWrong : ChangeSpec := { name := "treeVoid", fn := fun _ => fun
  | [d] => { results := [.lit (.bool false)], args := [d] }
  | _ => none }
def TreeVoidWrongFalsely : Prop := treeVoidRow.holds Try.pinned (OpenSpec.ofChange treeVoidWrong)

/-- 'beadlelaw09.StackSpecial': WHATEVER THE INPUT: true; the input reads as it did. -/
def stackSpecialSpec : ChangeSpec := { name := "stackSpecial", fn := fun _ => fun
  | [d] => { results := [.lit (.bool true)], args := [d] }
  | _ => none }
def stackSpecialRow : OpenClaim := { program := "ytebgogcdndmaaaa", sum := "839c4419d4a93d90cadd3da9bd4c53e2a9ab5bb8c399196ecd5e04315eb8caa6", func := "beadle/beadlelaw09.StackSpecial", spec := "stackSpecial", apart := false }
def StackSpecialSaid : Prop := stackSpecialRow.holds Try.pinned (OpenSpec.ofChange stackSpecialSpec)

/-- ITS FALSE NEIGHBOUR: 'it returns false'. Refute it at one input. -/
def stackSpecialWrong : ChangeSpec := { name := "stackSpecial", fn := fun _ => fun
  | [d] => { results := [.lit (.bool false)], args := [d] }
  | _ => none }
def StackSpecialWrongFalsely : Prop := stackSpecialRow.holds Try.pinned (OpenSpec.ofChange stackSpecialWrong)

/-- 'beadlelaw05.LexerModes': WHATEVER THE INPUT: true; the input reads as it did. -/
def lexerModesSpec : ChangeSpec := { name := "lexerModes", fn := fun _ => fun
  | [d] => { results := [.lit (.bool true)], args := [d] }
  | _ => none }
def lexerModesRow : OpenClaim := { program := "ytebgogcdndmaaaa", sum := "839c4419d4a93d90cadd3da9bd4c53e2a9ab5bb8c399196ecd5e04315eb8caa6", func := "beadle/beadlelaw05.LexerModes", spec := "lexerModes", apart := false }
def LexerModesSaid : Prop := lexerModesRow.holds Try.pinned (OpenSpec.ofChange lexerModesSpec)

/-- ITS FALSE NEIGHBOUR: 'it returns false'. Refute it at one input. -/
def lexerModesWrong : ChangeSpec := { name := "lexerModes", fn := fun _ => fun
  | [d] => { results := [.lit (.bool false)], args := [d] }
  | _ => none }
def LexerModesWrongFalsely : Prop := lexerModesRow.holds Try.pinned (OpenSpec.ofChange lexerModesWrong)

/-- 'beadlelaw04.CharrefList': WHATEVER THE INPUT: true; the input reads as it did. -/
def charrefListSpec : ChangeSpec := { name := "charrefList", fn := fun _ => fun
  | [d] => { results := [.lit (.bool true)], args := [d] }
  | _ => none }
def charrefListRow : OpenClaim := { program := "ytebgogcdndmaaaa", sum := "839c4419d4a93d90cadd3da9bd4c53e2a9ab5bb8c399196ecd5e04315eb8caa6", func := "beadle/beadlelaw04.CharrefList", spec := "charrefList", inPlace := ["internal/bytealg.abigen_runtime_cmpstring"], unfollowed := true, recurses := true, apart := false }
def CharrefListSaid : Prop := charrefListRow.holds Try.pinned (OpenSpec.ofChange charrefListSpec)

/-- ITS FALSE NEIGHBOUR: 'it returns false'. Refute it at one input. -/
def charrefListWrong : ChangeSpec := { name := "charrefList", fn := fun _ => fun
  | [d] => { results := [.lit (.bool false)], args := [d] }
  | _ => none }
def CharrefListWrongFalsely : Prop := charrefListRow.holds Try.pinned (OpenSpec.ofChange charrefListWrong)

/-- 'beadlelaw02.DecodeSoon': WHATEVER THE INPUT: true; the input reads as it did. -/
def decodeSoonSpec : ChangeSpec := { name := "decodeSoon", fn := fun _ => fun
  | [d1, d2] => { results := [.lit (.bool true)], args := [d1, d2] }
  | _ => none }
def decodeSoonRow : OpenClaim := { program := "ytebgogcdndmaaaa", sum := "839c4419d4a93d90cadd3da9bd4c53e2a9ab5bb8c399196ecd5e04315eb8caa6", func := "beadle/beadlelaw02.DecodeSoon", spec := "decodeSoon", apart := false }
def DecodeSoonSaid : Prop := decodeSoonRow.holds Try.pinned (OpenSpec.ofChange decodeSoonSpec)

/-- ITS FALSE NEIGHBOUR: 'it returns false'. Refute it at one input. -/
def decodeSoonWrong : ChangeSpec := { name := "decodeSoon", fn := fun _ => fun
  | [d1, d2] => { results := [.lit (.bool false)], args := [d1, d2] }
  | _ => none }
def DecodeSoonWrongFalsely : Prop := decodeSoonRow.holds Try.pinned (OpenSpec.ofChange decodeSoonWrong)

/-- 'beadlelaw02.DecodeBack': WHATEVER THE INPUT: true; the input reads as it did. -/
def decodeBackSpec : ChangeSpec := { name := "decodeBack", fn := fun _ => fun
  | [d] => { results := [.lit (.bool true)], args := [d] }
  | _ => none }
def decodeBackRow : OpenClaim := { program := "ytebgogcdndmaaaa", sum := "839c4419d4a93d90cadd3da9bd4c53e2a9ab5bb8c399196ecd5e04315eb8caa6", func := "beadle/beadlelaw02.DecodeBack", spec := "decodeBack", apart := false }
def DecodeBackSaid : Prop := decodeBackRow.holds Try.pinned (OpenSpec.ofChange decodeBackSpec)

/-- ITS FALSE NEIGHBOUR: 'it returns false'. Refute it at one input. -/
def decodeBackWrong : ChangeSpec := { name := "decodeBack", fn := fun _ => fun
  | [d] => { results := [.lit (.bool false)], args := [d] }
  | _ => none }
def DecodeBackWrongFalsely : Prop := decodeBackRow.holds Try.pinned (OpenSpec.ofChange decodeBackWrong)

/-- 'beadlelaw02.DecodeByte': WHATEVER THE INPUT: true; the input reads as it did. -/
def decodeByteSpec : ChangeSpec := { name := "decodeByte", fn := fun _ => fun
  | [d1, d2] => { results := [.lit (.bool true)], args := [d1, d2] }
  | _ => none }
def decodeByteRow : OpenClaim := { program := "ytebgogcdndmaaaa", sum := "839c4419d4a93d90cadd3da9bd4c53e2a9ab5bb8c399196ecd5e04315eb8caa6", func := "beadle/beadlelaw02.DecodeByte", spec := "decodeByte", apart := false }
def DecodeByteSaid : Prop := decodeByteRow.holds Try.pinned (OpenSpec.ofChange decodeByteSpec)

/-- ITS FALSE NEIGHBOUR: 'it returns false'. Refute it at one input. -/
def decodeByteWrong : ChangeSpec := { name := "decodeByte", fn := fun _ => fun
  | [d1, d2] => { results := [.lit (.bool false)], args := [d1, d2] }
  | _ => none }
def DecodeByteWrongFalsely : Prop := decodeByteRow.holds Try.pinned (OpenSpec.ofChange decodeByteWrong)

/-- 'beadlelaw04.CharrefNames': WHATEVER THE INPUT: true; the input reads as it did. -/
def charrefNamesSpec : ChangeSpec := { name := "charrefNames", fn := fun _ => fun
  | [d] => { results := [.lit (.bool true)], args := [d] }
  | _ => none }
def charrefNamesRow : OpenClaim := { program := "ytebgogcdndmaaaa", sum := "839c4419d4a93d90cadd3da9bd4c53e2a9ab5bb8c399196ecd5e04315eb8caa6", func := "beadle/beadlelaw04.CharrefNames", spec := "charrefNames", inPlace := ["internal/bytealg.abigen_runtime_cmpstring"], unfollowed := true, recurses := true, apart := false }
def CharrefNamesSaid : Prop := charrefNamesRow.holds Try.pinned (OpenSpec.ofChange charrefNamesSpec)

/-- ITS FALSE NEIGHBOUR: 'it returns false'. Refute it at one input. -/
def charrefNamesWrong : ChangeSpec := { name := "charrefNames", fn := fun _ => fun
  | [d] => { results := [.lit (.bool false)], args := [d] }
  | _ => none }
def CharrefNamesWrongFalsely : Prop := charrefNamesRow.holds Try.pinned (OpenSpec.ofChange charrefNamesWrong)

/-- 'beadlelaw04.CharrefLonger': WHATEVER THE INPUT: true; the input reads as it did. -/
def charrefLongerSpec : ChangeSpec := { name := "charrefLonger", fn := fun _ => fun
  | [d1, d2] => { results := [.lit (.bool true)], args := [d1, d2] }
  | _ => none }
def charrefLongerRow : OpenClaim := { program := "ytebgogcdndmaaaa", sum := "839c4419d4a93d90cadd3da9bd4c53e2a9ab5bb8c399196ecd5e04315eb8caa6", func := "beadle/beadlelaw04.CharrefLonger", spec := "charrefLonger", inPlace := ["internal/bytealg.abigen_runtime_cmpstring"], unfollowed := true, recurses := true, apart := false }
def CharrefLongerSaid : Prop := charrefLongerRow.holds Try.pinned (OpenSpec.ofChange charrefLongerSpec)

/-- ITS FALSE NEIGHBOUR: 'it returns false'. Refute it at one input. -/
def charrefLongerWrong : ChangeSpec := { name := "charrefLonger", fn := fun _ => fun
  | [d1, d2] => { results := [.lit (.bool false)], args := [d1, d2] }
  | _ => none }
def CharrefLongerWrongFalsely : Prop := charrefLongerRow.holds Try.pinned (OpenSpec.ofChange charrefLongerWrong)

/-- 'beadlelaw04.CharrefNumbers': WHATEVER THE INPUT: true; the input reads as it did. -/
def charrefNumbersSpec : ChangeSpec := { name := "charrefNumbers", fn := fun _ => fun
  | [d] => { results := [.lit (.bool true)], args := [d] }
  | _ => none }
def charrefNumbersRow : OpenClaim := { program := "ytebgogcdndmaaaa", sum := "839c4419d4a93d90cadd3da9bd4c53e2a9ab5bb8c399196ecd5e04315eb8caa6", func := "beadle/beadlelaw04.CharrefNumbers", spec := "charrefNumbers", apart := false }
def CharrefNumbersSaid : Prop := charrefNumbersRow.holds Try.pinned (OpenSpec.ofChange charrefNumbersSpec)

/-- ITS FALSE NEIGHBOUR: 'it returns false'. Refute it at one input. -/
def charrefNumbersWrong : ChangeSpec := { name := "charrefNumbers", fn := fun _ => fun
  | [d] => { results := [.lit (.bool false)], args := [d] }
  | _ => none }
def CharrefNumbersWrongFalsely : Prop := charrefNumbersRow.holds Try.pinned (OpenSpec.ofChange charrefNumbersWrong)

/-- 'beadlelaw02.DecodeLines': WHATEVER THE INPUT: true; the input reads as it did. -/
def decodeLinesSpec : ChangeSpec := { name := "decodeLines", fn := fun _ => fun
  | [d] => { results := [.lit (.bool true)], args := [d] }
  | _ => none }
def decodeLinesRow : OpenClaim := { program := "ytebgogcdndmaaaa", sum := "839c4419d4a93d90cadd3da9bd4c53e2a9ab5bb8c399196ecd5e04315eb8caa6", func := "beadle/beadlelaw02.DecodeLines", spec := "decodeLines", apart := false }
def DecodeLinesSaid : Prop := decodeLinesRow.holds Try.pinned (OpenSpec.ofChange decodeLinesSpec)

/-- ITS FALSE NEIGHBOUR: 'it returns false'. Refute it at one input. -/
def decodeLinesWrong : ChangeSpec := { name := "decodeLines", fn := fun _ => fun
  | [d] => { results := [.lit (.bool false)], args := [d] }
  | _ => none }
def DecodeLinesWrongFalsely : Prop := decodeLinesRow.holds Try.pinned (OpenSpec.ofChange decodeLinesWrong)

/-- 'beadlelaw04.CharrefScalars': WHATEVER THE INPUT: true; the input reads as it did. -/
def charrefScalarsSpec : ChangeSpec := { name := "charrefScalars", fn := fun _ => fun
  | [d] => { results := [.lit (.bool true)], args := [d] }
  | _ => none }
def charrefScalarsRow : OpenClaim := { program := "ytebgogcdndmaaaa", sum := "839c4419d4a93d90cadd3da9bd4c53e2a9ab5bb8c399196ecd5e04315eb8caa6", func := "beadle/beadlelaw04.CharrefScalars", spec := "charrefScalars", inPlace := ["internal/bytealg.abigen_runtime_cmpstring"], unfollowed := true, recurses := true, apart := false }
def CharrefScalarsSaid : Prop := charrefScalarsRow.holds Try.pinned (OpenSpec.ofChange charrefScalarsSpec)

/-- ITS FALSE NEIGHBOUR: 'it returns false'. Refute it at one input. -/
def charrefScalarsWrong : ChangeSpec := { name := "charrefScalars", fn := fun _ => fun
  | [d] => { results := [.lit (.bool false)], args := [d] }
  | _ => none }
def CharrefScalarsWrongFalsely : Prop := charrefScalarsRow.holds Try.pinned (OpenSpec.ofChange charrefScalarsWrong)

/- THE SECOND FORM. 'bulk': how many values and letters a reading holds, each counted each time it is reached (what is shared counts as often as it is met; a slice's spare places count too). A statement '..UptoSaid' is the law's where the arguments, and the package variables that the reading takes, are together of bulk at most 1048576: NARROWER than '..Said'. Prove '..Said' where nothing that the law and all that it calls make is longer than what came in: it says more and counts as full. Else prove '..UptoSaid'. A law counts once. -/
mutual
def uptoBulk {H : Type} : DataW H → Nat
  | .lit (.string bytes) => bytes.length + 1
  | .lit _ => 1
  | .nil => 1
  | .ptr d => uptoBulk d + 1
  | .slice elems spare => uptoBulkAll elems + uptoBulkAll spare + 1
  | .agg parts => uptoBulkAll parts + 1
  | .iface _ d => uptoBulk d + 1
  | .map entries => uptoBulkEntries entries + 1
  | .held _ => 1
def uptoBulkAll {H : Type} : List (DataW H) → Nat
  | [] => 0
  | d :: r => uptoBulk d + uptoBulkAll r
def uptoBulkEntries {H : Type} : List (Lit × DataW H) → Nat
  | [] => 0
  | x :: r => uptoBulkEntry x + uptoBulkEntries r
def uptoBulkEntry {H : Type} : Lit × DataW H → Nat
  | (.string bytes, d) => bytes.length + uptoBulk d + 1
  | (_, d) => uptoBulk d + 1
 end
def uptoSmall : (H : Type) → List (DataW H) → Bool := fun _ ds => decide (uptoBulkAll ds ≤ 1048576)
def OpenSpec.upto (s : _root_.Go.ChangeSpec) : _root_.Go.OpenSpec := { _root_.Go.OpenSpec.ofChange s with cond := some uptoSmall }

/-- 'beadlelaw11.TreeVoid', WHERE WHAT IT READS IS OF BULK AT MOST 1048576: true; the input reads as it did. -/
def treeVoidUptoRow : OpenClaim := { program := "ytebgogcdndmaaaa", sum := "839c4419d4a93d90cadd3da9bd4c53e2a9ab5bb8c399196ecd5e04315eb8caa6", func := "beadle/beadlelaw11.TreeVoid", spec := "treeVoid", apart := false, narrowed := true }
def TreeVoidUptoSaid : Prop := treeVoidUptoRow.holds Try.pinned (OpenSpec.upto treeVoidSpec)

/-- 'beadlelaw09.StackSpecial', WHERE WHAT IT READS IS OF BULK AT MOST 1048576: true; the input reads as it did. -/
def stackSpecialUptoRow : OpenClaim := { program := "ytebgogcdndmaaaa", sum := "839c4419d4a93d90cadd3da9bd4c53e2a9ab5bb8c399196ecd5e04315eb8caa6", func := "beadle/beadlelaw09.StackSpecial", spec := "stackSpecial", apart := false, narrowed := true }
def StackSpecialUptoSaid : Prop := stackSpecialUptoRow.holds Try.pinned (OpenSpec.upto stackSpecialSpec)

/-- 'beadlelaw05.LexerModes', WHERE WHAT IT READS IS OF BULK AT MOST 1048576: true; the input reads as it did. -/
def lexerModesUptoRow : OpenClaim := { program := "ytebgogcdndmaaaa", sum := "839c4419d4a93d90cadd3da9bd4c53e2a9ab5bb8c399196ecd5e04315eb8caa6", func := "beadle/beadlelaw05.LexerModes", spec := "lexerModes", apart := false, narrowed := true }
def LexerModesUptoSaid : Prop := lexerModesUptoRow.holds Try.pinned (OpenSpec.upto lexerModesSpec)

/-- 'beadlelaw04.CharrefList', WHERE WHAT IT READS IS OF BULK AT MOST 1048576: true; the input reads as it did. -/
def charrefListUptoRow : OpenClaim := { program := "ytebgogcdndmaaaa", sum := "839c4419d4a93d90cadd3da9bd4c53e2a9ab5bb8c399196ecd5e04315eb8caa6", func := "beadle/beadlelaw04.CharrefList", spec := "charrefList", inPlace := ["internal/bytealg.abigen_runtime_cmpstring"], unfollowed := true, recurses := true, apart := false, narrowed := true }
def CharrefListUptoSaid : Prop := charrefListUptoRow.holds Try.pinned (OpenSpec.upto charrefListSpec)

/-- 'beadlelaw02.DecodeSoon', WHERE WHAT IT READS IS OF BULK AT MOST 1048576: true; the input reads as it did. -/
def decodeSoonUptoRow : OpenClaim := { program := "ytebgogcdndmaaaa", sum := "839c4419d4a93d90cadd3da9bd4c53e2a9ab5bb8c399196ecd5e04315eb8caa6", func := "beadle/beadlelaw02.DecodeSoon", spec := "decodeSoon", apart := false, narrowed := true }
def DecodeSoonUptoSaid : Prop := decodeSoonUptoRow.holds Try.pinned (OpenSpec.upto decodeSoonSpec)

/-- 'beadlelaw02.DecodeBack', WHERE WHAT IT READS IS OF BULK AT MOST 1048576: true; the input reads as it did. -/
def decodeBackUptoRow : OpenClaim := { program := "ytebgogcdndmaaaa", sum := "839c4419d4a93d90cadd3da9bd4c53e2a9ab5bb8c399196ecd5e04315eb8caa6", func := "beadle/beadlelaw02.DecodeBack", spec := "decodeBack", apart := false, narrowed := true }
def DecodeBackUptoSaid : Prop := decodeBackUptoRow.holds Try.pinned (OpenSpec.upto decodeBackSpec)

/-- 'beadlelaw02.DecodeByte', WHERE WHAT IT READS IS OF BULK AT MOST 1048576: true; the input reads as it did. -/
def decodeByteUptoRow : OpenClaim := { program := "ytebgogcdndmaaaa", sum := "839c4419d4a93d90cadd3da9bd4c53e2a9ab5bb8c399196ecd5e04315eb8caa6", func := "beadle/beadlelaw02.DecodeByte", spec := "decodeByte", apart := false, narrowed := true }
def DecodeByteUptoSaid : Prop := decodeByteUptoRow.holds Try.pinned (OpenSpec.upto decodeByteSpec)

/-- 'beadlelaw04.CharrefNames', WHERE WHAT IT READS IS OF BULK AT MOST 1048576: true; the input reads as it did. -/
def charrefNamesUptoRow : OpenClaim := { program := "ytebgogcdndmaaaa", sum := "839c4419d4a93d90cadd3da9bd4c53e2a9ab5bb8c399196ecd5e04315eb8caa6", func := "beadle/beadlelaw04.CharrefNames", spec := "charrefNames", inPlace := ["internal/bytealg.abigen_runtime_cmpstring"], unfollowed := true, recurses := true, apart := false, narrowed := true }
def CharrefNamesUptoSaid : Prop := charrefNamesUptoRow.holds Try.pinned (OpenSpec.upto charrefNamesSpec)

/-- 'beadlelaw04.CharrefLonger', WHERE WHAT IT READS IS OF BULK AT MOST 1048576: true; the input reads as it did. -/
def charrefLongerUptoRow : OpenClaim := { program := "ytebgogcdndmaaaa", sum := "839c4419d4a93d90cadd3da9bd4c53e2a9ab5bb8c399196ecd5e04315eb8caa6", func := "beadle/beadlelaw04.CharrefLonger", spec := "charrefLonger", inPlace := ["internal/bytealg.abigen_runtime_cmpstring"], unfollowed := true, recurses := true, apart := false, narrowed := true }
def CharrefLongerUptoSaid : Prop := charrefLongerUptoRow.holds Try.pinned (OpenSpec.upto charrefLongerSpec)

/-- 'beadlelaw04.CharrefNumbers', WHERE WHAT IT READS IS OF BULK AT MOST 1048576: true; the input reads as it did. -/
def charrefNumbersUptoRow : OpenClaim := { program := "ytebgogcdndmaaaa", sum := "839c4419d4a93d90cadd3da9bd4c53e2a9ab5bb8c399196ecd5e04315eb8caa6", func := "beadle/beadlelaw04.CharrefNumbers", spec := "charrefNumbers", apart := false, narrowed := true }
def CharrefNumbersUptoSaid : Prop := charrefNumbersUptoRow.holds Try.pinned (OpenSpec.upto charrefNumbersSpec)

/-- 'beadlelaw02.DecodeLines', WHERE WHAT IT READS IS OF BULK AT MOST 1048576: true; the input reads as it did. -/
def decodeLinesUptoRow : OpenClaim := { program := "ytebgogcdndmaaaa", sum := "839c4419d4a93d90cadd3da9bd4c53e2a9ab5bb8c399196ecd5e04315eb8caa6", func := "beadle/beadlelaw02.DecodeLines", spec := "decodeLines", apart := false, narrowed := true }
def DecodeLinesUptoSaid : Prop := decodeLinesUptoRow.holds Try.pinned (OpenSpec.upto decodeLinesSpec)

/-- 'beadlelaw04.CharrefScalars', WHERE WHAT IT READS IS OF BULK AT MOST 1048576: true; the input reads as it did. -/
def charrefScalarsUptoRow : OpenClaim := { program := "ytebgogcdndmaaaa", sum := "839c4419d4a93d90cadd3da9bd4c53e2a9ab5bb8c399196ecd5e04315eb8caa6", func := "beadle/beadlelaw04.CharrefScalars", spec := "charrefScalars", inPlace := ["internal/bytealg.abigen_runtime_cmpstring"], unfollowed := true, recurses := true, apart := false, narrowed := true }
def CharrefScalarsUptoSaid : Prop := charrefScalarsUptoRow.holds Try.pinned (OpenSpec.upto charrefScalarsSpec)

end Rows
end Go.Proofs.Ytebgogcdndmaaaa
