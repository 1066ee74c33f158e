/-
  No cell of these rows narrows 'for every input' (looked for: loops, veiled, ifaces, maps, wideKeys, modest, calm, conditions, laid).
  DERIVED. THE GIVEN ROWS OF THIS SEAT. 11 by the template 'for every input the law returns true; each argument reads behind the call as it read before'; 0 by the template 'total and deterministic' (their statements: YtachjlpdnehgiaaTotals.lean).
  GIVEN WITH THE SEED: the statements are not yours to turn. If you find one false, say at which input.
  Laid BY PROGRAM, IN A SANDBOX (cutbox-rows.mjs): the forced cells as the released guide's own fill.sh prints them over the translation 44dac445dca94219… (all of the seat's roots in one cut). By AI agents, Wed Nov 11 2026. No macro, syntax, notation, axiom, sorry.
-/
import Derived.Test.YtachjlpdnehgiaaChecked
import GoSem.Claim
import GoSem.ClaimJoined
import GoSem.ClaimMapViews
import Derived.JoinedTies
import Derived.KernelRfl
namespace Go.Proofs.Ytachjlpdnehgiaa
/- THE CELL 'sum', in the pinned program and in every row, IS THE sha256 OF THE DUMP (.gsa) THAT YtachjlpdnehgiaaProg.lean LOADS. Nothing in Lean hashes anything: it is a label: what it is worth is what the hold of that sum in a sandbox is worth. -/
noncomputable def Try.pinned : Pinned := { name := "ytachjlpdnehgiaa", sum := "44dac445dca94219321bea673cab03895f0622a75c58f960c756032d08645765", checked := Try.checked }
namespace Rows
def none {H : Type} : Left H := { results := [], args := [] }

/-- 'beadlelaw07.DomTexts': WHATEVER THE INPUT: true; the input reads as it did. -/
def domTextsSpec : ChangeSpec := { name := "domTexts", fn := fun _ => fun
  | [d1, d2] => { results := [.lit (.bool true)], args := [d1, d2] }
  | _ => none }
def domTextsRow : OpenClaim := { program := "ytachjlpdnehgiaa", sum := "44dac445dca94219321bea673cab03895f0622a75c58f960c756032d08645765", func := "beadle/beadlelaw07.DomTexts", spec := "domTexts", apart := false }
def DomTextsSaid : Prop := domTextsRow.holds Try.pinned (OpenSpec.ofChange domTextsSpec)

/-- ITS FALSE NEIGHBOUR: 'it returns false'. Refute it at one input. -/
def domTextsWrong : ChangeSpec := { name := "domTexts", fn := fun _ => fun
  | [d1, d2] => { results := [.lit (.bool false)], args := [d1, d2] }
  | _ => none }
def DomTextsWrongFalsely : Prop := domTextsRow.holds Try.pinned (OpenSpec.ofChange domTextsWrong)

/-- 'beadlelaw07.DomWalks': WHATEVER THE INPUT: true; the input reads as it did. -/
def domWalksSpec : ChangeSpec := { name := "domWalks", fn := fun _ => fun
  | [d] => { results := [.lit (.bool true)], args := [d] }
  | _ => none }
def domWalksRow : OpenClaim := { program := "ytachjlpdnehgiaa", sum := "44dac445dca94219321bea673cab03895f0622a75c58f960c756032d08645765", func := "beadle/beadlelaw07.DomWalks", spec := "domWalks", unfollowed := true, recurses := true, apart := false }
def DomWalksSaid : Prop := domWalksRow.holds Try.pinned (OpenSpec.ofChange domWalksSpec)

/-- ITS FALSE NEIGHBOUR: 'it returns false'. Refute it at one input. -/
def domWalksWrong : ChangeSpec := { name := "domWalks", fn := fun _ => fun
  | [d] => { results := [.lit (.bool false)], args := [d] }
  | _ => none }
def DomWalksWrongFalsely : Prop := domWalksRow.holds Try.pinned (OpenSpec.ofChange domWalksWrong)

/-- 'beadlelaw07.DomScripts': WHATEVER THE INPUT: true; the input reads as it did. -/
def domScriptsSpec : ChangeSpec := { name := "domScripts", fn := fun _ => fun
  | [d] => { results := [.lit (.bool true)], args := [d] }
  | _ => none }
def domScriptsRow : OpenClaim := { program := "ytachjlpdnehgiaa", sum := "44dac445dca94219321bea673cab03895f0622a75c58f960c756032d08645765", func := "beadle/beadlelaw07.DomScripts", spec := "domScripts", unfollowed := true, recurses := true, apart := false }
def DomScriptsSaid : Prop := domScriptsRow.holds Try.pinned (OpenSpec.ofChange domScriptsSpec)

/-- ITS FALSE NEIGHBOUR: 'it returns false'. Refute it at one input. -/
def domScriptsWrong : ChangeSpec := { name := "domScripts", fn := fun _ => fun
  | [d] => { results := [.lit (.bool false)], args := [d] }
  | _ => none }
def DomScriptsWrongFalsely : Prop := domScriptsRow.holds Try.pinned (OpenSpec.ofChange domScriptsWrong)

/-- 'beadlelaw07.DomRefused': WHATEVER THE INPUT: true; the input reads as it did. -/
def domRefusedSpec : ChangeSpec := { name := "domRefused", fn := fun _ => fun
  | [d1, d2] => { results := [.lit (.bool true)], args := [d1, d2] }
  | _ => none }
def domRefusedRow : OpenClaim := { program := "ytachjlpdnehgiaa", sum := "44dac445dca94219321bea673cab03895f0622a75c58f960c756032d08645765", func := "beadle/beadlelaw07.DomRefused", spec := "domRefused", unfollowed := true, recurses := true, apart := false }
def DomRefusedSaid : Prop := domRefusedRow.holds Try.pinned (OpenSpec.ofChange domRefusedSpec)

/-- ITS FALSE NEIGHBOUR: 'it returns false'. Refute it at one input. -/
def domRefusedWrong : ChangeSpec := { name := "domRefused", fn := fun _ => fun
  | [d1, d2] => { results := [.lit (.bool false)], args := [d1, d2] }
  | _ => none }
def DomRefusedWrongFalsely : Prop := domRefusedRow.holds Try.pinned (OpenSpec.ofChange domRefusedWrong)

/-- 'beadlelaw07.DomNil': WHATEVER THE INPUT: true; the input reads as it did. -/
def domNilSpec : ChangeSpec := { name := "domNil", fn := fun _ => fun
  | [d1, d2] => { results := [.lit (.bool true)], args := [d1, d2] }
  | _ => none }
def domNilRow : OpenClaim := { program := "ytachjlpdnehgiaa", sum := "44dac445dca94219321bea673cab03895f0622a75c58f960c756032d08645765", func := "beadle/beadlelaw07.DomNil", spec := "domNil", unfollowed := true, recurses := true, apart := false }
def DomNilSaid : Prop := domNilRow.holds Try.pinned (OpenSpec.ofChange domNilSpec)

/-- ITS FALSE NEIGHBOUR: 'it returns false'. Refute it at one input. -/
def domNilWrong : ChangeSpec := { name := "domNil", fn := fun _ => fun
  | [d1, d2] => { results := [.lit (.bool false)], args := [d1, d2] }
  | _ => none }
def DomNilWrongFalsely : Prop := domNilRow.holds Try.pinned (OpenSpec.ofChange domNilWrong)

/-- 'beadlelaw13.QueryInner': WHATEVER THE INPUT: true; the input reads as it did. -/
def queryInnerSpec : ChangeSpec := { name := "queryInner", fn := fun _ => fun
  | [d1, d2] => { results := [.lit (.bool true)], args := [d1, d2] }
  | _ => none }
def queryInnerRow : OpenClaim := { program := "ytachjlpdnehgiaa", sum := "44dac445dca94219321bea673cab03895f0622a75c58f960c756032d08645765", func := "beadle/beadlelaw13.QueryInner", spec := "queryInner", unfollowed := true, recurses := true, apart := false }
def QueryInnerSaid : Prop := queryInnerRow.holds Try.pinned (OpenSpec.ofChange queryInnerSpec)

/-- ITS FALSE NEIGHBOUR: 'it returns false'. Refute it at one input. -/
def queryInnerWrong : ChangeSpec := { name := "queryInner", fn := fun _ => fun
  | [d1, d2] => { results := [.lit (.bool false)], args := [d1, d2] }
  | _ => none }
def QueryInnerWrongFalsely : Prop := queryInnerRow.holds Try.pinned (OpenSpec.ofChange queryInnerWrong)

/-- 'beadlelaw13.QueryTrees': WHATEVER THE INPUT: true; the input reads as it did. -/
def queryTreesSpec : ChangeSpec := { name := "queryTrees", fn := fun _ => fun
  | [d1, d2, d3] => { results := [.lit (.bool true)], args := [d1, d2, d3] }
  | _ => none }
def queryTreesRow : OpenClaim := { program := "ytachjlpdnehgiaa", sum := "44dac445dca94219321bea673cab03895f0622a75c58f960c756032d08645765", func := "beadle/beadlelaw13.QueryTrees", spec := "queryTrees", inPlace := ["internal/abi.NoEscape"], unfollowed := true, recurses := true, apart := false }
def QueryTreesSaid : Prop := queryTreesRow.holds Try.pinned (OpenSpec.ofChange queryTreesSpec)

/-- ITS FALSE NEIGHBOUR: 'it returns false'. Refute it at one input. -/
def queryTreesWrong : ChangeSpec := { name := "queryTrees", fn := fun _ => fun
  | [d1, d2, d3] => { results := [.lit (.bool false)], args := [d1, d2, d3] }
  | _ => none }
def QueryTreesWrongFalsely : Prop := queryTreesRow.holds Try.pinned (OpenSpec.ofChange queryTreesWrong)

/-- 'beadlelaw13.QueryNil': WHATEVER THE INPUT: true; the input reads as it did. -/
def queryNilSpec : ChangeSpec := { name := "queryNil", fn := fun _ => fun
  | [d1, d2] => { results := [.lit (.bool true)], args := [d1, d2] }
  | _ => none }
def queryNilRow : OpenClaim := { program := "ytachjlpdnehgiaa", sum := "44dac445dca94219321bea673cab03895f0622a75c58f960c756032d08645765", func := "beadle/beadlelaw13.QueryNil", spec := "queryNil", inPlace := ["internal/abi.NoEscape"], unfollowed := true, recurses := true, apart := false }
def QueryNilSaid : Prop := queryNilRow.holds Try.pinned (OpenSpec.ofChange queryNilSpec)

/-- ITS FALSE NEIGHBOUR: 'it returns false'. Refute it at one input. -/
def queryNilWrong : ChangeSpec := { name := "queryNil", fn := fun _ => fun
  | [d1, d2] => { results := [.lit (.bool false)], args := [d1, d2] }
  | _ => none }
def QueryNilWrongFalsely : Prop := queryNilRow.holds Try.pinned (OpenSpec.ofChange queryNilWrong)

/-- 'beadlelaw13.QueryJoined': WHATEVER THE INPUT: true; the input reads as it did. -/
def queryJoinedSpec : ChangeSpec := { name := "queryJoined", fn := fun _ => fun
  | [d] => { results := [.lit (.bool true)], args := [d] }
  | _ => none }
def queryJoinedRow : OpenClaim := { program := "ytachjlpdnehgiaa", sum := "44dac445dca94219321bea673cab03895f0622a75c58f960c756032d08645765", func := "beadle/beadlelaw13.QueryJoined", spec := "queryJoined", inPlace := ["internal/abi.NoEscape"], unfollowed := true, recurses := true, apart := false }
def QueryJoinedSaid : Prop := queryJoinedRow.holds Try.pinned (OpenSpec.ofChange queryJoinedSpec)

/-- ITS FALSE NEIGHBOUR: 'it returns false'. Refute it at one input. -/
def queryJoinedWrong : ChangeSpec := { name := "queryJoined", fn := fun _ => fun
  | [d] => { results := [.lit (.bool false)], args := [d] }
  | _ => none }
def QueryJoinedWrongFalsely : Prop := queryJoinedRow.holds Try.pinned (OpenSpec.ofChange queryJoinedWrong)

/-- 'beadlelaw13.QueryWords': WHATEVER THE INPUT: true; the input reads as it did. -/
def queryWordsSpec : ChangeSpec := { name := "queryWords", fn := fun _ => fun
  | [d] => { results := [.lit (.bool true)], args := [d] }
  | _ => none }
def queryWordsRow : OpenClaim := { program := "ytachjlpdnehgiaa", sum := "44dac445dca94219321bea673cab03895f0622a75c58f960c756032d08645765", func := "beadle/beadlelaw13.QueryWords", spec := "queryWords", inPlace := ["internal/abi.NoEscape", "internal/bytealg.MakeNoZero"], unfollowed := true, recurses := true, apart := false }
def QueryWordsSaid : Prop := queryWordsRow.holds Try.pinned (OpenSpec.ofChange queryWordsSpec)

/-- ITS FALSE NEIGHBOUR: 'it returns false'. Refute it at one input. -/
def queryWordsWrong : ChangeSpec := { name := "queryWords", fn := fun _ => fun
  | [d] => { results := [.lit (.bool false)], args := [d] }
  | _ => none }
def QueryWordsWrongFalsely : Prop := queryWordsRow.holds Try.pinned (OpenSpec.ofChange queryWordsWrong)

/-- 'beadlelaw13.QueryStripped': WHATEVER THE INPUT: true; the input reads as it did. -/
def queryStrippedSpec : ChangeSpec := { name := "queryStripped", fn := fun _ => fun
  | [d] => { results := [.lit (.bool true)], args := [d] }
  | _ => none }
def queryStrippedRow : OpenClaim := { program := "ytachjlpdnehgiaa", sum := "44dac445dca94219321bea673cab03895f0622a75c58f960c756032d08645765", func := "beadle/beadlelaw13.QueryStripped", spec := "queryStripped", inPlace := ["internal/abi.NoEscape", "internal/bytealg.MakeNoZero"], unfollowed := true, recurses := true, apart := false }
def QueryStrippedSaid : Prop := queryStrippedRow.holds Try.pinned (OpenSpec.ofChange queryStrippedSpec)

/-- ITS FALSE NEIGHBOUR: 'it returns false'. Refute it at one input. -/
def queryStrippedWrong : ChangeSpec := { name := "queryStripped", fn := fun _ => fun
  | [d] => { results := [.lit (.bool false)], args := [d] }
  | _ => none }
def QueryStrippedWrongFalsely : Prop := queryStrippedRow.holds Try.pinned (OpenSpec.ofChange queryStrippedWrong)

/- THE SECOND FORM. 'bulk': how many values and letters a reading holds, each counted each time it is reached (what is shared counts as often as it is met; a slice's spare places count too). A statement '..UptoSaid' is the law's where the arguments, and the package variables that the reading takes, are together of bulk at most 1048576: NARROWER than '..Said'. Prove '..Said' where nothing that the law and all that it calls make is longer than what came in: it says more and counts as full. Else prove '..UptoSaid'. A law counts once. -/
mutual
def uptoBulk {H : Type} : DataW H → Nat
  | .lit (.string bytes) => bytes.length + 1
  | .lit _ => 1
  | .nil => 1
  | .ptr d => uptoBulk d + 1
  | .slice elems spare => uptoBulkAll elems + uptoBulkAll spare + 1
  | .agg parts => uptoBulkAll parts + 1
  | .iface _ d => uptoBulk d + 1
  | .map entries => uptoBulkEntries entries + 1
  | .held _ => 1
def uptoBulkAll {H : Type} : List (DataW H) → Nat
  | [] => 0
  | d :: r => uptoBulk d + uptoBulkAll r
def uptoBulkEntries {H : Type} : List (Lit × DataW H) → Nat
  | [] => 0
  | x :: r => uptoBulkEntry x + uptoBulkEntries r
def uptoBulkEntry {H : Type} : Lit × DataW H → Nat
  | (.string bytes, d) => bytes.length + uptoBulk d + 1
  | (_, d) => uptoBulk d + 1
 end
def uptoSmall : (H : Type) → List (DataW H) → Bool := fun _ ds => decide (uptoBulkAll ds ≤ 1048576)
def OpenSpec.upto (s : _root_.Go.ChangeSpec) : _root_.Go.OpenSpec := { _root_.Go.OpenSpec.ofChange s with cond := some uptoSmall }

/-- 'beadlelaw07.DomTexts', WHERE WHAT IT READS IS OF BULK AT MOST 1048576: true; the input reads as it did. -/
def domTextsUptoRow : OpenClaim := { program := "ytachjlpdnehgiaa", sum := "44dac445dca94219321bea673cab03895f0622a75c58f960c756032d08645765", func := "beadle/beadlelaw07.DomTexts", spec := "domTexts", apart := false, narrowed := true }
def DomTextsUptoSaid : Prop := domTextsUptoRow.holds Try.pinned (OpenSpec.upto domTextsSpec)

/-- 'beadlelaw07.DomWalks', WHERE WHAT IT READS IS OF BULK AT MOST 1048576: true; the input reads as it did. -/
def domWalksUptoRow : OpenClaim := { program := "ytachjlpdnehgiaa", sum := "44dac445dca94219321bea673cab03895f0622a75c58f960c756032d08645765", func := "beadle/beadlelaw07.DomWalks", spec := "domWalks", unfollowed := true, recurses := true, apart := false, narrowed := true }
def DomWalksUptoSaid : Prop := domWalksUptoRow.holds Try.pinned (OpenSpec.upto domWalksSpec)

/-- 'beadlelaw07.DomScripts', WHERE WHAT IT READS IS OF BULK AT MOST 1048576: true; the input reads as it did. -/
def domScriptsUptoRow : OpenClaim := { program := "ytachjlpdnehgiaa", sum := "44dac445dca94219321bea673cab03895f0622a75c58f960c756032d08645765", func := "beadle/beadlelaw07.DomScripts", spec := "domScripts", unfollowed := true, recurses := true, apart := false, narrowed := true }
def DomScriptsUptoSaid : Prop := domScriptsUptoRow.holds Try.pinned (OpenSpec.upto domScriptsSpec)

/-- 'beadlelaw07.DomRefused', WHERE WHAT IT READS IS OF BULK AT MOST 1048576: true; the input reads as it did. -/
def domRefusedUptoRow : OpenClaim := { program := "ytachjlpdnehgiaa", sum := "44dac445dca94219321bea673cab03895f0622a75c58f960c756032d08645765", func := "beadle/beadlelaw07.DomRefused", spec := "domRefused", unfollowed := true, recurses := true, apart := false, narrowed := true }
def DomRefusedUptoSaid : Prop := domRefusedUptoRow.holds Try.pinned (OpenSpec.upto domRefusedSpec)

/-- 'beadlelaw07.DomNil', WHERE WHAT IT READS IS OF BULK AT MOST 1048576: true; the input reads as it did. -/
def domNilUptoRow : OpenClaim := { program := "ytachjlpdnehgiaa", sum := "44dac445dca94219321bea673cab03895f0622a75c58f960c756032d08645765", func := "beadle/beadlelaw07.DomNil", spec := "domNil", unfollowed := true, recurses := true, apart := false, narrowed := true }
def DomNilUptoSaid : Prop := domNilUptoRow.holds Try.pinned (OpenSpec.upto domNilSpec)

/-- 'beadlelaw13.QueryInner', WHERE WHAT IT READS IS OF BULK AT MOST 1048576: true; the input reads as it did. -/
def queryInnerUptoRow : OpenClaim := { program := "ytachjlpdnehgiaa", sum := "44dac445dca94219321bea673cab03895f0622a75c58f960c756032d08645765", func := "beadle/beadlelaw13.QueryInner", spec := "queryInner", unfollowed := true, recurses := true, apart := false, narrowed := true }
def QueryInnerUptoSaid : Prop := queryInnerUptoRow.holds Try.pinned (OpenSpec.upto queryInnerSpec)

/-- 'beadlelaw13.QueryTrees', WHERE WHAT IT READS IS OF BULK AT MOST 1048576: true; the input reads as it did. -/
def queryTreesUptoRow : OpenClaim := { program := "ytachjlpdnehgiaa", sum := "44dac445dca94219321bea673cab03895f0622a75c58f960c756032d08645765", func := "beadle/beadlelaw13.QueryTrees", spec := "queryTrees", inPlace := ["internal/abi.NoEscape"], unfollowed := true, recurses := true, apart := false, narrowed := true }
def QueryTreesUptoSaid : Prop := queryTreesUptoRow.holds Try.pinned (OpenSpec.upto queryTreesSpec)

/-- 'beadlelaw13.QueryNil', WHERE WHAT IT READS IS OF BULK AT MOST 1048576: true; the input reads as it did. -/
def queryNilUptoRow : OpenClaim := { program := "ytachjlpdnehgiaa", sum := "44dac445dca94219321bea673cab03895f0622a75c58f960c756032d08645765", func := "beadle/beadlelaw13.QueryNil", spec := "queryNil", inPlace := ["internal/abi.NoEscape"], unfollowed := true, recurses := true, apart := false, narrowed := true }
def QueryNilUptoSaid : Prop := queryNilUptoRow.holds Try.pinned (OpenSpec.upto queryNilSpec)

/-- 'beadlelaw13.QueryJoined', WHERE WHAT IT READS IS OF BULK AT MOST 1048576: true; the input reads as it did. -/
def queryJoinedUptoRow : OpenClaim := { program := "ytachjlpdnehgiaa", sum := "44dac445dca94219321bea673cab03895f0622a75c58f960c756032d08645765", func := "beadle/beadlelaw13.QueryJoined", spec := "queryJoined", inPlace := ["internal/abi.NoEscape"], unfollowed := true, recurses := true, apart := false, narrowed := true }
def QueryJoinedUptoSaid : Prop := queryJoinedUptoRow.holds Try.pinned (OpenSpec.upto queryJoinedSpec)

/-- 'beadlelaw13.QueryWords', WHERE WHAT IT READS IS OF BULK AT MOST 1048576: true; the input reads as it did. -/
def queryWordsUptoRow : OpenClaim := { program := "ytachjlpdnehgiaa", sum := "44dac445dca94219321bea673cab03895f0622a75c58f960c756032d08645765", func := "beadle/beadlelaw13.QueryWords", spec := "queryWords", inPlace := ["internal/abi.NoEscape", "internal/bytealg.MakeNoZero"], unfollowed := true, recurses := true, apart := false, narrowed := true }
def QueryWordsUptoSaid : Prop := queryWordsUptoRow.holds Try.pinned (OpenSpec.upto queryWordsSpec)

/-- 'beadlelaw13.QueryStripped', WHERE WHAT IT READS IS OF BULK AT MOST 1048576: true; the input reads as it did. -/
def queryStrippedUptoRow : OpenClaim := { program := "ytachjlpdnehgiaa", sum := "44dac445dca94219321bea673cab03895f0622a75c58f960c756032d08645765", func := "beadle/beadlelaw13.QueryStripped", spec := "queryStripped", inPlace := ["internal/abi.NoEscape", "internal/bytealg.MakeNoZero"], unfollowed := true, recurses := true, apart := false, narrowed := true }
def QueryStrippedUptoSaid : Prop := queryStrippedUptoRow.holds Try.pinned (OpenSpec.upto queryStrippedSpec)

end Rows
end Go.Proofs.Ytachjlpdnehgiaa
