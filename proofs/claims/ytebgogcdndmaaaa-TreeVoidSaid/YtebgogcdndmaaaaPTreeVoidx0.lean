-- PRINTED BY print.sh 35421559b90ae4d0a3588c463048766b98c2df88dd9212a6774a882060cdf62d: not written by this session
import Derived.Test.YtebgogcdndmaaaaProg
import Derived.Below
import Derived.Deep.Draws
import Derived.Deep.AppendLies
import Derived.Maps.AppendAt
import Derived.OwnWalk
import Derived.Laws.BytesArg
import Derived.Laws.MakeOwn
import Derived.Laws.OwnMore
import Derived.Deep.OwnRows
import Derived.Tactics
import Derived.Lib.ConvBytes
import Derived.Laws.Slices
import Derived.WalkKit
import Derived.KernelRfl
import Derived.RowKit3
import Derived.Deep.LoopGhost
import Derived.Deep.QuietTactic
import Derived.BigQuiet
import Derived.WideLaws
import Derived.Deep.DeepCutAuto
import Derived.Deep.CutBlock
import Derived.Deep.RegionHeld3
import Derived.Laws.Rows
import Derived.Lib.AppendStr
import Derived.ArgAppend
import Derived.Laws.IdiomCopy
import Derived.OrdersHeld
import Derived.Laws.BitsLemmas
import Derived.RowKit
import Derived.Test.YtebgogcdndmaaaaWWords
import Derived.Test.YtebgogcdndmaaaaWLast
import Derived.Test.YtebgogcdndmaaaaWTab
import Derived.Test.YtebgogcdndmaaaaWFour
import Derived.Test.YtebgogcdndmaaaaWQPut
import Derived.Test.YtebgogcdndmaaaaWApart
import Derived.Test.YtebgogcdndmaaaaWArr
import Derived.Test.YtebgogcdndmaaaaWZeros
import Derived.Test.YtebgogcdndmaaaaWFoot
import Derived.Test.YtebgogcdndmaaaaWKept
import Derived.Test.YtebgogcdndmaaaaWShare
import Derived.Test.YtebgogcdndmaaaaWN
import Derived.Test.YtebgogcdndmaaaaWFootNe
import Derived.Test.YtebgogcdndmaaaaWAt
import Derived.Test.YtebgogcdndmaaaaWEqStruct
import Derived.Test.YtebgogcdndmaaaaWRepsOne
import Derived.Test.YtebgogcdndmaaaaWInv
import Derived.Test.YtebgogcdndmaaaaWInvWords
import Derived.Test.YtebgogcdndmaaaaWGuard
import Derived.Test.YtebgogcdndmaaaaWNEv
import Derived.Test.YtebgogcdndmaaaaWMore
namespace Go.Proofs.Ytebgogcdndmaaaa.PTreeVoid
open Go.RowKit Go.Proofs.YtebgogcdndmaaaaW.PrintWords Go.Proofs.YtebgogcdndmaaaaW.PrintLast Go.Proofs.YtebgogcdndmaaaaW.PrintMore
attribute [local go_sem] max2_int min2_int max_two min_two max_three min_three max_four min_four   -- for this text's walks alone
set_option linter.unusedVariables false
set_option linter.unusedSimpArgs false



def errW : Option Int → Value
  | none => .nilIface
  | some c => .iface 0 (.int .i64 c)
theorem errW_none : errW none = .nilIface := rfl
theorem errW_some (c : Int) : errW (some c) = .iface 0 (.int .i64 c) := rfl

theorem info9 : (Try.prog.info? 9).map (fun i => (i.zero, i.size, i.bytes)) = some (some (.string ⟨#[]⟩), 1, 16) := by kernel_rfl
-- the values' own types

end Go.Proofs.Ytebgogcdndmaaaa.PTreeVoid
