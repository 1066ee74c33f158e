/- Bytes without signs are text: Pass, the states. -/
import Derived.Test.YtghhcilbjdgonaaTxtC
set_option linter.unusedVariables false
set_option linter.unusedSimpArgs false
namespace Go.Dc.Kl
open Go.Proofs Go.RowKit
set_option maxRecDepth 100000
def linR : Option Row := some (.lst 63 1 [.agg [.bool false]])
abbrev lex0 : Option Row := lexR .nils false 0 .nils 0 []
def rows20 (s : List UInt8) (n i : Nat) : Rows := [decI n .nils, linR, lex0, none, rowA s n, rowA s i]
def tm20 (n i : Nat) : List AV := [.ptr false 1 0 0, .sl false 4 0 n .no, .any, .any, .nils, .sl false 5 0 i .no, .any, .any, .any, .any, .any, .any, .any, .sl false 4 0 n .no, .int .i64 n, .int .i64 i, .any, .any, .any, .any, .any, .any, .any, .any, .any, .any, .any, .any, .any, .any, .any, .any, .any, .any, .any, .any, .any, .any, .any, .any, .any, .any, .any, .any, .any, .any, .any]
theorem tm20_spr (n i : Nat) : tm20 n i = spr [(0, .ptr false 1 0 0), (1, .sl false 4 0 n .no), (4, .nils), (5, .sl false 5 0 i .no), (13, .sl false 4 0 n .no), (14, .int .i64 n), (15, .int .i64 i)] 0 47 := by kernel_rfl
noncomputable def lp20 : Code := loopOf fi20 0
theorem blk20 : blockOf fi20 0 = some (.loop lp20) := by kernel_rfl
end Go.Dc.Kl
