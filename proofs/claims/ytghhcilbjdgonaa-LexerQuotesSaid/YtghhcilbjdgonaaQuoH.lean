/- A value in quotes: the value that is made. -/
import Derived.Test.YtghhcilbjdgonaaQuoN
set_option linter.unusedVariables false
set_option linter.unusedSimpArgs false
namespace Go.Dc.Kl
open Go.Proofs Go.RowKit
set_option maxRecDepth 100000
def tm3 (s v : List UInt8) (i : Nat) : List AV := [.str s, .any, .any, .str v, .int .i64 i, .any, .any, .any, .any, .any, .any, .any, .any, .any, .any, .any, .any, .any, .any, .any, .any, .any, .any, .any, .any, .any, .any, .any, .any, .any, .any, .any, .any, .any, .any, .any, .any, .any, .any, .any, .any, .any, .any, .any, .any, .any, .any, .any, .any, .any, .any, .any, .any, .any, .any, .any, .any, .any, .any, .any, .any, .any, .any, .any, .any, .any, .any, .any, .any, .any, .any, .any, .any, .any, .any, .any, .any, .any, .any, .any, .any, .any, .any, .any, .any, .any, .any, .any, .any, .any, .any, .any, .any, .any, .any, .any, .any, .any, .any, .any, .any, .any, .any, .any, .any, .any, .any, .any, .any, .any, .any, .any, .any, .any, .any, .any, .any, .any, .any, .any, .any, .any, .any, .any, .any, .any, .any, .any, .any, .any, .any, .any, .any, .any, .any, .any, .any, .any, .any, .any, .any, .any, .any, .any, .any, .any, .any, .any, .any, .any]
theorem tm3_spr (s v : List UInt8) (i : Nat) : tm3 s v i = spr [(0, .str s), (3, .str v), (4, .int .i64 i)] 0 150 := by kernel_rfl
noncomputable def lp3 : Code := loopOf fi3 0
theorem blk3 : blockOf fi3 0 = some (.loop lp3) := by kernel_rfl
noncomputable def lp3c : Code := loopOf fi3 2
theorem blk3c : blockOf fi3 2 = some (.loop lp3c) := by kernel_rfl
noncomputable def lp3d : Code := loopOf fi3 4
theorem blk3d : blockOf fi3 4 = some (.loop lp3d) := by kernel_rfl
end Go.Dc.Kl
