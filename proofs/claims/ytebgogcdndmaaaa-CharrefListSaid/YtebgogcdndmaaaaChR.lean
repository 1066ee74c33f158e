/- The names rise, each is its own longest one: the plain facts, and the walk. -/
import Derived.Test.YtebgogcdndmaaaaChQ
set_option linter.unusedVariables false
set_option linter.unusedSimpArgs false
namespace Go.Dc.Ka
open Go.Proofs Go.RowKit
set_option maxRecDepth 100000
noncomputable def chk (m : Nat) : Bool :=
  (Nat.beq m 0 || Op.bytesLess (nameAt (m - 1)) (nameAt m)) && ((lname (nameAt m) == nameAt m) && ((Nat.ble 1 (lsca (nameAt m)).length && Nat.ble (lsca (nameAt m)).length 2) && ((Nat.ble 1 (nameAt m).length && Nat.ble (nameAt m).length 100) &&
    (Nat.beq ((nameAt m).getD ((nameAt m).length - 1) 0).toNat 59 || ((lname (nameAt m ++ [59]) == nameAt m ++ [59]) && (Nat.beq (lsca (nameAt m ++ [59])).length (lsca (nameAt m)).length && ((lsca (nameAt m)).getD 0 0 == (lsca (nameAt m ++ [59])).getD 0 0)))))))
theorem chk_all : (List.range 109).all chk = true := by kernel_rfl
end Go.Dc.Ka
