/- Are two entries alike: the contracts where the rows lie. -/
import Derived.Test.YtlhplhncdljicaaAliD
import Derived.Test.YtlhplhncdljicaaDcZf
set_option linter.unusedVariables false
set_option linter.unusedSimpArgs false
namespace Go.Dc.Kb
open Go.Proofs Go.RowKit
set_option maxRecDepth 100000
structure AtRow (n:Nat) (F:Nat -> AV):Prop where
 h:∃ D:List At,n = D.length /\ F = atL D /\ n <= 1000000
structure AtIs (n:Nat) (F:Nat -> AV) (D:List At):Prop where
 n:n = D.length
 F:F = atL D
structure IsD (D0 D:List At):Prop where
 h:D = D0
end Go.Dc.Kb
