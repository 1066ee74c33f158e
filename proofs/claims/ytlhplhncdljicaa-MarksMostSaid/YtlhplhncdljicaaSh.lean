/- Stacks: what is asked of lists of items: the rounds. -/
import Derived.Test.YtlhplhncdljicaaSa
set_option linter.unusedVariables false
set_option linter.unusedSimpArgs false
section
namespace Go.Dc.Kb
open Go.Proofs Go.RowKit
set_option maxRecDepth 100000
end Go.Dc.Kb
end
section
namespace Go.Dc.Kb
open Go.Proofs Go.RowKit
set_option maxRecDepth 100000
end Go.Dc.Kb
end
section
namespace Go.Dc.Kb
open Go.Proofs Go.RowKit
set_option maxRecDepth 100000
end Go.Dc.Kb
end
section
namespace Go.Dc.Kb
open Go.Proofs Go.RowKit
set_option maxRecDepth 100000
end Go.Dc.Kb
end
section
namespace Go.Dc.Kb
open Go.Proofs Go.RowKit
set_option maxRecDepth 100000
end Go.Dc.Kb
end
section
namespace Go.Dc.Kb
open Go.Proofs Go.RowKit
set_option maxRecDepth 100000
end Go.Dc.Kb
end
