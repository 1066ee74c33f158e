/- Stacks: what is asked of lists of items, as memory that is only read: states. -/
import Derived.Test.YtlhplhncdljicaaScopes
import Derived.Test.YtlhplhncdljicaaDcZi
import Derived.Test.YtlhplhncdljicaaDcXk
set_option linter.unusedVariables false
set_option linter.unusedSimpArgs false
namespace Go.Dc.Kb
open Go.Proofs Go.RowKit
set_option maxRecDepth 100000
noncomputable abbrev bx (R:RR):EnvX:=EnvX.base (lookT tl) (lookF fl) R
theorem bx_ok (R:RR) (ds:List Deferred) (HP:AV -> Rows -> Fz -> Prop):OKX Try.prog (bx R) ds HP:=OKX.base tl_ok fl_ok
abbrev noP:AV -> Rows -> Fz -> Prop:=fun _ _ _ => False
noncomputable def rx1 (ty z n:Nat) (G:Nat -> AV):RR:=fun i => match i with | 0 => ⟨ty,z,n,G⟩ | i + 1 => RX (i + 1)
end Go.Dc.Kb
