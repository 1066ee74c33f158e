/- stack.In: is an element of a name in a scope? What it answers of any stack. -/
import Derived.Test.YtlhplhncdljicaaMarksNil
import Derived.Test.YtlhplhncdljicaaDcZg
set_option linter.unusedVariables false
set_option linter.unusedSimpArgs false
section
namespace Go.Dc.Kb
open Go.Proofs Go.RowKit
set_option maxRecDepth 100000
def itm (n:Int) (s:List UInt8):AV:=.agg [.int .i64 n,.str s]
theorem hcond {c:Bool} {A B:Prop} (ha:c = true -> A) (hb:c = false -> B):cond c A B:=by
 cases c
 ·exact hb rfl
 ·exact ha rfl
def nodeOf:AV -> Int
 | .agg (.int _ n :: _) => n
 | _ => 0
def nameOf:AV -> List UInt8
 | .agg (_ :: .str s :: _) => s
 | _ => []
end Go.Dc.Kb
end
section
namespace Go.Dc.Kb
open Go.Proofs Go.RowKit
set_option maxRecDepth 100000
end Go.Dc.Kb
end
section
namespace Go.Dc.Kb
open Go.Proofs Go.RowKit
set_option maxRecDepth 100000
def st3 (n : Nat) (nm : List UInt8) : St := St.mk [AV.sl true 0 0 n Cp.no, AV.str nm, AV.tup [], AV.tup [], AV.bool false, AV.ptr false 0 0 0,
          AV.int IntKind.i64 0, AV.tup [], AV.tup [], AV.tup [], AV.tup [], AV.bool true, AV.bool false, AV.tup [],
          AV.tup [], AV.tup [], AV.tup [], AV.tup [], AV.tup [], AV.tup [], AV.tup [], AV.tup [], AV.tup [], AV.tup [],
          AV.tup [], AV.tup [], AV.tup [], AV.tup [], AV.tup [], AV.tup [], AV.tup [], AV.tup [], AV.tup [], AV.tup [],
          AV.tup [], AV.tup [], AV.tup [], AV.tup [], AV.tup [], AV.tup [], AV.tup [], AV.tup [], AV.tup [], AV.tup [],
          AV.tup [], AV.tup [], AV.tup [], AV.tup [], AV.tup [], AV.tup [], AV.tup [], AV.tup [], AV.tup [], AV.tup [],
          AV.tup [], AV.tup [], AV.tup [], AV.tup [], AV.tup [], AV.tup [], AV.tup [], AV.tup [], AV.tup []]
        [some (Row.lst 26 1 [AV.agg [AV.nils]])]
def CK (S:Nat -> List UInt8) (m:Nat):Prop:=∀ j:Nat,j < m -> itm (j:Nat) (S j) = itm (nodeOf (itm (j:Nat) (S j))) (nameOf (itm (j:Nat) (S j)))
theorem subs_loop (b:Code):subs b = subs (.loop b):=rfl
end Go.Dc.Kb
end
