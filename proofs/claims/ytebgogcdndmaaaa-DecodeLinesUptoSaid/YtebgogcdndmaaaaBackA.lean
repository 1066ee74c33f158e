/- The decoder in UTF-8, told exactly: the first byte of a scalar, and one that goes on. -/
import Derived.Test.YtebgogcdndmaaaaUtfQ
set_option linter.unusedVariables false
set_option linter.unusedSimpArgs false
namespace Go.Dc.Ka
open Go.Proofs Go.RowKit
set_option maxRecDepth 100000
def decG (a b l v lo hi : Int) (n : Nat) : Option Row := decU a b l v lo hi (.sl false 1 0 n .no) .nils
theorem vc47g (R : Nat → RoRow) (x a b v lo hi : Int) (n : Nat) (F : Nat → AV) (Q : AV → Rows → Prop) :
    vcd (base R) 10000 47 fi47 [.ptr false 0 0 0, .int .u8 x] [decG a b 0 v lo hi n, some (.gen 38 2 n F)] Q =
    (bif decide (x < 128) then
      bif capN n 16 then tree2 x fun lo hi => Q (.tup []) [decU a a 0 v lo hi (.sl false 3 0 (n + 1) .no) .nils, none, some (.lst 38 2 [rune (IntKind.i64.wrap x) a]), some (.gen 38 2 (n + 1) (app1 n F (rune (IntKind.i64.wrap x) a)))]
      else False
    else cond2 (decide (x ≥ 194)) (decide (x ≤ 223)) (tree2 x fun lo hi => Q (.tup []) [decG a a 1 (and8 x 31) lo hi n, some (.gen 38 2 n F)])
      (cond2 (decide (x ≥ 224)) (decide (x ≤ 239)) (tree2 x fun lo hi => Q (.tup []) [decG a a 2 (and8 x 15) lo hi n, some (.gen 38 2 n F)])
      (cond2 (decide (x ≥ 240)) (decide (x ≤ 244)) (tree2 x fun lo hi => Q (.tup []) [decG a a 3 (and8 x 7) lo hi n, some (.gen 38 2 n F)])
        (bif capN n 16 then AV.nils = AV.nils ∧ tree2 x fun lo hi =>
          Q (.tup []) [decU a a 0 v lo hi (.sl false 3 0 (n + 1) .no) (.sl false 5 0 1 .no), none, some (.lst 38 2 [rune 65533 a]), some (.gen 38 2 (n + 1) (app1 n F (rune 65533 a))), some (.lst 75 3 [diag a]), some (.lst 75 3 [diag a])]
          else False)))) := by kernel_rfl
/-- Not called. -/
def specNo : CallSpec := fun _ _ _ => False
theorem specNo_ok (P : Program) (R : Nat → RoRow) (f : FuncId) : ∀ args h k, specNo args h k → SafeCall P R f args h k := fun _ _ _ h => h.elim
noncomputable abbrev envC (R : Nat → RoRow) : Env Prop := (base R).addCall 47 specNo
theorem envC_ok (R : Nat → RoRow) : EnvOK Try.prog (envC R) id := (base_ok R).addCall (f := 47) (fi := fi47) (by kernel_rfl) (specNo_ok _ R 47)
end Go.Dc.Ka
