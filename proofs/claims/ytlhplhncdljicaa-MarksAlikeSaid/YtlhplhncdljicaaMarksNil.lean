/- No list: every step is refused and nothing is told: the walk. -/
import Derived.Test.YtlhplhncdljicaaBack
set_option linter.unusedVariables false
namespace Go.Dc.Kb
open Go.Proofs Go.RowKit
set_option maxRecDepth 100000
noncomputable abbrev envM0 (R : Nat → RoRow) : Env Prop := (((base R).addCall 18 (ran R 18 fi18)).addCall 59 (ran R 59 fi59)).addCall 43 (ran R 43 fi43)
theorem envM0_ok (R : Nat → RoRow) : EnvOK Try.prog (envM0 R) id :=
  (((base_ok R).addCall (f := 18) (fi := fi18) (by kernel_rfl) (ran_ok R (f := 18) (fi := fi18) (by kernel_rfl) (by kernel_rfl))).addCall (f := 59) (fi := fi59) (by kernel_rfl) (ran_ok R (f := 59) (fi := fi59) (by kernel_rfl) (by kernel_rfl))).addCall (f := 43) (fi := fi43) (by kernel_rfl) (ran_ok R (f := 43) (fi := fi43) (by kernel_rfl) (by kernel_rfl))
noncomputable abbrev envM (R : Nat → RoRow) : Env Prop := (envM0 R).addCall 44 (ran R 44 fi44)
theorem envM_ok (R : Nat → RoRow) : EnvOK Try.prog (envM R) id := (envM0_ok R).addCall (f := 44) (fi := fi44) (by kernel_rfl) (ran_ok R (f := 44) (fi := fi44) (by kernel_rfl) (by kernel_rfl))
theorem vc13 (R : Nat → RoRow) (Q : AV → Prop) : vcd (envM R) 10000 13 fi13 [] [] (fun v _ => Q v) =
    (AV.nils = AV.nils ∧
    AV.nils = AV.nils ∧
      AV.sl false 8 0 1 Cp.no = AV.sl false 8 0 1 Cp.no ∧
        AV.sl false 8 0 1 Cp.no = AV.sl false 8 0 1 Cp.no ∧
          AV.sl false 19 0 2 Cp.no = AV.sl false 19 0 2 Cp.no ∧
            AV.sl false 19 0 2 Cp.no = AV.sl false 19 0 2 Cp.no ∧
              AV.sl false 47 0 2 (Cp.room 1) = AV.sl false 47 0 2 (Cp.room 1) ∧
                AV.sl false 47 0 2 (Cp.room 1) = AV.sl false 47 0 2 (Cp.room 1) ∧ Q (AV.bool true)) := by kernel_rfl
theorem safe13 (R : Nat → RoRow) : SafeCall Try.prog R 13 [] [] fun v _ => v = .bool true :=
  byVcd (envM_ok R) (f := 13) (fi := fi13) (by kernel_rfl) 10000 (vc13 R (fun v => v = .bool true)) (by repeat' (first | exact rfl | apply And.intro))
noncomputable abbrev env9 (R : Nat → RoRow) : Env Prop := (envM R).addCall 13 isTrue
theorem env9_ok (R : Nat → RoRow) : EnvOK Try.prog (env9 R) id := (envM_ok R).addCall (f := 13) (fi := fi13) (by kernel_rfl) (isTrue_ok (safe13 R))
theorem vc9 (R : Nat → RoRow) (n : Int) (s : List UInt8) (Q : AV → Prop) : vcd (env9 R) 10000 9 fi9 [.int .i64 n, .str s] [] (fun v _ => Q v) = Q (AV.bool true) := by kernel_rfl
theorem safe9 (R : Nat → RoRow) (n : Int) (s : List UInt8) : SafeCall Try.prog R 9 [.int .i64 n, .str s] [] fun v _ => v = .bool true :=
  byVcd (env9_ok R) (f := 9) (fi := fi9) (by kernel_rfl) 10000 (vc9 R n s (fun v => v = .bool true)) rfl
theorem marksNil_walk (n : Int) (s : ByteArray) (w : World) : Calls Try.prog 9 #[.int .i64 n, .string s] w fun e w' => e = .returned (.bool true) ∧ Go.RowKit.Below w.heap.size w w' :=
  (safe9 roNone n s.data.toList).law mapNone _ w (by simp [DenL, Den]) (roNone_ok w)
end Go.Dc.Kb
