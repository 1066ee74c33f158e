/- Without a tree nothing is asked of it: the walk. -/
import Derived.Test.YtachjlpdnehgiaaFields
set_option linter.unusedVariables false
namespace Go.Dc.Kd
open Go.Proofs Go.RowKit
set_option maxRecDepth 100000
noncomputable abbrev env31 (R : Nat → RoRow) : Env Prop := (base R).addCall 76 spec76
theorem env31_ok (R : Nat → RoRow) : EnvOK Try.prog (env31 R) id := (base_ok R).addCall (f := 76) (fi := fi76) (by kernel_rfl) (spec76_ok R)
theorem vc31 (R : Nat → RoRow) (Q : AV → Prop) : vcd ((base R).addCall 76 spec76) 10000 31 fi31 [] [] (fun v _ => Q v) =
    (AV.agg [AV.int IntKind.i64 2, AV.int IntKind.i64 0, AV.str [112], AV.str [], AV.sl false 6 0 1 .no] =
      AV.agg [AV.int IntKind.i64 2, AV.int IntKind.i64 0, AV.str [112], AV.str [], AV.sl false 6 0 1 .no] ∧
    AV.sl false 1 0 1 .tight = AV.sl false 1 0 1 .tight ∧
      AV.sl false 1 0 1 .tight = AV.sl false 1 0 1 .tight ∧
        AV.ptr false 9 1 0 = AV.ptr false 9 1 0 ∧
          AV.sl false 9 0 2 .no = AV.sl false 9 0 2 .no ∧
            ([97, 32, 98, 32, 32, 97] : List UInt8).length ≤ 4294967296 ∧ Q (AV.bool true)) := by kernel_rfl

theorem safe31 (R : Nat → RoRow) : SafeCall Try.prog R 31 [] [] fun v _ => v = .bool true :=
  byVcd (env31_ok R) (f := 31) (fi := fi31) (by kernel_rfl) 10000 (vc31 R (fun v => v = .bool true)) (by repeat' (first | exact rfl | apply And.intro | decide))
noncomputable abbrev env10 (R : Nat → RoRow) : Env Prop := (base R).addCall 31 isTrue
theorem env10_ok (R : Nat → RoRow) : EnvOK Try.prog (env10 R) id := (base_ok R).addCall (f := 31) (fi := fi31) (by kernel_rfl) (isTrue_ok (safe31 R))
theorem vc10 (R : Nat → RoRow) (n : Int) (s : List UInt8) (Q : AV → Prop) : vcd (env10 R) 10000 10 fi10 [.int .i64 n, .str s] [] (fun v _ => Q v) = Q (AV.bool true) := by kernel_rfl
theorem safe10 (R : Nat → RoRow) (n : Int) (s : List UInt8) : SafeCall Try.prog R 10 [.int .i64 n, .str s] [] fun v _ => v = .bool true :=
  byVcd (env10_ok R) (f := 10) (fi := fi10) (by kernel_rfl) 10000 (vc10 R n s (fun v => v = .bool true)) rfl
theorem queryNil_walk (n : Int) (s : ByteArray) (w : World) : Calls Try.prog 10 #[.int .i64 n, .string s] w fun e w' => e = .returned (.bool true) ∧ Go.RowKit.Below w.heap.size w w' :=
  (safe10 roNone n s.data.toList).law mapNone _ w (by simp [DenL, Den]) (roNone_ok w)
end Go.Dc.Kd
