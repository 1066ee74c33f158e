/- No stack: every step is refused and nothing is told: the walk. -/
import Derived.Test.YtlhplhncdljicaaBack
set_option linter.unusedVariables false
namespace Go.Dc.Kb
open Go.Proofs Go.RowKit
set_option maxRecDepth 100000
theorem vc10 (R : Nat → RoRow) (Q : AV → Prop) : vcd (envS R) 10000 10 fi10 [] [] (fun v _ => Q v) =
    (AV.nils = AV.nils ∧
    AV.sl false 3 0 1 false = AV.sl false 3 0 1 false ∧
      AV.sl false 6 0 2 false = AV.sl false 6 0 2 false ∧ Q (AV.bool true)) := by kernel_rfl
theorem safe10 (R : Nat → RoRow) : SafeCall Try.prog R 10 [] [] fun v _ => v = .bool true :=
  byVcd (envS_ok R) (f := 10) (fi := fi10) (by kernel_rfl) 10000 (vc10 R (fun v => v = .bool true)) (by repeat' (first | exact rfl | apply And.intro))
noncomputable abbrev env7 (R : Nat → RoRow) : Env Prop := (envS R).addCall 10 isTrue
theorem env7_ok (R : Nat → RoRow) : EnvOK Try.prog (env7 R) id := (envS_ok R).addCall (f := 10) (fi := fi10) (by kernel_rfl) (isTrue_ok (safe10 R))
theorem vc7 (R : Nat → RoRow) (n : Int) (s : List UInt8) (Q : AV → Prop) : vcd (env7 R) 10000 7 fi7 [.int .i64 n, .str s] [] (fun v _ => Q v) = Q (AV.bool true) := by kernel_rfl
theorem safe7 (R : Nat → RoRow) (n : Int) (s : List UInt8) : SafeCall Try.prog R 7 [.int .i64 n, .str s] [] fun v _ => v = .bool true :=
  byVcd (env7_ok R) (f := 7) (fi := fi7) (by kernel_rfl) 10000 (vc7 R n s (fun v => v = .bool true)) rfl
theorem stackNil_walk (n : Int) (s : ByteArray) (w : World) : Calls Try.prog 7 #[.int .i64 n, .string s] w fun e w' => e = .returned (.bool true) ∧ Go.RowKit.Below w.heap.size w w' :=
  (safe7 roNone n s.data.toList).law mapNone _ w (by simp [DenL, Den]) (roNone_ok w)
end Go.Dc.Kb
