/- Without a tree every step is refused and nothing is told: the walk. -/
import Derived.Test.YtachjlpdnehgiaaEnv
set_option linter.unusedVariables false
namespace Go.Dc.Kd
open Go.Proofs Go.RowKit
set_option maxRecDepth 100000
theorem mixed : Try.prog.follows .mixedOrders = true := by kernel_rfl
theorem byVcd {E : Env Prop} (hE : EnvOK Try.prog E id) {f : FuncId} {fi : FI} (hF : E.F f = some fi) {args : List AV} {h : Rows} {Q : AV → Rows → Prop} (n : Nat) {X : Prop} (e : vcd E n f fi args h Q = X) (hX : X) : SafeCall Try.prog E.R f args h Q :=
  SafeCall.vcd mixed hE hF n (e.symm ▸ hX)
def isTrue : CallSpec := fun args h k => match args with | [] => k (.bool true) h | _ => False
theorem isTrue_ok {R : Nat → RoRow} {f : FuncId} (h1 : SafeCall Try.prog R f [] [] fun v _ => v = .bool true) : ∀ args h k, isTrue args h k → SafeCall Try.prog R f args h k := by
  intro args h k hk
  unfold isTrue at hk
  split at hk
  · refine (h1.alone (by kernel_rfl) (fun v hv => by rw [hv]; rfl) h).mono ?_
    rintro v' h' ⟨rfl, rfl⟩
    exact hk
  · exact hk.elim
theorem vc14 (R : Nat → RoRow) (Q : AV → Prop) : vcd (base R) 10000 14 fi14 [] [] (fun v _ => Q v) =
    (AV.agg [AV.int IntKind.i64 2, AV.int IntKind.i64 0, AV.str [112], AV.str [], AV.nils] =
      AV.agg [AV.int IntKind.i64 2, AV.int IntKind.i64 0, AV.str [112], AV.str [], AV.nils] ∧
    AV.sl false 1 0 1 .tight = AV.sl false 1 0 1 .tight ∧
      AV.sl false 1 0 1 .tight = AV.sl false 1 0 1 .tight ∧
        AV.ptr false 6 1 0 = AV.ptr false 6 1 0 ∧
          AV.sl false 6 0 2 .no = AV.sl false 6 0 2 .no ∧
            AV.agg [AV.int IntKind.i64 3, AV.int IntKind.i64 5, AV.str [], AV.str [97], AV.nils] =
                AV.agg [AV.int IntKind.i64 3, AV.int IntKind.i64 5, AV.str [], AV.str [97], AV.nils] ∧
              AV.sl false 6 0 2 .no = AV.sl false 6 0 2 .no ∧
                AV.sl false 6 0 2 .no = AV.sl false 6 0 2 .no ∧
                  AV.ptr false 10 2 0 = AV.ptr false 10 2 0 ∧
                    AV.sl false 10 0 3 .no = AV.sl false 10 0 3 .no ∧ Q (AV.bool true)) := by kernel_rfl
theorem safe14 (R : Nat → RoRow) : SafeCall Try.prog R 14 [] [] fun v _ => v = .bool true :=
  byVcd (base_ok R) (f := 14) (fi := fi14) (by kernel_rfl) 10000 (vc14 R (fun v => v = .bool true)) (by repeat' (first | exact rfl | apply And.intro))
noncomputable abbrev env7 (R : Nat → RoRow) : Env Prop := (base R).addCall 14 isTrue
theorem env7_ok (R : Nat → RoRow) : EnvOK Try.prog (env7 R) id := (base_ok R).addCall (f := 14) (fi := fi14) (by kernel_rfl) (isTrue_ok (safe14 R))
theorem vc7 (R : Nat → RoRow) (n m : Int) (Q : AV → Prop) : vcd (env7 R) 10000 7 fi7 [.int .i64 n, .int .i64 m] [] (fun v _ => Q v) = Q (AV.bool true) := by kernel_rfl
theorem safe7 (R : Nat → RoRow) (n m : Int) : SafeCall Try.prog R 7 [.int .i64 n, .int .i64 m] [] fun v _ => v = .bool true :=
  byVcd (env7_ok R) (f := 7) (fi := fi7) (by kernel_rfl) 10000 (vc7 R n m (fun v => v = .bool true)) rfl
theorem nil_walk (n m : Int) (w : World) : Calls Try.prog 7 #[.int .i64 n, .int .i64 m] w fun e w' => e = .returned (.bool true) ∧ Go.RowKit.Below w.heap.size w w' :=
  (safe7 roNone n m).law mapNone _ w (by simp [DenL, Den]) (roNone_ok w)
end Go.Dc.Kd
