/- Without a lexer nothing is told: the walk. -/
import Derived.Test.YtghhcilbjdgonaaEnv
set_option linter.unusedVariables false
namespace Go.Dc.Kl
open Go.Proofs Go.RowKit
set_option maxRecDepth 100000
theorem mixed : Try.prog.follows .mixedOrders = true := by kernel_rfl
theorem byVcd {E : Env Prop} (hE : EnvOK Try.prog E id) {f : FuncId} {fi : FI} (hF : E.F f = some fi) {args : List AV} {h : Rows} {Q : AV → Rows → Prop} (n : Nat) {X : Prop} (e : vcd E n f fi args h Q = X) (hX : X) : SafeCall Try.prog E.R f args h Q :=
  SafeCall.vcd mixed hE hF n (e.symm ▸ hX)
def isTrue : CallSpec := fun args h k => match args with | [] => k (.bool true) h | _ => False
theorem isTrue_ok {R : Nat → RoRow} {f : FuncId} (h1 : SafeCall Try.prog R f [] [] fun v _ => v = .bool true) : ∀ args h k, isTrue args h k → SafeCall Try.prog R f args h k := by
  intro args h k hk
  unfold isTrue at hk
  split at hk
  · refine (h1.alone (by kernel_rfl) (fun v hv => by rw [hv]; rfl) h).mono ?_
    rintro v' h' ⟨rfl, rfl⟩
    exact hk
  · exact hk.elim
theorem vc8 (R : Nat → RoRow) (Q : AV → Prop) : vcd (base R) 10000 8 fi8 [] [] (fun v _ => Q v) =
    (AV.nils = AV.nils ∧
    AV.nils = AV.nils ∧
      AV.nils = AV.nils ∧
        AV.nils = AV.nils ∧
          AV.nils = AV.nils ∧
            AV.nils = AV.nils ∧
              AV.str [49] = AV.str [49] ∧
                AV.sl false 26 0 1 .no = AV.sl false 26 0 1 .no ∧
                  AV.str [98] = AV.str [98] ∧
                    AV.sl false 24 0 1 .no = AV.sl false 24 0 1 .no ∧
                      AV.nils = AV.nils ∧ AV.nils = AV.nils ∧ Q (AV.bool true)) := by kernel_rfl
theorem safe8 (R : Nat → RoRow) : SafeCall Try.prog R 8 [] [] fun v _ => v = .bool true :=
  byVcd (base_ok R) (f := 8) (fi := fi8) (by kernel_rfl) 10000 (vc8 R (fun v => v = .bool true)) (by repeat' (first | exact rfl | apply And.intro))
noncomputable abbrev env4 (R : Nat → RoRow) : Env Prop := (base R).addCall 8 isTrue
theorem env4_ok (R : Nat → RoRow) : EnvOK Try.prog (env4 R) id := (base_ok R).addCall (f := 8) (fi := fi8) (by kernel_rfl) (isTrue_ok (safe8 R))
theorem vc4 (R : Nat → RoRow) (n : Int) (Q : AV → Prop) : vcd (env4 R) 10000 4 fi4 [.int .i64 n] [] (fun v _ => Q v) = Q (AV.bool true) := by kernel_rfl
theorem safe4 (R : Nat → RoRow) (n : Int) : SafeCall Try.prog R 4 [.int .i64 n] [] fun v _ => v = .bool true :=
  byVcd (env4_ok R) (f := 4) (fi := fi4) (by kernel_rfl) 10000 (vc4 R n (fun v => v = .bool true)) rfl
theorem nil_walk (n : Int) (w : World) : Calls Try.prog 4 #[.int .i64 n] w fun e w' => e = .returned (.bool true) ∧ Go.RowKit.Below w.heap.size w w' :=
  (safe4 roNone n).law mapNone _ w (by simp [DenL, Den]) (roNone_ok w)
end Go.Dc.Kl
