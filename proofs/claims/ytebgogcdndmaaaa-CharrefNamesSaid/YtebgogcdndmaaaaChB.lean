import Derived.Test.YtebgogcdndmaaaaChA
namespace Go.Dc.Ka
set_option linter.unusedSimpArgs false
set_option linter.unusedVariables false
open Go.Proofs Go.RowKit
set_option maxRecDepth 100000
/-- The table: its rows are new. -/
noncomputable def spec35 : CallSpec := fun args h k => match args with
  | [] => k (.sl false (h.length + 109) 0 109 true) (h ++ tabRows h.length)
  | _ => False
theorem shift_tab (N : Nat) : shiftRows N (tabRows 0) = tabRows N := by kernel_rfl
theorem spec35_ok (R : Nat → RoRow) : ∀ args h k, spec35 args h k → SafeCall Try.prog R 35 args h k := by
  intro args h k hk
  cases args with
  | cons a l => exact hk.elim
  | nil =>
    have h1 : SafeCall Try.prog R 35 [] [] fun v h' => v = .sl false 109 0 109 true ∧ h' = tabRows 0 := by
      refine SafeCall.vcd mixed (base_ok R) (f := 35) (fi := fi35) rfl 1000 ?_
      rw [vc35]
      exact ⟨rfl, rfl⟩
    refine (h1.fresh (by simp [VwL]) h).mono ?_
    rintro v'' h'' ⟨v', h', ⟨rfl, rfl⟩, rfl, rfl⟩
    rw [shift_tab]
    exact hk
def spec49 : CallSpec := fun args h k => match args with
  | [.str a, .str b] => k (.int .i64 (Lib.compareBytes a b)) h
  | _ => False
theorem den_two {m : Map} {n : Nat} {a b : List UInt8} {xs : Array Value} (h : DenL m n [.str a, .str b] xs.toList) : xs = #[.string ⟨⟨a⟩⟩, .string ⟨⟨b⟩⟩] := by
  obtain ⟨l⟩ := xs
  simp only [DenL, Den] at h
  obtain ⟨v, vs, h1, rfl, w, ws, rfl, rfl, rfl⟩ := h
  subst h1; rfl
theorem spec49_ok (R : Nat → RoRow) : ∀ args h k, spec49 args h k → SafeCall Try.prog R 49 args h k := by
  intro args h k hk
  unfold spec49 at hk
  split at hk
  · rename_i a b
    have h1 : SafeCall Try.prog R 49 [.str a, .str b] h fun v' h' => v' = .int .i64 (Lib.compareBytes a b) ∧ h' = h := by
      refine SafeCall.known fun m n xs has => ⟨.int .i64 (Lib.compareBytes a b), by simp [Den], fun w => ?_⟩
      rw [den_two has]
      exact calls49 ⟨⟨a⟩⟩ ⟨⟨b⟩⟩ w
    refine h1.mono ?_
    rintro v' h' ⟨rfl, rfl⟩
    exact hk
  · exact hk.elim
noncomputable abbrev env1 (R : Nat → RoRow) : Env Prop := ((base R).addCall 35 spec35).addCall 49 spec49
theorem env1_ok (R : Nat → RoRow) : EnvOK Try.prog (env1 R) id :=
  ((base_ok R).addCall (f := 35) (fi := fi35) rfl (spec35_ok R)).addCall (f := 49) (fi := fi49) rfl (spec49_ok R)
end Go.Dc.Ka
