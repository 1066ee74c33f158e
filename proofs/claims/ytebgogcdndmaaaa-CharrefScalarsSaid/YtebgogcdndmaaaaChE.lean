/- Calls of Number and of its reference, at any number: what they answer. -/
import Derived.Test.YtebgogcdndmaaaaChEa
import Derived.Test.YtebgogcdndmaaaaChEb
import Derived.Test.YtebgogcdndmaaaaDcYe
namespace Go.Dc.YtebgogcdndmaaaaE
set_option linter.unusedSimpArgs false
set_option linter.unusedVariables false
open Go.Proofs Go.RowKit
set_option maxRecDepth 100000
def spec31 : CallSpec := fun args h k => match args with
  | [.int .i64 n] => k (num (numF n).1 (numF n).2) h
  | _ => False
def spec32 : CallSpec := fun args h k => match args with
  | [.int .i64 n] => bif (refF n).2 == 0 then k (num (refF n).1 0) h else bif (refF n).2 == 1 then k (num (refF n).1 1) h else bif (refF n).2 == 2 then k (num (refF n).1 2) h
    else bif (refF n).2 == 3 then k (num (refF n).1 3) h else bif (refF n).2 == 4 then k (num (refF n).1 4) h else k (num (refF n).1 5) h
  | _ => False
theorem refF_codes (n : Int) : (refF n).2 = 0 ∨ (refF n).2 = 1 ∨ (refF n).2 = 2 ∨ (refF n).2 = 3 ∨ (refF n).2 = 4 ∨ (refF n).2 = 5 := by
  unfold refF
  repeat' split
  all_goals simp
theorem spec31_ok (R : Nat → RoRow) : ∀ args h k, spec31 args h k → SafeCall Try.prog (base R).R 31 args h k := by
  intro args h k hk
  unfold spec31 at hk
  split at hk
  · rename_i n
    refine ((safe31 R n (fun v => v = num (numF n).1 (numF n).2) rfl).alone (by kernel_rfl) (fun v hv => by rw [hv]; rfl) h).mono ?_
    rintro v' h' ⟨rfl, rfl⟩
    exact hk
  · exact hk.elim
theorem spec32_ok (R : Nat → RoRow) : ∀ args h k, spec32 args h k → SafeCall Try.prog (base R).R 32 args h k := by
  intro args h k hk
  unfold spec32 at hk
  split at hk
  · rename_i n
    refine ((safe32 R n (fun v => v = num (refF n).1 (refF n).2) rfl).alone (by kernel_rfl) (fun v hv => by rw [hv]; rfl) h).mono ?_
    rintro v' h' ⟨rfl, rfl⟩
    rcases refF_codes n with e | e | e | e | e | e <;> rw [e] at hk ⊢ <;> exact hk
  · exact hk.elim
noncomputable abbrev env12 (R : Nat → RoRow) : Env Prop := ((base R).addCall 31 spec31).addCall 32 spec32
theorem env12_ok (R : Nat → RoRow) : EnvOK Try.prog (env12 R) id :=
  ((base_ok R).addCall (hf31 R) (spec31_ok R)).addCall (f := 32) (fi := fi32) (by kernel_rfl) (spec32_ok R)
end Go.Dc.YtebgogcdndmaaaaE
