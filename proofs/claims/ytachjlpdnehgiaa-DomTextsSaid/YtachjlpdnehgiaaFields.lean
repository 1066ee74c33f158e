/- strings.FieldsFunc with the blanks of HTML: what it answers. -/
import Derived.Test.YtachjlpdnehgiaaDomNil
import Derived.Test.YtachjlpdnehgiaaDcYi
import Derived.Shelf.Strings.FieldsFuncAny
set_option linter.unusedVariables false
namespace Go.Dc.Kd
open Go.Proofs Go.RowKit Go.Shelf
set_option maxRecDepth 100000
def rF : Ren := { f := fun n => if n = 229 then 76 else 0, g := fun _ => 0, t := fun n => if n = 9 then 9 else if n = 21 then 21 else if n = 31 then 69 else if n = 40 then 95 else if n = 152 then 135 else if n = 154 then 137 else n }
theorem laysFF : Lays.n229 Try.prog rF := by constructor <;> first | kernel_rfl | (intro w; kernel_rfl)
def blankI (x : Int) : Bool := x == 9 || x == 10 || x == 12 || x == 13 || x == 32
def blankR (n : Nat) : Bool := blankI n
theorem blankI_iff (x : Int) : blankI x = true ↔ x = 9 ∨ x = 10 ∨ x = 12 ∨ x = 13 ∨ x = 32 := by simp [blankI, or_assoc]
theorem ret_bool {b : Bool} (h : b = true) : Ending.returned (.bool true) = Ending.returned (.bool b) := by rw [h]
theorem gives77 (W : World) (x : Nat) (hx : x ≤ 1114111) : FnGives Try.prog 77 #[] #[.int .i32 x] (.bool (blankR x)) W := by
  unfold FnGives
  go_enter Try.func77, Try.ntmps77
  go_wp2
  all_goals go_ret
  all_goals refine ⟨?_, 0, rfl⟩
  · exact ret_bool ((blankI_iff x).2 (by omega))
  · exact ret_bool ((blankI_iff x).2 (by omega))
  · exact ret_bool ((blankI_iff x).2 (by omega))
  · exact ret_bool ((blankI_iff x).2 (by omega))
  · exact rfl
def fieldsL (s : List UInt8) : List (List UInt8) := (Lib.goFieldsP blankR ⟨⟨s⟩⟩).map fun b => b.data.toList
theorem calls76 (s : List UInt8) (hs : s.length ≤ 4294967296) (w : World) : Calls Try.prog 76 #[.string ⟨⟨s⟩⟩, .func (.func 77) #[] #[]] w fun e w' => ∃ A, e = .returned (.slice (some ⟨A, 0, Option.none⟩) (fieldsL s).length (fieldsL s).length) ∧ w.heap.size ≤ A ∧
      w'.ownsRow w.heap.size 9 1 (.slice (some ⟨A, 0, Option.none⟩) (fieldsL s).length (fieldsL s).length) (fieldsL s).length ((fieldsL s).map fun s => .string ⟨⟨s⟩⟩) ∧ Below w.heap.size w w' := by
  have h := Any.strings_FieldsFunc_runes laysFF 77 #[] (enters_of Try.func77 (by kernel_rfl) rfl) blankR ⟨⟨s⟩⟩ w hs (fun W x hx _ => gives77 W x hx) (by kernel_rfl) (by kernel_rfl)
  refine Calls.mono h ?_
  rintro e w' ⟨A, h1, h2, h3, h4⟩
  have e1 : (fieldsL s).length = (Lib.goFieldsP blankR ⟨⟨s⟩⟩).length := by simp [fieldsL]
  have e2 : ((fieldsL s).map fun s => Value.string ⟨⟨s⟩⟩) = (Lib.goFieldsP blankR ⟨⟨s⟩⟩).map Value.string := by
    simp only [fieldsL, List.map_map]
    rfl
  rw [e1, e2]
  exact ⟨A, h1, h2, h3, h4⟩
def spec76 : CallSpec := fun args h k => match args with
  | [.str s, .fn 77 [] []] => s.length ≤ 4294967296 ∧ k (.sl false h.length 0 (fieldsL s).length true) (h ++ [some (.lst 9 1 ((fieldsL s).map AV.str))])
  | _ => False
theorem spec76_ok (R : Nat → RoRow) : ∀ args h k, spec76 args h k → SafeCall Try.prog R 76 args h k := by
  intro args h k hk
  unfold spec76 at hk
  split at hk
  · rename_i s
    refine (SafeCall.ownStrs (l := fieldsL s) (ty := 9) (h := h) ?_).mono ?_
    · intro m n vals has w
      simp only [DenL, Den] at has
      obtain ⟨_, _, has, rfl, _, _, rfl, ⟨us, vs, rfl, hu, hv⟩, rfl⟩ := has
      have : vals = #[.string ⟨⟨s⟩⟩, .func (.func 77) #[] #[]] := by
        have hu' : us = #[] := by cases us; simp_all
        have hv' : vs = #[] := by cases vs; simp_all
        subst hu' hv'
        cases vals; simp_all
      subst this
      exact calls76 s hk.1 w
    · rintro v' h' ⟨rfl, rfl⟩
      exact hk.2
  · exact hk.elim
end Go.Dc.Kd
