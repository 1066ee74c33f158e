/- Regions whose order is open, part one: one operation looks only at what it names. -/
import Derived.Test.YtebgogcdndmaaaaDcV
import Derived.Orders
set_option linter.unusedSimpArgs false
set_option linter.unusedVariables false
namespace Go.Dc

theorem evQ_congr {T : TypeId → Option TI} {R : Nat → RoRow} {h : Rows} {ev ev' : Operand → AV} (o : Oper) (he : ∀ x ∈ o.op.operands, ev x = ev' x) : evQ T R h ev o = evQ T R h ev' o := by
  obtain ⟨dst, op, type, pos, after, guard⟩ := o
  have arr : ∀ as : Array Operand, (∀ x ∈ as, ev x = ev' x) → as.toList.map ev = as.toList.map ev' := fun as hp =>
    List.map_congr_left fun x hx => hp x (by simpa using hx)
  cases op <;> (try simp only [Op.operands] at he) <;> simp only [evQ]
  case build t ps =>
    congr 1
    refine List.map_congr_left fun p hp => ?_
    rw [he p.2 (List.mem_toArray.2 (List.mem_map.2 ⟨p, hp, rfl⟩))]
  case makeFunc fn first cap =>
    have h1 := arr first fun x hx => he x (by simp [hx])
    have h2 := arr cap fun x hx => he x (by simp [hx])
    cases fn <;> simp [h1, h2]
  case slice t x lo hi mx => cases lo <;> cases hi <;> cases mx <;> simp_all
  case call c =>
    obtain ⟨callee, args, ats⟩ := c
    simp only [Call.operands] at he
    have ha := arr args fun x hx => he x (by simp [hx])
    cases callee <;> try rfl
    rename_i b
    cases b <;> try rfl
    · dsimp only
      cases hts : ats.toList with
      | nil => rfl
      | cons t ts =>
        cases hal : args.toList with
        | nil => rfl
        | cons x xs =>
          rw [hal] at ha
          simp only [List.map_cons, List.cons.injEq] at ha
          dsimp only
          rw [ha.1]
    · dsimp only; rw [ha]
    · dsimp only; rw [ha]
  all_goals (first | rfl | (simp_all; done))

theorem evW_congr {T : TypeId → Option TI} {R : Nat → RoRow} {h : Rows} {ev ev' : Operand → AV} (o : Oper) (he : ∀ x ∈ o.op.operands, ev x = ev' x) : evW T R h ev o = evW T R h ev' o := by
  obtain ⟨dst, op, type, pos, after, guard⟩ := o
  have arr : ∀ as : Array Operand, (∀ x ∈ as, ev x = ev' x) → as.toList.map ev = as.toList.map ev' := fun as hp =>
    List.map_congr_left fun x hx => hp x (by simpa using hx)
  cases op <;> (try simp only [Op.operands] at he) <;> simp only [evW]
  case buildSlice t n ps =>
    congr 1
    refine List.map_congr_left fun p hp => ?_
    rw [he p.2 (List.mem_toArray.2 (List.mem_map.2 ⟨p, hp, rfl⟩))]
  case call c =>
    obtain ⟨callee, args, ats⟩ := c
    simp only [Call.operands] at he
    have ha := arr args fun x hx => he x (by simp [hx])
    cases callee <;> try rfl
    rename_i b
    cases b <;> try rfl
    all_goals
      dsimp only
      cases hts : ats.toList with
      | nil => rfl
      | cons t ts =>
        cases hal : args.toList with
        | nil => cases ts <;> rfl
        | cons x xs =>
          rw [hal] at ha
          simp only [List.map_cons, List.cons.injEq] at ha
          cases ts <;> cases xs <;> simp_all
  all_goals (first | rfl | (simp_all; done))

/-- Kinds of operations that don't look at memory. -/
def memFree (o : Oper) : Bool :=
  match o.op with
  | .move _ | .pick .. | .nilCheck _ | .binOp .. | .unOp .. | .makeInterface .. | .makeFunc .. | .fieldAddr .. | .field .. | .index .. | .extract .. | .build .. => true
  | .call { callee := .builtin .len, .. } | .call { callee := .builtin .min, .. } | .call { callee := .builtin .max, .. } => true
  | _ => false

theorem evQ_mem {T : TypeId → Option TI} {R : Nat → RoRow} {h h' : Rows} {ev : Operand → AV} (o : Oper) (hm : memFree o = true) : evQ T R h ev o = evQ T R h' ev o := by
  obtain ⟨dst, op, type, pos, after, guard⟩ := o
  cases op
  case call c =>
    obtain ⟨callee, args, ats⟩ := c
    cases callee
    case builtin b => cases b <;> first | rfl | (simp [memFree] at hm)
    all_goals simp [memFree] at hm
  case makeFunc fn first cap => cases fn <;> rfl
  all_goals first
    | rfl
    | (simp [memFree] at hm; done)

end Go.Dc
