/- The types of a program, read off it; the way from a run on abstract states to a law. -/
import Derived.Test.YtebgogcdndmaaaaDcS
import Derived.Below
set_option linter.unusedSimpArgs false
set_option linter.unusedVariables false
namespace Go.Dc
open Go.RowKit (Below)

def kdOf (P : Program) : TypeDesc → Kd
  | .int k => .int k
  | .bool => .bool
  | .string => .str
  | .pointer e => .ptr e
  | .slice e => .slice e
  | .struct a => .struct (a.toList.map (fun f => (f.type, f.offset, ((P.info? f.type).map (·.size)).getD 0)))
  | .array n e => .array n e
  | .func _ _ _ => .func
  | .interface _ => .iface
  | _ => .other

theorem kdOf_ok (P : Program) (d : TypeDesc) : KdOK P (kdOf P d) d := by
  cases d <;> simp [kdOf, KdOK]

def eqsOf (P : Program) (t : TypeId) (d : TypeDesc) : Bool :=
  match d with
  | .struct a => !(P.stoodInHeld t) && !(P.eqGuardType P.depth t) && a.toList.all fun f => !(f.name == "_")
  | _ => false

def isAny : AV → Bool
  | .any => true
  | _ => false

def tiOf (P : Program) (t : TypeId) : Option TI :=
  match P.info? t, P.underlying t with
  | some i, some d => match i.zero with
    | some z => bif isAny (ofConst z) then none else some ⟨kdOf P d, i.size, i.bytes, ofConst z, eqsOf P t d⟩
    | none => none
  | _, _ => none

theorem tiOf_ok {P : Program} {t : TypeId} {ti : TI} (h : tiOf P t = some ti) : TOK P t ti := by
  unfold tiOf at h
  split at h
  · rename_i i d hi hd
    split at h
    · rename_i z hz
      cases ha : isAny (ofConst z) with
      | true => rw [ha] at h; simp at h
      | false =>
        rw [ha] at h
        simp only [cond_false, Option.some.injEq] at h
        subst h
        refine ⟨⟨i, hi, rfl, rfl, z, hz, fun m n => ofConst_den m n z⟩, ⟨d, hd, kdOf_ok P d⟩, ?_, ?_⟩
        · intro e; simp only [] at e; rw [e] at ha; simp [isAny] at ha
        · intro e
          simp only [eqsOf] at e
          split at e
          · simp only [Bool.and_eq_true, Bool.not_eq_true', List.all_eq_true, beq_eq_false_iff_ne, ne_eq] at e
            rename_i a
            refine ⟨e.1.1, e.1.2, ?_⟩
            intro a' ha' f hf
            rw [hd] at ha'
            obtain rfl : a = a' := by simpa using ha'
            simpa using e.2 f hf
          · exact absurd e (by simp)
    · exact absurd h (by simp)
  · exact absurd h (by simp)

def lookT : List (Nat × TI) → TypeId → Option TI
  | [], _ => none
  | p :: l, t => bif Nat.beq p.1 t then some p.2 else lookT l t

theorem lookT_ok {P : Program} : ∀ {l : List (Nat × TI)}, l.map (fun p => tiOf P p.1) = l.map (fun p => some p.2) → TabOK P (lookT l)
  | [], _ => by intro t ti h; simp [lookT] at h
  | p :: l, h => by
    simp only [List.map_cons, List.cons.injEq] at h
    intro t ti ht
    simp only [lookT] at ht
    cases hb : Nat.beq p.1 t with
    | true =>
      rw [hb] at ht
      simp only [cond_true, Option.some.injEq] at ht
      have := Nat.eq_of_beq_eq_true hb
      subst this; subst ht
      exact tiOf_ok h.1
    | false =>
      rw [hb] at ht
      exact lookT_ok h.2 t ti ht

/-! ### Functions -/

def fiOf (fn : Func) : Option FI :=
  match fn.body with
  | none => none
  | some b => bif fn.name == "runtime.NumGoroutine" then none else some ⟨b, fn.ntmps, fn.results.toList⟩

theorem fiOf_ok {P : Program} {f : FuncId} {fn : Func} {fi : FI} (hf : P.funcs[f]? = some fn) (h : fiOf fn = some fi) : FnOK P f fi := by
  unfold fiOf at h
  split at h
  · exact absurd h (by simp)
  · rename_i b hb
    cases hn : (fn.name == "runtime.NumGoroutine") with
    | true => rw [hn] at h; simp at h
    | false =>
      rw [hn] at h
      simp only [cond_false, Option.some.injEq] at h
      subst h
      exact ⟨fn, hf, hb, rfl, by simp, hn⟩

/-! ### A law -/

def roNone : Nat → RoRow := fun _ => ⟨0, 0, 0, fun _ => .undef⟩
def mapNone : Map := ⟨fun _ => ⟨0, 0, 0, 0, true⟩, fun _ => ⟨0, 0, 0, 0, true⟩⟩

theorem roNone_ok (w : World) (i : Nat) : RoOK mapNone (mapNone.ro i) (roNone i) w := by
  refine ⟨rfl, Nat.le_refl _, ?_⟩
  simp [mapNone, roNone]

theorem SafeCall.law {P : Program} {R : Nat → RoRow} {f : FuncId} {args : List AV} (hs : SafeCall P R f args [] fun v _ => v = .bool true) (m : Map) (as : Array Value) (w : World)
    (has : DenL m 0 args as.toList) (hro : ∀ i, RoOK m (m.ro i) (R i) w) : Calls P f as w fun e w' => e = .returned (.bool true) ∧ Below w.heap.size w w' := by
  have hW : WR R m [] w := ⟨fun b r hb => by simp [Rows.live] at hb, fun b b' r r' hb => by simp [Rows.live] at hb, hro, fun i b r hb => by simp [Rows.live] at hb⟩
  refine (hs m w m [] w as has hW (Step.refl _ _ _)).mono ?_
  rintro e w' ⟨c, v, m', h', rfl, rfl, hd, _, hS⟩
  simp only [Den] at hd
  subst hd
  exact ⟨rfl, hS.os, hS.tape, hS.output, hS.size, fun k hk => hS.block k hk (fun b r hb => by simp [Rows.live] at hb)⟩

def noDraw {α : Type} (A : Ans α) : Draw α := fun _ _ _ _ => A.bot

theorem noDraw_ok {α : Type} {A : Ans α} {P : Program} {E : Env α} {hold : α → Prop} (hA : Holds A hold) : DrawOK P E hold (noDraw A) :=
  fun _ _ _ _ _ _ h => (hA.bot h).elim

/-- A function, by the run of its body. -/
theorem SafeCall.run {P : Program} {E : Env Prop} {draw : Draw Prop} (hE : EnvOK P E id) (hD : DrawOK P E id draw) {f : FuncId} {fi : FI} (hF : E.F f = some fi) {args : List AV} {h : Rows} {Q : AV → Rows → Prop} (n : Nat)
    (hk : code propAns E draw n f fi.body ⟨enterT args fi.ntmps, h⟩ fun e st => match e with
      | .normal | .ret => resK propAns E st fi.results fun v => Q v st.rows
      | _ => False) : SafeCall P E.R f args h Q := by
  refine SafeCall.of_body hE.T (hE.F f fi hF) ((code_ok propHolds hE hD n f fi.body _ _ (fun p hp => by unfold Env.subsOf; rw [hF]; exact hp) hk).mono ?_)
  intro e st he
  cases e <;> first
    | exact ⟨.inl rfl, resL_ok propHolds he⟩
    | exact ⟨.inr rfl, resL_ok propHolds he⟩
    | exact he.elim

end Go.Dc
