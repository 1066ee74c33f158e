/- What is shown for code outside a round of a range over a function holds inside one too, where nothing is deferred. -/
import Derived.OrdersIn
import Derived.TacticsIn
import Derived.LoopNIn
import Derived.RangeFuncLeaves
import Derived.RangeFuncOne
set_option linter.unusedVariables false
set_option linter.unusedSimpArgs false
namespace Go.Dc

def Fd (rd : Option Nat) : Fence := { Fence.wide with round := rd }
theorem Fd_none : Fd none = Fence.wide := rfl

theorem callsR {rd : Option Nat} {n : Nat} {P : Program} {f : FuncId} {args : Array Value} {w : World} {R : Ending → World → Prop} (h : Calls P f args w R) : CallsIn (Fd rd) n P f args w R := (callsIn_wide (n := n)).2 h
theorem rowsR {rd : Option Nat} {n : Nat} {P : Program} {row : String} {args : Array Value} {w : World} {R : Value → World → Prop} (h : Rows P row args w R) : RowsIn (Fd rd) n P row args w R := by
  intro c cs hroom
  obtain ⟨v, w', r, s⟩ := h c cs
  exact ⟨v, w', r, stepsIn_wide.2 s⟩

def noDefer (o : Oper) : Bool := match o.op with | .defer _ => false | _ => true
theorem noDefer_ne {o : Oper} (h : noDefer o = true) : ∀ c, o.op ≠ .defer c := by
  intro c e
  unfold noDefer at h
  rw [e] at h
  simp at h

variable {rd : Option Nat} {n : Nat} {P : Program} {ops : Array Oper} {Q : Exit → Act → World → Prop}

/-- An act without its deferred calls. -/
def clr (a : Act) : Act := { a with defers := [] }
theorem clr_put (a : Act) (d : Option Tmp) (v : Value) : clr (a.put d v) = (clr a).put d v := by cases d <;> rfl
theorem put_defers (a : Act) (d : Option Tmp) (v : Value) : (a.put d v).defers = a.defers := by cases d <;> rfl
def KD (ds : List Deferred) (K : Act → World → Prop) (a : Act) (w : World) : Prop := K (clr a) w ∧ a.defers = ds
def QD (ds : List Deferred) (Q : Exit → Act → World → Prop) (e : Exit) (a : Act) (w : World) : Prop := Q e (clr a) w ∧ a.defers = ds

/-- Nothing panics, nothing outgrows. -/
structure Tame (Q : Exit → Act → World → Prop) : Prop where
  out : ¬ LetsOut Q
  panic : ∀ ch a w, ¬ Q (.panic ch) a w

variable {ds : List Deferred}

theorem uponD (hQ : Tame Q) {o : Oper} {a : Act} (ha : a.defers = ds) {K : Act → World → Prop} {r : Result Next} (hK : ∀ a w, K a w → a.defers = []) (h : o.upon P (clr a) K Q r) : o.uponIn (Fd rd) n P a (KD ds K) (QD ds Q) r := by
  cases r with
  | ok x w =>
    cases x with
    | value v => exact ⟨by rw [clr_put]; exact h, by rw [put_defers]; exact ha⟩
    | skip => exact ⟨by rw [clr_put]; exact h, by rw [put_defers]; exact ha⟩
    | defer d =>
      have := hK _ _ h
      rw [put_defers] at this
      simp at this
    | enter f args =>
      refine ⟨fun e => by simp [Fd, Fence.wide] at e, callsR (Calls.mono h ?_)⟩
      intro e w' he
      cases e with
      | returned v => exact ⟨by rw [clr_put]; exact he, by rw [put_defers]; exact ha⟩
      | panicked ch => exact absurd he (hQ.panic _ _ _)
      | outgrown => exact absurd he hQ.out
    | row row args =>
      refine ⟨fun e => by simp [Fd, Fence.wide] at e, rowsR (Rows.mono h ?_)⟩
      intro v w' he
      exact ⟨by rw [clr_put]; exact he, by rw [put_defers]; exact ha⟩
    | _ => exact h.elim
  | halt x w =>
    cases x with
    | panic v => exact absurd h (hQ.panic _ _ _)
    | _ => exact h.elim

theorem upon_defers {o : Oper} {a : Act} {K : Act → World → Prop} {r : Result Next} (hQ : Tame Q) (hK : ∀ a w, K a w → a.defers = []) (h : o.upon P a K Q r) : a.defers = [] := by
  cases r with
  | ok x w =>
    cases x with
    | value v => have := hK _ _ h; rwa [put_defers] at this
    | skip => have := hK _ _ h; rwa [put_defers] at this
    | defer d => have := hK _ _ h; rw [put_defers] at this; simp at this
    | enter f args =>
      obtain ⟨e, w', fr, hR, _⟩ := h []
      cases e with
      | returned v => have := hK _ _ hR; rwa [put_defers] at this
      | panicked ch => exact absurd hR (hQ.panic _ _ _)
      | outgrown => exact absurd hR hQ.out
    | row row args =>
      obtain ⟨v, w', hR, _⟩ := h default []
      have := hK _ _ hR
      rwa [put_defers] at this
    | _ => exact h.elim
  | halt x w =>
    cases x with
    | panic v => exact absurd h (hQ.panic _ _ _)
    | _ => exact h.elim

theorem list_defers (hQ : Tame Q) (hQd : ∀ a w, Q .normal a w → a.defers = []) : ∀ (l : List Oper) (a : Act) (w : World), wpList P ops Q l a w → a.defers = []
  | [], a, w, h => hQd a w h
  | o :: l, a, w, h => by
    unfold wpList at h
    split at h
    · rcases h with h | h
      · exact upon_defers hQ (list_defers hQ hQd l) h
      · exact absurd h.2 hQ.out
    · have := list_defers hQ hQd l _ w h
      rwa [put_defers] at this

theorem any_defers {md : Region.Mode} (hQ : Tame Q) (hQd : ∀ a w, Q .normal a w → a.defers = []) : ∀ (fuel : Nat) (listed : Array Bool) (a : Act) (w : World), wpAny P md ops Q fuel listed a w → a.defers = []
  | 0, listed, a, w, h => hQd a w h.2
  | fuel + 1, listed, a, w, h => by
    cases hr : Region.ready md ops listed with
    | nil => exact hQd a w (h.1 hr)
    | cons i is =>
      have h1 := h.2 i (by rw [hr]; simp)
      unfold wpOp at h1
      split at h1
      · exact any_defers hQ hQd fuel _ a w h1
      · split at h1
        · rcases h1 with h1 | h1
          · exact upon_defers hQ (any_defers hQ hQd fuel _) h1
          · exact absurd h1.2 hQ.out
        · have := any_defers hQ hQd fuel _ _ w h1
          rwa [put_defers] at this

theorem operD (hQ : Tame Q) {o : Oper} {a : Act} {w : World} {K : Act → World → Prop} (hd : noDefer o = true) (ha : a.defers = ds) (hK : ∀ a w, K a w → a.defers = []) (h : o.wp P (clr a) w K Q) : o.wpIn (Fd rd) n P a w (KD ds K) (QD ds Q) := by
  refine ⟨fun _ _ => trivial, ?_⟩
  rw [Oper.semAt_eq _ _ _ (noDefer_ne hd)]
  exact uponD hQ ha hK h

theorem listD (hQ : Tame Q) (hQd : ∀ a w, Q .normal a w → a.defers = []) : ∀ (l : List Oper) (a : Act) (w : World), l.all noDefer = true → a.defers = ds → wpList P ops Q l (clr a) w → wpListIn (Fd rd) n P ops (QD ds Q) l a w
  | [], a, w, _, ha, h => ⟨h, ha⟩
  | o :: l, a, w, hd, ha, h => by
    simp only [List.all_cons, Bool.and_eq_true] at hd
    unfold wpListIn
    unfold wpList at h
    split
    · rename_i hw
      rw [if_pos (show Region.wanted o (yielded ops (clr a).tmps) = true from hw)] at h
      rcases h with h | h
      · exact Oper.wpIn_mono (fun a w hk => listD hQ hQd l a w hd.2 hk.2 hk.1) (operD hQ hd.1 ha (list_defers hQ hQd l) h)
      · exact absurd h.2 hQ.out
    · rename_i hw
      rw [if_neg (show ¬ Region.wanted o (yielded ops (clr a).tmps) = true from hw)] at h
      refine ⟨fun _ _ => trivial, listD hQ hQd l _ w hd.2 (by rw [put_defers]; exact ha) ?_⟩
      rw [clr_put]
      exact h

theorem anyD {md : Region.Mode} (hQ : Tame Q) (hQd : ∀ a w, Q .normal a w → a.defers = []) (hd : ops.toList.all noDefer = true) : ∀ (fuel : Nat) (listed : Array Bool) (a : Act) (w : World), a.defers = ds → wpAny P md ops Q fuel listed (clr a) w → wpAnyIn (Fd rd) n P md ops (QD ds Q) fuel listed a w
  | 0, listed, a, w, ha, h => ⟨h.1, h.2, ha⟩
  | fuel + 1, listed, a, w, ha, h => by
    refine ⟨fun hr => ⟨h.1 hr, ha⟩, fun i hi => ?_⟩
    have h1 := h.2 i hi
    unfold wpOp at h1
    unfold wpOpIn
    cases ho : ops[i]? with
    | none => rw [ho] at h1; exact anyD hQ hQd hd fuel _ a w ha h1
    | some o =>
      rw [ho] at h1
      simp only [] at h1 ⊢
      have hdo : noDefer o = true := by
        have hm : o ∈ ops.toList := by
          have := Array.mem_of_getElem? ho
          simpa using this
        exact List.all_eq_true.1 hd o hm
      split
      · rename_i hw
        rw [if_pos (show Region.wanted o (yielded ops (clr a).tmps) = true from hw)] at h1
        rcases h1 with h1 | h1
        · exact Oper.wpIn_mono (fun a w hk => anyD hQ hQd hd fuel _ a w hk.2 hk.1) (operD hQ hdo ha (any_defers hQ hQd fuel _) h1)
        · exact absurd h1.2 hQ.out
      · rename_i hw
        rw [if_neg (show ¬ Region.wanted o (yielded ops (clr a).tmps) = true from hw)] at h1
        refine ⟨fun _ _ => trivial, anyD hQ hQd hd fuel _ _ w (by rw [put_defers]; exact ha) ?_⟩
        rw [clr_put]
        exact h1
end Go.Dc
