/- Plain laws that conditions fall under. -/
import Derived.Test.YtebgogcdndmaaaaDcU
import Derived.KernelRfl
namespace Go.Dc

/-- The condition of a chain of comparisons. -/
def chain (s : List UInt8) (yes no : Prop) : List (List UInt8) → Prop
  | [] => no
  | l :: ls => bif s == l then yes else chain s yes no ls

theorem chain_of {s : List UInt8} {Q : Bool → Prop} : ∀ {L : List (List UInt8)}, Q (L.any fun l => s == l) → chain s (Q true) (Q false) L
  | [], h => h
  | l :: ls, h => by
    unfold chain
    cases hb : (s == l) with
    | true => rw [List.any_cons, hb] at h; exact h
    | false => rw [List.any_cons, hb] at h; exact chain_of h

/-- The same, with the sides of each comparison changed. -/
def chainR (s : List UInt8) (yes no : Prop) : List (List UInt8) → Prop
  | [] => no
  | l :: ls => bif l == s then yes else chainR s yes no ls

theorem chainR_of {s : List UInt8} {Q : Bool → Prop} : ∀ {L : List (List UInt8)}, Q (L.any fun l => s == l) → chainR s (Q true) (Q false) L
  | [], h => h
  | l :: ls, h => by
    unfold chainR
    rw [show (l == s) = (s == l) from BEq.comm]
    cases hb : (s == l) with
    | true => rw [List.any_cons, hb] at h; exact h
    | false => rw [List.any_cons, hb] at h; exact chainR_of h

/-- The condition that a function's body comes to. -/
def vc (E : Env Prop) (n : Nat) (f : FuncId) (fi : FI) (args : List AV) (h : Rows) (Q : AV → Rows → Prop) : Prop :=
  code propAns E (noDraw propAns) n f fi.body ⟨enterT args fi.ntmps, h⟩ fun e st => match e with
    | .normal | .ret => resK propAns E st fi.results fun v => Q v st.rows
    | _ => False

theorem SafeCall.vc {P : Program} {E : Env Prop} (hE : EnvOK P E id) {f : FuncId} {fi : FI} (hF : E.F f = some fi) {args : List AV} {h : Rows} {Q : AV → Rows → Prop} (n : Nat) (hk : Dc.vc E n f fi args h Q) : SafeCall P E.R f args h Q :=
  SafeCall.run hE (noDraw_ok propHolds) hF n hk

/-- An answer without rows of its own, where there were none: what rows there are behind is forgotten. -/
theorem SafeCall.none {P : Program} {R : Nat → RoRow} {f : FuncId} {args : List AV} {Q : AV → Prop} (hs : SafeCall P R f args [] fun v _ => Q v) (hg : ∀ v, Q v → Vw (fun _ => none) 0 v v) : SafeCall P R f args [] fun v h => Q v ∧ h = [] :=
  hs.fit fun v h' hq => ⟨v, [], ⟨fun _ => .none, ⟨fun c b hc => absurd hc (Nat.not_lt_zero _), fun c c' b hc => absurd hc (Nat.not_lt_zero _), fun c r hc => by simp [Rows.live] at hc⟩, hg v hq, fun c hc => absurd hc (Nat.not_lt_zero _), Nat.le_refl _⟩, hq, rfl⟩

end Go.Dc
