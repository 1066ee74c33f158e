/- The condition of a run, with draws. -/
import Derived.Test.YtebgogcdndmaaaaDcYc
namespace Go.Dc
noncomputable section

/-- The condition that a function's body comes to. -/
def vcd (E : Env Prop) (n : Nat) (f : FuncId) (fi : FI) (args : List AV) (h : Rows) (Q : AV → Rows → Prop) : Prop :=
  code propAns E (drawAll propAns E) n f fi.body ⟨enterT args fi.ntmps, h⟩ fun e st => match e with
    | .normal | .ret => resK propAns E st fi.results fun v => Q v st.rows
    | _ => False

theorem SafeCall.vcd {P : Program} (hm : P.follows .mixedOrders = true) {E : Env Prop} (hE : EnvOK P E id) {f : FuncId} {fi : FI} (hF : E.F f = some fi) {args : List AV} {h : Rows} {Q : AV → Rows → Prop} (n : Nat) (hk : Dc.vcd E n f fi args h Q) : SafeCall P E.R f args h Q :=
  SafeCall.run hE (drawAll_ok propHolds hE.T hm) hF n hk

/-- The condition that a round of a loop comes to. -/
def rnd (E : Env Prop) (n : Nat) (f : FuncId) (c : Code) (st : St) (k : Exit → St → Prop) : Prop := code propAns E (drawAll propAns E) n f c st k

theorem Safe.rnd {P : Program} (hm : P.follows .mixedOrders = true) {E : Env Prop} (hE : EnvOK P E id) {f : FuncId} {fi : FI} (hF : E.F f = some fi) {i : Nat} {b c : Code} (hb : blockOf fi i = some b) (hc : subs c = subs b) {st : St} {k : Exit → St → Prop} (n : Nat)
    (hk : Dc.rnd E n f c st k) : Safe P E.R c st k :=
  Safe.run hE (drawAll_ok propHolds hE.T hm) hF hb hc n hk

end
end Go.Dc
