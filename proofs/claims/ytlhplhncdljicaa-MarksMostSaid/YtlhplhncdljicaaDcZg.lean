/- A range over slices.Backward in its block, told by what stands between its rounds. -/
import Derived.Test.YtlhplhncdljicaaDcZf
import Derived.Test.YtlhplhncdljicaaDcZi
set_option linter.unusedVariables false
set_option linter.unusedSimpArgs false
namespace Go.Dc
noncomputable def rndR (E:Env Prop) (n:Nat) (f:FuncId) (as body:Code) (st:St) (k:Exit -> St -> Prop):Prop :=
 code propAns E (drawAll propAns E) n f as st fun e st1 => match e with
  | .normal => code propAns E (drawAll propAns E) n f body st1 k
  | _ => False
def rgA (fi:FI) (id:Nat):Code:=match blockOf fi id with | some (.rangeFunc _ _ a _) => a | _ => .skip
def rgB (fi:FI) (id:Nat):Code:=match blockOf fi id with | some (.rangeFunc _ _ _ b) => b | _ => .skip
theorem rangeLoop {P:Program} {E:Env Prop} (hm:P.follows .mixedOrders = true) (hE:EnvOK P E id) {f:FuncId} (hl:∀ i,E.loops f i = Option.none) {gf esz:Nat} (hB:BackOK P gf esz)
  (hent:∀ args w,(callFunc gf args).run P w = .ok (.enter gf args) w) {fi:FI} (hF:E.F f = some fi) {i:Nat} {g:Operand} {p0 p1:Tmp} {as body:Code} (hb:blockOf fi i = some (.rangeFunc g #[p0,p1] as body))
  (hnd:(codeND as && codeND body) = true) {st:St} {bx:Nat} (hg:st.ev g = .fn gf [] [.ptr false bx 0 0]) {rb:Row} (hbx:st.rows.live bx = some rb) {sv:AV} (hsv0:rb.get? 0 = some sv)
  {ds:List Nat} {len:Nat} {els:Nat -> AV} (hbd:bx ∈ ds)
  (hsv:(sv = .nils /\ len = 0) \/ (∃ b i full r,sv = .sl false b i len full /\ st.rows.live b = some r /\ r.esz = esz /\ b ∈ ds /\ ∀ j,j < len -> r.get? (i + j) = some (els j)) \/
   (∃ b i full,sv = .sl true b i len full /\ (E.R b).esz = esz /\ i + len <= (E.R b).n /\ ∀ j,j < len -> els j = (E.R b).at_ (i + j)))
  {I:Nat -> Rows -> Prop} {X:Exit -> Rows -> Prop} (h0:I 0 (dead ds st.rows)) (n:Nat)
  (hround:∀ k rows,k < len -> I k rows -> rndR E n f as body ⟨(st.tmps.set p0 (.int .i64 ((len - 1 - k:Nat):Int))).set p1 (els (len - 1 - k)),rows⟩ fun e st2 =>
   ∃ rowsE,(rowsE = st2.rows \/ FitR st.rows.length rowsE st2.rows) /\ match e with | .normal => I (k + 1) rowsE | e => X e rowsE)
  {Q:Exit -> St -> Prop} (hdone:∀ rows,I len rows -> Q .normal ⟨st.tmps,revive ds st.rows rows⟩)
  (hexit:∀ e rows,X e rows -> match e with
   | .exit id' => bif Nat.beq id' i then Q .normal ⟨st.tmps,revive ds st.rows rows⟩ else Q (.exit id') ⟨st.tmps,revive ds st.rows rows⟩
   | e => Q e ⟨st.tmps,revive ds st.rows rows⟩) :
  SafeM P E.R (.block i (.rangeFunc g #[p0,p1] as body)) st Q:=by
 have hm1:=blockOf_mem hb
 have hsa:∀ p ∈ subs as,p ∈ E.subsOf f:=fun p hp => by unfold Env.subsOf; rw [hF]; exact subs_trans _ _ hm1 p (by simp [subs,hp])
 have hsb:∀ p ∈ subs body,p ∈ E.subsOf f:=fun p hp => by unfold Env.subsOf; rw [hF]; exact subs_trans _ _ hm1 p (by simp [subs,hp])
 simp only [Bool.and_eq_true] at hnd
 refine SafeM.block (range_ok hB hent hg hbx hsv0 hbd hsv (I:=I) (X:=X) h0 ?_ hdone ?_)
 ·intro l k rows hk hI
  have ok:=fun c st k => code_okR (rd:=some l) (ds:=[]) propHolds hE hm f (fun id spec e => by rw [hl id] at e; cases e) n c st k
  refine SafeR.mono (ok as _ _ hnd.1 hsa (hround k rows hk hI)) ?_
  intro e1 st1 hq1
  cases e1 with
  | normal => exact ⟨rfl,ok body _ _ hnd.2 hsb hq1⟩
  | _ => exact hq1.elim
 ·intro e rows hx
  exact hexit e rows hx
end Go.Dc
