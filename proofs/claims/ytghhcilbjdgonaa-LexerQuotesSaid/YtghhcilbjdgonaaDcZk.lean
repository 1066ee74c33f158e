/- Loops, round by round. -/
import Derived.Test.YtghhcilbjdgonaaDcZj
set_option linter.unusedSimpArgs false
set_option linter.unusedVariables false
namespace Go.Dc
/-- What a loop's rounds, from one on, end in. -/
def Loops (P : Program) (c : Code) (Q : Exit → Act → World → Prop) (a : Act) (w : World) : Prop :=
  ∀ b k cs, ∃ e a' w', Q e a' w' ∧ Arrives P (lone (b.at a (.code c :: .inLoop c :: k)) cs w) b k cs e a' w'
theorem Loops.step {P : Program} {c : Code} {Q : Exit → Act → World → Prop} {a : Act} {w : World} (h : c.wp P (Exit.then (Loops P c Q) Q) a w) : Loops P c Q a w := by
  intro b k cs
  obtain ⟨e, a₁, w₁, hq, harr⟩ := h b (.inLoop c :: k) cs
  cases e with
  | normal =>
    obtain ⟨e₂, a₂, w₂, hq₂, harr₂⟩ := hq b k cs
    exact ⟨e₂, a₂, w₂, hq₂, .of_steps (Steps.trans harr (.one step_inLoop)) harr₂⟩
  | exit id => exact ⟨_, a₁, w₁, hq, .pass (x := .inLoop c) rfl (fun _ _ => .inl (by simp)) harr⟩
  | goto l => exact ⟨_, a₁, w₁, hq, .pass (x := .inLoop c) rfl (fun _ _ => .inl (by simp)) harr⟩
  | ret => exact ⟨_, a₁, w₁, hq, .pass (x := .inLoop c) rfl (fun _ _ => .inl (by simp)) harr⟩
  | panic ch => exact ⟨_, a₁, w₁, hq, .pass (x := .inLoop c) rfl (fun _ _ => .inl (by simp)) harr⟩
  | outgrown => exact ⟨_, a₁, w₁, hq, .pass (x := .inLoop c) rfl (fun _ _ => .inl (by simp)) harr⟩
theorem Loops.wp {P : Program} {c : Code} {Q : Exit → Act → World → Prop} {a : Act} {w : World} (h : Loops P c Q a w) : (Code.loop c).wp P Q a w := by
  intro b k cs
  obtain ⟨e, a', w', hq, harr⟩ := h b k cs
  exact ⟨e, a', w', hq, .of_steps (.one step_loop) harr⟩
/-- The rounds of a loop, from an abstract state on; the first 'nk' rows keep their numbers. -/
def SafeL (P : Program) (R : Nat → RoRow) (nk : Nat) (c : Code) (st : St) (Q : Exit → St → Prop) : Prop :=
  ∀ m a w m0 h0 w0, h0.length ≤ nk → Rel R m st a w → Step m0 h0 w0 m st.rows w → Loops P c (Post R Q m0 h0 w0) a w
theorem SafeL.step {P : Program} {R : Nat → RoRow} {nk : Nat} {c : Code} {st : St} {Q : Exit → St → Prop} (h : Safe P R c st fun e st' => match e with | .normal => SafeL P R nk c st' Q | e => Q e st') : SafeL P R nk c st Q := by
  intro m a w m0 h0 w0 hn hr hs
  refine Loops.step (wp_mono (h m a w m0 h0 w0 hr hs) ?_)
  rintro e a' w' ⟨m', st', hok, hq, hr', hs'⟩
  cases e with
  | normal => exact hq m' a' w' m0 h0 w0 hn hr' hs'
  | exit id => exact ⟨m', st', trivial, hq, hr', hs'⟩
  | ret => exact ⟨m', st', trivial, hq, hr', hs'⟩
  | _ => exact hok.elim
theorem SafeL.fit {P : Program} {R : Nat → RoRow} {nk : Nat} {c : Code} {stE st : St} {Q : Exit → St → Prop} (hF : Fit nk stE st) (hs : SafeL P R nk c stE Q) : SafeL P R nk c st Q := by
  obtain ⟨f, hV, hf, hl⟩ := hF
  intro m a w m0 h0 w0 hn hr hstep
  exact hs _ a w m0 h0 w0 hn (hr.view hV) (hstep.forget hV.rows (fun c hc => hf c (Nat.lt_of_lt_of_le hc hn)) (Nat.le_trans hn hl))
theorem SafeL.block {P : Program} {R : Nat → RoRow} {c : Code} {id : Nat} {st : St} {Q : Exit → St → Prop} (hs : SafeL P R st.rows.length c st fun e st' => Q (blockExit id e) st') : Safe P R (.block id (.loop c)) st Q :=
  Safe.block fun m a w m0 h0 w0 hr hstep => (hs m a w m0 h0 w0 hstep.len hr hstep).wp
/-- So many rounds by running, then a contract. -/
def runL (E : Env Prop) (f : FuncId) (c : Code) : Nat → LoopSp → LoopSp
  | 0, sp => sp
  | n + 1, sp => fun st k => rnd E 1000 f c st fun e st' => match e with | .normal => runL E f c n sp st' k | e => k e st'
theorem runL_ok {P : Program} (hm : P.follows .mixedOrders = true) {E : Env Prop} (hE : EnvOK P E id) {f : FuncId} {fi : FI} (hF : E.F f = some fi) {i : Nat} {c : Code} (hb : blockOf fi i = some (.loop c)) (hc : subs c = subs (.loop c)) {nk : Nat} {sp : LoopSp}
    (hsp : ∀ st k, sp st k → SafeL P E.R nk c st k) : ∀ n st k, runL E f c n sp st k → SafeL P E.R nk c st k
  | 0, st, k, h => hsp st k h
  | n + 1, st, k, h => by
    refine SafeL.step ((Safe.rnd hm hE hF hb hc 1000 h).mono ?_)
    intro e st' hq
    cases e with
    | normal => exact runL_ok hm hE hF hb hc hsp n st' k hq
    | _ => exact hq
end Go.Dc
