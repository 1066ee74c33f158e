/- One row's contracts anywhere; regions that end in a panic. -/
import Derived.Test.YtfajmjhijanggaaDcXc
import Derived.OrdersIn
import Derived.TacticsIn
import Derived.LoopNIn
import Derived.RangeFuncLeaves
import Derived.RangeFuncOne
import Derived.Test.YtfajmjhijanggaaDcYi
import Derived.RangeFuncRecord
section
set_option linter.unusedSimpArgs false
set_option linter.unusedVariables false
namespace Go.Dc
/-- A row that leads to no live rows. -/
structure RowG (r : Row) : Prop where
  vw : ∀ f n, RowV f n r r
  ren : ∀ g, renRow g r = r
theorem View.setSame {h : Rows} {b : Nat} {r' : Row} (hb : b < h.length) (hr : RowG r') (j : Rows) (hV : View some h h) (ho : ∃ r, h.live b = some r) : View some (h.set b (some r')) (h.set b (some r') ++ j) where
  lt := fun c d hc hd => by have := hV.lt c d (by simpa using hc) hd; simp; omega
  inj := fun c c' d hc hc' => hV.inj c c' d (by simpa using hc) (by simpa using hc')
  row := fun c q hc => by
    have hlt : c < h.length := by have := live_lt hc; simpa using this
    by_cases hcb : c = b
    · subst hcb
      have hq : q = r' := by
        unfold Rows.live at hc
        rw [List.getElem?_set_self hlt] at hc
        simpa using hc.symm
      subst hq
      refine .inl ⟨c, q, rfl, ?_, hr.vw _ _⟩
      rw [live_append (by simpa using hlt)]
      exact hc
    · have hc' : h.live c = some q := by
        unfold Rows.live at hc ⊢
        rw [List.getElem?_set_ne (fun e => hcb e.symm)] at hc
        exact hc
      rcases hV.row c q hc' with ⟨d, q', h1, h2, h3⟩ | ⟨h1, h2⟩
      · cases h1
        rw [hc'] at h2; cases h2
        refine .inl ⟨c, q, rfl, ?_, by simpa using h3⟩
        rw [live_append (by simpa using hlt)]
        exact hc
      · exact .inr ⟨h1, h2⟩

/-- What is known of one row alone holds wherever it lies. -/
theorem SafeCallX.at1 {P : Program} {R : Nat → RoRow} {fn : FuncId} {argsL args : List AV} {r : Row} {h : Rows} {b : Nat} {F : Fz} {Q HP : AV → Row → Fz → Prop}
    (hb : h.live b = some r) (hr : RowG r) (hA : VwL (oneV b) 1 argsL args)
    (hs : SafeCallX P R fn argsL [some r] F (fun v h' F' => ∃ r' tl, h' = some r' :: tl ∧ gnd v = true ∧ RowG r' ∧ Q v r' F') (fun v h' F' => ∃ r' tl, h' = some r' :: tl ∧ gnd v = true ∧ RowG r' ∧ HP v r' F')) :
    SafeCallX P R fn args h F (fun v h' F' => ∃ r', h' = h.set b (some r') ∧ Q v r' F') (fun v h' F' => ∃ r', h' = h.set b (some r') ∧ HP v r' F') := by
  have hlt : b < h.length := live_lt hb
  have hb' : h[b]? = some (some r) := by
    unfold Rows.live at hb
    rw [List.getElem?_eq_getElem hlt] at hb ⊢
    simpa using hb
  have hV : View (oneV b) [some r] h := View.of (fun c o ho => by
    cases c with
    | zero => cases ho; exact ViewL.at_ (b := b) rfl hb' (hr.vw _ _)
    | succ c => simp at ho) (fun c c' d hc hc' _ _ => by simp at hc hc'; omega)
  intro m w m0 h0 w0 F0 as hd hW hf hst hl
  have hV0 := hW.idView
  refine (SafeCallX.focus hV hA hs m w m h w F as hd hW hf (Step.refl _ _ _) (.refl _ _ _ _)).mono ?_
  have fin : ∀ {c v v' : AV} {cv : Value} {h' : Rows} {m' : Map} {F' : Fz} {w' : World} {r' : Row} {tl : Rows}, h' = some r' :: tl → gnd v' = true → RowG r' → v = ren (ext (oneV b) [some r].length h.length) v' → Den m' (merged (oneV b) [some r].length [some r].length h h').length v cv →
      WR R m' (merged (oneV b) [some r].length [some r].length h h') w' → FzOK F' m' (merged (oneV b) [some r].length [some r].length h h') w' → Step m h w m' (merged (oneV b) [some r].length [some r].length h h') w' →
      ∃ m2, WR R m2 (h.set b (some r')) w' ∧ FzOK F' m2 (h.set b (some r')) w' ∧ Step m h w m2 (h.set b (some r')) w' ∧ Den m2 (h.set b (some r')).length v' cv := by
    intro c v v' cv h' m' F' w' r' tl e1 hg hrg e2 hd' hW' hf' hS'
    subst e1
    have em : merged (oneV b) [some r].length [some r].length h (some r' :: tl) = h.set b (some r') ++ (Option.none :: tl.map (Option.map (renRow (g1 b h.length)))) := by
      have := merged_one hlt (some r') tl
      rw [Option.map_some, hrg.ren] at this
      exact this
    rw [em] at hd' hW' hf' hS'
    have hV2 := View.setSame hlt hrg (Option.none :: tl.map (Option.map (renRow (g1 b h.length)))) hV0 ⟨r, hb⟩
    rw [gnd_ren _ _ hg] at e2
    subst e2
    exact ⟨_, hW'.view hV2, hf'.view hV2, hS'.forget hV2 (fun c hc => rfl) (by simp), (gnd_vw some _ v hg).den _ _ _ hd'⟩
  rintro e w' ⟨m', h', F', hW', hf', hl', hs', ⟨c, v, rfl, ⟨v', h2, ⟨r', tl, e1, hg, hrg, hq⟩, e2, e3⟩, hd'⟩ | ⟨c, v, rfl, ⟨v', h2, ⟨r', tl, e1, hg, hrg, hq⟩, e2, e3⟩, hd'⟩⟩
  · subst e3
    obtain ⟨m2, q1, q2, q3, q4⟩ := fin (c := v) e1 hg hrg e2 hd' hW' hf' hs'
    exact ⟨m2, _, F', q1, q2, hl.trans hst hl', hst.trans q3, .inl ⟨c, v', rfl, ⟨r', rfl, hq⟩, q4⟩⟩
  · subst e3
    obtain ⟨m2, q1, q2, q3, q4⟩ := fin (c := v) e1 hg hrg e2 hd' hW' hf' hs'
    exact ⟨m2, _, F', q1, q2, hl.trans hst hl', hst.trans q3, .inr ⟨c, v', rfl, ⟨r', rfl, hq⟩, q4⟩⟩

/-! ### A region that ends in a panic -/
theorem upon_mono {P : Program} {o : Oper} {a : Act} {K K' : Act → World → Prop} {Q Q' : Exit → Act → World → Prop} (hk : ∀ a w, K a w → K' a w) (hp : ∀ e a w, e ≠ .normal → Q e a w → Q' e a w) : ∀ r, o.upon P a K Q r → o.upon P a K' Q' r := by
  intro r h
  unfold Oper.upon at h ⊢
  split at h
  · exact hk _ _ h
  · exact hk _ _ h
  · exact hk _ _ h
  · refine Calls.mono h ?_
    intro e w' he
    cases e with
    | returned v => exact hk _ _ he
    | panicked ch => exact hp _ _ _ (by simp) he
    | outgrown => obtain ⟨a', w2, h2⟩ := he; exact ⟨a', w2, hp _ _ _ (by simp) h2⟩
  · exact Rows.mono h fun v w' hh => hk _ _ hh
  · exact hp _ _ _ (by simp) h
  · exact h.elim
theorem wpList_append {P : Program} {ops : Array Oper} {Q : Exit → Act → World → Prop} {l2 : List Oper} : ∀ (l1 : List Oper) (a : Act) (w : World), wpList P ops (fun e a w => match e with | .normal => wpList P ops Q l2 a w | e => Q e a w) l1 a w → wpList P ops Q (l1 ++ l2) a w
  | [], a, w, h => h
  | o :: l1, a, w, h => by
    simp only [List.cons_append]
    unfold wpList at h ⊢
    split
    · rename_i hw
      rw [if_pos hw] at h
      rcases h with h | ⟨h1, a', w', h2⟩
      · refine .inl (upon_mono (fun a w h => wpList_append l1 a w h) ?_ _ h)
        intro e a w hne hq
        cases e with
        | normal => exact absurd rfl hne
        | _ => exact hq
      · exact .inr ⟨h1, a', w', h2⟩
    · rename_i hw
      rw [if_neg hw] at h
      exact wpList_append l1 _ _ h
theorem SafeX.panicEnd {P : Program} {E : EnvX} {HP : AV → Rows → Fz → Prop} {ds : List Deferred} (hT : TabOK P E.T) {id : Nat} {ops : Array Oper} {pre : List Oper} {o : Oper} {x : Operand} (ho : ops.toList = pre ++ [o]) (hop : o.op = .panic x) (hog : o.guard = none)
    {st : St} {F : Fz} {Q : Exit → St → Fz → Prop}
    (hk : runOpsB ansX E (fun _ _ _ _ _ => False) ops.toList pre st (fun st' F' => HP (st'.ev x) st'.rows F' ∧ ∃ t y, st'.ev x = .ifc t y) F) : SafeX P E.R ds (.region id ops false) st F Q HP := by
  intro m a w m0 h0 w0 F0 hr hf hs hl
  refine wp_region_list ?_
  rw [ho]
  refine wpList_append pre a w ?_
  refine runOps_okX (HP := HP) ansX_holds hT (call := fun _ _ _ _ _ => False) (fun f args h k F hh => hh.elim) ops pre st _ F hk hr hf hs hl _ ?_ ?_
  · intro a' c v m' h' w' F' hd h1 h2 h3 h4 h5 h6
    exact ⟨m', h', v, c, F', rfl, h1, h2, h3, h4, h5, h6, hd⟩
  · rintro F' m' st' a' w' ⟨hh, t, y, hy⟩ hr' hf' hs' hl'
    unfold wpList
    have hw : Region.wanted o (yielded ops a'.tmps) = true := by simp [Region.wanted, hog]
    rw [if_pos hw]
    refine .inl ?_
    unfold Oper.wp
    have hev := hr'.ev x
    rw [hy] at hev
    have hev2 := hev
    simp only [Den] at hev
    obtain ⟨u, hu, hdu⟩ := hev
    have hrun : (execOp a'.eval o).run P w' = .halt (.panic (a'.eval x)) w' := by
      obtain ⟨dst, op, type, pos, after, guard⟩ := o
      simp only at hop
      subst hop
      have h9 : (Instr.panic (a'.eval x)).run P w' = .halt (.panic (a'.eval x)) w' := by rw [hu]; rfl
      simp only [execOp, Sem.run_bind, h9, Result.andThen]
    rw [hrun]
    exact ⟨m', st'.rows, st'.ev x, a'.eval x, F', rfl, hh, by rw [hy]; exact hev2, hr'.wr, hf', hs', hl', hr'.defers⟩
end Go.Dc
end
section
set_option linter.unusedVariables false
set_option linter.unusedSimpArgs false
namespace Go.Dc

def Fd (rd : Option Nat) : Fence := { Fence.wide with round := rd }
theorem Fd_none : Fd none = Fence.wide := rfl

theorem callsR {rd : Option Nat} {n : Nat} {P : Program} {f : FuncId} {args : Array Value} {w : World} {R : Ending → World → Prop} (h : Calls P f args w R) : CallsIn (Fd rd) n P f args w R := (callsIn_wide (n := n)).2 h
theorem rowsR {rd : Option Nat} {n : Nat} {P : Program} {row : String} {args : Array Value} {w : World} {R : Value → World → Prop} (h : Go.Rows P row args w R) : RowsIn (Fd rd) n P row args w R := by
  intro c cs hroom
  obtain ⟨v, w', r, s⟩ := h c cs
  exact ⟨v, w', r, stepsIn_wide.2 s⟩

def noDefer (o : Oper) : Bool := match o.op with | .defer _ => false | _ => true
theorem noDefer_ne {o : Oper} (h : noDefer o = true) : ∀ c, o.op ≠ .defer c := by
  intro c e
  unfold noDefer at h
  rw [e] at h
  simp at h

variable {rd : Option Nat} {n : Nat} {P : Program} {ops : Array Oper} {Q : Exit → Act → World → Prop}

/-- An act without its deferred calls. -/
def clr (a : Act) : Act := { a with defers := [] }
theorem clr_put (a : Act) (d : Option Tmp) (v : Value) : clr (a.put d v) = (clr a).put d v := by cases d <;> rfl
theorem put_defers (a : Act) (d : Option Tmp) (v : Value) : (a.put d v).defers = a.defers := by cases d <;> rfl
def KD (ds : List Deferred) (K : Act → World → Prop) (a : Act) (w : World) : Prop := K (clr a) w ∧ a.defers = ds
def QD (ds : List Deferred) (Q : Exit → Act → World → Prop) (e : Exit) (a : Act) (w : World) : Prop := Q e (clr a) w ∧ a.defers = ds

/-- Nothing panics, nothing outgrows. -/
structure Tame (Q : Exit → Act → World → Prop) : Prop where
  out : ¬ LetsOut Q
  panic : ∀ ch a w, ¬ Q (.panic ch) a w

variable {ds : List Deferred}

theorem uponD (hQ : Tame Q) {o : Oper} {a : Act} (ha : a.defers = ds) {K : Act → World → Prop} {r : Result Next} (hK : ∀ a w, K a w → a.defers = []) (h : o.upon P (clr a) K Q r) : o.uponIn (Fd rd) n P a (KD ds K) (QD ds Q) r := by
  cases r with
  | ok x w =>
    cases x with
    | value v => exact ⟨by rw [clr_put]; exact h, by rw [put_defers]; exact ha⟩
    | skip => exact ⟨by rw [clr_put]; exact h, by rw [put_defers]; exact ha⟩
    | defer d =>
      have := hK _ _ h
      rw [put_defers] at this
      simp at this
    | enter f args =>
      refine ⟨fun e => by simp [Fd, Fence.wide] at e, callsR (Calls.mono h ?_)⟩
      intro e w' he
      cases e with
      | returned v => exact ⟨by rw [clr_put]; exact he, by rw [put_defers]; exact ha⟩
      | panicked ch => exact absurd he (hQ.panic _ _ _)
      | outgrown => exact absurd he hQ.out
    | row row args =>
      refine ⟨fun e => by simp [Fd, Fence.wide] at e, rowsR (Go.Rows.mono h ?_)⟩
      intro v w' he
      exact ⟨by rw [clr_put]; exact he, by rw [put_defers]; exact ha⟩
    | _ => exact h.elim
  | halt x w =>
    cases x with
    | panic v => exact absurd h (hQ.panic _ _ _)
    | _ => exact h.elim

theorem upon_defers {o : Oper} {a : Act} {K : Act → World → Prop} {r : Result Next} (hQ : Tame Q) (hK : ∀ a w, K a w → a.defers = []) (h : o.upon P a K Q r) : a.defers = [] := by
  cases r with
  | ok x w =>
    cases x with
    | value v => have := hK _ _ h; rwa [put_defers] at this
    | skip => have := hK _ _ h; rwa [put_defers] at this
    | defer d => have := hK _ _ h; rw [put_defers] at this; simp at this
    | enter f args =>
      obtain ⟨e, w', fr, hR, _⟩ := h []
      cases e with
      | returned v => have := hK _ _ hR; rwa [put_defers] at this
      | panicked ch => exact absurd hR (hQ.panic _ _ _)
      | outgrown => exact absurd hR hQ.out
    | row row args =>
      obtain ⟨v, w', hR, _⟩ := h default []
      have := hK _ _ hR
      rwa [put_defers] at this
    | _ => exact h.elim
  | halt x w =>
    cases x with
    | panic v => exact absurd h (hQ.panic _ _ _)
    | _ => exact h.elim

theorem list_defers (hQ : Tame Q) (hQd : ∀ a w, Q .normal a w → a.defers = []) : ∀ (l : List Oper) (a : Act) (w : World), wpList P ops Q l a w → a.defers = []
  | [], a, w, h => hQd a w h
  | o :: l, a, w, h => by
    unfold wpList at h
    split at h
    · rcases h with h | h
      · exact upon_defers hQ (list_defers hQ hQd l) h
      · exact absurd h.2 hQ.out
    · have := list_defers hQ hQd l _ w h
      rwa [put_defers] at this

theorem any_defers {md : Region.Mode} (hQ : Tame Q) (hQd : ∀ a w, Q .normal a w → a.defers = []) : ∀ (fuel : Nat) (listed : Array Bool) (a : Act) (w : World), wpAny P md ops Q fuel listed a w → a.defers = []
  | 0, listed, a, w, h => hQd a w h.2
  | fuel + 1, listed, a, w, h => by
    cases hr : Region.ready md ops listed with
    | nil => exact hQd a w (h.1 hr)
    | cons i is =>
      have h1 := h.2 i (by rw [hr]; simp)
      unfold wpOp at h1
      split at h1
      · exact any_defers hQ hQd fuel _ a w h1
      · split at h1
        · rcases h1 with h1 | h1
          · exact upon_defers hQ (any_defers hQ hQd fuel _) h1
          · exact absurd h1.2 hQ.out
        · have := any_defers hQ hQd fuel _ _ w h1
          rwa [put_defers] at this

theorem operD (hQ : Tame Q) {o : Oper} {a : Act} {w : World} {K : Act → World → Prop} (hd : noDefer o = true) (ha : a.defers = ds) (hK : ∀ a w, K a w → a.defers = []) (h : o.wp P (clr a) w K Q) : o.wpIn (Fd rd) n P a w (KD ds K) (QD ds Q) := by
  refine ⟨fun _ _ => trivial, ?_⟩
  rw [Oper.semAt_eq _ _ _ (noDefer_ne hd)]
  exact uponD hQ ha hK h

theorem listD (hQ : Tame Q) (hQd : ∀ a w, Q .normal a w → a.defers = []) : ∀ (l : List Oper) (a : Act) (w : World), l.all noDefer = true → a.defers = ds → wpList P ops Q l (clr a) w → wpListIn (Fd rd) n P ops (QD ds Q) l a w
  | [], a, w, _, ha, h => ⟨h, ha⟩
  | o :: l, a, w, hd, ha, h => by
    simp only [List.all_cons, Bool.and_eq_true] at hd
    unfold wpListIn
    unfold wpList at h
    split
    · rename_i hw
      rw [if_pos (show Region.wanted o (yielded ops (clr a).tmps) = true from hw)] at h
      rcases h with h | h
      · exact Oper.wpIn_mono (fun a w hk => listD hQ hQd l a w hd.2 hk.2 hk.1) (operD hQ hd.1 ha (list_defers hQ hQd l) h)
      · exact absurd h.2 hQ.out
    · rename_i hw
      rw [if_neg (show ¬ Region.wanted o (yielded ops (clr a).tmps) = true from hw)] at h
      refine ⟨fun _ _ => trivial, listD hQ hQd l _ w hd.2 (by rw [put_defers]; exact ha) ?_⟩
      rw [clr_put]
      exact h

theorem anyD {md : Region.Mode} (hQ : Tame Q) (hQd : ∀ a w, Q .normal a w → a.defers = []) (hd : ops.toList.all noDefer = true) : ∀ (fuel : Nat) (listed : Array Bool) (a : Act) (w : World), a.defers = ds → wpAny P md ops Q fuel listed (clr a) w → wpAnyIn (Fd rd) n P md ops (QD ds Q) fuel listed a w
  | 0, listed, a, w, ha, h => ⟨h.1, h.2, ha⟩
  | fuel + 1, listed, a, w, ha, h => by
    refine ⟨fun hr => ⟨h.1 hr, ha⟩, fun i hi => ?_⟩
    have h1 := h.2 i hi
    unfold wpOp at h1
    unfold wpOpIn
    cases ho : ops[i]? with
    | none => rw [ho] at h1; exact anyD hQ hQd hd fuel _ a w ha h1
    | some o =>
      rw [ho] at h1
      simp only [] at h1 ⊢
      have hdo : noDefer o = true := by
        have hm : o ∈ ops.toList := by
          have := Array.mem_of_getElem? ho
          simpa using this
        exact List.all_eq_true.1 hd o hm
      split
      · rename_i hw
        rw [if_pos (show Region.wanted o (yielded ops (clr a).tmps) = true from hw)] at h1
        rcases h1 with h1 | h1
        · exact Oper.wpIn_mono (fun a w hk => anyD hQ hQd hd fuel _ a w hk.2 hk.1) (operD hQ hdo ha (any_defers hQ hQd fuel _) h1)
        · exact absurd h1.2 hQ.out
      · rename_i hw
        rw [if_neg (show ¬ Region.wanted o (yielded ops (clr a).tmps) = true from hw)] at h1
        refine ⟨fun _ _ => trivial, anyD hQ hQd hd fuel _ _ w (by rw [put_defers]; exact ha) ?_⟩
        rw [clr_put]
        exact h1
end Go.Dc
end
section
set_option linter.unusedSimpArgs false
set_option linter.unusedVariables false
namespace Go.Dc

/-- Safe in a round, or with deferred calls that stand by. -/
def SafeR (rd : Option Nat) (ds : List Deferred) (P : Program) (R : Nat → RoRow) (c : Code) (st : St) (Q : Exit → St → Prop) : Prop :=
  ∀ m a w m0 h0 w0, a.defers = ds → Rel R m st (clr a) w → Step m0 h0 w0 m st.rows w → c.wpIn (Fd rd) 0 P (QD ds (Post R Q m0 h0 w0)) a w

theorem post_tame (R : Nat → RoRow) (Q : Exit → St → Prop) (m0 : Map) (h0 : Rows) (w0 : World) : Tame (Post R Q m0 h0 w0) where
  out := by
    rintro ⟨a, w, m, st, h, _⟩
    exact h
  panic := by
    rintro ch a w ⟨m, st, h, _⟩
    exact h
theorem post_defers {R : Nat → RoRow} {Q : Exit → St → Prop} {m0 : Map} {h0 : Rows} {w0 : World} (a : Act) (w : World) (h : Post R Q m0 h0 w0 .normal a w) : a.defers = [] := by
  obtain ⟨m, st, _, _, hr, _⟩ := h
  exact hr.defers

def codeND : Code → Bool
  | .seq a b => codeND a && codeND b
  | .cond _ a b => codeND a && codeND b
  | .block _ b => codeND b
  | .loop b => codeND b
  | .region _ ops _ => ops.toList.all noDefer
  | .rangeFunc _ _ a b => codeND a && codeND b
  | _ => true

theorem nd_seq {a b : Code} (h : codeND (.seq a b) = true) : codeND a = true ∧ codeND b = true := by simpa [codeND] using h
theorem nd_cond {c : Operand} {a b : Code} (h : codeND (.cond c a b) = true) : codeND a = true ∧ codeND b = true := by simpa [codeND] using h

section
variable {α : Type} {A : Ans α} {E : Env α} {hold : α → Prop} {P : Program} {rd : Option Nat} {ds : List Deferred}

theorem drawAll_okR (hA : Holds A hold) (hT : TabOK P E.T) (hm : P.follows .mixedOrders = true) : ∀ call, CallOK P E.R hold call → ∀ id ops st k, ops.toList.all noDefer = true → hold (drawAll A E call ops st k) → ∀ m a w m0 h0 w0, a.defers = ds → Rel E.R m st (clr a) w → Step m0 h0 w0 m st.rows w →
    (Code.region id ops true).wpIn (Fd rd) 0 P (QD ds (Post E.R (fun e st' => e = .normal ∧ hold (k st')) m0 h0 w0)) a w := by
  intro call hcall id ops st k hnd h m a w m0 h0 w0 ha hr hs
  unfold drawAll at h
  cases hn : neat ops with
  | false => rw [hn] at h; exact (hA.bot h).elim
  | true =>
    rw [hn] at h
    simp only [cond_true] at h
    refine wpIn_region_any hm (anyD (post_tame _ _ _ _ _) post_defers hnd _ _ _ _ ha ?_)
    refine drawGo_ok (m0 := m0) (h0 := h0) (w0 := w0) (Q := Post E.R (fun e st' => e = .normal ∧ hold (k st')) m0 h0 w0) hA hT hcall hn ?_ _ _ _ _ h _ _ m _ _ ?_ ?_
    · intro m' st' a' w' hk hr' hs'
      exact ⟨m', st', trivial, ⟨rfl, hk⟩, hr', hs'⟩
    · have hW : WR E.R m st.rows { w with drawn := w.drawn + 1 } := hr.wr.same rfl
      constructor
      · intro i hi
        rw [Array.getD_eq_getD_getElem?] at hi
        rcases Nat.lt_or_ge i ops.size with h1 | h1
        · rw [Array.getElem?_eq_getElem (by simpa using h1)] at hi; simp at hi
        · rw [Array.getElem?_eq_none (by simpa using h1)] at hi; simp at hi
      · simp
      · intro i hi; simp at hi
      · intro i o hi
        rw [Array.getD_eq_getD_getElem?] at hi
        rcases Nat.lt_or_ge i ops.size with h1 | h1
        · rw [Array.getElem?_eq_getElem (by simpa using h1)] at hi; simp at hi
        · rw [Array.getElem?_eq_none (by simpa using h1)] at hi; simp at hi
      · trivial
      · intro i hi; simp at hi
      · exact ⟨st.tmps, rfl, fun _ _ => rfl, hr.size, hr.tmps, hr.defers, hW⟩
      · exact ⟨hs.os, hs.tape, hs.output, hs.size, hs.block, hs.len, hs.mu, hs.ro, hs.new⟩
    · unfold cnt
      refine Nat.le_trans List.countP_le_length ?_
      simp


theorem code_okR (hA : Holds A hold) (hE : EnvOK P E hold) (hm : P.follows .mixedOrders = true)
    (f : FuncId) (hL : ∀ id spec, E.loops f id = some spec → ∀ body, (id, body) ∈ E.subsOf f → ∀ st k, hold (spec st k) → SafeR rd ds P E.R (.block id body) st fun e st' => hold (k e st')) :
    ∀ (n : Nat) (c : Code) (st : St) (k : Exit → St → α), codeND c = true → (∀ p ∈ subs c, p ∈ E.subsOf f) → hold (code A E (drawAll A E) n f c st k) →
    SafeR rd ds P E.R c st fun e st' => hold (k e st') := by
  intro n
  induction n using Nat.strongRecOn with
  | ind n IH =>
   cases n with
   | zero => intro c st k _ _ h; exact (hA.bot h).elim
   | succ n =>
    have ih := IH n (Nat.lt_succ_self n)
    intro c st k hnd hsub h
    -- the calls
    have hcall : CallOK P E.R hold (fun g args rows k => match E.calls g with
      | some spec => spec args rows k
      | none => match E.F g with
        | none => A.bot
        | some fi => forceL (enterT args fi.ntmps) fun ts => code A E (drawAll A E) n g fi.body ⟨ts, rows⟩ fun e st => match e with
          | .normal | .ret => resK A E st fi.results fun v => k v st.rows
          | _ => A.bot) := by
      intro g args rows k hk
      simp only [] at hk
      cases hc : E.calls g with
      | some spec => rw [hc] at hk; exact hE.calls g spec hc args rows k hk
      | none =>
        rw [hc] at hk
        simp only [] at hk
        cases hf : E.F g with
        | none => rw [hf] at hk; exact (hA.bot hk).elim
        | some fi =>
          rw [hf] at hk
          have hk := forced hk
          have hF := hE.F g fi hf
          have hb := code_ok hA hE (drawAll_ok hA hE.T hm) n g fi.body _ _ (fun p hp => by unfold Env.subsOf; rw [hf]; exact hp) hk
          obtain ⟨fn, h1, h2, h3, h4, h5⟩ := hF.fn
          refine ⟨SafeCall.of_body hE.T hF (hb.mono ?_), fn, h1, by rw [h2]; rfl, h5⟩
          intro e st' he
          cases e <;> first
            | exact ⟨.inl rfl, resL_ok hA he⟩
            | exact ⟨.inr rfl, resL_ok hA he⟩
            | exact (hA.bot he).elim
    intro m a w m0 h0 w0 ha hr hs
    cases c with
    | skip => exact wpIn_skip ⟨⟨m, st, trivial, h, hr, hs⟩, ha⟩
    | label l => exact wpIn_label ⟨⟨m, st, trivial, h, hr, hs⟩, ha⟩
    | exit id => exact wpIn_exit ⟨⟨m, st, trivial, h, hr, hs⟩, ha⟩
    | ret => exact wpIn_ret ⟨⟨m, st, trivial, h, hr, hs⟩, ha⟩
    | seq x y =>
      have hx := ih x st _ (nd_seq hnd).1 (fun p hp => hsub p (by simp [subs, hp])) h
      refine wpIn_seq (wpIn_mono (hx m a w m0 h0 w0 ha hr hs) ?_)
      rintro e a' w' ⟨⟨m', st', hok, hq, hr', hs'⟩, ha'⟩
      cases e <;> first
        | exact hok.elim
        | exact ⟨⟨m', st', trivial, hq, hr', hs'⟩, ha'⟩
        | exact ih y st' k (nd_seq hnd).2 (fun p hp => hsub p (by simp [subs, hp])) hq m' a' w' m0 h0 w0 ha' hr' hs'
    | cond x y z =>
      have hev := hr.ev x
      simp only [code, setBoolK_eq] at h
      split at h
      · rename_i b he
        rw [he] at hev
        simp only [Den] at hev
        have hset : Rel E.R m (setBool st x b) (clr a) w ∧ (setBool st x b).rows = st.rows := by
          cases x with
          | tmp d => exact ⟨hr.known (by simpa [St.ev, nthV_eq] using he), rfl⟩
          | _ => exact ⟨hr, rfl⟩
        rcases hold_cond b _ _ h with ⟨rfl, hk⟩ | ⟨rfl, hk⟩
        · exact wpIn_cond_true hev (ih y _ k (nd_cond hnd).1 (fun p hp => hsub p (by simp [subs, hp])) hk m a w m0 h0 w0 ha hset.1 (by rw [hset.2]; exact hs))
        · exact wpIn_cond_false hev (ih z _ k (nd_cond hnd).2 (fun p hp => hsub p (by simp [subs, hp])) hk m a w m0 h0 w0 ha hset.1 (by rw [hset.2]; exact hs))
      · exact (hA.bot h).elim
    | block id body =>
      simp only [code] at h
      cases hl : E.loops f id with
      | some spec =>
        rw [hl] at h
        exact hL id spec hl body (hsub _ (by simp [subs])) st k h m a w m0 h0 w0 ha hr hs
      | none =>
        rw [hl] at h
        have hb := ih body st _ (by simpa [codeND] using hnd) (fun p hp => hsub p (by simp [subs, hp])) h
        refine wpIn_block (wpIn_mono (hb m a w m0 h0 w0 ha hr hs) ?_)
        rintro e a' w' ⟨⟨m', st', hok, hq, hr', hs'⟩, ha'⟩
        cases e with
        | normal => exact ⟨⟨m', st', trivial, hq, hr', hs'⟩, ha'⟩
        | ret => exact ⟨⟨m', st', trivial, hq, hr', hs'⟩, ha'⟩
        | exit id' =>
          simp only [Exit.inBlock]
          by_cases hid : id' = id
          · rw [if_pos hid]
            subst hid
            simp only [Nat.beq_refl, cond_true] at hq
            exact ⟨⟨m', st', trivial, hq, hr', hs'⟩, ha'⟩
          · rw [if_neg hid]
            have : Nat.beq id' id = false := by rw [Bool.eq_false_iff]; exact fun e => hid (Nat.eq_of_beq_eq_true e)
            simp only [this, cond_false] at hq
            exact ⟨⟨m', st', trivial, hq, hr', hs'⟩, ha'⟩
        | goto l => exact hok.elim
        | panic ch => exact hok.elim
        | outgrown => exact hok.elim
    | loop body =>
      -- rounds
      have key : ∀ (j : Nat), j ≤ n + 1 → ∀ (st : St), hold (code A E (drawAll A E) j f (.loop body) st k) → ∀ m a w, a.defers = ds → Rel E.R m st (clr a) w → Step m0 h0 w0 m st.rows w →
          Code.roundsIn (Fd rd) 0 P body (QD ds (Post E.R (fun e st' => hold (k e st')) m0 h0 w0)) j a w := by
        intro j
        induction j with
        | zero => intro _ st h m a w _ _ _; exact (hA.bot h).elim
        | succ j ihj =>
          intro hj st h m a w ha hr hs
          rw [roundsIn_succ]
          simp only [code] at h
          refine wpIn_mono (IH j (by omega) body st _ (by simpa [codeND] using hnd) (fun p hp => hsub p (by simpa [subs] using hp)) h m a w m0 h0 w0 ha hr hs) ?_
          rintro e a' w' ⟨⟨m', st', hok, hq, hr', hs'⟩, ha'⟩
          cases e with
          | normal => exact ihj (by omega) st' hq m' a' w' ha' hr' hs'
          | _ => first | exact hok.elim | exact ⟨⟨m', st', trivial, hq, hr', hs'⟩, ha'⟩
      exact wpIn_loop_rounds (n + 1) (key (n + 1) (Nat.le_refl _) st h m a w ha hr hs)
    | region id ops d =>
      cases d with
      | false =>
        refine wpIn_region_list (listD (post_tame _ _ _ _ _) post_defers _ _ _ (by simpa [codeND] using hnd) ha ?_)
        exact runOps_ok hA hE.T hcall ops ops.toList st _ h hr hs _ (fun m' st' a' w' hk hr' hs' => ⟨m', st', trivial, hk, hr', hs'⟩)
      | true =>
        refine wpIn_mono (drawAll_okR hA hE.T hm _ hcall id ops st _ (by simpa [codeND] using hnd) h m a w m0 h0 w0 ha hr hs) fun e a' w' hp => ⟨hp.1.mono ?_, hp.2⟩
        rintro e st' ⟨rfl, hk⟩
        exact hk
    | scope b => exact (hA.bot h).elim
    | goto l => exact (hA.bot h).elim
    | refuse why => exact (hA.bot h).elim
    | rangeFunc g ps x y => exact (hA.bot h).elim

end
end Go.Dc
end
section
set_option linter.unusedSimpArgs false
set_option linter.unusedVariables false
namespace Go.Dc

/-- What is no cells may turn. -/
structure Others (W W' : World) : Prop where
  size : W.heap.size ≤ W'.heap.size
  same : ∀ (k : Nat) c t fz, W.heap[k]? = some (Obj.cells c t fz) → W'.heap[k]? = some (Obj.cells c t fz)

theorem Others.trans {A B C : World} (h : Others A B) (k : Others B C) : Others A C :=
  ⟨Nat.le_trans h.size k.size, fun i c t fz hi => k.same i c t fz (h.same i c t fz hi)⟩

theorem WR.others {R : Nat → RoRow} {m : Map} {h : Rows} {W W' : World} (hW : WR R m h W) (ho : Others W W') : WR R m h W' where
  row := fun b r hb => by
    obtain ⟨h1, h2, h3⟩ := hW.row b r hb
    refine ⟨h1, h2, ?_⟩
    cases hv : (m.mu b).vir with
    | true => rw [hv] at h3; simpa using h3
    | false =>
      rw [hv] at h3
      simp only [Bool.false_eq_true, if_false] at h3 ⊢
      obtain ⟨c, fz, hc, rest⟩ := h3
      exact ⟨c, fz, ho.same _ _ _ _ hc, rest⟩
  apart := hW.apart
  ro := fun i => by
    obtain ⟨h1, h2, h3⟩ := hW.ro i
    refine ⟨h1, h2, ?_⟩
    cases hv : (m.ro i).vir with
    | true => rw [hv] at h3; simpa using h3
    | false =>
      rw [hv] at h3
      simp only [Bool.false_eq_true, if_false] at h3 ⊢
      intro hn
      obtain ⟨c, fz, hc, rest⟩ := h3 hn
      exact ⟨c, fz, ho.same _ _ _ _ hc, rest⟩
  roApart := hW.roApart

/-- Nothing that lay below B turns, nor any cells. -/
structure Turned (B : Nat) (W W' : World) : Prop where
  os : W'.os = W.os
  tape : W'.tape = W.tape
  output : W'.output = W.output
  others : Others W W'
  below : ∀ k, k < B → W'.heap[k]? = W.heap[k]?

theorem Turned.trans {B : Nat} {X Y Z : World} (h : Turned B X Y) (k : Turned B Y Z) : Turned B X Z :=
  ⟨k.os.trans h.os, k.tape.trans h.tape, k.output.trans h.output, h.others.trans k.others, fun i hi => (k.below i hi).trans (h.below i hi)⟩
theorem Turned.mono {B B' : Nat} {X Y : World} (h : Turned B X Y) (hb : B' ≤ B) : Turned B' X Y :=
  ⟨h.os, h.tape, h.output, h.others, fun i hi => h.below i (by omega)⟩
theorem Turned.refl (B : Nat) (W : World) : Turned B W W := ⟨rfl, rfl, rfl, ⟨Nat.le_refl _, fun _ _ _ _ h => h⟩, fun _ _ => rfl⟩

theorem Turned.putObj {B : Nat} {W : World} {l : Nat} {o : Obj} (o' : Obj) (hl : W.heap[l]? = some o) (ho : ∀ c t fz, o ≠ Obj.cells c t fz) (hB : B ≤ l) : Turned B W (W.putObj l o') :=
  ⟨rfl, rfl, rfl, ⟨by simp, fun k c t fz hk => by
    have : k ≠ l := by rintro rfl; rw [hl] at hk; cases hk; exact ho _ _ _ rfl
    rw [World.putObj_heap_other this]; exact hk⟩, fun k hk => World.putObj_heap_other (by omega)⟩

theorem heap_alloc_old (w : World) (o : Obj) (k : Nat) (h : k < w.heap.size) : (w.alloc o).heap[k]? = w.heap[k]? := by
  show (w.heap.push o)[k]? = _
  rw [Array.getElem?_push, if_neg (by omega)]

theorem Turned.alloc {B : Nat} (W : World) (o : Obj) (hB : B ≤ W.heap.size) : Turned B W (W.alloc o) :=
  ⟨rfl, rfl, rfl, ⟨by simp, fun k c t fz hk => by
    rw [heap_alloc_old _ _ _ (Array.getElem?_eq_some_iff.1 hk).1]; exact hk⟩, fun k hk => heap_alloc_old _ _ _ (by omega)⟩

theorem Step.turned {m0 m : Map} {h0 h : Rows} {w0 W W' : World} (hs : Step m0 h0 w0 m h W) (ht : Turned w0.heap.size W W') : Step m0 h0 w0 m h W' where
  os := ht.os.trans hs.os
  tape := ht.tape.trans hs.tape
  output := ht.output.trans hs.output
  size := Nat.le_trans hs.size ht.others.size
  block := fun k hk hn => (ht.below k hk).trans (hs.block k hk hn)
  len := hs.len
  mu := hs.mu
  ro := hs.ro
  new := hs.new

/-! ### Marks -/
def Mk (B : Nat) (w : World) (d : Deferred) : Prop := ∃ D, d = { target := .collected D, args := #[] } ∧ B ≤ D ∧ w.heap[D]? = some (.deferred (some []))
def Marks (B : Nat) (ds : List Deferred) (w : World) : Prop := ds.Nodup ∧ ∀ d ∈ ds, Mk B w d

/-- No live row lies where no cells lie. -/
theorem WR.not_live {R : Nat → RoRow} {m : Map} {h : Rows} {w : World} (hW : WR R m h w) {D : Nat} {o : Obj} (hD : w.heap[D]? = some o) (ho : ∀ c t fz, o ≠ Obj.cells c t fz) :
    ∀ b r, h.live b = some r → (m.mu b).vir = false → (m.mu b).blk ≠ D := by
  intro b r hb hv e
  obtain ⟨_, _, h3⟩ := hW.row b r hb
  rw [hv] at h3
  simp only [Bool.false_eq_true, if_false] at h3
  obtain ⟨c, fz, hc, _⟩ := h3
  rw [e, hD] at hc
  cases hc
  exact ho _ _ _ rfl

theorem Step.keeps {R : Nat → RoRow} {m m' : Map} {h h' : Rows} {w w' : World} (hs : Step m h w m' h' w') (hW : WR R m h w) {D : Nat} {o : Obj} (hD : w.heap[D]? = some o) (ho : ∀ c t fz, o ≠ Obj.cells c t fz) : w'.heap[D]? = some o := by
  rw [hs.block D (Array.getElem?_eq_some_iff.1 hD).1 (hW.not_live hD ho)]
  exact hD

theorem Marks.step {R : Nat → RoRow} {B : Nat} {ds : List Deferred} {m m' : Map} {h h' : Rows} {w w' : World} (hk : Marks B ds w) (hW : WR R m h w) (hs : Step m h w m' h' w') : Marks B ds w' :=
  ⟨hk.1, fun d hd => by
    obtain ⟨D, e, hB, hD⟩ := hk.2 d hd
    exact ⟨D, e, hB, hs.keeps hW hD (fun _ _ _ h => by cases h)⟩⟩

/-- Safe, with marks of ranges that are over standing by. -/
def SafeM (P : Program) (R : Nat → RoRow) (c : Code) (st : St) (Q : Exit → St → Prop) : Prop :=
  ∀ m a w m0 h0 w0, Marks w0.heap.size a.defers w → Rel R m st (clr a) w → Step m0 h0 w0 m st.rows w →
    c.wpIn (Fd none) 0 P (fun e a' w' => Post R Q m0 h0 w0 e (clr a') w' ∧ Marks w0.heap.size a'.defers w') a w

theorem SafeM.of {P : Program} {R : Nat → RoRow} {c : Code} {st : St} {Q : Exit → St → Prop} (h : ∀ ds, SafeR none ds P R c st Q) : SafeM P R c st Q := by
  intro m a w m0 h0 w0 hk hr hs
  refine wpIn_mono (h a.defers m a w m st.rows w rfl hr (Step.refl _ _ _)) ?_
  rintro e a' w' ⟨⟨m', st', hok, hq, hr', hs'⟩, ha'⟩
  refine ⟨⟨m', st', hok, hq, hr', hs.trans hs'⟩, ?_⟩
  rw [ha']
  exact hk.step hr.wr hs'

theorem SafeM.mono {P : Program} {R : Nat → RoRow} {c : Code} {st : St} {Q Q' : Exit → St → Prop} (h : SafeM P R c st Q) (hq : ∀ e st, Q e st → Q' e st) : SafeM P R c st Q' :=
  fun m a w m0 h0 w0 hk hr hs => wpIn_mono (h m a w m0 h0 w0 hk hr hs) fun _ _ _ hp => ⟨hp.1.mono hq, hp.2⟩

theorem SafeM.seq {P : Program} {R : Nat → RoRow} {x y : Code} {st : St} {Q : Exit → St → Prop} (h : SafeM P R x st fun e st' => match e with | .normal => SafeM P R y st' Q | e => Q e st') : SafeM P R (.seq x y) st Q := by
  intro m a w m0 h0 w0 hk hr hs
  refine wpIn_seq (wpIn_mono (h m a w m0 h0 w0 hk hr hs) ?_)
  rintro e a' w' ⟨⟨m', st', hok, hq, hr', hs'⟩, hk'⟩
  cases e <;> first
    | exact hok.elim
    | exact ⟨⟨m', st', trivial, hq, hr', hs'⟩, hk'⟩
    | exact hq m' a' w' m0 h0 w0 hk' hr' hs'

theorem SafeM.block {P : Program} {R : Nat → RoRow} {id : Nat} {b : Code} {st : St} {Q : Exit → St → Prop} (h : SafeM P R b st fun e st' => match e with | .exit id' => bif Nat.beq id' id then Q .normal st' else Q (.exit id') st' | e => Q e st') : SafeM P R (.block id b) st Q := by
  intro m a w m0 h0 w0 hk hr hs
  refine wpIn_block (wpIn_mono (h m a w m0 h0 w0 hk hr hs) ?_)
  rintro e a' w' ⟨⟨m', st', hok, hq, hr', hs'⟩, ha'⟩
  cases e with
  | normal => exact ⟨⟨m', st', trivial, hq, hr', hs'⟩, ha'⟩
  | ret => exact ⟨⟨m', st', trivial, hq, hr', hs'⟩, ha'⟩
  | exit id' =>
    simp only [Exit.inBlock]
    by_cases hid : id' = id
    · rw [if_pos hid]
      subst hid
      simp only [Nat.beq_refl, cond_true] at hq
      exact ⟨⟨m', st', trivial, hq, hr', hs'⟩, ha'⟩
    · rw [if_neg hid]
      have : Nat.beq id' id = false := by rw [Bool.eq_false_iff]; exact fun e => hid (Nat.eq_of_beq_eq_true e)
      simp only [this, cond_false] at hq
      exact ⟨⟨m', st', trivial, hq, hr', hs'⟩, ha'⟩
  | goto l => exact hok.elim
  | panic ch => exact hok.elim
  | outgrown => exact hok.elim

theorem leaves_marks {P : Program} {fn : Func} {tmps : Array Value} {Rr : Ending → World → Prop} {B : Nat} : ∀ (ds : List Deferred) (w : World), Marks B ds w →
    (∀ w', Turned B w w' → ∃ v, (results fn tmps).run P w' = .ok v w' ∧ Rr (.returned v) w') → LeavesInM (Fd Option.none) 0 P fn tmps Rr ds .returning w
  | [], w, _, h => h w (Turned.refl _ _)
  | d :: ds, w, hk, h => by
    obtain ⟨D, rfl, hB, hD⟩ := hk.2 d (by simp)
    have ht : Turned B w (w.putObj D (.deferred none)) := Turned.putObj _ hD (fun _ _ _ h => by cases h) hB
    refine ⟨by simp, .inl ⟨D, _, rfl, run_takeDeferred hD, leaves_marks ds _ ⟨(List.nodup_cons.1 hk.1).2, fun d' hd' => ?_⟩ fun w' hw' => h w' (ht.trans hw')⟩⟩
    obtain ⟨D', rfl, hB', hD'⟩ := hk.2 d' (by simp [hd'])
    refine ⟨D', rfl, hB', ?_⟩
    rw [World.putObj_heap_other]
    · exact hD'
    · rintro rfl
      exact (List.nodup_cons.1 hk.1).1 hd'

/-- The call of a function whose body is safe, ranges over functions and all. -/
theorem SafeCall.of_bodyM {P : Program} {T : TypeId → Option TI} (hT : TabOK P T) {R : Nat → RoRow} {f : FuncId} {fi : FI} (hF : FnOK P f fi) {args : List AV} {h : Rows} {Q : AV → Rows → Prop}
    (hb : SafeM P R fi.body ⟨enterT args fi.ntmps, h⟩ fun e st => (e = .normal ∨ e = .ret) ∧ ∃ vs, ResOK T R st fi.results vs ∧ Q (tupOf vs) st.rows) : SafeCall P R f args h Q := by
  obtain ⟨fn, hfn, hbody, hnt, hres, hname⟩ := hF.fn
  intro m w m0 h0 w0 as has hW hS
  refine (callsIn_wide (n := 0)).1 (callsIn_of_wp_marks (F := Fd Option.none) hfn hbody trivial ?_ rfl)
  have hlen := has.length
  simp only [Array.length_toList] at hlen
  have hrel : Rel R m ⟨enterT args fi.ntmps, h⟩ { tmps := as ++ Array.replicate (fn.ntmps - as.size) undef, defers := [] } w := by
    refine ⟨by simp [enterT, hnt, hlen], ?_, rfl, hW⟩
    intro i x hx
    simp only [enterT] at hx
    by_cases hi : i < args.length
    · rw [List.getElem?_append_left hi] at hx
      obtain ⟨c, hc, hd⟩ := has.get hx
      have hi2 : i < as.size := by omega
      refine ⟨c, ?_, hd⟩
      rw [Array.getElem?_append_left hi2]
      simpa using hc
    · rw [List.getElem?_append_right (by omega)] at hx
      have hx2 := List.getElem?_eq_some_iff.1 hx
      obtain ⟨hlt, hxe⟩ := hx2
      simp at hlt hxe
      subst hxe
      refine ⟨undef, ?_, by simp [Den, DenL, undef]⟩
      rw [Array.getElem?_append_right (by omega)]
      rw [Array.getElem?_replicate]
      rw [if_pos (by omega)]
  refine wpIn_mono (hb m _ w m0 h0 w0 ⟨by simp, by simp⟩ hrel hS) ?_
  rintro e a' w' ⟨⟨m', st', hok, ⟨he, vs, hvs, hq⟩, hr', hs'⟩, hk'⟩
  have key : LeavesInM (Fd Option.none) 0 P fn a'.tmps (fun e w' => ∃ c v m' h', e = .returned c ∧ Q v h' ∧ Den m' h'.length v c ∧ WR R m' h' w' ∧ Step m0 h0 w0 m' h' w') a'.defers .returning w' := by
    refine leaves_marks _ _ hk' ?_
    intro w2 ht
    have hr2 : Rel R m' st' (clr a') w2 := ⟨hr'.size, hr'.tmps, hr'.defers, hr'.wr.others ht.others⟩
    have hs2 : Step m0 h0 w0 m' st'.rows w2 := hs'.turned ht
    obtain ⟨c, hfin, hden⟩ : ∃ c, (results fn a'.tmps).run P w2 = .ok c w2 ∧ Den m' st'.rows.length (tupOf vs) c := by
      have hres' : ∃ F : ResultVar → Sem Value, (∀ t, F (.tmp t) = pure (a'.tmps.getD t undef)) ∧ (∀ x t, F (.cell x t) = do loadVar t (← asAddr (a'.tmps.getD x undef))) ∧
          results fn a'.tmps = (do let vs ← fn.results.mapM F; pure (if h : vs.size = 1 then vs[0] else .tuple vs)) := ⟨_, fun _ => rfl, fun _ _ => rfl, rfl⟩
      obtain ⟨F, hF1, hF2, hres'⟩ := hres'
      rw [hres', hres]
      simp only [Sem.run_bind]
      rw [List.mapM_toArray]
      simp only [Sem.run_map]
      obtain ⟨cs, hcs, hd⟩ := res_run hT hr2 F hF1 hF2 hvs
      rw [hcs]
      simp only [Result.andThen_ok, Sem.run_pure]
      refine ⟨_, rfl, ?_⟩
      cases vs with
      | nil =>
        simp only [DenL] at hd
        subst hd
        simp [tupOf, Den, DenL]
      | cons v vs =>
        simp only [DenL] at hd
        obtain ⟨u, us, rfl, h1, h2⟩ := hd
        cases vs with
        | nil =>
          simp only [DenL] at h2
          subst h2
          simpa [tupOf] using h1
        | cons v2 vs =>
          simp only [DenL] at h2
          obtain ⟨u2, us, rfl, h2, h3⟩ := h2
          simp only [tupOf, Den]
          refine ⟨(u :: u2 :: us).toArray, by simp, ?_⟩
          simp only [DenL]
          exact ⟨u, _, rfl, h1, u2, us, rfl, h2, h3⟩
    exact ⟨c, hfin, c, _, m', st'.rows, rfl, hq, hden, hr2.wr, hs2⟩
  rcases he with rfl | rfl
  · exact key
  · exact key

/-! ### Rows that are put aside -/
def dead (ds : List Nat) (h : Rows) : Rows := ds.foldl (fun acc c => acc.set c none) h
def revive (ds : List Nat) (h h' : Rows) : Rows := ds.foldl (fun acc c => acc.set c (h.getD c none)) h'

theorem dead_length : ∀ (ds : List Nat) (h : Rows), (dead ds h).length = h.length
  | [], h => rfl
  | c :: ds, h => by
    show (dead ds (h.set c none)).length = _
    rw [dead_length ds]; simp
theorem revive_length (h : Rows) : ∀ (ds : List Nat) (h' : Rows), (revive ds h h').length = h'.length
  | [], h' => rfl
  | c :: ds, h' => by
    show (revive ds h (h'.set c _)).length = _
    rw [revive_length h ds]; simp

theorem set_live (h : Rows) (c b : Nat) (o : Option Row) : Rows.live (h.set c o) b = if c = b then (if c < h.length then o else none) else h.live b := by
  unfold Rows.live
  by_cases e : c = b
  · subst e
    by_cases hl : c < h.length
    · simp [hl]
    · simp [hl]
  · simp [e]

theorem dead_live : ∀ (ds : List Nat) (h : Rows) (b : Nat), (dead ds h).live b = if b ∈ ds then none else h.live b
  | [], h, b => by simp [dead]
  | c :: ds, h, b => by
    show (dead ds (h.set c none)).live b = _
    rw [dead_live ds, set_live]
    by_cases e : c = b
    · subst e
      by_cases h1 : c ∈ ds <;> by_cases h2 : c < h.length <;> simp [h1, h2]
    · have : b ≠ c := fun x => e x.symm
      by_cases h1 : b ∈ ds <;> simp [h1, e, this]

theorem revive_live (h : Rows) : ∀ (ds : List Nat) (h' : Rows) (b : Nat), b < h'.length → (revive ds h h').live b = if b ∈ ds then h.live b else h'.live b
  | [], h', b, _ => by simp [revive]
  | c :: ds, h', b, hb => by
    show (revive ds h (h'.set c (h.getD c none))).live b = _
    rw [revive_live h ds _ _ (by simpa using hb), set_live]
    by_cases e : c = b
    · subst e
      have : h.getD c none = h.live c := by
        unfold Rows.live
        rw [List.getD]
        cases h[c]? <;> rfl
      by_cases h1 : c ∈ ds
      · simp [h1]
      · rw [if_neg h1, if_pos rfl, if_pos hb, this]
        simp
    · have : b ≠ c := fun x => e x.symm
      by_cases h1 : b ∈ ds <;> simp [h1, e, this]

theorem WR.dead {R : Nat → RoRow} {m : Map} {h : Rows} {w : World} (hW : WR R m h w) (ds : List Nat) : WR R m (dead ds h) w := by
  have sub : ∀ b r, (Dc.dead ds h).live b = some r → h.live b = some r := by
    intro b r hb
    rw [dead_live] at hb
    split at hb
    · cases hb
    · exact hb
  exact ⟨fun b r hb => by rw [dead_length]; exact hW.row b r (sub b r hb), fun b b' r r' hb hb' => hW.apart b b' r r' (sub b r hb) (sub b' r' hb'), hW.ro, fun i b r hb => hW.roApart i b r (sub b r hb)⟩

theorem Step.dead {m0 m : Map} {h0 h : Rows} {w0 w : World} (hs : Step m0 h0 w0 m h w) (ds : List Nat) : Step m0 h0 w0 m (dead ds h) w where
  os := hs.os
  tape := hs.tape
  output := hs.output
  size := hs.size
  block := hs.block
  len := by rw [dead_length]; exact hs.len
  mu := hs.mu
  ro := hs.ro
  new := fun b r hb hv => by
    rw [dead_live] at hb
    split at hb
    · cases hb
    · exact hs.new b r hb hv

/-- A block that is none of a live row's stays none's, step for step. -/
theorem Step.aside {m m' : Map} {h h' : Rows} {w w' : World} (hs : Step m h w m' h' w') {D : Nat} (hD : D < w.heap.size) (hn : ∀ b r, h.live b = some r → (m.mu b).vir = false → (m.mu b).blk ≠ D) :
    ∀ b r, h'.live b = some r → (m'.mu b).vir = false → (m'.mu b).blk ≠ D := by
  intro b r hb hv e
  rcases hs.new b r hb hv with h1 | ⟨c, r', hc, hcv, hce⟩
  · omega
  · exact hn c r' hc hcv (hce.trans e)

theorem revive_ok {R : Nat → RoRow} {m m' : Map} {h h' : Rows} {w W : World} {ds : List Nat} (hW : WR R m h w) (hs : Step m (dead ds h) w m' h' W) (hW' : WR R m' h' W) :
    WR R m' (revive ds h h') W ∧ Step m h w m' (revive ds h h') W := by
  have hlen : h.length ≤ h'.length := by have := hs.len; rwa [dead_length] at this
  have hmu : ∀ b, b < h.length → m'.mu b = m.mu b := fun b hb => hs.mu b (by rw [dead_length]; exact hb)
  have dl : ∀ b r, (dead ds h).live b = some r → h.live b = some r ∧ b ∉ ds := by
    intro b r hb
    rw [dead_live] at hb
    split at hb
    · cases hb
    · rename_i hn; exact ⟨hb, hn⟩
  -- what is live behind
  have cases2 : ∀ b r, (revive ds h h').live b = some r → (b ∈ ds ∧ h.live b = some r) ∨ (b ∉ ds ∧ h'.live b = some r) := by
    intro b r hb
    have hlt := live_lt hb
    rw [revive_length] at hlt
    rw [revive_live _ _ _ _ hlt] at hb
    split at hb
    · rename_i hm; exact .inl ⟨hm, hb⟩
    · rename_i hm; exact .inr ⟨hm, hb⟩
  have blkEq : ∀ b r, b ∈ ds → h.live b = some r → (m.mu b).vir = false → (m.mu b).blk < w.heap.size ∧ W.heap[(m.mu b).blk]? = w.heap[(m.mu b).blk]? ∧ (∀ c r', h'.live c = some r' → (m'.mu c).vir = false → (m'.mu c).blk ≠ (m.mu b).blk) := by
    intro b r hm hb hv
    have hlt : (m.mu b).blk < w.heap.size := by
      obtain ⟨_, _, h3⟩ := hW.row b r hb
      rw [hv] at h3
      simp only [Bool.false_eq_true, if_false] at h3
      obtain ⟨c, fz, hc, _⟩ := h3
      exact (Array.getElem?_eq_some_iff.1 hc).1
    have hne : ∀ c r', (dead ds h).live c = some r' → (m.mu c).vir = false → (m.mu c).blk ≠ (m.mu b).blk := by
      intro c r' hc hcv e
      obtain ⟨hc1, hc2⟩ := dl c r' hc
      exact hc2 (hW.apart c b r' r hc1 hb hcv hv e ▸ hm)
    exact ⟨hlt, hs.block _ hlt hne, hs.aside hlt hne⟩
  refine ⟨⟨?_, ?_, ?_, ?_⟩, ?_⟩
  · intro b r hb
    rw [revive_length]
    rcases cases2 b r hb with ⟨hm, hl⟩ | ⟨hm, hl⟩
    · rw [hmu b (live_lt hl)]
      exact (hW.row b r hl).mono hlen hmu hs.ro (fun hv => (blkEq b r hm hl hv).2.1)
    · exact hW'.row b r hl
  · intro b b' r r' hb hb' hv hv' e
    rcases cases2 b r hb with ⟨hm, hl⟩ | ⟨hm, hl⟩ <;> rcases cases2 b' r' hb' with ⟨hm', hl'⟩ | ⟨hm', hl'⟩
    · rw [hmu b (live_lt hl)] at hv e
      rw [hmu b' (live_lt hl')] at hv' e
      exact hW.apart b b' r r' hl hl' hv hv' e
    · rw [hmu b (live_lt hl)] at hv e
      exact absurd e.symm ((blkEq b r hm hl hv).2.2 b' r' hl' hv')
    · rw [hmu b' (live_lt hl')] at hv' e
      exact absurd e ((blkEq b' r' hm' hl' hv').2.2 b r hl hv)
    · exact hW'.apart b b' r r' hl hl' hv hv' e
  · exact hW'.ro
  · intro i b r hb hv hiv hn
    rcases cases2 b r hb with ⟨hm, hl⟩ | ⟨hm, hl⟩
    · rw [hmu b (live_lt hl)] at hv ⊢
      rw [hs.ro] at hiv ⊢
      exact hW.roApart i b r hl hv hiv hn
    · exact hW'.roApart i b r hl hv hiv hn
  · refine ⟨hs.os, hs.tape, hs.output, hs.size, ?_, by rw [revive_length]; exact hlen, hmu, hs.ro, ?_⟩
    · intro k hk hn
      refine hs.block k hk ?_
      intro b r hb hv
      exact hn b r (dl b r hb).1 hv
    · intro b r hb hv
      rcases cases2 b r hb with ⟨hm, hl⟩ | ⟨hm, hl⟩
      · rw [hmu b (live_lt hl)] at hv ⊢
        exact .inr ⟨b, r, hl, hv, rfl⟩
      · rcases hs.new b r hl hv with h1 | ⟨c, r', hc, hcv, hce⟩
        · exact .inl h1
        · exact .inr ⟨c, r', (dl c r' hc).1, hcv, hce⟩

end Go.Dc
end
section
set_option linter.unusedSimpArgs false
set_option linter.unusedVariables false
namespace Go.Dc

/-- An element of a slice, as a load reads it. -/
def ElemAt (W : World) (b o n : Nat) (v : Value) : Prop :=
  (n = 1 ∧ single v = true ∧ W.cell? ⟨b, o, none⟩ = some v) ∨
  ∃ vs : Array Value, v = .agg vs ∧ vs.size = n ∧ ∀ t x, vs[t]? = some x → single x = true ∧ W.cell? ⟨b, o + t, none⟩ = some x

/-- What slices.Backward's closure does: it calls the round at each place, the last one first. -/
def BackOK (P : Program) (gf esz : Nat) : Prop :=
  ∀ (l bb bo blk off len cap : Nat) (a : Option Addr) (vals : Nat → Value) (J : Nat → World → Prop) (Jx : World → Prop) (W : World),
    len ≤ cap → cap ≤ maxLen → (0 < len → a = some ⟨blk, off, none⟩) → W.cell? ⟨bb, bo, none⟩ = some (.slice a len cap) →
    (∀ j, j < len → ElemAt W blk (off + j * esz) esz (vals j)) →
    (∀ k W1 W2, J k W1 → W1.grownBy W2 none → J k W2) →
    (∀ k W1, k < len → J k W1 → W1.heap[bb]? = W.heap[bb]? → W1.heap[blk]? = W.heap[blk]? → YieldAt Fence.wide 0 P l #[.int .i64 ((len - 1 - k : Nat) : Int), vals (len - 1 - k)] W1 fun e W' =>
       (e = .returned (.bool true) ∧ J (k + 1) W' ∧ W'.heap[bb]? = W1.heap[bb]? ∧ W'.heap[blk]? = W1.heap[blk]?) ∨ (e = .returned (.bool false) ∧ Jx W')) →
    J 0 W →
    Calls P gf #[.func (.yield l) #[] #[], .pointer (some ⟨bb, bo, none⟩)] W fun e W' => (∃ v, e = .returned v) ∧ (J len W' ∨ Jx W')

def jumpOf : Exit → Option Code
  | .ret => some .ret
  | .exit id => some (.exit id)
  | _ => none

/-- An element in the cells of a block, as a load reads it. -/
theorem elem_of {m : Map} {n : Nat} {w : World} {blk shift esz i : Nat} {c : Array Value} {ty : TypeId} {fz : Nat × Nat} {e : AV} (hc : w.heap[blk]? = some (.cells c ty fz)) (hl : e.cells.length = esz)
    (hcell : ∀ o a, e.cells[o]? = some a → a.one = true ∧ ∃ v, c[shift + (i * esz + o)]? = some v ∧ Den m n a v) :
    ∃ v, ElemAt w blk (shift + i * esz) esz v ∧ Den m n e v := by
  have rd : ∀ o v, c[shift + (i * esz + o)]? = some v → w.cell? ⟨blk, shift + i * esz + o, none⟩ = some v := by
    intro o v hv2
    simp only [World.cell?, hc]
    rw [Nat.add_assoc]
    simpa using hv2
  by_cases ha : ∃ cs, e = .agg cs
  · obtain ⟨cs, rfl⟩ := ha
    have hlen : cs.length = esz := hl
    have get : ∀ o, o < esz → ∃ v, c[shift + (i * esz + o)]? = some v := by
      intro o ho
      have : o < cs.length := by omega
      obtain ⟨_, v, hv2, _⟩ := hcell o cs[o] (by simp [AV.cells, this])
      exact ⟨v, hv2⟩
    let vs : Array Value := Array.ofFn (n := esz) fun o => (get o.1 o.2).choose
    have hvs : ∀ t x, vs[t]? = some x → t < esz ∧ c[shift + (i * esz + t)]? = some x := by
      intro t x hx
      have ht : t < esz := by
        have := (Array.getElem?_eq_some_iff.1 hx).1
        simpa [vs] using this
      refine ⟨ht, ?_⟩
      have : x = (get t ht).choose := by
        have := (Array.getElem?_eq_some_iff.1 hx).2
        simpa [vs] using this.symm
      rw [this]
      exact (get t ht).choose_spec
    refine ⟨.agg vs, .inr ⟨vs, rfl, by simp [vs], ?_⟩, ?_⟩
    · intro t x hx
      obtain ⟨ht, hxc⟩ := hvs t x hx
      have : t < cs.length := by omega
      obtain ⟨h1', v, hv2, hd2⟩ := hcell t cs[t] (by simp [AV.cells, this])
      rw [hxc] at hv2
      cases hv2
      exact ⟨hd2.oneCell h1', rd t x hxc⟩
    · simp only [Den]
      refine ⟨vs, rfl, DenL.of (by simp [vs, hlen]) ?_⟩
      intro t a ha2
      have ht : t < cs.length := (List.getElem?_eq_some_iff.1 ha2).1
      obtain ⟨_, v, hv2, hd2⟩ := hcell t a (by simpa [AV.cells] using ha2)
      have hlt : t < vs.size := by simp [vs]; omega
      refine ⟨vs[t], by simp [hlt], ?_⟩
      obtain ⟨_, hxc⟩ := hvs t vs[t] (by simp [hlt])
      rw [hxc] at hv2
      cases hv2
      exact hd2
  · have hce : e.cells = [e] := by
      cases e <;> simp [AV.cells] at ha ⊢
    have h1' : esz = 1 := by rw [← hl, hce]; rfl
    obtain ⟨hone, v, hv2, hd2⟩ := hcell 0 e (by rw [hce]; rfl)
    exact ⟨v, .inl ⟨h1', hd2.oneCell hone, by simpa using rd 0 v hv2⟩, hd2⟩

theorem RowOK.elem {m : Map} {n : Nat} {l : Loc} {r : Row} {w : World} (h : RowOK m n l r w) (hv : l.vir = false) {i : Nat} {e : AV} (he : r.get? i = some e) :
    ∃ v, ElemAt w l.blk (l.shift + i * l.esz) l.esz v ∧ Den m n e v := by
  obtain ⟨h1, h2, h3⟩ := h
  rw [hv] at h3
  simp only [Bool.false_eq_true, if_false] at h3
  obtain ⟨c, fz, hc, hs, hf, hd⟩ := h3
  obtain ⟨hl, hcell⟩ := hd i e he
  exact elem_of hc hl hcell

theorem RoOK.elem {m : Map} {l : Loc} {r : RoRow} {w : World} (h : RoOK m l r w) (hv : l.vir = false) {i : Nat} (hi : i < r.n) :
    ∃ v, ElemAt w l.blk (l.shift + i * l.esz) l.esz v ∧ Den m 0 (r.at_ i) v := by
  obtain ⟨h1, h2, h3⟩ := h
  rw [hv] at h3
  simp only [Bool.false_eq_true, if_false] at h3
  obtain ⟨c, fz, hc, hd⟩ := h3 (by omega)
  obtain ⟨hl, hcell⟩ := hd i hi
  exact elem_of hc hl hcell

theorem fold2 (p0 p1 : Tmp) (t : Array Value) (x y : Value) : (#[p0, p1].zip #[x, y]).foldl (fun tmps (t, a) => tmps.setIfInBounds t a) t = (t.setIfInBounds p0 x).setIfInBounds p1 y := by
  rw [← Array.foldl_toList, Array.toList_zip]
  rfl

theorem clr_mk (a : Act) (ds : List Deferred) : clr { a with defers := ds } = clr a := rfl

/-- Fewer rows: those of before, and what is still of use of the others. -/
def FitR (nk : Nat) (rowsE rows : Rows) : Prop := ∃ f : Nat → Option Nat, View f rowsE rows ∧ (∀ c, c < nk → f c = some c) ∧ nk ≤ rowsE.length

/-- **The statement.** -/
theorem range_ok {P : Program} {R : Nat → RoRow} {gf esz : Nat} (hB : BackOK P gf esz) (hent : ∀ args w, (callFunc gf args).run P w = .ok (.enter gf args) w)
    {st : St} {g : Operand} {p0 p1 : Tmp} {assign body : Code} {bx : Nat} (hg : st.ev g = .fn gf [] [.ptr false bx 0 0])
    {rb : Row} (hbx : st.rows.live bx = some rb) {sv : AV} (hsv0 : rb.get? 0 = some sv)
    {ds : List Nat} {len : Nat} {els : Nat → AV} (hbd : bx ∈ ds)
    (hsv : (sv = .nils ∧ len = 0) ∨ (∃ b i full r, sv = .sl false b i len full ∧ st.rows.live b = some r ∧ r.esz = esz ∧ b ∈ ds ∧ ∀ j, j < len → r.get? (i + j) = some (els j)) ∨
      (∃ b i full, sv = .sl true b i len full ∧ (R b).esz = esz ∧ i + len ≤ (R b).n ∧ ∀ j, j < len → els j = (R b).at_ (i + j)))
    {I : Nat → Rows → Prop} {X : Exit → Rows → Prop} (h0 : I 0 (dead ds st.rows))
    (hround : ∀ l k rows, k < len → I k rows → SafeR (some l) [] P R assign ⟨(st.tmps.set p0 (.int .i64 ((len - 1 - k : Nat) : Int))).set p1 (els (len - 1 - k)), rows⟩ fun e st1 => e = .normal ∧
      SafeR (some l) [] P R body st1 fun e st2 => ∃ rowsE, (rowsE = st2.rows ∨ FitR st.rows.length rowsE st2.rows) ∧ match e with | .normal => I (k + 1) rowsE | e => X e rowsE)
    {Q : Exit → St → Prop} (hdone : ∀ rows, I len rows → Q .normal ⟨st.tmps, revive ds st.rows rows⟩)
    (hexit : ∀ e rows, X e rows → Q e ⟨st.tmps, revive ds st.rows rows⟩) :
    SafeM P R (.rangeFunc g #[p0, p1] assign body) st Q := by
  intro m a w m0 h0' w0 hk hr hs
  have hev := hr.ev g
  rw [hg] at hev
  simp only [Den, DenL] at hev
  obtain ⟨us, lb, hfv, hus, hcap⟩ := hev
  obtain ⟨pv, ps', hlb, ⟨hbxn, hbvir, hpv⟩, hnil⟩ := hcap
  subst hnil
  have hbvir := hbvir
  simp only [Map.loc, Bool.false_eq_true, if_false] at hbvir hpv
  have hus' : us = #[] := by
    cases us with
    | mk l => simp at hus; rw [hus]
  have hlb' : lb = #[pv] := by
    cases lb with
    | mk l => simp at hlb; rw [hlb]
  subst hus' hlb' hpv
  -- the slice
  have hW := hr.wr
  obtain ⟨sval, hsel, hsden⟩ := (hW.row bx rb hbx).elem hbvir hsv0
  refine wpIn_rangeFunc ?_
  intro fn hfn
  obtain ⟨rec, hrec⟩ : ∃ rec : LoopState → Option Code → Loop, rec = fun st pe => { state := st, pending := pe, fn, tmps := a.tmps, params := #[p0, p1], assign, body, defers := w.heap.size } := ⟨_, rfl⟩
  obtain ⟨W1, hW1⟩ : ∃ W1, (w.alloc (.deferred (some []))).alloc (.loop (rec .ready none)) = W1 := ⟨_, rfl⟩
  have hL1 : W1.heap[w.heap.size + 1]? = some (.loop (rec .ready none)) := by
    rw [← hW1]; have := World.alloc_heap_new (w.alloc (.deferred (some []))) (.loop (rec .ready none)); rwa [World.size_alloc] at this
  have hD1 : W1.heap[w.heap.size]? = some (.deferred (some [])) := by
    rw [← hW1, heap_alloc_old _ _ _ (by simp)]; exact World.alloc_heap_new w _
  have ht1 : Turned w.heap.size w W1 := by
    rw [← hW1]
    exact (Turned.alloc w _ (Nat.le_refl _)).trans (Turned.alloc _ _ (by simp))
  have hsz1 : W1.heap.size = w.heap.size + 2 := by rw [← hW1]; simp
  -- what stands between two rounds
  let Base : Nat → Map → Rows → World → Prop := fun _ m' rows W => WR R m' rows W ∧ Step m (dead ds st.rows) w m' rows W
  let J : Nat → World → Prop := fun k W => ∃ m' rows, I k rows ∧ WR R m' rows W ∧ Step m (dead ds st.rows) w m' rows W ∧ W.heap[w.heap.size + 1]? = some (.loop (rec .ready none)) ∧ W.heap[w.heap.size]? = some (.deferred (some []))
  let Jx : World → Prop := fun W => ∃ e c m' rows, jumpOf e = some c ∧ X e rows ∧ WR R m' rows W ∧ Step m (dead ds st.rows) w m' rows W ∧ W.heap[w.heap.size + 1]? = some (.loop (rec .done (some c))) ∧ W.heap[w.heap.size]? = some (.deferred (some []))
  have J0 : J 0 W1 := ⟨m, _, h0, (hW.dead ds).others ht1.others, (Step.refl m (dead ds st.rows) w).turned ht1, hL1, hD1⟩
  -- the address of the elements, and the elements
  obtain ⟨blk, off, cap, ao, vals, hsval, hlc, hcm, hao, hel, hden, hblk⟩ : ∃ (blk off cap : Nat) (ao : Option Addr) (vals : Nat → Value), sval = .slice ao len cap ∧ len ≤ cap ∧ cap ≤ maxLen ∧ (0 < len → ao = some ⟨blk, off, none⟩) ∧
      (∀ j, j < len → ElemAt w blk (off + j * esz) esz (vals j)) ∧ (∀ j, j < len → Den m st.rows.length (els j) (vals j)) ∧
      (0 < len → blk < w.heap.size ∧ ∀ b r, (dead ds st.rows).live b = some r → (m.mu b).vir = false → (m.mu b).blk ≠ blk) := by
    rcases hsv with ⟨rfl, rfl⟩ | ⟨b, i, full, r, rfl, hb, hre, hbd', hels⟩ | ⟨b, i, full, rfl, hre, hin, hels⟩
    · simp only [Den] at hsden
      exact ⟨0, 0, 0, none, fun _ => undef, hsden, Nat.le_refl _, Nat.zero_le _, by omega, by omega, by omega, by omega⟩
    · simp only [Den, Map.loc, Bool.false_eq_true, if_false, SlDen] at hsden
      obtain ⟨_, hsden⟩ := hsden
      cases hv : (m.mu b).vir with
      | true =>
        rw [hv] at hsden
        simp only [if_true] at hsden
        obtain ⟨rfl, ao, rfl, _⟩ := hsden
        exact ⟨0, 0, 0, ao, fun _ => undef, rfl, Nat.le_refl _, Nat.zero_le _, by omega, by omega, by omega, by omega⟩
      | false =>
        rw [hv] at hsden
        simp only [Bool.false_eq_true, if_false] at hsden
        obtain ⟨a', cap, rfl, h1, h2, _, h4⟩ := hsden
        have hrow := hW.row b r hb
        have hesz : (m.mu b).esz = esz := hrow.1.trans hre
        have each : ∀ j, j < len → ∃ v, ElemAt w (m.mu b).blk ((m.mu b).shift + i * esz + j * esz) esz v ∧ Den m st.rows.length (els j) v := by
          intro j hj
          have := hrow.elem hv (hels j hj)
          rwa [hesz, Nat.add_mul, ← Nat.add_assoc] at this
        refine ⟨(m.mu b).blk, (m.mu b).shift + i * esz, cap, some a', fun j => if hj : j < len then (each j hj).choose else undef, rfl, h1, h2, ?_, ?_, ?_, ?_⟩
        · intro hl
          obtain ⟨e1, _⟩ := h4 (by omega)
          rw [e1, hesz]
        · intro j hj
          simp only [hj, dif_pos]
          exact (each j hj).choose_spec.1
        · intro j hj
          simp only [hj, dif_pos]
          exact (each j hj).choose_spec.2
        · intro _
          refine ⟨?_, ?_⟩
          · obtain ⟨_, _, h3⟩ := hrow
            rw [hv] at h3
            simp only [Bool.false_eq_true, if_false] at h3
            obtain ⟨c, fz, hc, _⟩ := h3
            exact (Array.getElem?_eq_some_iff.1 hc).1
          · intro c rc hc hcv e
            rw [dead_live] at hc
            split at hc
            · cases hc
            · rename_i hn
              have := hW.apart c b rc r hc hb hcv hv e
              exact hn (this ▸ hbd')
    · simp only [Den, Map.loc, if_true, SlDen] at hsden
      obtain ⟨_, hsden⟩ := hsden
      cases hv : (m.ro b).vir with
      | true =>
        rw [hv] at hsden
        simp only [if_true] at hsden
        obtain ⟨rfl, ao, rfl, _⟩ := hsden
        exact ⟨0, 0, 0, ao, fun _ => undef, rfl, Nat.le_refl _, Nat.zero_le _, by omega, by omega, by omega, by omega⟩
      | false =>
        rw [hv] at hsden
        simp only [Bool.false_eq_true, if_false] at hsden
        obtain ⟨a', cap, rfl, h1, h2, _, h4⟩ := hsden
        have hrow := hW.ro b
        have hesz : (m.ro b).esz = esz := hrow.1.trans hre
        have each : ∀ j, j < len → ∃ v, ElemAt w (m.ro b).blk ((m.ro b).shift + i * esz + j * esz) esz v ∧ Den m st.rows.length (els j) v := by
          intro j hj
          obtain ⟨v, hv1, hv2⟩ := hrow.elem hv (i := i + j) (by omega)
          rw [hesz, Nat.add_mul, ← Nat.add_assoc] at hv1
          rw [hels j hj]
          exact ⟨v, hv1, hv2.mono (Nat.zero_le _) (fun _ _ => rfl) rfl⟩
        refine ⟨(m.ro b).blk, (m.ro b).shift + i * esz, cap, some a', fun j => if hj : j < len then (each j hj).choose else undef, rfl, h1, h2, ?_, ?_, ?_, ?_⟩
        · intro hl
          obtain ⟨e1, _⟩ := h4 (by omega)
          rw [e1, hesz]
        · intro j hj
          simp only [hj, dif_pos]
          exact (each j hj).choose_spec.1
        · intro j hj
          simp only [hj, dif_pos]
          exact (each j hj).choose_spec.2
        · intro hl
          refine ⟨?_, ?_⟩
          · obtain ⟨_, _, h3⟩ := hrow
            rw [hv] at h3
            simp only [Bool.false_eq_true, if_false] at h3
            obtain ⟨c, fz, hc, _⟩ := h3 (by omega)
            exact (Array.getElem?_eq_some_iff.1 hc).1
          · intro c rc hc hcv e
            rw [dead_live] at hc
            split at hc
            · cases hc
            · exact hW.roApart b c rc hc hcv hv (by omega) e.symm
  subst hsval
  have hbb : (m.mu bx).blk < w.heap.size ∧ ∀ b r, (dead ds st.rows).live b = some r → (m.mu b).vir = false → (m.mu b).blk ≠ (m.mu bx).blk := by
    refine ⟨?_, ?_⟩
    · obtain ⟨_, _, h3⟩ := hW.row bx rb hbx
      rw [hbvir] at h3
      simp only [Bool.false_eq_true, if_false] at h3
      obtain ⟨c, fz, hc, _⟩ := h3
      exact (Array.getElem?_eq_some_iff.1 hc).1
    · intro c rc hc hcv e
      rw [dead_live] at hc
      split at hc
      · cases hc
      · rename_i hn
        have := hW.apart c bx rc rb hc hbx hcv hbvir e
        exact hn (this ▸ hbd)
  have hcell : W1.cell? ⟨(m.mu bx).blk, (m.mu bx).shift + (0 * (m.mu bx).esz + 0), none⟩ = some (.slice ao len cap) := by
    rw [World.cell?_of_block (w := w) (ht1.below _ hbb.1)]
    rcases hsel with ⟨_, _, h⟩ | ⟨vs, h, _⟩
    · simpa using h
    · cases h
  refine ⟨w.heap.size + 1, [{ target := .collected w.heap.size, args := #[] }], W1, { target := .fn (.func gf) #[.pointer (some ⟨(m.mu bx).blk, (m.mu bx).shift + (0 * (m.mu bx).esz + 0), none⟩)], args := #[.func (.yield (w.heap.size + 1)) #[] #[]] }, W1, gf,
    #[.func (.yield (w.heap.size + 1)) #[] #[]] ++ #[.pointer (some ⟨(m.mu bx).blk, (m.mu bx).shift + (0 * (m.mu bx).esz + 0), none⟩)], W1, ?_, ?_, ?_, ?_, ?_, ?_⟩
  · rw [← hW1, hrec]; exact run_enterLoop_outer _ _ _ _ _
  · have hfv' : a.eval g = .func (.func gf) #[] #[.pointer (some ⟨(m.mu bx).blk, (m.mu bx).shift + (0 * (m.mu bx).esz + 0), none⟩)] := hfv
    simp only [resolve, hfv']
    simp [go_sem]
  · intro f' _; trivial
  · simp [invoke, go_sem, hent]
  · intro h; simp [Fd, Fence.wide] at h
  · refine (callsR (rd := none) (n := 0) (hB (w.heap.size + 1) _ _ blk off len cap ao vals J Jx W1 hlc hcm hao hcell ?_ ?_ ?_ J0)).mono ?_
    · intro j hj
      have hb1 := (hblk (by omega)).1
      rcases hel j hj with ⟨h1, h2, h3⟩ | ⟨vs, h1, h2, h3⟩
      · exact .inl ⟨h1, h2, by rw [World.cell?_of_block (w := w) (ht1.below _ hb1)]; exact h3⟩
      · exact .inr ⟨vs, h1, h2, fun t x hx => ⟨(h3 t x hx).1, by rw [World.cell?_of_block (w := w) (ht1.below _ hb1)]; exact (h3 t x hx).2⟩⟩
    · -- a new block minds nobody
      rintro k A B ⟨m', rows, hI, hWR, hS, hl, hd⟩ hg'
      have ht : Turned w.heap.size A B := ⟨hg'.os, hg'.tape, hg'.output, ⟨hg'.size, fun i c t fz hi => by
        rw [hg'.block i (Array.getElem?_eq_some_iff.1 hi).1 (by simp)]; exact hi⟩, fun i hi => hg'.block i (Nat.lt_of_lt_of_le hi hS.size) (by simp)⟩
      exact ⟨m', rows, hI, hWR.others ht.others, hS.turned ht, by rw [hg'.block _ (Array.getElem?_eq_some_iff.1 hl).1 (by simp)]; exact hl, by rw [hg'.block _ (Array.getElem?_eq_some_iff.1 hd).1 (by simp)]; exact hd⟩
    · -- one round
      rintro k W hlt ⟨m', rows, hI, hWR, hS, hl, hd⟩ _ _
      have hmu : ∀ b, b < st.rows.length → m'.mu b = m.mu b := fun b hb => hS.mu b (by rw [dead_length]; exact hb)
      have hlen : st.rows.length ≤ rows.length := by have := hS.len; rwa [dead_length] at this
      have hlt1 : w.heap.size + 1 < W.heap.size := (Array.getElem?_eq_some_iff.1 hl).1
      have hy := run_yield (P := P) (args := #[.int .i64 ((len - 1 - k : Nat) : Int), vals (len - 1 - k)]) hl (by rw [hrec]; rfl)
      rw [hrec] at hy
      have hfold : ∀ (t : Array Value) (x y : Value), (#[p0, p1].zip #[x, y]).foldl (fun tmps (t, a) => tmps.setIfInBounds t a) t = (t.setIfInBounds p0 x).setIfInBounds p1 y := by
        exact fold2 p0 p1
      dsimp only at hy
      rw [hfold] at hy
      refine ⟨fn, _, assign, body, hy, roundIn_of_wpIn trivial ?_⟩
      -- the state at the head of the round
      have hrel : Rel R m' ⟨(st.tmps.set p0 (.int .i64 ((len - 1 - k : Nat) : Int))).set p1 (els (len - 1 - k)), rows⟩ { tmps := (a.tmps.setIfInBounds p0 (.int .i64 ((len - 1 - k : Nat) : Int))).setIfInBounds p1 (vals (len - 1 - k)), defers := [] } W := by
        have r0 : Rel R m' ⟨st.tmps, rows⟩ { tmps := a.tmps, defers := [] } W :=
          ⟨hr.size, fun i x hx => by obtain ⟨c, hc, hd'⟩ := hr.tmps i x hx; exact ⟨c, hc, hd'.mono hlen hmu hS.ro⟩, rfl, hWR⟩
        have r1 := r0.put (Step.refl _ _ _) hWR (some p0) (v := .int .i64 ((len - 1 - k : Nat) : Int)) (c := .int .i64 ((len - 1 - k : Nat) : Int)) (by simp [Den])
        exact r1.put (Step.refl _ _ _) hWR (some p1) ((hden (len - 1 - k) (by omega)).mono hlen hmu hS.ro)
      refine wpIn_mono ((hround (w.heap.size + 1) k rows hlt hI) m' _ W m' rows W rfl hrel (Step.refl _ _ _)) ?_
      rintro e a1 W2 ⟨⟨m1, st1, hok, ⟨rfl, hbody⟩, hr1, hs1⟩, ha1⟩
      have hl2 : W2.heap[w.heap.size + 1]? = some (.loop (rec .ready none)) := hs1.keeps hWR hl (fun _ _ _ h => by cases h)
      have hd2 : W2.heap[w.heap.size]? = some (.deferred (some [])) := hs1.keeps hWR hd (fun _ _ _ h => by cases h)
      refine ⟨_, run_beginRound hl2 (by rw [hrec]), ?_⟩
      have ht2 : Turned w.heap.size W2 (W2.putObj (w.heap.size + 1) (.loop { rec .ready none with state := .busy })) := Turned.putObj _ hl2 (fun _ _ _ h => by cases h) (by omega)
      have ht2' : Turned W.heap.size W (W.putObj W.heap.size (.deferred none)) ∨ True := .inr trivial
      have hr2 : Rel R m1 st1 (clr a1) (W2.putObj (w.heap.size + 1) (.loop { rec .ready none with state := .busy })) := ⟨hr1.size, hr1.tmps, hr1.defers, hr1.wr.others ht2.others⟩
      have hlt2 : w.heap.size + 1 < W2.heap.size := (Array.getElem?_eq_some_iff.1 hl2).1
      have hl3 : (W2.putObj (w.heap.size + 1) (.loop { rec .ready none with state := .busy })).heap[w.heap.size + 1]? = some (.loop { rec .ready none with state := .busy }) := World.putObj_heap_same hlt2
      have hd3 : (W2.putObj (w.heap.size + 1) (.loop { rec .ready none with state := .busy })).heap[w.heap.size]? = some (.deferred (some [])) := (World.putObj_heap_other (by omega)).trans hd2
      refine wpIn_mono (hbody m1 a1 _ m1 st1.rows _ ha1 hr2 (Step.refl _ _ _)) ?_
      rintro e a3 W3 ⟨⟨m3, st3, hok3, ⟨rowsE, hfitE, hq3⟩, hr3, hs3⟩, ha3⟩
      have hl4 : W3.heap[w.heap.size + 1]? = some (.loop { rec .ready none with state := .busy }) := hs3.keeps hr2.wr hl3 (fun _ _ _ h => by cases h)
      have hd4 : W3.heap[w.heap.size]? = some (.deferred (some [])) := hs3.keeps hr2.wr hd3 (fun _ _ _ h => by cases h)
      have hlt4 : w.heap.size + 1 < W3.heap.size := (Array.getElem?_eq_some_iff.1 hl4).1
      -- the way from the head of the range
      have s2 : Step m (dead ds st.rows) w m1 st1.rows W2 := hS.trans hs1
      have s2' : Step m (dead ds st.rows) w m1 st1.rows (W2.putObj (w.heap.size + 1) (.loop { rec .ready none with state := .busy })) := s2.turned ht2
      have s3 : Step m (dead ds st.rows) w m3 st3.rows W3 := s2'.trans hs3
      obtain ⟨mE, hwE, hsE⟩ : ∃ mE, WR R mE rowsE W3 ∧ Step m (dead ds st.rows) w mE rowsE W3 := by
        rcases hfitE with rfl | ⟨f, hV, hf, hn⟩
        · exact ⟨m3, hr3.wr, s3⟩
        · exact ⟨_, hr3.wr.view hV, s3.forget hV (by rw [dead_length]; exact hf) (by rw [dead_length]; exact hn)⟩
      have fin : ∀ (jump : Option Code), (Instr.endRound (w.heap.size + 1) jump).run P W3 = .ok (.bool jump.isNone) (W3.putObj (w.heap.size + 1) (.loop (rec (if jump.isNone then .ready else .done) jump))) ∧
          WR R mE rowsE (W3.putObj (w.heap.size + 1) (.loop (rec (if jump.isNone then .ready else .done) jump))) ∧
          Step m (dead ds st.rows) w mE rowsE (W3.putObj (w.heap.size + 1) (.loop (rec (if jump.isNone then .ready else .done) jump))) ∧
          (W3.putObj (w.heap.size + 1) (.loop (rec (if jump.isNone then .ready else .done) jump))).heap[w.heap.size + 1]? = some (.loop (rec (if jump.isNone then .ready else .done) jump)) ∧
          (W3.putObj (w.heap.size + 1) (.loop (rec (if jump.isNone then .ready else .done) jump))).heap[w.heap.size]? = some (.deferred (some [])) := by
        intro jump
        have ht4 : Turned w.heap.size W3 (W3.putObj (w.heap.size + 1) (.loop (rec (if jump.isNone then .ready else .done) jump))) := Turned.putObj _ hl4 (fun _ _ _ h => by cases h) (by omega)
        have := run_endRound (P := P) jump hl4
        rw [hrec] at this ⊢
        rw [hrec] at ht4
        exact ⟨this, hwE.others ht4.others, hsE.turned ht4, World.putObj_heap_same hlt4, (World.putObj_heap_other (by omega)).trans hd4⟩
      -- what the iterator reads
      have keep : ∀ (jump : Option Code) (D : Nat), D < w.heap.size → (∀ b r, (dead ds st.rows).live b = some r → (m.mu b).vir = false → (m.mu b).blk ≠ D) →
          (W3.putObj (w.heap.size + 1) (.loop (rec (if jump.isNone then .ready else .done) jump))).heap[D]? = W.heap[D]? := by
        intro jump D hD hne
        rw [World.putObj_heap_other (by omega), hs3.block D (by rw [World.putObj_size]; omega) (s2.aside hD hne), World.putObj_heap_other (by omega)]
        exact hs1.block D (by omega) (hS.aside hD hne)
      cases e with
      | normal =>
        obtain ⟨hrun, hwr, hst, hl5, hd5⟩ := fin none
        exact ⟨_, _, hrun, .inl ⟨rfl, ⟨mE, rowsE, hq3, hwr, hst, hl5, hd5⟩, keep none _ hbb.1 hbb.2, keep none _ (hblk (by omega)).1 (hblk (by omega)).2⟩⟩
      | ret =>
        obtain ⟨hrun, hwr, hst, hl5, hd5⟩ := fin (some .ret)
        exact ⟨_, _, hrun, .inr ⟨rfl, .ret, .ret, mE, rowsE, rfl, hq3, hwr, hst, hl5, hd5⟩⟩
      | exit id =>
        obtain ⟨hrun, hwr, hst, hl5, hd5⟩ := fin (some (.exit id))
        exact ⟨_, _, hrun, .inr ⟨rfl, .exit id, .exit id, mE, rowsE, rfl, hq3, hwr, hst, hl5, hd5⟩⟩
      | goto t => exact hok3.elim
      | panic ch => exact hok3.elim
      | outgrown => exact hok3.elim
    · -- behind
      have marks : ∀ W' : World, W'.heap[w.heap.size]? = some (.deferred (some [])) → (∀ (D : Nat) (o : Obj), w.heap[D]? = some o → (∀ c t fz, o ≠ Obj.cells c t fz) → W'.heap[D]? = some o) → Marks w0.heap.size ({ target := .collected w.heap.size, args := #[] } :: a.defers) W' := by
        intro W' hd hold
        refine ⟨List.nodup_cons.2 ⟨?_, hk.1⟩, ?_⟩
        · intro hm
          obtain ⟨D, e, _, hD⟩ := hk.2 _ hm
          have : w.heap.size = D := by simpa using e
          subst this
          have := (Array.getElem?_eq_some_iff.1 hD).1
          omega
        · intro d hd'
          rcases List.mem_cons.1 hd' with rfl | hd'
          · exact ⟨_, rfl, hs.size, hd⟩
          · obtain ⟨D, e, hB', hD⟩ := hk.2 d hd'
            exact ⟨D, e, hB', hold D _ hD (fun _ _ _ h => by cases h)⟩
      have finish : ∀ (rows : Rows) (m' : Map) (W2 : World) (s : LoopState) (pe : Option Code) (e : Exit) (hok : match e with | .normal | .exit _ | .ret => True | _ => False), Q e ⟨st.tmps, revive ds st.rows rows⟩ → WR R m' rows W2 → Step m (dead ds st.rows) w m' rows W2 → W2.heap[w.heap.size + 1]? = some (.loop (rec s pe)) → W2.heap[w.heap.size]? = some (.deferred (some [])) →
          ∀ s', Post R Q m0 h0' w0 e (clr { a with defers := { target := .collected w.heap.size, args := #[] } :: a.defers }) (W2.putObj (w.heap.size + 1) (.loop (rec s' pe))) ∧ Marks w0.heap.size ({ target := .collected w.heap.size, args := #[] } :: a.defers) (W2.putObj (w.heap.size + 1) (.loop (rec s' pe))) := by
        intro rows m' W2 s pe e hok hq hwr hst hl hd s'
        have ht : Turned w.heap.size W2 (W2.putObj (w.heap.size + 1) (.loop (rec s' pe))) := Turned.putObj _ hl (fun _ _ _ h => by cases h) (by omega)
        obtain ⟨hw2, hs2⟩ := revive_ok hW (hst.turned ht) (hwr.others ht.others)
        have hlen : st.rows.length ≤ rows.length := by have := hst.len; rwa [dead_length] at this
        have hlen2 : st.rows.length ≤ (revive ds st.rows rows).length := by rw [revive_length]; exact hlen
        refine ⟨⟨m', ⟨st.tmps, revive ds st.rows rows⟩, hok, hq, ⟨hr.size, ?_, rfl, hw2⟩, hs.trans hs2⟩, marks _ ((World.putObj_heap_other (by omega)).trans hd) ?_⟩
        · intro i x hx
          obtain ⟨c, hc, hd'⟩ := hr.tmps i x hx
          exact ⟨c, hc, hd'.mono hlen2 (fun b hb => hst.mu b (by rw [dead_length]; exact hb)) hst.ro⟩
        · intro D o hD ho
          have hDlt := (Array.getElem?_eq_some_iff.1 hD).1
          rw [World.putObj_heap_other (by omega)]
          exact hst.keeps (hW.dead ds) hD ho
      rintro e W2 ⟨⟨v, rfl⟩, (⟨m', rows, hI, hwr, hst, hl, hd⟩ | ⟨e, c, m', rows, hj, hX, hwr, hst, hl, hd⟩)⟩
      · refine ⟨none, _, by have := run_endLoop (P := P) hl (by rw [hrec]; simp); rw [hrec] at this; exact this, ?_⟩
        have := finish rows m' W2 .ready none .normal trivial (hdone rows hI) hwr hst hl hd .exhausted
        rw [hrec] at this
        exact this
      · refine ⟨some c, _, by have := run_endLoop (P := P) hl (by rw [hrec]; simp); rw [hrec] at this; exact this, ?_⟩
        cases e with
        | ret =>
          simp only [jumpOf, Option.some.injEq] at hj
          subst hj
          have := finish rows m' W2 .done _ .ret trivial (hexit _ rows hX) hwr hst hl hd .exhausted
          rw [hrec] at this
          exact wpIn_ret this
        | exit id =>
          simp only [jumpOf, Option.some.injEq] at hj
          subst hj
          have := finish rows m' W2 .done _ (.exit id) trivial (hexit _ rows hX) hwr hst hl hd .exhausted
          rw [hrec] at this
          exact wpIn_exit this
        | _ => simp [jumpOf] at hj
end Go.Dc
end
section
set_option linter.unusedSimpArgs false
set_option linter.unusedVariables false
namespace Go.Dc
noncomputable section

def hasRange : Code → Bool
  | .seq a b => hasRange a || hasRange b
  | .cond _ a b => hasRange a || hasRange b
  | .block _ b => hasRange b
  | .loop b => hasRange b
  | .rangeFunc .. => true
  | _ => false

/-- The rounds that are left, of a range whose elements are known. -/
def rng (go : Code → St → (Exit → St → Prop) → Prop) (st : St) (p0 p1 : Tmp) (as body : Code) (ds : List Nat) (r : Row) (i : Nat) (k : Exit → St → Prop) (len : Nat) : Rows → Prop :=
  Nat.rec (fun rows => forceRows (revive ds st.rows rows) fun rows => k .normal ⟨st.tmps, rows⟩)
    (fun j ih rows => match r.get? (i + j) with
      | some e => setK st.tmps p0 (.int .i64 (j : Int)) fun ts => setK ts p1 e fun ts => go as ⟨ts, rows⟩ fun e1 st1 => match e1 with
        | .normal => go body st1 fun e st2 => match e with
          | .normal => ih st2.rows
          | .ret => forceRows (revive ds st.rows st2.rows) fun rows => k .ret ⟨st.tmps, rows⟩
          | .exit id => forceRows (revive ds st.rows st2.rows) fun rows => k (.exit id) ⟨st.tmps, rows⟩
          | _ => False
        | _ => False
      | none => False) len

theorem rng_succ (go : Code → St → (Exit → St → Prop) → Prop) (st : St) (p0 p1 : Tmp) (as body : Code) (ds : List Nat) (r : Row) (i : Nat) (k : Exit → St → Prop) (j : Nat) (rows : Rows) :
    rng go st p0 p1 as body ds r i k (j + 1) rows = (match r.get? (i + j) with
      | some e => setK st.tmps p0 (.int .i64 (j : Int)) fun ts => setK ts p1 e fun ts => go as ⟨ts, rows⟩ fun e1 st1 => match e1 with
        | .normal => go body st1 fun e st2 => match e with
          | .normal => rng go st p0 p1 as body ds r i k j st2.rows
          | .ret => forceRows (revive ds st.rows st2.rows) fun rows => k .ret ⟨st.tmps, rows⟩
          | .exit id => forceRows (revive ds st.rows st2.rows) fun rows => k (.exit id) ⟨st.tmps, rows⟩
          | _ => False
        | _ => False
      | none => False) := rfl

variable (E : Env Prop) (back : FuncId → Option Nat) (rl : Nat → Option LoopSp) (n : Nat) (f : FuncId)

def codeM : Code → St → (Exit → St → Prop) → Prop
  | .seq x y, st, k => codeM x st fun e st => match e with | .normal => codeM y st k | e => k e st
  | .block id b, st, k => match hasRange b with
    | false => code propAns E (drawAll propAns E) n f (.block id b) st k
    | true => match rl id with
      | some spec => spec st k
      | none => codeM b st fun e st => match e with
        | .exit id' => bif Nat.beq id' id then k .normal st else k (.exit id') st
        | e => k e st
  | .rangeFunc g ⟨[p0, p1]⟩ as body, st, k => match st.ev g with
    | .fn gf [] [.ptr false bx 0 0] => match back gf, st.rows.live bx with
      | some esz, some rb => match rb.get? 0 with
        | some .nils => forceRows (revive [bx] st.rows (dead [bx] st.rows)) fun rows => k .normal ⟨st.tmps, rows⟩
        | some (.sl false b i len _) => match st.rows.live b with
          | some r => cond (Nat.beq r.esz esz && Nat.ble (i + len) r.len) (forceRows (dead [bx, b] st.rows) fun rows => rng (code propAns E (drawAll propAns E) n f) st p0 p1 as body [bx, b] r i k len rows) False
          | none => False
        | _ => False
      | _, _ => False
    | _ => False
  | c, st, k => code propAns E (drawAll propAns E) n f c st k

end

section
variable {E : Env Prop} {back : FuncId → Option Nat} {rl : Nat → Option LoopSp} {n : Nat} {f : FuncId} {P : Program}

theorem SafeR.mono {rd : Option Nat} {ds : List Deferred} {P : Program} {R : Nat → RoRow} {c : Code} {st : St} {Q Q' : Exit → St → Prop} (h : SafeR rd ds P R c st Q) (hq : ∀ e st, Q e st → Q' e st) : SafeR rd ds P R c st Q' :=
  fun m a w m0 h0 w0 ha hr hs => wpIn_mono (h m a w m0 h0 w0 ha hr hs) fun _ _ _ hp => ⟨hp.1.mono hq, hp.2⟩

theorem Row.get?_some {r : Row} {i : Nat} (h : i < r.len) : ∃ e, r.get? i = some e := by
  cases r with
  | lst t s l => exact ⟨l[i]'h, by simp only [Row.get?]; exact List.getElem?_eq_getElem h⟩
  | gen t s n a => exact ⟨a i, Row.get_gen h⟩
  | byt t l => exact ⟨.int .u8 (l[i]'h).toNat, by simp only [Row.get?]; rw [List.getElem?_eq_getElem h]; rfl⟩

theorem codeM_ok (hm : P.follows .mixedOrders = true) (hE : EnvOK P E id) (hb : ∀ gf esz, back gf = some esz → BackOK P gf esz ∧ ∀ args w, (callFunc gf args).run P w = .ok (.enter gf args) w)
    (hl : ∀ id, E.loops f id = Option.none)
    (hrl : ∀ id spec, rl id = some spec → ∀ body, (id, body) ∈ E.subsOf f → ∀ st k, spec st k → SafeM P E.R (.block id body) st k) :
    ∀ (c : Code) (st : St) (k : Exit → St → Prop), codeND c = true → (∀ p ∈ subs c, p ∈ E.subsOf f) → codeM E back rl n f c st k → SafeM P E.R c st k := by
  have plain : ∀ (c : Code) (st : St) (k : Exit → St → Prop), codeND c = true → (∀ p ∈ subs c, p ∈ E.subsOf f) → code propAns E (drawAll propAns E) n f c st k → SafeM P E.R c st k := by
    intro c st k hnd hsub h
    exact SafeM.of fun ds => code_okR propHolds hE hm f (fun id spec e => by rw [hl id] at e; cases e) n c st k hnd hsub h
  intro c
  induction c with
  | seq x y ihx ihy =>
    intro st k hnd hsub h
    refine SafeM.seq ((ihx st _ (nd_seq hnd).1 (fun p hp => hsub p (by simp [subs, hp])) h).mono ?_)
    intro e st' hq
    cases e with
    | normal => exact ihy st' k (nd_seq hnd).2 (fun p hp => hsub p (by simp [subs, hp])) hq
    | _ => exact hq
  | block id b ih =>
    intro st k hnd hsub h
    simp only [codeM] at h
    split at h
    · exact plain _ st k hnd hsub h
    · split at h
      · rename_i spec hs
        exact hrl id spec hs b (hsub _ (by simp [subs])) st k h
      · exact SafeM.block (ih st _ (by simpa [codeND] using hnd) (fun p hp => hsub p (by simp [subs, hp])) h)
  | rangeFunc g ps as body iha ihb =>
    intro st k hnd hsub h
    obtain ⟨pl⟩ := ps
    match pl, h with
    | [p0, p1], h =>
      simp only [codeM] at h
      split at h
      · rename_i gf bx hg
        split at h
        · rename_i esz rb hbk hbx
          obtain ⟨hB, hent⟩ := hb gf esz hbk
          have hnd' : codeND as = true ∧ codeND body = true := by simpa [codeND] using hnd
          have hsa : ∀ p ∈ subs as, p ∈ E.subsOf f := fun p hp => hsub p (by simp [subs, hp])
          have hsb : ∀ p ∈ subs body, p ∈ E.subsOf f := fun p hp => hsub p (by simp [subs, hp])
          split at h
          · -- no slice
            rename_i hsv
            rw [forceRows_eq] at h
            refine range_ok (ds := [bx]) (len := 0) (els := fun _ => .any) (I := fun _ rows => rows = dead [bx] st.rows) (X := fun _ _ => False) hB hent hg hbx hsv (by simp) (.inl ⟨rfl, rfl⟩) rfl ?_ ?_ ?_
            · intro l j rows hj; omega
            · rintro rows rfl; exact h
            · intro e rows hx; exact hx.elim
          · rename_i b i len full hsv
            split at h
            · rename_i r hbr
              rcases hold_cond (hold := id) _ _ _ h with ⟨he, h⟩ | ⟨_, h⟩
              · simp only [Bool.and_eq_true] at he
                have hle : i + len ≤ r.len := Nat.le_of_ble_eq_true he.2
                have he := Nat.eq_of_beq_eq_true he.1
                have hels : ∀ j, j < len → r.get? (i + j) = some ((r.get? (i + j)).getD .any) := by
                  intro j hj
                  obtain ⟨e, he'⟩ := Row.get?_some (r := r) (i := i + j) (by omega)
                  rw [he']; rfl
                simp only [id, forceRows_eq] at h
                refine range_ok (ds := [bx, b]) (len := len) (els := fun j => (r.get? (i + j)).getD .any)
                  (I := fun j rows => rng (code propAns E (drawAll propAns E) n f) st p0 p1 as body [bx, b] r i k (len - j) rows)
                  (X := fun e rows => k e ⟨st.tmps, revive [bx, b] st.rows rows⟩) hB hent hg hbx hsv (by simp) ?_ (by simpa using h) ?_ ?_ ?_
                · exact .inr (.inl ⟨b, i, full, r, rfl, hbr, he, by simp, hels⟩)
                · intro l j rows hj hI
                  obtain ⟨q, hq⟩ : ∃ q, len - j = q + 1 := ⟨len - j - 1, by omega⟩
                  have hq2 : len - 1 - j = q := by omega
                  rw [hq] at hI
                  rw [rng_succ, hels q (by omega)] at hI
                  simp only [setK_eq] at hI
                  rw [hq2]
                  have ok := fun c st k => code_okR (rd := some l) (ds := []) propHolds hE hm f (fun id spec e => by rw [hl id] at e; cases e) n c st k
                  refine SafeR.mono (ok as _ _ hnd'.1 hsa hI) ?_
                  intro e1 st1 hq1
                  cases e1 with
                  | normal =>
                    refine ⟨rfl, SafeR.mono (ok body _ _ hnd'.2 hsb hq1) ?_⟩
                    intro e2 st2 hq2'
                    refine ⟨_, .inl rfl, ?_⟩
                    cases e2 with
                    | normal =>
                      have : len - (j + 1) = q := by omega
                      simp only [this]
                      exact hq2'
                    | ret => simpa [forceRows_eq] using hq2'
                    | exit id => simpa [forceRows_eq] using hq2'
                    | _ => exact hq2'.elim
                  | _ => exact hq1.elim
                · intro rows hI
                  simp only [Nat.sub_self, rng, forceRows_eq] at hI
                  exact hI
                · intro e rows hx; exact hx
              · exact h.elim
            · exact h.elim
          · exact h.elim
        · exact h.elim
      · exact h.elim
    | [], h => exact plain _ st k hnd hsub h
    | [_], h => exact plain _ st k hnd hsub h
    | _ :: _ :: _ :: _, h => exact plain _ st k hnd hsub h
  | _ => intro st k hnd hsub h; exact plain _ st k hnd hsub h

noncomputable def vcm (E : Env Prop) (back : FuncId → Option Nat) (rl : Nat → Option LoopSp) (n : Nat) (f : FuncId) (fi : FI) (args : List AV) (h : Rows) (Q : AV → Rows → Prop) : Prop :=
  forceL (enterT args fi.ntmps) fun ts => codeM E back rl n f fi.body ⟨ts, h⟩ fun e st => match e with
    | .normal | .ret => resK propAns E st fi.results fun v => Q v st.rows
    | _ => False

theorem SafeCall.vcm (hm : P.follows .mixedOrders = true) (hE : EnvOK P E id) (hb : ∀ gf esz, back gf = some esz → BackOK P gf esz ∧ ∀ args w, (callFunc gf args).run P w = .ok (.enter gf args) w)
    (hl : ∀ id, E.loops f id = Option.none) (hrl : ∀ id spec, rl id = some spec → ∀ body, (id, body) ∈ E.subsOf f → ∀ st k, spec st k → SafeM P E.R (.block id body) st k)
    {fi : FI} (hF : E.F f = some fi) (hnd : codeND fi.body = true) {args : List AV} {h : Rows} {Q : AV → Rows → Prop} (hk : Dc.vcm E back rl n f fi args h Q) : SafeCall P E.R f args h Q := by
  unfold Dc.vcm at hk
  rw [forceL_eq] at hk
  refine SafeCall.of_bodyM hE.T (hE.F f fi hF) ((codeM_ok hm hE hb hl hrl fi.body _ _ hnd (fun p hp => by unfold Env.subsOf; rw [hF]; exact hp) hk).mono ?_)
  intro e st' he
  cases e <;> first
    | exact ⟨.inl rfl, resL_ok propHolds he⟩
    | exact ⟨.inr rfl, resL_ok propHolds he⟩
    | exact he.elim
end
end Go.Dc
end
section
set_option linter.unusedSimpArgs false
set_option linter.unusedVariables false
namespace Go.Dc

/-- A value without places. -/
def flat1 : AV → Bool
  | .bool _ | .int _ _ | .str _ | .nilp | .nils | .nilf | .nili => true
  | _ => false
def flat : AV → Bool
  | .agg cs => cs.all flat1
  | .tup cs => cs.all flat1
  | v => flat1 v

theorem flat1_den {m m' : Map} {n n' : Nat} : ∀ {x : AV} {v : Value}, flat1 x = true → Den m n x v → Den m' n' x v := by
  intro x v h hd
  cases x <;> simp [flat1] at h <;> simpa [Den] using hd

theorem flatL_den {m m' : Map} {n n' : Nat} : ∀ {l : List AV} {vs : List Value}, l.all flat1 = true → DenL m n l vs → DenL m' n' l vs
  | [], vs, _, hd => by simpa [DenL] using hd
  | x :: l, vs, h, hd => by
    simp only [List.all_cons, Bool.and_eq_true] at h
    simp only [DenL] at hd ⊢
    obtain ⟨v, vs', rfl, h1, h2⟩ := hd
    exact ⟨v, vs', rfl, flat1_den h.1 h1, flatL_den h.2 h2⟩

theorem flat_den {m m' : Map} {n n' : Nat} {x : AV} {v : Value} (h : flat x = true) (hd : Den m n x v) : Den m' n' x v := by
  cases x
  case agg cs =>
    simp only [flat] at h
    simp only [Den] at hd ⊢
    obtain ⟨vs, e, hd⟩ := hd
    exact ⟨vs, e, flatL_den h hd⟩
  case tup cs =>
    simp only [flat] at h
    simp only [Den] at hd ⊢
    obtain ⟨vs, e, hd⟩ := hd
    exact ⟨vs, e, flatL_den h hd⟩
  all_goals exact flat1_den (by simpa [flat] using h) hd

def All2 {α β : Type} (r : α → β → Prop) : List α → List β → Prop
  | [], [] => True
  | a :: as, b :: bs => r a b ∧ All2 r as bs
  | _, _ => False

/-- A value of one cell, its places told as memory that is only read. -/
def RoVw1 (f : Nat → Option Nat) : AV → AV → Prop
  | .ptr false b i o, y => ∃ c, f b = some c ∧ y = .ptr true c i o
  | .sl false b i len _, y => ∃ c, f b = some c ∧ y = .sl true c i len .no
  | .any, y => y = .any
  | x, y => flat1 x = true ∧ y = x
def RoVw (f : Nat → Option Nat) (x y : AV) : Prop := match x with
  | .agg cs => ∃ ds, y = .agg ds ∧ All2 (RoVw1 f) cs ds
  | x => RoVw1 f x y

theorem RoVw1.den {m m2 : Map} {n : Nat} {f : Nat → Option Nat} (hf : ∀ b c, f b = some c → m2.ro c = m.mu b) {x y : AV} {v : Value} (h : RoVw1 f x y) (hd : Den m n x v) : Den m2 0 y v := by
  cases x
  case ptr ro b i o =>
    cases ro with
    | true => simp [RoVw1, flat1] at h
    | false =>
      obtain ⟨c, hc, rfl⟩ := h
      simp only [Den, Map.loc, if_true, Bool.false_eq_true, if_false] at hd ⊢
      rw [hf b c hc]
      exact ⟨by simp, hd.2⟩
  case sl ro b i len u =>
    cases ro with
    | true => simp [RoVw1, flat1] at h
    | false =>
      obtain ⟨c, hc, rfl⟩ := h
      simp only [Den, Map.loc, if_true, Bool.false_eq_true, if_false] at hd ⊢
      rw [hf b c hc]
      refine ⟨by simp, ?_⟩
      have h2 := hd.2
      unfold SlDen at h2 ⊢
      split
      · rename_i hv; rw [if_pos hv] at h2; obtain ⟨h1, ao, h3, _⟩ := h2; exact ⟨h1, ao, h3, trivial⟩
      · rename_i hv; rw [if_neg hv] at h2; obtain ⟨a, cap, h1, h3, h4, _, h6⟩ := h2; exact ⟨a, cap, h1, h3, h4, trivial, h6⟩
  case any => simp only [RoVw1] at h; subst h; simp [Den]
  all_goals
    simp only [RoVw1] at h
    obtain ⟨h1, rfl⟩ := h
    exact flat1_den h1 hd

theorem RoVwL.den {m m2 : Map} {n : Nat} {f : Nat → Option Nat} (hf : ∀ b c, f b = some c → m2.ro c = m.mu b) : ∀ {xs ys : List AV} {vs : List Value}, All2 (RoVw1 f) xs ys → DenL m n xs vs → DenL m2 0 ys vs
  | [], [], vs, _, hd => by simpa [DenL] using hd
  | [], _ :: _, vs, h, _ => h.elim
  | _ :: _, [], vs, h, _ => h.elim
  | x :: xs, y :: ys, vs, h, hd => by
    simp only [DenL] at hd ⊢
    obtain ⟨v, vs', rfl, d1, d2⟩ := hd
    exact ⟨v, vs', rfl, h.1.den hf d1, RoVwL.den hf h.2 d2⟩

theorem RoVw.to1 {f : Nat → Option Nat} {x y : AV} (hn : ∀ cs, x ≠ .agg cs) (h : RoVw f x y) : RoVw1 f x y := by
  unfold RoVw at h
  split at h
  · exact absurd rfl (hn _)
  · exact h

theorem RoVw.den {m m2 : Map} {n : Nat} {f : Nat → Option Nat} (hf : ∀ b c, f b = some c → m2.ro c = m.mu b) {x y : AV} {v : Value} (h : RoVw f x y) (hd : Den m n x v) : Den m2 0 y v := by
  cases x
  case agg cs =>
    obtain ⟨ds, rfl, h⟩ := h
    simp only [Den] at hd ⊢
    obtain ⟨vs, e, hd⟩ := hd
    exact ⟨vs, e, RoVwL.den hf h hd⟩
  all_goals exact RoVw1.den hf (RoVw.to1 (fun _ e => by cases e) h) hd

theorem RoVwA.den {m m2 : Map} {n : Nat} {f : Nat → Option Nat} (hf : ∀ b c, f b = some c → m2.ro c = m.mu b) : ∀ {xs ys : List AV} {vs : List Value}, All2 (RoVw f) xs ys → DenL m n xs vs → DenL m2 0 ys vs
  | [], [], vs, _, hd => by simpa [DenL] using hd
  | [], _ :: _, vs, h, _ => h.elim
  | _ :: _, [], vs, h, _ => h.elim
  | x :: xs, y :: ys, vs, h, hd => by
    simp only [DenL] at hd ⊢
    obtain ⟨v, vs', rfl, d1, d2⟩ := hd
    exact ⟨v, vs', rfl, h.1.den hf d1, RoVwA.den hf h.2 d2⟩

theorem RoVw1.one {f : Nat → Option Nat} {x y : AV} (h : RoVw1 f x y) (hx : x.one = true) : y.one = true := by
  cases x
  case ptr ro b i o =>
    cases ro with
    | true => simp [RoVw1, flat1] at h
    | false => obtain ⟨c, _, rfl⟩ := h; rfl
  case sl ro b i len u =>
    cases ro with
    | true => simp [RoVw1, flat1] at h
    | false => obtain ⟨c, _, rfl⟩ := h; rfl
  case any => simp [AV.one] at hx
  all_goals
    simp only [RoVw1] at h
    obtain ⟨_, rfl⟩ := h
    exact hx

theorem RoVw1.cells {f : Nat → Option Nat} {x y : AV} (h : RoVw1 f x y) (hx : x.one = true) : x.cells = [x] ∧ y.cells = [y] := by
  have hy := h.one hx
  constructor
  · cases x <;> simp [AV.one] at hx <;> rfl
  · cases y <;> simp [AV.one] at hy <;> rfl

theorem forall2_get {α β : Type} {r : α → β → Prop} : ∀ {xs : List α} {ys : List β}, All2 r xs ys → ∀ {o : Nat} {b : β}, ys[o]? = some b → ∃ a, xs[o]? = some a ∧ r a b
  | [], [], _, o, b, hb => by simp at hb
  | [], _ :: _, h, _, _, _ => h.elim
  | _ :: _, [], h, _, _, _ => h.elim
  | x :: _, y :: _, h, 0, b, hb => by
    simp only [List.getElem?_cons_zero, Option.some.injEq] at hb
    subst hb
    exact ⟨x, by simp, h.1⟩
  | _ :: _, _ :: _, h, o + 1, b, hb => by
    simp only [List.getElem?_cons_succ] at hb
    obtain ⟨a, ha, hr⟩ := forall2_get h.2 hb
    exact ⟨a, by simpa using ha, hr⟩

theorem forall2_len {α β : Type} {r : α → β → Prop} : ∀ {xs : List α} {ys : List β}, All2 r xs ys → xs.length = ys.length
  | [], [], _ => rfl
  | [], _ :: _, h => h.elim
  | _ :: _, [], h => h.elim
  | _ :: _, _ :: _, h => by simp [forall2_len h.2]

/-- The cells of an element, told so. -/
theorem RoVw.cells {f : Nat → Option Nat} {x y : AV} (h : RoVw f x y) (hx : ∀ (o : Nat) (a : AV), x.cells[o]? = some a → a.one = true) : y.cells.length = x.cells.length ∧ ∀ (o : Nat) (b : AV), y.cells[o]? = some b → b.one = true ∧ ∃ a, x.cells[o]? = some a ∧ RoVw1 f a b := by
  by_cases ha : ∃ cs, x = .agg cs
  · obtain ⟨cs, rfl⟩ := ha
    obtain ⟨ds, rfl, h⟩ := h
    refine ⟨(forall2_len h).symm, fun o b hb => ?_⟩
    obtain ⟨a, ha, hr⟩ := forall2_get h (show ds[o]? = some b from hb)
    exact ⟨hr.one (hx o a ha), a, ha, hr⟩
  · have h1 : RoVw1 f x y := by
      cases x <;> first | exact h | exact absurd ⟨_, rfl⟩ ha
    have hc : x.cells = [x] := by cases x <;> first | rfl | exact absurd ⟨_, rfl⟩ ha
    have hone : x.one = true := hx 0 x (by rw [hc]; rfl)
    obtain ⟨_, c2⟩ := h1.cells hone
    refine ⟨by rw [hc, c2]; rfl, fun o b hb => ?_⟩
    rw [c2] at hb
    cases o with
    | zero =>
      simp only [List.getElem?_cons_zero, Option.some.injEq] at hb
      subst hb
      exact ⟨h1.one hone, x, by rw [hc]; rfl, h1⟩
    | succ o => simp at hb

structure RoRowV (f : Nat → Option Nat) (r : Row) (q : RoRow) : Prop where
  ty : q.ty = r.ty
  esz : q.esz = r.esz
  n : q.n ≤ r.len
  at_ : ∀ (j : Nat) (e : AV), j < q.n → r.get? j = some e → RoVw f e (q.at_ j)

theorem RowOK.ro {m m2 : Map} {n : Nat} {l : Loc} {r : Row} {q : RoRow} {w : World} {f : Nat → Option Nat} (hf : ∀ b c, f b = some c → m2.ro c = m.mu b) (h : RowOK m n l r w) (hv : RoRowV f r q) : RoOK m2 l q w := by
  obtain ⟨h1, h2, h3⟩ := h
  refine ⟨h1.trans hv.esz.symm, Nat.le_trans hv.n h2, ?_⟩
  cases hvir : l.vir with
  | true =>
    rw [hvir] at h3
    simp only [if_true] at h3 ⊢
    have := hv.n
    omega
  | false =>
    rw [hvir] at h3
    simp only [Bool.false_eq_true, if_false] at h3 ⊢
    intro hn
    obtain ⟨c, fz, hc, hs, hfz, hd⟩ := h3
    refine ⟨c, fz, by rw [hv.ty]; exact hc, fun i hi => ?_⟩
    obtain ⟨e, he⟩ := Row.get?_some (r := r) (i := i) (by have := hv.n; omega)
    obtain ⟨hl, hcell⟩ := hd i e he
    obtain ⟨k1, k2⟩ := (hv.at_ i e hi he).cells (fun o a ha => (hcell o a ha).1)
    refine ⟨k1.trans hl, fun o b hb => ?_⟩
    obtain ⟨ho, a, ha, hr⟩ := k2 o b hb
    obtain ⟨_, v, hv2, hden⟩ := hcell o a ha
    exact ⟨ho, v, hv2, hr.den hf hden⟩

theorem SafeCall.ofRead {P : Program} {R R2 : Nat → RoRow} {fn : FuncId} {argsL args : List AV} {h : Rows} {Q : AV → Prop} (hs : SafeCall P R2 fn argsL [] fun v _ => Q v) (hg : ∀ v, Q v → flat v = true)
    (hmap : ∀ m w, WR R m h w → ∃ m2 : Map, (∀ i, RoOK m2 (m2.ro i) (R2 i) w) ∧ ∀ as, DenL m h.length args as → DenL m2 0 argsL as) :
    SafeCall P R fn args h fun v h' => Q v ∧ h' = h := by
  intro m w m0 h0 w0 as has hW hS
  obtain ⟨m2, hro, hden⟩ := hmap m w hW
  have hW2 : WR R2 m2 [] w := ⟨fun b r hb => by simp [Rows.live] at hb, fun b b' r r' hb => by simp [Rows.live] at hb, hro, fun i b r hb => by simp [Rows.live] at hb⟩
  refine (hs m2 w m2 [] w as (hden _ has) hW2 (Step.refl _ _ _)).mono ?_
  rintro e w' ⟨c, v, m', h', rfl, hq, hd, _, hS'⟩
  have hbelow : ∀ k, k < w.heap.size → w'.heap[k]? = w.heap[k]? := fun k hk => hS'.block k hk (fun b r hb => by simp [Rows.live] at hb)
  have ho : Others w w' := ⟨hS'.size, fun k c t fz hk => by rw [hbelow k (Array.getElem?_eq_some_iff.1 hk).1]; exact hk⟩
  have ht : Turned w0.heap.size w w' := ⟨hS'.os, hS'.tape, hS'.output, ho, fun k hk => hbelow k (Nat.lt_of_lt_of_le hk hS.size)⟩
  exact ⟨c, v, m, h, rfl, ⟨hq, rfl⟩, flat_den (hg v hq) hd, hW.others ho, hS.turned ht⟩

/-- What only reads some rows, wherever they lie: 'g i' is the row that is told as the i-th. -/
theorem SafeCall.reads {P : Program} {R R2 : Nat → RoRow} {fn : FuncId} {argsL args : List AV} {h : Rows} {Q : AV → Prop} (f g : Nat → Option Nat) (hfg : ∀ b i, f b = some i → g i = some b)
    (hrow : ∀ i, match g i with | some b => ∃ r, h.live b = some r ∧ RoRowV f r (R2 i) | .none => (R2 i).n = 0) (hA : All2 (RoVw f) args argsL)
    (hs : SafeCall P R2 fn argsL [] fun v _ => Q v) (hg : ∀ v, Q v → flat v = true) : SafeCall P R fn args h fun v h' => Q v ∧ h' = h := by
  refine hs.ofRead hg ?_
  intro m w hW
  let m2 : Map := ⟨fun _ => ⟨0, 0, 0, 0, true⟩, fun i => match g i with | some b => m.mu b | .none => ⟨0, 0, (R2 i).esz, 0, true⟩⟩
  have hf : ∀ b c, f b = some c → m2.ro c = m.mu b := by
    intro b c hc
    have := hfg b c hc
    show (match g c with | some b => m.mu b | .none => _) = _
    rw [this]
  refine ⟨m2, ?_, ?_⟩
  · intro i
    have h1 := hrow i
    show RoOK m2 (match g i with | some b => m.mu b | .none => ⟨0, 0, (R2 i).esz, 0, true⟩) (R2 i) w
    cases hgi : g i with
    | some b =>
      rw [hgi] at h1
      obtain ⟨r, hb, hv⟩ := h1
      exact (hW.row b r hb).ro hf hv
    | none =>
      rw [hgi] at h1
      exact ⟨rfl, by simp at h1; omega, by simpa using h1⟩
  · intro as
    exact RoVwA.den hf hA

/-! ### One list that came in -/
def roL (ty esz n : Nat) (at_ : Nat → AV) : Nat → RoRow := fun i => match i with | 0 => ⟨ty, esz, n, at_⟩ | _ + 1 => ⟨0, 0, 0, fun _ => .undef⟩

theorem listArg (w : World) (a : Addr) (len cap : Nat) (at_ : Nat → AV) (V : Nat → Value) (hl : len ≤ cap) (hm : cap ≤ maxLen) (hone : ∀ i, (at_ i).one = true) (hV : ∀ m n i, Den m n (at_ i) (V i)) (hcell : ∀ i, i < cap → w.cell? (a.add i) = some (V i)) :
    ∃ ty m, (∀ i, RoOK m (m.ro i) (roL ty 1 len at_ i) w) ∧ Den m 0 (.sl true 0 0 len .no) (.slice (some a) len cap) := by
  have cells1 : ∀ i, (at_ i).cells = [at_ i] := fun i => by
    have := hone i
    cases hx : at_ i <;> rw [hx] at this <;> simp [AV.one] at this <;> rfl
  rcases Nat.eq_zero_or_pos cap with h0 | hp
  · subst h0
    obtain rfl : len = 0 := by omega
    refine ⟨0, ⟨fun _ => ⟨0, 0, 0, 0, true⟩, fun i => match i with | 0 => ⟨0, 0, 1, 0, true⟩ | _ + 1 => ⟨0, 0, 0, 0, true⟩⟩, ?_, ?_⟩
    · intro i
      cases i with
      | zero => exact ⟨rfl, Nat.le_refl _, by simp [roL]⟩
      | succ i => exact ⟨rfl, Nat.le_refl _, by simp [roL]⟩
    · simp only [Den, Map.loc, if_true]
      refine ⟨by simp, ?_⟩
      unfold SlDen
      simp only [if_true]
      exact ⟨trivial, some a, rfl, trivial⟩
  · have h0 := hcell 0 hp
    have hadd0 : a.add 0 = a := by unfold Addr.add; simp
    rw [hadd0] at h0
    obtain ⟨c, ty, fz, hc⟩ : ∃ c ty fz, w.heap[a.block]? = some (Obj.cells c ty fz) := by
      unfold World.cell? at h0
      split at h0
      · rename_i c ty fz hc; exact ⟨c, ty, fz, hc⟩
      · cases h0
    have hspot : a.spot = none := by
      unfold World.cell? at h0
      rw [hc] at h0
      simp only [] at h0
      cases hs : a.spot with
      | none => rfl
      | some s => rw [hs] at h0; simp at h0
    have ha : a = ⟨a.block, a.off, none⟩ := by cases a; simp_all
    have hadd : ∀ i, a.add i = ⟨a.block, a.off + i, none⟩ := by
      intro i
      rw [ha]
      unfold Addr.add
      split
      · rename_i h; subst h; rfl
      · rfl
    refine ⟨ty, ⟨fun _ => ⟨0, 0, 0, 0, true⟩, fun i => match i with | 0 => ⟨a.block, a.off, 1, cap, false⟩ | _ + 1 => ⟨0, 0, 0, 0, true⟩⟩, ?_, ?_⟩
    · intro i
      cases i with
      | zero =>
        refine ⟨rfl, hl, ?_⟩
        simp only [Bool.false_eq_true, if_false]
        intro hn
        refine ⟨c, fz, hc, fun i hi => ?_⟩
        simp only [roL] at hi ⊢
        refine ⟨by rw [cells1]; rfl, fun o b hb => ?_⟩
        rw [cells1] at hb
        cases o with
        | zero =>
          simp only [List.getElem?_cons_zero, Option.some.injEq] at hb
          subst hb
          refine ⟨hone i, V i, ?_, hV _ _ i⟩
          have := hcell i (by omega)
          rw [hadd] at this
          unfold World.cell? at this
          rw [hc] at this
          simpa using this
        | succ o => simp at hb
      | succ i => exact ⟨rfl, Nat.le_refl _, by simp [roL]⟩
    · simp only [Den, Map.loc, if_true]
      refine ⟨by simp, ?_⟩
      unfold SlDen
      simp only [Bool.false_eq_true, if_false]
      exact ⟨a, cap, rfl, hl, hm, trivial, fun _ => ⟨by simpa using ha, by simp⟩⟩

theorem nilArg (w : World) (at_ : Nat → AV) : ∃ ty m, (∀ i, RoOK m (m.ro i) (roL ty 1 0 at_ i) w) ∧ Den m 0 (.sl true 0 0 0 .no) (.slice none 0 0) := by
  refine ⟨0, ⟨fun _ => ⟨0, 0, 0, 0, true⟩, fun i => match i with | 0 => ⟨0, 0, 1, 0, true⟩ | _ + 1 => ⟨0, 0, 0, 0, true⟩⟩, ?_, ?_⟩
  · intro i
    cases i with
    | zero => exact ⟨rfl, Nat.le_refl _, by simp [roL]⟩
    | succ i => exact ⟨rfl, Nat.le_refl _, by simp [roL]⟩
  · simp only [Den, Map.loc, if_true]
    refine ⟨by simp, ?_⟩
    unfold SlDen
    simp only [if_true]
    exact ⟨trivial, none, rfl, trivial⟩

end Go.Dc
end
section
set_option linter.unusedSimpArgs false
set_option linter.unusedVariables false
namespace Go.Dc

theorem subs_trans : ∀ (c : Code) (p : Nat × Code), p ∈ subs c → ∀ q ∈ subs p.2, q ∈ subs c := by
  intro c
  induction c with
  | block id b ih =>
    intro p hp q hq
    simp only [subs, List.mem_cons] at hp ⊢
    rcases hp with rfl | hp
    · exact .inr hq
    · exact .inr (ih p hp q hq)
  | seq x y ihx ihy =>
    intro p hp q hq
    simp only [subs, List.mem_append] at hp ⊢
    rcases hp with hp | hp
    · exact .inl (ihx p hp q hq)
    · exact .inr (ihy p hp q hq)
  | cond x y z ihx ihy =>
    intro p hp q hq
    simp only [subs, List.mem_append] at hp ⊢
    rcases hp with hp | hp
    · exact .inl (ihx p hp q hq)
    · exact .inr (ihy p hp q hq)
  | loop b ih => exact ih
  | rangeFunc g ps x y ihx ihy =>
    intro p hp q hq
    simp only [subs, List.mem_append] at hp ⊢
    rcases hp with hp | hp
    · exact .inl (ihx p hp q hq)
    · exact .inr (ihy p hp q hq)
  | _ => intro p hp; simp [subs] at hp

theorem blockOf_mem {fi : FI} {i : Nat} {b : Code} (hb : blockOf fi i = some b) : (i, b) ∈ subs fi.body := by
  unfold blockOf at hb
  split at hb
  · rename_i j' b' he
    simp only [Option.some.injEq] at hb
    subst hb
    have : (j', b') ∈ (subs fi.body).filter fun p => Nat.beq p.1 i := by rw [he]; simp
    simp only [List.mem_filter] at this
    obtain ⟨h1, h2⟩ := this
    have := Nat.eq_of_beq_eq_true h2
    subst this
    exact h1
  · exact absurd hb (by simp)

theorem blockOf_uniq {fi : FI} {i : Nat} {b b' : Code} (hb : blockOf fi i = some b) (h : (i, b') ∈ subs fi.body) : b' = b := by
  unfold blockOf at hb
  split at hb
  · rename_i j' b2 he
    simp only [Option.some.injEq] at hb
    subst hb
    have : (i, b') ∈ (subs fi.body).filter fun p => Nat.beq p.1 i := List.mem_filter.2 ⟨h, by simp⟩
    rw [he] at this
    simp only [List.mem_singleton, Prod.mk.injEq] at this
    exact this.2
  · exact absurd hb (by simp)

/-- One round: the left sides, then the body. -/
noncomputable def rndR (E : Env Prop) (n : Nat) (f : FuncId) (as body : Code) (st : St) (k : Exit → St → Prop) : Prop :=
  code propAns E (drawAll propAns E) n f as st fun e st1 => match e with
    | .normal => code propAns E (drawAll propAns E) n f body st1 k
    | _ => False

/-- The code of a range in its block. -/
def rgA (fi : FI) (id : Nat) : Code := match blockOf fi id with | some (.rangeFunc _ _ a _) => a | _ => .skip
def rgB (fi : FI) (id : Nat) : Code := match blockOf fi id with | some (.rangeFunc _ _ _ b) => b | _ => .skip

theorem rangeLoop {P : Program} {E : Env Prop} (hm : P.follows .mixedOrders = true) (hE : EnvOK P E id) {f : FuncId} (hl : ∀ i, E.loops f i = Option.none) {gf esz : Nat} (hB : BackOK P gf esz)
    (hent : ∀ args w, (callFunc gf args).run P w = .ok (.enter gf args) w) {fi : FI} (hF : E.F f = some fi) {i : Nat} {g : Operand} {p0 p1 : Tmp} {as body : Code} (hb : blockOf fi i = some (.rangeFunc g #[p0, p1] as body))
    (hnd : (codeND as && codeND body) = true) {st : St} {bx : Nat} (hg : st.ev g = .fn gf [] [.ptr false bx 0 0]) {rb : Row} (hbx : st.rows.live bx = some rb) {sv : AV} (hsv0 : rb.get? 0 = some sv)
    {ds : List Nat} {len : Nat} {els : Nat → AV} (hbd : bx ∈ ds)
    (hsv : (sv = .nils ∧ len = 0) ∨ (∃ b i full r, sv = .sl false b i len full ∧ st.rows.live b = some r ∧ r.esz = esz ∧ b ∈ ds ∧ ∀ j, j < len → r.get? (i + j) = some (els j)) ∨
      (∃ b i full, sv = .sl true b i len full ∧ (E.R b).esz = esz ∧ i + len ≤ (E.R b).n ∧ ∀ j, j < len → els j = (E.R b).at_ (i + j)))
    {I : Nat → Rows → Prop} {X : Exit → Rows → Prop} (h0 : I 0 (dead ds st.rows)) (n : Nat)
    (hround : ∀ k rows, k < len → I k rows → rndR E n f as body ⟨(st.tmps.set p0 (.int .i64 ((len - 1 - k : Nat) : Int))).set p1 (els (len - 1 - k)), rows⟩ fun e st2 =>
      ∃ rowsE, (rowsE = st2.rows ∨ FitR st.rows.length rowsE st2.rows) ∧ match e with | .normal => I (k + 1) rowsE | e => X e rowsE)
    {Q : Exit → St → Prop} (hdone : ∀ rows, I len rows → Q .normal ⟨st.tmps, revive ds st.rows rows⟩)
    (hexit : ∀ e rows, X e rows → match e with
      | .exit id' => bif Nat.beq id' i then Q .normal ⟨st.tmps, revive ds st.rows rows⟩ else Q (.exit id') ⟨st.tmps, revive ds st.rows rows⟩
      | e => Q e ⟨st.tmps, revive ds st.rows rows⟩) :
    SafeM P E.R (.block i (.rangeFunc g #[p0, p1] as body)) st Q := by
  have hm1 := blockOf_mem hb
  have hsa : ∀ p ∈ subs as, p ∈ E.subsOf f := fun p hp => by unfold Env.subsOf; rw [hF]; exact subs_trans _ _ hm1 p (by simp [subs, hp])
  have hsb : ∀ p ∈ subs body, p ∈ E.subsOf f := fun p hp => by unfold Env.subsOf; rw [hF]; exact subs_trans _ _ hm1 p (by simp [subs, hp])
  simp only [Bool.and_eq_true] at hnd
  refine SafeM.block (range_ok hB hent hg hbx hsv0 hbd hsv (I := I) (X := X) h0 ?_ hdone ?_)
  · intro l k rows hk hI
    have ok := fun c st k => code_okR (rd := some l) (ds := []) propHolds hE hm f (fun id spec e => by rw [hl id] at e; cases e) n c st k
    refine SafeR.mono (ok as _ _ hnd.1 hsa (hround k rows hk hI)) ?_
    intro e1 st1 hq1
    cases e1 with
    | normal => exact ⟨rfl, ok body _ _ hnd.2 hsb hq1⟩
    | _ => exact hq1.elim
  · intro e rows hx
    exact hexit e rows hx
/-! ### Rows of plain values, with rows behind -/
def lstGnd : Option Row → Bool
  | some (.lst _ _ l) => l.all fun e => ones e && Go.Dc.gnd e
  | none => true
  | _ => false

theorem RowV.lstG {f : Nat → Option Nat} {n : Nat} {t z : Nat} {l : List AV} (h : (l.all fun e => ones e && Go.Dc.gnd e) = true) : RowV f n (.lst t z l) (.lst t z l) where
  ty := rfl
  esz := rfl
  len := rfl
  get := fun i x hx => by
    simp only [Row.get?] at hx ⊢
    have hm := List.mem_of_getElem? hx
    have := List.all_eq_true.1 h x hm
    simp only [Bool.and_eq_true] at this
    exact ⟨ones_mem this.1, x, hx, gnd_vw f n x this.2⟩

theorem View.pre (h tl : Rows) (hg : h.all lstGnd = true) : View some h (h ++ tl) :=
  View.of (fun c o ho => by
    have hm := List.mem_of_getElem? ho
    have hlt := (List.getElem?_eq_some_iff.1 ho).1
    have hgo := List.all_eq_true.1 hg o hm
    cases o with
    | none =>
      refine ⟨(fun r hr => by cases hr), fun b hb => ?_⟩
      simp only [Option.some.injEq] at hb
      subst hb
      simp; omega
    | some r =>
      cases r with
      | lst t z l => exact ViewL.at_ (b := c) rfl (by rw [List.getElem?_append_left hlt]; exact ho) (RowV.lstG hgo)
      | gen t z n a => simp [lstGnd] at hgo
      | byt t l => simp [lstGnd] at hgo)
    (fun c c' b _ _ h1 h2 => by simp only [Option.some.injEq] at h1 h2; omega)

theorem FitR.pre {nk : Nat} (h tl : Rows) (hg : h.all lstGnd = true) (hn : nk ≤ h.length) : FitR nk h (h ++ tl) := ⟨some, View.pre h tl hg, fun _ _ => rfl, hn⟩

end Go.Dc
end
section
set_option linter.unusedSimpArgs false
set_option linter.unusedVariables false
namespace Go.Dc
open Go.RowKit

theorem RowOK.retell {m : Map} {n : Nat} {l : Loc} {r r' : Row} {w : World} (h : RowOK m n l r w) (ht : r'.ty = r.ty) (he : r'.esz = r.esz) (hl : r'.len = r.len) (hg : ∀ i e, r'.get? i = some e → r.get? i = some e) : RowOK m n l r' w := by
  obtain ⟨h1, h2, h3⟩ := h
  refine ⟨h1.trans he.symm, by rw [hl]; exact h2, ?_⟩
  cases hv : l.vir with
  | true =>
    rw [hv] at h3
    simp only [if_true] at h3 ⊢
    rw [hl]
    exact h3
  | false =>
    rw [hv] at h3
    simp only [Bool.false_eq_true, if_false] at h3 ⊢
    obtain ⟨c, fz, hc, hs, hf, hd⟩ := h3
    exact ⟨c, fz, by rw [ht]; exact hc, hs, hf, fun i e hi => hd i e (hg i e hi)⟩

theorem live_last (h : Rows) (r : Row) : Rows.live (h ++ [some r]) h.length = some r := by simp [Rows.live]

/-- The last row told otherwise. -/
theorem SafeCall.retell {P : Program} {R : Nat → RoRow} {fn : FuncId} {args : List AV} {h : Rows} {v v0 : AV} {r r0 : Row} (hs : SafeCall P R fn args h fun v' h' => v' = v ∧ h' = h ++ [some r]) (ht : r0.ty = r.ty) (he : r0.esz = r.esz) (hl : r0.len = r.len)
    (hg : ∀ i e, r0.get? i = some e → r.get? i = some e) (hv : ∀ m n c, Den m n v c → Den m n v0 c) : SafeCall P R fn args h fun v' h' => v' = v0 ∧ h' = h ++ [some r0] := by
  intro m w m0 h0 w0 as has hW hS
  refine (hs m w m0 h0 w0 as has hW hS).mono ?_
  rintro e w' ⟨c, v', m', h', rfl, ⟨rfl, rfl⟩, hd, hW', hS'⟩
  have up : ∀ b q, Rows.live (h ++ [some r0]) b = some q → ∃ q', Rows.live (h ++ [some r]) b = some q' ∧ (q' = q ∨ (q' = r ∧ q = r0)) := by
    intro b q hb
    rcases live_push hb with ⟨hlt, hl⟩ | ⟨rfl, rfl⟩
    · exact ⟨q, by rw [live_append hlt]; exact hl, .inl rfl⟩
    · exact ⟨r, live_last h r, .inr ⟨rfl, rfl⟩⟩
  refine ⟨c, v0, m', _, rfl, ⟨rfl, rfl⟩, by simpa using hv _ _ _ hd, ⟨?_, ?_, hW'.ro, ?_⟩, ⟨hS'.os, hS'.tape, hS'.output, hS'.size, hS'.block, by simpa using hS'.len, hS'.mu, hS'.ro, ?_⟩⟩
  · intro b q hb
    obtain ⟨q', hb', rfl | ⟨rfl, rfl⟩⟩ := up b q hb
    · simpa using hW'.row b q' hb'
    · simpa using (hW'.row b q' hb').retell ht he hl hg
  · intro b b' q q' hb hb'
    obtain ⟨_, k1, _⟩ := up b q hb
    obtain ⟨_, k2, _⟩ := up b' q' hb'
    exact hW'.apart b b' _ _ k1 k2
  · intro i b q hb
    obtain ⟨_, k1, _⟩ := up b q hb
    exact hW'.roApart i b _ k1
  · intro b q hb
    obtain ⟨_, k1, _⟩ := up b q hb
    exact hS'.new b _ k1

/-- A call of the library that reads rows and answers with a plain value. -/
theorem SafeCall.knownRead {P : Program} {R : Nat → RoRow} {fn : FuncId} {args : List AV} {h : Rows} {v : AV}
    (hs : ∀ m w (as : Array Value), WR R m h w → DenL m h.length args as.toList → Calls P fn as w fun e w' => ∃ c, e = .returned c ∧ (∀ m n, Den m n v c) ∧ Below w.heap.size w w') :
    SafeCall P R fn args h fun v' h' => v' = v ∧ h' = h := by
  intro m w m0 h0 w0 as has hW hS
  refine (hs m w as hW has).mono ?_
  rintro e w' ⟨c, rfl, hd, hb⟩
  have ho : Others w w' := ⟨hb.size, fun k c t fz hk => by rw [hb.block k (Array.getElem?_eq_some_iff.1 hk).1]; exact hk⟩
  have ht : Turned w0.heap.size w w' := ⟨hb.os, hb.tape, hb.output, ho, fun k hk => hb.block k (Nat.lt_of_lt_of_le hk hS.size)⟩
  exact ⟨c, v, m, h, rfl, ⟨rfl, rfl⟩, hd _ _, hW.others ho, hS.turned ht⟩

/-- A row of texts, as the world bears it. -/
def strsRow (ty : TypeId) (l : List (List UInt8)) : Row := .gen ty 1 l.length fun j => .str (l.getD j [])

theorem strs_cells {R : Nat → RoRow} {m : Map} {h : Rows} {w : World} (hW : WR R m h w) {q : Nat} {ty : TypeId} {l : List (List UInt8)} {at_ : Nat → AV} (hq : h.live q = some (.gen ty 1 l.length at_)) (hat : ∀ j, j < l.length → at_ j = .str (l.getD j [])) {u : Value} {c : Cp} (hd : Den m h.length (.sl false q 0 l.length c) u) :
    (l = [] ∧ ∃ a cap, u = .slice a 0 cap) ∨ ∃ bk o cap, u = .slice (some ⟨bk, o, none⟩) l.length cap ∧ l.length ≤ cap ∧ bk < w.heap.size ∧ ∀ j s, l[j]? = some s → w.cell? ⟨bk, o + j, none⟩ = some (.string ⟨⟨s⟩⟩) := by
  simp only [Den, Map.loc, Bool.false_eq_true, if_false] at hd
  obtain ⟨_, hsl⟩ := hd
  cases l with
  | nil =>
    refine .inl ⟨rfl, ?_⟩
    unfold SlDen at hsl
    split at hsl
    · obtain ⟨_, ao, rfl, _⟩ := hsl; exact ⟨ao, 0, rfl⟩
    · obtain ⟨a, cap, rfl, _⟩ := hsl; exact ⟨_, cap, rfl⟩
  | cons s0 l =>
    refine .inr ?_
    unfold SlDen at hsl
    split at hsl
    · obtain ⟨h0, _⟩ := hsl; simp at h0
    · rename_i hv
      have hv : (m.mu q).vir = false := by simpa using hv
      obtain ⟨a, cap, rfl, h1, _, _, h4⟩ := hsl
      obtain ⟨rfl, _⟩ := h4 (by simp at h1; omega)
      obtain ⟨e1, e2, h3⟩ := hW.row q _ hq
      rw [hv] at h3
      simp only [Bool.false_eq_true, if_false] at h3
      obtain ⟨cs, fz, hc, _, _, hel⟩ := h3
      have hesz : (m.mu q).esz = 1 := e1
      refine ⟨_, _, cap, rfl, h1, (Array.getElem?_eq_some_iff.1 hc).1, fun j s hj => ?_⟩
      have hjl : j < (s0 :: l).length := (List.getElem?_eq_some_iff.1 hj).1
      have hg : (Row.gen ty 1 (s0 :: l).length at_).get? j = some (.str s) := by
        rw [Row.get_gen hjl, hat j hjl]
        simp only [List.getD, hj, Option.getD_some]
      obtain ⟨_, hcell⟩ := hel j _ hg
      obtain ⟨_, v, hv2, hden⟩ := hcell 0 (.str s) (by simp [AV.cells])
      simp only [Den] at hden
      subst hden
      rw [hesz] at hv2
      simp only [World.cell?, hc, hesz]
      simpa using hv2

theorem View.nil : View (fun _ => Option.none) [] [] := ⟨fun c b hc => absurd hc (Nat.not_lt_zero _), fun c c' b hc => absurd hc (Nat.not_lt_zero _), fun c r hc => by simp [Rows.live] at hc⟩
theorem Fit.nil {T T' : List AV} (h : VwL (fun _ => Option.none) 0 T T') : Fit 0 ⟨T, []⟩ ⟨T', []⟩ := ⟨fun _ => Option.none, ⟨View.nil, h⟩, fun c hc => absurd hc (Nat.not_lt_zero _), Nat.le_refl _⟩
theorem subs_loop (b : Code) : subs b = subs (.loop b) := rfl

def strOf : AV → List UInt8
  | .str s => s
  | _ => []
/-- The texts of a row. -/
def strsOf (n : Nat) (at_ : Nat → AV) : List (List UInt8) := (List.range n).map fun j => strOf (at_ j)
theorem strsOf_length (n : Nat) (at_ : Nat → AV) : (strsOf n at_).length = n := by simp [strsOf]
theorem strsOf_getD {n : Nat} {at_ : Nat → AV} {j : Nat} (hj : j < n) : (strsOf n at_).getD j [] = strOf (at_ j) := by
  simp [strsOf, List.getD, hj]
theorem strsOf_row (l : List (List UInt8)) : strsOf l.length (fun j => .str (l.getD j [])) = l := by
  apply List.ext_getElem
  · simp [strsOf]
  · intro i h1 h2
    simp [strsOf, strOf, List.getD, h2]

/-- A call that is known for one row alone, with what it leaves told by a condition. -/
theorem SafeCall.focus1Q {P : Program} {R : Nat → RoRow} {fn : FuncId} {argsL args : List AV} {r r0 : Row} {h : Rows} {b : Nat} {Q : AV → Option Row → Rows → Prop}
    (hb : h[b]? = some (some r0)) (hr : RowV (oneV b) 1 r r0) (hA : VwL (oneV b) 1 argsL args) (hs : SafeCall P R fn argsL [some r] fun v h' => ∃ o tl, Q v o tl ∧ h' = o :: tl) :
    SafeCall P R fn args h fun v'' h'' => ∃ V o tl, Q V o tl ∧ v'' = ren (g1 b h.length) V ∧ h'' = h.set b (o.map (renRow (g1 b h.length))) ++ Option.none :: tl.map (Option.map (renRow (g1 b h.length))) := by
  have hlt : b < h.length := (List.getElem?_eq_some_iff.1 hb).1
  have hV : View (oneV b) [some r] h := View.of (fun c o ho => by
    cases c with
    | zero => cases ho; exact ViewL.at_ (b := b) rfl hb hr
    | succ c => simp at ho) (fun c c' d hc hc' _ _ => by simp at hc hc'; omega)
  refine (hs.focus hV hA).mono ?_
  rintro v'' h'' ⟨v', h', ⟨o, tl, hq, rfl⟩, rfl, rfl⟩
  refine ⟨v', o, tl, hq, ?_, merged_one hlt o tl⟩
  show ren (ext (oneV b) 1 h.length) _ = _
  rw [ext_one]
/-- A list of scratch slots of which few are known. -/
def spr (l : List (Nat × AV)) : Nat → Nat → List AV
  | _, 0 => []
  | k, n + 1 => (match l.lookup k with | some a => a | none => .any) :: spr l (k + 1) n
theorem VwL.spr {f : Nat → Option Nat} {N : Nat} {l : List (Nat × AV)} : ∀ {n k : Nat} {T : List AV}, T.length = n → (∀ i a, l.lookup (k + i) = some a → i < n → Vw f N a (nthV T i)) → VwL f N (Dc.spr l k n) T
  | 0, k, T, h, _ => by
    cases T with
    | nil => exact VwL.nil
    | cons x T => simp at h
  | n + 1, k, T, h, hp => by
    cases T with
    | nil => simp at h
    | cons x T =>
      refine VwL.cons ?_ (VwL.spr (by simpa using h) fun i a hl hi => ?_)
      · cases hl : l.lookup k with
        | none => exact Vw.anyI
        | some a =>
          have := hp 0 a (by simpa using hl) (by omega)
          simpa only [nthV_eq, List.getD_cons_zero] using this
      · have := hp (i + 1) a (by rw [show k + (i + 1) = k + 1 + i by omega]; exact hl) (by omega)
        simpa only [nthV_eq, List.getD_cons_succ] using this
/-- The known slots, one by one. -/
def known (f : Nat → Option Nat) (N : Nat) (T : List AV) : List (Nat × AV) → Prop
  | [] => True
  | (i, a) :: l => Vw f N a (nthV T i) ∧ known f N T l
theorem known.at_ {f : Nat → Option Nat} {N : Nat} {T : List AV} : ∀ {l : List (Nat × AV)}, known f N T l → ∀ i a, l.lookup i = some a → Vw f N a (nthV T i)
  | [], _, i, a, h => by simp at h
  | (j, b) :: l, hk, i, a, h => by
    rw [List.lookup_cons] at h
    by_cases e : i = j
    · subst e
      simp at h
      exact h ▸ hk.1
    · rw [show (i == j) = false by simpa using e] at h
      exact hk.2.at_ i a h
theorem VwL.ofKnown {f : Nat → Option Nat} {N n : Nat} {l : List (Nat × AV)} {T : List AV} (h : T.length = n) (hk : known f N T l) : VwL f N (Dc.spr l 0 n) T :=
  VwL.spr h fun i a hl _ => hk.at_ i a (by rw [Nat.zero_add] at hl; exact hl)
end Go.Dc
end
section
set_option linter.unusedSimpArgs false
set_option linter.unusedVariables false
namespace Go.Dc
noncomputable def loopOf (fi : FI) (id : Nat) : Code := match blockOf fi id with | some (.loop b) => b | _ => .skip
theorem hcT {b : Bool} {X Y : Prop} (h : b = true) (hx : X) : cond b X Y := by subst h; exact hx
theorem hcF {b : Bool} {X Y : Prop} (h : b = false) (hy : Y) : cond b X Y := by subst h; exact hy
theorem hcB {b : Bool} {X Y : Prop} (h1 : b = true → X) (h2 : b = false → Y) : cond b X Y := by
  cases b
  · exact h2 rfl
  · exact h1 rfl
theorem hcB2 {b : Bool} {X Y : Prop} (h2 : b = false → Y) (h1 : b = true → X) : cond b X Y := hcB h1 h2
theorem wrapI64 (x : Int) (h0 : -9223372036854775808 ≤ x) (h1 : x ≤ 9223372036854775807) : IntKind.i64.wrap x = x := by
  have e : IntKind.i64.wrap x = if (decide (x % 18446744073709551616 ≥ 9223372036854775808)) = true then x % 18446744073709551616 - 18446744073709551616 else x % 18446744073709551616 := rfl
  rw [e]
  simp only [decide_eq_true_eq]
  split <;> omega
theorem wrapSucc (i : Nat) (h : i ≤ 4611686018427387904) : IntKind.i64.wrap ((i : Int) + 1) = ((i + 1 : Nat) : Int) := by rw [wrapI64 _ (by omega) (by omega)]; omega
/-- One row moved. -/
def mvR (c0 b0 : Nat) : Nat → Option Nat := fun c => bif Nat.beq c c0 then some b0 else some c
theorem mvR_lt {c0 b0 n : Nat} (hn : n ≤ c0) (c : Nat) (hc : c < n) : mvR c0 b0 c = some c := by
  unfold mvR
  rw [show Nat.beq c c0 = false by rw [Bool.eq_false_iff]; exact fun e => by have := Nat.eq_of_beq_eq_true e; omega]
  rfl
theorem mvR_at (c0 b0 c : Nat) : mvR c0 b0 c = some (if c = c0 then b0 else c) := by
  unfold mvR
  by_cases h : c = c0
  · subst h; rw [Nat.beq_refl, if_pos rfl]; rfl
  · rw [show Nat.beq c c0 = false by rw [Bool.eq_false_iff]; exact fun e => h (Nat.eq_of_beq_eq_true e), if_neg h]; rfl
theorem mvR_inj {c0 b0 N : Nat} (hb : N ≤ b0 + 1) (hN : N ≤ c0 + 1) (c c' b : Nat) (hc : c < N) (hc' : c' < N) (h1 : mvR c0 b0 c = some b) (h2 : mvR c0 b0 c' = some b) : c = c' := by
  rw [mvR_at] at h1 h2
  injection h1 with h1
  injection h2 with h2
  split at h1 <;> split at h2 <;> omega
theorem inj_of {N : Nat} {f : Nat → Option Nat} (h : ∀ c c' : Fin N, f c.1 = f c'.1 → f c.1 ≠ none → c = c') (c c' b : Nat) (hc : c < N) (hc' : c' < N) (h1 : f c = some b) (h2 : f c' = some b) : c = c' := by
  have := h ⟨c, hc⟩ ⟨c', hc'⟩ (h1.trans h2.symm) (by show f c ≠ none; rw [h1]; simp)
  exact congrArg Fin.val this
theorem some_inj (N c c' b : Nat) (_ : c < N) (_ : c' < N) (h1 : some c = some b) (h2 : some c' = some b) : c = c' := by cases h1; cases h2; rfl
/-- The first n rows stay, the others weren't there. -/
def upR (n : Nat) : Nat → Option Nat := fun c => bif Nat.blt c n then some c else none
theorem upR_lt {n c : Nat} (h : c < n) : upR n c = some c := by unfold upR; rw [show c.blt n = true by simpa [Nat.blt_eq] using h]; rfl
theorem upR_ge {n c : Nat} (h : n ≤ c) : upR n c = none := by unfold upR; rw [show c.blt n = false by rw [Bool.eq_false_iff]; simp [Nat.blt_eq]; omega]; rfl
theorem upR_inj {n N : Nat} (c c' b : Nat) (_ : c < N) (_ : c' < N) (h1 : upR n c = some b) (h2 : upR n c' = some b) : c = c' := by
  rcases Nat.lt_or_ge c n with h | h
  · rw [upR_lt h] at h1
    rcases Nat.lt_or_ge c' n with h' | h'
    · rw [upR_lt h'] at h2; cases h1; cases h2; rfl
    · rw [upR_ge h'] at h2; cases h2
  · rw [upR_ge h] at h1; cases h1
theorem ViewL.goneR {f : Nat → Option Nat} {N : Nat} {h : Rows} {c b : Nat} (hf : f c = some b) (hb : b < h.length) : ViewL f N h c none where
  row := fun r hr => by cases hr
  lt := fun b' hb' => by rw [hf] at hb'; cases hb'; exact hb
theorem ViewL.noneR {f : Nat → Option Nat} {N : Nat} {h : Rows} {c : Nat} (hf : f c = none) : ViewL f N h c none where
  row := fun r hr => by cases hr
  lt := fun b' hb' => by rw [hf] at hb'; cases hb'
theorem fitVK {n : Nat} {hE h : Rows} {v : AV} {Q : AV → Rows → Prop} (f : Nat → Option Nat) (hV : View f hE h) (hg : gnd v = true) (hf : ∀ c, c < n → f c = some c) (hl : n ≤ hE.length) (hq : Q v hE) : ∃ vE hE, FitV n vE hE v h ∧ Q vE hE :=
  ⟨v, hE, ⟨f, hV, Vw.gndI hg, hf, hl⟩, hq⟩
/-- The very same rows. -/
structure RowsAre (h h0 : Rows) : Prop where
  h : h = h0
theorem capOK {m z : Nat} (h : (m + 1) * z ≤ 140737488355328) : (decide (0 + m ≤ m) && (true && (true && decide ((m + 1) * z ≤ 140737488355328)))) = true := by simp; exact h
/-- An element more, behind a row that is told by a function. -/
theorem app_gen {n : Nat} {F G : Nat → AV} {e : AV} (hF : ∀ j, j < n → F (0 + j) = G j) (he : e = G n) (j : Nat) (hj : j < n + 1) : (bif j.blt n then F (0 + j) else (Src.lst [e]).at_ (j - n)) = G j := by
  by_cases h : j < n
  · rw [show j.blt n = true by simpa [Nat.blt_eq] using h]; exact hF j h
  · have : j = n := by omega
    subst this
    rw [show j.blt j = false by rw [Bool.eq_false_iff]; simp [Nat.blt_eq], Nat.sub_self, he.symm]
    rfl
end Go.Dc
end
section
set_option linter.unusedSimpArgs false
set_option linter.unusedVariables false
namespace Go.Dc
theorem SafeCall.by {P : Program} (hm : P.follows .mixedOrders = true) {E : Env Prop} (hE : EnvOK P E id) {f : FuncId} {fi : FI} (hF : E.F f = some fi) {args : List AV} {h : Rows} {Q : AV → Rows → Prop} (n : Nat) {C : Prop} (he : Dc.vcd E n f fi args h Q = C) (hc : C) : SafeCall P E.R f args h Q :=
  SafeCall.vcd hm hE hF n (he ▸ hc)
theorem Safe.by {P : Program} (hm : P.follows .mixedOrders = true) {E : Env Prop} (hE : EnvOK P E id) {f : FuncId} {fi : FI} (hF : E.F f = some fi) {i : Nat} {b c : Code} (hb : blockOf fi i = some b) (hcs : subs c = subs b) {st : St} {k : Exit → St → Prop} (n : Nat) {C : Prop} (he : Dc.rnd E n f c st k = C) (hc : C) : Safe P E.R c st k :=
  Safe.rnd hm hE hF hb hcs n (he ▸ hc)
theorem SafeCallX.by {P : Program} {E : EnvX} {HP : AV → Rows → Fz → Prop} (hm : P.follows .mixedOrders = true) (hE : OKX P E [] HP) {f : FuncId} {fi : FI} (hF : E.F f = some fi) {args : List AV} {h : Rows} {F : Fz} {Q : AV → Rows → Fz → Prop} (n : Nat) {C : Prop} (he : Dc.vcx E n f fi args h Q F = C) (hc : C) : SafeCallX P E.R f args h F Q HP :=
  SafeCallX.vcx hm hE hF n (he ▸ hc)
theorem SafeX.by {P : Program} {E : EnvX} {HP : AV → Rows → Fz → Prop} (hm : P.follows .mixedOrders = true) (hE : OKX P E [] HP) {f : FuncId} {fi : FI} (hF : E.F f = some fi) {i : Nat} {b c : Code} (hb : blockOf fi i = some b) (hcs : subs c = subs b) {st : St} {F : Fz} {k : Exit → St → Fz → Prop} (n : Nat) {C : Prop} (he : Dc.rnx E n f c st k F = C) (hc : C) : SafeX P E.R [] c st F k HP :=
  SafeX.round hm hE hF hb hcs n (he ▸ hc)
/-- The first rows stay as they are. -/
theorem View.preX {L tl : Rows} (hL : ∀ c r, L.live c = some r → RowV some L.length r r) : View some L (L ++ tl) where
  lt := fun c b hc hb => by simp at hb; simp; omega
  inj := fun c c' b _ _ h1 h2 => by simp at h1 h2; omega
  row := fun c r hc => .inl ⟨c, r, rfl, by rw [live_append (live_lt hc)]; exact hc, hL c r hc⟩
theorem Fit.pre {L tl : Rows} {T T' : List AV} (hL : ∀ c r, L.live c = some r → RowV some L.length r r) (hT : VwL some L.length T T') : Fit L.length ⟨T, L⟩ ⟨T', L ++ tl⟩ :=
  ⟨some, ⟨View.preX hL, hT⟩, fun _ _ => rfl, Nat.le_refl _⟩
theorem live1 {r q : Row} {c : Nat} (h : Rows.live [some r] c = some q) : q = r := by
  match c with
  | 0 => simp [Rows.live] at h; exact h.symm
  | c + 1 => simp [Rows.live] at h
theorem Fit.row1 {r : Row} {T T' : List AV} {tl : Rows} (hr : RowG r) (hT : VwL some 1 T T') : Fit 1 ⟨T, [some r]⟩ ⟨T', some r :: tl⟩ :=
  Fit.pre (L := [some r]) (fun c q h => by rw [live1 h]; exact hr.vw _ _) hT
theorem RowG.lst1 {t z : Nat} {e : AV} (h1 : ones e = true) (h2 : gnd e = true) (h3 : ∀ g, Go.Dc.ren g e = e) : RowG (.lst t z [e]) := ⟨fun f n => .gnd h1 h2, fun g => by simp only [renRow, List.map_cons, List.map_nil, h3]⟩
theorem RowG.lst1' {t z : Nat} {e : AV} (h1 : ones e = true) (h2 : gnd e = true) : RowG (.lst t z [e]) := .lst1 h1 h2 fun g => gnd_ren g e h2
theorem FitV.row1 {r : Row} {v : AV} {tl : Rows} (hr : RowG r) (hv : gnd v = true) : FitV 1 v [some r] v (some r :: tl) :=
  ⟨some, View.preX (L := [some r]) (fun c q h => by rw [live1 h]; exact hr.vw _ _), gnd_vw _ _ _ hv, fun _ _ => rfl, Nat.le_refl _⟩
/-- One row alone: what is known of a call there without panic. -/
theorem SafeCall.at1 {P : Program} {R : Nat → RoRow} {fn : FuncId} {argsL args : List AV} {r : Row} {h : Rows} {b : Nat} {Q : AV → Row → Prop}
    (hb : h.live b = some r) (hr : RowG r) (hA : VwL (oneV b) 1 argsL args)
    (hs : SafeCall P R fn argsL [some r] fun v h' => ∃ r' tl, h' = some r' :: tl ∧ gnd v = true ∧ RowG r' ∧ Q v r') :
    SafeCall P R fn args h fun v h' => ∃ r', h' = h.set b (some r') ∧ Q v r' := by
  have hlt : b < h.length := live_lt hb
  have hb' : h[b]? = some (some r) := by
    unfold Rows.live at hb
    rw [List.getElem?_eq_getElem hlt] at hb ⊢
    simpa using hb
  have hV : View (oneV b) [some r] h := View.of (fun c o ho => by
    cases c with
    | zero => cases ho; exact ViewL.at_ (b := b) rfl hb' (hr.vw _ _)
    | succ c => simp at ho) (fun c c' d hc hc' _ _ => by simp at hc hc'; omega)
  intro m w m0 h0 w0 as hd hW hst
  have hV0 := hW.idView
  refine (SafeCall.focus hV hA hs m w m h w as hd hW (Step.refl _ _ _)).mono ?_
  rintro e w' ⟨c, v, m', h', rfl, ⟨v', h2, ⟨r', tl, rfl, hg, hrg, hq⟩, e2, rfl⟩, hd', hW', hs'⟩
  have em : merged (oneV b) [some r].length [some r].length h (some r' :: tl) = h.set b (some r') ++ (Option.none :: tl.map (Option.map (renRow (g1 b h.length)))) := by
    have := merged_one hlt (some r') tl
    rw [Option.map_some, hrg.ren] at this
    exact this
  rw [em] at hd' hW' hs'
  have hV2 := View.setSame hlt hrg (Option.none :: tl.map (Option.map (renRow (g1 b h.length)))) hV0 ⟨r, hb⟩
  rw [gnd_ren _ _ hg] at e2
  subst e2
  exact ⟨c, v, _, _, rfl, ⟨r', rfl, hq⟩, (gnd_vw some _ v hg).den _ _ _ hd', hW'.view hV2, hst.trans (hs'.forget hV2 (fun c hc => rfl) (by simp))⟩
theorem live_set_self {h : Rows} {b : Nat} {r : Row} (hb : h.live b = some r) : h.set b (some r) = h := by
  have hlt : b < h.length := live_lt hb
  apply List.ext_getElem?
  intro i
  rw [List.getElem?_set]
  by_cases e : b = i
  · subst e
    rw [if_pos rfl, if_pos hlt]
    unfold Rows.live at hb
    rw [List.getElem?_eq_getElem hlt] at hb ⊢
    simp at hb
    rw [hb]
  · rw [if_neg e]
/-- A state seen otherwise, where a row may be told under a new number. -/
structure ViewW (f : Nat → Option Nat) (hL h : Rows) : Prop where
  inj : ∀ c c' b r r', hL.live c = some r → hL.live c' = some r' → f c = some b → f c' = some b → c = c'
  row : ∀ c r, hL.live c = some r → (∃ b r', f c = some b ∧ h.live b = some r' ∧ RowV f hL.length r r') ∨ (f c = none ∧ r.len = 0)
theorem ViewW.real {m : Map} {f : Nat → Option Nat} {hL h : Rows} (hV : ViewW f hL h) {c : Nat} {r : Row} (hc : hL.live c = some r) (hv : ((m.view f hL.es).mu c).vir = false) :
    ∃ b r', f c = some b ∧ h.live b = some r' ∧ RowV f hL.length r r' ∧ (m.view f hL.es).mu c = m.mu b := by
  rcases hV.row c r hc with ⟨b, r', h1, h2, h3⟩ | ⟨h1, h2⟩
  · exact ⟨b, r', h1, h2, h3, view_some h1⟩
  · rw [view_none h1] at hv; simp at hv
theorem WR.viewW {R : Nat → RoRow} {m : Map} {f : Nat → Option Nat} {hL h : Rows} {w : World} (hW : WR R m h w) (hV : ViewW f hL h) : WR R (m.view f hL.es) hL w where
  row := fun c r hc => by
    rcases hV.row c r hc with ⟨b, r', h1, h2, h3⟩ | ⟨h1, h2⟩
    · rw [view_some h1]; exact (hW.row _ _ h2).view h3
    · rw [view_none h1]
      refine ⟨?_, by rw [h2]; exact Nat.zero_le _, ?_⟩
      · show hL.es c = r.esz
        unfold Rows.es
        rw [hc]
      · rw [if_pos rfl]; exact ⟨h2, rfl⟩
  apart := fun b b' r r' hb hb' hv hv' he => by
    obtain ⟨d, r1, h1, h2, _, e1⟩ := hV.real hb hv
    obtain ⟨d', r2, h1', h2', _, e2⟩ := hV.real hb' hv'
    rw [e1] at hv he; rw [e2] at hv' he
    have := hW.apart _ _ _ _ h2 h2' hv hv' he
    subst this
    exact hV.inj b b' _ _ _ hb hb' h1 h1'
  ro := fun i => (hW.ro i).same fun _ _ _ _ _ hd => Den.ground (m := m) (m' := m.view f hL.es) rfl hd
  roApart := fun i b r hb hv hr hn => by
    obtain ⟨d, r1, h1, h2, _, e1⟩ := hV.real hb hv
    rw [e1] at hv ⊢
    exact hW.roApart i _ _ h2 hv hr hn
theorem ToX.fitW {R : Nat → RoRow} {ds : List Deferred} {nk : Nat} {st stE : St} {F : Fz} {S : St → Fz → Prop} (f : Nat → Option Nat) (hV : ViewW f stE.rows st.rows) (hT : VwL f stE.rows.length stE.tmps st.tmps) (hf : ∀ c, c < nk → f c = some c) (hl : nk ≤ stE.rows.length)
    (h : ToX R ds nk stE F S) : ToX R ds nk st F S := by
  intro m a w m0 h0 w0 F0 hn hr hF hs hl0
  refine h (m.view f stE.rows.es) a w m0 h0 w0 F0 hn ⟨hr.size.trans hT.length.symm, ?_, hr.defers, hr.wr.viewW hV⟩ ⟨hF.blk, ?_, hF.ro⟩ ⟨hs.os, hs.tape, hs.output, hs.size, hs.block, Nat.le_trans hn hl, ?_, hs.ro, ?_⟩ hl0
  · intro i x hx
    obtain ⟨y, hy, hxy⟩ := hT.get hx
    obtain ⟨c, hc, hd⟩ := hr.tmps i y hy
    exact ⟨c, hc, hxy.den _ _ _ hd⟩
  · intro c r hc hv
    obtain ⟨b, r', h1, h2, h3, h4⟩ := hV.real hc hv
    rw [h4] at hv ⊢
    exact hF.apart b r' h2 hv
  · intro b hb
    rw [view_some (hf b (Nat.lt_of_lt_of_le hb hn)), hs.mu b hb]
  · intro b r hb hv
    obtain ⟨d, r1, h1, h2, _, e1⟩ := hV.real hb hv
    rw [e1] at hv ⊢
    exact hs.new _ _ h2 hv
/-- The last row under a new number. -/
def dupR (b n : Nat) : Nat → Option Nat := fun c => bif Nat.beq c n then some b else some c
end Go.Dc
end
