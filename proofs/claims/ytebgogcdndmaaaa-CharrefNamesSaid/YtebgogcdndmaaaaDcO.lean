/- A run of code on abstract states, and that the program runs so. Regions in their own order. -/
import Derived.Test.YtebgogcdndmaaaaDcN
import Derived.LoopN
set_option linter.unusedSimpArgs false
set_option linter.unusedVariables false
namespace Go.Dc
noncomputable section

/-- What a run ends in: a proposition, or a Bool. -/
structure Ans (α : Type) where
  bot : α
  both : α → α → α
  eqv : AV → AV → α → α

structure Holds {α : Type} (A : Ans α) (hold : α → Prop) : Prop where
  bot : ¬ hold A.bot
  both : ∀ x y, hold (A.both x y) → hold x ∧ hold y
  eqv : ∀ u v x, hold (A.eqv u v x) → u = v ∧ hold x

def propAns : Ans Prop := { bot := False, both := And, eqv := fun u v x => u = v ∧ x }
theorem propHolds : Holds propAns id := ⟨fun h => h, fun _ _ h => h, fun _ _ _ h => h⟩

/-! Values made plain, before what follows sees them. (The answer is the same: the laws '.._eq'.) -/
def forceB {α : Type} (b : Nat) (k : Nat → α) : α := Nat.rec (k 0) (fun n _ => k (n.succ)) b
theorem forceB_eq {α : Type} (b : Nat) (k : Nat → α) : forceB b k = k b := by cases b <;> rfl

def forceP {α : Type} (v : AV) (k : AV → α) : α := match v with
  | .ptr ro b i o => forceB b fun b => k (.ptr ro b i o)
  | .sl ro b i len full => forceB b fun b => k (.sl ro b i len full)
  | v => k v
theorem forceP_eq {α : Type} (v : AV) (k : AV → α) : forceP v k = k v := by
  cases v <;> simp only [forceP, forceB_eq]

def forceE {α : Type} (f : AV → (AV → α) → α) (g : List AV → (List AV → α) → α) (x : AV) (k : AV → α) : α := match x with
  | .any => k .any
  | .bool b => k (.bool b)
  | .int i x => k (.int i x)
  | .str l => k (.str l)
  | .ptr ro b i o => k (.ptr ro b i o)
  | .nilp => k .nilp
  | .sl ro b i len full => k (.sl ro b i len full)
  | .nils => k .nils
  | .fn g' a c => g a fun a => g c fun c => k (.fn g' a c)
  | .nilf => k .nilf
  | .ifc t x => f x fun x => k (.ifc t x)
  | .nili => k .nili
  | .agg cs => g cs fun cs => k (.agg cs)
  | .tup cs => g cs fun cs => k (.tup cs)

noncomputable def forceW {α : Type} (f : AV → (AV → α) → α) (l : List AV) : (List AV → α) → α :=
  List.rec (fun k => k []) (fun x _ ih k => f x fun x => ih fun xs => k (x :: xs)) l

noncomputable def forceN {α : Type} (n : Nat) : AV → (AV → α) → α :=
  Nat.rec (fun x k => k x) (fun _ ih x k => forceE ih (forceW ih) x k) n

noncomputable def forceV {α : Type} : AV → (AV → α) → α := forceN 4
noncomputable def forceL {α : Type} : List AV → (List AV → α) → α := forceW forceV

theorem forceW_eq {α : Type} {f : AV → (AV → α) → α} (hf : ∀ x k, f x k = k x) : ∀ (l : List AV) (k : List AV → α), forceW f l k = k l
  | [], k => rfl
  | x :: xs, k => by
    show f x (fun x => forceW f xs fun xs => k (x :: xs)) = k (x :: xs)
    rw [hf, forceW_eq hf xs]
theorem forceN_eq {α : Type} : ∀ (n : Nat) (x : AV) (k : AV → α), forceN n x k = k x
  | 0, x, k => rfl
  | n + 1, x, k => by
    show forceE (forceN n) (forceW (forceN n)) x k = k x
    cases x <;> simp only [forceE] <;> simp only [forceN_eq n, forceW_eq (forceN_eq n)]
theorem forceV_eq {α : Type} (x : AV) (k : AV → α) : forceV x k = k x := forceN_eq 4 x k
theorem forceL_eq {α : Type} (l : List AV) (k : List AV → α) : forceL l k = k l := forceW_eq forceV_eq l k

/-- A cell of a list. -/
noncomputable def nthV (l : List AV) : Nat → AV :=
  List.rec (fun _ => .undef) (fun x _ ih n => Nat.rec x (fun m _ => ih m) n) l
theorem nthV_eq : ∀ (l : List AV) (n : Nat), nthV l n = l.getD n .undef
  | [], n => by simp [nthV]
  | x :: xs, 0 => rfl
  | x :: xs, n + 1 => by
    show nthV xs n = _
    rw [nthV_eq xs n]
    simp

noncomputable def setK {α : Type} (l : List AV) : Nat → AV → (List AV → α) → α :=
  List.rec (fun _ _ k => k []) (fun x xs ih n v k => Nat.rec (k (v :: xs)) (fun m _ => ih m v fun ys => k (x :: ys)) n) l
theorem setK_eq {α : Type} : ∀ (l : List AV) (n : Nat) (v : AV) (k : List AV → α), setK l n v k = k (l.set n v)
  | [], n, v, k => by simp [setK]
  | x :: xs, 0, v, k => rfl
  | x :: xs, n + 1, v, k => by
    show setK xs n v (fun ys => k (x :: ys)) = _
    rw [setK_eq xs n]
    simp

def forceRow {α : Type} : Row → (Row → α) → α
  | .lst t s l, k => forceL l fun l => k (.lst t s l)
  | .gen t s n a, k => k (.gen t s n a)
  | .byt t l, k => k (.byt t l)
theorem forceRow_eq {α : Type} (r : Row) (k : Row → α) : forceRow r k = k r := by
  cases r <;> simp [forceRow, forceL_eq]

def forceO {α : Type} (o : Option Row) (k : Option Row → α) : α := match o with
  | none => k none
  | some r => forceRow r fun r => k (some r)
theorem forceO_eq {α : Type} (o : Option Row) (k : Option Row → α) : forceO o k = k o := by
  cases o <;> simp [forceO, forceRow_eq]

noncomputable def forceRows {α : Type} (h : Rows) : (Rows → α) → α :=
  List.rec (fun k => k []) (fun o _ ih k => forceO o fun o => ih fun h => k (o :: h)) h
theorem forceRows_eq {α : Type} : ∀ (h : Rows) (k : Rows → α), forceRows h k = k h
  | [], k => rfl
  | o :: h, k => by
    show forceO o (fun o => forceRows h fun h => k (o :: h)) = k (o :: h)
    rw [forceO_eq, forceRows_eq h]

structure FI where
  body : Code
  ntmps : Nat
  results : List ResultVar

structure Env (α : Type) where
  T : TypeId → Option TI
  R : Nat → RoRow
  F : FuncId → Option FI
  calls : FuncId → Option (List AV → Rows → (AV → Rows → α) → α)
  loops : FuncId → Nat → Option (St → (Exit → St → α) → α)

def ofConst1 : Value → AV
  | .bool b => .bool b
  | .int k n => .int k n
  | .string s => .str s.data.toList
  | .pointer none => .nilp
  | .slice none 0 0 => .nils
  | .nilFunc => .nilf
  | .nilIface => .nili
  | _ => .any

def ofConst : Value → AV
  | .agg cs => .agg (cs.toList.map ofConst1)
  | .tuple ⟨[]⟩ => .tup []
  | v => ofConst1 v

theorem ofConst1_den (m : Map) (n : Nat) (v : Value) : Den m n (ofConst1 v) v := by
  unfold ofConst1
  split <;> simp [Den]

theorem ofConst_den (m : Map) (n : Nat) (v : Value) : Den m n (ofConst v) v := by
  unfold ofConst
  split
  · rename_i cs
    simp only [Den]
    refine ⟨cs, rfl, DenL.of (by simp) ?_⟩
    intro i a ha
    simp only [List.getElem?_map] at ha
    obtain ⟨x, hx, rfl⟩ := Option.map_eq_some_iff.1 ha
    exact ⟨x, hx, ofConst1_den m n x⟩
  · simp only [Den]
    exact ⟨#[], rfl, by simp [DenL]⟩
  · exact ofConst1_den m n _

def St.ev (st : St) : Operand → AV
  | .tmp t => nthV st.tmps t
  | .const v => ofConst v
  | .global _ => .any
  | .func f => .fn f [] []

def putT (tmps : List AV) (dst : Option Tmp) (v : AV) : List AV :=
  match dst with
  | some d => tmps.set d v
  | none => tmps

def putK {α : Type} (tmps : List AV) (dst : Option Tmp) (v : AV) (k : List AV → α) : α :=
  match dst with
  | some d => forceV v fun v => setK tmps d v k
  | none => k tmps
theorem putK_eq {α : Type} (tmps : List AV) (dst : Option Tmp) (v : AV) (k : List AV → α) : putK tmps dst v k = k (putT tmps dst v) := by
  cases dst with
  | none => rfl
  | some d => simp only [putK, putT, forceV_eq, setK_eq]

def St.put (st : St) (dst : Option Tmp) (v : AV) : St := ⟨putT st.tmps dst v, st.rows⟩

structure Rel (R : Nat → RoRow) (m : Map) (st : St) (a : Act) (w : World) : Prop where
  size : a.tmps.size = st.tmps.length
  tmps : ∀ (i : Nat) (x : AV), st.tmps[i]? = some x → ∃ c, a.tmps[i]? = some c ∧ Den m st.rows.length x c
  defers : a.defers = []
  wr : WR R m st.rows w

theorem Rel.ev {R : Nat → RoRow} {m : Map} {st : St} {a : Act} {w : World} (h : Rel R m st a w) (x : Operand) : Den m st.rows.length (st.ev x) (a.eval x) := by
  cases x with
  | tmp t =>
    simp only [St.ev, Act.eval, nthV_eq]
    cases hx : st.tmps[t]? with
    | none =>
      have hlt : st.tmps.length ≤ t := by
        rcases Nat.lt_or_ge t st.tmps.length with h1 | h1
        · rw [List.getElem?_eq_getElem h1] at hx; exact absurd hx (by simp)
        · exact h1
      have : a.tmps[t]? = none := Array.getElem?_eq_none (by rw [h.size]; exact hlt)
      simp [List.getD, hx, this, Den, DenL, undef]
    | some y =>
      obtain ⟨c, hc, hd⟩ := h.tmps t y hx
      simp only [List.getD, hx, Option.getD_some]
      rw [Array.getD_eq_getD_getElem?, hc]
      exact hd
  | const v => exact ofConst_den m _ v
  | global g => simp [St.ev, Den]
  | func f =>
    simp only [St.ev, Act.eval, Den]
    exact ⟨#[], #[], rfl, by simp [DenL], by simp [DenL]⟩

theorem Rel.put {R : Nat → RoRow} {m m' : Map} {st : St} {a : Act} {w w' : World} (h : Rel R m st a w) {rows : Rows} (hs : Step m st.rows w m' rows w') (hW : WR R m' rows w') (dst : Option Tmp) {v : AV} {c : Value} (hd : Den m' rows.length v c) :
    Rel R m' ⟨putT st.tmps dst v, rows⟩ (a.put dst c) w' := by
  have old : ∀ (i : Nat) (x : AV), st.tmps[i]? = some x → ∃ c, a.tmps[i]? = some c ∧ Den m' rows.length x c := by
    intro i x hx
    obtain ⟨c, hc, hd⟩ := h.tmps i x hx
    exact ⟨c, hc, hd.mono hs.len hs.mu hs.ro⟩
  cases dst with
  | none => exact ⟨h.size, old, h.defers, hW⟩
  | some d =>
    refine ⟨by simp [Act.put, putT, h.size], ?_, h.defers, hW⟩
    intro i x hx
    simp only [putT] at hx
    simp only [Act.put]
    by_cases hi : d = i
    · subst hi
      have hlt : d < st.tmps.length := by
        have := (List.getElem?_eq_some_iff.1 hx).1
        simpa using this
      rw [List.getElem?_set_self hlt] at hx
      cases hx
      exact ⟨c, by simp [h.size, hlt], hd⟩
    · rw [List.getElem?_set_ne hi] at hx
      obtain ⟨c', hc, hd'⟩ := old i x hx
      exact ⟨c', by rw [Array.getElem?_setIfInBounds_ne hi]; exact hc, hd'⟩

/-- A bool that is known counts as its literal. -/
theorem Rel.known {R : Nat → RoRow} {m : Map} {st : St} {a : Act} {w : World} (h : Rel R m st a w) {d : Nat} {b : Bool} (hd : st.tmps.getD d .undef = .bool b) : Rel R m ⟨st.tmps.set d (.bool b), st.rows⟩ a w := by
  refine ⟨by simp [h.size], ?_, h.defers, h.wr⟩
  intro i x hx
  by_cases hi : d = i
  · subst hi
    have hlt : d < st.tmps.length := by
      have := (List.getElem?_eq_some_iff.1 hx).1
      simpa using this
    rw [List.getElem?_set_self hlt] at hx
    cases hx
    exact h.tmps d (.bool b) (by simpa [List.getD, List.getElem?_eq_getElem hlt] using hd)
  · rw [List.getElem?_set_ne hi] at hx
    exact h.tmps i x hx

/-! ### One operation -/
section
variable {α : Type} (A : Ans α) (E : Env α) (call : FuncId → List AV → Rows → (AV → Rows → α) → α)

def setBool (st : St) (x : Operand) (b : Bool) : St :=
  match x with
  | .tmp t => ⟨st.tmps.set t (.bool b), st.rows⟩
  | _ => st

def stepOp0 (o : Oper) (st : St) (k : St → α) : α :=
  match o.op with
  | .pick c a b => match st.ev c with
    | .bool t => cond t (k ((setBool st c true).put o.dst (st.ev a))) (k ((setBool st c false).put o.dst (st.ev b)))
    | _ => A.bot
  | .call { callee := .value f, args, .. } => match st.ev f with
    | .fn g first cap => forceL (first ++ (args.toList.map st.ev ++ cap)) fun as => call g as st.rows fun v rows => forceRows rows fun rows => k ⟨putT st.tmps o.dst v, rows⟩
    | _ => A.bot
  | _ => match evQ E.T E.R st.rows st.ev o with
    | .ok v => k (st.put o.dst v)
    | .ck c v => cond c (k (st.put o.dst v)) A.bot
    | .no => match evW E.T E.R st.rows st.ev o with
      | .ok c v rows => cond c (forceRows rows fun rows => k ⟨putT st.tmps o.dst v, rows⟩) A.bot
      | .no => A.bot

/-- An operation under its guard. -/
def guardOp0 (ops : List Oper) (o : Oper) (st : St) (k : St → α) : α :=
  match o.guard with
  | none => stepOp0 A E call o st k
  | some (j, want) => match (ops[j]?).bind (·.dst) with
    | none => A.bot
    | some d => match st.tmps.getD d .undef with
      | .bool b => cond b
          (cond want (stepOp0 A E call o ⟨st.tmps.set d (.bool true), st.rows⟩ k) (k (St.put ⟨st.tmps.set d (.bool true), st.rows⟩ o.dst .undef)))
          (cond want (k (St.put ⟨st.tmps.set d (.bool false), st.rows⟩ o.dst .undef)) (stepOp0 A E call o ⟨st.tmps.set d (.bool false), st.rows⟩ k))
      | .tup _ | .int .. | .str _ => k (st.put o.dst .undef)
      | _ => A.bot

/-- The same, each cell laid as it is. -/
def setBoolK (st : St) (x : Operand) (b : Bool) (k : St → α) : α :=
  match x with
  | .tmp t => setK st.tmps t (.bool b) fun ts => k ⟨ts, st.rows⟩
  | _ => k st

def St.putK (st : St) (dst : Option Tmp) (v : AV) (k : St → α) : α := Dc.putK st.tmps dst v fun ts => k ⟨ts, st.rows⟩

def stepOp (o : Oper) (st : St) (k : St → α) : α :=
  match o.op with
  | .pick c a b => match st.ev c with
    | .bool t => cond t (setBoolK st c true fun s => s.putK o.dst (st.ev a) k) (setBoolK st c false fun s => s.putK o.dst (st.ev b) k)
    | _ => A.bot
  | .call { callee := .value f, args, .. } => match st.ev f with
    | .fn g first cap => forceL (first ++ (args.toList.map st.ev ++ cap)) fun as => call g as st.rows fun v rows => forceRows rows fun rows => Dc.putK st.tmps o.dst v fun ts => k ⟨ts, rows⟩
    | _ => A.bot
  | _ => match evQ E.T E.R st.rows st.ev o with
    | .ok v => st.putK o.dst v k
    | .ck c v => cond c (st.putK o.dst v k) A.bot
    | .no => match evW E.T E.R st.rows st.ev o with
      | .ok c v rows => cond c (forceRows rows fun rows => forceP v fun v => Dc.putK st.tmps o.dst v fun ts => k ⟨ts, rows⟩) A.bot
      | .no => A.bot

def guardOp (ops : List Oper) (o : Oper) (st : St) (k : St → α) : α :=
  match o.guard with
  | none => stepOp A E call o st k
  | some (j, want) => match (ops[j]?).bind (·.dst) with
    | none => A.bot
    | some d => match nthV st.tmps d with
      | .bool b => cond b
          (setK st.tmps d (.bool true) fun ts => cond want (stepOp A E call o ⟨ts, st.rows⟩ k) (St.putK ⟨ts, st.rows⟩ o.dst .undef k))
          (setK st.tmps d (.bool false) fun ts => cond want (St.putK ⟨ts, st.rows⟩ o.dst .undef k) (stepOp A E call o ⟨ts, st.rows⟩ k))
      | .tup _ | .int .. | .str _ => st.putK o.dst .undef k
      | _ => A.bot

def runOps (ops : List Oper) : List Oper → St → (St → α) → α
  | [], st, k => k st
  | o :: rest, st, k => guardOp A E call ops o st fun st => runOps ops rest st k
end

section
variable {α : Type} {A : Ans α} {E : Env α} {call : FuncId → List AV → Rows → (AV → Rows → α) → α}
theorem setBoolK_eq (st : St) (x : Operand) (b : Bool) (k : St → α) : setBoolK st x b k = k (setBool st x b) := by
  cases x <;> simp only [setBoolK, setBool, setK_eq]
theorem St.putK_eq (st : St) (dst : Option Tmp) (v : AV) (k : St → α) : st.putK dst v k = k (st.put dst v) := by
  simp only [St.putK, St.put, Dc.putK_eq]
theorem stepOp_eq (o : Oper) (st : St) (k : St → α) : stepOp A E call o st k = stepOp0 A E call o st k := by
  unfold stepOp stepOp0
  simp only [setBoolK_eq, St.putK_eq, Dc.putK_eq, forceP_eq]
theorem guardOp_eq (ops : List Oper) (o : Oper) (st : St) (k : St → α) : guardOp A E call ops o st k = guardOp0 A E call ops o st k := by
  unfold guardOp guardOp0
  simp only [St.putK_eq, stepOp_eq, setK_eq, nthV_eq]
end

/-! ### That the program does so -/
def Post (R : Nat → RoRow) (Q : Exit → St → Prop) (m0 : Map) (h0 : Rows) (w0 : World) (e : Exit) (a : Act) (w : World) : Prop :=
  ∃ m st, (match e with | .normal | .exit _ | .ret => True | _ => False) ∧ Q e st ∧ Rel R m st a w ∧ Step m0 h0 w0 m st.rows w

def Safe (P : Program) (R : Nat → RoRow) (c : Code) (st : St) (Q : Exit → St → Prop) : Prop :=
  ∀ m a w m0 h0 w0, Rel R m st a w → Step m0 h0 w0 m st.rows w → c.wp P (Post R Q m0 h0 w0) a w

def SafeCall (P : Program) (R : Nat → RoRow) (f : FuncId) (args : List AV) (h : Rows) (Q : AV → Rows → Prop) : Prop :=
  ∀ m w m0 h0 w0 (as : Array Value), DenL m h.length args as.toList → WR R m h w → Step m0 h0 w0 m h w →
    Calls P f as w fun e w' => ∃ c v m' h', e = .returned c ∧ Q v h' ∧ Den m' h'.length v c ∧ WR R m' h' w' ∧ Step m0 h0 w0 m' h' w'

def CallOK {α : Type} (P : Program) (R : Nat → RoRow) (hold : α → Prop) (call : FuncId → List AV → Rows → (AV → Rows → α) → α) : Prop :=
  ∀ f args h k, hold (call f args h k) → SafeCall P R f args h (fun v h' => hold (k v h')) ∧ ∃ fn, P.funcs[f]? = some fn ∧ fn.body.isSome = true ∧ (fn.name == "runtime.NumGoroutine") = false

section
variable {α : Type} {A : Ans α} {E : Env α} {call : FuncId → List AV → Rows → (AV → Rows → α) → α} {hold : α → Prop} {P : Program}

theorem hold_cond (b : Bool) (x y : α) (h : hold (cond b x y)) : (b = true ∧ hold x) ∨ (b = false ∧ hold y) := by
  cases b
  · exact .inr ⟨rfl, h⟩
  · exact .inl ⟨rfl, h⟩

/-- What one operation leads to: the next state, in whatever the program leads to. -/
theorem forcedRows {h : Rows} {c : Rows → α} (hh : hold (forceRows h c)) : hold (c h) := by rw [forceRows_eq] at hh; exact hh

theorem forced {l : List AV} {c : List AV → α} (h : hold (forceL l c)) : hold (c l) := by rw [forceL_eq] at h; exact h

theorem stepOp0_ok (hA : Holds A hold) (hT : TabOK P E.T) (hcall : CallOK P E.R hold call) {o : Oper} {st : St} {k : St → α} (h : hold (stepOp0 A E call o st k)) {m : Map} {a : Act} {w : World} (hr : Rel E.R m st a w)
    {m0 : Map} {h0 : Rows} {w0 : World} (hs : Step m0 h0 w0 m st.rows w) (K : Act → World → Prop) (Q : Exit → Act → World → Prop)
    (hK : ∀ m' st' a' w', hold (k st') → Rel E.R m' st' a' w' → Step m0 h0 w0 m' st'.rows w' → K a' w') : o.wp P a w K Q := by
  have hev := hr.ev
  -- the quiet ones
  have quiet : ∀ v, (evQ E.T E.R st.rows st.ev o).has v → hold (k (st.put o.dst v)) → o.wp P a w K Q := by
    intro v hv hk
    obtain ⟨c, hc, hd⟩ := evQ_ok hT hr.wr st.ev a.eval hev o v hv
    unfold Oper.wp
    rw [hc]
    exact hK m _ _ _ hk (hr.put (Step.refl _ _ _) hr.wr o.dst hd) hs
  have loud : ∀ c v rows, evW E.T E.R st.rows st.ev o = .ok c v rows → c = true → hold (k ⟨putT st.tmps o.dst v, rows⟩) → o.wp P a w K Q := by
    intro c v rows hw hc hk
    have := evW_ok hT hr.wr st.ev a.eval hev o
    rw [hw] at this
    obtain ⟨nx, cv, w', m', hrun, hn, hd, hW, hS⟩ := this hc
    unfold Oper.wp
    rw [hrun]
    cases nx <;> simp only [nextVal] at hn <;> try (cases hn; done)
    · cases hn
      exact hK m' _ _ _ hk (hr.put hS hW o.dst hd) (hs.trans hS)
    · cases hn
      exact hK m' _ _ _ hk (hr.put hS hW o.dst hd) (hs.trans hS)
  have both : hold (match evQ E.T E.R st.rows st.ev o with
    | .ok v => k (st.put o.dst v)
    | .ck c v => cond c (k (st.put o.dst v)) A.bot
    | .no => match evW E.T E.R st.rows st.ev o with
      | .ok c v rows => cond c (forceRows rows fun rows => k ⟨putT st.tmps o.dst v, rows⟩) A.bot
      | .no => A.bot) → o.wp P a w K Q := by
    intro h
    cases hq : evQ E.T E.R st.rows st.ev o with
    | ok v => rw [hq] at h; exact quiet v (by rw [hq]; rfl) h
    | ck c v =>
      rw [hq] at h
      rcases hold_cond c _ _ h with ⟨hc, hk⟩ | ⟨_, hk⟩
      · exact quiet v (by rw [hq]; exact ⟨hc, rfl⟩) hk
      · exact (hA.bot hk).elim
    | no =>
      rw [hq] at h
      cases hw : evW E.T E.R st.rows st.ev o with
      | no => rw [hw] at h; exact (hA.bot h).elim
      | ok c v rows =>
        rw [hw] at h
        rcases hold_cond c _ _ h with ⟨hc, hk⟩ | ⟨_, hk⟩
        · exact loud c v rows hw hc (by rw [forceRows_eq] at hk; exact hk)
        · exact (hA.bot hk).elim
  obtain ⟨dst, op, type, pos, after, guard⟩ := o
  cases op
  case pick c x y =>
    simp only [stepOp0] at h
    have hc := hev c
    split at h
    · rename_i t he
      rw [he] at hc
      simp only [Den] at hc
      have hset : Rel E.R m (setBool st c t) a w ∧ (setBool st c t).rows = st.rows := by
        cases c with
        | tmp d => exact ⟨hr.known (by simpa [St.ev, nthV_eq] using he), rfl⟩
        | _ => exact ⟨hr, rfl⟩
      have fin : ∀ z, hold (k ((setBool st c t).put dst (st.ev z))) → (execOp a.eval ⟨dst, .pick c x y, type, pos, after, guard⟩).run P w = .ok (.value (a.eval z)) w → (⟨dst, .pick c x y, type, pos, after, guard⟩ : Oper).wp P a w K Q := by
        intro z hk hrun
        unfold Oper.wp
        rw [hrun]
        have hS : Step m (setBool st c t).rows w m (setBool st c t).rows w := Step.refl _ _ _
        refine hK m _ _ _ hk (hset.1.put hS hset.1.wr dst ?_) ?_
        · rw [hset.2]; exact hev z
        · show Step m0 h0 w0 m (setBool st c t).rows w
          rw [hset.2]; exact hs
      rcases hold_cond t _ _ h with ⟨rfl, hk⟩ | ⟨rfl, hk⟩
      · exact fin x hk (by simp [execOp, hc, asBool, pure, Sem.run])
      · exact fin y hk (by simp [execOp, hc, asBool, pure, Sem.run])
    · exact (hA.bot h).elim
  case call c =>
    obtain ⟨callee, args, argTypes⟩ := c
    cases callee
    case builtin b => exact both h
    case invoke r mm => exact both h
    case value f =>
      simp only [stepOp0] at h
      split at h
      · rename_i g first cap he
        have hf := hev f
        rw [he] at hf
        simp only [Den] at hf
        obtain ⟨us, vs, hfe, hus, hvs⟩ := hf
        have h := forced h
        obtain ⟨hsafe, fn, hfn, hbody, hname⟩ := hcall g _ _ _ h
        have hrun : (execOp a.eval ⟨dst, .call ⟨.value f, args, argTypes⟩, type, pos, after, guard⟩).run P w = .ok (.enter g (us ++ args.map a.eval ++ vs)) w := by
          simp only [execOp, resolve, Sem.run_bind, Deferred.ofValue, hfe, Sem.run_pure, Result.andThen_ok, invoke, callFunc]
          simp only [program, Sem.run, pure, Result.andThen_ok, hfn, Sem.bind]
          have hb : fn.body.isNone = false := by cases hbb : fn.body <;> simp_all
          simp [hname, hb, Sem.run]
        unfold Oper.wp
        rw [hrun]
        have hargs : DenL m st.rows.length (first ++ (args.toList.map st.ev ++ cap)) (us ++ args.map a.eval ++ vs).toList := by
          have app : ∀ {l1 l2 : List AV} {v1 v2 : List Value}, DenL m st.rows.length l1 v1 → DenL m st.rows.length l2 v2 → DenL m st.rows.length (l1 ++ l2) (v1 ++ v2) := by
            intro l1
            induction l1 with
            | nil => intro l2 v1 v2 h1 h2; simp only [DenL] at h1; subst h1; simpa using h2
            | cons x l1 ih =>
              intro l2 v1 v2 h1 h2
              simp only [DenL] at h1
              obtain ⟨u, us, rfl, hd, hl⟩ := h1
              simp only [List.cons_append, DenL]
              exact ⟨u, _, rfl, hd, ih hl h2⟩
          have hm : DenL m st.rows.length (args.toList.map st.ev) (args.map a.eval).toList := by simpa using DenL.map_op hev args.toList
          have := app hus (app hm hvs)
          simpa [List.append_assoc] using this
        refine (hsafe m w m st.rows w _ hargs hr.wr (Step.refl _ _ _)).mono ?_
        rintro e w' ⟨c, v, m', h', rfl, hk, hd, hW, hS⟩
        exact hK m' _ _ _ (forcedRows hk) (hr.put hS hW dst hd) (hs.trans hS)
      · exact (hA.bot h).elim
  all_goals exact both h

/-- An operation under its guard: it is run, or its slot is emptied. -/
theorem guardOp0_ok (hA : Holds A hold) (hT : TabOK P E.T) (hcall : CallOK P E.R hold call) {ops : Array Oper} {o : Oper} {st : St} {k : St → α} (h : hold (guardOp0 A E call ops.toList o st k)) {m : Map} {a : Act} {w : World} (hr : Rel E.R m st a w)
    {m0 : Map} {h0 : Rows} {w0 : World} (hs : Step m0 h0 w0 m st.rows w) (K : Act → World → Prop) (Q : Exit → Act → World → Prop)
    (hK : ∀ m' st' a' w', hold (k st') → Rel E.R m' st' a' w' → Step m0 h0 w0 m' st'.rows w' → K a' w') :
    (Region.wanted o (yielded ops a.tmps) = true ∧ o.wp P a w K Q) ∨ (Region.wanted o (yielded ops a.tmps) = false ∧ K (a.put o.dst undef) w) := by
  unfold guardOp0 at h
  have skip : ∀ st' : St, Rel E.R m st' a w → st'.rows = st.rows → hold (k (St.put st' o.dst .undef)) → K (a.put o.dst undef) w := by
    intro st' hr' he hk
    refine hK m _ _ _ hk (hr'.put (Step.refl _ _ _) hr'.wr o.dst (by simp [Den, DenL, undef])) ?_
    show Step m0 h0 w0 m st'.rows w
    rw [he]; exact hs
  cases hg : o.guard with
  | none =>
    rw [hg] at h
    exact .inl ⟨by simp [Region.wanted, hg], stepOp0_ok hA hT hcall h hr hs K Q hK⟩
  | some g =>
    obtain ⟨j, want⟩ := g
    rw [hg] at h
    simp only [] at h
    cases hd : (ops.toList[j]?).bind (·.dst) with
    | none => rw [hd] at h; exact (hA.bot h).elim
    | some d =>
      rw [hd] at h
      simp only [] at h
      have hd' : (ops[j]?).bind (·.dst) = some d := by simpa using hd
      have hev := hr.ev (.tmp d)
      simp only [St.ev, Act.eval, nthV_eq] at hev
      have hy : ∀ v : Value, a.tmps.getD d undef = v → d < a.tmps.size → yielded ops a.tmps j = (match v with | .bool b => some b | _ => none) := by
        intro v hv hlt
        unfold yielded
        rw [hd']
        simp only [Option.bind_some]
        rw [Array.getD_eq_getD_getElem?, Array.getElem?_eq_getElem hlt] at hv
        simp only [Option.getD_some] at hv
        rw [Array.getElem?_eq_getElem hlt, hv]
        cases v <;> rfl
      have hylt : ¬ d < a.tmps.size → yielded ops a.tmps j = none := by
        intro hlt
        unfold yielded
        rw [hd']
        simp only [Option.bind_some]
        rw [Array.getElem?_eq_none (Nat.le_of_not_lt hlt)]
      have hno : ∀ v : Value, a.tmps.getD d undef = v → (∀ b, v ≠ .bool b) → Region.wanted o (yielded ops a.tmps) = false := by
        intro v hv hne
        unfold Region.wanted
        rw [hg]
        simp only []
        by_cases hlt : d < a.tmps.size
        · rw [hy v hv hlt]
          cases v <;> first | rfl | exact absurd rfl (hne _)
        · rw [hylt hlt]; rfl
      split at h
      · rename_i b he
        rw [he] at hev
        simp only [Den] at hev
        have hlt : d < a.tmps.size := by
          rcases Nat.lt_or_ge d a.tmps.size with h1 | h1
          · exact h1
          · rw [Array.getD_eq_getD_getElem?, Array.getElem?_eq_none h1] at hev
            simp [undef] at hev
        have hyb := hy _ hev hlt
        simp only [] at hyb
        have hknown := hr.known (by simpa [St.ev, nthV_eq] using he)
        have hw : Region.wanted o (yielded ops a.tmps) = (b == want) := by
          unfold Region.wanted
          rw [hg]
          simp only [hyb]
          cases b <;> cases want <;> rfl
        rw [hw]
        rcases hold_cond b _ _ h with ⟨rfl, hk⟩ | ⟨rfl, hk⟩
        · rcases hold_cond want _ _ hk with ⟨rfl, hk⟩ | ⟨rfl, hk⟩
          · exact .inl ⟨rfl, stepOp0_ok hA hT hcall hk hknown hs K Q hK⟩
          · exact .inr ⟨rfl, skip _ hknown rfl hk⟩
        · rcases hold_cond want _ _ hk with ⟨rfl, hk⟩ | ⟨rfl, hk⟩
          · exact .inr ⟨rfl, skip _ hknown rfl hk⟩
          · exact .inl ⟨rfl, stepOp0_ok hA hT hcall hk hknown hs K Q hK⟩
      · rename_i he
        rw [he] at hev
        simp only [Den] at hev
        obtain ⟨vs, hv, _⟩ := hev
        exact .inr ⟨hno _ hv (by simp), skip st hr rfl h⟩
      · rename_i he
        rw [he] at hev
        simp only [Den] at hev
        exact .inr ⟨hno _ hev (by simp), skip st hr rfl h⟩
      · rename_i he
        rw [he] at hev
        simp only [Den] at hev
        exact .inr ⟨hno _ hev (by simp), skip st hr rfl h⟩
      · exact (hA.bot h).elim

theorem runOps_ok (hA : Holds A hold) (hT : TabOK P E.T) (hcall : CallOK P E.R hold call) (ops : Array Oper) : ∀ (l : List Oper) (st : St) (k : St → α), hold (runOps A E call ops.toList l st k) →
    ∀ {m : Map} {a : Act} {w : World}, Rel E.R m st a w → ∀ {m0 : Map} {h0 : Rows} {w0 : World}, Step m0 h0 w0 m st.rows w →
      ∀ (Q : Exit → Act → World → Prop), (∀ m' st' a' w', hold (k st') → Rel E.R m' st' a' w' → Step m0 h0 w0 m' st'.rows w' → Q .normal a' w') → wpList P ops Q l a w
  | [], st, k, h, m, a, w, hr, m0, h0, w0, hs, Q, hQ => wpList_nil (hQ m st a w h hr hs)
  | o :: l, st, k, h, m, a, w, hr, m0, h0, w0, hs, Q, hQ => by
    simp only [runOps, guardOp_eq] at h
    have := guardOp0_ok hA hT hcall h hr hs (wpList P ops Q l) Q (fun m' st' a' w' hk hr' hs' => runOps_ok hA hT hcall ops l st' k hk hr' hs' Q hQ)
    unfold wpList
    rcases this with ⟨hw, h1⟩ | ⟨hw, h1⟩
    · rw [if_pos hw]; exact .inl h1
    · rw [if_neg (by rw [hw]; simp)]; exact h1

end

/-! ### Code -/
section
variable {α : Type} (A : Ans α) (E : Env α)

def enterT (args : List AV) (n : Nat) : List AV := args ++ List.replicate (n - args.length) .undef

def resV (T : TypeId → Option TI) (R : Nat → RoRow) (st : St) : ResultVar → QR
  | .tmp t => .ok (nthV st.tmps t)
  | .cell x t => aload T R st.rows t (nthV st.tmps x)

def resL (T : TypeId → Option TI) (R : Nat → RoRow) (st : St) : List ResultVar → (List AV → α) → α
  | [], k => k []
  | r :: rs, k => match resV T R st r with
    | .ok v => resL T R st rs fun vs => k (v :: vs)
    | .ck c v => cond c (resL T R st rs fun vs => k (v :: vs)) A.bot
    | .no => A.bot

def tupOf : List AV → AV
  | [v] => v
  | vs => .tup vs

/-- What a function answers. -/
def resK (st : St) (rs : List ResultVar) (k : AV → α) : α := resL A E.T E.R st rs fun vs => k (tupOf vs)

/-- Regions whose order is open: told apart below. -/
abbrev Draw (α : Type) := (FuncId → List AV → Rows → (AV → Rows → α) → α) → Array Oper → St → (St → α) → α

def code (draw : Draw α) : Nat → FuncId → Code → St → (Exit → St → α) → α
  | 0, _, _, _, _ => A.bot
  | n + 1, f, c, st, k =>
    let call : FuncId → List AV → Rows → (AV → Rows → α) → α := fun g args rows k => match E.calls g with
      | some spec => spec args rows k
      | none => match E.F g with
        | none => A.bot
        | some fi => forceL (enterT args fi.ntmps) fun ts => code draw n g fi.body ⟨ts, rows⟩ fun e st => match e with
          | .normal | .ret => resK A E st fi.results fun v => k v st.rows
          | _ => A.bot
    match c with
    | .skip => k .normal st
    | .label _ => k .normal st
    | .seq x y => code draw n f x st fun e st => match e with | .normal => code draw n f y st k | e => k e st
    | .cond c x y => match st.ev c with
      | .bool b => cond b (setBoolK st c true fun st => code draw n f x st k) (setBoolK st c false fun st => code draw n f y st k)
      | _ => A.bot
    | .block id body => match E.loops f id with
      | some spec => spec st k
      | none => code draw n f body st fun e st => match e with
        | .exit id' => bif Nat.beq id' id then k .normal st else k (.exit id') st
        | e => k e st
    | .loop body => code draw n f body st fun e st => match e with | .normal => code draw n f (.loop body) st k | e => k e st
    | .exit id => k (.exit id) st
    | .ret => k .ret st
    | .region _ ops false => runOps A E call ops.toList ops.toList st fun st => k .normal st
    | .region _ ops true => draw call ops st fun st => k .normal st
    | _ => A.bot

end

end
end Go.Dc
