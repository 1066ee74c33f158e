/- Runs that may panic, and that leave frozen memory behind: what an interpreter on abstract states tells of them. -/
import Derived.Test.YtfajmjhijanggaaDcYi
import Derived.Defers
import Derived.OrdersIn
import Derived.TacticsIn
import Derived.LoopNIn
import Derived.RangeFuncLeaves
import Derived.RangeFuncOne
import Derived.RangeFuncRecord
section
set_option linter.unusedSimpArgs false
set_option linter.unusedVariables false
namespace Go.Dc

/-! ### Names of places -/
private def decF : Nat → Nat → Nat × Nat
  | 0, _ => (0, 0)
  | f + 1, n => if n % 2 = 0 then ((decF f (n / 2)).1 + 1, (decF f (n / 2)).2) else (0, n / 2)
private def encF : Nat → Nat → Nat
  | 0, b => 2 * b + 1
  | a + 1, b => 2 * encF a b
private theorem decF_enc : ∀ (a b f : Nat), a < f → decF f (encF a b) = (a, b)
  | 0, b, f + 1, _ => by
    show (if (2 * b + 1) % 2 = 0 then _ else _) = _
    have e : encF 0 b = 2 * b + 1 := rfl
    rw [e, if_neg (by omega)]
    congr 1; omega
  | a + 1, b, f + 1, h => by
    show (if (2 * encF a b) % 2 = 0 then ((decF f (2 * encF a b / 2)).1 + 1, (decF f (2 * encF a b / 2)).2) else _) = _
    rw [if_pos (by omega)]
    have : 2 * encF a b / 2 = encF a b := by omega
    rw [this, decF_enc a b f (by omega)]
private theorem enc_gt : ∀ (a b : Nat), a < encF a b
  | 0, b => by simp only [encF]; omega
  | a + 1, b => by have := enc_gt a b; simp only [encF]; omega
theorem names_ex : ∃ (enc : Nat → Nat → Nat) (dec : Nat → Nat × Nat), ∀ a b, dec (enc a b) = (a, b) :=
  ⟨encF, fun n => decF n n, fun a b => decF_enc a b _ (enc_gt a b)⟩
noncomputable def enc : Nat → Nat → Nat := Classical.choose names_ex
noncomputable def dec : Nat → Nat × Nat := Classical.choose (Classical.choose_spec names_ex)
theorem dec_enc (a b : Nat) : dec (enc a b) = (a, b) := Classical.choose_spec (Classical.choose_spec names_ex) a b

/-- The names from 15 on: one that is nowhere, and one for each place (the size of an element, the block, the place in it, how far it reaches). -/
noncomputable def tkLoc : Nat → Loc
  | 0 => ⟨0, 0, 3, 0, true⟩
  | x + 1 => ⟨(dec (dec x).2).1, (dec (dec (dec x).2).2).1, (dec x).1, (dec (dec (dec x).2).2).2, false⟩
noncomputable def tkName (esz blk off ext : Nat) : Nat := enc esz (enc blk (enc off ext)) + 1
theorem tkLoc_name (esz blk off ext : Nat) : tkLoc (tkName esz blk off ext) = ⟨blk, off, esz, ext, false⟩ := by
  simp [tkLoc, tkName, dec_enc]
/-- A slice known by its name. -/
abbrev tok (x len : Nat) : AV := .sl true (x + 15) 0 len .no

/-- Memory that nobody writes any more. -/
abbrev Fz := Nat → Option (TypeId × Array Value)
def Fz.le (F G : Fz) : Prop := ∀ b x, F b = some x → G b = some x
theorem Fz.le_refl (F : Fz) : F.le F := fun _ _ h => h
theorem Fz.le_trans {F G H : Fz} (a : F.le G) (b : G.le H) : F.le H := fun x y h => b x y (a x y h)
def Fz.empty : Fz := fun _ => none
theorem Fz.empty_le (F : Fz) : Fz.empty.le F := fun _ _ h => nomatch h

/-- From one to a later one: what is new in it is new in memory, or was a live row. -/
structure Fz.To (F0 : Fz) (m0 : Map) (h0 : Rows) (w0 : World) (F : Fz) : Prop where
  le : F0.le F
  new : ∀ b x, F b = some x → F0 b = some x ∨ w0.heap.size ≤ b ∨ ∃ c r, h0.live c = some r ∧ (m0.mu c).vir = false ∧ (m0.mu c).blk = b
theorem Fz.To.refl (F : Fz) (m : Map) (h : Rows) (w : World) : F.To m h w F := ⟨F.le_refl, fun _ _ h => .inl h⟩
theorem Fz.To.trans {F0 F F' : Fz} {m0 m : Map} {h0 h : Rows} {w0 w : World} (a : F0.To m0 h0 w0 F) (s : Step m0 h0 w0 m h w) (b : F.To m h w F') : F0.To m0 h0 w0 F' where
  le := Fz.le_trans a.le b.le
  new := fun k x hk => by
    rcases b.new k x hk with h1 | h1 | ⟨c, r, hc, hv, he⟩
    · exact a.new k x h1
    · exact .inr (.inl (Nat.le_trans s.size h1))
    · rcases s.new c r hc hv with h2 | h2
      · exact .inr (.inl (he ▸ h2))
      · obtain ⟨d, r', hd, hdv, hde⟩ := h2
        exact .inr (.inr ⟨d, r', hd, hdv, hde.trans he⟩)

structure FzOK (F : Fz) (m : Map) (h : Rows) (w : World) : Prop where
  blk : ∀ b ty c, F b = some (ty, c) → ∃ fz, w.heap[b]? = some (.cells c ty fz)
  apart : ∀ b r, h.live b = some r → (m.mu b).vir = false → F (m.mu b).blk = none
  ro : ∀ i, m.ro (i + 15) = tkLoc i

theorem FzOK.step {F : Fz} {m m' : Map} {h h' : Rows} {w w' : World} (hf : FzOK F m h w) (s : Step m h w m' h' w') : FzOK F m' h' w' where
  blk := fun b ty c hb => by
    obtain ⟨fz, hw⟩ := hf.blk b ty c hb
    refine ⟨fz, ?_⟩
    rw [s.block b (Array.getElem?_eq_some_iff.1 hw).1, hw]
    intro c' r hc hv he
    have := hf.apart c' r hc hv
    rw [he, hb] at this; cases this
  apart := fun b r hb hv => by
    rcases s.new b r hb hv with h1 | ⟨c, r', hc, hcv, hce⟩
    · cases hF : F (m'.mu b).blk with
      | none => rfl
      | some x =>
        obtain ⟨ty, c⟩ := x
        obtain ⟨fz, hw⟩ := hf.blk _ ty c hF
        have := (Array.getElem?_eq_some_iff.1 hw).1
        omega
    · rw [← hce]; exact hf.apart c r' hc hcv
  ro := fun i => by rw [s.ro]; exact hf.ro i

/-! ### Runs -/
structure RelX (R : Nat → RoRow) (ds : List Deferred) (m : Map) (st : St) (a : Act) (w : World) : Prop where
  size : a.tmps.size = st.tmps.length
  tmps : ∀ (i : Nat) (x : AV), st.tmps[i]? = some x → ∃ c, a.tmps[i]? = some c ∧ Den m st.rows.length x c
  defers : a.defers = ds
  wr : WR R m st.rows w
theorem RelX.of {R : Nat → RoRow} {m : Map} {st : St} {a : Act} {w : World} (h : Rel R m st a w) : RelX R [] m st a w := ⟨h.size, h.tmps, h.defers, h.wr⟩
theorem RelX.to {R : Nat → RoRow} {m : Map} {st : St} {a : Act} {w : World} (h : RelX R [] m st a w) : Rel R m st a w := ⟨h.size, h.tmps, h.defers, h.wr⟩
theorem Act.eval_defers (a : Act) (ds : List Deferred) (x : Operand) : ({ tmps := a.tmps, defers := ds } : Act).eval x = a.eval x := by cases x <;> rfl
theorem RelX.bare {R : Nat → RoRow} {ds : List Deferred} {m : Map} {st : St} {a : Act} {w : World} (h : RelX R ds m st a w) : Rel R m st { tmps := a.tmps, defers := [] } w := ⟨h.size, h.tmps, rfl, h.wr⟩
theorem RelX.ev {R : Nat → RoRow} {ds : List Deferred} {m : Map} {st : St} {a : Act} {w : World} (h : RelX R ds m st a w) (x : Operand) : Den m st.rows.length (st.ev x) (a.eval x) := by
  have := h.bare.ev x
  rwa [Act.eval_defers] at this
theorem RelX.put {R : Nat → RoRow} {ds : List Deferred} {m m' : Map} {st : St} {a : Act} {w w' : World} (h : RelX R ds m st a w) {rows : Rows} (hs : Step m st.rows w m' rows w') (hW : WR R m' rows w') (dst : Option Tmp) {v : AV} {c : Value}
    (hd : Den m' rows.length v c) : RelX R ds m' ⟨putT st.tmps dst v, rows⟩ (a.put dst c) w' := by
  have := h.bare.put hs hW dst hd
  have ht : (Act.put { tmps := a.tmps, defers := [] } dst c).tmps = (a.put dst c).tmps := by cases dst <;> rfl
  have hdf : (a.put dst c).defers = a.defers := by cases dst <;> rfl
  exact ⟨by rw [← ht]; exact this.size, by rw [← ht]; exact this.tmps, by rw [hdf]; exact h.defers, this.wr⟩
theorem RelX.known {R : Nat → RoRow} {ds : List Deferred} {m : Map} {st : St} {a : Act} {w : World} (h : RelX R ds m st a w) {d : Nat} {b : Bool} (hd : st.tmps.getD d .undef = .bool b) : RelX R ds m ⟨st.tmps.set d (.bool b), st.rows⟩ a w := by
  have := h.bare.known hd
  exact ⟨this.size, this.tmps, h.defers, this.wr⟩

/-! ### The interpreter once more, its branches told by what is answered -/
structure AnsB (α : Type) where
  bot : α
  both : α → α → α
  eqv : AV → AV → α → α
  br : Bool → α → α → α
structure HoldsB {α : Type} (A : AnsB α) (hold : α → Prop) : Prop where
  bot : ¬ hold A.bot
  both : ∀ x y, hold (A.both x y) → hold x ∧ hold y
  eqv : ∀ u v x, hold (A.eqv u v x) → u = v ∧ hold x
  br : ∀ b x y, hold (A.br b x y) → (b = true ∧ hold x) ∨ (b = false ∧ hold y)
noncomputable section
section
variable {α : Type} (A : AnsB α) (E : Env α) (call : FuncId → List AV → Rows → (AV → Rows → α) → α)
def stepOp0B (o : Oper) (st : St) (k : St → α) : α :=
  match o.op with
  | .pick c a b => match st.ev c with
    | .bool t => A.br t (k ((setBool st c true).put o.dst (st.ev a))) (k ((setBool st c false).put o.dst (st.ev b)))
    | _ => A.bot
  | .call { callee := .value f, args, .. } => match st.ev f with
    | .fn g first cap => forceL (first ++ (args.toList.map st.ev ++ cap)) fun as => call g as st.rows fun v rows => forceRows rows fun rows => k ⟨putT st.tmps o.dst v, rows⟩
    | _ => A.bot
  | _ => match evQ E.T E.R st.rows st.ev o with
    | .ok v => k (st.put o.dst v)
    | .ck c v => A.br c (k (st.put o.dst v)) A.bot
    | .no => match evW E.T E.R st.rows st.ev o with
      | .ok c v rows => A.br c (forceRows rows fun rows => k ⟨putT st.tmps o.dst v, rows⟩) A.bot
      | .no => A.bot

def guardOp0B (ops : List Oper) (o : Oper) (st : St) (k : St → α) : α :=
  match o.guard with
  | none => stepOp0B A E call o st k
  | some (j, want) => match (ops[j]?).bind (·.dst) with
    | none => A.bot
    | some d => match st.tmps.getD d .undef with
      | .bool b => A.br b
          (cond want (stepOp0B A E call o ⟨st.tmps.set d (.bool true), st.rows⟩ k) (k (St.put ⟨st.tmps.set d (.bool true), st.rows⟩ o.dst .undef)))
          (cond want (k (St.put ⟨st.tmps.set d (.bool false), st.rows⟩ o.dst .undef)) (stepOp0B A E call o ⟨st.tmps.set d (.bool false), st.rows⟩ k))
      | .tup _ | .int .. | .str _ => k (st.put o.dst .undef)
      | _ => A.bot

def stepOpB (o : Oper) (st : St) (k : St → α) : α :=
  match o.op with
  | .pick c a b => match st.ev c with
    | .bool t => A.br t (setBoolK st c true fun s => s.putK o.dst (st.ev a) k) (setBoolK st c false fun s => s.putK o.dst (st.ev b) k)
    | _ => A.bot
  | .call { callee := .value f, args, .. } => match st.ev f with
    | .fn g first cap => forceL (first ++ (args.toList.map st.ev ++ cap)) fun as => call g as st.rows fun v rows => forceRows rows fun rows => Dc.putK st.tmps o.dst v fun ts => k ⟨ts, rows⟩
    | _ => A.bot
  | _ => match evQ E.T E.R st.rows st.ev o with
    | .ok v => st.putK o.dst v k
    | .ck c v => A.br c (st.putK o.dst v k) A.bot
    | .no => match evW E.T E.R st.rows st.ev o with
      | .ok c v rows => A.br c (forceRows rows fun rows => forceP v fun v => Dc.putK st.tmps o.dst v fun ts => k ⟨ts, rows⟩) A.bot
      | .no => A.bot

def guardOpB (ops : List Oper) (o : Oper) (st : St) (k : St → α) : α :=
  match o.guard with
  | none => stepOpB A E call o st k
  | some (j, want) => match (ops[j]?).bind (·.dst) with
    | none => A.bot
    | some d => match nthV st.tmps d with
      | .bool b => A.br b
          (setK st.tmps d (.bool true) fun ts => cond want (stepOpB A E call o ⟨ts, st.rows⟩ k) (St.putK ⟨ts, st.rows⟩ o.dst .undef k))
          (setK st.tmps d (.bool false) fun ts => cond want (St.putK ⟨ts, st.rows⟩ o.dst .undef k) (stepOpB A E call o ⟨ts, st.rows⟩ k))
      | .tup _ | .int .. | .str _ => st.putK o.dst .undef k
      | _ => A.bot

def runOpsB (ops : List Oper) : List Oper → St → (St → α) → α
  | [], st, k => k st
  | o :: rest, st, k => guardOpB A E call ops o st fun st => runOpsB ops rest st k
end
section
variable {α : Type} {A : AnsB α} {E : Env α} {call : FuncId → List AV → Rows → (AV → Rows → α) → α}
theorem stepOp_eqB (o : Oper) (st : St) (k : St → α) : stepOpB A E call o st k = stepOp0B A E call o st k := by
  unfold stepOpB stepOp0B
  simp only [setBoolK_eq, St.putK_eq, Dc.putK_eq, forceP_eq]
theorem guardOp_eqB (ops : List Oper) (o : Oper) (st : St) (k : St → α) : guardOpB A E call ops o st k = guardOp0B A E call ops o st k := by
  unfold guardOpB guardOp0B
  simp only [St.putK_eq, stepOp_eqB, setK_eq, nthV_eq]
end
section
variable {α : Type} {A : AnsB α} {E : Env α}
def resLB (A : AnsB α) (T : TypeId → Option TI) (R : Nat → RoRow) (st : St) : List ResultVar → (List AV → α) → α
  | [], k => k []
  | r :: rs, k => match resV T R st r with
    | .ok v => resLB A T R st rs fun vs => k (v :: vs)
    | .ck c v => A.br c (resLB A T R st rs fun vs => k (v :: vs)) A.bot
    | .no => A.bot

def resKB (A : AnsB α) (E : Env α) (st : St) (rs : List ResultVar) (k : AV → α) : α := resLB A E.T E.R st rs fun vs => k (tupOf vs)

def codeB (A : AnsB α) (E : Env α) (draw : Draw α) : Nat → FuncId → Code → St → (Exit → St → α) → α
  | 0, _, _, _, _ => A.bot
  | n + 1, f, c, st, k =>
    let call : FuncId → List AV → Rows → (AV → Rows → α) → α := fun g args rows k => match E.calls g with
      | some spec => spec args rows k
      | none => match E.F g with
        | none => A.bot
        | some fi => forceL (enterT args fi.ntmps) fun ts => codeB A E draw n g fi.body ⟨ts, rows⟩ fun e st => match e with
          | .normal | .ret => resKB A E st fi.results fun v => k v st.rows
          | _ => A.bot
    match c with
    | .skip => k .normal st
    | .label _ => k .normal st
    | .seq x y => codeB A E draw n f x st fun e st => match e with | .normal => codeB A E draw n f y st k | e => k e st
    | .cond c x y => match st.ev c with
      | .bool b => A.br b (setBoolK st c true fun st => codeB A E draw n f x st k) (setBoolK st c false fun st => codeB A E draw n f y st k)
      | _ => A.bot
    | .block id body => match E.loops f id with
      | some spec => spec st k
      | none => codeB A E draw n f body st fun e st => match e with
        | .exit id' => bif Nat.beq id' id then k .normal st else k (.exit id') st
        | e => k e st
    | .loop body => codeB A E draw n f body st fun e st => match e with | .normal => codeB A E draw n f (.loop body) st k | e => k e st
    | .exit id => k (.exit id) st
    | .ret => k .ret st
    | .region _ ops false => runOpsB A E call ops.toList ops.toList st fun st => k .normal st
    | .region _ ops true => draw call ops st fun st => k .normal st
    | _ => A.bot

end
section
variable {α : Type} (A : AnsB α) (E : Env α) (call : FuncId → List AV → Rows → (AV → Rows → α) → α) (ops : Array Oper)
def split1B (st : St) (d : Tmp) (k : St → α) : α :=
  match st.tmps.getD d .undef with
  | .bool b => A.br b (k ⟨st.tmps.set d (.bool true), st.rows⟩) (k ⟨st.tmps.set d (.bool false), st.rows⟩)
  | _ => k st

def splitGB (o : Oper) (st : St) (k : St → α) : α :=
  match o.guard with
  | none => k st
  | some (j, _) => match (ops[j]?).bind (·.dst) with
    | none => k st
    | some d => split1B A st d k

def splitPB (o : Oper) (st : St) (k : St → α) : α :=
  match o.op with
  | .pick (.tmp d) _ _ => split1B A st d k
  | _ => k st

def stepWB (o : Oper) (st : St) (k : AV → Rows → α) : α :=
  match o.op with
  | .assign x => k (st.ev x) st.rows
  | .call { callee := .value f, args, .. } => match st.ev f with
    | .fn g first cap => forceL (first ++ (args.toList.map st.ev ++ cap)) fun as => call g as st.rows fun v rows => forceRows rows fun rows => k v rows
    | _ => A.bot
  | _ => match evW E.T E.R st.rows st.ev o with
    | .ok c v rows => A.br c (forceRows rows fun rows => k v rows) A.bot
    | .no => A.bot

def guardWB (o : Oper) (st : St) (k : AV → Rows → α) : α :=
  match o.guard with
  | none => stepWB A E call o st k
  | some (j, want) => match (ops[j]?).bind (·.dst) with
    | none => A.bot
    | some d => match st.tmps.getD d .undef with
      | .bool true => cond want (stepWB A E call o st k) (k .undef st.rows)
      | .bool false => cond want (k .undef st.rows) (stepWB A E call o st k)
      | .tup _ | .int .. | .str _ => k .undef st.rows
      | _ => A.bot

def recheckB (j : Nat) (dst : Option Tmp) (st : St) : List (Nat × AV) → α → α
  | [], k => k
  | (i, v) :: l, k => match ops[i]? with
    | none => A.bot
    | some o => A.br (ahead ops ops.size i j || (memFree o && !(match dst with | some d => hasN (o.looksAt ops) d | none => false))) (recheckB j dst st l k)
      (match qeval E ops st o with
        | .ok u => A.eqv u v (recheckB j dst st l k)
        | .ck c u => A.br c (A.eqv u v (recheckB j dst st l k)) A.bot
        | .no => A.bot)

def tryLB (onQ : Nat → Oper → St → AV → α) (onNone : St → α) : List Nat → St → α
  | [], st => onNone st
  | i :: is, st => match ops[i]? with
    | none => A.bot
    | some o => splitGB A ops o st fun st => splitPB A o st fun st => match qeval E ops st o with
      | .ok v => onQ i o st v
      | .ck c v => A.br c (onQ i o st v) A.bot
      | .no => tryLB onQ onNone is st

def wAllB (f : Nat → α) : List Nat → α
  | [] => A.bot
  | [i] => f i
  | i :: is => A.both (f i) (wAllB f is)

def drawGoB (k : St → α) : Nat → List Nat → List (Nat × AV) → St → α
  | 0, _, _, _ => A.bot
  | n + 1, La, done, st => match readyL ops La with
    | [] => k st
    | i :: is => tryLB A E ops
        (fun i o st v => putK st.tmps o.dst v fun ts => drawGoB k n (i :: La) ((i, v) :: done) ⟨ts, st.rows⟩)
        (fun st => wAllB A (fun i => match ops[i]? with
          | none => A.bot
          | some o => guardWB A E call ops o st fun v rows => putK st.tmps o.dst v fun ts => recheckB A E ops i o.dst ⟨ts, rows⟩ done (drawGoB k n (i :: La) done ⟨ts, rows⟩)) (i :: is))
        (i :: is) st

end
def drawAllB {α : Type} (A : AnsB α) (E : Env α) : Draw α := fun call ops st k => bif neat ops then drawGoB A E call ops k (ops.size + 1) [] [] st else A.bot

end
section
variable {α : Type} {A : AnsB α} {E : Env α} {call : FuncId → List AV → Rows → (AV → Rows → α) → α} {ops : Array Oper} {hold : α → Prop}
theorem split1_okB (hA : HoldsB A hold) {st : St} {d : Tmp} {k : St → α} (h : hold (split1B A st d k)) : hold (k st) := by
  unfold split1B at h
  split at h
  · rename_i b hb
    rcases hA.br b _ _ h with ⟨rfl, hk⟩ | ⟨rfl, hk⟩
    · rwa [set_same hb] at hk
    · rwa [set_same hb] at hk
  · exact h

theorem splitG_okB (hA : HoldsB A hold) {o : Oper} {st : St} {k : St → α} (h : hold (splitGB A ops o st k)) : hold (k st) := by
  unfold splitGB at h
  split at h
  · exact h
  · split at h
    · exact h
    · exact split1_okB hA h

theorem splitP_okB (hA : HoldsB A hold) {o : Oper} {st : St} {k : St → α} (h : hold (splitPB A o st k)) : hold (k st) := by
  unfold splitPB at h
  split at h
  · exact split1_okB hA h
  · exact h

theorem tryL_okB (hA : HoldsB A hold) {onQ : Nat → Oper → St → AV → α} {onNone : St → α} : ∀ {l : List Nat} {st : St}, hold (tryLB A E ops onQ onNone l st) →
    (∃ i ∈ l, ∃ o v, ops[i]? = some o ∧ (qeval E ops st o).has v ∧ hold (onQ i o st v)) ∨ hold (onNone st)
  | [], st, h => .inr h
  | i :: is, st, h => by
    unfold tryLB at h
    split at h
    · exact (hA.bot h).elim
    · rename_i o ho
      have h := splitP_okB hA (splitG_okB hA h)
      split at h
      · rename_i v hv
        exact .inl ⟨i, by simp, o, v, ho, by rw [hv]; rfl, h⟩
      · rename_i c v hv
        rcases hA.br c _ _ h with ⟨hc, hk⟩ | ⟨_, hk⟩
        · exact .inl ⟨i, by simp, o, v, ho, by rw [hv]; exact ⟨hc, rfl⟩, hk⟩
        · exact (hA.bot hk).elim
      · rcases tryL_okB hA h with ⟨j, hj, r⟩ | hn
        · exact .inl ⟨j, by simp [hj], r⟩
        · exact .inr hn

theorem wAll_okB (hA : HoldsB A hold) {f : Nat → α} : ∀ {l : List Nat}, hold (wAllB A f l) → ∀ i ∈ l, hold (f i)
  | [], h, _, _ => (hA.bot h).elim
  | [j], h, i, hi => by
    simp only [List.mem_singleton] at hi
    subst hi; exact h
  | j :: j2 :: js, h, i, hi => by
    unfold wAllB at h
    obtain ⟨h1, h2⟩ := hA.both _ _ h
    rcases List.mem_cons.1 hi with rfl | hi
    · exact h1
    · exact wAll_okB hA h2 i hi

theorem recheck_okB (hA : HoldsB A hold) {j : Nat} {dst : Option Tmp} {st : St} {k : α} : ∀ {l : List (Nat × AV)}, hold (recheckB A E ops j dst st l k) →
    hold k ∧ ∀ i v, (i, v) ∈ l → ∃ o, ops[i]? = some o ∧ (ahead ops ops.size i j = true ∨ (memFree o = true ∧ ∀ d, dst = some d → d ∉ o.looksAt ops) ∨ (qeval E ops st o).has v)
  | [], h => ⟨h, fun i v hm => by simp at hm⟩
  | (i, v) :: l, h => by
    unfold recheckB at h
    split at h
    · exact (hA.bot h).elim
    · rename_i o ho
      have put : ∀ {X : Prop}, hold (recheckB A E ops j dst st l k) → (ahead ops ops.size i j = true ∨ (memFree o = true ∧ ∀ d, dst = some d → d ∉ o.looksAt ops) ∨ (qeval E ops st o).has v) →
          hold k ∧ ∀ i' v', (i', v') ∈ (i, v) :: l → ∃ o, ops[i']? = some o ∧ (ahead ops ops.size i' j = true ∨ (memFree o = true ∧ ∀ d, dst = some d → d ∉ o.looksAt ops) ∨ (qeval E ops st o).has v') := by
        intro X h1 h2
        have ih := recheck_okB hA h1
        refine ⟨ih.1, fun i' v' hm => ?_⟩
        rcases List.mem_cons.1 hm with e | hm
        · cases e; exact ⟨o, ho, h2⟩
        · exact ih.2 i' v' hm
      rcases hA.br _ _ _ h with ⟨hc, hk⟩ | ⟨_, hk⟩
      · refine put (X := True) hk ?_
        simp only [Bool.or_eq_true, Bool.and_eq_true, Bool.not_eq_true'] at hc
        rcases hc with hc | ⟨hc1, hc2⟩
        · exact .inl hc
        · refine .inr (.inl ⟨hc1, ?_⟩)
          rintro d rfl hd
          simp only [] at hc2
          rw [hasN_iff.2 hd] at hc2
          exact absurd hc2 (by simp)
      · split at hk
        · rename_i u hu
          obtain ⟨e, hk⟩ := hA.eqv _ _ _ hk
          exact put (X := True) hk (.inr (.inr (by rw [hu]; exact e)))
        · rename_i c u hu
          rcases hA.br c _ _ hk with ⟨hc, hk⟩ | ⟨_, hk⟩
          · obtain ⟨e, hk⟩ := hA.eqv _ _ _ hk
            exact put (X := True) hk (.inr (.inr (by rw [hu]; exact ⟨hc, e⟩)))
          · exact (hA.bot hk).elim
        · exact (hA.bot hk).elim

theorem stepW_congrB {o : Oper} {x y : List AV} (h : Agree ops o x y) (rows : Rows) (k : AV → Rows → α) : stepWB A E call o ⟨x, rows⟩ k = stepWB A E call o ⟨y, rows⟩ k := by
  have hev := h.ev rows rows
  have main : evW E.T E.R rows (⟨x, rows⟩ : St).ev o = evW E.T E.R rows (⟨y, rows⟩ : St).ev o := evW_congr o hev
  obtain ⟨dst, op, type, pos, after, guard⟩ := o
  cases op
  case assign z =>
    simp only [stepWB]
    rw [hev z (by simp [Op.operands])]
  case call c =>
    obtain ⟨callee, args, ats⟩ := c
    cases callee
    case value f =>
      simp only [stepWB]
      have ha : args.toList.map (⟨x, rows⟩ : St).ev = args.toList.map (⟨y, rows⟩ : St).ev := List.map_congr_left fun z hz => hev z (by simp [Op.operands, Call.operands]; exact .inr (by simpa using hz))
      rw [hev f (by simp [Op.operands, Call.operands]), ha]
    all_goals
      simp only [stepWB]
      rw [main]
  all_goals
    simp only [stepWB]
    rw [main]

theorem guardW_congrB {o : Oper} {x y : List AV} (h : Agree ops o x y) (rows : Rows) (k : AV → Rows → α) : guardWB A E call ops o ⟨x, rows⟩ k = guardWB A E call ops o ⟨y, rows⟩ k := by
  unfold guardWB
  cases hg : o.guard with
  | none => exact stepW_congrB h rows k
  | some g =>
    obtain ⟨j, want⟩ := g
    simp only []
    cases hd : (ops[j]?).bind (·.dst) with
    | none => rfl
    | some d =>
      simp only []
      rw [h.guard hg hd, stepW_congrB h rows k]

theorem resL_okB {α : Type} {A : AnsB α} {hold : α → Prop} (hA : HoldsB A hold) {T : TypeId → Option TI} {R : Nat → RoRow} {st : St} : ∀ {rs : List ResultVar} {k : List AV → α}, hold (resLB A T R st rs k) → ∃ vs, ResOK T R st rs vs ∧ hold (k vs)
  | [], k, h => ⟨[], rfl, h⟩
  | r :: rs, k, h => by
    unfold resLB at h
    split at h
    · rename_i v hv
      obtain ⟨vs, h1, h2⟩ := resL_okB hA h
      exact ⟨v :: vs, ⟨v, vs, rfl, by rw [hv]; rfl, h1⟩, h2⟩
    · rename_i c v hv
      rcases hA.br c _ _ h with ⟨hc, hk⟩ | ⟨_, hk⟩
      · obtain ⟨vs, h1, h2⟩ := resL_okB hA hk
        exact ⟨v :: vs, ⟨v, vs, rfl, by rw [hv]; exact ⟨hc, rfl⟩, h1⟩, h2⟩
      · exact (hA.bot hk).elim
    · exact (hA.bot h).elim

end
/-- A call that answers or panics: by Q, or by HP. -/
def SafeCallX (P : Program) (R : Nat → RoRow) (f : FuncId) (args : List AV) (h : Rows) (F : Fz) (Q HP : AV → Rows → Fz → Prop) : Prop :=
  ∀ m w m0 h0 w0 (F0 : Fz) (as : Array Value), DenL m h.length args as.toList → WR R m h w → FzOK F m h w → Step m0 h0 w0 m h w → F0.To m0 h0 w0 F →
    Calls P f as w fun e w' => ∃ m' h' F', WR R m' h' w' ∧ FzOK F' m' h' w' ∧ F0.To m0 h0 w0 F' ∧ Step m0 h0 w0 m' h' w' ∧
      ((∃ c v, e = .returned c ∧ Q v h' F' ∧ Den m' h'.length v c) ∨ ∃ c v, e = .panicked [{ v := c, recovered := false }] ∧ HP v h' F' ∧ Den m' h'.length v c)
theorem SafeCall.toX {P : Program} {R : Nat → RoRow} {f : FuncId} {args : List AV} {h : Rows} {F : Fz} {Q : AV → Rows → Prop} {Q' HP : AV → Rows → Fz → Prop} (hs : SafeCall P R f args h Q) (hq : ∀ v h, Q v h → Q' v h F) : SafeCallX P R f args h F Q' HP := by
  intro m w m0 h0 w0 F0 as h1 h2 h3 h4 h5
  refine (hs m w m h w as h1 h2 (Step.refl _ _ _)).mono ?_
  rintro e w' ⟨c, v, m', h', rfl, hqq, hd, hW, hS⟩
  exact ⟨m', h', F, hW, h3.step hS, h5, h4.trans hS, .inl ⟨c, v, rfl, hq _ _ hqq, hd⟩⟩
theorem SafeCallX.mono {P : Program} {R : Nat → RoRow} {f : FuncId} {args : List AV} {h : Rows} {F : Fz} {Q HP Q' HP' : AV → Rows → Fz → Prop} (hs : SafeCallX P R f args h F Q HP) (h1 : ∀ v h F', F.le F' → Q v h F' → Q' v h F') (h2 : ∀ v h F', F.le F' → HP v h F' → HP' v h F') : SafeCallX P R f args h F Q' HP' := by
  intro m w m0 h0 w0 F0 as a1 a2 a3 a4 a5
  refine (hs m w m h w F as a1 a2 a3 (Step.refl _ _ _) (.refl _ _ _ _)).mono ?_
  rintro e w' ⟨m', h', F', hW, hF, hl, hS, ⟨c, v, rfl, hq, hd⟩ | ⟨c, v, rfl, hq, hd⟩⟩
  · exact ⟨m', h', F', hW, hF, a5.trans a4 hl, a4.trans hS, .inl ⟨c, v, rfl, h1 _ _ _ hl.le hq, hd⟩⟩
  · exact ⟨m', h', F', hW, hF, a5.trans a4 hl, a4.trans hS, .inr ⟨c, v, rfl, h2 _ _ _ hl.le hq, hd⟩⟩

def CallOKX {α : Type} (P : Program) (R : Nat → RoRow) (hold : Fz → α → Prop) (HP : AV → Rows → Fz → Prop) (call : FuncId → List AV → Rows → (AV → Rows → α) → α) : Prop :=
  ∀ f args h k F, hold F (call f args h k) → SafeCallX P R f args h F (fun v h' F' => hold F' (k v h')) HP ∧ ∃ fn, P.funcs[f]? = some fn ∧ fn.body.isSome = true ∧ (fn.name == "runtime.NumGoroutine") = false
/-- Where a panic leads. -/
def PanicToX (R : Nat → RoRow) (ds : List Deferred) (HP : AV → Rows → Fz → Prop) (m0 : Map) (h0 : Rows) (w0 : World) (F0 : Fz) (Q : Exit → Act → World → Prop) : Prop :=
  ∀ (a : Act) c v m' h' w' F, a.defers = ds → HP v h' F → Den m' h'.length v c → WR R m' h' w' → FzOK F m' h' w' → Step m0 h0 w0 m' h' w' → F0.To m0 h0 w0 F → Q (.panic [{ v := c, recovered := false }]) a w'
def Post1X (R : Nat → RoRow) (ds : List Deferred) (Q : Exit → St → Fz → Prop) (m0 : Map) (h0 : Rows) (w0 : World) (F0 : Fz) (e : Exit) (a : Act) (w : World) : Prop :=
  ∃ m st F, (match e with | .normal | .exit _ | .ret => True | _ => False) ∧ Q e st F ∧ RelX R ds m st a w ∧ FzOK F m st.rows w ∧ Step m0 h0 w0 m st.rows w ∧ F0.To m0 h0 w0 F
def PostX (R : Nat → RoRow) (ds : List Deferred) (Q : Exit → St → Fz → Prop) (HP : AV → Rows → Fz → Prop) (m0 : Map) (h0 : Rows) (w0 : World) (F0 : Fz) (e : Exit) (a : Act) (w : World) : Prop :=
  match e with
  | .panic ch => ∃ m h v c F, ch = [{ v := c, recovered := false }] ∧ HP v h F ∧ Den m h.length v c ∧ WR R m h w ∧ FzOK F m h w ∧ Step m0 h0 w0 m h w ∧ F0.To m0 h0 w0 F ∧ a.defers = ds
  | e => Post1X R ds Q m0 h0 w0 F0 e a w
theorem postX_to (R : Nat → RoRow) (ds : List Deferred) (Q : Exit → St → Fz → Prop) (HP : AV → Rows → Fz → Prop) (m0 : Map) (h0 : Rows) (w0 : World) (F0 : Fz) : PanicToX R ds HP m0 h0 w0 F0 (PostX R ds Q HP m0 h0 w0 F0) :=
  fun a c v m' h' w' F hd h1 h2 h3 h4 h5 h6 => ⟨m', h', v, c, F, rfl, h1, h2, h3, h4, h5, h6, hd⟩
theorem PostX.mono {R : Nat → RoRow} {ds : List Deferred} {Q Q' : Exit → St → Fz → Prop} {HP HP' : AV → Rows → Fz → Prop} {m0 : Map} {h0 : Rows} {w0 : World} {F0 : Fz} (hq : ∀ e st F, F0.le F → Q e st F → Q' e st F) (hp : ∀ v h F, F0.le F → HP v h F → HP' v h F) {e : Exit} {a : Act} {w : World} (h : PostX R ds Q HP m0 h0 w0 F0 e a w) : PostX R ds Q' HP' m0 h0 w0 F0 e a w := by
  cases e with
  | panic ch => obtain ⟨m, h, v, c, F, h1, h2, h3, h4, h5, h6, h7, h8⟩ := h; exact ⟨m, h, v, c, F, h1, hp _ _ _ h7.le h2, h3, h4, h5, h6, h7, h8⟩
  | goto l => obtain ⟨_, _, _, h, _⟩ := h; exact h.elim
  | outgrown => obtain ⟨_, _, _, h, _⟩ := h; exact h.elim
  | normal => obtain ⟨m, st, F, h1, h2, h3, h4, h5, h6⟩ := h; exact ⟨m, st, F, h1, hq _ _ _ h6.le h2, h3, h4, h5, h6⟩
  | exit id => obtain ⟨m, st, F, h1, h2, h3, h4, h5, h6⟩ := h; exact ⟨m, st, F, h1, hq _ _ _ h6.le h2, h3, h4, h5, h6⟩
  | ret => obtain ⟨m, st, F, h1, h2, h3, h4, h5, h6⟩ := h; exact ⟨m, st, F, h1, hq _ _ _ h6.le h2, h3, h4, h5, h6⟩
/-- A piece of codeB, with such deferred calls standing by. -/
def SafeX (P : Program) (R : Nat → RoRow) (ds : List Deferred) (c : Code) (st : St) (F : Fz) (Q : Exit → St → Fz → Prop) (HP : AV → Rows → Fz → Prop) : Prop :=
  ∀ m a w m0 h0 w0 F0, RelX R ds m st a w → FzOK F m st.rows w → Step m0 h0 w0 m st.rows w → F0.To m0 h0 w0 F → c.wp P (PostX R ds Q HP m0 h0 w0 F0) a w
theorem SafeX.mono {P : Program} {R : Nat → RoRow} {ds : List Deferred} {c : Code} {st : St} {F : Fz} {Q Q' : Exit → St → Fz → Prop} {HP HP' : AV → Rows → Fz → Prop} (h : SafeX P R ds c st F Q HP) (hq : ∀ e st F', Q e st F' → Q' e st F') (hp : ∀ v h F', HP v h F' → HP' v h F') : SafeX P R ds c st F Q' HP' :=
  fun m a w m0 h0 w0 F0 hr hf hs hl => wp_mono (h m a w m0 h0 w0 F0 hr hf hs hl) fun _ _ _ h => h.mono (fun e st F _ => hq e st F) (fun v h F _ => hp v h F)
theorem Safe.toX {P : Program} {R : Nat → RoRow} {c : Code} {st : St} {F : Fz} {Q : Exit → St → Prop} {Q' : Exit → St → Fz → Prop} {HP : AV → Rows → Fz → Prop} (h : Safe P R c st Q) (hq : ∀ e st, Q e st → Q' e st F) : SafeX P R [] c st F Q' HP :=
  fun m a w m0 h0 w0 F0 hr hf hs hl => wp_mono (h m a w m st.rows w hr.to (Step.refl _ _ _)) fun e _ _ hp => by
    obtain ⟨m', st', hok, hqq, hr', hS⟩ := hp
    have : Post1X R [] Q' m0 h0 w0 F0 e _ _ := ⟨m', st', F, hok, hq _ _ hqq, .of hr', hf.step hS, hs.trans hS, hl⟩
    cases e with
    | panic ch => exact hok.elim
    | _ => exact this
section
variable {ds : List Deferred} {α : Type} {A : AnsB α} {E : Env α} {call : FuncId → List AV → Rows → (AV → Rows → α) → α} {hold : Fz → α → Prop} {P : Program} {HP : AV → Rows → Fz → Prop}
theorem stepOp0_okX (hA : ∀ F, HoldsB A (hold F)) (hT : TabOK P E.T) (hcall : CallOKX P E.R hold HP call) {o : Oper} {st : St} {k : St → α} {F : Fz} (h : hold F (stepOp0B A E call o st k)) {m : Map} {a : Act} {w : World} (hr : RelX E.R ds m st a w)
    (hf : FzOK F m st.rows w) {m0 : Map} {h0 : Rows} {w0 : World} {F0 : Fz} (hs : Step m0 h0 w0 m st.rows w) (hl : F0.To m0 h0 w0 F) (K : Act → World → Prop) (Q : Exit → Act → World → Prop) (hP : PanicToX E.R ds HP m0 h0 w0 F0 Q)
    (hK : ∀ F' m' st' a' w', hold F' (k st') → RelX E.R ds m' st' a' w' → FzOK F' m' st'.rows w' → Step m0 h0 w0 m' st'.rows w' → F0.To m0 h0 w0 F' → K a' w') : o.wp P a w K Q := by
  have hev := hr.ev
  -- the quiet ones
  have quiet : ∀ v, (evQ E.T E.R st.rows st.ev o).has v → hold F (k (st.put o.dst v)) → o.wp P a w K Q := by
    intro v hv hk
    obtain ⟨c, hc, hd⟩ := evQ_ok hT hr.wr st.ev a.eval hev o v hv
    unfold Oper.wp
    rw [hc]
    exact hK F m _ _ _ hk (hr.put (Step.refl _ _ _) hr.wr o.dst hd) hf hs hl
  have loud : ∀ c v rows, evW E.T E.R st.rows st.ev o = .ok c v rows → c = true → hold F (k ⟨putT st.tmps o.dst v, rows⟩) → o.wp P a w K Q := by
    intro c v rows hw hc hk
    have := evW_ok hT hr.wr st.ev a.eval hev o
    rw [hw] at this
    obtain ⟨nx, cv, w', m', hrun, hn, hd, hW, hS⟩ := this hc
    unfold Oper.wp
    rw [hrun]
    cases nx <;> simp only [nextVal] at hn <;> try (cases hn; done)
    · cases hn
      exact hK F m' _ _ _ hk (hr.put hS hW o.dst hd) (hf.step hS) (hs.trans hS) hl
    · cases hn
      exact hK F m' _ _ _ hk (hr.put hS hW o.dst hd) (hf.step hS) (hs.trans hS) hl
  have both : hold F (match evQ E.T E.R st.rows st.ev o with
    | .ok v => k (st.put o.dst v)
    | .ck c v => A.br c (k (st.put o.dst v)) A.bot
    | .no => match evW E.T E.R st.rows st.ev o with
      | .ok c v rows => A.br c (forceRows rows fun rows => k ⟨putT st.tmps o.dst v, rows⟩) A.bot
      | .no => A.bot) → o.wp P a w K Q := by
    intro h
    cases hq : evQ E.T E.R st.rows st.ev o with
    | ok v => rw [hq] at h; exact quiet v (by rw [hq]; rfl) h
    | ck c v =>
      rw [hq] at h
      rcases (hA _).br c _ _ h with ⟨hc, hk⟩ | ⟨_, hk⟩
      · exact quiet v (by rw [hq]; exact ⟨hc, rfl⟩) hk
      · exact ((hA _).bot hk).elim
    | no =>
      rw [hq] at h
      cases hw : evW E.T E.R st.rows st.ev o with
      | no => rw [hw] at h; exact ((hA _).bot h).elim
      | ok c v rows =>
        rw [hw] at h
        rcases (hA _).br c _ _ h with ⟨hc, hk⟩ | ⟨_, hk⟩
        · exact loud c v rows hw hc (by rw [forceRows_eq] at hk; exact hk)
        · exact ((hA _).bot hk).elim
  obtain ⟨dst, op, type, pos, after, guard⟩ := o
  cases op
  case pick c x y =>
    simp only [stepOp0B] at h
    have hc := hev c
    split at h
    · rename_i t he
      rw [he] at hc
      simp only [Den] at hc
      have hset : RelX E.R ds m (setBool st c t) a w ∧ (setBool st c t).rows = st.rows := by
        cases c with
        | tmp d => exact ⟨hr.known (by simpa [St.ev, nthV_eq] using he), rfl⟩
        | _ => exact ⟨hr, rfl⟩
      have fin : ∀ z, hold F (k ((setBool st c t).put dst (st.ev z))) → (execOp a.eval ⟨dst, .pick c x y, type, pos, after, guard⟩).run P w = .ok (.value (a.eval z)) w → (⟨dst, .pick c x y, type, pos, after, guard⟩ : Oper).wp P a w K Q := by
        intro z hk hrun
        unfold Oper.wp
        rw [hrun]
        have hS : Step m (setBool st c t).rows w m (setBool st c t).rows w := Step.refl _ _ _
        refine hK F m _ _ _ hk (hset.1.put hS hset.1.wr dst ?_) (by show FzOK F m (setBool st c t).rows w; rw [hset.2]; exact hf) ?_ hl
        · rw [hset.2]; exact hev z
        · show Step m0 h0 w0 m (setBool st c t).rows w
          rw [hset.2]; exact hs
      rcases (hA _).br t _ _ h with ⟨rfl, hk⟩ | ⟨rfl, hk⟩
      · exact fin x hk (by simp [execOp, hc, asBool, pure, Sem.run])
      · exact fin y hk (by simp [execOp, hc, asBool, pure, Sem.run])
    · exact ((hA _).bot h).elim
  case call c =>
    obtain ⟨callee, args, argTypes⟩ := c
    cases callee
    case builtin b => exact both h
    case invoke r mm => exact both h
    case value f =>
      simp only [stepOp0B] at h
      split at h
      · rename_i g first cap he
        have hf := hev f
        rw [he] at hf
        simp only [Den] at hf
        obtain ⟨us, vs, hfe, hus, hvs⟩ := hf
        have h := forced h
        obtain ⟨hsafe, fn, hfn, hbody, hname⟩ := hcall g _ _ _ F h
        have hrun : (execOp a.eval ⟨dst, .call ⟨.value f, args, argTypes⟩, type, pos, after, guard⟩).run P w = .ok (.enter g (us ++ args.map a.eval ++ vs)) w := by
          simp only [execOp, resolve, Sem.run_bind, Deferred.ofValue, hfe, Sem.run_pure, Result.andThen_ok, invoke, callFunc]
          simp only [program, Sem.run, pure, Result.andThen_ok, hfn, Sem.bind]
          have hb : fn.body.isNone = false := by cases hbb : fn.body <;> simp_all
          simp [hname, hb, Sem.run]
        unfold Oper.wp
        rw [hrun]
        have hargs : DenL m st.rows.length (first ++ (args.toList.map st.ev ++ cap)) (us ++ args.map a.eval ++ vs).toList := by
          have app : ∀ {l1 l2 : List AV} {v1 v2 : List Value}, DenL m st.rows.length l1 v1 → DenL m st.rows.length l2 v2 → DenL m st.rows.length (l1 ++ l2) (v1 ++ v2) := by
            intro l1
            induction l1 with
            | nil => intro l2 v1 v2 h1 h2; simp only [DenL] at h1; subst h1; simpa using h2
            | cons x l1 ih =>
              intro l2 v1 v2 h1 h2
              simp only [DenL] at h1
              obtain ⟨u, us, rfl, hd, hl⟩ := h1
              simp only [List.cons_append, DenL]
              exact ⟨u, _, rfl, hd, ih hl h2⟩
          have hm : DenL m st.rows.length (args.toList.map st.ev) (args.map a.eval).toList := by simpa using DenL.map_op hev args.toList
          have := app hus (app hm hvs)
          simpa [List.append_assoc] using this
        refine (hsafe m w m st.rows w F _ hargs hr.wr hf (Step.refl _ _ _) (.refl _ _ _ _)).mono ?_
        rintro e w' ⟨m', h', F', hW, hf', hle, hS, ⟨c, v, rfl, hk, hd⟩ | ⟨c, v, rfl, hk, hd⟩⟩
        · exact hK F' m' _ _ _ (forcedRows hk) (hr.put hS hW dst hd) hf' (hs.trans hS) (hl.trans hs hle)
        · exact hP a c v m' h' w' F' hr.defers hk hd hW hf' (hs.trans hS) (hl.trans hs hle)
      · exact ((hA _).bot h).elim
  all_goals exact both h

theorem guardOp0_okX (hA : ∀ F, HoldsB A (hold F)) (hT : TabOK P E.T) (hcall : CallOKX P E.R hold HP call) {ops : Array Oper} {o : Oper} {st : St} {k : St → α} {F : Fz} (h : hold F (guardOp0B A E call ops.toList o st k)) {m : Map} {a : Act} {w : World} (hr : RelX E.R ds m st a w)
    (hf : FzOK F m st.rows w) {m0 : Map} {h0 : Rows} {w0 : World} {F0 : Fz} (hs : Step m0 h0 w0 m st.rows w) (hl : F0.To m0 h0 w0 F) (K : Act → World → Prop) (Q : Exit → Act → World → Prop) (hP : PanicToX E.R ds HP m0 h0 w0 F0 Q)
    (hK : ∀ F' m' st' a' w', hold F' (k st') → RelX E.R ds m' st' a' w' → FzOK F' m' st'.rows w' → Step m0 h0 w0 m' st'.rows w' → F0.To m0 h0 w0 F' → K a' w') :
    (Region.wanted o (yielded ops a.tmps) = true ∧ o.wp P a w K Q) ∨ (Region.wanted o (yielded ops a.tmps) = false ∧ K (a.put o.dst undef) w) := by
  unfold guardOp0B at h
  have skip : ∀ st' : St, RelX E.R ds m st' a w → st'.rows = st.rows → hold F (k (St.put st' o.dst .undef)) → K (a.put o.dst undef) w := by
    intro st' hr' he hk
    refine hK F m _ _ _ hk (hr'.put (Step.refl _ _ _) hr'.wr o.dst (by simp [Den, DenL, undef])) (by show FzOK F m st'.rows w; rw [he]; exact hf) ?_ hl
    show Step m0 h0 w0 m st'.rows w
    rw [he]; exact hs
  cases hg : o.guard with
  | none =>
    rw [hg] at h
    exact .inl ⟨by simp [Region.wanted, hg], stepOp0_okX hA hT hcall h hr hf hs hl K Q hP hK⟩
  | some g =>
    obtain ⟨j, want⟩ := g
    rw [hg] at h
    simp only [] at h
    cases hd : (ops.toList[j]?).bind (·.dst) with
    | none => rw [hd] at h; exact ((hA _).bot h).elim
    | some d =>
      rw [hd] at h
      simp only [] at h
      have hd' : (ops[j]?).bind (·.dst) = some d := by simpa using hd
      have hev := hr.ev (.tmp d)
      simp only [St.ev, Act.eval, nthV_eq] at hev
      have hy : ∀ v : Value, a.tmps.getD d undef = v → d < a.tmps.size → yielded ops a.tmps j = (match v with | .bool b => some b | _ => none) := by
        intro v hv hlt
        unfold yielded
        rw [hd']
        simp only [Option.bind_some]
        rw [Array.getD_eq_getD_getElem?, Array.getElem?_eq_getElem hlt] at hv
        simp only [Option.getD_some] at hv
        rw [Array.getElem?_eq_getElem hlt, hv]
        cases v <;> rfl
      have hylt : ¬ d < a.tmps.size → yielded ops a.tmps j = none := by
        intro hlt
        unfold yielded
        rw [hd']
        simp only [Option.bind_some]
        rw [Array.getElem?_eq_none (Nat.le_of_not_lt hlt)]
      have hno : ∀ v : Value, a.tmps.getD d undef = v → (∀ b, v ≠ .bool b) → Region.wanted o (yielded ops a.tmps) = false := by
        intro v hv hne
        unfold Region.wanted
        rw [hg]
        simp only []
        by_cases hlt : d < a.tmps.size
        · rw [hy v hv hlt]
          cases v <;> first | rfl | exact absurd rfl (hne _)
        · rw [hylt hlt]; rfl
      split at h
      · rename_i b he
        rw [he] at hev
        simp only [Den] at hev
        have hlt : d < a.tmps.size := by
          rcases Nat.lt_or_ge d a.tmps.size with h1 | h1
          · exact h1
          · rw [Array.getD_eq_getD_getElem?, Array.getElem?_eq_none h1] at hev
            simp [undef] at hev
        have hyb := hy _ hev hlt
        simp only [] at hyb
        have hknown := hr.known (by simpa [St.ev, nthV_eq] using he)
        have hw : Region.wanted o (yielded ops a.tmps) = (b == want) := by
          unfold Region.wanted
          rw [hg]
          simp only [hyb]
          cases b <;> cases want <;> rfl
        rw [hw]
        rcases (hA _).br b _ _ h with ⟨rfl, hk⟩ | ⟨rfl, hk⟩
        · rcases hold_cond want _ _ hk with ⟨rfl, hk⟩ | ⟨rfl, hk⟩
          · exact .inl ⟨rfl, stepOp0_okX hA hT hcall hk hknown hf hs hl K Q hP hK⟩
          · exact .inr ⟨rfl, skip _ hknown rfl hk⟩
        · rcases hold_cond want _ _ hk with ⟨rfl, hk⟩ | ⟨rfl, hk⟩
          · exact .inr ⟨rfl, skip _ hknown rfl hk⟩
          · exact .inl ⟨rfl, stepOp0_okX hA hT hcall hk hknown hf hs hl K Q hP hK⟩
      · rename_i he
        rw [he] at hev
        simp only [Den] at hev
        obtain ⟨vs, hv, _⟩ := hev
        exact .inr ⟨hno _ hv (by simp), skip st hr rfl h⟩
      · rename_i he
        rw [he] at hev
        simp only [Den] at hev
        exact .inr ⟨hno _ hev (by simp), skip st hr rfl h⟩
      · rename_i he
        rw [he] at hev
        simp only [Den] at hev
        exact .inr ⟨hno _ hev (by simp), skip st hr rfl h⟩
      · exact ((hA _).bot h).elim

theorem runOps_okX (hA : ∀ F, HoldsB A (hold F)) (hT : TabOK P E.T) (hcall : CallOKX P E.R hold HP call) (ops : Array Oper) : ∀ (l : List Oper) (st : St) (k : St → α) (F : Fz), hold F (runOpsB A E call ops.toList l st k) →
    ∀ {m : Map} {a : Act} {w : World}, RelX E.R ds m st a w → FzOK F m st.rows w → ∀ {m0 : Map} {h0 : Rows} {w0 : World} {F0 : Fz}, Step m0 h0 w0 m st.rows w → F0.To m0 h0 w0 F →
      ∀ (Q : Exit → Act → World → Prop), PanicToX E.R ds HP m0 h0 w0 F0 Q → (∀ F' m' st' a' w', hold F' (k st') → RelX E.R ds m' st' a' w' → FzOK F' m' st'.rows w' → Step m0 h0 w0 m' st'.rows w' → F0.To m0 h0 w0 F' → Q .normal a' w') → wpList P ops Q l a w
  | [], st, k, F, h, m, a, w, hr, hf, m0, h0, w0, F0, hs, hl, Q, hP, hQ => wpList_nil (hQ F m st a w h hr hf hs hl)
  | o :: l, st, k, F, h, m, a, w, hr, hf, m0, h0, w0, F0, hs, hl, Q, hP, hQ => by
    simp only [runOpsB, guardOp_eqB] at h
    have := guardOp0_okX hA hT hcall h hr hf hs hl (wpList P ops Q l) Q hP (fun F' m' st' a' w' hk hr' hf' hs' hl' => runOps_okX hA hT hcall ops l st' k F' hk hr' hf' hs' hl' Q hP hQ)
    unfold wpList
    rcases this with ⟨hw, h1⟩ | ⟨hw, h1⟩
    · rw [if_pos hw]; exact .inl h1
    · rw [if_neg (by rw [hw]; simp)]; exact h1

end

section
variable {α : Type} {A : AnsB α} {E : Env α} {call : FuncId → List AV → Rows → (AV → Rows → α) → α} {ops : Array Oper} {hold : Fz → α → Prop} {P : Program} {HP : AV → Rows → Fz → Prop}
theorem stepW_okX (hA : ∀ F, HoldsB A (hold F)) (hT : TabOK P E.T) (hcall : CallOKX P E.R hold HP call) {o : Oper} {st : St} {k : AV → Rows → α} {F : Fz} (h : hold F (stepWB A E call o st k)) {m : Map} {a : Act} {w : World} (hr : Rel E.R m st a w)
    (hf : FzOK F m st.rows w) {m0 : Map} {h0 : Rows} {w0 : World} {F0 : Fz} (hs : Step m0 h0 w0 m st.rows w) (hl : F0.To m0 h0 w0 F) (K : Act → World → Prop) (Q : Exit → Act → World → Prop) (hP : PanicToX E.R [] HP m0 h0 w0 F0 Q)
    (hK : ∀ F' m' v rows a' w', hold F' (k v rows) → Rel E.R m' ⟨putT st.tmps o.dst v, rows⟩ a' w' → FzOK F' m' rows w' → Step m0 h0 w0 m' rows w' → F0.To m0 h0 w0 F' → K a' w') : o.wp P a w K Q := by
  have hev := hr.ev
  have both : hold F (match evW E.T E.R st.rows st.ev o with
      | .ok c v rows => A.br c (forceRows rows fun rows => k v rows) A.bot
      | .no => A.bot) → o.wp P a w K Q := by
    intro h
    cases hw : evW E.T E.R st.rows st.ev o with
    | no => rw [hw] at h; exact ((hA _).bot h).elim
    | ok c v rows =>
      rw [hw] at h
      rcases (hA _).br c _ _ h with ⟨hc, hk⟩ | ⟨_, hk⟩
      · have hk := forcedRows hk
        have := evW_ok hT hr.wr st.ev a.eval hev o
        rw [hw] at this
        obtain ⟨nx, cv, w', m', hrun, hn, hd, hW, hS⟩ := this hc
        unfold Oper.wp
        rw [hrun]
        cases nx <;> simp only [nextVal] at hn <;> try (cases hn; done)
        · cases hn
          exact hK F m' _ _ _ _ hk (hr.put hS hW o.dst hd) (hf.step hS) (hs.trans hS) hl
        · cases hn
          exact hK F m' _ _ _ _ hk (hr.put hS hW o.dst hd) (hf.step hS) (hs.trans hS) hl
      · exact ((hA _).bot hk).elim
  obtain ⟨dst, op, type, pos, after, guard⟩ := o
  cases op
  case assign x =>
    simp only [stepWB] at h
    have hrun : (execOp a.eval ⟨dst, .assign x, type, pos, after, guard⟩).run P w = .ok (.value (a.eval x)) w := rfl
    unfold Oper.wp
    rw [hrun]
    exact hK F m _ _ _ _ h (hr.put (Step.refl _ _ _) hr.wr dst (hev x)) hf hs hl
  case call c =>
    obtain ⟨callee, args, argTypes⟩ := c
    cases callee
    case builtin b => exact both h
    case invoke r mm => exact both h
    case value f =>
      simp only [stepWB] at h
      split at h
      · rename_i g first cap he
        have hf := hev f
        rw [he] at hf
        simp only [Den] at hf
        obtain ⟨us, vs, hfe, hus, hvs⟩ := hf
        have h := forced h
        obtain ⟨hsafe, fn, hfn, hbody, hname⟩ := hcall g _ _ _ F h
        have hrun : (execOp a.eval ⟨dst, .call ⟨.value f, args, argTypes⟩, type, pos, after, guard⟩).run P w = .ok (.enter g (us ++ args.map a.eval ++ vs)) w := by
          simp only [execOp, resolve, Sem.run_bind, Deferred.ofValue, hfe, Sem.run_pure, Result.andThen_ok, invoke, callFunc]
          simp only [program, Sem.run, pure, Result.andThen_ok, hfn, Sem.bind]
          have hb : fn.body.isNone = false := by cases hbb : fn.body <;> simp_all
          simp [hname, hb, Sem.run]
        unfold Oper.wp
        rw [hrun]
        have hargs : DenL m st.rows.length (first ++ (args.toList.map st.ev ++ cap)) (us ++ args.map a.eval ++ vs).toList := by
          have app : ∀ {l1 l2 : List AV} {v1 v2 : List Value}, DenL m st.rows.length l1 v1 → DenL m st.rows.length l2 v2 → DenL m st.rows.length (l1 ++ l2) (v1 ++ v2) := by
            intro l1
            induction l1 with
            | nil => intro l2 v1 v2 h1 h2; simp only [DenL] at h1; subst h1; simpa using h2
            | cons x l1 ih =>
              intro l2 v1 v2 h1 h2
              simp only [DenL] at h1
              obtain ⟨u, us, rfl, hd, hl⟩ := h1
              simp only [List.cons_append, DenL]
              exact ⟨u, _, rfl, hd, ih hl h2⟩
          have hm : DenL m st.rows.length (args.toList.map st.ev) (args.map a.eval).toList := by simpa using DenL.map_op hev args.toList
          have := app hus (app hm hvs)
          simpa [List.append_assoc] using this
        refine (hsafe m w m st.rows w F _ hargs hr.wr hf (Step.refl _ _ _) (.refl _ _ _ _)).mono ?_
        rintro e w' ⟨m', h', F', hW, hf', hle, hS, ⟨c, v, rfl, hk, hd⟩ | ⟨c, v, rfl, hk, hd⟩⟩
        · exact hK F' m' _ _ _ _ (forcedRows hk) (hr.put hS hW dst hd) hf' (hs.trans hS) (hl.trans hs hle)
        · exact hP a c v m' h' w' F' hr.defers hk hd hW hf' (hs.trans hS) (hl.trans hs hle)
      · exact ((hA _).bot h).elim
  all_goals exact both h

theorem guardW_okX (hA : ∀ F, HoldsB A (hold F)) (hT : TabOK P E.T) (hcall : CallOKX P E.R hold HP call) {o : Oper} {st : St} {k : AV → Rows → α} {F : Fz} (h : hold F (guardWB A E call ops o st k)) {m : Map} {a : Act} {w : World} (hr : Rel E.R m st a w)
    (hf : FzOK F m st.rows w) {m0 : Map} {h0 : Rows} {w0 : World} {F0 : Fz} (hs : Step m0 h0 w0 m st.rows w) (hl : F0.To m0 h0 w0 F) (K : Act → World → Prop) (Q : Exit → Act → World → Prop) (hP : PanicToX E.R [] HP m0 h0 w0 F0 Q)
    (hK : ∀ F' m' v rows a' w', hold F' (k v rows) → Rel E.R m' ⟨putT st.tmps o.dst v, rows⟩ a' w' → FzOK F' m' rows w' → Step m0 h0 w0 m' rows w' → F0.To m0 h0 w0 F' → K a' w') {i : Nat} (hi : ops[i]? = some o) : wpOp P ops Q i K a w := by
  unfold wpOp
  rw [hi]
  simp only []
  have skip : Region.wanted o (yielded ops a.tmps) = false → hold F (k .undef st.rows) → (if Region.wanted o (yielded ops a.tmps) = true then o.wp P a w K Q ∨ (o.asks P a w ∧ LetsOut Q) else K (a.put o.dst undef) w) := by
    intro hw hk
    rw [hw]
    simp only [Bool.false_eq_true, if_false]
    exact hK F m _ _ _ _ hk (hr.put (Step.refl _ _ _) hr.wr o.dst (by simp [Den, DenL, undef])) hf hs hl
  have run : Region.wanted o (yielded ops a.tmps) = true → hold F (stepWB A E call o st k) → (if Region.wanted o (yielded ops a.tmps) = true then o.wp P a w K Q ∨ (o.asks P a w ∧ LetsOut Q) else K (a.put o.dst undef) w) := by
    intro hw hk
    rw [if_pos hw]
    exact .inl (stepW_okX hA hT hcall hk hr hf hs hl K Q hP hK)
  unfold guardWB at h
  cases hg : o.guard with
  | none =>
    rw [hg] at h
    exact run (by simp [Region.wanted, hg]) h
  | some g =>
    obtain ⟨j, want⟩ := g
    rw [hg] at h
    simp only [] at h
    cases hd : (ops[j]?).bind (·.dst) with
    | none => rw [hd] at h; exact ((hA _).bot h).elim
    | some d =>
      rw [hd] at h
      simp only [] at h
      split at h
      · rename_i he
        have hw := wanted_bool hr hg hd he
        rcases hold_cond want _ _ h with ⟨rfl, hk⟩ | ⟨rfl, hk⟩
        · exact run (by rw [hw]; rfl) hk
        · exact skip (by rw [hw]; rfl) hk
      · rename_i he
        have hw := wanted_bool hr hg hd he
        rcases hold_cond want _ _ h with ⟨rfl, hk⟩ | ⟨rfl, hk⟩
        · exact skip (by rw [hw]; rfl) hk
        · exact run (by rw [hw]; rfl) hk
      all_goals first
        | exact ((hA _).bot h).elim
        | (rename_i he
           exact skip (wanted_not hr hg hd he trivial) h)

theorem drawGo_okX (hA : ∀ F, HoldsB A (hold F)) (hT : TabOK P E.T) (hcall : CallOKX P E.R hold HP call) (hn : neat ops = true) {k : St → α} {Q : Exit → Act → World → Prop} {m0 : Map} {h0 : Rows} {w0 : World} {F0 : Fz} (hP : PanicToX E.R [] HP m0 h0 w0 F0 Q)
    (hQ : ∀ F m st a w, hold F (k st) → Rel E.R m st a w → FzOK F m st.rows w → Step m0 h0 w0 m st.rows w → F0.To m0 h0 w0 F → Q .normal a w) :
    ∀ n La done st F, hold F (drawGoB A E call ops k n La done st) → ∀ fuel listed m a w, DInv E ops La done st listed m a w m0 h0 w0 → FzOK F m st.rows w → F0.To m0 h0 w0 F → cnt listed ≤ fuel → wpAny P .any ops Q fuel listed a w := by
  intro n
  induction n with
  | zero => intro La done st F h; exact ((hA _).bot h).elim
  | succ n ih =>
    intro La done st F h
    unfold drawGoB at h
    split at h
    · rename_i hrs
      intro fuel
      induction fuel with
      | zero =>
        intro listed m a w D hf hl hc
        refine any_intro hc (fun hr => hQ F m st a w h (D.done_rel hr) hf D.step hl) ?_
        intro i hi f' hf; omega
      | succ fuel ihf =>
        intro listed m a w D hf hl hc
        refine any_intro hc (fun hr => hQ F m st a w h (D.done_rel hr) hf D.step hl) ?_
        intro i hi f' hf hc'
        cases hf
        obtain ⟨_, _, o, ho, hdep⟩ := ready_spec hi
        by_cases hm : i ∈ La
        · exact D.pendStep hT hn hi hm fun a' D' => ihf _ m a' w D' hf hl hc'
        · have : i ∈ readyL ops La := mem_readyL.2 ⟨(Array.getElem?_eq_some_iff.1 ho).1, hm, o, ho, fun d hd => D.sub d (hdep d hd)⟩
          rw [hrs] at this; simp at this
    · rename_i i0 is hrs
      rcases tryL_okB (hA F) h with ⟨q, hq, o, v, ho, hv, hk⟩ | hk
      · intro fuel listed m a w D hf hl hc
        rw [← hrs] at hq
        exact ih _ _ _ F (by rw [putK_eq] at hk; exact hk) fuel listed m a w (D.quiet hn hq ho hv) hf hl hc
      · have hall := wAll_okB (hA F) hk
        have hready0 : ∀ {listed m a w}, DInv E ops La done st listed m a w m0 h0 w0 → Region.ready .any ops listed ≠ [] := by
          intro listed m a w D hr
          have hi0 : i0 ∈ readyL ops La := by rw [hrs]; simp
          obtain ⟨hlt, hnm, o, ho, hdep⟩ := mem_readyL.1 hi0
          have : i0 ∈ Region.ready .any ops listed := by
            refine mem_ready.2 ⟨?_, o, ho, fun e he hb => D.noPend hr _ (hdep _ (mem_deps.2 ⟨e, he, hb, rfl⟩))⟩
            have hl : listed.getD i0 false = false := by
              cases hh : listed.getD i0 false with
              | true => exact absurd (D.sub i0 hh) hnm
              | false => rfl
            have hsz : i0 < listed.size := by rw [D.size]; exact hlt
            rw [Array.getD_eq_getD_getElem?, Array.getElem?_eq_getElem hsz] at hl ⊢
            simpa using hl
          rw [hr] at this; simp at this
        intro fuel
        induction fuel with
        | zero =>
          intro listed m a w D hf hl hc
          refine any_intro hc (fun hr => absurd hr (hready0 D)) ?_
          intro i hi f' hf; omega
        | succ fuel ihf =>
          intro listed m a w D hf hl hc
          refine any_intro hc (fun hr => absurd hr (hready0 D)) ?_
          intro i hi f' hf hc'
          cases hf
          obtain ⟨hl1, hlst, o, ho, hdep⟩ := ready_spec hi
          by_cases hm : i ∈ La
          · exact D.pendStep hT hn hi hm fun a' D' => ihf _ m a' w D' hf hl hc'
          · have hi2 : i ∈ readyL ops La := mem_readyL.2 ⟨(Array.getElem?_eq_some_iff.1 ho).1, hm, o, ho, fun d hd => D.sub d (hdep d hd)⟩
            have hw := hall i (by rw [← hrs]; exact hi2)
            rw [ho] at hw
            simp only [] at hw
            obtain ⟨tb, hlen, htb, hrel⟩ := D.rel
            have hag := D.agree hn ho hdep htb
            rw [← guardW_congrB hag st.rows] at hw
            refine guardW_okX hA hT hcall hw hrel hf D.step hl _ Q hP ?_ ho
            intro F' m' v rows a' w' hk' hrel' hf' hs' hl'
            have hk' := (show hold F' _ by rw [putK_eq] at hk'; exact hk')
            obtain ⟨hgo, hre⟩ := recheck_okB (hA F') hk'
            refine ih _ _ _ F' hgo _ _ m' a' w' ?_ hf' hl' hc'
            have hsz : i < listed.size := by rw [D.size]; exact (Array.getElem?_eq_some_iff.1 ho).1
            have nodst : ∀ j p, j ∈ La → listed.getD j false = false → ops[j]? = some p → ∀ d, p.dst = some d → o.dst ≠ some d := by
              intro j p hj hlj hp d hd hod
              obtain ⟨p', u, hp', _, hqe, _⟩ := D.pend j hj hlj
              rw [hp] at hp'; cases hp'
              have hne : j ≠ i := fun e => hm (e ▸ hj)
              have := hdep j ((neat_look hn hp ho hd (qeval_has hqe).1).2 hne hod)
              rw [hlj] at this; exact absurd this (by simp)
            constructor
            · intro j hj
              rw [getD_set hsz] at hj
              by_cases e : j = i
              · subst e; simp
              · rw [if_neg e] at hj; exact List.mem_cons_of_mem _ (D.sub j hj)
            · simp [D.size]
            · intro j hj
              rcases List.mem_cons.1 hj with rfl | hj
              · exact (Array.getElem?_eq_some_iff.1 ho).1
              · exact D.inb j hj
            · intro j p hj hp d hd
              rw [getD_set hsz] at hj ⊢
              by_cases e : d = i
              · rw [if_pos e]
              · rw [if_neg e]
                by_cases e2 : j = i
                · subst e2
                  rw [ho] at hp; cases hp
                  exact hdep d hd
                · rw [if_neg e2] at hj
                  exact D.closed j p hj hp d hd
            · exact ⟨⟨o, ho, fun d hd => D.sub d (hdep d hd)⟩, D.ord⟩
            · intro j hj hlj
              rw [getD_set hsz] at hlj
              by_cases e : j = i
              · rw [if_pos e] at hlj; exact absurd hlj (by simp)
              · rw [if_neg e] at hlj
                have hj : j ∈ La := by
                  rcases List.mem_cons.1 hj with e2 | hj
                  · exact absurd e2 e
                  · exact hj
                obtain ⟨p, u, hp, hdone, hqe, hdst⟩ := D.pend j hj hlj
                obtain ⟨p', hp', hcase⟩ := hre j u hdone
                rw [hp] at hp'; cases hp'
                refine ⟨p, u, hp, hdone, ?_, ?_⟩
                · rcases hcase with h1 | ⟨h1, h2⟩ | h1
                  · have := ahead_mem D.closed ops.size j i (fun o' ho' => by rw [ho] at ho'; cases ho'; exact hdep) h1
                    rw [hlj] at this; exact absurd this (by simp)
                  · rw [qeval_mem h1 rows st.rows, qeval_congr (agree_put h2) st.rows]
                    exact hqe
                  · exact h1
                · intro d hd hlt
                  simp only [] at hlt
                  rw [putT_length] at hlt
                  rw [putT_get (nodst j p hj hlj hp d hd)]
                  exact hdst d hd hlt
            · refine ⟨putT tb o.dst v, by rw [putT_length, putT_length, hlen], ?_, hrel'⟩
              intro t ht
              by_cases e : o.dst = some t
              · rw [e]
                simp only [putT]
                rcases Nat.lt_or_ge t st.tmps.length with h1 | h1
                · rw [List.getElem?_set_self (by rw [hlen]; exact h1), List.getElem?_set_self h1]
                · rw [List.getElem?_eq_none (by simp [hlen]; exact h1), List.getElem?_eq_none (by simpa using h1)]
              · rw [putT_get e, putT_get e]
                refine htb t fun j p hj hlj hp => ht j p (List.mem_cons_of_mem _ hj) ?_ hp
                rw [getD_set hsz, if_neg (fun e2 => hm (by rw [← e2]; exact hj))]
                exact hlj
            · exact hs'

end

def DrawOKX {α : Type} (P : Program) (E : Env α) (ds : List Deferred) (hold : Fz → α → Prop) (HP : AV → Rows → Fz → Prop) (draw : Draw α) : Prop :=
  ∀ call, CallOKX P E.R hold HP call → ∀ id ops st (k : St → α) F, hold F (draw call ops st k) → ∀ m a w m0 h0 w0 F0, RelX E.R ds m st a w → FzOK F m st.rows w → Step m0 h0 w0 m st.rows w → F0.To m0 h0 w0 F →
    (Code.region id ops true).wp P (PostX E.R ds (fun e st' F' => e = .normal ∧ hold F' (k st')) HP m0 h0 w0 F0) a w

section
variable {α : Type} {A : AnsB α} {E : Env α} {hold : Fz → α → Prop} {P : Program} {HP : AV → Rows → Fz → Prop}
theorem drawAll_okX (hA : ∀ F, HoldsB A (hold F)) (hT : TabOK P E.T) (hm : P.follows .mixedOrders = true) : DrawOKX P E [] hold HP (drawAllB A E) := by
  intro call hcall id ops st k F h m a w m0 h0 w0 F0 hr hf hs hl
  have hr := hr.to
  unfold drawAllB at h
  cases hn : neat ops with
  | false => rw [hn] at h; exact ((hA _).bot h).elim
  | true =>
    rw [hn] at h
    simp only [cond_true] at h
    refine wp_region_any hm ?_
    refine drawGo_okX (m0 := m0) (h0 := h0) (w0 := w0) (F0 := F0) (Q := PostX E.R [] (fun e st' F' => e = .normal ∧ hold F' (k st')) HP m0 h0 w0 F0) hA hT hcall hn (postX_to _ _ _ _ _ _ _ _) ?_ _ _ _ _ _ h _ _ m _ _ ?_ ?_ hl ?_
    · intro F' m' st' a' w' hk hr' hf' hs' hl'
      exact ⟨m', st', F', trivial, ⟨rfl, hk⟩, .of hr', hf', hs', hl'⟩
    · have hW : WR E.R m st.rows { w with drawn := w.drawn + 1 } := hr.wr.same rfl
      constructor
      · intro i hi
        rw [Array.getD_eq_getD_getElem?] at hi
        rcases Nat.lt_or_ge i ops.size with h1 | h1
        · rw [Array.getElem?_eq_getElem (by simpa using h1)] at hi; simp at hi
        · rw [Array.getElem?_eq_none (by simpa using h1)] at hi; simp at hi
      · simp
      · intro i hi; simp at hi
      · intro i o hi
        rw [Array.getD_eq_getD_getElem?] at hi
        rcases Nat.lt_or_ge i ops.size with h1 | h1
        · rw [Array.getElem?_eq_getElem (by simpa using h1)] at hi; simp at hi
        · rw [Array.getElem?_eq_none (by simpa using h1)] at hi; simp at hi
      · trivial
      · intro i hi; simp at hi
      · exact ⟨st.tmps, rfl, fun _ _ => rfl, hr.size, hr.tmps, hr.defers, hW⟩
      · exact ⟨hs.os, hs.tape, hs.output, hs.size, hs.block, hs.len, hs.mu, hs.ro, hs.new⟩
    · exact ⟨hf.blk, hf.apart, hf.ro⟩
    · unfold cnt
      refine Nat.le_trans List.countP_le_length ?_
      simp
end

theorem SafeCallX.of_body {P : Program} {T : TypeId → Option TI} (hT : TabOK P T) {R : Nat → RoRow} {f : FuncId} {fi : FI} (hF : FnOK P f fi) {args : List AV} {h : Rows} {F : Fz} {Q HP : AV → Rows → Fz → Prop}
    (hb : SafeX P R [] fi.body ⟨enterT args fi.ntmps, h⟩ F (fun e st F' => (e = .normal ∨ e = .ret) ∧ ∃ vs, ResOK T R st fi.results vs ∧ Q (tupOf vs) st.rows F') HP) : SafeCallX P R f args h F Q HP := by
  obtain ⟨fn, hfn, hbody, hnt, hres, hname⟩ := hF.fn
  intro m w m0 h0 w0 F0 as has hW hf hS hTo
  refine calls_of_wp hfn hbody ?_
  have hlen := has.length
  simp only [Array.length_toList] at hlen
  have hrel : Rel R m ⟨enterT args fi.ntmps, h⟩ { tmps := as ++ Array.replicate (fn.ntmps - as.size) undef, defers := [] } w := by
    refine ⟨by simp [enterT, hnt, hlen], ?_, rfl, hW⟩
    intro i x hx
    simp only [enterT] at hx
    by_cases hi : i < args.length
    · rw [List.getElem?_append_left hi] at hx
      obtain ⟨c, hc, hd⟩ := has.get hx
      have hi2 : i < as.size := by omega
      refine ⟨c, ?_, hd⟩
      rw [Array.getElem?_append_left hi2]
      simpa using hc
    · rw [List.getElem?_append_right (by omega)] at hx
      have hx2 := List.getElem?_eq_some_iff.1 hx
      obtain ⟨hlt, hxe⟩ := hx2
      simp at hlt hxe
      subst hxe
      refine ⟨undef, ?_, by simp [Den, DenL, undef]⟩
      rw [Array.getElem?_append_right (by omega)]
      rw [Array.getElem?_replicate]
      rw [if_pos (by omega)]
  have good : ∀ m' st' F' a' w', (∃ vs, ResOK T R st' fi.results vs ∧ Q (tupOf vs) st'.rows F') → RelX R [] m' st' a' w' → FzOK F' m' st'.rows w' → Step m0 h0 w0 m' st'.rows w' → F0.To m0 h0 w0 F' →
      a'.defers = [] ∧ ∃ v, (results fn a'.tmps).run P w' = .ok v w' ∧ ∃ m' h' F', WR R m' h' w' ∧ FzOK F' m' h' w' ∧ F0.To m0 h0 w0 F' ∧ Step m0 h0 w0 m' h' w' ∧
        ((∃ c v', Ending.returned v = .returned c ∧ Q v' h' F' ∧ Den m' h'.length v' c) ∨ ∃ c v', Ending.returned v = .panicked [{ v := c, recovered := false }] ∧ HP v' h' F' ∧ Den m' h'.length v' c) := by
    rintro m' st' F' a' w' ⟨vs, hvs, hq⟩ hr' hf' hs' hl'
    have hr' := hr'.to
    obtain ⟨c, hfin, hden⟩ : ∃ c, (results fn a'.tmps).run P w' = .ok c w' ∧ Den m' st'.rows.length (tupOf vs) c := by
      have hres' : ∃ F : ResultVar → Sem Value, (∀ t, F (.tmp t) = pure (a'.tmps.getD t undef)) ∧ (∀ x t, F (.cell x t) = do loadVar t (← asAddr (a'.tmps.getD x undef))) ∧
          results fn a'.tmps = (do let vs ← fn.results.mapM F; pure (if h : vs.size = 1 then vs[0] else .tuple vs)) := ⟨_, fun _ => rfl, fun _ _ => rfl, rfl⟩
      obtain ⟨F, hF1, hF2, hres'⟩ := hres'
      rw [hres', hres]
      simp only [Sem.run_bind]
      rw [List.mapM_toArray]
      simp only [Sem.run_map]
      obtain ⟨cs, hcs, hd⟩ := res_run hT hr' F hF1 hF2 hvs
      rw [hcs]
      simp only [Result.andThen_ok, Sem.run_pure]
      refine ⟨_, rfl, ?_⟩
      cases vs with
      | nil =>
        simp only [DenL] at hd
        subst hd
        simp [tupOf, Den, DenL]
      | cons v vs =>
        simp only [DenL] at hd
        obtain ⟨u, us, rfl, h1, h2⟩ := hd
        cases vs with
        | nil =>
          simp only [DenL] at h2
          subst h2
          simpa [tupOf] using h1
        | cons v2 vs =>
          simp only [DenL] at h2
          obtain ⟨u2, us, rfl, h2, h3⟩ := h2
          simp only [tupOf, Den]
          refine ⟨(u :: u2 :: us).toArray, by simp, ?_⟩
          simp only [DenL]
          exact ⟨u, _, rfl, h1, u2, us, rfl, h2, h3⟩
    exact ⟨hr'.defers, _, hfin, m', st'.rows, F', hr'.wr, hf', hl', hs', .inl ⟨_, _, rfl, hq, hden⟩⟩
  refine wp_mono (hb m _ w m0 h0 w0 F0 (.of hrel) hf hS hTo) ?_
  intro e a' w' hpost
  cases e with
  | panic ch => obtain ⟨m', h', v, c, F', rfl, h2, h3, h4, h5, h6, h7, h8⟩ := hpost; exact ⟨h8, m', h', F', h4, h5, h7, h6, .inr ⟨c, v, rfl, h2, h3⟩⟩
  | exit id => obtain ⟨_, _, _, _, ⟨he, _⟩, _⟩ := hpost; cases he with | inl h => cases h | inr h => cases h
  | goto l => obtain ⟨_, _, _, h, _⟩ := hpost; exact h.elim
  | outgrown => obtain ⟨_, _, _, h, _⟩ := hpost; exact h.elim
  | normal => obtain ⟨m', st', F', hok, ⟨he, hv⟩, hr', hf', hs', hl'⟩ := hpost; exact good m' st' F' _ _ hv hr' hf' hs' hl'
  | ret => obtain ⟨m', st', F', hok, ⟨he, hv⟩, hr', hf', hs', hl'⟩ := hpost; exact good m' st' F' _ _ hv hr' hf' hs' hl'

structure EnvOKX {α : Type} (P : Program) (E : Env α) (ds : List Deferred) (hold : Fz → α → Prop) (HP : AV → Rows → Fz → Prop) : Prop where
  T : TabOK P E.T
  F : ∀ f fi, E.F f = some fi → FnOK P f fi
  calls : ∀ f spec, E.calls f = some spec → ∀ args h k F, hold F (spec args h k) → SafeCallX P E.R f args h F (fun v h' F' => hold F' (k v h')) HP ∧ ∃ fn, P.funcs[f]? = some fn ∧ fn.body.isSome = true ∧ (fn.name == "runtime.NumGoroutine") = false
  loops : ∀ f id spec, E.loops f id = some spec → ∀ body, (id, body) ∈ E.subsOf f → ∀ st k F, hold F (spec st k) → SafeX P E.R ds (.block id body) st F (fun e st' F' => hold F' (k e st')) HP

section
variable {α : Type} {A : AnsB α} {E : Env α} {draw : Draw α} {hold : Fz → α → Prop} {P : Program} {HP : AV → Rows → Fz → Prop} {ds : List Deferred}

theorem code_okX (hA : ∀ F, HoldsB A (hold F)) (hE0 : EnvOKX P E [] hold HP) (hE : EnvOKX P E ds hold HP) (hD0 : DrawOKX P E [] hold HP draw) (hD : DrawOKX P E ds hold HP draw) : ∀ (n : Nat) (ds' : List Deferred), (ds' = [] ∨ ds' = ds) → ∀ (f : FuncId) (c : Code) (st : St) (k : Exit → St → α) (F : Fz), (∀ p ∈ subs c, p ∈ E.subsOf f) → hold F (codeB A E draw n f c st k) →
    SafeX P E.R ds' c st F (fun e st' F' => hold F' (k e st')) HP := by
  intro n
  induction n using Nat.strongRecOn with
  | ind n IH =>
   cases n with
   | zero => intro ds' _ f c st k F _ h; exact ((hA _).bot h).elim
   | succ n =>
    have ih := IH n (Nat.lt_succ_self n)
    intro ds' hds f c st k F hsub h
    have hE' : EnvOKX P E ds' hold HP := by rcases hds with rfl | rfl <;> assumption
    have hD' : DrawOKX P E ds' hold HP draw := by rcases hds with rfl | rfl <;> assumption
    -- the calls
    have hcall : CallOKX P E.R hold HP (fun g args rows k => match E.calls g with
      | some spec => spec args rows k
      | none => match E.F g with
        | none => A.bot
        | some fi => forceL (enterT args fi.ntmps) fun ts => codeB A E draw n g fi.body ⟨ts, rows⟩ fun e st => match e with
          | .normal | .ret => resKB A E st fi.results fun v => k v st.rows
          | _ => A.bot) := by
      intro g args rows k F hk
      simp only [] at hk
      cases hc : E.calls g with
      | some spec => rw [hc] at hk; exact hE0.calls g spec hc args rows k F hk
      | none =>
        rw [hc] at hk
        simp only [] at hk
        cases hf : E.F g with
        | none => rw [hf] at hk; exact ((hA _).bot hk).elim
        | some fi =>
          rw [hf] at hk
          have hk := forced hk
          have hF := hE0.F g fi hf
          have hb := ih [] (.inl rfl) g fi.body _ _ F (fun p hp => by unfold Env.subsOf; rw [hf]; exact hp) hk
          obtain ⟨fn, h1, h2, h3, h4, h5⟩ := hF.fn
          refine ⟨SafeCallX.of_body hE0.T hF (hb.mono ?_ (fun _ _ _ h => h)), fn, h1, by rw [h2]; rfl, h5⟩
          intro e st' F' he
          cases e <;> first
            | exact ⟨.inl rfl, resL_okB (hA F') he⟩
            | exact ⟨.inr rfl, resL_okB (hA F') he⟩
            | exact ((hA _).bot he).elim
    intro m a w m0 h0 w0 F0 hr hf hs hl
    cases c with
    | skip => exact wp_skip ⟨m, st, F, trivial, h, hr, hf, hs, hl⟩
    | label l => exact wp_label ⟨m, st, F, trivial, h, hr, hf, hs, hl⟩
    | exit id => exact wp_exit ⟨m, st, F, trivial, h, hr, hf, hs, hl⟩
    | ret => exact wp_ret ⟨m, st, F, trivial, h, hr, hf, hs, hl⟩
    | seq x y =>
      have hx := ih ds' hds f x st _ F (fun p hp => hsub p (by simp [subs, hp])) h
      refine wp_seq (wp_mono (hx m a w m0 h0 w0 F0 hr hf hs hl) ?_)
      intro e a' w' hpost
      cases e with
      | panic ch => exact hpost
      | goto l => obtain ⟨_, _, _, h, _⟩ := hpost; exact h.elim
      | outgrown => obtain ⟨_, _, _, h, _⟩ := hpost; exact h.elim
      | normal => obtain ⟨m', st', F', hok, hq, hr', hf', hs', hl'⟩ := hpost; exact ih ds' hds f y st' k F' (fun p hp => hsub p (by simp [subs, hp])) hq m' a' w' m0 h0 w0 F0 hr' hf' hs' hl'
      | _ => exact hpost
    | cond x y z =>
      have hev := hr.ev x
      simp only [codeB, setBoolK_eq] at h
      split at h
      · rename_i b he
        rw [he] at hev
        simp only [Den] at hev
        have hset : RelX E.R ds' m (setBool st x b) a w ∧ (setBool st x b).rows = st.rows := by
          cases x with
          | tmp d => exact ⟨hr.known (by simpa [St.ev, nthV_eq] using he), rfl⟩
          | _ => exact ⟨hr, rfl⟩
        rcases (hA _).br b _ _ h with ⟨rfl, hk⟩ | ⟨rfl, hk⟩
        · exact wp_cond_true hev (ih ds' hds f y _ k F (fun p hp => hsub p (by simp [subs, hp])) hk m a w m0 h0 w0 F0 hset.1 (by rw [hset.2]; exact hf) (by rw [hset.2]; exact hs) hl)
        · exact wp_cond_false hev (ih ds' hds f z _ k F (fun p hp => hsub p (by simp [subs, hp])) hk m a w m0 h0 w0 F0 hset.1 (by rw [hset.2]; exact hf) (by rw [hset.2]; exact hs) hl)
      · exact ((hA _).bot h).elim
    | block id body =>
      simp only [codeB] at h
      cases hlp : E.loops f id with
      | some spec =>
        rw [hlp] at h
        exact hE'.loops f id spec hlp body (hsub _ (by simp [subs])) st k F h m a w m0 h0 w0 F0 hr hf hs hl
      | none =>
        rw [hlp] at h
        have hb := ih ds' hds f body st _ F (fun p hp => hsub p (by simp [subs, hp])) h
        refine wp_block (wp_mono (hb m a w m0 h0 w0 F0 hr hf hs hl) ?_)
        intro e a' w' hpost
        cases e with
        | panic ch => exact hpost
        | goto l => obtain ⟨_, _, _, h, _⟩ := hpost; exact h.elim
        | outgrown => obtain ⟨_, _, _, h, _⟩ := hpost; exact h.elim
        | normal => exact hpost
        | ret => exact hpost
        | exit id' =>
          obtain ⟨m', st', F', hok, hq, hr', hf', hs', hl'⟩ := hpost
          simp only [Exit.inBlock]
          by_cases hid : id' = id
          · rw [if_pos hid]
            subst hid
            simp only [Nat.beq_refl, cond_true] at hq
            exact ⟨m', st', F', trivial, hq, hr', hf', hs', hl'⟩
          · rw [if_neg hid]
            have : Nat.beq id' id = false := by rw [Bool.eq_false_iff]; exact fun e => hid (Nat.eq_of_beq_eq_true e)
            simp only [this, cond_false] at hq
            exact ⟨m', st', F', trivial, hq, hr', hf', hs', hl'⟩
    | loop body =>
      -- rounds
      have key : ∀ (j : Nat), j ≤ n + 1 → ∀ (st : St) F, hold F (codeB A E draw j f (.loop body) st k) → ∀ m a w, RelX E.R ds' m st a w → FzOK F m st.rows w → Step m0 h0 w0 m st.rows w → F0.To m0 h0 w0 F →
          Code.rounds P body (PostX E.R ds' (fun e st' F' => hold F' (k e st')) HP m0 h0 w0 F0) j a w := by
        intro j
        induction j with
        | zero => intro _ st F h m a w _ _; exact ((hA _).bot h).elim
        | succ j ihj =>
          intro hj st F h m a w hr hf hs hl
          rw [rounds_succ]
          simp only [codeB] at h
          refine wp_mono (IH j (by omega) ds' hds f body st _ F (fun p hp => hsub p (by simpa [subs] using hp)) h m a w m0 h0 w0 F0 hr hf hs hl) ?_
          intro e a' w' hpost
          cases e with
          | normal => obtain ⟨m', st', F', hok, hq, hr', hf', hs', hl'⟩ := hpost; exact ihj (by omega) st' F' hq m' a' w' hr' hf' hs' hl'
          | goto l => obtain ⟨_, _, _, h, _⟩ := hpost; exact h.elim
          | outgrown => obtain ⟨_, _, _, h, _⟩ := hpost; exact h.elim
          | panic ch => exact hpost
          | exit id => exact hpost
          | ret => exact hpost
      exact wp_loop_rounds (n + 1) (key (n + 1) (Nat.le_refl _) st F h m a w hr hf hs hl)
    | region id ops d =>
      cases d with
      | false =>
        refine wp_region_list ?_
        exact runOps_okX hA hE.T hcall ops ops.toList st _ F h hr hf hs hl _ (postX_to _ _ _ _ _ _ _ _) (fun F' m' st' a' w' hk hr' hf' hs' hl' => ⟨m', st', F', trivial, hk, hr', hf', hs', hl'⟩)
      | true =>
        refine wp_mono (hD' _ hcall id ops st _ F h m a w m0 h0 w0 F0 hr hf hs hl) fun e a' w' hp => hp.mono ?_ (fun _ _ _ _ h => h)
        rintro e st' F' _ ⟨rfl, hk⟩
        exact hk
    | scope b => exact ((hA _).bot h).elim
    | goto l => exact ((hA _).bot h).elim
    | refuse why => exact ((hA _).bot h).elim
    | rangeFunc g ps as' b => exact ((hA _).bot h).elim

end
end Go.Dc
end
section
set_option linter.unusedSimpArgs false
set_option linter.unusedVariables false
namespace Go.Dc

def ansX : AnsB (Fz → Prop) := { bot := fun _ => False, both := fun x y F => x F ∧ y F, eqv := fun u v x F => u = v ∧ x F, br := fun b x y F => cond b (x F) (y F) }
abbrev atF (F : Fz) (x : Fz → Prop) : Prop := x F
theorem ansX_holds (F : Fz) : HoldsB ansX (atF F) := ⟨fun h => h, fun _ _ h => h, fun _ _ _ h => h, fun b x y h => by cases b with | true => exact .inl ⟨rfl, h⟩ | false => exact .inr ⟨rfl, h⟩⟩
abbrev CallSpecX := List AV → Rows → (AV → Rows → Fz → Prop) → Fz → Prop
abbrev LoopSpX := St → (Exit → St → Fz → Prop) → Fz → Prop
abbrev EnvX := Env (Fz → Prop)
abbrev OKX (P : Program) (E : EnvX) (ds : List Deferred) (HP : AV → Rows → Fz → Prop) : Prop := EnvOKX P E ds atF HP

def EnvX.base (T : TypeId → Option TI) (F : FuncId → Option FI) (R : Nat → RoRow) : EnvX := ⟨T, R, F, fun _ => none, fun _ _ => none⟩
theorem OKX.base {P : Program} {T : TypeId → Option TI} {F : FuncId → Option FI} {R : Nat → RoRow} {ds : List Deferred} {HP : AV → Rows → Fz → Prop} (hT : TabOK P T) (hF : ∀ f fi, F f = some fi → FnOK P f fi) : OKX P (EnvX.base T F R) ds HP :=
  ⟨hT, hF, fun f spec h => by simp [EnvX.base] at h, fun f i spec h => by simp [EnvX.base] at h⟩
def EnvX.addCall (E : EnvX) (f : FuncId) (spec : CallSpecX) : EnvX :=
  { E with calls := fun g => bif Nat.beq f g then some spec else E.calls g }
theorem OKX.addCall {P : Program} {E : EnvX} {ds : List Deferred} {HP : AV → Rows → Fz → Prop} (h : OKX P E ds HP) {f : FuncId} {spec : CallSpecX} {fi : FI} (hF : E.F f = some fi) (hs : ∀ args h k F, spec args h k F → SafeCallX P E.R f args h F k HP) : OKX P (E.addCall f spec) ds HP where
  T := h.T
  F := h.F
  calls := fun g sp hg args rows k F hk => by
    simp only [EnvX.addCall] at hg
    cases hb : Nat.beq f g with
    | true =>
      rw [hb] at hg
      simp only [cond_true, Option.some.injEq] at hg
      have := Nat.eq_of_beq_eq_true hb
      subst this; subst hg
      obtain ⟨fn, h1, h2, _, _, h5⟩ := (h.F f fi hF).fn
      exact ⟨hs args rows k F hk, fn, h1, by rw [h2]; rfl, h5⟩
    | false =>
      rw [hb] at hg
      exact h.calls g sp hg args rows k F hk
  loops := h.loops
/-- A contract of a call that nothing panics in. -/
def liftC (spec : CallSpec) : CallSpecX := fun args h k F => spec args h fun v h' => k v h' F
theorem liftC_ok {P : Program} {R : Nat → RoRow} {f : FuncId} {spec : CallSpec} {HP : AV → Rows → Fz → Prop} (hs : ∀ args h k, spec args h k → SafeCall P R f args h k) : ∀ args h k F, liftC spec args h k F → SafeCallX P R f args h F k HP :=
  fun args h k F hk => (hs args h _ hk).toX fun _ _ h => h
def EnvX.addLoop (E : EnvX) (f : FuncId) (id : Nat) (spec : LoopSpX) : EnvX :=
  { E with loops := fun g i => bif Nat.beq f g && Nat.beq id i then some spec else E.loops g i }
theorem OKX.addLoop {P : Program} {E : EnvX} {ds : List Deferred} {HP : AV → Rows → Fz → Prop} (h : OKX P E ds HP) {f : FuncId} {i : Nat} {spec : LoopSpX} {fi : FI} (hF : E.F f = some fi) {body : Code} (hb : blockOf fi i = some body)
    (hs : ∀ st k F, spec st k F → SafeX P E.R ds (.block i body) st F k HP) : OKX P (E.addLoop f i spec) ds HP where
  T := h.T
  F := h.F
  calls := h.calls
  loops := fun g j sp hg b hmem st k F hk => by
    simp only [EnvX.addLoop] at hg
    cases hbb : (Nat.beq f g && Nat.beq i j) with
    | true =>
      rw [hbb] at hg
      simp only [cond_true, Option.some.injEq] at hg
      simp only [Bool.and_eq_true] at hbb
      have e1 := Nat.eq_of_beq_eq_true hbb.1
      have e2 := Nat.eq_of_beq_eq_true hbb.2
      subst e1; subst e2; subst hg
      have hm : (i, b) ∈ subs fi.body := by
        have : (i, b) ∈ E.subsOf f := hmem
        unfold Env.subsOf at this
        rwa [hF] at this
      have : b = body := by
        unfold blockOf at hb
        have hf : (i, b) ∈ (subs fi.body).filter fun p => Nat.beq p.1 i := by simp [hm]
        split at hb
        · rename_i j' b' he
          rw [he] at hf
          simp at hf hb
          exact hf.2.trans hb
        · exact absurd hb (by simp)
      subst this
      exact hs st k F hk
    | false =>
      rw [hbb] at hg
      exact h.loops g j sp hg b hmem st k F hk

theorem subs_sub : ∀ (c : Code) (p : Nat × Code), p ∈ subs c → ∀ q ∈ subs p.2, q ∈ subs c := by
  intro c
  induction c with
  | block id b ih =>
    intro p hp q hq
    simp only [subs, List.mem_cons] at hp ⊢
    rcases hp with rfl | hp
    · exact .inr hq
    · exact .inr (ih p hp q hq)
  | seq x y ihx ihy =>
    intro p hp q hq
    simp only [subs, List.mem_append] at hp ⊢
    rcases hp with hp | hp
    · exact .inl (ihx p hp q hq)
    · exact .inr (ihy p hp q hq)
  | cond x y z ihx ihy =>
    intro p hp q hq
    simp only [subs, List.mem_append] at hp ⊢
    rcases hp with hp | hp
    · exact .inl (ihx p hp q hq)
    · exact .inr (ihy p hp q hq)
  | loop b ih => exact ih
  | rangeFunc g ps x y ihx ihy =>
    intro p hp q hq
    simp only [subs, List.mem_append] at hp ⊢
    rcases hp with hp | hp
    · exact .inl (ihx p hp q hq)
    · exact .inr (ihy p hp q hq)
  | _ => intro p hp; simp [subs] at hp
theorem blockOf_sub {fi : FI} {i : Nat} {b : Code} (hb : blockOf fi i = some b) : ∀ q ∈ subs b, q ∈ subs fi.body := by
  have hm : (i, b) ∈ subs fi.body := by
    unfold blockOf at hb
    split at hb
    · rename_i j' b' he
      simp only [Option.some.injEq] at hb
      subst hb
      have : (j', b') ∈ (subs fi.body).filter fun p => Nat.beq p.1 i := by rw [he]; simp
      simp only [List.mem_filter] at this
      obtain ⟨h1, h2⟩ := this
      have := Nat.eq_of_beq_eq_true h2
      subst this
      exact h1
    · exact absurd hb (by simp)
  exact subs_sub fi.body (i, b) hm

/-- The condition of a function, of a loop's round. -/
def vcx (E : EnvX) (n : Nat) (f : FuncId) (fi : FI) (args : List AV) (h : Rows) (Q : AV → Rows → Fz → Prop) : Fz → Prop :=
  codeB ansX E (drawAllB ansX E) n f fi.body ⟨enterT args fi.ntmps, h⟩ fun e st => match e with
    | .normal | .ret => resKB ansX E st fi.results fun v => Q v st.rows
    | _ => fun _ => False
def rnx (E : EnvX) (n : Nat) (f : FuncId) (c : Code) (st : St) (k : Exit → St → Fz → Prop) : Fz → Prop := codeB ansX E (drawAllB ansX E) n f c st k

section
variable {P : Program} {E : EnvX} {HP : AV → Rows → Fz → Prop}
theorem SafeX.rnx (hm : P.follows .mixedOrders = true) (hE : OKX P E [] HP) {f : FuncId} {c : Code} (hc : ∀ p ∈ subs c, p ∈ E.subsOf f) {st : St} {F : Fz} {k : Exit → St → Fz → Prop} (n : Nat)
    (hk : Dc.rnx E n f c st k F) : SafeX P E.R [] c st F k HP :=
  code_okX ansX_holds hE hE (drawAll_okX ansX_holds hE.T hm) (drawAll_okX ansX_holds hE.T hm) n [] (.inl rfl) f c st k F hc hk
theorem SafeX.round (hm : P.follows .mixedOrders = true) (hE : OKX P E [] HP) {f : FuncId} {fi : FI} (hF : E.F f = some fi) {i : Nat} {b c : Code} (hb : blockOf fi i = some b) (hc : subs c = subs b) {st : St} {F : Fz} {k : Exit → St → Fz → Prop} (n : Nat)
    (hk : Dc.rnx E n f c st k F) : SafeX P E.R [] c st F k HP :=
  SafeX.rnx hm hE (fun p hp => by unfold Env.subsOf; rw [hF]; rw [hc] at hp; exact blockOf_sub hb p hp) n hk
theorem SafeCallX.vcx (hm : P.follows .mixedOrders = true) (hE : OKX P E [] HP) {f : FuncId} {fi : FI} (hF : E.F f = some fi) {args : List AV} {h : Rows} {F : Fz} {Q : AV → Rows → Fz → Prop} (n : Nat)
    (hk : Dc.vcx E n f fi args h Q F) : SafeCallX P E.R f args h F Q HP := by
  refine SafeCallX.of_body hE.T (hE.F f fi hF) ((SafeX.rnx hm hE (f := f) (fun p hp => by unfold Env.subsOf; rw [hF]; exact hp) n hk).mono ?_ fun _ _ _ h => h)
  intro e st' F' he
  cases e <;> first
    | exact ⟨.inl rfl, resL_okB (ansX_holds F') he⟩
    | exact ⟨.inr rfl, resL_okB (ansX_holds F') he⟩
    | exact he.elim
end

/-! ### Views -/
theorem FzOK.view {F : Fz} {m : Map} {f : Nat → Option Nat} {hL h : Rows} {w : World} (hf : FzOK F m h w) (hV : View f hL h) : FzOK F (m.view f hL.es) hL w where
  blk := hf.blk
  apart := fun c r hc hv => by
    obtain ⟨b, r', h1, h2, h3, h4⟩ := hV.real hc hv
    rw [h4] at hv ⊢
    exact hf.apart b r' h2 hv
  ro := hf.ro
theorem RelX.view {R : Nat → RoRow} {ds : List Deferred} {m : Map} {f : Nat → Option Nat} {stL st : St} {a : Act} {w : World} (h : RelX R ds m st a w) (hV : StV f stL st) : RelX R ds (m.view f stL.rows.es) stL a w := by
  have := h.bare.view hV
  exact ⟨this.size, this.tmps, h.defers, this.wr⟩

/-- A state may be seen as another one: fewer rows, some of them frozen. The first 'nk' rows keep their numbers. -/
def ToX (R : Nat → RoRow) (ds : List Deferred) (nk : Nat) (st : St) (F : Fz) (S : St → Fz → Prop) : Prop :=
  ∀ m a w m0 h0 w0 (F0 : Fz), h0.length ≤ nk → RelX R ds m st a w → FzOK F m st.rows w → Step m0 h0 w0 m st.rows w → F0.To m0 h0 w0 F →
    ∃ m' st' F', S st' F' ∧ RelX R ds m' st' a w ∧ FzOK F' m' st'.rows w ∧ Step m0 h0 w0 m' st'.rows w ∧ F0.To m0 h0 w0 F'
section
variable {R : Nat → RoRow} {ds : List Deferred} {nk : Nat} {st stE : St} {F : Fz} {S S' : St → Fz → Prop}
theorem ToX.here (h : S st F) : ToX R ds nk st F S := fun m a w m0 h0 w0 F0 _ hr hf hs hl => ⟨m, st, F, h, hr, hf, hs, hl⟩
theorem ToX.mono (h : ToX R ds nk st F S) (hq : ∀ st F, S st F → S' st F) : ToX R ds nk st F S' := fun m a w m0 h0 w0 F0 hn hr hf hs hl =>
  let ⟨m', st', F', h1, h2⟩ := h m a w m0 h0 w0 F0 hn hr hf hs hl
  ⟨m', st', F', hq _ _ h1, h2⟩
theorem ToX.fit (hF : Fit nk stE st) (h : ToX R ds nk stE F S) : ToX R ds nk st F S := by
  obtain ⟨f, hV, hf, hl⟩ := hF
  intro m a w m0 h0 w0 F0 hn hr hF hs hl0
  exact h _ a w m0 h0 w0 F0 hn (hr.view hV) (hF.view hV.rows) (hs.forget hV.rows (fun c hc => hf c (Nat.lt_of_lt_of_le hc hn)) (Nat.le_trans hn hl)) hl0
theorem ToX.bind (h : ToX R ds nk st F S) (hq : ∀ st F, S st F → ToX R ds nk st F S') : ToX R ds nk st F S' := by
  intro m a w m0 h0 w0 F0 hn hr hF hs hl
  obtain ⟨m', st', F', h1, hr', hF', hs', hl'⟩ := h m a w m0 h0 w0 F0 hn hr hF hs hl
  exact hq _ _ h1 m' a w m0 h0 w0 F0 hn hr' hF' hs' hl'
theorem SafeX.pre {P : Program} {c : Code} {Q : Exit → St → Fz → Prop} {HP : AV → Rows → Fz → Prop} (h : ToX R ds st.rows.length st F fun st' F' => SafeX P R ds c st' F' Q HP) : SafeX P R ds c st F Q HP := by
  intro m a w m0 h0 w0 F0 hr hf hs hl
  obtain ⟨m', st', F', h1, hr', hF', hs', hl'⟩ := h m a w m0 h0 w0 F0 hs.len hr hf hs hl
  exact h1 m' a w m0 h0 w0 F0 hr' hF' hs' hl'
theorem SafeX.post {P : Program} {c : Code} {Q Q' : Exit → St → Fz → Prop} {HP : AV → Rows → Fz → Prop} (h : SafeX P R ds c st F Q HP) (hq : ∀ e st' F', F.le F' → Q e st' F' → ToX R ds st.rows.length st' F' (Q' e)) : SafeX P R ds c st F Q' HP := by
  intro m a w m0 h0 w0 F0 hr hf hs hl
  refine wp_mono (h m a w m st.rows w F hr hf (Step.refl _ _ _) (.refl _ _ _ _)) ?_
  intro e a' w' hp
  cases e with
  | panic ch => obtain ⟨m', h', v, c, F', h1, h2, h3, h4, h5, h6, h7, h8⟩ := hp; exact ⟨m', h', v, c, F', h1, h2, h3, h4, h5, hs.trans h6, hl.trans hs h7, h8⟩
  | goto l => obtain ⟨_, _, _, h, _⟩ := hp; exact h.elim
  | outgrown => obtain ⟨_, _, _, h, _⟩ := hp; exact h.elim
  | _ =>
    obtain ⟨m', st', F', h1, h2, h3, h4, h5, h6⟩ := hp
    obtain ⟨m2, st2, F2, q1, q2, q3, q4, q5⟩ := hq _ _ _ h6.le h2 m' a' w' m st.rows w F (Nat.le_refl _) h3 h4 h5 h6
    exact ⟨m2, st2, F2, h1, q1, q2, q3, hs.trans q4, hl.trans hs q5⟩
end

/-- An answer, with the rows behind it, seen otherwise. -/
def ToV (R : Nat → RoRow) (nk : Nat) (v : AV) (h : Rows) (F : Fz) (S : AV → Rows → Fz → Prop) : Prop :=
  ∀ m (c : Value) w m0 h0 w0 (F0 : Fz), h0.length ≤ nk → Den m h.length v c → WR R m h w → FzOK F m h w → Step m0 h0 w0 m h w → F0.To m0 h0 w0 F →
    ∃ m' v' h' F', S v' h' F' ∧ Den m' h'.length v' c ∧ WR R m' h' w ∧ FzOK F' m' h' w ∧ Step m0 h0 w0 m' h' w ∧ F0.To m0 h0 w0 F'
section
variable {R : Nat → RoRow} {nk : Nat} {v vE : AV} {h hE : Rows} {F : Fz} {S S' : AV → Rows → Fz → Prop}
theorem ToV.here (hh : S v h F) : ToV R nk v h F S := fun m c w m0 h0 w0 F0 _ hd hW hf hs hl => ⟨m, v, h, F, hh, hd, hW, hf, hs, hl⟩
theorem ToV.mono (hh : ToV R nk v h F S) (hq : ∀ v h F, S v h F → S' v h F) : ToV R nk v h F S' := fun m c w m0 h0 w0 F0 hn hd hW hf hs hl =>
  let ⟨m', v', h', F', h1, h2⟩ := hh m c w m0 h0 w0 F0 hn hd hW hf hs hl
  ⟨m', v', h', F', hq _ _ _ h1, h2⟩
theorem ToV.fit (hF : FitV nk vE hE v h) (hh : ToV R nk vE hE F S) : ToV R nk v h F S := by
  obtain ⟨f, hV, hv, hf, hl⟩ := hF
  intro m c w m0 h0 w0 F0 hn hd hW hF hs hl0
  exact hh _ c w m0 h0 w0 F0 hn (hv.den _ _ _ hd) (hW.view hV) (hF.view hV) (hs.forget hV (fun c hc => hf c (Nat.lt_of_lt_of_le hc hn)) (Nat.le_trans hn hl)) hl0
theorem ToV.bind (hh : ToV R nk v h F S) (hq : ∀ v h F, S v h F → ToV R nk v h F S') : ToV R nk v h F S' := by
  intro m c w m0 h0 w0 F0 hn hd hW hF hs hl
  obtain ⟨m', v', h', F', h1, hd', hW', hF', hs', hl'⟩ := hh m c w m0 h0 w0 F0 hn hd hW hF hs hl
  exact hq _ _ _ h1 m' c w m0 h0 w0 F0 hn hd' hW' hF' hs' hl'
theorem SafeCallX.post {P : Program} {f : FuncId} {args : List AV} {Q Q' HP HP' : AV → Rows → Fz → Prop} (hs : SafeCallX P R f args h F Q HP) (hq : ∀ v h' F', F.le F' → Q v h' F' → ToV R h.length v h' F' Q') (hp : ∀ v h' F', F.le F' → HP v h' F' → ToV R h.length v h' F' HP') : SafeCallX P R f args h F Q' HP' := by
  intro m w m0 h0 w0 F0 as h1 h2 h3 h4 h5
  refine (hs m w m h w F as h1 h2 h3 (Step.refl _ _ _) (.refl _ _ _ _)).mono ?_
  rintro e w' ⟨m', h', F', hW, hF, hl, hS, ⟨c, v, rfl, hqq, hd⟩ | ⟨c, v, rfl, hqq, hd⟩⟩
  · obtain ⟨m2, v2, h2', F2, q1, q2, q3, q4, q5, q6⟩ := hq _ _ _ hl.le hqq m' c w' m h w F (Nat.le_refl _) hd hW hF hS hl
    exact ⟨m2, h2', F2, q3, q4, h5.trans h4 q6, h4.trans q5, .inl ⟨c, v2, rfl, q1, q2⟩⟩
  · obtain ⟨m2, v2, h2', F2, q1, q2, q3, q4, q5, q6⟩ := hp _ _ _ hl.le hqq m' c w' m h w F (Nat.le_refl _) hd hW hF hS hl
    exact ⟨m2, h2', F2, q3, q4, h5.trans h4 q6, h4.trans q5, .inr ⟨c, v2, rfl, q1, q2⟩⟩
end

/-! ### A call that is known at some rows, at more of them -/
theorem FzOK.out {R : Nat → RoRow} {F F' : Fz} {m m' m'' : Map} {f : Nat → Option Nat} {hL h h' : Rows} {w w' : World} (hV : View f hL h) (hW : WR R m h w) (hf : FzOK F m h w) (hf' : FzOK F' m' h' w')
    (hTo : F.To (m.view f hL.es) hL w F') (hg : ∀ c, c < h'.length → m''.mu (ext f hL.length h.length c) = m'.mu c) (hro : m''.ro = m'.ro) (hS : Step m h w m'' (merged f hL.length hL.length h h') w') :
    FzOK F' m'' (merged f hL.length hL.length h h') w' ∧ F.To m h w F' := by
  refine ⟨⟨hf'.blk, ?_, fun i => by rw [hro]; exact hf'.ro i⟩, hTo.le, ?_⟩
  · intro b r hb hv
    obtain ⟨hblt, ⟨c, r', hc, hcb, hlc, rfl⟩ | ⟨hlb, hnn⟩⟩ := merged_live hb
    · subst hcb
      rw [hg c hc] at hv ⊢
      exact hf'.apart c r' hlc hv
    · have hmu : m''.mu b = m.mu b := hS.mu b (live_lt hlb)
      rw [hmu] at hv ⊢
      cases hx : F' (m.mu b).blk with
      | none => rfl
      | some x =>
        exfalso
        rcases hTo.new _ x hx with h1 | h1 | ⟨c, r', hc, hcv, hce⟩
        · rw [hf.apart b r hlb hv] at h1; cases h1
        · obtain ⟨_, _, h3⟩ := hW.row b r hlb
          rw [if_neg (by rw [hv]; simp)] at h3
          obtain ⟨cc, fz, hh, _⟩ := h3
          have := (Array.getElem?_eq_some_iff.1 hh).1
          omega
        · obtain ⟨d, r2, h1, h2, _, e1⟩ := hV.real hc hcv
          rw [e1] at hcv hce
          have hdb : d = b := hW.apart d b r2 r h2 hlb hcv hv hce
          subst hdb
          have := seen_of (live_lt hc) h1
          rw [this] at hnn; cases hnn
  · intro b x hx
    rcases hTo.new b x hx with h1 | h1 | ⟨c, r', hc, hcv, hce⟩
    · exact .inl h1
    · exact .inr (.inl h1)
    · obtain ⟨d, r2, h1, h2, _, e1⟩ := hV.real hc hcv
      rw [e1] at hcv hce
      exact .inr (.inr ⟨d, r2, h2, hcv, hce⟩)
theorem SafeCallX.focus {P : Program} {R : Nat → RoRow} {fn : FuncId} {f : Nat → Option Nat} {argsL args : List AV} {hL h : Rows} {F : Fz} {Q HP : AV → Rows → Fz → Prop} (hV : View f hL h) (hA : VwL f hL.length argsL args) (hs : SafeCallX P R fn argsL hL F Q HP) :
    SafeCallX P R fn args h F (fun v'' h'' F' => ∃ v' h', Q v' h' F' ∧ v'' = ren (ext f hL.length h.length) v' ∧ h'' = merged f hL.length hL.length h h') (fun v'' h'' F' => ∃ v' h', HP v' h' F' ∧ v'' = ren (ext f hL.length h.length) v' ∧ h'' = merged f hL.length hL.length h h') := by
  intro m w m0 h0 w0 F0 as has hW hf hstep hTo
  refine (hs _ w _ _ w F as (hA.den _ _ _ has) (hW.view hV) (hf.view hV) (Step.refl _ _ _) (.refl _ _ _ _)).mono ?_
  rintro e w' ⟨m', h', F', hW', hf', hl, hs', hcase⟩
  obtain ⟨m'', hg, hro, hW2, hS⟩ := merge_ok hV hW hW' hs'.toK
  obtain ⟨hf2, hl2⟩ := FzOK.out hV hW hf hf' hl (fun c hc => (hg c hc).2) hro hS
  refine ⟨m'', _, F', hW2, hf2, hTo.trans hstep hl2, hstep.trans hS, ?_⟩
  rcases hcase with ⟨c, v, rfl, hq, hd⟩ | ⟨c, v, rfl, hq, hd⟩
  · exact .inl ⟨c, _, rfl, ⟨v, h', hq, rfl, rfl⟩, ren_den hg hro v c hd⟩
  · exact .inr ⟨c, _, rfl, ⟨v, h', hq, rfl, rfl⟩, ren_den hg hro v c hd⟩

/-! ### Loops -/
theorem SafeX.loop {P : Program} {R : Nat → RoRow} {ds : List Deferred} {HP : AV → Rows → Fz → Prop} {body : Code} (nk : Nat) (Inv : Nat → St → Fz → Prop) {X : Exit → St → Fz → Prop}
    (hround : ∀ n st F, Inv n st F → SafeX P R ds body st F (fun e st' F' => match e with
      | .normal => ToX R ds nk st' F' fun st'' F'' => ∃ n', n' < n ∧ Inv n' st'' F''
      | e => ToX R ds nk st' F' (X e)) HP) :
    ∀ n st F, Inv n st F → ∀ m a w m0 h0 w0 F0, h0.length ≤ nk → RelX R ds m st a w → FzOK F m st.rows w → Step m0 h0 w0 m st.rows w → F0.To m0 h0 w0 F → (Code.loop body).wp P (PostX R ds X HP m0 h0 w0 F0) a w := by
  intro n st F hi m a w m0 h0 w0 F0 hn hr hf hs hl
  refine wp_loop_rounds (n + 1) ?_
  have key : ∀ N n, n < N → ∀ st F, Inv n st F → ∀ m a w, RelX R ds m st a w → FzOK F m st.rows w → Step m0 h0 w0 m st.rows w → F0.To m0 h0 w0 F → Code.rounds P body (PostX R ds X HP m0 h0 w0 F0) N a w := by
    intro N
    induction N with
    | zero => intro n h; omega
    | succ N ih =>
      intro n hlt st F hi m a w hr hf hs hl
      rw [rounds_succ]
      refine wp_mono (hround n st F hi m a w m0 h0 w0 F0 hr hf hs hl) ?_
      intro e a' w' hp
      cases e with
      | panic ch => exact hp
      | goto l => obtain ⟨_, _, _, h, _⟩ := hp; exact h.elim
      | outgrown => obtain ⟨_, _, _, h, _⟩ := hp; exact h.elim
      | normal =>
        obtain ⟨m', st', F', _, hq, hr', hf', hs', hl'⟩ := hp
        obtain ⟨m2, st2, F2, ⟨n', hlt', hi'⟩, q2, q3, q4, q5⟩ := hq m' a' w' m0 h0 w0 F0 hn hr' hf' hs' hl'
        exact ih n' (by omega) st2 F2 hi' m2 a' w' q2 q3 q4 q5
      | exit id =>
        obtain ⟨m', st', F', _, hq, hr', hf', hs', hl'⟩ := hp
        obtain ⟨m2, st2, F2, q1, q2, q3, q4, q5⟩ := hq m' a' w' m0 h0 w0 F0 hn hr' hf' hs' hl'
        exact ⟨m2, st2, F2, trivial, q1, q2, q3, q4, q5⟩
      | ret =>
        obtain ⟨m', st', F', _, hq, hr', hf', hs', hl'⟩ := hp
        obtain ⟨m2, st2, F2, q1, q2, q3, q4, q5⟩ := hq m' a' w' m0 h0 w0 F0 hn hr' hf' hs' hl'
        exact ⟨m2, st2, F2, trivial, q1, q2, q3, q4, q5⟩
  exact key (n + 1) n (Nat.lt_succ_self n) st F hi m a w hr hf hs hl

/-- A loop in its block. -/
theorem SafeX.loop_block {P : Program} {R : Nat → RoRow} {ds : List Deferred} {HP : AV → Rows → Fz → Prop} {body : Code} {id : Nat} {st : St} {F : Fz} (Inv : Nat → St → Fz → Prop) {Q : Exit → St → Fz → Prop}
    (h0 : ToX R ds st.rows.length st F fun st' F' => ∃ n, Inv n st' F')
    (hround : ∀ n st' F', Inv n st' F' → SafeX P R ds body st' F' (fun e st2 F2 => match e with
      | .normal => ToX R ds st.rows.length st2 F2 fun st3 F3 => ∃ n', n' < n ∧ Inv n' st3 F3
      | e => ToX R ds st.rows.length st2 F2 fun st3 F3 => Q (blockExit id e) st3 F3) HP) :
    SafeX P R ds (.block id (.loop body)) st F Q HP := by
  intro m a w m0 h1 w0 F0 hr hf hs hl
  obtain ⟨m', st', F', ⟨n, hi⟩, hr', hF', hs', hl'⟩ := h0 m a w m0 h1 w0 F0 hs.len hr hf hs hl
  have := SafeX.loop (X := fun e st3 F3 => Q (blockExit id e) st3 F3) st.rows.length Inv (fun n st' F' hi => hround n st' F' hi) n st' F' hi m' a w m0 h1 w0 F0 hs.len hr' hF' hs' hl'
  refine wp_block (wp_mono this ?_)
  intro e a' w' hp
  cases e with
  | panic ch => exact hp
  | goto l => obtain ⟨_, _, _, h, _⟩ := hp; exact h.elim
  | outgrown => obtain ⟨_, _, _, h, _⟩ := hp; exact h.elim
  | normal => exact hp
  | ret => exact hp
  | exit id' =>
    obtain ⟨m2, st2, F2, h1, h2, h3⟩ := hp
    simp only [Exit.inBlock]
    by_cases hid : id' = id
    · rw [if_pos hid]
      subst hid
      simp only [blockExit, Nat.beq_refl, cond_true] at h2
      exact ⟨m2, st2, F2, trivial, h2, h3⟩
    · rw [if_neg hid]
      have e : Nat.beq id' id = false := by rw [Bool.eq_false_iff]; exact fun e => hid (Nat.eq_of_beq_eq_true e)
      simp only [blockExit, e, cond_false] at h2
      exact ⟨m2, st2, F2, trivial, h2, h3⟩
end Go.Dc
end
section
set_option linter.unusedSimpArgs false
set_option linter.unusedVariables false
namespace Go.Dc

/-- A value that leads to no rows but frozen ones. -/
def gtk : AV → Prop
  | .bool _ | .int .. | .str _ | .nilp | .nils | .nilf | .nili => True
  | .sl true i _ _ _ => ∃ x, i = x + 15
  | .ptr true i _ _ => ∃ x, i = x + 15
  | _ => False
def Named (m : Map) : Prop := ∀ i, m.ro (i + 15) = tkLoc i
def DenT (a : AV) (v : Value) : Prop := ∀ m n, Named m → Den m n a v
theorem gtk.den {a : AV} (hg : gtk a) {m : Map} {n : Nat} (hm : Named m) {v : Value} (h : Den m n a v) : DenT a v := by
  intro m' n' hm'
  cases a with
  | sl ro i o l c =>
    cases ro with
    | false => exact hg.elim
    | true =>
      obtain ⟨x, rfl⟩ := hg
      simp only [Den, Map.loc, if_true] at h ⊢
      rw [hm' x]; rw [hm x] at h
      first | exact ⟨(fun e => absurd e (by decide)), h.2⟩ | exact h
  | ptr ro i o l =>
    cases ro with
    | false => exact hg.elim
    | true =>
      obtain ⟨x, rfl⟩ := hg
      simp only [Den, Map.loc, if_true] at h ⊢
      rw [hm' x]; rw [hm x] at h
      first | exact ⟨(fun e => absurd e (by decide)), h.2⟩ | exact h
  | any => exact hg.elim
  | fn => exact hg.elim
  | ifc => exact hg.elim
  | agg => exact hg.elim
  | tup => exact hg.elim
  | _ => simpa [Den] using h

/-- What is frozen under a name. -/
def Frz (F : Fz) (x : Nat) (r : RoRow) : Prop :=
  (x = 0 ∧ r.n = 0) ∨ ∃ blk off ext c, x = tkName r.esz blk off ext ∧ r.n ≤ ext ∧ F blk = some (r.ty, c) ∧ ∀ i, i < r.n → (r.at_ i).cells.length = r.esz ∧
    ∀ o a, (r.at_ i).cells[o]? = some a → a.one = true ∧ ∃ v, c[off + (i * r.esz + o)]? = some v ∧ DenT a v
theorem Frz.le {F F' : Fz} {x : Nat} {r : RoRow} (h : Frz F x r) (hl : F.le F') : Frz F' x r := by
  rcases h with h | ⟨blk, off, ext, c, h1, h2, h3, h4⟩
  · exact .inl h
  · exact .inr ⟨blk, off, ext, c, h1, h2, hl _ _ h3, h4⟩
/-- A row told as one that is only read. -/
structure RoOf (r : Row) (ro : RoRow) : Prop where
  ty : ro.ty = r.ty
  esz : ro.esz = r.esz
  len : ro.n ≤ r.len
  get : ∀ i, i < ro.n → r.get? i = some (ro.at_ i)
  gtk : ∀ i, i < ro.n → ∀ a ∈ (ro.at_ i).cells, gtk a
theorem RoOf.lst {t z : Nat} {l : List AV} (hg : ∀ e ∈ l, ∀ a ∈ e.cells, Dc.gtk a) : RoOf (.lst t z l) ⟨t, z, l.length, fun i => l.getD i .any⟩ where
  ty := rfl
  esz := rfl
  len := Nat.le_refl _
  get := fun i hi => by simp only [Row.get?]; simp [List.getD, hi]
  gtk := fun i hi => hg _ (by
    have hi : i < l.length := hi
    show l.getD i .any ∈ l
    simp only [List.getD, List.getElem?_eq_getElem hi, Option.getD_some]
    exact List.getElem_mem hi)
theorem RoOf.gen {t z n : Nat} {G : Nat → AV} (hg : ∀ i, i < n → ∀ a ∈ (G i).cells, Dc.gtk a) : RoOf (.gen t z n G) ⟨t, z, n, G⟩ where
  ty := rfl
  esz := rfl
  len := Nat.le_refl _
  get := fun i hi => by
    have hi : i < n := hi
    simp only [Row.get?]; rw [blt_t hi]; rfl
  gtk := hg

def Fz.add (F : Fz) (b : Nat) (x : TypeId × Array Value) : Fz := fun k => if k = b then some x else F k

theorem live_set_none {h : Rows} {b c : Nat} {r : Row} (hc : Rows.live (h.set b none) c = some r) : c ≠ b ∧ h.live c = some r := by
  unfold Rows.live at hc ⊢
  rw [List.getElem?_set] at hc
  by_cases e : b = c
  · subst e
    rw [if_pos rfl] at hc
    split at hc <;> simp at hc
  · rw [if_neg e] at hc
    exact ⟨fun e2 => e e2.symm, hc⟩

theorem freeze_ok {R : Nat → RoRow} {F : Fz} {m : Map} {h : Rows} {w : World} (hW : WR R m h w) (hf : FzOK F m h w) {b : Nat} {r : Row} {ro : RoRow} (hb : h.live b = some r) (hr : RoOf r ro) :
    ∃ F' x, F.le F' ∧ (∀ k y, F' k = some y → F k = some y ∨ (k = (m.mu b).blk ∧ (m.mu b).vir = false)) ∧ Frz F' x ro ∧ FzOK F' m (h.set b none) w ∧
      ∀ n len cp v, Den m n (.sl false b 0 len cp) v → Den m n (tok x len) v := by
  obtain ⟨hesz, hlen, hrow⟩ := hW.row b r hb
  have hro : Named m := hf.ro
  split at hrow
  · rename_i hv
    refine ⟨F, 0, F.le_refl, fun _ _ h => .inl h, .inl ⟨rfl, by have := hr.len; omega⟩, ⟨hf.blk, fun c r' hc hcv => hf.apart c r' (live_set_none hc).2 hcv, hf.ro⟩, ?_⟩
    intro n len cp v hd
    simp only [Den, Map.loc, Bool.false_eq_true, if_false, SlDen, hv, if_true] at hd
    obtain ⟨_, h1, ao, h2, _⟩ := hd
    simp only [tok, Den, Map.loc, if_true]
    have := hro 0
    simp only [Nat.zero_add] at this ⊢
    rw [this]
    first | exact ⟨(fun e => absurd e (by decide)), by simp only [SlDen, tkLoc, if_true]; exact ⟨h1, ao, h2, trivial⟩⟩ | (simp only [SlDen, tkLoc, if_true]; exact ⟨h1, ao, h2, trivial⟩)
  · rename_i hv
    have hv : (m.mu b).vir = false := by simpa using hv
    obtain ⟨c, fz, hh, hsz, hfz, hcell⟩ := hrow
    have hlt : (m.mu b).blk < w.heap.size := (Array.getElem?_eq_some_iff.1 hh).1
    have hnone := hf.apart b r hb hv
    refine ⟨F.add (m.mu b).blk (r.ty, c), tkName (m.mu b).esz (m.mu b).blk (m.mu b).shift (m.mu b).ext, ?_, ?_, .inr ⟨(m.mu b).blk, (m.mu b).shift, (m.mu b).ext, c, ?_, ?_, ?_, ?_⟩, ⟨?_, ?_, hf.ro⟩, ?_⟩
    · intro k x hk
      simp only [Fz.add]
      rw [if_neg]
      · exact hk
      · rintro rfl; rw [hnone] at hk; cases hk
    · intro k y hk
      simp only [Fz.add] at hk
      split at hk
      · rename_i e; exact .inr ⟨e, hv⟩
      · exact .inl hk
    · rw [hr.esz, hesz]
    · exact Nat.le_trans hr.len hlen
    · simp [Fz.add, hr.ty]
    · intro i hi
      obtain ⟨h1, h2⟩ := hcell i _ (hr.get i hi)
      refine ⟨by rw [h1, hr.esz, hesz], fun o a ha => ?_⟩
      obtain ⟨h3, v, h4, h5⟩ := h2 o a ha
      exact ⟨h3, v, by rw [hr.esz, ← hesz]; exact h4, (hr.gtk i hi a (List.mem_of_getElem? ha)).den hro h5⟩
    · intro k ty c' hk
      simp only [Fz.add] at hk
      split at hk
      · rename_i e; subst e; cases hk; exact ⟨fz, hh⟩
      · exact hf.blk k ty c' hk
    · intro c' r' hc hcv
      obtain ⟨hne, hc⟩ := live_set_none hc
      simp only [Fz.add]
      rw [if_neg]
      · exact hf.apart c' r' hc hcv
      · intro e; exact hne (hW.apart c' b r' r hc hb hcv hv e)
    · intro n len cp v hd
      simp only [Den, Map.loc, Bool.false_eq_true, if_false, SlDen, hv] at hd
      obtain ⟨_, a, cap, h1, h2, h3, h4, h5⟩ := hd
      simp only [tok, Den, Map.loc, if_true]
      rw [hro, tkLoc_name]
      first | refine ⟨(fun e => absurd e (by decide)), ?_⟩ | skip
      simp only [SlDen, Bool.false_eq_true, if_false]
      exact ⟨a, cap, h1, h2, h3, trivial, h5⟩

/-! ### Slices that lead to a frozen row, told by its name -/
def tk1 (b x : Nat) : AV → AV
  | .sl false c 0 l u => bif Nat.beq c b then tok x l else .sl false c 0 l u
  | y => y
def tkE (b x : Nat) : AV → AV
  | .agg cs => .agg (cs.map (tk1 b x))
  | y => tk1 b x y
def tk2 (b x : Nat) : AV → AV
  | .tup cs => .tup (cs.map (tkE b x))
  | y => tkE b x y
def tkRow (b x : Nat) : Row → Row
  | .lst t z l => .lst t z (l.map (tkE b x))
  | .gen t z n G => .gen t z n fun i => tkE b x (G i)
  | .byt t l => .byt t l
section
variable {m : Map} {b x : Nat} (hx : ∀ n len cp v, Den m n (.sl false b 0 len cp) v → Den m n (tok x len) v)
include hx
theorem tk1_den {n : Nat} {y : AV} {v : Value} (h : Den m n y v) : Den m n (tk1 b x y) v := by
  unfold tk1
  split
  · rename_i c l u
    cases hb : Nat.beq c b with
    | true => have := Nat.eq_of_beq_eq_true hb; subst this; exact hx _ _ _ _ h
    | false => exact h
  · exact h
theorem tk1_denL {n : Nat} : ∀ {l : List AV} {v : List Value}, DenL m n l v → DenL m n (l.map (tk1 b x)) v
  | [], _, h => h
  | y :: l, v, h => by
    simp only [DenL] at h
    obtain ⟨u, us, rfl, h1, h2⟩ := h
    simp only [List.map_cons, DenL]
    exact ⟨u, us, rfl, tk1_den hx h1, tk1_denL h2⟩
theorem tkE_den {n : Nat} {y : AV} {v : Value} (h : Den m n y v) : Den m n (tkE b x y) v := by
  unfold tkE
  split
  · simp only [Den] at h ⊢
    obtain ⟨vs, h1, h2⟩ := h
    exact ⟨vs, h1, tk1_denL hx h2⟩
  · exact tk1_den hx h
theorem tkE_denL {n : Nat} : ∀ {l : List AV} {v : List Value}, DenL m n l v → DenL m n (l.map (tkE b x)) v
  | [], _, h => h
  | y :: l, v, h => by
    simp only [DenL] at h
    obtain ⟨u, us, rfl, h1, h2⟩ := h
    simp only [List.map_cons, DenL]
    exact ⟨u, us, rfl, tkE_den hx h1, tkE_denL h2⟩
theorem tk2_den {n : Nat} {y : AV} {v : Value} (h : Den m n y v) : Den m n (tk2 b x y) v := by
  unfold tk2
  split
  · simp only [Den] at h ⊢
    obtain ⟨vs, h1, h2⟩ := h
    exact ⟨vs, h1, tkE_denL hx h2⟩
  · exact tkE_den hx h
end
theorem tk1_one (b x : Nat) (y : AV) : (tk1 b x y).one = y.one := by
  unfold tk1
  split
  · rename_i c l u
    cases hb : Nat.beq c b <;> rfl
  · rfl
theorem tk1_agg (b x : Nat) (y : AV) (cs : List AV) (hc : tk1 b x y = .agg cs) : y = .agg cs := by
  unfold tk1 at hc
  split at hc
  · rename_i c l u
    cases hb : Nat.beq c b <;> rw [hb] at hc <;> cases hc
  · exact hc
theorem cells_one {y : AV} (h : ∀ cs, y ≠ .agg cs) : y.cells = [y] := by
  cases y <;> first | rfl | exact absurd rfl (h _)
theorem tkE_cells (b x : Nat) (y : AV) : (tkE b x y).cells = y.cells.map (tk1 b x) := by
  unfold tkE
  split
  · rfl
  · rename_i h1
    rw [cells_one h1, cells_one (fun cs hc => h1 cs (tk1_agg _ _ _ _ hc))]
    rfl
theorem tkRow_ty (b x : Nat) (r : Row) : (tkRow b x r).ty = r.ty := by cases r <;> rfl
theorem tkRow_esz (b x : Nat) (r : Row) : (tkRow b x r).esz = r.esz := by cases r <;> rfl
theorem tkRow_len (b x : Nat) (r : Row) : (tkRow b x r).len = r.len := by cases r <;> simp [tkRow, Row.len]
theorem tkRow_get (b x : Nat) (r : Row) (i : Nat) (e : AV) (h : (tkRow b x r).get? i = some e) : (∃ e', r.get? i = some e' ∧ e.cells = e'.cells.map (tk1 b x)) := by
  cases r with
  | lst t z l =>
    simp only [tkRow, Row.get?, List.getElem?_map] at h ⊢
    obtain ⟨e', h1, rfl⟩ := Option.map_eq_some_iff.1 h
    exact ⟨e', h1, tkE_cells _ _ _⟩
  | gen t z n G =>
    simp only [tkRow, Row.get?] at h ⊢
    cases hb : Nat.blt i n <;> rw [hb] at h
    · simp at h
    · simp only [cond_true, Option.some.injEq] at h
      subst h
      exact ⟨G i, rfl, tkE_cells _ _ _⟩
  | byt t l =>
    refine ⟨e, h, ?_⟩
    simp only [tkRow, Row.get?] at h
    obtain ⟨c, _, rfl⟩ := Option.map_eq_some_iff.1 h
    rfl
def tkRows (b x : Nat) (h : Rows) : Rows := h.map (Option.map (tkRow b x))
theorem tkRows_live {b x : Nat} {h : Rows} {c : Nat} {r : Row} (hc : (tkRows b x h).live c = some r) : ∃ r', h.live c = some r' ∧ r = tkRow b x r' := by
  unfold Rows.live tkRows at hc
  unfold Rows.live
  rw [List.getElem?_map] at hc
  cases hh : h[c]? with
  | none => rw [hh] at hc; simp at hc
  | some o =>
    rw [hh] at hc
    cases o with
    | none => simp at hc
    | some r' => simp at hc; exact ⟨r', rfl, hc.symm⟩
theorem WR.tk {R : Nat → RoRow} {m : Map} {b x : Nat} (hx : ∀ n len cp v, Den m n (.sl false b 0 len cp) v → Den m n (tok x len) v) {h : Rows} {w : World} (hW : WR R m h w) : WR R m (tkRows b x h) w where
  row := fun c r hc => by
    obtain ⟨r', hc', rfl⟩ := tkRows_live hc
    obtain ⟨h1, h2, h3⟩ := hW.row c r' hc'
    refine ⟨by rw [tkRow_esz]; exact h1, by rw [tkRow_len]; exact h2, ?_⟩
    split
    · rename_i hv
      rw [if_pos hv] at h3
      exact ⟨by rw [tkRow_len]; exact h3.1, h3.2⟩
    · rename_i hv
      rw [if_neg hv] at h3
      obtain ⟨cc, fz, h4, h5, h6, h7⟩ := h3
      refine ⟨cc, fz, by rw [tkRow_ty]; exact h4, h5, h6, ?_⟩
      intro i e he
      obtain ⟨e', he', hcells⟩ := tkRow_get _ _ _ _ _ he
      obtain ⟨h8, h9⟩ := h7 i e' he'
      refine ⟨by rw [hcells, List.length_map]; exact h8, fun o a ha => ?_⟩
      rw [hcells, List.getElem?_map] at ha
      obtain ⟨a', ha', rfl⟩ := Option.map_eq_some_iff.1 ha
      obtain ⟨h10, v, h11, h12⟩ := h9 o a' ha'
      refine ⟨by rw [tk1_one]; exact h10, v, h11, ?_⟩
      have : (tkRows b x h).length = h.length := by simp [tkRows]
      rw [this]
      exact tk1_den hx h12
  apart := fun c c' r r' hc hc' hv hv' he => by
    obtain ⟨_, hc, _⟩ := tkRows_live hc
    obtain ⟨_, hc', _⟩ := tkRows_live hc'
    exact hW.apart _ _ _ _ hc hc' hv hv' he
  ro := hW.ro
  roApart := fun i c r hc hv hv' hn => by
    obtain ⟨_, hc, _⟩ := tkRows_live hc
    exact hW.roApart i c _ hc hv hv' hn
theorem WR.dropRow {R : Nat → RoRow} {m : Map} {h : Rows} {w : World} (hW : WR R m h w) (b : Nat) : WR R m (h.set b none) w where
  row := fun c r hc => by
    have := hW.row c r (live_set_none hc).2
    rw [List.length_set]; exact this
  apart := fun c c' r r' hc hc' => hW.apart c c' r r' (live_set_none hc).2 (live_set_none hc').2
  ro := hW.ro
  roApart := fun i c r hc => hW.roApart i c r (live_set_none hc).2
theorem Step.dropRow {m0 m : Map} {h0 h : Rows} {w0 w : World} (hs : Step m0 h0 w0 m h w) (b x : Nat) : Step m0 h0 w0 m ((tkRows b x h).set b none) w where
  os := hs.os
  tape := hs.tape
  output := hs.output
  size := hs.size
  block := hs.block
  len := by rw [List.length_set]; simp only [tkRows, List.length_map]; exact hs.len
  mu := hs.mu
  ro := hs.ro
  new := fun c r hc hv => by
    obtain ⟨_, hc, _⟩ := tkRows_live (live_set_none hc).2
    exact hs.new c _ hc hv
theorem FzOK.tk {F : Fz} {m : Map} {h : Rows} {w : World} {b : Nat} (x : Nat) (hf : FzOK F m (h.set b none) w) : FzOK F m ((tkRows b x h).set b none) w where
  blk := hf.blk
  apart := fun c r hc hv => by
    obtain ⟨hne, hc⟩ := live_set_none hc
    obtain ⟨r', hc, _⟩ := tkRows_live hc
    refine hf.apart c r' ?_ hv
    unfold Rows.live at hc ⊢
    rw [List.getElem?_set, if_neg (fun e => hne e.symm)]
    exact hc
  ro := hf.ro
theorem Fz.To.freeze {F0 F F' : Fz} {m0 m : Map} {h0 h : Rows} {w0 w : World} (hs : Step m0 h0 w0 m h w) (hl : F0.To m0 h0 w0 F) {b : Nat} {r : Row} (hb : h.live b = some r) (h1 : F.le F')
    (h2 : ∀ k y, F' k = some y → F k = some y ∨ (k = (m.mu b).blk ∧ (m.mu b).vir = false)) : F0.To m0 h0 w0 F' where
  le := Fz.le_trans hl.le h1
  new := fun k y hk => by
    rcases h2 k y hk with h3 | ⟨rfl, hv⟩
    · exact hl.new k y h3
    · rcases hs.new b r hb hv with h4 | ⟨c, r', hc, hcv, hce⟩
      · exact .inr (.inl h4)
      · exact .inr (.inr ⟨c, r', hc, hcv, hce⟩)
/-- A row is frozen. -/
theorem ToX.freeze {R : Nat → RoRow} {ds : List Deferred} {nk : Nat} {st : St} {F : Fz} {S : St → Fz → Prop} (b : Nat) {r : Row} {ro : RoRow} (hb : st.rows.live b = some r) (hr : RoOf r ro)
    (hk : ∀ F' x, F.le F' → Frz F' x ro → ToX R ds nk ⟨st.tmps.map (tk2 b x), (tkRows b x st.rows).set b none⟩ F' S) : ToX R ds nk st F S := by
  intro m a w m0 h0 w0 F0 hn hrel hf hs hl
  obtain ⟨F', x, h1, h2, h3, h4, h5⟩ := freeze_ok hrel.wr hf hb hr
  refine hk F' x h1 h3 m a w m0 h0 w0 F0 hn ⟨by simpa using hrel.size, ?_, hrel.defers, (WR.tk h5 hrel.wr).dropRow b⟩ (FzOK.tk x h4) (hs.dropRow b x) (hl.freeze hs hb h1 h2)
  intro i y hy
  simp only [List.getElem?_map] at hy
  obtain ⟨y', hy', rfl⟩ := Option.map_eq_some_iff.1 hy
  obtain ⟨c, hc, hd⟩ := hrel.tmps i y' hy'
  refine ⟨c, hc, ?_⟩
  have : ((tkRows b x st.rows).set b none).length = st.rows.length := by simp [tkRows]
  simp only [this]
  exact tk2_den h5 hd
theorem ToV.freeze {R : Nat → RoRow} {nk : Nat} {v : AV} {h : Rows} {F : Fz} {S : AV → Rows → Fz → Prop} (b : Nat) {r : Row} {ro : RoRow} (hb : h.live b = some r) (hr : RoOf r ro)
    (hk : ∀ F' x, F.le F' → Frz F' x ro → ToV R nk (tk2 b x v) ((tkRows b x h).set b none) F' S) : ToV R nk v h F S := by
  intro m c w m0 h0 w0 F0 hn hd hW hf hs hl
  obtain ⟨F', x, h1, h2, h3, h4, h5⟩ := freeze_ok hW hf hb hr
  refine hk F' x h1 h3 m c w m0 h0 w0 F0 hn ?_ ((WR.tk h5 hW).dropRow b) (FzOK.tk x h4) (hs.dropRow b x) (hl.freeze hs hb h1 h2)
  have : ((tkRows b x h).set b none).length = h.length := by simp [tkRows]
  rw [this]
  exact tk2_den h5 hd
/-- A call: a row that is handed over is frozen ahead of it. -/
theorem SafeCallX.freeze {P : Program} {R : Nat → RoRow} {f : FuncId} {args : List AV} {h : Rows} {F : Fz} {Q HP : AV → Rows → Fz → Prop} (b : Nat) {r : Row} {ro : RoRow} (hb : h.live b = some r) (hr : RoOf r ro)
    (hk : ∀ F' x, F.le F' → Frz F' x ro → SafeCallX P R f (args.map (tk2 b x)) ((tkRows b x h).set b none) F' Q HP) : SafeCallX P R f args h F Q HP := by
  intro m w m0 h0 w0 F0 as hd hW hf hs hl
  obtain ⟨F', x, h1, h2, h3, h4, h5⟩ := freeze_ok hW hf hb hr
  refine hk F' x h1 h3 m w m0 h0 w0 F0 as ?_ ((WR.tk h5 hW).dropRow b) (FzOK.tk x h4) (hs.dropRow b x) (hl.freeze hs hb h1 h2)
  have : ((tkRows b x h).set b none).length = h.length := by simp [tkRows]
  rw [this]
  have key : ∀ {l : List AV} {v : List Value}, DenL m h.length l v → DenL m h.length (l.map (tk2 b x)) v := by
    intro l
    induction l with
    | nil => intro v h; exact h
    | cons y l ih =>
      intro v h
      simp only [DenL] at h
      obtain ⟨u, us, rfl, h1, h2⟩ := h
      simp only [List.map_cons, DenL]
      exact ⟨u, us, rfl, tk2_den h5 h1, ih h2⟩
  exact key hd

/-- A literal nil is the empty slice that is nowhere. -/
theorem nils_tok {m : Map} (hm : Named m) {n : Nat} {v : Value} (h : Den m n .nils v) : Den m n (tok 0 0) v := by
  simp only [Den] at h
  subst h
  simp only [tok, Den, Map.loc, if_true]
  have := hm 0
  simp only [Nat.zero_add] at this ⊢
  rw [this]
  exact ⟨(fun e => absurd e (by decide)), by simp [SlDen, tkLoc, CpOK]⟩
end Go.Dc
end
section
set_option linter.unusedSimpArgs false
set_option linter.unusedVariables false
namespace Go.Dc

def updR (R : Nat → RoRow) (k : Nat) (r : RoRow) : Nat → RoRow := fun i => bif Nat.beq i k then r else R i
def nmI (k x i : Nat) : Nat := bif Nat.beq i k then x + 15 else i
mutual
/-- The number k told by the name x. -/
def nm (k x : Nat) : AV → AV
  | .ptr true i a b => .ptr true (nmI k x i) a b
  | .sl true i a b c => .sl true (nmI k x i) a b c
  | .fn f a c => .fn f (nmL k x a) (nmL k x c)
  | .ifc t a => .ifc t (nm k x a)
  | .agg cs => .agg (nmL k x cs)
  | .tup cs => .tup (nmL k x cs)
  | .ptr false i a b => .ptr false i a b
  | .sl false i a b c => .sl false i a b c
  | .any => .any
  | .bool b => .bool b
  | .int a b => .int a b
  | .str l => .str l
  | .nilp => .nilp
  | .nils => .nils
  | .nilf => .nilf
  | .nili => .nili
def nmL (k x : Nat) : List AV → List AV
  | [] => []
  | a :: l => nm k x a :: nmL k x l
end
theorem nmL_eq (k x : Nat) : ∀ l, nmL k x l = l.map (nm k x)
  | [] => rfl
  | a :: l => by simp only [nmL, List.map_cons, nmL_eq k x l]
/-- The two maps of memory. -/
structure NmOK (k x : Nat) (m2 m : Map) : Prop where
  mu : m2.mu = m.mu
  ro : ∀ i, m2.ro i = m.ro (nmI k x i) ∨ ((m2.ro i).vir = true ∧ (m.ro (nmI k x i)).vir = true)
theorem NmOK.sl {k x : Nat} {m2 m : Map} (h : NmOK k x m2 m) (i o l : Nat) (c : Cp) (v : Value) : SlDen (m2.ro i) o l c v ↔ SlDen (m.ro (nmI k x i)) o l c v := by
  rcases h.ro i with e | ⟨e1, e2⟩
  · rw [e]
  · simp only [SlDen, e1, e2, if_true]
mutual
theorem nm_den {k x : Nat} {m2 m : Map} (h : NmOK k x m2 m) (n : Nat) : ∀ (y : AV) (v : Value), Den m2 n y v ↔ Den m n (nm k x y) v
  | .ptr true i a b, v => by
    simp only [nm, Den, Map.loc, if_true]
    rcases h.ro i with e | ⟨e1, e2⟩
    · rw [e]; simp
    · rw [e1, e2]; simp
  | .sl true i a b c, v => by
    simp only [nm, Den, Map.loc, if_true]
    rw [h.sl]; simp
  | .ptr false i a b, v => by
    simp only [nm, Den, Map.loc, Bool.false_eq_true, if_false, h.mu]
  | .sl false i a b c, v => by
    simp only [nm, Den, Map.loc, Bool.false_eq_true, if_false, h.mu]
  | .fn f a c, v => by
    simp only [nm, Den]
    constructor
    · rintro ⟨us, vs, e, h1, h2⟩; exact ⟨us, vs, e, (nmL_den h n _ _).1 h1, (nmL_den h n _ _).1 h2⟩
    · rintro ⟨us, vs, e, h1, h2⟩; exact ⟨us, vs, e, (nmL_den h n _ _).2 h1, (nmL_den h n _ _).2 h2⟩
  | .ifc t a, v => by
    simp only [nm, Den]
    constructor
    · rintro ⟨u, e, h1⟩; exact ⟨u, e, (nm_den h n _ _).1 h1⟩
    · rintro ⟨u, e, h1⟩; exact ⟨u, e, (nm_den h n _ _).2 h1⟩
  | .agg cs, v => by
    simp only [nm, Den]
    constructor
    · rintro ⟨u, e, h1⟩; exact ⟨u, e, (nmL_den h n _ _).1 h1⟩
    · rintro ⟨u, e, h1⟩; exact ⟨u, e, (nmL_den h n _ _).2 h1⟩
  | .tup cs, v => by
    simp only [nm, Den]
    constructor
    · rintro ⟨u, e, h1⟩; exact ⟨u, e, (nmL_den h n _ _).1 h1⟩
    · rintro ⟨u, e, h1⟩; exact ⟨u, e, (nmL_den h n _ _).2 h1⟩
  | .any, v => by simp only [nm, Den]
  | .bool b, v => by simp only [nm, Den]
  | .int a b, v => by simp only [nm, Den]
  | .str l, v => by simp only [nm, Den]
  | .nilp, v => by simp only [nm, Den]
  | .nils, v => by simp only [nm, Den]
  | .nilf, v => by simp only [nm, Den]
  | .nili, v => by simp only [nm, Den]
theorem nmL_den {k x : Nat} {m2 m : Map} (h : NmOK k x m2 m) (n : Nat) : ∀ (y : List AV) (v : List Value), DenL m2 n y v ↔ DenL m n (nmL k x y) v
  | [], v => by simp only [nmL, DenL]
  | a :: l, v => by
    simp only [nmL, DenL]
    constructor
    · rintro ⟨u, us, e, h1, h2⟩; exact ⟨u, us, e, (nm_den h n _ _).1 h1, (nmL_den h n _ _).1 h2⟩
    · rintro ⟨u, us, e, h1, h2⟩; exact ⟨u, us, e, (nm_den h n _ _).2 h1, (nmL_den h n _ _).2 h2⟩
end
def nmRow (k x : Nat) : Row → Row
  | .lst t z l => .lst t z (l.map (nm k x))
  | .gen t z n G => .gen t z n fun i => nm k x (G i)
  | .byt t l => .byt t l
def nmRows (k x : Nat) (h : Rows) : Rows := h.map (Option.map (nmRow k x))
def nmSt (k x : Nat) (st : St) : St := ⟨st.tmps.map (nm k x), nmRows k x st.rows⟩
theorem nm_one (k x : Nat) (y : AV) : (nm k x y).one = y.one := by
  cases y with
  | ptr ro => cases ro <;> simp [nm, AV.one]
  | sl ro => cases ro <;> simp [nm, AV.one]
  | _ => simp [nm, AV.one]
theorem nm_cells (k x : Nat) (y : AV) : (nm k x y).cells = y.cells.map (nm k x) := by
  cases y with
  | ptr ro => cases ro <;> simp [nm, AV.cells]
  | sl ro => cases ro <;> simp [nm, AV.cells]
  | agg cs => simp [nm, AV.cells, nmL_eq]
  | _ => simp [nm, AV.cells]
theorem nmRow_ty (k x : Nat) (r : Row) : (nmRow k x r).ty = r.ty := by cases r <;> rfl
theorem nmRow_esz (k x : Nat) (r : Row) : (nmRow k x r).esz = r.esz := by cases r <;> rfl
theorem nmRow_len (k x : Nat) (r : Row) : (nmRow k x r).len = r.len := by cases r <;> simp [nmRow, Row.len]
theorem nmRow_get (k x : Nat) (r : Row) (i : Nat) : (nmRow k x r).get? i = (r.get? i).map (nm k x) := by
  cases r with
  | lst t z l => simp [nmRow, Row.get?]
  | gen t z n G =>
    simp only [nmRow, Row.get?]
    cases Nat.blt i n <;> rfl
  | byt t l =>
    simp only [nmRow, Row.get?, Option.map_map]
    congr 1
theorem nmRows_live (k x : Nat) (h : Rows) (c : Nat) : (nmRows k x h).live c = (h.live c).map (nmRow k x) := by
  unfold Rows.live nmRows
  rw [List.getElem?_map]
  cases h[c]? with
  | none => rfl
  | some o => cases o <;> rfl
theorem nmRows_length (k x : Nat) (h : Rows) : (nmRows k x h).length = h.length := by simp [nmRows]
theorem RowOK.nm {k x : Nat} {m2 m : Map} (hm : NmOK k x m2 m) {n : Nat} {l : Loc} {r : Row} {w : World} : RowOK m2 n l r w ↔ RowOK m n l (nmRow k x r) w := by
  unfold RowOK
  rw [nmRow_esz, nmRow_len, nmRow_ty]
  refine and_congr Iff.rfl (and_congr Iff.rfl ?_)
  split
  · exact Iff.rfl
  · constructor
    · rintro ⟨c, fz, h1, h2, h3, h4⟩
      refine ⟨c, fz, h1, h2, h3, fun i e he => ?_⟩
      rw [nmRow_get] at he
      obtain ⟨e', he', rfl⟩ := Option.map_eq_some_iff.1 he
      obtain ⟨h5, h6⟩ := h4 i e' he'
      refine ⟨by rw [nm_cells, List.length_map]; exact h5, fun o a ha => ?_⟩
      rw [nm_cells, List.getElem?_map] at ha
      obtain ⟨a', ha', rfl⟩ := Option.map_eq_some_iff.1 ha
      obtain ⟨h7, v, h8, h9⟩ := h6 o a' ha'
      exact ⟨by rw [nm_one]; exact h7, v, h8, (nm_den hm n _ _).1 h9⟩
    · rintro ⟨c, fz, h1, h2, h3, h4⟩
      refine ⟨c, fz, h1, h2, h3, fun i e he => ?_⟩
      obtain ⟨h5, h6⟩ := h4 i (Dc.nm k x e) (by rw [nmRow_get, he]; rfl)
      rw [nm_cells, List.length_map] at h5
      refine ⟨h5, fun o a ha => ?_⟩
      obtain ⟨h7, v, h8, h9⟩ := h6 o (Dc.nm k x a) (by rw [nm_cells, List.getElem?_map, ha]; rfl)
      exact ⟨by rw [nm_one] at h7; exact h7, v, h8, (nm_den hm n _ _).2 h9⟩
/-- Live rows alone. -/
structure WRl (m : Map) (h : Rows) (w : World) : Prop where
  row : ∀ b r, h.live b = some r → RowOK m h.length (m.mu b) r w
  apart : ∀ b b' r r', h.live b = some r → h.live b' = some r' → (m.mu b).vir = false → (m.mu b').vir = false → (m.mu b).blk = (m.mu b').blk → b = b'
theorem WRl.nm {k x : Nat} {m2 m : Map} (hm : NmOK k x m2 m) {h : Rows} {w : World} : WRl m2 h w ↔ WRl m (nmRows k x h) w := by
  constructor
  · intro hw
    refine ⟨fun b r hb => ?_, fun b b' r r' hb hb' => ?_⟩
    · rw [nmRows_live] at hb
      obtain ⟨r0, hb0, rfl⟩ := Option.map_eq_some_iff.1 hb
      rw [nmRows_length, ← hm.mu]
      exact (RowOK.nm hm).1 (hw.row b r0 hb0)
    · rw [nmRows_live] at hb hb'
      obtain ⟨r0, hb0, rfl⟩ := Option.map_eq_some_iff.1 hb
      obtain ⟨r1, hb1, rfl⟩ := Option.map_eq_some_iff.1 hb'
      rw [← hm.mu]
      exact hw.apart b b' _ _ hb0 hb1
  · intro hw
    refine ⟨fun b r hb => ?_, fun b b' r r' hb hb' => ?_⟩
    · have := hw.row b (nmRow k x r) (by rw [nmRows_live, hb]; rfl)
      rw [nmRows_length, ← hm.mu] at this
      exact (RowOK.nm hm).2 this
    · have := hw.apart b b' (nmRow k x r) (nmRow k x r') (by rw [nmRows_live, hb]; rfl) (by rw [nmRows_live, hb']; rfl)
      rw [← hm.mu] at this
      exact this

/-- The map inside. -/
noncomputable def inner (m : Map) (k x : Nat) (z : Nat) : Map := ⟨m.mu, fun i => bif Nat.beq i k then (match x with | 0 => ⟨0, 0, z, 0, true⟩ | x + 1 => tkLoc (x + 1)) else m.ro i⟩
theorem inner_nm {m : Map} (hm : Named m) (k x z : Nat) : NmOK k x (inner m k x z) m := by
  refine ⟨rfl, fun i => ?_⟩
  simp only [inner, nmI]
  cases hb : Nat.beq i k with
  | false => exact .inl rfl
  | true =>
    simp only [cond_true]
    rw [hm x]
    cases x with
    | zero => exact .inr ⟨rfl, rfl⟩
    | succ x => exact .inl rfl
theorem inner_named {m : Map} (hm : Named m) {k : Nat} (hk : k < 15) (x z : Nat) : Named (inner m k x z) := by
  intro i
  simp only [inner]
  have : Nat.beq (i + 15) k = false := by rw [Bool.eq_false_iff]; intro e; have := Nat.eq_of_beq_eq_true e; omega
  rw [this]
  exact hm i
theorem RoOK.same {m m' : Map} {l : Loc} {r : RoRow} {w : World} (h : RoOK m l r w) (hd : ∀ i, i < r.n → ∀ a ∈ (r.at_ i).cells, ∀ v, Den m 0 a v → Den m' 0 a v) : RoOK m' l r w := by
  obtain ⟨h1, h2, h3⟩ := h
  refine ⟨h1, h2, ?_⟩
  split
  · rename_i hv; rw [if_pos hv] at h3; exact h3
  · rename_i hv
    rw [if_neg hv] at h3
    intro hn
    obtain ⟨c, fz, hc, hel⟩ := h3 hn
    refine ⟨c, fz, hc, fun j hj => ?_⟩
    obtain ⟨hl, hcell⟩ := hel j hj
    refine ⟨hl, fun o a ha => ?_⟩
    obtain ⟨h4, v, h5, h6⟩ := hcell o a ha
    exact ⟨h4, v, h5, hd j hj a (List.mem_of_getElem? ha) v h6⟩
/-- No row that is read speaks of the number k. -/
def Quits (R : Nat → RoRow) (k : Nat) : Prop := ∀ i j, j < (R i).n → ∀ a ∈ ((R i).at_ j).cells, ∀ x, nm k x a = a

section
variable {P : Program} {R : Nat → RoRow} {ds : List Deferred} {k x : Nat} {ro : RoRow} {F : Fz} {m : Map} {w : World}
theorem WR.inward (hk : k < 15) (hfr : Frz F x ro) (h0 : (R k).n = 0) (hR : Quits R k) {h : Rows} (hW : WR R m (nmRows k x h) w) (hf : FzOK F m (nmRows k x h) w) :
    WR (updR R k ro) (inner m k x ro.esz) h w ∧ FzOK F (inner m k x ro.esz) h w := by
  have hm : Named m := hf.ro
  have hN := inner_nm hm k x ro.esz
  have hl : WRl (inner m k x ro.esz) h w := (WRl.nm hN).2 ⟨hW.row, hW.apart⟩
  have hap : ∀ b r, h.live b = some r → (m.mu b).vir = false → F (m.mu b).blk = none := fun b r hb hv => hf.apart b (nmRow k x r) (by rw [nmRows_live, hb]; rfl) hv
  refine ⟨⟨hl.row, hl.apart, ?_, ?_⟩, ⟨hf.blk, hap, inner_named hm hk x ro.esz⟩⟩
  · intro i
    cases hb : Nat.beq i k with
    | false =>
      have e1 : updR R k ro i = R i := by simp only [updR, hb, cond_false]
      have e2 : (inner m k x ro.esz).ro i = m.ro i := by simp only [inner, hb, cond_false]
      rw [e1, e2]
      refine (hW.ro i).same fun j hj a ha v hd => ?_
      rw [nm_den hN, hR i j hj a ha x]
      exact hd
    | true =>
      have e1 : updR R k ro i = ro := by simp only [updR, hb, cond_true]
      rw [e1]
      rcases hfr with ⟨rfl, hn⟩ | ⟨blk, off, ext, c, hx, hne, hF, hcell⟩
      · have e2 : (inner m k 0 ro.esz).ro i = ⟨0, 0, ro.esz, 0, true⟩ := by simp only [inner, hb, cond_true]
        rw [e2]
        exact ⟨rfl, by rw [hn]; exact Nat.zero_le _, by simp only [if_true]; exact hn⟩
      · obtain ⟨y, hy⟩ : ∃ y, x = y + 1 := ⟨_, hx⟩
        have e2 : (inner m k x ro.esz).ro i = ⟨blk, off, ro.esz, ext, false⟩ := by
          simp only [inner, hb, cond_true]
          rw [hy]
          show tkLoc (y + 1) = _
          rw [← hy, hx, tkLoc_name]
        rw [e2]
        refine ⟨rfl, hne, ?_⟩
        simp only [Bool.false_eq_true, if_false]
        intro _
        obtain ⟨fz, hh⟩ := hf.blk _ _ _ hF
        refine ⟨c, fz, hh, fun j hj => ?_⟩
        obtain ⟨h1, h2⟩ := hcell j hj
        refine ⟨h1, fun o a ha => ?_⟩
        obtain ⟨h3, v, h4, h5⟩ := h2 o a ha
        exact ⟨h3, v, h4, h5 _ _ (inner_named hm hk x ro.esz)⟩
  · intro i b r hb hv hv2 hn
    simp only [updR, inner] at hv2 hn ⊢
    cases hbk : Nat.beq i k with
    | false =>
      rw [hbk] at hv2 hn
      simp only [cond_false] at hv2 hn ⊢
      exact hW.roApart i b (nmRow k x r) (by rw [nmRows_live, hb]; rfl) hv hv2 hn
    | true =>
      rw [hbk] at hv2 hn
      simp only [cond_true] at hv2 hn ⊢
      rcases hfr with ⟨rfl, hn0⟩ | ⟨blk, off, ext, c, hx, hne, hF, hcell⟩
      · simp at hv2
      · obtain ⟨y, rfl⟩ : ∃ y, x = y + 1 := ⟨_, hx⟩
        simp only []
        rw [hx, tkLoc_name]
        simp only []
        intro e
        rw [e, hap b r hb hv] at hF
        cases hF
theorem WR.outward {h h' : Rows} {m' : Map} {w' : World} {F' : Fz} (hm : Named m) (h0 : (R k).n = 0) (hR : Quits R k) (hN : NmOK k x m' ⟨m'.mu, m.ro⟩) (hro : ∀ i, Nat.beq i k = false → m'.ro i = m.ro i) (hW0 : ∀ i, (R i).esz = (m.ro i).esz)
    (hW : WR (updR R k ro) m' h' w') (hf : FzOK F' m' h' w') (hh : nmRows k x h' = h') : WR R ⟨m'.mu, m.ro⟩ h' w' ∧ FzOK F' ⟨m'.mu, m.ro⟩ h' w' := by
  have hl : WRl ⟨m'.mu, m.ro⟩ h' w' := by have := (WRl.nm hN).1 ⟨hW.row, hW.apart⟩; rwa [hh] at this
  refine ⟨⟨hl.row, hl.apart, ?_, ?_⟩, ⟨hf.blk, hf.apart, hm⟩⟩
  · intro i
    cases hb : Nat.beq i k with
    | false =>
      have := hW.ro i
      simp only [updR, hb, cond_false] at this
      rw [hro i hb] at this
      refine this.same fun j hj a ha v hd => ?_
      rw [← hR i j hj a ha x, ← nm_den hN]
      exact hd
    | true =>
      have := Nat.eq_of_beq_eq_true hb
      subst this
      refine ⟨(hW0 i).symm, by rw [h0]; exact Nat.zero_le _, ?_⟩
      split
      · exact h0
      · rw [h0]; intro h; exact absurd h (Nat.lt_irrefl _)
  · intro i b r hb hv hv2 hn
    cases hbk : Nat.beq i k with
    | false =>
      have := hW.roApart i b r hb hv
      simp only [updR, hbk, cond_false] at this
      rw [hro i hbk] at this
      exact this hv2 hn
    | true =>
      have := Nat.eq_of_beq_eq_true hbk
      subst this
      rw [h0] at hn
      exact absurd hn (Nat.lt_irrefl _)
theorem Step.inward {h h' : Rows} {m2 m' : Map} {w' : World} (hmu : m2.mu = m.mu) (hs : Step m2 h w m' h' w') : Step m (nmRows k x h) w ⟨m'.mu, m.ro⟩ h' w' where
  os := hs.os
  tape := hs.tape
  output := hs.output
  size := hs.size
  block := fun j hj hn => hs.block j hj fun b r hb hv => by
    rw [hmu] at hv ⊢
    exact hn b (nmRow k x r) (by rw [nmRows_live, hb]; rfl) hv
  len := by rw [nmRows_length]; exact hs.len
  mu := fun b hb => by rw [nmRows_length] at hb; rw [← hmu]; exact hs.mu b hb
  ro := rfl
  new := fun b r hb hv => by
    rcases hs.new b r hb hv with h1 | ⟨c, r', hc, hcv, hce⟩
    · exact .inl h1
    · rw [hmu] at hcv hce
      exact .inr ⟨c, nmRow k x r', by rw [nmRows_live, hc]; rfl, hcv, hce⟩
theorem Fz.To.inward {h : Rows} {m2 : Map} {F' : Fz} (hmu : m2.mu = m.mu) (hl : F.To m2 h w F') : F.To m (nmRows k x h) w F' where
  le := hl.le
  new := fun b y hb => by
    rcases hl.new b y hb with h1 | h1 | ⟨c, r', hc, hcv, hce⟩
    · exact .inl h1
    · exact .inr (.inl h1)
    · rw [hmu] at hcv hce
      exact .inr (.inr ⟨c, nmRow k x r', by rw [nmRows_live, hc]; rfl, hcv, hce⟩)
theorem SafeX.swap {c : Code} {st : St} {Q Q1 : Exit → St → Fz → Prop} {HP HP1 : AV → Rows → Fz → Prop} (hk : k < 15) (hfr : Frz F x ro) (h0 : (R k).n = 0) (hR : Quits R k) (h : SafeX P (updR R k ro) ds c st F Q HP)
    (hq : ∀ e st' F', F.le F' → Q e st' F' → nmSt k x st' = st' ∧ Q1 e st' F') (hp : ∀ v h' F', F.le F' → HP v h' F' → nm k x v = v ∧ nmRows k x h' = h' ∧ HP1 v h' F') : SafeX P R ds c (nmSt k x st) F Q1 HP1 := by
  intro m a w m0 h1 w0 F0 hr hf hs hl
  have hm : Named m := hf.ro
  obtain ⟨hW2, hf2⟩ := WR.inward hk hfr h0 hR hr.wr hf
  have hN := inner_nm hm k x ro.esz
  have hr2 : RelX (updR R k ro) ds (inner m k x ro.esz) st a w := by
    refine ⟨by simpa [nmSt] using hr.size, ?_, hr.defers, hW2⟩
    intro i y hy
    obtain ⟨c, hc, hd⟩ := hr.tmps i (nm k x y) (by simp only [nmSt, List.getElem?_map, hy]; rfl)
    refine ⟨c, hc, ?_⟩
    simp only [nmSt, nmRows_length] at hd
    exact (nm_den hN _ _ _).2 hd
  have hesz : ∀ i, (R i).esz = (m.ro i).esz := fun i => (hr.wr.ro i).1.symm
  have key : ∀ {m' : Map} {w' : World} {h' : Rows}, Step (inner m k x ro.esz) st.rows w m' h' w' → NmOK k x m' ⟨m'.mu, m.ro⟩ ∧ ∀ i, Nat.beq i k = false → m'.ro i = m.ro i := by
    intro m' w' h' hS
    refine ⟨⟨rfl, fun i => ?_⟩, fun i hi => ?_⟩
    · rw [hS.ro]; exact hN.ro i
    · rw [hS.ro]; simp only [inner, hi, cond_false]
  refine wp_mono (h (inner m k x ro.esz) a w (inner m k x ro.esz) st.rows w F hr2 hf2 (Step.refl _ _ _) (.refl _ _ _ _)) ?_
  intro e a' w' hpost
  cases e with
  | panic ch =>
    obtain ⟨m', h', v, cv, F', h1, h2, h3, h4, h5, h6, h7, h8⟩ := hpost
    obtain ⟨e1, e2, e3⟩ := hp _ _ _ h7.le h2
    obtain ⟨hN', hro'⟩ := key h6
    obtain ⟨hW3, hf3⟩ := WR.outward hm h0 hR hN' hro' hesz h4 h5 e2 (h := st.rows)
    refine ⟨⟨m'.mu, m.ro⟩, h', v, cv, F', h1, e3, ?_, hW3, hf3, hs.trans (Step.inward (m := m) (m2 := inner m k x ro.esz) rfl h6), hl.trans hs (Fz.To.inward (m := m) (m2 := inner m k x ro.esz) rfl h7), h8⟩
    rw [← e1]; exact (nm_den hN' _ _ _).1 h3
  | goto l => obtain ⟨_, _, _, h, _⟩ := hpost; exact h.elim
  | outgrown => obtain ⟨_, _, _, h, _⟩ := hpost; exact h.elim
  | _ =>
    obtain ⟨m', st', F', hok, hqq, hr', hf', hs', hl'⟩ := hpost
    obtain ⟨e1, e2⟩ := hq _ _ _ hl'.le hqq
    obtain ⟨hN', hro'⟩ := key hs'
    have eT : st'.tmps.map (nm k x) = st'.tmps := congrArg St.tmps e1
    have eR : nmRows k x st'.rows = st'.rows := congrArg St.rows e1
    obtain ⟨hW3, hf3⟩ := WR.outward hm h0 hR hN' hro' hesz hr'.wr hf' eR (h := st.rows)
    refine ⟨⟨m'.mu, m.ro⟩, st', F', hok, e2, ⟨hr'.size, ?_, hr'.defers, hW3⟩, hf3, hs.trans (Step.inward (m := m) (m2 := inner m k x ro.esz) rfl hs'), hl.trans hs (Fz.To.inward (m := m) (m2 := inner m k x ro.esz) rfl hl')⟩
    intro i y hy
    obtain ⟨y0, hy0, hye⟩ : ∃ y0, st'.tmps[i]? = some y0 ∧ nm k x y0 = y := by
      rw [← eT, List.getElem?_map] at hy
      obtain ⟨y0, h1, h2⟩ := Option.map_eq_some_iff.1 hy
      exact ⟨y0, h1, h2⟩
    obtain ⟨c, hc, hd⟩ := hr'.tmps i y0 hy0
    exact ⟨c, hc, by rw [← hye]; exact (nm_den hN' _ _ _).1 hd⟩
theorem SafeCallX.swap {f : FuncId} {args : List AV} {h : Rows} {Q Q1 : AV → Rows → Fz → Prop} {HP HP1 : AV → Rows → Fz → Prop} (hk : k < 15) (hfr : Frz F x ro) (h0 : (R k).n = 0) (hR : Quits R k) (hs : SafeCallX P (updR R k ro) f args h F Q HP)
    (hq : ∀ v h' F', F.le F' → Q v h' F' → nm k x v = v ∧ nmRows k x h' = h' ∧ Q1 v h' F') (hp : ∀ v h' F', F.le F' → HP v h' F' → nm k x v = v ∧ nmRows k x h' = h' ∧ HP1 v h' F') : SafeCallX P R f (nmL k x args) (nmRows k x h) F Q1 HP1 := by
  intro m w m0 h1 w0 F0 as hd hW hf hst hl
  have hm : Named m := hf.ro
  obtain ⟨hW2, hf2⟩ := WR.inward hk hfr h0 hR hW hf
  have hN := inner_nm hm k x ro.esz
  have hesz : ∀ i, (R i).esz = (m.ro i).esz := fun i => (hW.ro i).1.symm
  rw [nmRows_length] at hd
  refine (hs (inner m k x ro.esz) w (inner m k x ro.esz) h w F as ((nmL_den hN _ _ _).2 hd) hW2 hf2 (Step.refl _ _ _) (.refl _ _ _ _)).mono ?_
  rintro e w' ⟨m', h', F', hW', hf', hl', hs', hcase⟩
  have hN' : NmOK k x m' ⟨m'.mu, m.ro⟩ := ⟨rfl, fun i => by rw [hs'.ro]; exact hN.ro i⟩
  have hro' : ∀ i, Nat.beq i k = false → m'.ro i = m.ro i := fun i hi => by rw [hs'.ro]; simp only [inner, hi, cond_false]
  rcases hcase with ⟨c, v, rfl, hqq, hd'⟩ | ⟨c, v, rfl, hqq, hd'⟩
  · obtain ⟨e1, e2, e3⟩ := hq _ _ _ hl'.le hqq
    obtain ⟨hW3, hf3⟩ := WR.outward hm h0 hR hN' hro' hesz hW' hf' e2 (h := h)
    refine ⟨⟨m'.mu, m.ro⟩, h', F', hW3, hf3, hl.trans hst (Fz.To.inward (m := m) (m2 := inner m k x ro.esz) rfl hl'), hst.trans (Step.inward (m := m) (m2 := inner m k x ro.esz) rfl hs'), .inl ⟨c, v, rfl, e3, ?_⟩⟩
    rw [← e1]; exact (nm_den hN' _ _ _).1 hd'
  · obtain ⟨e1, e2, e3⟩ := hp _ _ _ hl'.le hqq
    obtain ⟨hW3, hf3⟩ := WR.outward hm h0 hR hN' hro' hesz hW' hf' e2 (h := h)
    refine ⟨⟨m'.mu, m.ro⟩, h', F', hW3, hf3, hl.trans hst (Fz.To.inward (m := m) (m2 := inner m k x ro.esz) rfl hl'), hst.trans (Step.inward (m := m) (m2 := inner m k x ro.esz) rfl hs'), .inr ⟨c, v, rfl, e3, ?_⟩⟩
    rw [← e1]; exact (nm_den hN' _ _ _).1 hd'
end
end Go.Dc
end
section
set_option linter.unusedSimpArgs false
set_option linter.unusedVariables false
namespace Go.Dc
/-- A row that leads to no live rows. -/
structure RowG (r : Row) : Prop where
  vw : ∀ f n, RowV f n r r
  ren : ∀ g, renRow g r = r
theorem View.setSame {h : Rows} {b : Nat} {r' : Row} (hb : b < h.length) (hr : RowG r') (j : Rows) (hV : View some h h) (ho : ∃ r, h.live b = some r) : View some (h.set b (some r')) (h.set b (some r') ++ j) where
  lt := fun c d hc hd => by have := hV.lt c d (by simpa using hc) hd; simp; omega
  inj := fun c c' d hc hc' => hV.inj c c' d (by simpa using hc) (by simpa using hc')
  row := fun c q hc => by
    have hlt : c < h.length := by have := live_lt hc; simpa using this
    by_cases hcb : c = b
    · subst hcb
      have hq : q = r' := by
        unfold Rows.live at hc
        rw [List.getElem?_set_self hlt] at hc
        simpa using hc.symm
      subst hq
      refine .inl ⟨c, q, rfl, ?_, hr.vw _ _⟩
      rw [live_append (by simpa using hlt)]
      exact hc
    · have hc' : h.live c = some q := by
        unfold Rows.live at hc ⊢
        rw [List.getElem?_set_ne (fun e => hcb e.symm)] at hc
        exact hc
      rcases hV.row c q hc' with ⟨d, q', h1, h2, h3⟩ | ⟨h1, h2⟩
      · cases h1
        rw [hc'] at h2; cases h2
        refine .inl ⟨c, q, rfl, ?_, by simpa using h3⟩
        rw [live_append (by simpa using hlt)]
        exact hc
      · exact .inr ⟨h1, h2⟩

/-- What is known of one row alone holds wherever it lies. -/
theorem SafeCallX.at1 {P : Program} {R : Nat → RoRow} {fn : FuncId} {argsL args : List AV} {r : Row} {h : Rows} {b : Nat} {F : Fz} {Q HP : AV → Row → Fz → Prop}
    (hb : h.live b = some r) (hr : RowG r) (hA : VwL (oneV b) 1 argsL args)
    (hs : SafeCallX P R fn argsL [some r] F (fun v h' F' => ∃ r' tl, h' = some r' :: tl ∧ gnd v = true ∧ RowG r' ∧ Q v r' F') (fun v h' F' => ∃ r' tl, h' = some r' :: tl ∧ gnd v = true ∧ RowG r' ∧ HP v r' F')) :
    SafeCallX P R fn args h F (fun v h' F' => ∃ r', h' = h.set b (some r') ∧ Q v r' F') (fun v h' F' => ∃ r', h' = h.set b (some r') ∧ HP v r' F') := by
  have hlt : b < h.length := live_lt hb
  have hb' : h[b]? = some (some r) := by
    unfold Rows.live at hb
    rw [List.getElem?_eq_getElem hlt] at hb ⊢
    simpa using hb
  have hV : View (oneV b) [some r] h := View.of (fun c o ho => by
    cases c with
    | zero => cases ho; exact ViewL.at_ (b := b) rfl hb' (hr.vw _ _)
    | succ c => simp at ho) (fun c c' d hc hc' _ _ => by simp at hc hc'; omega)
  intro m w m0 h0 w0 F0 as hd hW hf hst hl
  have hV0 := hW.idView
  refine (SafeCallX.focus hV hA hs m w m h w F as hd hW hf (Step.refl _ _ _) (.refl _ _ _ _)).mono ?_
  have fin : ∀ {c v v' : AV} {cv : Value} {h' : Rows} {m' : Map} {F' : Fz} {w' : World} {r' : Row} {tl : Rows}, h' = some r' :: tl → gnd v' = true → RowG r' → v = ren (ext (oneV b) [some r].length h.length) v' → Den m' (merged (oneV b) [some r].length [some r].length h h').length v cv →
      WR R m' (merged (oneV b) [some r].length [some r].length h h') w' → FzOK F' m' (merged (oneV b) [some r].length [some r].length h h') w' → Step m h w m' (merged (oneV b) [some r].length [some r].length h h') w' →
      ∃ m2, WR R m2 (h.set b (some r')) w' ∧ FzOK F' m2 (h.set b (some r')) w' ∧ Step m h w m2 (h.set b (some r')) w' ∧ Den m2 (h.set b (some r')).length v' cv := by
    intro c v v' cv h' m' F' w' r' tl e1 hg hrg e2 hd' hW' hf' hS'
    subst e1
    have em : merged (oneV b) [some r].length [some r].length h (some r' :: tl) = h.set b (some r') ++ (Option.none :: tl.map (Option.map (renRow (g1 b h.length)))) := by
      have := merged_one hlt (some r') tl
      rw [Option.map_some, hrg.ren] at this
      exact this
    rw [em] at hd' hW' hf' hS'
    have hV2 := View.setSame hlt hrg (Option.none :: tl.map (Option.map (renRow (g1 b h.length)))) hV0 ⟨r, hb⟩
    rw [gnd_ren _ _ hg] at e2
    subst e2
    exact ⟨_, hW'.view hV2, hf'.view hV2, hS'.forget hV2 (fun c hc => rfl) (by simp), (gnd_vw some _ v hg).den _ _ _ hd'⟩
  rintro e w' ⟨m', h', F', hW', hf', hl', hs', ⟨c, v, rfl, ⟨v', h2, ⟨r', tl, e1, hg, hrg, hq⟩, e2, e3⟩, hd'⟩ | ⟨c, v, rfl, ⟨v', h2, ⟨r', tl, e1, hg, hrg, hq⟩, e2, e3⟩, hd'⟩⟩
  · subst e3
    obtain ⟨m2, q1, q2, q3, q4⟩ := fin (c := v) e1 hg hrg e2 hd' hW' hf' hs'
    exact ⟨m2, _, F', q1, q2, hl.trans hst hl', hst.trans q3, .inl ⟨c, v', rfl, ⟨r', rfl, hq⟩, q4⟩⟩
  · subst e3
    obtain ⟨m2, q1, q2, q3, q4⟩ := fin (c := v) e1 hg hrg e2 hd' hW' hf' hs'
    exact ⟨m2, _, F', q1, q2, hl.trans hst hl', hst.trans q3, .inr ⟨c, v', rfl, ⟨r', rfl, hq⟩, q4⟩⟩

/-! ### A region that ends in a panic -/
theorem upon_mono {P : Program} {o : Oper} {a : Act} {K K' : Act → World → Prop} {Q Q' : Exit → Act → World → Prop} (hk : ∀ a w, K a w → K' a w) (hp : ∀ e a w, e ≠ .normal → Q e a w → Q' e a w) : ∀ r, o.upon P a K Q r → o.upon P a K' Q' r := by
  intro r h
  unfold Oper.upon at h ⊢
  split at h
  · exact hk _ _ h
  · exact hk _ _ h
  · exact hk _ _ h
  · refine Calls.mono h ?_
    intro e w' he
    cases e with
    | returned v => exact hk _ _ he
    | panicked ch => exact hp _ _ _ (by simp) he
    | outgrown => obtain ⟨a', w2, h2⟩ := he; exact ⟨a', w2, hp _ _ _ (by simp) h2⟩
  · exact Rows.mono h fun v w' hh => hk _ _ hh
  · exact hp _ _ _ (by simp) h
  · exact h.elim
theorem wpList_append {P : Program} {ops : Array Oper} {Q : Exit → Act → World → Prop} {l2 : List Oper} : ∀ (l1 : List Oper) (a : Act) (w : World), wpList P ops (fun e a w => match e with | .normal => wpList P ops Q l2 a w | e => Q e a w) l1 a w → wpList P ops Q (l1 ++ l2) a w
  | [], a, w, h => h
  | o :: l1, a, w, h => by
    simp only [List.cons_append]
    unfold wpList at h ⊢
    split
    · rename_i hw
      rw [if_pos hw] at h
      rcases h with h | ⟨h1, a', w', h2⟩
      · refine .inl (upon_mono (fun a w h => wpList_append l1 a w h) ?_ _ h)
        intro e a w hne hq
        cases e with
        | normal => exact absurd rfl hne
        | _ => exact hq
      · exact .inr ⟨h1, a', w', h2⟩
    · rename_i hw
      rw [if_neg hw] at h
      exact wpList_append l1 _ _ h
theorem SafeX.panicEnd {P : Program} {E : EnvX} {HP : AV → Rows → Fz → Prop} {ds : List Deferred} (hT : TabOK P E.T) {id : Nat} {ops : Array Oper} {pre : List Oper} {o : Oper} {x : Operand} (ho : ops.toList = pre ++ [o]) (hop : o.op = .panic x) (hog : o.guard = none)
    {st : St} {F : Fz} {Q : Exit → St → Fz → Prop}
    (hk : runOpsB ansX E (fun _ _ _ _ _ => False) ops.toList pre st (fun st' F' => HP (st'.ev x) st'.rows F' ∧ ∃ t y, st'.ev x = .ifc t y) F) : SafeX P E.R ds (.region id ops false) st F Q HP := by
  intro m a w m0 h0 w0 F0 hr hf hs hl
  refine wp_region_list ?_
  rw [ho]
  refine wpList_append pre a w ?_
  refine runOps_okX (HP := HP) ansX_holds hT (call := fun _ _ _ _ _ => False) (fun f args h k F hh => hh.elim) ops pre st _ F hk hr hf hs hl _ ?_ ?_
  · intro a' c v m' h' w' F' hd h1 h2 h3 h4 h5 h6
    exact ⟨m', h', v, c, F', rfl, h1, h2, h3, h4, h5, h6, hd⟩
  · rintro F' m' st' a' w' ⟨hh, t, y, hy⟩ hr' hf' hs' hl'
    unfold wpList
    have hw : Region.wanted o (yielded ops a'.tmps) = true := by simp [Region.wanted, hog]
    rw [if_pos hw]
    refine .inl ?_
    unfold Oper.wp
    have hev := hr'.ev x
    rw [hy] at hev
    have hev2 := hev
    simp only [Den] at hev
    obtain ⟨u, hu, hdu⟩ := hev
    have hrun : (execOp a'.eval o).run P w' = .halt (.panic (a'.eval x)) w' := by
      obtain ⟨dst, op, type, pos, after, guard⟩ := o
      simp only at hop
      subst hop
      have h9 : (Instr.panic (a'.eval x)).run P w' = .halt (.panic (a'.eval x)) w' := by rw [hu]; rfl
      simp only [execOp, Sem.run_bind, h9, Result.andThen]
    rw [hrun]
    exact ⟨m', st'.rows, st'.ev x, a'.eval x, F', rfl, hh, by rw [hy]; exact hev2, hr'.wr, hf', hs', hl', hr'.defers⟩
end Go.Dc
end
section
set_option linter.unusedVariables false
set_option linter.unusedSimpArgs false
namespace Go.Dc

def Fd (rd : Option Nat) : Fence := { Fence.wide with round := rd }
theorem Fd_none : Fd none = Fence.wide := rfl

theorem callsR {rd : Option Nat} {n : Nat} {P : Program} {f : FuncId} {args : Array Value} {w : World} {R : Ending → World → Prop} (h : Calls P f args w R) : CallsIn (Fd rd) n P f args w R := (callsIn_wide (n := n)).2 h
theorem rowsR {rd : Option Nat} {n : Nat} {P : Program} {row : String} {args : Array Value} {w : World} {R : Value → World → Prop} (h : Go.Rows P row args w R) : RowsIn (Fd rd) n P row args w R := by
  intro c cs hroom
  obtain ⟨v, w', r, s⟩ := h c cs
  exact ⟨v, w', r, stepsIn_wide.2 s⟩

def noDefer (o : Oper) : Bool := match o.op with | .defer _ => false | _ => true
theorem noDefer_ne {o : Oper} (h : noDefer o = true) : ∀ c, o.op ≠ .defer c := by
  intro c e
  unfold noDefer at h
  rw [e] at h
  simp at h

variable {rd : Option Nat} {n : Nat} {P : Program} {ops : Array Oper} {Q : Exit → Act → World → Prop}

/-- An act without its deferred calls. -/
def clr (a : Act) : Act := { a with defers := [] }
theorem clr_put (a : Act) (d : Option Tmp) (v : Value) : clr (a.put d v) = (clr a).put d v := by cases d <;> rfl
theorem put_defers (a : Act) (d : Option Tmp) (v : Value) : (a.put d v).defers = a.defers := by cases d <;> rfl
def KD (ds : List Deferred) (K : Act → World → Prop) (a : Act) (w : World) : Prop := K (clr a) w ∧ a.defers = ds
def QD (ds : List Deferred) (Q : Exit → Act → World → Prop) (e : Exit) (a : Act) (w : World) : Prop := Q e (clr a) w ∧ a.defers = ds

/-- Nothing panics, nothing outgrows. -/
structure Tame (Q : Exit → Act → World → Prop) : Prop where
  out : ¬ LetsOut Q
  panic : ∀ ch a w, ¬ Q (.panic ch) a w

variable {ds : List Deferred}

theorem uponD (hQ : Tame Q) {o : Oper} {a : Act} (ha : a.defers = ds) {K : Act → World → Prop} {r : Result Next} (hK : ∀ a w, K a w → a.defers = []) (h : o.upon P (clr a) K Q r) : o.uponIn (Fd rd) n P a (KD ds K) (QD ds Q) r := by
  cases r with
  | ok x w =>
    cases x with
    | value v => exact ⟨by rw [clr_put]; exact h, by rw [put_defers]; exact ha⟩
    | skip => exact ⟨by rw [clr_put]; exact h, by rw [put_defers]; exact ha⟩
    | defer d =>
      have := hK _ _ h
      rw [put_defers] at this
      simp at this
    | enter f args =>
      refine ⟨fun e => by simp [Fd, Fence.wide] at e, callsR (Calls.mono h ?_)⟩
      intro e w' he
      cases e with
      | returned v => exact ⟨by rw [clr_put]; exact he, by rw [put_defers]; exact ha⟩
      | panicked ch => exact absurd he (hQ.panic _ _ _)
      | outgrown => exact absurd he hQ.out
    | row row args =>
      refine ⟨fun e => by simp [Fd, Fence.wide] at e, rowsR (Go.Rows.mono h ?_)⟩
      intro v w' he
      exact ⟨by rw [clr_put]; exact he, by rw [put_defers]; exact ha⟩
    | _ => exact h.elim
  | halt x w =>
    cases x with
    | panic v => exact absurd h (hQ.panic _ _ _)
    | _ => exact h.elim

theorem upon_defers {o : Oper} {a : Act} {K : Act → World → Prop} {r : Result Next} (hQ : Tame Q) (hK : ∀ a w, K a w → a.defers = []) (h : o.upon P a K Q r) : a.defers = [] := by
  cases r with
  | ok x w =>
    cases x with
    | value v => have := hK _ _ h; rwa [put_defers] at this
    | skip => have := hK _ _ h; rwa [put_defers] at this
    | defer d => have := hK _ _ h; rw [put_defers] at this; simp at this
    | enter f args =>
      obtain ⟨e, w', fr, hR, _⟩ := h []
      cases e with
      | returned v => have := hK _ _ hR; rwa [put_defers] at this
      | panicked ch => exact absurd hR (hQ.panic _ _ _)
      | outgrown => exact absurd hR hQ.out
    | row row args =>
      obtain ⟨v, w', hR, _⟩ := h default []
      have := hK _ _ hR
      rwa [put_defers] at this
    | _ => exact h.elim
  | halt x w =>
    cases x with
    | panic v => exact absurd h (hQ.panic _ _ _)
    | _ => exact h.elim

theorem list_defers (hQ : Tame Q) (hQd : ∀ a w, Q .normal a w → a.defers = []) : ∀ (l : List Oper) (a : Act) (w : World), wpList P ops Q l a w → a.defers = []
  | [], a, w, h => hQd a w h
  | o :: l, a, w, h => by
    unfold wpList at h
    split at h
    · rcases h with h | h
      · exact upon_defers hQ (list_defers hQ hQd l) h
      · exact absurd h.2 hQ.out
    · have := list_defers hQ hQd l _ w h
      rwa [put_defers] at this

theorem any_defers {md : Region.Mode} (hQ : Tame Q) (hQd : ∀ a w, Q .normal a w → a.defers = []) : ∀ (fuel : Nat) (listed : Array Bool) (a : Act) (w : World), wpAny P md ops Q fuel listed a w → a.defers = []
  | 0, listed, a, w, h => hQd a w h.2
  | fuel + 1, listed, a, w, h => by
    cases hr : Region.ready md ops listed with
    | nil => exact hQd a w (h.1 hr)
    | cons i is =>
      have h1 := h.2 i (by rw [hr]; simp)
      unfold wpOp at h1
      split at h1
      · exact any_defers hQ hQd fuel _ a w h1
      · split at h1
        · rcases h1 with h1 | h1
          · exact upon_defers hQ (any_defers hQ hQd fuel _) h1
          · exact absurd h1.2 hQ.out
        · have := any_defers hQ hQd fuel _ _ w h1
          rwa [put_defers] at this

theorem operD (hQ : Tame Q) {o : Oper} {a : Act} {w : World} {K : Act → World → Prop} (hd : noDefer o = true) (ha : a.defers = ds) (hK : ∀ a w, K a w → a.defers = []) (h : o.wp P (clr a) w K Q) : o.wpIn (Fd rd) n P a w (KD ds K) (QD ds Q) := by
  refine ⟨fun _ _ => trivial, ?_⟩
  rw [Oper.semAt_eq _ _ _ (noDefer_ne hd)]
  exact uponD hQ ha hK h

theorem listD (hQ : Tame Q) (hQd : ∀ a w, Q .normal a w → a.defers = []) : ∀ (l : List Oper) (a : Act) (w : World), l.all noDefer = true → a.defers = ds → wpList P ops Q l (clr a) w → wpListIn (Fd rd) n P ops (QD ds Q) l a w
  | [], a, w, _, ha, h => ⟨h, ha⟩
  | o :: l, a, w, hd, ha, h => by
    simp only [List.all_cons, Bool.and_eq_true] at hd
    unfold wpListIn
    unfold wpList at h
    split
    · rename_i hw
      rw [if_pos (show Region.wanted o (yielded ops (clr a).tmps) = true from hw)] at h
      rcases h with h | h
      · exact Oper.wpIn_mono (fun a w hk => listD hQ hQd l a w hd.2 hk.2 hk.1) (operD hQ hd.1 ha (list_defers hQ hQd l) h)
      · exact absurd h.2 hQ.out
    · rename_i hw
      rw [if_neg (show ¬ Region.wanted o (yielded ops (clr a).tmps) = true from hw)] at h
      refine ⟨fun _ _ => trivial, listD hQ hQd l _ w hd.2 (by rw [put_defers]; exact ha) ?_⟩
      rw [clr_put]
      exact h

theorem anyD {md : Region.Mode} (hQ : Tame Q) (hQd : ∀ a w, Q .normal a w → a.defers = []) (hd : ops.toList.all noDefer = true) : ∀ (fuel : Nat) (listed : Array Bool) (a : Act) (w : World), a.defers = ds → wpAny P md ops Q fuel listed (clr a) w → wpAnyIn (Fd rd) n P md ops (QD ds Q) fuel listed a w
  | 0, listed, a, w, ha, h => ⟨h.1, h.2, ha⟩
  | fuel + 1, listed, a, w, ha, h => by
    refine ⟨fun hr => ⟨h.1 hr, ha⟩, fun i hi => ?_⟩
    have h1 := h.2 i hi
    unfold wpOp at h1
    unfold wpOpIn
    cases ho : ops[i]? with
    | none => rw [ho] at h1; exact anyD hQ hQd hd fuel _ a w ha h1
    | some o =>
      rw [ho] at h1
      simp only [] at h1 ⊢
      have hdo : noDefer o = true := by
        have hm : o ∈ ops.toList := by
          have := Array.mem_of_getElem? ho
          simpa using this
        exact List.all_eq_true.1 hd o hm
      split
      · rename_i hw
        rw [if_pos (show Region.wanted o (yielded ops (clr a).tmps) = true from hw)] at h1
        rcases h1 with h1 | h1
        · exact Oper.wpIn_mono (fun a w hk => anyD hQ hQd hd fuel _ a w hk.2 hk.1) (operD hQ hdo ha (any_defers hQ hQd fuel _) h1)
        · exact absurd h1.2 hQ.out
      · rename_i hw
        rw [if_neg (show ¬ Region.wanted o (yielded ops (clr a).tmps) = true from hw)] at h1
        refine ⟨fun _ _ => trivial, anyD hQ hQd hd fuel _ _ w (by rw [put_defers]; exact ha) ?_⟩
        rw [clr_put]
        exact h1
end Go.Dc
end
section
set_option linter.unusedSimpArgs false
set_option linter.unusedVariables false
namespace Go.Dc

/-- Safe in a round, or with deferred calls that stand by. -/
def SafeR (rd : Option Nat) (ds : List Deferred) (P : Program) (R : Nat → RoRow) (c : Code) (st : St) (Q : Exit → St → Prop) : Prop :=
  ∀ m a w m0 h0 w0, a.defers = ds → Rel R m st (clr a) w → Step m0 h0 w0 m st.rows w → c.wpIn (Fd rd) 0 P (QD ds (Post R Q m0 h0 w0)) a w

theorem post_tame (R : Nat → RoRow) (Q : Exit → St → Prop) (m0 : Map) (h0 : Rows) (w0 : World) : Tame (Post R Q m0 h0 w0) where
  out := by
    rintro ⟨a, w, m, st, h, _⟩
    exact h
  panic := by
    rintro ch a w ⟨m, st, h, _⟩
    exact h
theorem post_defers {R : Nat → RoRow} {Q : Exit → St → Prop} {m0 : Map} {h0 : Rows} {w0 : World} (a : Act) (w : World) (h : Post R Q m0 h0 w0 .normal a w) : a.defers = [] := by
  obtain ⟨m, st, _, _, hr, _⟩ := h
  exact hr.defers

def codeND : Code → Bool
  | .seq a b => codeND a && codeND b
  | .cond _ a b => codeND a && codeND b
  | .block _ b => codeND b
  | .loop b => codeND b
  | .region _ ops _ => ops.toList.all noDefer
  | .rangeFunc _ _ a b => codeND a && codeND b
  | _ => true

theorem nd_seq {a b : Code} (h : codeND (.seq a b) = true) : codeND a = true ∧ codeND b = true := by simpa [codeND] using h
theorem nd_cond {c : Operand} {a b : Code} (h : codeND (.cond c a b) = true) : codeND a = true ∧ codeND b = true := by simpa [codeND] using h

section
variable {α : Type} {A : Ans α} {E : Env α} {hold : α → Prop} {P : Program} {rd : Option Nat} {ds : List Deferred}

theorem drawAll_okR (hA : Holds A hold) (hT : TabOK P E.T) (hm : P.follows .mixedOrders = true) : ∀ call, CallOK P E.R hold call → ∀ id ops st k, ops.toList.all noDefer = true → hold (drawAll A E call ops st k) → ∀ m a w m0 h0 w0, a.defers = ds → Rel E.R m st (clr a) w → Step m0 h0 w0 m st.rows w →
    (Code.region id ops true).wpIn (Fd rd) 0 P (QD ds (Post E.R (fun e st' => e = .normal ∧ hold (k st')) m0 h0 w0)) a w := by
  intro call hcall id ops st k hnd h m a w m0 h0 w0 ha hr hs
  unfold drawAll at h
  cases hn : neat ops with
  | false => rw [hn] at h; exact (hA.bot h).elim
  | true =>
    rw [hn] at h
    simp only [cond_true] at h
    refine wpIn_region_any hm (anyD (post_tame _ _ _ _ _) post_defers hnd _ _ _ _ ha ?_)
    refine drawGo_ok (m0 := m0) (h0 := h0) (w0 := w0) (Q := Post E.R (fun e st' => e = .normal ∧ hold (k st')) m0 h0 w0) hA hT hcall hn ?_ _ _ _ _ h _ _ m _ _ ?_ ?_
    · intro m' st' a' w' hk hr' hs'
      exact ⟨m', st', trivial, ⟨rfl, hk⟩, hr', hs'⟩
    · have hW : WR E.R m st.rows { w with drawn := w.drawn + 1 } := hr.wr.same rfl
      constructor
      · intro i hi
        rw [Array.getD_eq_getD_getElem?] at hi
        rcases Nat.lt_or_ge i ops.size with h1 | h1
        · rw [Array.getElem?_eq_getElem (by simpa using h1)] at hi; simp at hi
        · rw [Array.getElem?_eq_none (by simpa using h1)] at hi; simp at hi
      · simp
      · intro i hi; simp at hi
      · intro i o hi
        rw [Array.getD_eq_getD_getElem?] at hi
        rcases Nat.lt_or_ge i ops.size with h1 | h1
        · rw [Array.getElem?_eq_getElem (by simpa using h1)] at hi; simp at hi
        · rw [Array.getElem?_eq_none (by simpa using h1)] at hi; simp at hi
      · trivial
      · intro i hi; simp at hi
      · exact ⟨st.tmps, rfl, fun _ _ => rfl, hr.size, hr.tmps, hr.defers, hW⟩
      · exact ⟨hs.os, hs.tape, hs.output, hs.size, hs.block, hs.len, hs.mu, hs.ro, hs.new⟩
    · unfold cnt
      refine Nat.le_trans List.countP_le_length ?_
      simp


theorem code_okR (hA : Holds A hold) (hE : EnvOK P E hold) (hm : P.follows .mixedOrders = true)
    (f : FuncId) (hL : ∀ id spec, E.loops f id = some spec → ∀ body, (id, body) ∈ E.subsOf f → ∀ st k, hold (spec st k) → SafeR rd ds P E.R (.block id body) st fun e st' => hold (k e st')) :
    ∀ (n : Nat) (c : Code) (st : St) (k : Exit → St → α), codeND c = true → (∀ p ∈ subs c, p ∈ E.subsOf f) → hold (code A E (drawAll A E) n f c st k) →
    SafeR rd ds P E.R c st fun e st' => hold (k e st') := by
  intro n
  induction n using Nat.strongRecOn with
  | ind n IH =>
   cases n with
   | zero => intro c st k _ _ h; exact (hA.bot h).elim
   | succ n =>
    have ih := IH n (Nat.lt_succ_self n)
    intro c st k hnd hsub h
    -- the calls
    have hcall : CallOK P E.R hold (fun g args rows k => match E.calls g with
      | some spec => spec args rows k
      | none => match E.F g with
        | none => A.bot
        | some fi => forceL (enterT args fi.ntmps) fun ts => code A E (drawAll A E) n g fi.body ⟨ts, rows⟩ fun e st => match e with
          | .normal | .ret => resK A E st fi.results fun v => k v st.rows
          | _ => A.bot) := by
      intro g args rows k hk
      simp only [] at hk
      cases hc : E.calls g with
      | some spec => rw [hc] at hk; exact hE.calls g spec hc args rows k hk
      | none =>
        rw [hc] at hk
        simp only [] at hk
        cases hf : E.F g with
        | none => rw [hf] at hk; exact (hA.bot hk).elim
        | some fi =>
          rw [hf] at hk
          have hk := forced hk
          have hF := hE.F g fi hf
          have hb := code_ok hA hE (drawAll_ok hA hE.T hm) n g fi.body _ _ (fun p hp => by unfold Env.subsOf; rw [hf]; exact hp) hk
          obtain ⟨fn, h1, h2, h3, h4, h5⟩ := hF.fn
          refine ⟨SafeCall.of_body hE.T hF (hb.mono ?_), fn, h1, by rw [h2]; rfl, h5⟩
          intro e st' he
          cases e <;> first
            | exact ⟨.inl rfl, resL_ok hA he⟩
            | exact ⟨.inr rfl, resL_ok hA he⟩
            | exact (hA.bot he).elim
    intro m a w m0 h0 w0 ha hr hs
    cases c with
    | skip => exact wpIn_skip ⟨⟨m, st, trivial, h, hr, hs⟩, ha⟩
    | label l => exact wpIn_label ⟨⟨m, st, trivial, h, hr, hs⟩, ha⟩
    | exit id => exact wpIn_exit ⟨⟨m, st, trivial, h, hr, hs⟩, ha⟩
    | ret => exact wpIn_ret ⟨⟨m, st, trivial, h, hr, hs⟩, ha⟩
    | seq x y =>
      have hx := ih x st _ (nd_seq hnd).1 (fun p hp => hsub p (by simp [subs, hp])) h
      refine wpIn_seq (wpIn_mono (hx m a w m0 h0 w0 ha hr hs) ?_)
      rintro e a' w' ⟨⟨m', st', hok, hq, hr', hs'⟩, ha'⟩
      cases e <;> first
        | exact hok.elim
        | exact ⟨⟨m', st', trivial, hq, hr', hs'⟩, ha'⟩
        | exact ih y st' k (nd_seq hnd).2 (fun p hp => hsub p (by simp [subs, hp])) hq m' a' w' m0 h0 w0 ha' hr' hs'
    | cond x y z =>
      have hev := hr.ev x
      simp only [code, setBoolK_eq] at h
      split at h
      · rename_i b he
        rw [he] at hev
        simp only [Den] at hev
        have hset : Rel E.R m (setBool st x b) (clr a) w ∧ (setBool st x b).rows = st.rows := by
          cases x with
          | tmp d => exact ⟨hr.known (by simpa [St.ev, nthV_eq] using he), rfl⟩
          | _ => exact ⟨hr, rfl⟩
        rcases hold_cond b _ _ h with ⟨rfl, hk⟩ | ⟨rfl, hk⟩
        · exact wpIn_cond_true hev (ih y _ k (nd_cond hnd).1 (fun p hp => hsub p (by simp [subs, hp])) hk m a w m0 h0 w0 ha hset.1 (by rw [hset.2]; exact hs))
        · exact wpIn_cond_false hev (ih z _ k (nd_cond hnd).2 (fun p hp => hsub p (by simp [subs, hp])) hk m a w m0 h0 w0 ha hset.1 (by rw [hset.2]; exact hs))
      · exact (hA.bot h).elim
    | block id body =>
      simp only [code] at h
      cases hl : E.loops f id with
      | some spec =>
        rw [hl] at h
        exact hL id spec hl body (hsub _ (by simp [subs])) st k h m a w m0 h0 w0 ha hr hs
      | none =>
        rw [hl] at h
        have hb := ih body st _ (by simpa [codeND] using hnd) (fun p hp => hsub p (by simp [subs, hp])) h
        refine wpIn_block (wpIn_mono (hb m a w m0 h0 w0 ha hr hs) ?_)
        rintro e a' w' ⟨⟨m', st', hok, hq, hr', hs'⟩, ha'⟩
        cases e with
        | normal => exact ⟨⟨m', st', trivial, hq, hr', hs'⟩, ha'⟩
        | ret => exact ⟨⟨m', st', trivial, hq, hr', hs'⟩, ha'⟩
        | exit id' =>
          simp only [Exit.inBlock]
          by_cases hid : id' = id
          · rw [if_pos hid]
            subst hid
            simp only [Nat.beq_refl, cond_true] at hq
            exact ⟨⟨m', st', trivial, hq, hr', hs'⟩, ha'⟩
          · rw [if_neg hid]
            have : Nat.beq id' id = false := by rw [Bool.eq_false_iff]; exact fun e => hid (Nat.eq_of_beq_eq_true e)
            simp only [this, cond_false] at hq
            exact ⟨⟨m', st', trivial, hq, hr', hs'⟩, ha'⟩
        | goto l => exact hok.elim
        | panic ch => exact hok.elim
        | outgrown => exact hok.elim
    | loop body =>
      -- rounds
      have key : ∀ (j : Nat), j ≤ n + 1 → ∀ (st : St), hold (code A E (drawAll A E) j f (.loop body) st k) → ∀ m a w, a.defers = ds → Rel E.R m st (clr a) w → Step m0 h0 w0 m st.rows w →
          Code.roundsIn (Fd rd) 0 P body (QD ds (Post E.R (fun e st' => hold (k e st')) m0 h0 w0)) j a w := by
        intro j
        induction j with
        | zero => intro _ st h m a w _ _ _; exact (hA.bot h).elim
        | succ j ihj =>
          intro hj st h m a w ha hr hs
          rw [roundsIn_succ]
          simp only [code] at h
          refine wpIn_mono (IH j (by omega) body st _ (by simpa [codeND] using hnd) (fun p hp => hsub p (by simpa [subs] using hp)) h m a w m0 h0 w0 ha hr hs) ?_
          rintro e a' w' ⟨⟨m', st', hok, hq, hr', hs'⟩, ha'⟩
          cases e with
          | normal => exact ihj (by omega) st' hq m' a' w' ha' hr' hs'
          | _ => first | exact hok.elim | exact ⟨⟨m', st', trivial, hq, hr', hs'⟩, ha'⟩
      exact wpIn_loop_rounds (n + 1) (key (n + 1) (Nat.le_refl _) st h m a w ha hr hs)
    | region id ops d =>
      cases d with
      | false =>
        refine wpIn_region_list (listD (post_tame _ _ _ _ _) post_defers _ _ _ (by simpa [codeND] using hnd) ha ?_)
        exact runOps_ok hA hE.T hcall ops ops.toList st _ h hr hs _ (fun m' st' a' w' hk hr' hs' => ⟨m', st', trivial, hk, hr', hs'⟩)
      | true =>
        refine wpIn_mono (drawAll_okR hA hE.T hm _ hcall id ops st _ (by simpa [codeND] using hnd) h m a w m0 h0 w0 ha hr hs) fun e a' w' hp => ⟨hp.1.mono ?_, hp.2⟩
        rintro e st' ⟨rfl, hk⟩
        exact hk
    | scope b => exact (hA.bot h).elim
    | goto l => exact (hA.bot h).elim
    | refuse why => exact (hA.bot h).elim
    | rangeFunc g ps x y => exact (hA.bot h).elim

end
end Go.Dc
end
section
set_option linter.unusedSimpArgs false
set_option linter.unusedVariables false
namespace Go.Dc

/-- What is no cells may turn. -/
structure Others (W W' : World) : Prop where
  size : W.heap.size ≤ W'.heap.size
  same : ∀ (k : Nat) c t fz, W.heap[k]? = some (Obj.cells c t fz) → W'.heap[k]? = some (Obj.cells c t fz)

theorem Others.trans {A B C : World} (h : Others A B) (k : Others B C) : Others A C :=
  ⟨Nat.le_trans h.size k.size, fun i c t fz hi => k.same i c t fz (h.same i c t fz hi)⟩

theorem WR.others {R : Nat → RoRow} {m : Map} {h : Rows} {W W' : World} (hW : WR R m h W) (ho : Others W W') : WR R m h W' where
  row := fun b r hb => by
    obtain ⟨h1, h2, h3⟩ := hW.row b r hb
    refine ⟨h1, h2, ?_⟩
    cases hv : (m.mu b).vir with
    | true => rw [hv] at h3; simpa using h3
    | false =>
      rw [hv] at h3
      simp only [Bool.false_eq_true, if_false] at h3 ⊢
      obtain ⟨c, fz, hc, rest⟩ := h3
      exact ⟨c, fz, ho.same _ _ _ _ hc, rest⟩
  apart := hW.apart
  ro := fun i => by
    obtain ⟨h1, h2, h3⟩ := hW.ro i
    refine ⟨h1, h2, ?_⟩
    cases hv : (m.ro i).vir with
    | true => rw [hv] at h3; simpa using h3
    | false =>
      rw [hv] at h3
      simp only [Bool.false_eq_true, if_false] at h3 ⊢
      intro hn
      obtain ⟨c, fz, hc, rest⟩ := h3 hn
      exact ⟨c, fz, ho.same _ _ _ _ hc, rest⟩
  roApart := hW.roApart

/-- Nothing that lay below B turns, nor any cells. -/
structure Turned (B : Nat) (W W' : World) : Prop where
  os : W'.os = W.os
  tape : W'.tape = W.tape
  output : W'.output = W.output
  others : Others W W'
  below : ∀ k, k < B → W'.heap[k]? = W.heap[k]?

theorem Turned.trans {B : Nat} {X Y Z : World} (h : Turned B X Y) (k : Turned B Y Z) : Turned B X Z :=
  ⟨k.os.trans h.os, k.tape.trans h.tape, k.output.trans h.output, h.others.trans k.others, fun i hi => (k.below i hi).trans (h.below i hi)⟩
theorem Turned.mono {B B' : Nat} {X Y : World} (h : Turned B X Y) (hb : B' ≤ B) : Turned B' X Y :=
  ⟨h.os, h.tape, h.output, h.others, fun i hi => h.below i (by omega)⟩
theorem Turned.refl (B : Nat) (W : World) : Turned B W W := ⟨rfl, rfl, rfl, ⟨Nat.le_refl _, fun _ _ _ _ h => h⟩, fun _ _ => rfl⟩

theorem Turned.putObj {B : Nat} {W : World} {l : Nat} {o : Obj} (o' : Obj) (hl : W.heap[l]? = some o) (ho : ∀ c t fz, o ≠ Obj.cells c t fz) (hB : B ≤ l) : Turned B W (W.putObj l o') :=
  ⟨rfl, rfl, rfl, ⟨by simp, fun k c t fz hk => by
    have : k ≠ l := by rintro rfl; rw [hl] at hk; cases hk; exact ho _ _ _ rfl
    rw [World.putObj_heap_other this]; exact hk⟩, fun k hk => World.putObj_heap_other (by omega)⟩

theorem heap_alloc_old (w : World) (o : Obj) (k : Nat) (h : k < w.heap.size) : (w.alloc o).heap[k]? = w.heap[k]? := by
  show (w.heap.push o)[k]? = _
  rw [Array.getElem?_push, if_neg (by omega)]

theorem Turned.alloc {B : Nat} (W : World) (o : Obj) (hB : B ≤ W.heap.size) : Turned B W (W.alloc o) :=
  ⟨rfl, rfl, rfl, ⟨by simp, fun k c t fz hk => by
    rw [heap_alloc_old _ _ _ (Array.getElem?_eq_some_iff.1 hk).1]; exact hk⟩, fun k hk => heap_alloc_old _ _ _ (by omega)⟩

theorem Step.turned {m0 m : Map} {h0 h : Rows} {w0 W W' : World} (hs : Step m0 h0 w0 m h W) (ht : Turned w0.heap.size W W') : Step m0 h0 w0 m h W' where
  os := ht.os.trans hs.os
  tape := ht.tape.trans hs.tape
  output := ht.output.trans hs.output
  size := Nat.le_trans hs.size ht.others.size
  block := fun k hk hn => (ht.below k hk).trans (hs.block k hk hn)
  len := hs.len
  mu := hs.mu
  ro := hs.ro
  new := hs.new

/-! ### Marks -/
def Mk (B : Nat) (w : World) (d : Deferred) : Prop := ∃ D, d = { target := .collected D, args := #[] } ∧ B ≤ D ∧ w.heap[D]? = some (.deferred (some []))
def Marks (B : Nat) (ds : List Deferred) (w : World) : Prop := ds.Nodup ∧ ∀ d ∈ ds, Mk B w d

/-- No live row lies where no cells lie. -/
theorem WR.not_live {R : Nat → RoRow} {m : Map} {h : Rows} {w : World} (hW : WR R m h w) {D : Nat} {o : Obj} (hD : w.heap[D]? = some o) (ho : ∀ c t fz, o ≠ Obj.cells c t fz) :
    ∀ b r, h.live b = some r → (m.mu b).vir = false → (m.mu b).blk ≠ D := by
  intro b r hb hv e
  obtain ⟨_, _, h3⟩ := hW.row b r hb
  rw [hv] at h3
  simp only [Bool.false_eq_true, if_false] at h3
  obtain ⟨c, fz, hc, _⟩ := h3
  rw [e, hD] at hc
  cases hc
  exact ho _ _ _ rfl

theorem Step.keeps {R : Nat → RoRow} {m m' : Map} {h h' : Rows} {w w' : World} (hs : Step m h w m' h' w') (hW : WR R m h w) {D : Nat} {o : Obj} (hD : w.heap[D]? = some o) (ho : ∀ c t fz, o ≠ Obj.cells c t fz) : w'.heap[D]? = some o := by
  rw [hs.block D (Array.getElem?_eq_some_iff.1 hD).1 (hW.not_live hD ho)]
  exact hD

theorem Marks.step {R : Nat → RoRow} {B : Nat} {ds : List Deferred} {m m' : Map} {h h' : Rows} {w w' : World} (hk : Marks B ds w) (hW : WR R m h w) (hs : Step m h w m' h' w') : Marks B ds w' :=
  ⟨hk.1, fun d hd => by
    obtain ⟨D, e, hB, hD⟩ := hk.2 d hd
    exact ⟨D, e, hB, hs.keeps hW hD (fun _ _ _ h => by cases h)⟩⟩

/-- Safe, with marks of ranges that are over standing by. -/
def SafeM (P : Program) (R : Nat → RoRow) (c : Code) (st : St) (Q : Exit → St → Prop) : Prop :=
  ∀ m a w m0 h0 w0, Marks w0.heap.size a.defers w → Rel R m st (clr a) w → Step m0 h0 w0 m st.rows w →
    c.wpIn (Fd none) 0 P (fun e a' w' => Post R Q m0 h0 w0 e (clr a') w' ∧ Marks w0.heap.size a'.defers w') a w

theorem SafeM.of {P : Program} {R : Nat → RoRow} {c : Code} {st : St} {Q : Exit → St → Prop} (h : ∀ ds, SafeR none ds P R c st Q) : SafeM P R c st Q := by
  intro m a w m0 h0 w0 hk hr hs
  refine wpIn_mono (h a.defers m a w m st.rows w rfl hr (Step.refl _ _ _)) ?_
  rintro e a' w' ⟨⟨m', st', hok, hq, hr', hs'⟩, ha'⟩
  refine ⟨⟨m', st', hok, hq, hr', hs.trans hs'⟩, ?_⟩
  rw [ha']
  exact hk.step hr.wr hs'

theorem SafeM.mono {P : Program} {R : Nat → RoRow} {c : Code} {st : St} {Q Q' : Exit → St → Prop} (h : SafeM P R c st Q) (hq : ∀ e st, Q e st → Q' e st) : SafeM P R c st Q' :=
  fun m a w m0 h0 w0 hk hr hs => wpIn_mono (h m a w m0 h0 w0 hk hr hs) fun _ _ _ hp => ⟨hp.1.mono hq, hp.2⟩

theorem SafeM.seq {P : Program} {R : Nat → RoRow} {x y : Code} {st : St} {Q : Exit → St → Prop} (h : SafeM P R x st fun e st' => match e with | .normal => SafeM P R y st' Q | e => Q e st') : SafeM P R (.seq x y) st Q := by
  intro m a w m0 h0 w0 hk hr hs
  refine wpIn_seq (wpIn_mono (h m a w m0 h0 w0 hk hr hs) ?_)
  rintro e a' w' ⟨⟨m', st', hok, hq, hr', hs'⟩, hk'⟩
  cases e <;> first
    | exact hok.elim
    | exact ⟨⟨m', st', trivial, hq, hr', hs'⟩, hk'⟩
    | exact hq m' a' w' m0 h0 w0 hk' hr' hs'

theorem SafeM.block {P : Program} {R : Nat → RoRow} {id : Nat} {b : Code} {st : St} {Q : Exit → St → Prop} (h : SafeM P R b st fun e st' => match e with | .exit id' => bif Nat.beq id' id then Q .normal st' else Q (.exit id') st' | e => Q e st') : SafeM P R (.block id b) st Q := by
  intro m a w m0 h0 w0 hk hr hs
  refine wpIn_block (wpIn_mono (h m a w m0 h0 w0 hk hr hs) ?_)
  rintro e a' w' ⟨⟨m', st', hok, hq, hr', hs'⟩, ha'⟩
  cases e with
  | normal => exact ⟨⟨m', st', trivial, hq, hr', hs'⟩, ha'⟩
  | ret => exact ⟨⟨m', st', trivial, hq, hr', hs'⟩, ha'⟩
  | exit id' =>
    simp only [Exit.inBlock]
    by_cases hid : id' = id
    · rw [if_pos hid]
      subst hid
      simp only [Nat.beq_refl, cond_true] at hq
      exact ⟨⟨m', st', trivial, hq, hr', hs'⟩, ha'⟩
    · rw [if_neg hid]
      have : Nat.beq id' id = false := by rw [Bool.eq_false_iff]; exact fun e => hid (Nat.eq_of_beq_eq_true e)
      simp only [this, cond_false] at hq
      exact ⟨⟨m', st', trivial, hq, hr', hs'⟩, ha'⟩
  | goto l => exact hok.elim
  | panic ch => exact hok.elim
  | outgrown => exact hok.elim

theorem leaves_marks {P : Program} {fn : Func} {tmps : Array Value} {Rr : Ending → World → Prop} {B : Nat} : ∀ (ds : List Deferred) (w : World), Marks B ds w →
    (∀ w', Turned B w w' → ∃ v, (results fn tmps).run P w' = .ok v w' ∧ Rr (.returned v) w') → LeavesInM (Fd Option.none) 0 P fn tmps Rr ds .returning w
  | [], w, _, h => h w (Turned.refl _ _)
  | d :: ds, w, hk, h => by
    obtain ⟨D, rfl, hB, hD⟩ := hk.2 d (by simp)
    have ht : Turned B w (w.putObj D (.deferred none)) := Turned.putObj _ hD (fun _ _ _ h => by cases h) hB
    refine ⟨by simp, .inl ⟨D, _, rfl, run_takeDeferred hD, leaves_marks ds _ ⟨(List.nodup_cons.1 hk.1).2, fun d' hd' => ?_⟩ fun w' hw' => h w' (ht.trans hw')⟩⟩
    obtain ⟨D', rfl, hB', hD'⟩ := hk.2 d' (by simp [hd'])
    refine ⟨D', rfl, hB', ?_⟩
    rw [World.putObj_heap_other]
    · exact hD'
    · rintro rfl
      exact (List.nodup_cons.1 hk.1).1 hd'

/-- The call of a function whose body is safe, ranges over functions and all. -/
theorem SafeCall.of_bodyM {P : Program} {T : TypeId → Option TI} (hT : TabOK P T) {R : Nat → RoRow} {f : FuncId} {fi : FI} (hF : FnOK P f fi) {args : List AV} {h : Rows} {Q : AV → Rows → Prop}
    (hb : SafeM P R fi.body ⟨enterT args fi.ntmps, h⟩ fun e st => (e = .normal ∨ e = .ret) ∧ ∃ vs, ResOK T R st fi.results vs ∧ Q (tupOf vs) st.rows) : SafeCall P R f args h Q := by
  obtain ⟨fn, hfn, hbody, hnt, hres, hname⟩ := hF.fn
  intro m w m0 h0 w0 as has hW hS
  refine (callsIn_wide (n := 0)).1 (callsIn_of_wp_marks (F := Fd Option.none) hfn hbody trivial ?_ rfl)
  have hlen := has.length
  simp only [Array.length_toList] at hlen
  have hrel : Rel R m ⟨enterT args fi.ntmps, h⟩ { tmps := as ++ Array.replicate (fn.ntmps - as.size) undef, defers := [] } w := by
    refine ⟨by simp [enterT, hnt, hlen], ?_, rfl, hW⟩
    intro i x hx
    simp only [enterT] at hx
    by_cases hi : i < args.length
    · rw [List.getElem?_append_left hi] at hx
      obtain ⟨c, hc, hd⟩ := has.get hx
      have hi2 : i < as.size := by omega
      refine ⟨c, ?_, hd⟩
      rw [Array.getElem?_append_left hi2]
      simpa using hc
    · rw [List.getElem?_append_right (by omega)] at hx
      have hx2 := List.getElem?_eq_some_iff.1 hx
      obtain ⟨hlt, hxe⟩ := hx2
      simp at hlt hxe
      subst hxe
      refine ⟨undef, ?_, by simp [Den, DenL, undef]⟩
      rw [Array.getElem?_append_right (by omega)]
      rw [Array.getElem?_replicate]
      rw [if_pos (by omega)]
  refine wpIn_mono (hb m _ w m0 h0 w0 ⟨by simp, by simp⟩ hrel hS) ?_
  rintro e a' w' ⟨⟨m', st', hok, ⟨he, vs, hvs, hq⟩, hr', hs'⟩, hk'⟩
  have key : LeavesInM (Fd Option.none) 0 P fn a'.tmps (fun e w' => ∃ c v m' h', e = .returned c ∧ Q v h' ∧ Den m' h'.length v c ∧ WR R m' h' w' ∧ Step m0 h0 w0 m' h' w') a'.defers .returning w' := by
    refine leaves_marks _ _ hk' ?_
    intro w2 ht
    have hr2 : Rel R m' st' (clr a') w2 := ⟨hr'.size, hr'.tmps, hr'.defers, hr'.wr.others ht.others⟩
    have hs2 : Step m0 h0 w0 m' st'.rows w2 := hs'.turned ht
    obtain ⟨c, hfin, hden⟩ : ∃ c, (results fn a'.tmps).run P w2 = .ok c w2 ∧ Den m' st'.rows.length (tupOf vs) c := by
      have hres' : ∃ F : ResultVar → Sem Value, (∀ t, F (.tmp t) = pure (a'.tmps.getD t undef)) ∧ (∀ x t, F (.cell x t) = do loadVar t (← asAddr (a'.tmps.getD x undef))) ∧
          results fn a'.tmps = (do let vs ← fn.results.mapM F; pure (if h : vs.size = 1 then vs[0] else .tuple vs)) := ⟨_, fun _ => rfl, fun _ _ => rfl, rfl⟩
      obtain ⟨F, hF1, hF2, hres'⟩ := hres'
      rw [hres', hres]
      simp only [Sem.run_bind]
      rw [List.mapM_toArray]
      simp only [Sem.run_map]
      obtain ⟨cs, hcs, hd⟩ := res_run hT hr2 F hF1 hF2 hvs
      rw [hcs]
      simp only [Result.andThen_ok, Sem.run_pure]
      refine ⟨_, rfl, ?_⟩
      cases vs with
      | nil =>
        simp only [DenL] at hd
        subst hd
        simp [tupOf, Den, DenL]
      | cons v vs =>
        simp only [DenL] at hd
        obtain ⟨u, us, rfl, h1, h2⟩ := hd
        cases vs with
        | nil =>
          simp only [DenL] at h2
          subst h2
          simpa [tupOf] using h1
        | cons v2 vs =>
          simp only [DenL] at h2
          obtain ⟨u2, us, rfl, h2, h3⟩ := h2
          simp only [tupOf, Den]
          refine ⟨(u :: u2 :: us).toArray, by simp, ?_⟩
          simp only [DenL]
          exact ⟨u, _, rfl, h1, u2, us, rfl, h2, h3⟩
    exact ⟨c, hfin, c, _, m', st'.rows, rfl, hq, hden, hr2.wr, hs2⟩
  rcases he with rfl | rfl
  · exact key
  · exact key

/-! ### Rows that are put aside -/
def dead (ds : List Nat) (h : Rows) : Rows := ds.foldl (fun acc c => acc.set c none) h
def revive (ds : List Nat) (h h' : Rows) : Rows := ds.foldl (fun acc c => acc.set c (h.getD c none)) h'

theorem dead_length : ∀ (ds : List Nat) (h : Rows), (dead ds h).length = h.length
  | [], h => rfl
  | c :: ds, h => by
    show (dead ds (h.set c none)).length = _
    rw [dead_length ds]; simp
theorem revive_length (h : Rows) : ∀ (ds : List Nat) (h' : Rows), (revive ds h h').length = h'.length
  | [], h' => rfl
  | c :: ds, h' => by
    show (revive ds h (h'.set c _)).length = _
    rw [revive_length h ds]; simp

theorem set_live (h : Rows) (c b : Nat) (o : Option Row) : Rows.live (h.set c o) b = if c = b then (if c < h.length then o else none) else h.live b := by
  unfold Rows.live
  by_cases e : c = b
  · subst e
    by_cases hl : c < h.length
    · simp [hl]
    · simp [hl]
  · simp [e]

theorem dead_live : ∀ (ds : List Nat) (h : Rows) (b : Nat), (dead ds h).live b = if b ∈ ds then none else h.live b
  | [], h, b => by simp [dead]
  | c :: ds, h, b => by
    show (dead ds (h.set c none)).live b = _
    rw [dead_live ds, set_live]
    by_cases e : c = b
    · subst e
      by_cases h1 : c ∈ ds <;> by_cases h2 : c < h.length <;> simp [h1, h2]
    · have : b ≠ c := fun x => e x.symm
      by_cases h1 : b ∈ ds <;> simp [h1, e, this]

theorem revive_live (h : Rows) : ∀ (ds : List Nat) (h' : Rows) (b : Nat), b < h'.length → (revive ds h h').live b = if b ∈ ds then h.live b else h'.live b
  | [], h', b, _ => by simp [revive]
  | c :: ds, h', b, hb => by
    show (revive ds h (h'.set c (h.getD c none))).live b = _
    rw [revive_live h ds _ _ (by simpa using hb), set_live]
    by_cases e : c = b
    · subst e
      have : h.getD c none = h.live c := by
        unfold Rows.live
        rw [List.getD]
        cases h[c]? <;> rfl
      by_cases h1 : c ∈ ds
      · simp [h1]
      · rw [if_neg h1, if_pos rfl, if_pos hb, this]
        simp
    · have : b ≠ c := fun x => e x.symm
      by_cases h1 : b ∈ ds <;> simp [h1, e, this]

theorem WR.dead {R : Nat → RoRow} {m : Map} {h : Rows} {w : World} (hW : WR R m h w) (ds : List Nat) : WR R m (dead ds h) w := by
  have sub : ∀ b r, (Dc.dead ds h).live b = some r → h.live b = some r := by
    intro b r hb
    rw [dead_live] at hb
    split at hb
    · cases hb
    · exact hb
  exact ⟨fun b r hb => by rw [dead_length]; exact hW.row b r (sub b r hb), fun b b' r r' hb hb' => hW.apart b b' r r' (sub b r hb) (sub b' r' hb'), hW.ro, fun i b r hb => hW.roApart i b r (sub b r hb)⟩

theorem Step.dead {m0 m : Map} {h0 h : Rows} {w0 w : World} (hs : Step m0 h0 w0 m h w) (ds : List Nat) : Step m0 h0 w0 m (dead ds h) w where
  os := hs.os
  tape := hs.tape
  output := hs.output
  size := hs.size
  block := hs.block
  len := by rw [dead_length]; exact hs.len
  mu := hs.mu
  ro := hs.ro
  new := fun b r hb hv => by
    rw [dead_live] at hb
    split at hb
    · cases hb
    · exact hs.new b r hb hv

/-- A block that is none of a live row's stays none's, step for step. -/
theorem Step.aside {m m' : Map} {h h' : Rows} {w w' : World} (hs : Step m h w m' h' w') {D : Nat} (hD : D < w.heap.size) (hn : ∀ b r, h.live b = some r → (m.mu b).vir = false → (m.mu b).blk ≠ D) :
    ∀ b r, h'.live b = some r → (m'.mu b).vir = false → (m'.mu b).blk ≠ D := by
  intro b r hb hv e
  rcases hs.new b r hb hv with h1 | ⟨c, r', hc, hcv, hce⟩
  · omega
  · exact hn c r' hc hcv (hce.trans e)

theorem revive_ok {R : Nat → RoRow} {m m' : Map} {h h' : Rows} {w W : World} {ds : List Nat} (hW : WR R m h w) (hs : Step m (dead ds h) w m' h' W) (hW' : WR R m' h' W) :
    WR R m' (revive ds h h') W ∧ Step m h w m' (revive ds h h') W := by
  have hlen : h.length ≤ h'.length := by have := hs.len; rwa [dead_length] at this
  have hmu : ∀ b, b < h.length → m'.mu b = m.mu b := fun b hb => hs.mu b (by rw [dead_length]; exact hb)
  have dl : ∀ b r, (dead ds h).live b = some r → h.live b = some r ∧ b ∉ ds := by
    intro b r hb
    rw [dead_live] at hb
    split at hb
    · cases hb
    · rename_i hn; exact ⟨hb, hn⟩
  -- what is live behind
  have cases2 : ∀ b r, (revive ds h h').live b = some r → (b ∈ ds ∧ h.live b = some r) ∨ (b ∉ ds ∧ h'.live b = some r) := by
    intro b r hb
    have hlt := live_lt hb
    rw [revive_length] at hlt
    rw [revive_live _ _ _ _ hlt] at hb
    split at hb
    · rename_i hm; exact .inl ⟨hm, hb⟩
    · rename_i hm; exact .inr ⟨hm, hb⟩
  have blkEq : ∀ b r, b ∈ ds → h.live b = some r → (m.mu b).vir = false → (m.mu b).blk < w.heap.size ∧ W.heap[(m.mu b).blk]? = w.heap[(m.mu b).blk]? ∧ (∀ c r', h'.live c = some r' → (m'.mu c).vir = false → (m'.mu c).blk ≠ (m.mu b).blk) := by
    intro b r hm hb hv
    have hlt : (m.mu b).blk < w.heap.size := by
      obtain ⟨_, _, h3⟩ := hW.row b r hb
      rw [hv] at h3
      simp only [Bool.false_eq_true, if_false] at h3
      obtain ⟨c, fz, hc, _⟩ := h3
      exact (Array.getElem?_eq_some_iff.1 hc).1
    have hne : ∀ c r', (dead ds h).live c = some r' → (m.mu c).vir = false → (m.mu c).blk ≠ (m.mu b).blk := by
      intro c r' hc hcv e
      obtain ⟨hc1, hc2⟩ := dl c r' hc
      exact hc2 (hW.apart c b r' r hc1 hb hcv hv e ▸ hm)
    exact ⟨hlt, hs.block _ hlt hne, hs.aside hlt hne⟩
  refine ⟨⟨?_, ?_, ?_, ?_⟩, ?_⟩
  · intro b r hb
    rw [revive_length]
    rcases cases2 b r hb with ⟨hm, hl⟩ | ⟨hm, hl⟩
    · rw [hmu b (live_lt hl)]
      exact (hW.row b r hl).mono hlen hmu hs.ro (fun hv => (blkEq b r hm hl hv).2.1)
    · exact hW'.row b r hl
  · intro b b' r r' hb hb' hv hv' e
    rcases cases2 b r hb with ⟨hm, hl⟩ | ⟨hm, hl⟩ <;> rcases cases2 b' r' hb' with ⟨hm', hl'⟩ | ⟨hm', hl'⟩
    · rw [hmu b (live_lt hl)] at hv e
      rw [hmu b' (live_lt hl')] at hv' e
      exact hW.apart b b' r r' hl hl' hv hv' e
    · rw [hmu b (live_lt hl)] at hv e
      exact absurd e.symm ((blkEq b r hm hl hv).2.2 b' r' hl' hv')
    · rw [hmu b' (live_lt hl')] at hv' e
      exact absurd e ((blkEq b' r' hm' hl' hv').2.2 b r hl hv)
    · exact hW'.apart b b' r r' hl hl' hv hv' e
  · exact hW'.ro
  · intro i b r hb hv hiv hn
    rcases cases2 b r hb with ⟨hm, hl⟩ | ⟨hm, hl⟩
    · rw [hmu b (live_lt hl)] at hv ⊢
      rw [hs.ro] at hiv ⊢
      exact hW.roApart i b r hl hv hiv hn
    · exact hW'.roApart i b r hl hv hiv hn
  · refine ⟨hs.os, hs.tape, hs.output, hs.size, ?_, by rw [revive_length]; exact hlen, hmu, hs.ro, ?_⟩
    · intro k hk hn
      refine hs.block k hk ?_
      intro b r hb hv
      exact hn b r (dl b r hb).1 hv
    · intro b r hb hv
      rcases cases2 b r hb with ⟨hm, hl⟩ | ⟨hm, hl⟩
      · rw [hmu b (live_lt hl)] at hv ⊢
        exact .inr ⟨b, r, hl, hv, rfl⟩
      · rcases hs.new b r hl hv with h1 | ⟨c, r', hc, hcv, hce⟩
        · exact .inl h1
        · exact .inr ⟨c, r', (dl c r' hc).1, hcv, hce⟩

end Go.Dc
end
section
set_option linter.unusedSimpArgs false
set_option linter.unusedVariables false
namespace Go.Dc

/-- An element of a slice, as a load reads it. -/
def ElemAt (W : World) (b o n : Nat) (v : Value) : Prop :=
  (n = 1 ∧ single v = true ∧ W.cell? ⟨b, o, none⟩ = some v) ∨
  ∃ vs : Array Value, v = .agg vs ∧ vs.size = n ∧ ∀ t x, vs[t]? = some x → single x = true ∧ W.cell? ⟨b, o + t, none⟩ = some x

/-- What slices.Backward's closure does: it calls the round at each place, the last one first. -/
def BackOK (P : Program) (gf esz : Nat) : Prop :=
  ∀ (l bb bo blk off len cap : Nat) (a : Option Addr) (vals : Nat → Value) (J : Nat → World → Prop) (Jx : World → Prop) (W : World),
    len ≤ cap → cap ≤ maxLen → (0 < len → a = some ⟨blk, off, none⟩) → W.cell? ⟨bb, bo, none⟩ = some (.slice a len cap) →
    (∀ j, j < len → ElemAt W blk (off + j * esz) esz (vals j)) →
    (∀ k W1 W2, J k W1 → W1.grownBy W2 none → J k W2) →
    (∀ k W1, k < len → J k W1 → W1.heap[bb]? = W.heap[bb]? → W1.heap[blk]? = W.heap[blk]? → YieldAt Fence.wide 0 P l #[.int .i64 ((len - 1 - k : Nat) : Int), vals (len - 1 - k)] W1 fun e W' =>
       (e = .returned (.bool true) ∧ J (k + 1) W' ∧ W'.heap[bb]? = W1.heap[bb]? ∧ W'.heap[blk]? = W1.heap[blk]?) ∨ (e = .returned (.bool false) ∧ Jx W')) →
    J 0 W →
    Calls P gf #[.func (.yield l) #[] #[], .pointer (some ⟨bb, bo, none⟩)] W fun e W' => (∃ v, e = .returned v) ∧ (J len W' ∨ Jx W')

def jumpOf : Exit → Option Code
  | .ret => some .ret
  | .exit id => some (.exit id)
  | _ => none

/-- An element in the cells of a block, as a load reads it. -/
theorem elem_of {m : Map} {n : Nat} {w : World} {blk shift esz i : Nat} {c : Array Value} {ty : TypeId} {fz : Nat × Nat} {e : AV} (hc : w.heap[blk]? = some (.cells c ty fz)) (hl : e.cells.length = esz)
    (hcell : ∀ o a, e.cells[o]? = some a → a.one = true ∧ ∃ v, c[shift + (i * esz + o)]? = some v ∧ Den m n a v) :
    ∃ v, ElemAt w blk (shift + i * esz) esz v ∧ Den m n e v := by
  have rd : ∀ o v, c[shift + (i * esz + o)]? = some v → w.cell? ⟨blk, shift + i * esz + o, none⟩ = some v := by
    intro o v hv2
    simp only [World.cell?, hc]
    rw [Nat.add_assoc]
    simpa using hv2
  by_cases ha : ∃ cs, e = .agg cs
  · obtain ⟨cs, rfl⟩ := ha
    have hlen : cs.length = esz := hl
    have get : ∀ o, o < esz → ∃ v, c[shift + (i * esz + o)]? = some v := by
      intro o ho
      have : o < cs.length := by omega
      obtain ⟨_, v, hv2, _⟩ := hcell o cs[o] (by simp [AV.cells, this])
      exact ⟨v, hv2⟩
    let vs : Array Value := Array.ofFn (n := esz) fun o => (get o.1 o.2).choose
    have hvs : ∀ t x, vs[t]? = some x → t < esz ∧ c[shift + (i * esz + t)]? = some x := by
      intro t x hx
      have ht : t < esz := by
        have := (Array.getElem?_eq_some_iff.1 hx).1
        simpa [vs] using this
      refine ⟨ht, ?_⟩
      have : x = (get t ht).choose := by
        have := (Array.getElem?_eq_some_iff.1 hx).2
        simpa [vs] using this.symm
      rw [this]
      exact (get t ht).choose_spec
    refine ⟨.agg vs, .inr ⟨vs, rfl, by simp [vs], ?_⟩, ?_⟩
    · intro t x hx
      obtain ⟨ht, hxc⟩ := hvs t x hx
      have : t < cs.length := by omega
      obtain ⟨h1', v, hv2, hd2⟩ := hcell t cs[t] (by simp [AV.cells, this])
      rw [hxc] at hv2
      cases hv2
      exact ⟨hd2.oneCell h1', rd t x hxc⟩
    · simp only [Den]
      refine ⟨vs, rfl, DenL.of (by simp [vs, hlen]) ?_⟩
      intro t a ha2
      have ht : t < cs.length := (List.getElem?_eq_some_iff.1 ha2).1
      obtain ⟨_, v, hv2, hd2⟩ := hcell t a (by simpa [AV.cells] using ha2)
      have hlt : t < vs.size := by simp [vs]; omega
      refine ⟨vs[t], by simp [hlt], ?_⟩
      obtain ⟨_, hxc⟩ := hvs t vs[t] (by simp [hlt])
      rw [hxc] at hv2
      cases hv2
      exact hd2
  · have hce : e.cells = [e] := by
      cases e <;> simp [AV.cells] at ha ⊢
    have h1' : esz = 1 := by rw [← hl, hce]; rfl
    obtain ⟨hone, v, hv2, hd2⟩ := hcell 0 e (by rw [hce]; rfl)
    exact ⟨v, .inl ⟨h1', hd2.oneCell hone, by simpa using rd 0 v hv2⟩, hd2⟩

theorem RowOK.elem {m : Map} {n : Nat} {l : Loc} {r : Row} {w : World} (h : RowOK m n l r w) (hv : l.vir = false) {i : Nat} {e : AV} (he : r.get? i = some e) :
    ∃ v, ElemAt w l.blk (l.shift + i * l.esz) l.esz v ∧ Den m n e v := by
  obtain ⟨h1, h2, h3⟩ := h
  rw [hv] at h3
  simp only [Bool.false_eq_true, if_false] at h3
  obtain ⟨c, fz, hc, hs, hf, hd⟩ := h3
  obtain ⟨hl, hcell⟩ := hd i e he
  exact elem_of hc hl hcell

theorem RoOK.elem {m : Map} {l : Loc} {r : RoRow} {w : World} (h : RoOK m l r w) (hv : l.vir = false) {i : Nat} (hi : i < r.n) :
    ∃ v, ElemAt w l.blk (l.shift + i * l.esz) l.esz v ∧ Den m 0 (r.at_ i) v := by
  obtain ⟨h1, h2, h3⟩ := h
  rw [hv] at h3
  simp only [Bool.false_eq_true, if_false] at h3
  obtain ⟨c, fz, hc, hd⟩ := h3 (by omega)
  obtain ⟨hl, hcell⟩ := hd i hi
  exact elem_of hc hl hcell

theorem fold2 (p0 p1 : Tmp) (t : Array Value) (x y : Value) : (#[p0, p1].zip #[x, y]).foldl (fun tmps (t, a) => tmps.setIfInBounds t a) t = (t.setIfInBounds p0 x).setIfInBounds p1 y := by
  rw [← Array.foldl_toList, Array.toList_zip]
  rfl

theorem clr_mk (a : Act) (ds : List Deferred) : clr { a with defers := ds } = clr a := rfl

/-- Fewer rows: those of before, and what is still of use of the others. -/
def FitR (nk : Nat) (rowsE rows : Rows) : Prop := ∃ f : Nat → Option Nat, View f rowsE rows ∧ (∀ c, c < nk → f c = some c) ∧ nk ≤ rowsE.length

/-- **The statement.** -/
theorem range_ok {P : Program} {R : Nat → RoRow} {gf esz : Nat} (hB : BackOK P gf esz) (hent : ∀ args w, (callFunc gf args).run P w = .ok (.enter gf args) w)
    {st : St} {g : Operand} {p0 p1 : Tmp} {assign body : Code} {bx : Nat} (hg : st.ev g = .fn gf [] [.ptr false bx 0 0])
    {rb : Row} (hbx : st.rows.live bx = some rb) {sv : AV} (hsv0 : rb.get? 0 = some sv)
    {ds : List Nat} {len : Nat} {els : Nat → AV} (hbd : bx ∈ ds)
    (hsv : (sv = .nils ∧ len = 0) ∨ (∃ b i full r, sv = .sl false b i len full ∧ st.rows.live b = some r ∧ r.esz = esz ∧ b ∈ ds ∧ ∀ j, j < len → r.get? (i + j) = some (els j)) ∨
      (∃ b i full, sv = .sl true b i len full ∧ (R b).esz = esz ∧ i + len ≤ (R b).n ∧ ∀ j, j < len → els j = (R b).at_ (i + j)))
    {I : Nat → Rows → Prop} {X : Exit → Rows → Prop} (h0 : I 0 (dead ds st.rows))
    (hround : ∀ l k rows, k < len → I k rows → SafeR (some l) [] P R assign ⟨(st.tmps.set p0 (.int .i64 ((len - 1 - k : Nat) : Int))).set p1 (els (len - 1 - k)), rows⟩ fun e st1 => e = .normal ∧
      SafeR (some l) [] P R body st1 fun e st2 => ∃ rowsE, (rowsE = st2.rows ∨ FitR st.rows.length rowsE st2.rows) ∧ match e with | .normal => I (k + 1) rowsE | e => X e rowsE)
    {Q : Exit → St → Prop} (hdone : ∀ rows, I len rows → Q .normal ⟨st.tmps, revive ds st.rows rows⟩)
    (hexit : ∀ e rows, X e rows → Q e ⟨st.tmps, revive ds st.rows rows⟩) :
    SafeM P R (.rangeFunc g #[p0, p1] assign body) st Q := by
  intro m a w m0 h0' w0 hk hr hs
  have hev := hr.ev g
  rw [hg] at hev
  simp only [Den, DenL] at hev
  obtain ⟨us, lb, hfv, hus, hcap⟩ := hev
  obtain ⟨pv, ps', hlb, ⟨hbxn, hbvir, hpv⟩, hnil⟩ := hcap
  subst hnil
  have hbvir := hbvir
  simp only [Map.loc, Bool.false_eq_true, if_false] at hbvir hpv
  have hus' : us = #[] := by
    cases us with
    | mk l => simp at hus; rw [hus]
  have hlb' : lb = #[pv] := by
    cases lb with
    | mk l => simp at hlb; rw [hlb]
  subst hus' hlb' hpv
  -- the slice
  have hW := hr.wr
  obtain ⟨sval, hsel, hsden⟩ := (hW.row bx rb hbx).elem hbvir hsv0
  refine wpIn_rangeFunc ?_
  intro fn hfn
  obtain ⟨rec, hrec⟩ : ∃ rec : LoopState → Option Code → Loop, rec = fun st pe => { state := st, pending := pe, fn, tmps := a.tmps, params := #[p0, p1], assign, body, defers := w.heap.size } := ⟨_, rfl⟩
  obtain ⟨W1, hW1⟩ : ∃ W1, (w.alloc (.deferred (some []))).alloc (.loop (rec .ready none)) = W1 := ⟨_, rfl⟩
  have hL1 : W1.heap[w.heap.size + 1]? = some (.loop (rec .ready none)) := by
    rw [← hW1]; have := World.alloc_heap_new (w.alloc (.deferred (some []))) (.loop (rec .ready none)); rwa [World.size_alloc] at this
  have hD1 : W1.heap[w.heap.size]? = some (.deferred (some [])) := by
    rw [← hW1, heap_alloc_old _ _ _ (by simp)]; exact World.alloc_heap_new w _
  have ht1 : Turned w.heap.size w W1 := by
    rw [← hW1]
    exact (Turned.alloc w _ (Nat.le_refl _)).trans (Turned.alloc _ _ (by simp))
  have hsz1 : W1.heap.size = w.heap.size + 2 := by rw [← hW1]; simp
  -- what stands between two rounds
  let Base : Nat → Map → Rows → World → Prop := fun _ m' rows W => WR R m' rows W ∧ Step m (dead ds st.rows) w m' rows W
  let J : Nat → World → Prop := fun k W => ∃ m' rows, I k rows ∧ WR R m' rows W ∧ Step m (dead ds st.rows) w m' rows W ∧ W.heap[w.heap.size + 1]? = some (.loop (rec .ready none)) ∧ W.heap[w.heap.size]? = some (.deferred (some []))
  let Jx : World → Prop := fun W => ∃ e c m' rows, jumpOf e = some c ∧ X e rows ∧ WR R m' rows W ∧ Step m (dead ds st.rows) w m' rows W ∧ W.heap[w.heap.size + 1]? = some (.loop (rec .done (some c))) ∧ W.heap[w.heap.size]? = some (.deferred (some []))
  have J0 : J 0 W1 := ⟨m, _, h0, (hW.dead ds).others ht1.others, (Step.refl m (dead ds st.rows) w).turned ht1, hL1, hD1⟩
  -- the address of the elements, and the elements
  obtain ⟨blk, off, cap, ao, vals, hsval, hlc, hcm, hao, hel, hden, hblk⟩ : ∃ (blk off cap : Nat) (ao : Option Addr) (vals : Nat → Value), sval = .slice ao len cap ∧ len ≤ cap ∧ cap ≤ maxLen ∧ (0 < len → ao = some ⟨blk, off, none⟩) ∧
      (∀ j, j < len → ElemAt w blk (off + j * esz) esz (vals j)) ∧ (∀ j, j < len → Den m st.rows.length (els j) (vals j)) ∧
      (0 < len → blk < w.heap.size ∧ ∀ b r, (dead ds st.rows).live b = some r → (m.mu b).vir = false → (m.mu b).blk ≠ blk) := by
    rcases hsv with ⟨rfl, rfl⟩ | ⟨b, i, full, r, rfl, hb, hre, hbd', hels⟩ | ⟨b, i, full, rfl, hre, hin, hels⟩
    · simp only [Den] at hsden
      exact ⟨0, 0, 0, none, fun _ => undef, hsden, Nat.le_refl _, Nat.zero_le _, by omega, by omega, by omega, by omega⟩
    · simp only [Den, Map.loc, Bool.false_eq_true, if_false, SlDen] at hsden
      obtain ⟨_, hsden⟩ := hsden
      cases hv : (m.mu b).vir with
      | true =>
        rw [hv] at hsden
        simp only [if_true] at hsden
        obtain ⟨rfl, ao, rfl, _⟩ := hsden
        exact ⟨0, 0, 0, ao, fun _ => undef, rfl, Nat.le_refl _, Nat.zero_le _, by omega, by omega, by omega, by omega⟩
      | false =>
        rw [hv] at hsden
        simp only [Bool.false_eq_true, if_false] at hsden
        obtain ⟨a', cap, rfl, h1, h2, _, h4⟩ := hsden
        have hrow := hW.row b r hb
        have hesz : (m.mu b).esz = esz := hrow.1.trans hre
        have each : ∀ j, j < len → ∃ v, ElemAt w (m.mu b).blk ((m.mu b).shift + i * esz + j * esz) esz v ∧ Den m st.rows.length (els j) v := by
          intro j hj
          have := hrow.elem hv (hels j hj)
          rwa [hesz, Nat.add_mul, ← Nat.add_assoc] at this
        refine ⟨(m.mu b).blk, (m.mu b).shift + i * esz, cap, some a', fun j => if hj : j < len then (each j hj).choose else undef, rfl, h1, h2, ?_, ?_, ?_, ?_⟩
        · intro hl
          obtain ⟨e1, _⟩ := h4 (by omega)
          rw [e1, hesz]
        · intro j hj
          simp only [hj, dif_pos]
          exact (each j hj).choose_spec.1
        · intro j hj
          simp only [hj, dif_pos]
          exact (each j hj).choose_spec.2
        · intro _
          refine ⟨?_, ?_⟩
          · obtain ⟨_, _, h3⟩ := hrow
            rw [hv] at h3
            simp only [Bool.false_eq_true, if_false] at h3
            obtain ⟨c, fz, hc, _⟩ := h3
            exact (Array.getElem?_eq_some_iff.1 hc).1
          · intro c rc hc hcv e
            rw [dead_live] at hc
            split at hc
            · cases hc
            · rename_i hn
              have := hW.apart c b rc r hc hb hcv hv e
              exact hn (this ▸ hbd')
    · simp only [Den, Map.loc, if_true, SlDen] at hsden
      obtain ⟨_, hsden⟩ := hsden
      cases hv : (m.ro b).vir with
      | true =>
        rw [hv] at hsden
        simp only [if_true] at hsden
        obtain ⟨rfl, ao, rfl, _⟩ := hsden
        exact ⟨0, 0, 0, ao, fun _ => undef, rfl, Nat.le_refl _, Nat.zero_le _, by omega, by omega, by omega, by omega⟩
      | false =>
        rw [hv] at hsden
        simp only [Bool.false_eq_true, if_false] at hsden
        obtain ⟨a', cap, rfl, h1, h2, _, h4⟩ := hsden
        have hrow := hW.ro b
        have hesz : (m.ro b).esz = esz := hrow.1.trans hre
        have each : ∀ j, j < len → ∃ v, ElemAt w (m.ro b).blk ((m.ro b).shift + i * esz + j * esz) esz v ∧ Den m st.rows.length (els j) v := by
          intro j hj
          obtain ⟨v, hv1, hv2⟩ := hrow.elem hv (i := i + j) (by omega)
          rw [hesz, Nat.add_mul, ← Nat.add_assoc] at hv1
          rw [hels j hj]
          exact ⟨v, hv1, hv2.mono (Nat.zero_le _) (fun _ _ => rfl) rfl⟩
        refine ⟨(m.ro b).blk, (m.ro b).shift + i * esz, cap, some a', fun j => if hj : j < len then (each j hj).choose else undef, rfl, h1, h2, ?_, ?_, ?_, ?_⟩
        · intro hl
          obtain ⟨e1, _⟩ := h4 (by omega)
          rw [e1, hesz]
        · intro j hj
          simp only [hj, dif_pos]
          exact (each j hj).choose_spec.1
        · intro j hj
          simp only [hj, dif_pos]
          exact (each j hj).choose_spec.2
        · intro hl
          refine ⟨?_, ?_⟩
          · obtain ⟨_, _, h3⟩ := hrow
            rw [hv] at h3
            simp only [Bool.false_eq_true, if_false] at h3
            obtain ⟨c, fz, hc, _⟩ := h3 (by omega)
            exact (Array.getElem?_eq_some_iff.1 hc).1
          · intro c rc hc hcv e
            rw [dead_live] at hc
            split at hc
            · cases hc
            · exact hW.roApart b c rc hc hcv hv (by omega) e.symm
  subst hsval
  have hbb : (m.mu bx).blk < w.heap.size ∧ ∀ b r, (dead ds st.rows).live b = some r → (m.mu b).vir = false → (m.mu b).blk ≠ (m.mu bx).blk := by
    refine ⟨?_, ?_⟩
    · obtain ⟨_, _, h3⟩ := hW.row bx rb hbx
      rw [hbvir] at h3
      simp only [Bool.false_eq_true, if_false] at h3
      obtain ⟨c, fz, hc, _⟩ := h3
      exact (Array.getElem?_eq_some_iff.1 hc).1
    · intro c rc hc hcv e
      rw [dead_live] at hc
      split at hc
      · cases hc
      · rename_i hn
        have := hW.apart c bx rc rb hc hbx hcv hbvir e
        exact hn (this ▸ hbd)
  have hcell : W1.cell? ⟨(m.mu bx).blk, (m.mu bx).shift + (0 * (m.mu bx).esz + 0), none⟩ = some (.slice ao len cap) := by
    rw [World.cell?_of_block (w := w) (ht1.below _ hbb.1)]
    rcases hsel with ⟨_, _, h⟩ | ⟨vs, h, _⟩
    · simpa using h
    · cases h
  refine ⟨w.heap.size + 1, [{ target := .collected w.heap.size, args := #[] }], W1, { target := .fn (.func gf) #[.pointer (some ⟨(m.mu bx).blk, (m.mu bx).shift + (0 * (m.mu bx).esz + 0), none⟩)], args := #[.func (.yield (w.heap.size + 1)) #[] #[]] }, W1, gf,
    #[.func (.yield (w.heap.size + 1)) #[] #[]] ++ #[.pointer (some ⟨(m.mu bx).blk, (m.mu bx).shift + (0 * (m.mu bx).esz + 0), none⟩)], W1, ?_, ?_, ?_, ?_, ?_, ?_⟩
  · rw [← hW1, hrec]; exact run_enterLoop_outer _ _ _ _ _
  · have hfv' : a.eval g = .func (.func gf) #[] #[.pointer (some ⟨(m.mu bx).blk, (m.mu bx).shift + (0 * (m.mu bx).esz + 0), none⟩)] := hfv
    simp only [resolve, hfv']
    simp [go_sem]
  · intro f' _; trivial
  · simp [invoke, go_sem, hent]
  · intro h; simp [Fd, Fence.wide] at h
  · refine (callsR (rd := none) (n := 0) (hB (w.heap.size + 1) _ _ blk off len cap ao vals J Jx W1 hlc hcm hao hcell ?_ ?_ ?_ J0)).mono ?_
    · intro j hj
      have hb1 := (hblk (by omega)).1
      rcases hel j hj with ⟨h1, h2, h3⟩ | ⟨vs, h1, h2, h3⟩
      · exact .inl ⟨h1, h2, by rw [World.cell?_of_block (w := w) (ht1.below _ hb1)]; exact h3⟩
      · exact .inr ⟨vs, h1, h2, fun t x hx => ⟨(h3 t x hx).1, by rw [World.cell?_of_block (w := w) (ht1.below _ hb1)]; exact (h3 t x hx).2⟩⟩
    · -- a new block minds nobody
      rintro k A B ⟨m', rows, hI, hWR, hS, hl, hd⟩ hg'
      have ht : Turned w.heap.size A B := ⟨hg'.os, hg'.tape, hg'.output, ⟨hg'.size, fun i c t fz hi => by
        rw [hg'.block i (Array.getElem?_eq_some_iff.1 hi).1 (by simp)]; exact hi⟩, fun i hi => hg'.block i (Nat.lt_of_lt_of_le hi hS.size) (by simp)⟩
      exact ⟨m', rows, hI, hWR.others ht.others, hS.turned ht, by rw [hg'.block _ (Array.getElem?_eq_some_iff.1 hl).1 (by simp)]; exact hl, by rw [hg'.block _ (Array.getElem?_eq_some_iff.1 hd).1 (by simp)]; exact hd⟩
    · -- one round
      rintro k W hlt ⟨m', rows, hI, hWR, hS, hl, hd⟩ _ _
      have hmu : ∀ b, b < st.rows.length → m'.mu b = m.mu b := fun b hb => hS.mu b (by rw [dead_length]; exact hb)
      have hlen : st.rows.length ≤ rows.length := by have := hS.len; rwa [dead_length] at this
      have hlt1 : w.heap.size + 1 < W.heap.size := (Array.getElem?_eq_some_iff.1 hl).1
      have hy := run_yield (P := P) (args := #[.int .i64 ((len - 1 - k : Nat) : Int), vals (len - 1 - k)]) hl (by rw [hrec]; rfl)
      rw [hrec] at hy
      have hfold : ∀ (t : Array Value) (x y : Value), (#[p0, p1].zip #[x, y]).foldl (fun tmps (t, a) => tmps.setIfInBounds t a) t = (t.setIfInBounds p0 x).setIfInBounds p1 y := by
        exact fold2 p0 p1
      dsimp only at hy
      rw [hfold] at hy
      refine ⟨fn, _, assign, body, hy, roundIn_of_wpIn trivial ?_⟩
      -- the state at the head of the round
      have hrel : Rel R m' ⟨(st.tmps.set p0 (.int .i64 ((len - 1 - k : Nat) : Int))).set p1 (els (len - 1 - k)), rows⟩ { tmps := (a.tmps.setIfInBounds p0 (.int .i64 ((len - 1 - k : Nat) : Int))).setIfInBounds p1 (vals (len - 1 - k)), defers := [] } W := by
        have r0 : Rel R m' ⟨st.tmps, rows⟩ { tmps := a.tmps, defers := [] } W :=
          ⟨hr.size, fun i x hx => by obtain ⟨c, hc, hd'⟩ := hr.tmps i x hx; exact ⟨c, hc, hd'.mono hlen hmu hS.ro⟩, rfl, hWR⟩
        have r1 := r0.put (Step.refl _ _ _) hWR (some p0) (v := .int .i64 ((len - 1 - k : Nat) : Int)) (c := .int .i64 ((len - 1 - k : Nat) : Int)) (by simp [Den])
        exact r1.put (Step.refl _ _ _) hWR (some p1) ((hden (len - 1 - k) (by omega)).mono hlen hmu hS.ro)
      refine wpIn_mono ((hround (w.heap.size + 1) k rows hlt hI) m' _ W m' rows W rfl hrel (Step.refl _ _ _)) ?_
      rintro e a1 W2 ⟨⟨m1, st1, hok, ⟨rfl, hbody⟩, hr1, hs1⟩, ha1⟩
      have hl2 : W2.heap[w.heap.size + 1]? = some (.loop (rec .ready none)) := hs1.keeps hWR hl (fun _ _ _ h => by cases h)
      have hd2 : W2.heap[w.heap.size]? = some (.deferred (some [])) := hs1.keeps hWR hd (fun _ _ _ h => by cases h)
      refine ⟨_, run_beginRound hl2 (by rw [hrec]), ?_⟩
      have ht2 : Turned w.heap.size W2 (W2.putObj (w.heap.size + 1) (.loop { rec .ready none with state := .busy })) := Turned.putObj _ hl2 (fun _ _ _ h => by cases h) (by omega)
      have ht2' : Turned W.heap.size W (W.putObj W.heap.size (.deferred none)) ∨ True := .inr trivial
      have hr2 : Rel R m1 st1 (clr a1) (W2.putObj (w.heap.size + 1) (.loop { rec .ready none with state := .busy })) := ⟨hr1.size, hr1.tmps, hr1.defers, hr1.wr.others ht2.others⟩
      have hlt2 : w.heap.size + 1 < W2.heap.size := (Array.getElem?_eq_some_iff.1 hl2).1
      have hl3 : (W2.putObj (w.heap.size + 1) (.loop { rec .ready none with state := .busy })).heap[w.heap.size + 1]? = some (.loop { rec .ready none with state := .busy }) := World.putObj_heap_same hlt2
      have hd3 : (W2.putObj (w.heap.size + 1) (.loop { rec .ready none with state := .busy })).heap[w.heap.size]? = some (.deferred (some [])) := (World.putObj_heap_other (by omega)).trans hd2
      refine wpIn_mono (hbody m1 a1 _ m1 st1.rows _ ha1 hr2 (Step.refl _ _ _)) ?_
      rintro e a3 W3 ⟨⟨m3, st3, hok3, ⟨rowsE, hfitE, hq3⟩, hr3, hs3⟩, ha3⟩
      have hl4 : W3.heap[w.heap.size + 1]? = some (.loop { rec .ready none with state := .busy }) := hs3.keeps hr2.wr hl3 (fun _ _ _ h => by cases h)
      have hd4 : W3.heap[w.heap.size]? = some (.deferred (some [])) := hs3.keeps hr2.wr hd3 (fun _ _ _ h => by cases h)
      have hlt4 : w.heap.size + 1 < W3.heap.size := (Array.getElem?_eq_some_iff.1 hl4).1
      -- the way from the head of the range
      have s2 : Step m (dead ds st.rows) w m1 st1.rows W2 := hS.trans hs1
      have s2' : Step m (dead ds st.rows) w m1 st1.rows (W2.putObj (w.heap.size + 1) (.loop { rec .ready none with state := .busy })) := s2.turned ht2
      have s3 : Step m (dead ds st.rows) w m3 st3.rows W3 := s2'.trans hs3
      obtain ⟨mE, hwE, hsE⟩ : ∃ mE, WR R mE rowsE W3 ∧ Step m (dead ds st.rows) w mE rowsE W3 := by
        rcases hfitE with rfl | ⟨f, hV, hf, hn⟩
        · exact ⟨m3, hr3.wr, s3⟩
        · exact ⟨_, hr3.wr.view hV, s3.forget hV (by rw [dead_length]; exact hf) (by rw [dead_length]; exact hn)⟩
      have fin : ∀ (jump : Option Code), (Instr.endRound (w.heap.size + 1) jump).run P W3 = .ok (.bool jump.isNone) (W3.putObj (w.heap.size + 1) (.loop (rec (if jump.isNone then .ready else .done) jump))) ∧
          WR R mE rowsE (W3.putObj (w.heap.size + 1) (.loop (rec (if jump.isNone then .ready else .done) jump))) ∧
          Step m (dead ds st.rows) w mE rowsE (W3.putObj (w.heap.size + 1) (.loop (rec (if jump.isNone then .ready else .done) jump))) ∧
          (W3.putObj (w.heap.size + 1) (.loop (rec (if jump.isNone then .ready else .done) jump))).heap[w.heap.size + 1]? = some (.loop (rec (if jump.isNone then .ready else .done) jump)) ∧
          (W3.putObj (w.heap.size + 1) (.loop (rec (if jump.isNone then .ready else .done) jump))).heap[w.heap.size]? = some (.deferred (some [])) := by
        intro jump
        have ht4 : Turned w.heap.size W3 (W3.putObj (w.heap.size + 1) (.loop (rec (if jump.isNone then .ready else .done) jump))) := Turned.putObj _ hl4 (fun _ _ _ h => by cases h) (by omega)
        have := run_endRound (P := P) jump hl4
        rw [hrec] at this ⊢
        rw [hrec] at ht4
        exact ⟨this, hwE.others ht4.others, hsE.turned ht4, World.putObj_heap_same hlt4, (World.putObj_heap_other (by omega)).trans hd4⟩
      -- what the iterator reads
      have keep : ∀ (jump : Option Code) (D : Nat), D < w.heap.size → (∀ b r, (dead ds st.rows).live b = some r → (m.mu b).vir = false → (m.mu b).blk ≠ D) →
          (W3.putObj (w.heap.size + 1) (.loop (rec (if jump.isNone then .ready else .done) jump))).heap[D]? = W.heap[D]? := by
        intro jump D hD hne
        rw [World.putObj_heap_other (by omega), hs3.block D (by rw [World.putObj_size]; omega) (s2.aside hD hne), World.putObj_heap_other (by omega)]
        exact hs1.block D (by omega) (hS.aside hD hne)
      cases e with
      | normal =>
        obtain ⟨hrun, hwr, hst, hl5, hd5⟩ := fin none
        exact ⟨_, _, hrun, .inl ⟨rfl, ⟨mE, rowsE, hq3, hwr, hst, hl5, hd5⟩, keep none _ hbb.1 hbb.2, keep none _ (hblk (by omega)).1 (hblk (by omega)).2⟩⟩
      | ret =>
        obtain ⟨hrun, hwr, hst, hl5, hd5⟩ := fin (some .ret)
        exact ⟨_, _, hrun, .inr ⟨rfl, .ret, .ret, mE, rowsE, rfl, hq3, hwr, hst, hl5, hd5⟩⟩
      | exit id =>
        obtain ⟨hrun, hwr, hst, hl5, hd5⟩ := fin (some (.exit id))
        exact ⟨_, _, hrun, .inr ⟨rfl, .exit id, .exit id, mE, rowsE, rfl, hq3, hwr, hst, hl5, hd5⟩⟩
      | goto t => exact hok3.elim
      | panic ch => exact hok3.elim
      | outgrown => exact hok3.elim
    · -- behind
      have marks : ∀ W' : World, W'.heap[w.heap.size]? = some (.deferred (some [])) → (∀ (D : Nat) (o : Obj), w.heap[D]? = some o → (∀ c t fz, o ≠ Obj.cells c t fz) → W'.heap[D]? = some o) → Marks w0.heap.size ({ target := .collected w.heap.size, args := #[] } :: a.defers) W' := by
        intro W' hd hold
        refine ⟨List.nodup_cons.2 ⟨?_, hk.1⟩, ?_⟩
        · intro hm
          obtain ⟨D, e, _, hD⟩ := hk.2 _ hm
          have : w.heap.size = D := by simpa using e
          subst this
          have := (Array.getElem?_eq_some_iff.1 hD).1
          omega
        · intro d hd'
          rcases List.mem_cons.1 hd' with rfl | hd'
          · exact ⟨_, rfl, hs.size, hd⟩
          · obtain ⟨D, e, hB', hD⟩ := hk.2 d hd'
            exact ⟨D, e, hB', hold D _ hD (fun _ _ _ h => by cases h)⟩
      have finish : ∀ (rows : Rows) (m' : Map) (W2 : World) (s : LoopState) (pe : Option Code) (e : Exit) (hok : match e with | .normal | .exit _ | .ret => True | _ => False), Q e ⟨st.tmps, revive ds st.rows rows⟩ → WR R m' rows W2 → Step m (dead ds st.rows) w m' rows W2 → W2.heap[w.heap.size + 1]? = some (.loop (rec s pe)) → W2.heap[w.heap.size]? = some (.deferred (some [])) →
          ∀ s', Post R Q m0 h0' w0 e (clr { a with defers := { target := .collected w.heap.size, args := #[] } :: a.defers }) (W2.putObj (w.heap.size + 1) (.loop (rec s' pe))) ∧ Marks w0.heap.size ({ target := .collected w.heap.size, args := #[] } :: a.defers) (W2.putObj (w.heap.size + 1) (.loop (rec s' pe))) := by
        intro rows m' W2 s pe e hok hq hwr hst hl hd s'
        have ht : Turned w.heap.size W2 (W2.putObj (w.heap.size + 1) (.loop (rec s' pe))) := Turned.putObj _ hl (fun _ _ _ h => by cases h) (by omega)
        obtain ⟨hw2, hs2⟩ := revive_ok hW (hst.turned ht) (hwr.others ht.others)
        have hlen : st.rows.length ≤ rows.length := by have := hst.len; rwa [dead_length] at this
        have hlen2 : st.rows.length ≤ (revive ds st.rows rows).length := by rw [revive_length]; exact hlen
        refine ⟨⟨m', ⟨st.tmps, revive ds st.rows rows⟩, hok, hq, ⟨hr.size, ?_, rfl, hw2⟩, hs.trans hs2⟩, marks _ ((World.putObj_heap_other (by omega)).trans hd) ?_⟩
        · intro i x hx
          obtain ⟨c, hc, hd'⟩ := hr.tmps i x hx
          exact ⟨c, hc, hd'.mono hlen2 (fun b hb => hst.mu b (by rw [dead_length]; exact hb)) hst.ro⟩
        · intro D o hD ho
          have hDlt := (Array.getElem?_eq_some_iff.1 hD).1
          rw [World.putObj_heap_other (by omega)]
          exact hst.keeps (hW.dead ds) hD ho
      rintro e W2 ⟨⟨v, rfl⟩, (⟨m', rows, hI, hwr, hst, hl, hd⟩ | ⟨e, c, m', rows, hj, hX, hwr, hst, hl, hd⟩)⟩
      · refine ⟨none, _, by have := run_endLoop (P := P) hl (by rw [hrec]; simp); rw [hrec] at this; exact this, ?_⟩
        have := finish rows m' W2 .ready none .normal trivial (hdone rows hI) hwr hst hl hd .exhausted
        rw [hrec] at this
        exact this
      · refine ⟨some c, _, by have := run_endLoop (P := P) hl (by rw [hrec]; simp); rw [hrec] at this; exact this, ?_⟩
        cases e with
        | ret =>
          simp only [jumpOf, Option.some.injEq] at hj
          subst hj
          have := finish rows m' W2 .done _ .ret trivial (hexit _ rows hX) hwr hst hl hd .exhausted
          rw [hrec] at this
          exact wpIn_ret this
        | exit id =>
          simp only [jumpOf, Option.some.injEq] at hj
          subst hj
          have := finish rows m' W2 .done _ (.exit id) trivial (hexit _ rows hX) hwr hst hl hd .exhausted
          rw [hrec] at this
          exact wpIn_exit this
        | _ => simp [jumpOf] at hj
end Go.Dc
end
section
set_option linter.unusedSimpArgs false
set_option linter.unusedVariables false
namespace Go.Dc
noncomputable section

def hasRange : Code → Bool
  | .seq a b => hasRange a || hasRange b
  | .cond _ a b => hasRange a || hasRange b
  | .block _ b => hasRange b
  | .loop b => hasRange b
  | .rangeFunc .. => true
  | _ => false

/-- The rounds that are left, of a range whose elements are known. -/
def rng (go : Code → St → (Exit → St → Prop) → Prop) (st : St) (p0 p1 : Tmp) (as body : Code) (ds : List Nat) (r : Row) (i : Nat) (k : Exit → St → Prop) (len : Nat) : Rows → Prop :=
  Nat.rec (fun rows => forceRows (revive ds st.rows rows) fun rows => k .normal ⟨st.tmps, rows⟩)
    (fun j ih rows => match r.get? (i + j) with
      | some e => setK st.tmps p0 (.int .i64 (j : Int)) fun ts => setK ts p1 e fun ts => go as ⟨ts, rows⟩ fun e1 st1 => match e1 with
        | .normal => go body st1 fun e st2 => match e with
          | .normal => ih st2.rows
          | .ret => forceRows (revive ds st.rows st2.rows) fun rows => k .ret ⟨st.tmps, rows⟩
          | .exit id => forceRows (revive ds st.rows st2.rows) fun rows => k (.exit id) ⟨st.tmps, rows⟩
          | _ => False
        | _ => False
      | none => False) len

theorem rng_succ (go : Code → St → (Exit → St → Prop) → Prop) (st : St) (p0 p1 : Tmp) (as body : Code) (ds : List Nat) (r : Row) (i : Nat) (k : Exit → St → Prop) (j : Nat) (rows : Rows) :
    rng go st p0 p1 as body ds r i k (j + 1) rows = (match r.get? (i + j) with
      | some e => setK st.tmps p0 (.int .i64 (j : Int)) fun ts => setK ts p1 e fun ts => go as ⟨ts, rows⟩ fun e1 st1 => match e1 with
        | .normal => go body st1 fun e st2 => match e with
          | .normal => rng go st p0 p1 as body ds r i k j st2.rows
          | .ret => forceRows (revive ds st.rows st2.rows) fun rows => k .ret ⟨st.tmps, rows⟩
          | .exit id => forceRows (revive ds st.rows st2.rows) fun rows => k (.exit id) ⟨st.tmps, rows⟩
          | _ => False
        | _ => False
      | none => False) := rfl

variable (E : Env Prop) (back : FuncId → Option Nat) (rl : Nat → Option LoopSp) (n : Nat) (f : FuncId)

def codeM : Code → St → (Exit → St → Prop) → Prop
  | .seq x y, st, k => codeM x st fun e st => match e with | .normal => codeM y st k | e => k e st
  | .block id b, st, k => match hasRange b with
    | false => code propAns E (drawAll propAns E) n f (.block id b) st k
    | true => match rl id with
      | some spec => spec st k
      | none => codeM b st fun e st => match e with
        | .exit id' => bif Nat.beq id' id then k .normal st else k (.exit id') st
        | e => k e st
  | .rangeFunc g ⟨[p0, p1]⟩ as body, st, k => match st.ev g with
    | .fn gf [] [.ptr false bx 0 0] => match back gf, st.rows.live bx with
      | some esz, some rb => match rb.get? 0 with
        | some .nils => forceRows (revive [bx] st.rows (dead [bx] st.rows)) fun rows => k .normal ⟨st.tmps, rows⟩
        | some (.sl false b i len _) => match st.rows.live b with
          | some r => cond (Nat.beq r.esz esz && Nat.ble (i + len) r.len) (forceRows (dead [bx, b] st.rows) fun rows => rng (code propAns E (drawAll propAns E) n f) st p0 p1 as body [bx, b] r i k len rows) False
          | none => False
        | _ => False
      | _, _ => False
    | _ => False
  | c, st, k => code propAns E (drawAll propAns E) n f c st k

end

section
variable {E : Env Prop} {back : FuncId → Option Nat} {rl : Nat → Option LoopSp} {n : Nat} {f : FuncId} {P : Program}

theorem SafeR.mono {rd : Option Nat} {ds : List Deferred} {P : Program} {R : Nat → RoRow} {c : Code} {st : St} {Q Q' : Exit → St → Prop} (h : SafeR rd ds P R c st Q) (hq : ∀ e st, Q e st → Q' e st) : SafeR rd ds P R c st Q' :=
  fun m a w m0 h0 w0 ha hr hs => wpIn_mono (h m a w m0 h0 w0 ha hr hs) fun _ _ _ hp => ⟨hp.1.mono hq, hp.2⟩

theorem Row.get?_some {r : Row} {i : Nat} (h : i < r.len) : ∃ e, r.get? i = some e := by
  cases r with
  | lst t s l => exact ⟨l[i]'h, by simp only [Row.get?]; exact List.getElem?_eq_getElem h⟩
  | gen t s n a => exact ⟨a i, Row.get_gen h⟩
  | byt t l => exact ⟨.int .u8 (l[i]'h).toNat, by simp only [Row.get?]; rw [List.getElem?_eq_getElem h]; rfl⟩

theorem codeM_ok (hm : P.follows .mixedOrders = true) (hE : EnvOK P E id) (hb : ∀ gf esz, back gf = some esz → BackOK P gf esz ∧ ∀ args w, (callFunc gf args).run P w = .ok (.enter gf args) w)
    (hl : ∀ id, E.loops f id = Option.none)
    (hrl : ∀ id spec, rl id = some spec → ∀ body, (id, body) ∈ E.subsOf f → ∀ st k, spec st k → SafeM P E.R (.block id body) st k) :
    ∀ (c : Code) (st : St) (k : Exit → St → Prop), codeND c = true → (∀ p ∈ subs c, p ∈ E.subsOf f) → codeM E back rl n f c st k → SafeM P E.R c st k := by
  have plain : ∀ (c : Code) (st : St) (k : Exit → St → Prop), codeND c = true → (∀ p ∈ subs c, p ∈ E.subsOf f) → code propAns E (drawAll propAns E) n f c st k → SafeM P E.R c st k := by
    intro c st k hnd hsub h
    exact SafeM.of fun ds => code_okR propHolds hE hm f (fun id spec e => by rw [hl id] at e; cases e) n c st k hnd hsub h
  intro c
  induction c with
  | seq x y ihx ihy =>
    intro st k hnd hsub h
    refine SafeM.seq ((ihx st _ (nd_seq hnd).1 (fun p hp => hsub p (by simp [subs, hp])) h).mono ?_)
    intro e st' hq
    cases e with
    | normal => exact ihy st' k (nd_seq hnd).2 (fun p hp => hsub p (by simp [subs, hp])) hq
    | _ => exact hq
  | block id b ih =>
    intro st k hnd hsub h
    simp only [codeM] at h
    split at h
    · exact plain _ st k hnd hsub h
    · split at h
      · rename_i spec hs
        exact hrl id spec hs b (hsub _ (by simp [subs])) st k h
      · exact SafeM.block (ih st _ (by simpa [codeND] using hnd) (fun p hp => hsub p (by simp [subs, hp])) h)
  | rangeFunc g ps as body iha ihb =>
    intro st k hnd hsub h
    obtain ⟨pl⟩ := ps
    match pl, h with
    | [p0, p1], h =>
      simp only [codeM] at h
      split at h
      · rename_i gf bx hg
        split at h
        · rename_i esz rb hbk hbx
          obtain ⟨hB, hent⟩ := hb gf esz hbk
          have hnd' : codeND as = true ∧ codeND body = true := by simpa [codeND] using hnd
          have hsa : ∀ p ∈ subs as, p ∈ E.subsOf f := fun p hp => hsub p (by simp [subs, hp])
          have hsb : ∀ p ∈ subs body, p ∈ E.subsOf f := fun p hp => hsub p (by simp [subs, hp])
          split at h
          · -- no slice
            rename_i hsv
            rw [forceRows_eq] at h
            refine range_ok (ds := [bx]) (len := 0) (els := fun _ => .any) (I := fun _ rows => rows = dead [bx] st.rows) (X := fun _ _ => False) hB hent hg hbx hsv (by simp) (.inl ⟨rfl, rfl⟩) rfl ?_ ?_ ?_
            · intro l j rows hj; omega
            · rintro rows rfl; exact h
            · intro e rows hx; exact hx.elim
          · rename_i b i len full hsv
            split at h
            · rename_i r hbr
              rcases hold_cond (hold := id) _ _ _ h with ⟨he, h⟩ | ⟨_, h⟩
              · simp only [Bool.and_eq_true] at he
                have hle : i + len ≤ r.len := Nat.le_of_ble_eq_true he.2
                have he := Nat.eq_of_beq_eq_true he.1
                have hels : ∀ j, j < len → r.get? (i + j) = some ((r.get? (i + j)).getD .any) := by
                  intro j hj
                  obtain ⟨e, he'⟩ := Row.get?_some (r := r) (i := i + j) (by omega)
                  rw [he']; rfl
                simp only [id, forceRows_eq] at h
                refine range_ok (ds := [bx, b]) (len := len) (els := fun j => (r.get? (i + j)).getD .any)
                  (I := fun j rows => rng (code propAns E (drawAll propAns E) n f) st p0 p1 as body [bx, b] r i k (len - j) rows)
                  (X := fun e rows => k e ⟨st.tmps, revive [bx, b] st.rows rows⟩) hB hent hg hbx hsv (by simp) ?_ (by simpa using h) ?_ ?_ ?_
                · exact .inr (.inl ⟨b, i, full, r, rfl, hbr, he, by simp, hels⟩)
                · intro l j rows hj hI
                  obtain ⟨q, hq⟩ : ∃ q, len - j = q + 1 := ⟨len - j - 1, by omega⟩
                  have hq2 : len - 1 - j = q := by omega
                  rw [hq] at hI
                  rw [rng_succ, hels q (by omega)] at hI
                  simp only [setK_eq] at hI
                  rw [hq2]
                  have ok := fun c st k => code_okR (rd := some l) (ds := []) propHolds hE hm f (fun id spec e => by rw [hl id] at e; cases e) n c st k
                  refine SafeR.mono (ok as _ _ hnd'.1 hsa hI) ?_
                  intro e1 st1 hq1
                  cases e1 with
                  | normal =>
                    refine ⟨rfl, SafeR.mono (ok body _ _ hnd'.2 hsb hq1) ?_⟩
                    intro e2 st2 hq2'
                    refine ⟨_, .inl rfl, ?_⟩
                    cases e2 with
                    | normal =>
                      have : len - (j + 1) = q := by omega
                      simp only [this]
                      exact hq2'
                    | ret => simpa [forceRows_eq] using hq2'
                    | exit id => simpa [forceRows_eq] using hq2'
                    | _ => exact hq2'.elim
                  | _ => exact hq1.elim
                · intro rows hI
                  simp only [Nat.sub_self, rng, forceRows_eq] at hI
                  exact hI
                · intro e rows hx; exact hx
              · exact h.elim
            · exact h.elim
          · exact h.elim
        · exact h.elim
      · exact h.elim
    | [], h => exact plain _ st k hnd hsub h
    | [_], h => exact plain _ st k hnd hsub h
    | _ :: _ :: _ :: _, h => exact plain _ st k hnd hsub h
  | _ => intro st k hnd hsub h; exact plain _ st k hnd hsub h

noncomputable def vcm (E : Env Prop) (back : FuncId → Option Nat) (rl : Nat → Option LoopSp) (n : Nat) (f : FuncId) (fi : FI) (args : List AV) (h : Rows) (Q : AV → Rows → Prop) : Prop :=
  forceL (enterT args fi.ntmps) fun ts => codeM E back rl n f fi.body ⟨ts, h⟩ fun e st => match e with
    | .normal | .ret => resK propAns E st fi.results fun v => Q v st.rows
    | _ => False

theorem SafeCall.vcm (hm : P.follows .mixedOrders = true) (hE : EnvOK P E id) (hb : ∀ gf esz, back gf = some esz → BackOK P gf esz ∧ ∀ args w, (callFunc gf args).run P w = .ok (.enter gf args) w)
    (hl : ∀ id, E.loops f id = Option.none) (hrl : ∀ id spec, rl id = some spec → ∀ body, (id, body) ∈ E.subsOf f → ∀ st k, spec st k → SafeM P E.R (.block id body) st k)
    {fi : FI} (hF : E.F f = some fi) (hnd : codeND fi.body = true) {args : List AV} {h : Rows} {Q : AV → Rows → Prop} (hk : Dc.vcm E back rl n f fi args h Q) : SafeCall P E.R f args h Q := by
  unfold Dc.vcm at hk
  rw [forceL_eq] at hk
  refine SafeCall.of_bodyM hE.T (hE.F f fi hF) ((codeM_ok hm hE hb hl hrl fi.body _ _ hnd (fun p hp => by unfold Env.subsOf; rw [hF]; exact hp) hk).mono ?_)
  intro e st' he
  cases e <;> first
    | exact ⟨.inl rfl, resL_ok propHolds he⟩
    | exact ⟨.inr rfl, resL_ok propHolds he⟩
    | exact he.elim
end
end Go.Dc
end
section
set_option linter.unusedSimpArgs false
set_option linter.unusedVariables false
namespace Go.Dc

/-- A value without places. -/
def flat1 : AV → Bool
  | .bool _ | .int _ _ | .str _ | .nilp | .nils | .nilf | .nili => true
  | _ => false
def flat : AV → Bool
  | .agg cs => cs.all flat1
  | .tup cs => cs.all flat1
  | v => flat1 v

theorem flat1_den {m m' : Map} {n n' : Nat} : ∀ {x : AV} {v : Value}, flat1 x = true → Den m n x v → Den m' n' x v := by
  intro x v h hd
  cases x <;> simp [flat1] at h <;> simpa [Den] using hd

theorem flatL_den {m m' : Map} {n n' : Nat} : ∀ {l : List AV} {vs : List Value}, l.all flat1 = true → DenL m n l vs → DenL m' n' l vs
  | [], vs, _, hd => by simpa [DenL] using hd
  | x :: l, vs, h, hd => by
    simp only [List.all_cons, Bool.and_eq_true] at h
    simp only [DenL] at hd ⊢
    obtain ⟨v, vs', rfl, h1, h2⟩ := hd
    exact ⟨v, vs', rfl, flat1_den h.1 h1, flatL_den h.2 h2⟩

theorem flat_den {m m' : Map} {n n' : Nat} {x : AV} {v : Value} (h : flat x = true) (hd : Den m n x v) : Den m' n' x v := by
  cases x
  case agg cs =>
    simp only [flat] at h
    simp only [Den] at hd ⊢
    obtain ⟨vs, e, hd⟩ := hd
    exact ⟨vs, e, flatL_den h hd⟩
  case tup cs =>
    simp only [flat] at h
    simp only [Den] at hd ⊢
    obtain ⟨vs, e, hd⟩ := hd
    exact ⟨vs, e, flatL_den h hd⟩
  all_goals exact flat1_den (by simpa [flat] using h) hd

def All2 {α β : Type} (r : α → β → Prop) : List α → List β → Prop
  | [], [] => True
  | a :: as, b :: bs => r a b ∧ All2 r as bs
  | _, _ => False

/-- A value of one cell, its places told as memory that is only read. -/
def RoVw1 (f : Nat → Option Nat) : AV → AV → Prop
  | .ptr false b i o, y => ∃ c, f b = some c ∧ y = .ptr true c i o
  | .sl false b i len _, y => ∃ c, f b = some c ∧ y = .sl true c i len .no
  | .any, y => y = .any
  | x, y => flat1 x = true ∧ y = x
def RoVw (f : Nat → Option Nat) (x y : AV) : Prop := match x with
  | .agg cs => ∃ ds, y = .agg ds ∧ All2 (RoVw1 f) cs ds
  | x => RoVw1 f x y

theorem RoVw1.den {m m2 : Map} {n : Nat} {f : Nat → Option Nat} (hf : ∀ b c, f b = some c → m2.ro c = m.mu b) {x y : AV} {v : Value} (h : RoVw1 f x y) (hd : Den m n x v) : Den m2 0 y v := by
  cases x
  case ptr ro b i o =>
    cases ro with
    | true => simp [RoVw1, flat1] at h
    | false =>
      obtain ⟨c, hc, rfl⟩ := h
      simp only [Den, Map.loc, if_true, Bool.false_eq_true, if_false] at hd ⊢
      rw [hf b c hc]
      exact ⟨by simp, hd.2⟩
  case sl ro b i len u =>
    cases ro with
    | true => simp [RoVw1, flat1] at h
    | false =>
      obtain ⟨c, hc, rfl⟩ := h
      simp only [Den, Map.loc, if_true, Bool.false_eq_true, if_false] at hd ⊢
      rw [hf b c hc]
      refine ⟨by simp, ?_⟩
      have h2 := hd.2
      unfold SlDen at h2 ⊢
      split
      · rename_i hv; rw [if_pos hv] at h2; obtain ⟨h1, ao, h3, _⟩ := h2; exact ⟨h1, ao, h3, trivial⟩
      · rename_i hv; rw [if_neg hv] at h2; obtain ⟨a, cap, h1, h3, h4, _, h6⟩ := h2; exact ⟨a, cap, h1, h3, h4, trivial, h6⟩
  case any => simp only [RoVw1] at h; subst h; simp [Den]
  all_goals
    simp only [RoVw1] at h
    obtain ⟨h1, rfl⟩ := h
    exact flat1_den h1 hd

theorem RoVwL.den {m m2 : Map} {n : Nat} {f : Nat → Option Nat} (hf : ∀ b c, f b = some c → m2.ro c = m.mu b) : ∀ {xs ys : List AV} {vs : List Value}, All2 (RoVw1 f) xs ys → DenL m n xs vs → DenL m2 0 ys vs
  | [], [], vs, _, hd => by simpa [DenL] using hd
  | [], _ :: _, vs, h, _ => h.elim
  | _ :: _, [], vs, h, _ => h.elim
  | x :: xs, y :: ys, vs, h, hd => by
    simp only [DenL] at hd ⊢
    obtain ⟨v, vs', rfl, d1, d2⟩ := hd
    exact ⟨v, vs', rfl, h.1.den hf d1, RoVwL.den hf h.2 d2⟩

theorem RoVw.to1 {f : Nat → Option Nat} {x y : AV} (hn : ∀ cs, x ≠ .agg cs) (h : RoVw f x y) : RoVw1 f x y := by
  unfold RoVw at h
  split at h
  · exact absurd rfl (hn _)
  · exact h

theorem RoVw.den {m m2 : Map} {n : Nat} {f : Nat → Option Nat} (hf : ∀ b c, f b = some c → m2.ro c = m.mu b) {x y : AV} {v : Value} (h : RoVw f x y) (hd : Den m n x v) : Den m2 0 y v := by
  cases x
  case agg cs =>
    obtain ⟨ds, rfl, h⟩ := h
    simp only [Den] at hd ⊢
    obtain ⟨vs, e, hd⟩ := hd
    exact ⟨vs, e, RoVwL.den hf h hd⟩
  all_goals exact RoVw1.den hf (RoVw.to1 (fun _ e => by cases e) h) hd

theorem RoVwA.den {m m2 : Map} {n : Nat} {f : Nat → Option Nat} (hf : ∀ b c, f b = some c → m2.ro c = m.mu b) : ∀ {xs ys : List AV} {vs : List Value}, All2 (RoVw f) xs ys → DenL m n xs vs → DenL m2 0 ys vs
  | [], [], vs, _, hd => by simpa [DenL] using hd
  | [], _ :: _, vs, h, _ => h.elim
  | _ :: _, [], vs, h, _ => h.elim
  | x :: xs, y :: ys, vs, h, hd => by
    simp only [DenL] at hd ⊢
    obtain ⟨v, vs', rfl, d1, d2⟩ := hd
    exact ⟨v, vs', rfl, h.1.den hf d1, RoVwA.den hf h.2 d2⟩

theorem RoVw1.one {f : Nat → Option Nat} {x y : AV} (h : RoVw1 f x y) (hx : x.one = true) : y.one = true := by
  cases x
  case ptr ro b i o =>
    cases ro with
    | true => simp [RoVw1, flat1] at h
    | false => obtain ⟨c, _, rfl⟩ := h; rfl
  case sl ro b i len u =>
    cases ro with
    | true => simp [RoVw1, flat1] at h
    | false => obtain ⟨c, _, rfl⟩ := h; rfl
  case any => simp [AV.one] at hx
  all_goals
    simp only [RoVw1] at h
    obtain ⟨_, rfl⟩ := h
    exact hx

theorem RoVw1.cells {f : Nat → Option Nat} {x y : AV} (h : RoVw1 f x y) (hx : x.one = true) : x.cells = [x] ∧ y.cells = [y] := by
  have hy := h.one hx
  constructor
  · cases x <;> simp [AV.one] at hx <;> rfl
  · cases y <;> simp [AV.one] at hy <;> rfl

theorem forall2_get {α β : Type} {r : α → β → Prop} : ∀ {xs : List α} {ys : List β}, All2 r xs ys → ∀ {o : Nat} {b : β}, ys[o]? = some b → ∃ a, xs[o]? = some a ∧ r a b
  | [], [], _, o, b, hb => by simp at hb
  | [], _ :: _, h, _, _, _ => h.elim
  | _ :: _, [], h, _, _, _ => h.elim
  | x :: _, y :: _, h, 0, b, hb => by
    simp only [List.getElem?_cons_zero, Option.some.injEq] at hb
    subst hb
    exact ⟨x, by simp, h.1⟩
  | _ :: _, _ :: _, h, o + 1, b, hb => by
    simp only [List.getElem?_cons_succ] at hb
    obtain ⟨a, ha, hr⟩ := forall2_get h.2 hb
    exact ⟨a, by simpa using ha, hr⟩

theorem forall2_len {α β : Type} {r : α → β → Prop} : ∀ {xs : List α} {ys : List β}, All2 r xs ys → xs.length = ys.length
  | [], [], _ => rfl
  | [], _ :: _, h => h.elim
  | _ :: _, [], h => h.elim
  | _ :: _, _ :: _, h => by simp [forall2_len h.2]

/-- The cells of an element, told so. -/
theorem RoVw.cells {f : Nat → Option Nat} {x y : AV} (h : RoVw f x y) (hx : ∀ (o : Nat) (a : AV), x.cells[o]? = some a → a.one = true) : y.cells.length = x.cells.length ∧ ∀ (o : Nat) (b : AV), y.cells[o]? = some b → b.one = true ∧ ∃ a, x.cells[o]? = some a ∧ RoVw1 f a b := by
  by_cases ha : ∃ cs, x = .agg cs
  · obtain ⟨cs, rfl⟩ := ha
    obtain ⟨ds, rfl, h⟩ := h
    refine ⟨(forall2_len h).symm, fun o b hb => ?_⟩
    obtain ⟨a, ha, hr⟩ := forall2_get h (show ds[o]? = some b from hb)
    exact ⟨hr.one (hx o a ha), a, ha, hr⟩
  · have h1 : RoVw1 f x y := by
      cases x <;> first | exact h | exact absurd ⟨_, rfl⟩ ha
    have hc : x.cells = [x] := by cases x <;> first | rfl | exact absurd ⟨_, rfl⟩ ha
    have hone : x.one = true := hx 0 x (by rw [hc]; rfl)
    obtain ⟨_, c2⟩ := h1.cells hone
    refine ⟨by rw [hc, c2]; rfl, fun o b hb => ?_⟩
    rw [c2] at hb
    cases o with
    | zero =>
      simp only [List.getElem?_cons_zero, Option.some.injEq] at hb
      subst hb
      exact ⟨h1.one hone, x, by rw [hc]; rfl, h1⟩
    | succ o => simp at hb

structure RoRowV (f : Nat → Option Nat) (r : Row) (q : RoRow) : Prop where
  ty : q.ty = r.ty
  esz : q.esz = r.esz
  n : q.n ≤ r.len
  at_ : ∀ (j : Nat) (e : AV), j < q.n → r.get? j = some e → RoVw f e (q.at_ j)

theorem RowOK.ro {m m2 : Map} {n : Nat} {l : Loc} {r : Row} {q : RoRow} {w : World} {f : Nat → Option Nat} (hf : ∀ b c, f b = some c → m2.ro c = m.mu b) (h : RowOK m n l r w) (hv : RoRowV f r q) : RoOK m2 l q w := by
  obtain ⟨h1, h2, h3⟩ := h
  refine ⟨h1.trans hv.esz.symm, Nat.le_trans hv.n h2, ?_⟩
  cases hvir : l.vir with
  | true =>
    rw [hvir] at h3
    simp only [if_true] at h3 ⊢
    have := hv.n
    omega
  | false =>
    rw [hvir] at h3
    simp only [Bool.false_eq_true, if_false] at h3 ⊢
    intro hn
    obtain ⟨c, fz, hc, hs, hfz, hd⟩ := h3
    refine ⟨c, fz, by rw [hv.ty]; exact hc, fun i hi => ?_⟩
    obtain ⟨e, he⟩ := Row.get?_some (r := r) (i := i) (by have := hv.n; omega)
    obtain ⟨hl, hcell⟩ := hd i e he
    obtain ⟨k1, k2⟩ := (hv.at_ i e hi he).cells (fun o a ha => (hcell o a ha).1)
    refine ⟨k1.trans hl, fun o b hb => ?_⟩
    obtain ⟨ho, a, ha, hr⟩ := k2 o b hb
    obtain ⟨_, v, hv2, hden⟩ := hcell o a ha
    exact ⟨ho, v, hv2, hr.den hf hden⟩

theorem SafeCall.ofRead {P : Program} {R R2 : Nat → RoRow} {fn : FuncId} {argsL args : List AV} {h : Rows} {Q : AV → Prop} (hs : SafeCall P R2 fn argsL [] fun v _ => Q v) (hg : ∀ v, Q v → flat v = true)
    (hmap : ∀ m w, WR R m h w → ∃ m2 : Map, (∀ i, RoOK m2 (m2.ro i) (R2 i) w) ∧ ∀ as, DenL m h.length args as → DenL m2 0 argsL as) :
    SafeCall P R fn args h fun v h' => Q v ∧ h' = h := by
  intro m w m0 h0 w0 as has hW hS
  obtain ⟨m2, hro, hden⟩ := hmap m w hW
  have hW2 : WR R2 m2 [] w := ⟨fun b r hb => by simp [Rows.live] at hb, fun b b' r r' hb => by simp [Rows.live] at hb, hro, fun i b r hb => by simp [Rows.live] at hb⟩
  refine (hs m2 w m2 [] w as (hden _ has) hW2 (Step.refl _ _ _)).mono ?_
  rintro e w' ⟨c, v, m', h', rfl, hq, hd, _, hS'⟩
  have hbelow : ∀ k, k < w.heap.size → w'.heap[k]? = w.heap[k]? := fun k hk => hS'.block k hk (fun b r hb => by simp [Rows.live] at hb)
  have ho : Others w w' := ⟨hS'.size, fun k c t fz hk => by rw [hbelow k (Array.getElem?_eq_some_iff.1 hk).1]; exact hk⟩
  have ht : Turned w0.heap.size w w' := ⟨hS'.os, hS'.tape, hS'.output, ho, fun k hk => hbelow k (Nat.lt_of_lt_of_le hk hS.size)⟩
  exact ⟨c, v, m, h, rfl, ⟨hq, rfl⟩, flat_den (hg v hq) hd, hW.others ho, hS.turned ht⟩

/-- What only reads some rows, wherever they lie: 'g i' is the row that is told as the i-th. -/
theorem SafeCall.reads {P : Program} {R R2 : Nat → RoRow} {fn : FuncId} {argsL args : List AV} {h : Rows} {Q : AV → Prop} (f g : Nat → Option Nat) (hfg : ∀ b i, f b = some i → g i = some b)
    (hrow : ∀ i, match g i with | some b => ∃ r, h.live b = some r ∧ RoRowV f r (R2 i) | .none => (R2 i).n = 0) (hA : All2 (RoVw f) args argsL)
    (hs : SafeCall P R2 fn argsL [] fun v _ => Q v) (hg : ∀ v, Q v → flat v = true) : SafeCall P R fn args h fun v h' => Q v ∧ h' = h := by
  refine hs.ofRead hg ?_
  intro m w hW
  let m2 : Map := ⟨fun _ => ⟨0, 0, 0, 0, true⟩, fun i => match g i with | some b => m.mu b | .none => ⟨0, 0, (R2 i).esz, 0, true⟩⟩
  have hf : ∀ b c, f b = some c → m2.ro c = m.mu b := by
    intro b c hc
    have := hfg b c hc
    show (match g c with | some b => m.mu b | .none => _) = _
    rw [this]
  refine ⟨m2, ?_, ?_⟩
  · intro i
    have h1 := hrow i
    show RoOK m2 (match g i with | some b => m.mu b | .none => ⟨0, 0, (R2 i).esz, 0, true⟩) (R2 i) w
    cases hgi : g i with
    | some b =>
      rw [hgi] at h1
      obtain ⟨r, hb, hv⟩ := h1
      exact (hW.row b r hb).ro hf hv
    | none =>
      rw [hgi] at h1
      exact ⟨rfl, by simp at h1; omega, by simpa using h1⟩
  · intro as
    exact RoVwA.den hf hA

/-! ### One list that came in -/
def roL (ty esz n : Nat) (at_ : Nat → AV) : Nat → RoRow := fun i => match i with | 0 => ⟨ty, esz, n, at_⟩ | _ + 1 => ⟨0, 0, 0, fun _ => .undef⟩

theorem listArg (w : World) (a : Addr) (len cap : Nat) (at_ : Nat → AV) (V : Nat → Value) (hl : len ≤ cap) (hm : cap ≤ maxLen) (hone : ∀ i, (at_ i).one = true) (hV : ∀ m n i, Den m n (at_ i) (V i)) (hcell : ∀ i, i < cap → w.cell? (a.add i) = some (V i)) :
    ∃ ty m, (∀ i, RoOK m (m.ro i) (roL ty 1 len at_ i) w) ∧ Den m 0 (.sl true 0 0 len .no) (.slice (some a) len cap) := by
  have cells1 : ∀ i, (at_ i).cells = [at_ i] := fun i => by
    have := hone i
    cases hx : at_ i <;> rw [hx] at this <;> simp [AV.one] at this <;> rfl
  rcases Nat.eq_zero_or_pos cap with h0 | hp
  · subst h0
    obtain rfl : len = 0 := by omega
    refine ⟨0, ⟨fun _ => ⟨0, 0, 0, 0, true⟩, fun i => match i with | 0 => ⟨0, 0, 1, 0, true⟩ | _ + 1 => ⟨0, 0, 0, 0, true⟩⟩, ?_, ?_⟩
    · intro i
      cases i with
      | zero => exact ⟨rfl, Nat.le_refl _, by simp [roL]⟩
      | succ i => exact ⟨rfl, Nat.le_refl _, by simp [roL]⟩
    · simp only [Den, Map.loc, if_true]
      refine ⟨by simp, ?_⟩
      unfold SlDen
      simp only [if_true]
      exact ⟨trivial, some a, rfl, trivial⟩
  · have h0 := hcell 0 hp
    have hadd0 : a.add 0 = a := by unfold Addr.add; simp
    rw [hadd0] at h0
    obtain ⟨c, ty, fz, hc⟩ : ∃ c ty fz, w.heap[a.block]? = some (Obj.cells c ty fz) := by
      unfold World.cell? at h0
      split at h0
      · rename_i c ty fz hc; exact ⟨c, ty, fz, hc⟩
      · cases h0
    have hspot : a.spot = none := by
      unfold World.cell? at h0
      rw [hc] at h0
      simp only [] at h0
      cases hs : a.spot with
      | none => rfl
      | some s => rw [hs] at h0; simp at h0
    have ha : a = ⟨a.block, a.off, none⟩ := by cases a; simp_all
    have hadd : ∀ i, a.add i = ⟨a.block, a.off + i, none⟩ := by
      intro i
      rw [ha]
      unfold Addr.add
      split
      · rename_i h; subst h; rfl
      · rfl
    refine ⟨ty, ⟨fun _ => ⟨0, 0, 0, 0, true⟩, fun i => match i with | 0 => ⟨a.block, a.off, 1, cap, false⟩ | _ + 1 => ⟨0, 0, 0, 0, true⟩⟩, ?_, ?_⟩
    · intro i
      cases i with
      | zero =>
        refine ⟨rfl, hl, ?_⟩
        simp only [Bool.false_eq_true, if_false]
        intro hn
        refine ⟨c, fz, hc, fun i hi => ?_⟩
        simp only [roL] at hi ⊢
        refine ⟨by rw [cells1]; rfl, fun o b hb => ?_⟩
        rw [cells1] at hb
        cases o with
        | zero =>
          simp only [List.getElem?_cons_zero, Option.some.injEq] at hb
          subst hb
          refine ⟨hone i, V i, ?_, hV _ _ i⟩
          have := hcell i (by omega)
          rw [hadd] at this
          unfold World.cell? at this
          rw [hc] at this
          simpa using this
        | succ o => simp at hb
      | succ i => exact ⟨rfl, Nat.le_refl _, by simp [roL]⟩
    · simp only [Den, Map.loc, if_true]
      refine ⟨by simp, ?_⟩
      unfold SlDen
      simp only [Bool.false_eq_true, if_false]
      exact ⟨a, cap, rfl, hl, hm, trivial, fun _ => ⟨by simpa using ha, by simp⟩⟩

theorem nilArg (w : World) (at_ : Nat → AV) : ∃ ty m, (∀ i, RoOK m (m.ro i) (roL ty 1 0 at_ i) w) ∧ Den m 0 (.sl true 0 0 0 .no) (.slice none 0 0) := by
  refine ⟨0, ⟨fun _ => ⟨0, 0, 0, 0, true⟩, fun i => match i with | 0 => ⟨0, 0, 1, 0, true⟩ | _ + 1 => ⟨0, 0, 0, 0, true⟩⟩, ?_, ?_⟩
  · intro i
    cases i with
    | zero => exact ⟨rfl, Nat.le_refl _, by simp [roL]⟩
    | succ i => exact ⟨rfl, Nat.le_refl _, by simp [roL]⟩
  · simp only [Den, Map.loc, if_true]
    refine ⟨by simp, ?_⟩
    unfold SlDen
    simp only [if_true]
    exact ⟨trivial, none, rfl, trivial⟩

end Go.Dc
end
