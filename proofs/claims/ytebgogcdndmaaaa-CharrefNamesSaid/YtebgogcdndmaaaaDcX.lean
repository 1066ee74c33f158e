/- Regions whose order is open, part two: a quiet operation is run as soon as it can be; each that changes memory is run in each order, and what was read is read again behind it. -/
import Derived.Test.YtebgogcdndmaaaaDcW
set_option linter.unusedSimpArgs false
set_option linter.unusedVariables false
namespace Go.Dc
noncomputable section

section defs
variable {α : Type} (A : Ans α) (E : Env α) (call : FuncId → List AV → Rows → (AV → Rows → α) → α) (ops : Array Oper)

def deps (o : Oper) : List Nat := (o.after.toList.filter fun e => Region.binds .any e).map (·.on)

def hasN (l : List Nat) (i : Nat) : Bool :=
  match l with
  | [] => false
  | x :: xs => bif Nat.beq x i then true else hasN xs i

/-- Is 'i' bound ahead of 'j'? -/
def ahead : Nat → Nat → Nat → Bool
  | 0, _, _ => false
  | n + 1, i, j => match ops[j]? with
    | some o => (deps o).any fun d => bif Nat.beq d i then true else ahead n i d
    | none => false

def isAssign (o : Oper) : Bool := match o.op with | .assign _ => true | _ => false

/-- Each slot is looked at, and written a second time, only behind the operation that wrote it. -/
def neat : Bool :=
  (List.range ops.size).all fun i => match ops[i]? with
    | none => true
    | some o => match o.dst with
      | none => true
      | some d => isAssign o || (List.range ops.size).all fun j => match ops[j]? with
        | none => true
        | some p => (!(hasN (p.looksAt ops) d) || hasN (deps p) i) && (Nat.beq i j || !(match p.dst with | some d' => Nat.beq d' d | none => false) || hasN (deps p) i)

def qpick (st : St) (o : Oper) : QR :=
  match o.op with
  | .assign _ => .no
  | .pick c a b => match st.ev c with
    | .bool true => .ok (st.ev a)
    | .bool false => .ok (st.ev b)
    | _ => .no
  | _ => evQ E.T E.R st.rows st.ev o

def qeval0 (st : St) (o : Oper) : QR :=
  match o.guard with
  | none => qpick E st o
  | some (j, want) => match (ops[j]?).bind (·.dst) with
    | none => .no
    | some d => match st.tmps.getD d .undef with
      | .bool true => bif want then qpick E st o else .ok .undef
      | .bool false => bif want then .ok .undef else qpick E st o
      | .tup _ | .int .. | .str _ => .ok .undef
      | _ => .no

def qeval (st : St) (o : Oper) : QR := bif isAssign o then .no else qeval0 E ops st o

def split1 (st : St) (d : Tmp) (k : St → α) : α :=
  match st.tmps.getD d .undef with
  | .bool b => cond b (k ⟨st.tmps.set d (.bool true), st.rows⟩) (k ⟨st.tmps.set d (.bool false), st.rows⟩)
  | _ => k st

def splitG (o : Oper) (st : St) (k : St → α) : α :=
  match o.guard with
  | none => k st
  | some (j, _) => match (ops[j]?).bind (·.dst) with
    | none => k st
    | some d => split1 st d k

def splitP (o : Oper) (st : St) (k : St → α) : α :=
  match o.op with
  | .pick (.tmp d) _ _ => split1 st d k
  | _ => k st

/-- An operation that changes memory, or a variable. -/
def stepW (o : Oper) (st : St) (k : AV → Rows → α) : α :=
  match o.op with
  | .assign x => k (st.ev x) st.rows
  | .call { callee := .value f, args, .. } => match st.ev f with
    | .fn g first cap => forceL (first ++ (args.toList.map st.ev ++ cap)) fun as => call g as st.rows fun v rows => forceRows rows fun rows => k v rows
    | _ => A.bot
  | _ => match evW E.T E.R st.rows st.ev o with
    | .ok c v rows => cond c (forceRows rows fun rows => k v rows) A.bot
    | .no => A.bot

def guardW (o : Oper) (st : St) (k : AV → Rows → α) : α :=
  match o.guard with
  | none => stepW A E call o st k
  | some (j, want) => match (ops[j]?).bind (·.dst) with
    | none => A.bot
    | some d => match st.tmps.getD d .undef with
      | .bool true => cond want (stepW A E call o st k) (k .undef st.rows)
      | .bool false => cond want (k .undef st.rows) (stepW A E call o st k)
      | .tup _ | .int .. | .str _ => k .undef st.rows
      | _ => A.bot

def readyL (La : List Nat) : List Nat :=
  (List.range ops.size).filter fun i => !(hasN La i) && (match ops[i]? with | some o => (deps o).all (hasN La) | none => false)

/-- What was read, read again. -/
def recheck (j : Nat) (dst : Option Tmp) (st : St) : List (Nat × AV) → α → α
  | [], k => k
  | (i, v) :: l, k => match ops[i]? with
    | none => A.bot
    | some o => cond (ahead ops ops.size i j || (memFree o && !(match dst with | some d => hasN (o.looksAt ops) d | none => false))) (recheck j dst st l k)
      (match qeval E ops st o with
        | .ok u => A.eqv u v (recheck j dst st l k)
        | .ck c u => cond c (A.eqv u v (recheck j dst st l k)) A.bot
        | .no => A.bot)

def tryL (onQ : Nat → Oper → St → AV → α) (onNone : St → α) : List Nat → St → α
  | [], st => onNone st
  | i :: is, st => match ops[i]? with
    | none => A.bot
    | some o => splitG ops o st fun st => splitP o st fun st => match qeval E ops st o with
      | .ok v => onQ i o st v
      | .ck c v => cond c (onQ i o st v) A.bot
      | .no => tryL onQ onNone is st

def wAll (f : Nat → α) : List Nat → α
  | [] => A.bot
  | [i] => f i
  | i :: is => A.both (f i) (wAll f is)

def drawGo (k : St → α) : Nat → List Nat → List (Nat × AV) → St → α
  | 0, _, _, _ => A.bot
  | n + 1, La, done, st => match readyL ops La with
    | [] => k st
    | i :: is => tryL A E ops
        (fun i o st v => putK st.tmps o.dst v fun ts => drawGo k n (i :: La) ((i, v) :: done) ⟨ts, st.rows⟩)
        (fun st => wAll A (fun i => match ops[i]? with
          | none => A.bot
          | some o => guardW A E call ops o st fun v rows => putK st.tmps o.dst v fun ts => recheck A E ops i o.dst ⟨ts, rows⟩ done (drawGo k n (i :: La) done ⟨ts, rows⟩)) (i :: is))
        (i :: is) st

end defs

/-- The draw, for the runs above. -/
def drawAll {α : Type} (A : Ans α) (E : Env α) : Draw α := fun call ops st k => bif neat ops then drawGo A E call ops k (ops.size + 1) [] [] st else A.bot

/-! ### Small laws -/

theorem hasN_iff {l : List Nat} {i : Nat} : hasN l i = true ↔ i ∈ l := by
  induction l with
  | nil => simp [hasN]
  | cons x xs ih =>
    unfold hasN
    cases hb : Nat.beq x i with
    | true => have := Nat.eq_of_beq_eq_true hb; subst this; simp
    | false =>
      have hne : x ≠ i := fun e => by subst e; simp at hb
      simp only [cond_false, ih, List.mem_cons]
      exact ⟨.inr, fun h => h.resolve_left fun e => hne e.symm⟩

section
variable {α : Type} {A : Ans α} {E : Env α} {call : FuncId → List AV → Rows → (AV → Rows → α) → α} {hold : α → Prop} {P : Program} {ops : Array Oper}

theorem set_same {l : List AV} {d : Nat} {b : Bool} (h : l.getD d .undef = .bool b) : l.set d (.bool b) = l := by
  rcases Nat.lt_or_ge d l.length with h1 | h1
  · refine List.ext_getElem (by simp) ?_
    intro i h2 h3
    rw [List.getElem_set]
    split
    · rename_i e
      subst e
      simp only [List.getD, List.getElem?_eq_getElem h1, Option.getD_some] at h
      exact h.symm
    · rfl
  · exact List.set_eq_of_length_le h1

theorem split1_ok {st : St} {d : Tmp} {k : St → α} (h : hold (split1 st d k)) : hold (k st) := by
  unfold split1 at h
  split at h
  · rename_i b hb
    rcases hold_cond b _ _ h with ⟨rfl, hk⟩ | ⟨rfl, hk⟩
    · rwa [set_same hb] at hk
    · rwa [set_same hb] at hk
  · exact h

theorem splitG_ok {o : Oper} {st : St} {k : St → α} (h : hold (splitG ops o st k)) : hold (k st) := by
  unfold splitG at h
  split at h
  · exact h
  · split at h
    · exact h
    · exact split1_ok h

theorem splitP_ok {o : Oper} {st : St} {k : St → α} (h : hold (splitP o st k)) : hold (k st) := by
  unfold splitP at h
  split at h
  · exact split1_ok h
  · exact h

theorem tryL_ok (hA : Holds A hold) {onQ : Nat → Oper → St → AV → α} {onNone : St → α} : ∀ {l : List Nat} {st : St}, hold (tryL A E ops onQ onNone l st) →
    (∃ i ∈ l, ∃ o v, ops[i]? = some o ∧ (qeval E ops st o).has v ∧ hold (onQ i o st v)) ∨ hold (onNone st)
  | [], st, h => .inr h
  | i :: is, st, h => by
    unfold tryL at h
    split at h
    · exact (hA.bot h).elim
    · rename_i o ho
      have h := splitP_ok (splitG_ok h)
      split at h
      · rename_i v hv
        exact .inl ⟨i, by simp, o, v, ho, by rw [hv]; rfl, h⟩
      · rename_i c v hv
        rcases hold_cond c _ _ h with ⟨hc, hk⟩ | ⟨_, hk⟩
        · exact .inl ⟨i, by simp, o, v, ho, by rw [hv]; exact ⟨hc, rfl⟩, hk⟩
        · exact (hA.bot hk).elim
      · rcases tryL_ok hA h with ⟨j, hj, r⟩ | hn
        · exact .inl ⟨j, by simp [hj], r⟩
        · exact .inr hn

theorem wAll_ok (hA : Holds A hold) {f : Nat → α} : ∀ {l : List Nat}, hold (wAll A f l) → ∀ i ∈ l, hold (f i)
  | [], h, _, _ => (hA.bot h).elim
  | [j], h, i, hi => by
    simp only [List.mem_singleton] at hi
    subst hi; exact h
  | j :: j2 :: js, h, i, hi => by
    unfold wAll at h
    obtain ⟨h1, h2⟩ := hA.both _ _ h
    rcases List.mem_cons.1 hi with rfl | hi
    · exact h1
    · exact wAll_ok hA h2 i hi

theorem recheck_ok (hA : Holds A hold) {j : Nat} {dst : Option Tmp} {st : St} {k : α} : ∀ {l : List (Nat × AV)}, hold (recheck A E ops j dst st l k) →
    hold k ∧ ∀ i v, (i, v) ∈ l → ∃ o, ops[i]? = some o ∧ (ahead ops ops.size i j = true ∨ (memFree o = true ∧ ∀ d, dst = some d → d ∉ o.looksAt ops) ∨ (qeval E ops st o).has v)
  | [], h => ⟨h, fun i v hm => by simp at hm⟩
  | (i, v) :: l, h => by
    unfold recheck at h
    split at h
    · exact (hA.bot h).elim
    · rename_i o ho
      have put : ∀ {X : Prop}, hold (recheck A E ops j dst st l k) → (ahead ops ops.size i j = true ∨ (memFree o = true ∧ ∀ d, dst = some d → d ∉ o.looksAt ops) ∨ (qeval E ops st o).has v) →
          hold k ∧ ∀ i' v', (i', v') ∈ (i, v) :: l → ∃ o, ops[i']? = some o ∧ (ahead ops ops.size i' j = true ∨ (memFree o = true ∧ ∀ d, dst = some d → d ∉ o.looksAt ops) ∨ (qeval E ops st o).has v') := by
        intro X h1 h2
        have ih := recheck_ok hA h1
        refine ⟨ih.1, fun i' v' hm => ?_⟩
        rcases List.mem_cons.1 hm with e | hm
        · cases e; exact ⟨o, ho, h2⟩
        · exact ih.2 i' v' hm
      rcases hold_cond _ _ _ h with ⟨hc, hk⟩ | ⟨_, hk⟩
      · refine put (X := True) hk ?_
        simp only [Bool.or_eq_true, Bool.and_eq_true, Bool.not_eq_true'] at hc
        rcases hc with hc | ⟨hc1, hc2⟩
        · exact .inl hc
        · refine .inr (.inl ⟨hc1, ?_⟩)
          rintro d rfl hd
          simp only [] at hc2
          rw [hasN_iff.2 hd] at hc2
          exact absurd hc2 (by simp)
      · split at hk
        · rename_i u hu
          obtain ⟨e, hk⟩ := hA.eqv _ _ _ hk
          exact put (X := True) hk (.inr (.inr (by rw [hu]; exact e)))
        · rename_i c u hu
          rcases hold_cond c _ _ hk with ⟨hc, hk⟩ | ⟨_, hk⟩
          · obtain ⟨e, hk⟩ := hA.eqv _ _ _ hk
            exact put (X := True) hk (.inr (.inr (by rw [hu]; exact ⟨hc, e⟩)))
          · exact (hA.bot hk).elim
        · exact (hA.bot hk).elim

end

end
end Go.Dc
