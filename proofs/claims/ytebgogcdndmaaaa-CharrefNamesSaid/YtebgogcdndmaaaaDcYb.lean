/- Regions whose order is open, part four. -/
import Derived.Test.YtebgogcdndmaaaaDcY
set_option linter.unusedSimpArgs false
set_option linter.unusedVariables false
namespace Go.Dc

section
variable {α : Type} {A : Ans α} {E : Env α} {call : FuncId → List AV → Rows → (AV → Rows → α) → α} {hold : α → Prop} {P : Program} {ops : Array Oper}

def OrdOK (ops : Array Oper) : List Nat → Prop
  | [] => True
  | i :: L => (∃ o, ops[i]? = some o ∧ ∀ d ∈ deps o, d ∈ L) ∧ OrdOK ops L

structure DInv (E : Env α) (ops : Array Oper) (La : List Nat) (done : List (Nat × AV)) (st : St) (listed : Array Bool) (m : Map) (a : Act) (w : World) (m0 : Map) (h0 : Rows) (w0 : World) : Prop where
  sub : ∀ i, listed.getD i false = true → i ∈ La
  size : listed.size = ops.size
  inb : ∀ i ∈ La, i < ops.size
  closed : ∀ i o, listed.getD i false = true → ops[i]? = some o → ∀ d ∈ deps o, listed.getD d false = true
  ord : OrdOK ops La
  pend : ∀ i ∈ La, listed.getD i false = false → ∃ o v, ops[i]? = some o ∧ (i, v) ∈ done ∧ (qeval E ops st o).has v ∧ ∀ d, o.dst = some d → d < st.tmps.length → st.tmps[d]? = some v
  rel : ∃ tb, tb.length = st.tmps.length ∧ (∀ t, (∀ i o, i ∈ La → listed.getD i false = false → ops[i]? = some o → o.dst ≠ some t) → tb[t]? = st.tmps[t]?) ∧ Rel E.R m ⟨tb, st.rows⟩ a w
  step : Step m0 h0 w0 m st.rows w

theorem mem_deps {o : Oper} {d : Nat} : d ∈ deps o ↔ ∃ e ∈ o.after, Region.binds .any e = true ∧ e.on = d := by
  unfold deps
  simp only [List.mem_map, List.mem_filter, Array.mem_toList_iff]
  constructor
  · rintro ⟨e, ⟨h1, h2⟩, h3⟩; exact ⟨e, h1, h2, h3⟩
  · rintro ⟨e, h1, h2, h3⟩; exact ⟨e, ⟨h1, h2⟩, h3⟩

theorem mem_readyL {La : List Nat} {i : Nat} : i ∈ readyL ops La ↔ i < ops.size ∧ i ∉ La ∧ ∃ o, ops[i]? = some o ∧ ∀ d ∈ deps o, d ∈ La := by
  unfold readyL
  simp only [List.mem_filter, List.mem_range, Bool.and_eq_true, Bool.not_eq_true']
  constructor
  · rintro ⟨h1, h2, h3⟩
    refine ⟨h1, fun h => ?_, ?_⟩
    · rw [hasN_iff.2 h] at h2; exact absurd h2 (by simp)
    · split at h3
      · rename_i o ho
        exact ⟨o, ho, fun d hd => hasN_iff.1 (List.all_eq_true.1 h3 d hd)⟩
      · exact absurd h3 (by simp)
  · rintro ⟨h1, h2, o, ho, h3⟩
    refine ⟨h1, ?_, ?_⟩
    · cases hh : hasN La i with
      | true => exact absurd (hasN_iff.1 hh) h2
      | false => rfl
    · rw [ho]
      exact List.all_eq_true.2 fun d hd => hasN_iff.2 (h3 d hd)

/-- A concrete operation that can be run now. -/
theorem ready_spec {listed : Array Bool} {i : Nat} (h : i ∈ Region.ready .any ops listed) : listed.getD i true = false ∧ listed.getD i false = false ∧ ∃ o, ops[i]? = some o ∧ ∀ d ∈ deps o, listed.getD d false = true := by
  obtain ⟨h1, o, ho, h2⟩ := mem_ready.1 h
  refine ⟨h1, ?_, o, ho, ?_⟩
  · rw [Array.getD_eq_getD_getElem?] at h1 ⊢
    cases hl : listed[i]? with
    | none => rw [hl] at h1; simp at h1
    | some b => rw [hl] at h1; simpa using h1
  · intro d hd
    obtain ⟨e, he, hb, rfl⟩ := mem_deps.1 hd
    exact h2 e he hb

theorem neat_look (hn : neat ops = true) {i j : Nat} {o p : Oper} (hi : ops[i]? = some o) (hj : ops[j]? = some p) {d : Tmp} (hd : o.dst = some d) (ha : isAssign o = false) :
    (d ∈ p.looksAt ops → i ∈ deps p) ∧ (i ≠ j → p.dst = some d → i ∈ deps p) := by
  have lt : ∀ {i : Nat} {o : Oper}, ops[i]? = some o → i < ops.size := fun h => (Array.getElem?_eq_some_iff.1 h).1
  unfold neat at hn
  have h1 := List.all_eq_true.1 hn i (List.mem_range.2 (lt hi))
  rw [hi] at h1
  simp only [hd, ha, Bool.false_or] at h1
  have h2 := List.all_eq_true.1 h1 j (List.mem_range.2 (lt hj))
  rw [hj] at h2
  simp only [Bool.and_eq_true, Bool.or_eq_true, Bool.not_eq_true'] at h2
  obtain ⟨h3, h4⟩ := h2
  constructor
  · intro hl
    rcases h3 with h3 | h3
    · rw [hasN_iff.2 hl] at h3; exact absurd h3 (by simp)
    · exact hasN_iff.1 h3
  · intro hne hp
    rcases h4 with (h4 | h4) | h4
    · exact absurd (Nat.eq_of_beq_eq_true h4) hne
    · rw [hp] at h4
      simp at h4
    · exact hasN_iff.1 h4

theorem ahead_mem {listed : Array Bool} (hc : ∀ i o, listed.getD i false = true → ops[i]? = some o → ∀ d ∈ deps o, listed.getD d false = true) : ∀ (n i j : Nat), (∀ o, ops[j]? = some o → ∀ d ∈ deps o, listed.getD d false = true) → ahead ops n i j = true → listed.getD i false = true
  | 0, i, j, _, h => by simp [ahead] at h
  | n + 1, i, j, hj, h => by
    unfold ahead at h
    cases ho : ops[j]? with
    | none => rw [ho] at h; simp at h
    | some o =>
      rw [ho] at h
      simp only [List.any_eq_true] at h
      obtain ⟨d, hd, h⟩ := h
      have hl := hj o ho d hd
      cases hb : Nat.beq d i with
      | true => have := Nat.eq_of_beq_eq_true hb; subst this; exact hl
      | false =>
        rw [hb] at h
        exact ahead_mem hc n i d (fun o' ho' => hc d o' hl ho') h

/-- Where nothing can be run, nothing is left. -/
theorem DInv.noPend {La : List Nat} {done : List (Nat × AV)} {st : St} {listed : Array Bool} {m : Map} {a : Act} {w : World} {m0 : Map} {h0 : Rows} {w0 : World} (D : DInv E ops La done st listed m a w m0 h0 w0) (hr : Region.ready .any ops listed = []) :
    ∀ i ∈ La, listed.getD i false = true := by
  have key : ∀ L : List Nat, OrdOK ops L → (∀ i ∈ L, i ∈ La) → ∀ i ∈ L, listed.getD i false = true := by
    intro L
    induction L with
    | nil => intro _ _ i hi; simp at hi
    | cons j L ih =>
      rintro ⟨⟨o, ho, hd⟩, hL⟩ hsub i hi
      have hrest := ih hL fun x hx => hsub x (by simp [hx])
      rcases List.mem_cons.1 hi with rfl | hi
      · cases hl : listed.getD i false with
        | true => rfl
        | false =>
          have hlt : i < listed.size := by rw [D.size]; exact D.inb i (hsub i (by simp))
          have : i ∈ Region.ready .any ops listed := by
            refine mem_ready.2 ⟨?_, o, ho, fun e he hb => hrest _ (hd _ (mem_deps.2 ⟨e, he, hb, rfl⟩))⟩
            rw [Array.getD_eq_getD_getElem?, Array.getElem?_eq_getElem hlt] at hl ⊢
            simpa using hl
          rw [hr] at this
          simp at this
      · exact hrest i hi
  exact key La D.ord fun _ h => h

theorem DInv.done_rel {La : List Nat} {done : List (Nat × AV)} {st : St} {listed : Array Bool} {m : Map} {a : Act} {w : World} {m0 : Map} {h0 : Rows} {w0 : World} (D : DInv E ops La done st listed m a w m0 h0 w0) (hr : Region.ready .any ops listed = []) :
    Rel E.R m st a w := by
  obtain ⟨tb, h1, h2, h3⟩ := D.rel
  have : tb = st.tmps := by
    refine List.ext_getElem? fun t => ?_
    refine h2 t fun i o hi hl => ?_
    rw [D.noPend hr i hi] at hl
    exact absurd hl (by simp)
  subst this
  exact h3

/-- The slots that a waiting operation looks at are plain. -/
theorem DInv.agree {La : List Nat} {done : List (Nat × AV)} {st : St} {listed : Array Bool} {m : Map} {a : Act} {w : World} {m0 : Map} {h0 : Rows} {w0 : World} (D : DInv E ops La done st listed m a w m0 h0 w0) (hn : neat ops = true)
    {j : Nat} {p : Oper} (hj : ops[j]? = some p) (hd : ∀ d ∈ deps p, listed.getD d false = true) {tb : List AV}
    (htb : ∀ t, (∀ i o, i ∈ La → listed.getD i false = false → ops[i]? = some o → o.dst ≠ some t) → tb[t]? = st.tmps[t]?) : Agree ops p tb st.tmps := by
  intro t ht
  have := htb t (fun i o hi hl ho hdst => by
    obtain ⟨o', v, ho', _, hq, _⟩ := D.pend i hi hl
    rw [ho] at ho'
    cases ho'
    have hdep := (neat_look hn ho hj hdst (qeval_has hq).1).1 ht
    rw [hd i hdep] at hl
    exact absurd hl (by simp))
  simp only [List.getD, this]

theorem putT_length (l : List AV) (d : Option Tmp) (v : AV) : (putT l d v).length = l.length := by
  cases d <;> simp [putT]

theorem putT_get {l : List AV} {d : Option Tmp} {v : AV} {t : Tmp} (h : d ≠ some t) : (putT l d v)[t]? = l[t]? := by
  cases d with
  | none => rfl
  | some d =>
    simp only [putT]
    rw [List.getElem?_set_ne]
    intro e; exact h (by rw [e])

theorem getD_set {listed : Array Bool} {i j : Nat} (hi : i < listed.size) : (listed.setIfInBounds i true).getD j false = if j = i then true else listed.getD j false := by
  by_cases h : j = i
  · subst h; simp [hi]
  · rw [if_neg h, getD_set_ne false (Ne.symm h)]

/-- A waiting quiet operation runs now. -/
theorem DInv.pendStep (hT : TabOK P E.T) {La : List Nat} {done : List (Nat × AV)} {st : St} {listed : Array Bool} {m : Map} {a : Act} {w : World} {m0 : Map} {h0 : Rows} {w0 : World} (D : DInv E ops La done st listed m a w m0 h0 w0) (hn : neat ops = true)
    {Q : Exit → Act → World → Prop} {K : Act → World → Prop} {i : Nat} (hr : i ∈ Region.ready .any ops listed) (hi : i ∈ La) (hK : ∀ a', DInv E ops La done st (listed.setIfInBounds i true) m a' w m0 h0 w0 → K a' w) : wpOp P ops Q i K a w := by
  obtain ⟨hl1, hl, o, ho, hdep⟩ := ready_spec hr
  obtain ⟨o', v, ho', hdone, hq, hdst⟩ := D.pend i hi hl
  rw [ho] at ho'
  cases ho'
  obtain ⟨tb, hlen, htb, hrel⟩ := D.rel
  have hag := D.agree hn ho hdep htb
  have hq' : (qeval E ops ⟨tb, st.rows⟩ o).has v := by rw [qeval_congr hag st.rows]; exact hq
  obtain ⟨c, hden, hquiet⟩ := qeval_run hT hrel hq'
  have hsz : i < listed.size := by rw [D.size]; exact D.inb i hi
  have hput : K (a.put o.dst c) w := by
    refine hK _ ?_
    constructor
    · intro j hj
      rw [getD_set hsz] at hj
      by_cases e : j = i
      · subst e; exact hi
      · rw [if_neg e] at hj; exact D.sub j hj
    · simp [D.size]
    · exact D.inb
    · intro j p hj hp d hd
      rw [getD_set hsz] at hj ⊢
      by_cases e : d = i
      · rw [if_pos e]
      · rw [if_neg e]
        by_cases e2 : j = i
        · subst e2
          rw [ho] at hp; cases hp
          exact hdep d hd
        · rw [if_neg e2] at hj
          exact D.closed j p hj hp d hd
    · exact D.ord
    · intro j hj hlj
      rw [getD_set hsz] at hlj
      by_cases e : j = i
      · rw [if_pos e] at hlj; exact absurd hlj (by simp)
      · rw [if_neg e] at hlj; exact D.pend j hj hlj
    · refine ⟨putT tb o.dst v, by rw [putT_length, hlen], ?_, hrel.put (Step.refl _ _ _) hrel.wr o.dst hden⟩
      intro t ht
      by_cases e : o.dst = some t
      · rw [e]
        simp only [putT]
        rcases Nat.lt_or_ge t st.tmps.length with h1 | h1
        · rw [List.getElem?_set_self (by rw [hlen]; exact h1), hdst t e h1]
        · rw [List.getElem?_eq_none (by simp [hlen]; exact h1), List.getElem?_eq_none h1]
      · rw [putT_get e]
        refine htb t fun j p hj hlj hp => ?_
        by_cases e2 : j = i
        · subst e2
          rw [ho] at hp; cases hp
          exact e
        · exact ht j p hj (by rw [getD_set hsz, if_neg e2]; exact hlj) hp
    · exact D.step
  unfold wpOp
  rw [ho]
  simp only []
  rcases hquiet with ⟨hw, hrun⟩ | ⟨hw, rfl⟩
  · rw [if_pos hw]
    refine .inl ?_
    unfold Oper.wp
    rw [hrun]
    exact hput
  · rw [hw]
    simp only [Bool.false_eq_true, if_false]
    exact hput

end

end Go.Dc
