/- Regions whose order is open, part three: that the program runs so, in each order. -/
import Derived.Test.YtebgogcdndmaaaaDcX
set_option linter.unusedSimpArgs false
set_option linter.unusedVariables false
namespace Go.Dc

section
variable {α : Type} {A : Ans α} {E : Env α} {call : FuncId → List AV → Rows → (AV → Rows → α) → α} {hold : α → Prop} {P : Program} {ops : Array Oper}

theorem wanted_bool {R : Nat → RoRow} {m : Map} {st : St} {a : Act} {w : World} (hr : Rel R m st a w) {o : Oper} {j : Nat} {want b : Bool} {d : Tmp} (hg : o.guard = some (j, want)) (hd : (ops[j]?).bind (·.dst) = some d)
    (he : st.tmps.getD d .undef = .bool b) : Region.wanted o (yielded ops a.tmps) = (b == want) := by
  have hev := hr.ev (.tmp d)
  simp only [St.ev, Act.eval, nthV_eq] at hev
  rw [he] at hev
  simp only [Den] at hev
  have hlt : d < a.tmps.size := by
    rcases Nat.lt_or_ge d a.tmps.size with h1 | h1
    · exact h1
    · rw [Array.getD_eq_getD_getElem?, Array.getElem?_eq_none h1] at hev
      simp [undef] at hev
  have hy : yielded ops a.tmps j = some b := by
    unfold yielded
    rw [hd]
    simp only [Option.bind_some]
    rw [Array.getD_eq_getD_getElem?, Array.getElem?_eq_getElem hlt] at hev
    simp only [Option.getD_some] at hev
    rw [Array.getElem?_eq_getElem hlt, hev]
  unfold Region.wanted
  rw [hg]
  simp only [hy]
  cases b <;> cases want <;> rfl

theorem wanted_not {R : Nat → RoRow} {m : Map} {st : St} {a : Act} {w : World} (hr : Rel R m st a w) {o : Oper} {j : Nat} {want : Bool} {d : Tmp} (hg : o.guard = some (j, want)) (hd : (ops[j]?).bind (·.dst) = some d)
    {x : AV} (he : st.tmps.getD d .undef = x) (hx : match x with | .tup _ | .int .. | .str _ => True | _ => False) : Region.wanted o (yielded ops a.tmps) = false := by
  have hev := hr.ev (.tmp d)
  simp only [St.ev, Act.eval, nthV_eq] at hev
  rw [he] at hev
  have hne : ∀ b, a.tmps.getD d undef ≠ .bool b := by
    intro b hb
    rw [hb] at hev
    cases x <;> simp only [] at hx <;> simp [Den] at hev
  have hy : yielded ops a.tmps j = none := by
    unfold yielded
    rw [hd]
    simp only [Option.bind_some]
    rcases Nat.lt_or_ge d a.tmps.size with h1 | h1
    · have : a.tmps.getD d undef = a.tmps[d] := by rw [Array.getD_eq_getD_getElem?, Array.getElem?_eq_getElem h1]; rfl
      rw [this] at hne
      rw [Array.getElem?_eq_getElem h1]
      split
      · rename_i b hb
        simp only [Option.some.injEq] at hb
        exact absurd hb (hne b)
      · rfl
    · rw [Array.getElem?_eq_none h1]
  unfold Region.wanted
  rw [hg]
  simp only [hy]
  rfl

/-- What a quiet operation's run is, where its answer is 'v'. -/
def Quiet (P : Program) (ops : Array Oper) (o : Oper) (a : Act) (w : World) (c : Value) : Prop :=
  (Region.wanted o (yielded ops a.tmps) = true ∧ (execOp a.eval o).run P w = .ok (.value c) w) ∨ (Region.wanted o (yielded ops a.tmps) = false ∧ c = undef)

theorem qpick_run (hT : TabOK P E.T) {m : Map} {st : St} {a : Act} {w : World} (hr : Rel E.R m st a w) {o : Oper} {v : AV} (h : (qpick E st o).has v) : ∃ c, Den m st.rows.length v c ∧ (execOp a.eval o).run P w = .ok (.value c) w := by
  have main : (evQ E.T E.R st.rows st.ev o).has v → ∃ c, Den m st.rows.length v c ∧ (execOp a.eval o).run P w = .ok (.value c) w := by
    intro h
    obtain ⟨c, h1, h2⟩ := evQ_ok hT hr.wr st.ev a.eval hr.ev o v h
    exact ⟨c, h2, h1⟩
  obtain ⟨dst, op, type, pos, after, guard⟩ := o
  cases op
  case assign x => exact h.elim
  case pick c x y =>
    have hc := hr.ev c
    simp only [qpick] at h
    split at h
    · rename_i he
      rw [he] at hc
      simp only [Den] at hc
      cases h
      exact ⟨a.eval x, hr.ev x, by simp [execOp, hc, asBool, pure, Sem.run]⟩
    · rename_i he
      rw [he] at hc
      simp only [Den] at hc
      cases h
      exact ⟨a.eval y, hr.ev y, by simp [execOp, hc, asBool, pure, Sem.run]⟩
    · exact h.elim
  all_goals exact main h

theorem qeval_has {st : St} {o : Oper} {v : AV} (h : (qeval E ops st o).has v) : isAssign o = false ∧ (qeval0 E ops st o).has v := by
  unfold qeval at h
  cases ha : isAssign o with
  | true => rw [ha] at h; exact h.elim
  | false => rw [ha] at h; exact ⟨rfl, h⟩

theorem qeval_run (hT : TabOK P E.T) {m : Map} {st : St} {a : Act} {w : World} (hr : Rel E.R m st a w) {o : Oper} {v : AV} (h : (qeval E ops st o).has v) : ∃ c, Den m st.rows.length v c ∧ Quiet P ops o a w c := by
  have h := (qeval_has h).2
  unfold qeval0 at h
  cases hg : o.guard with
  | none =>
    rw [hg] at h
    obtain ⟨c, h1, h2⟩ := qpick_run hT hr h
    exact ⟨c, h1, .inl ⟨by simp [Region.wanted, hg], h2⟩⟩
  | some g =>
    obtain ⟨j, want⟩ := g
    rw [hg] at h
    simp only [] at h
    cases hd : (ops[j]?).bind (·.dst) with
    | none => rw [hd] at h; exact h.elim
    | some d =>
      rw [hd] at h
      simp only [] at h
      have und : ∀ {q : AV}, (QR.ok q).has v → q = .undef → ∃ c, Den m st.rows.length v c ∧ c = undef := by
        intro q h1 h2
        subst h2
        cases h1
        exact ⟨undef, by simp [Den, DenL, undef], rfl⟩
      split at h
      · rename_i he
        have hw := wanted_bool hr hg hd he
        cases want with
        | true =>
          simp only [cond_true] at h
          obtain ⟨c, h1, h2⟩ := qpick_run hT hr h
          exact ⟨c, h1, .inl ⟨by rw [hw]; rfl, h2⟩⟩
        | false =>
          simp only [cond_false] at h
          obtain ⟨c, h1, h2⟩ := und h rfl
          exact ⟨c, h1, .inr ⟨by rw [hw]; rfl, h2⟩⟩
      · rename_i he
        have hw := wanted_bool hr hg hd he
        cases want with
        | false =>
          simp only [cond_false] at h
          obtain ⟨c, h1, h2⟩ := qpick_run hT hr h
          exact ⟨c, h1, .inl ⟨by rw [hw]; rfl, h2⟩⟩
        | true =>
          simp only [cond_true] at h
          obtain ⟨c, h1, h2⟩ := und h rfl
          exact ⟨c, h1, .inr ⟨by rw [hw]; rfl, h2⟩⟩
      all_goals first
        | exact h.elim
        | (rename_i he
           obtain ⟨c, h1, h2⟩ := und h rfl
           exact ⟨c, h1, .inr ⟨wanted_not hr hg hd he trivial, h2⟩⟩)

/-- Two states that agree on what an operation looks at. -/
def Agree (ops : Array Oper) (o : Oper) (x y : List AV) : Prop := ∀ t ∈ o.looksAt ops, x.getD t .undef = y.getD t .undef

theorem Agree.ev {o : Oper} {x y : List AV} (h : Agree ops o x y) (rows rows' : Rows) : ∀ z ∈ o.op.operands, (⟨x, rows⟩ : St).ev z = (⟨y, rows'⟩ : St).ev z := by
  intro z hz
  cases z with
  | tmp t => simp only [St.ev, nthV_eq]; exact h t (by unfold Oper.looksAt; exact List.mem_append_left _ (List.mem_filterMap.2 ⟨.tmp t, by simpa using hz, rfl⟩))
  | _ => rfl

theorem Agree.guard {o : Oper} {x y : List AV} (h : Agree ops o x y) {j : Nat} {want : Bool} {d : Tmp} (hg : o.guard = some (j, want)) (hd : (ops[j]?).bind (·.dst) = some d) : x.getD d .undef = y.getD d .undef :=
  h d (by unfold Oper.looksAt; rw [hg]; simp [hd])

theorem qpick_congr {o : Oper} {x y : List AV} (h : Agree ops o x y) (rows : Rows) : qpick E ⟨x, rows⟩ o = qpick E ⟨y, rows⟩ o := by
  have hev := h.ev rows rows
  have main : evQ E.T E.R rows (⟨x, rows⟩ : St).ev o = evQ E.T E.R rows (⟨y, rows⟩ : St).ev o := evQ_congr o hev
  obtain ⟨dst, op, type, pos, after, guard⟩ := o
  cases op
  case assign x => rfl
  case pick c p q =>
    simp only [qpick]
    rw [hev c (by simp [Op.operands]), hev p (by simp [Op.operands]), hev q (by simp [Op.operands])]
  all_goals exact main

theorem qeval_congr {o : Oper} {x y : List AV} (h : Agree ops o x y) (rows : Rows) : qeval E ops ⟨x, rows⟩ o = qeval E ops ⟨y, rows⟩ o := by
  unfold qeval qeval0
  congr 1
  cases hg : o.guard with
  | none => exact qpick_congr h rows
  | some g =>
    obtain ⟨j, want⟩ := g
    simp only []
    cases hd : (ops[j]?).bind (·.dst) with
    | none => rfl
    | some d =>
      simp only []
      rw [h.guard hg hd, qpick_congr h rows]

theorem qpick_mem {o : Oper} {x : List AV} (hm : memFree o = true) (rows rows' : Rows) : qpick E ⟨x, rows⟩ o = qpick E ⟨x, rows'⟩ o := by
  have main : evQ E.T E.R rows (⟨x, rows⟩ : St).ev o = evQ E.T E.R rows' (⟨x, rows'⟩ : St).ev o := (evQ_mem o hm).trans (evQ_congr o fun z _ => by cases z <;> rfl)
  obtain ⟨dst, op, type, pos, after, guard⟩ := o
  cases op
  case assign x => rfl
  case pick c p q => rfl
  all_goals exact main

theorem qeval_mem {o : Oper} {x : List AV} (hm : memFree o = true) (rows rows' : Rows) : qeval E ops ⟨x, rows⟩ o = qeval E ops ⟨x, rows'⟩ o := by
  unfold qeval qeval0
  rw [qpick_mem hm rows rows']

theorem stepW_congr {o : Oper} {x y : List AV} (h : Agree ops o x y) (rows : Rows) (k : AV → Rows → α) : stepW A E call o ⟨x, rows⟩ k = stepW A E call o ⟨y, rows⟩ k := by
  have hev := h.ev rows rows
  have main : evW E.T E.R rows (⟨x, rows⟩ : St).ev o = evW E.T E.R rows (⟨y, rows⟩ : St).ev o := evW_congr o hev
  obtain ⟨dst, op, type, pos, after, guard⟩ := o
  cases op
  case assign z =>
    simp only [stepW]
    rw [hev z (by simp [Op.operands])]
  case call c =>
    obtain ⟨callee, args, ats⟩ := c
    cases callee
    case value f =>
      simp only [stepW]
      have ha : args.toList.map (⟨x, rows⟩ : St).ev = args.toList.map (⟨y, rows⟩ : St).ev := List.map_congr_left fun z hz => hev z (by simp [Op.operands, Call.operands]; exact .inr (by simpa using hz))
      rw [hev f (by simp [Op.operands, Call.operands]), ha]
    all_goals
      simp only [stepW]
      rw [main]
  all_goals
    simp only [stepW]
    rw [main]

theorem guardW_congr {o : Oper} {x y : List AV} (h : Agree ops o x y) (rows : Rows) (k : AV → Rows → α) : guardW A E call ops o ⟨x, rows⟩ k = guardW A E call ops o ⟨y, rows⟩ k := by
  unfold guardW
  cases hg : o.guard with
  | none => exact stepW_congr h rows k
  | some g =>
    obtain ⟨j, want⟩ := g
    simp only []
    cases hd : (ops[j]?).bind (·.dst) with
    | none => rfl
    | some d =>
      simp only []
      rw [h.guard hg hd, stepW_congr h rows k]

/-- An operation that changes memory runs so. -/
theorem stepW_ok (hA : Holds A hold) (hT : TabOK P E.T) (hcall : CallOK P E.R hold call) {o : Oper} {st : St} {k : AV → Rows → α} (h : hold (stepW A E call o st k)) {m : Map} {a : Act} {w : World} (hr : Rel E.R m st a w)
    {m0 : Map} {h0 : Rows} {w0 : World} (hs : Step m0 h0 w0 m st.rows w) (K : Act → World → Prop) (Q : Exit → Act → World → Prop)
    (hK : ∀ m' v rows a' w', hold (k v rows) → Rel E.R m' ⟨putT st.tmps o.dst v, rows⟩ a' w' → Step m0 h0 w0 m' rows w' → K a' w') : o.wp P a w K Q := by
  have hev := hr.ev
  have both : hold (match evW E.T E.R st.rows st.ev o with
      | .ok c v rows => cond c (forceRows rows fun rows => k v rows) A.bot
      | .no => A.bot) → o.wp P a w K Q := by
    intro h
    cases hw : evW E.T E.R st.rows st.ev o with
    | no => rw [hw] at h; exact (hA.bot h).elim
    | ok c v rows =>
      rw [hw] at h
      rcases hold_cond c _ _ h with ⟨hc, hk⟩ | ⟨_, hk⟩
      · have hk := forcedRows hk
        have := evW_ok hT hr.wr st.ev a.eval hev o
        rw [hw] at this
        obtain ⟨nx, cv, w', m', hrun, hn, hd, hW, hS⟩ := this hc
        unfold Oper.wp
        rw [hrun]
        cases nx <;> simp only [nextVal] at hn <;> try (cases hn; done)
        · cases hn
          exact hK m' _ _ _ _ hk (hr.put hS hW o.dst hd) (hs.trans hS)
        · cases hn
          exact hK m' _ _ _ _ hk (hr.put hS hW o.dst hd) (hs.trans hS)
      · exact (hA.bot hk).elim
  obtain ⟨dst, op, type, pos, after, guard⟩ := o
  cases op
  case assign x =>
    simp only [stepW] at h
    have hrun : (execOp a.eval ⟨dst, .assign x, type, pos, after, guard⟩).run P w = .ok (.value (a.eval x)) w := rfl
    unfold Oper.wp
    rw [hrun]
    exact hK m _ _ _ _ h (hr.put (Step.refl _ _ _) hr.wr dst (hev x)) hs
  case call c =>
    obtain ⟨callee, args, argTypes⟩ := c
    cases callee
    case builtin b => exact both h
    case invoke r mm => exact both h
    case value f =>
      simp only [stepW] at h
      split at h
      · rename_i g first cap he
        have hf := hev f
        rw [he] at hf
        simp only [Den] at hf
        obtain ⟨us, vs, hfe, hus, hvs⟩ := hf
        have h := forced h
        obtain ⟨hsafe, fn, hfn, hbody, hname⟩ := hcall g _ _ _ h
        have hrun : (execOp a.eval ⟨dst, .call ⟨.value f, args, argTypes⟩, type, pos, after, guard⟩).run P w = .ok (.enter g (us ++ args.map a.eval ++ vs)) w := by
          simp only [execOp, resolve, Sem.run_bind, Deferred.ofValue, hfe, Sem.run_pure, Result.andThen_ok, invoke, callFunc]
          simp only [program, Sem.run, pure, Result.andThen_ok, hfn, Sem.bind]
          have hb : fn.body.isNone = false := by cases hbb : fn.body <;> simp_all
          simp [hname, hb, Sem.run]
        unfold Oper.wp
        rw [hrun]
        have hargs : DenL m st.rows.length (first ++ (args.toList.map st.ev ++ cap)) (us ++ args.map a.eval ++ vs).toList := by
          have app : ∀ {l1 l2 : List AV} {v1 v2 : List Value}, DenL m st.rows.length l1 v1 → DenL m st.rows.length l2 v2 → DenL m st.rows.length (l1 ++ l2) (v1 ++ v2) := by
            intro l1
            induction l1 with
            | nil => intro l2 v1 v2 h1 h2; simp only [DenL] at h1; subst h1; simpa using h2
            | cons x l1 ih =>
              intro l2 v1 v2 h1 h2
              simp only [DenL] at h1
              obtain ⟨u, us, rfl, hd, hl⟩ := h1
              simp only [List.cons_append, DenL]
              exact ⟨u, _, rfl, hd, ih hl h2⟩
          have hm : DenL m st.rows.length (args.toList.map st.ev) (args.map a.eval).toList := by simpa using DenL.map_op hev args.toList
          have := app hus (app hm hvs)
          simpa [List.append_assoc] using this
        refine (hsafe m w m st.rows w _ hargs hr.wr (Step.refl _ _ _)).mono ?_
        rintro e w' ⟨c, v, m', h', rfl, hk, hd, hW, hS⟩
        exact hK m' _ _ _ _ (forcedRows hk) (hr.put hS hW dst hd) (hs.trans hS)
      · exact (hA.bot h).elim
  all_goals exact both h

theorem guardW_ok (hA : Holds A hold) (hT : TabOK P E.T) (hcall : CallOK P E.R hold call) {o : Oper} {st : St} {k : AV → Rows → α} (h : hold (guardW A E call ops o st k)) {m : Map} {a : Act} {w : World} (hr : Rel E.R m st a w)
    {m0 : Map} {h0 : Rows} {w0 : World} (hs : Step m0 h0 w0 m st.rows w) (K : Act → World → Prop) (Q : Exit → Act → World → Prop)
    (hK : ∀ m' v rows a' w', hold (k v rows) → Rel E.R m' ⟨putT st.tmps o.dst v, rows⟩ a' w' → Step m0 h0 w0 m' rows w' → K a' w') {i : Nat} (hi : ops[i]? = some o) : wpOp P ops Q i K a w := by
  unfold wpOp
  rw [hi]
  simp only []
  have skip : Region.wanted o (yielded ops a.tmps) = false → hold (k .undef st.rows) → (if Region.wanted o (yielded ops a.tmps) = true then o.wp P a w K Q ∨ (o.asks P a w ∧ LetsOut Q) else K (a.put o.dst undef) w) := by
    intro hw hk
    rw [hw]
    simp only [Bool.false_eq_true, if_false]
    exact hK m _ _ _ _ hk (hr.put (Step.refl _ _ _) hr.wr o.dst (by simp [Den, DenL, undef])) hs
  have run : Region.wanted o (yielded ops a.tmps) = true → hold (stepW A E call o st k) → (if Region.wanted o (yielded ops a.tmps) = true then o.wp P a w K Q ∨ (o.asks P a w ∧ LetsOut Q) else K (a.put o.dst undef) w) := by
    intro hw hk
    rw [if_pos hw]
    exact .inl (stepW_ok hA hT hcall hk hr hs K Q hK)
  unfold guardW at h
  cases hg : o.guard with
  | none =>
    rw [hg] at h
    exact run (by simp [Region.wanted, hg]) h
  | some g =>
    obtain ⟨j, want⟩ := g
    rw [hg] at h
    simp only [] at h
    cases hd : (ops[j]?).bind (·.dst) with
    | none => rw [hd] at h; exact (hA.bot h).elim
    | some d =>
      rw [hd] at h
      simp only [] at h
      split at h
      · rename_i he
        have hw := wanted_bool hr hg hd he
        rcases hold_cond want _ _ h with ⟨rfl, hk⟩ | ⟨rfl, hk⟩
        · exact run (by rw [hw]; rfl) hk
        · exact skip (by rw [hw]; rfl) hk
      · rename_i he
        have hw := wanted_bool hr hg hd he
        rcases hold_cond want _ _ h with ⟨rfl, hk⟩ | ⟨rfl, hk⟩
        · exact skip (by rw [hw]; rfl) hk
        · exact run (by rw [hw]; rfl) hk
      all_goals first
        | exact (hA.bot h).elim
        | (rename_i he
           exact skip (wanted_not hr hg hd he trivial) h)

end

end Go.Dc
