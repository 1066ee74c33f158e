/- Code: that the program runs as the run on abstract states says. -/
import Derived.Test.YtebgogcdndmaaaaDcO
set_option linter.unusedSimpArgs false
set_option linter.unusedVariables false
namespace Go.Dc

def subs : Code → List (Nat × Code)
  | .block id b => (id, b) :: subs b
  | .seq x y => subs x ++ subs y
  | .cond _ x y => subs x ++ subs y
  | .loop b => subs b
  | _ => []

def Env.subsOf {α : Type} (E : Env α) (f : FuncId) : List (Nat × Code) :=
  match E.F f with
  | some fi => subs fi.body
  | none => []

structure FnOK (P : Program) (f : FuncId) (fi : FI) : Prop where
  fn : ∃ fn, P.funcs[f]? = some fn ∧ fn.body = some fi.body ∧ fn.ntmps = fi.ntmps ∧ fn.results = fi.results.toArray ∧ (fn.name == "runtime.NumGoroutine") = false

structure EnvOK {α : Type} (P : Program) (E : Env α) (hold : α → Prop) : Prop where
  T : TabOK P E.T
  F : ∀ f fi, E.F f = some fi → FnOK P f fi
  calls : ∀ f spec, E.calls f = some spec → ∀ args h k, hold (spec args h k) → SafeCall P E.R f args h (fun v h' => hold (k v h')) ∧ ∃ fn, P.funcs[f]? = some fn ∧ fn.body.isSome = true ∧ (fn.name == "runtime.NumGoroutine") = false
  loops : ∀ f id spec, E.loops f id = some spec → ∀ body, (id, body) ∈ E.subsOf f → ∀ st k, hold (spec st k) → Safe P E.R (.block id body) st (fun e st' => hold (k e st'))

def DrawOK {α : Type} (P : Program) (E : Env α) (hold : α → Prop) (draw : Draw α) : Prop :=
  ∀ call, CallOK P E.R hold call → ∀ id ops st (k : St → α), hold (draw call ops st k) → ∀ m a w m0 h0 w0, Rel E.R m st a w → Step m0 h0 w0 m st.rows w →
    (Code.region id ops true).wp P (Post E.R (fun e st' => e = .normal ∧ hold (k st')) m0 h0 w0) a w

theorem Post.mono {R : Nat → RoRow} {Q Q' : Exit → St → Prop} {m0 : Map} {h0 : Rows} {w0 : World} (hq : ∀ e st, Q e st → Q' e st) {e : Exit} {a : Act} {w : World} (h : Post R Q m0 h0 w0 e a w) : Post R Q' m0 h0 w0 e a w := by
  obtain ⟨m, st, h1, h2, h3, h4⟩ := h
  exact ⟨m, st, h1, hq _ _ h2, h3, h4⟩

theorem Safe.mono {P : Program} {R : Nat → RoRow} {c : Code} {st : St} {Q Q' : Exit → St → Prop} (h : Safe P R c st Q) (hq : ∀ e st, Q e st → Q' e st) : Safe P R c st Q' :=
  fun m a w m0 h0 w0 hr hs => wp_mono (h m a w m0 h0 w0 hr hs) fun _ _ _ hp => hp.mono hq

theorem QR.sat_has {m : Map} {n : Nat} {P : Program} {w : World} {s : Sem Value} {q : QR} (h : q.sat m n P w s) {v : AV} (hv : q.has v) : ∃ c, s.run P w = .ok c w ∧ Den m n v c := by
  cases q with
  | no => exact hv.elim
  | ok u => cases hv; exact h
  | ck c u => obtain ⟨h1, rfl⟩ := hv; exact h h1

def ResOK (T : TypeId → Option TI) (R : Nat → RoRow) (st : St) : List ResultVar → List AV → Prop
  | [], vs => vs = []
  | r :: rs, vs => ∃ v vs', vs = v :: vs' ∧ (resV T R st r).has v ∧ ResOK T R st rs vs'

theorem resL_ok {α : Type} {A : Ans α} {hold : α → Prop} (hA : Holds A hold) {T : TypeId → Option TI} {R : Nat → RoRow} {st : St} : ∀ {rs : List ResultVar} {k : List AV → α}, hold (resL A T R st rs k) → ∃ vs, ResOK T R st rs vs ∧ hold (k vs)
  | [], k, h => ⟨[], rfl, h⟩
  | r :: rs, k, h => by
    unfold resL at h
    split at h
    · rename_i v hv
      obtain ⟨vs, h1, h2⟩ := resL_ok hA h
      exact ⟨v :: vs, ⟨v, vs, rfl, by rw [hv]; rfl, h1⟩, h2⟩
    · rename_i c v hv
      rcases hold_cond c _ _ h with ⟨hc, hk⟩ | ⟨_, hk⟩
      · obtain ⟨vs, h1, h2⟩ := resL_ok hA hk
        exact ⟨v :: vs, ⟨v, vs, rfl, by rw [hv]; exact ⟨hc, rfl⟩, h1⟩, h2⟩
      · exact (hA.bot hk).elim
    · exact (hA.bot h).elim

theorem res_run {P : Program} {T : TypeId → Option TI} (hT : TabOK P T) {R : Nat → RoRow} {m : Map} {st : St} {a : Act} {w : World} (hr : Rel R m st a w) (g : ResultVar → Sem Value) (hg1 : ∀ t, g (.tmp t) = pure (a.tmps.getD t undef))
    (hg2 : ∀ x t, g (.cell x t) = do loadVar t (← asAddr (a.tmps.getD x undef))) : ∀ {rs : List ResultVar} {vs : List AV}, ResOK T R st rs vs → ∃ cs, (rs.mapM (m := Sem) g).run P w = .ok cs w ∧ DenL m st.rows.length vs cs
  | [], vs, h => by
    simp only [ResOK] at h
    subst h
    exact ⟨[], rfl, by simp [DenL]⟩
  | r :: rs, vs, h => by
    simp only [ResOK] at h
    obtain ⟨v, vs', rfl, hv, hrest⟩ := h
    obtain ⟨cs, hcs, hd⟩ := res_run hT hr g hg1 hg2 hrest
    have one : ∃ c, (g r).run P w = .ok c w ∧ Den m st.rows.length v c := by
      cases r with
      | tmp t =>
        simp only [resV] at hv
        cases hv
        exact ⟨_, by rw [hg1]; rfl, hr.ev (.tmp t)⟩
      | cell x t =>
        simp only [resV] at hv
        have hp := hr.ev (.tmp x)
        obtain ⟨c, h1, h2⟩ := QR.sat_has (aload_ok hT hr.wr t _ _ hp) hv
        refine ⟨c, ?_, h2⟩
        rw [hg2]
        have hptr : ∃ ro b i o, nthV st.tmps x = .ptr ro b i o := by
          unfold aload at hv
          split at hv
          · rename_i ti ro b i o _ _; exact ⟨ro, b, i, o, by assumption⟩
          · exact hv.elim
        obtain ⟨ro, b, i, o, he⟩ := hptr
        simp only [St.ev] at hp
        rw [he] at hp
        simp only [Den] at hp
        obtain ⟨_, _, hu⟩ := hp
        simp only [Act.eval] at hu h1
        rw [hu] at h1 ⊢
        exact h1
    obtain ⟨c, hc, hdc⟩ := one
    refine ⟨c :: cs, ?_, ?_⟩
    · simp only [List.mapM_cons, Sem.run_bind, hc, Result.andThen_ok, hcs, Sem.run_pure]
    · simp only [DenL]; exact ⟨c, cs, rfl, hdc, hd⟩

/-- The call of a function whose body is safe. -/
theorem SafeCall.of_body {P : Program} {T : TypeId → Option TI} (hT : TabOK P T) {R : Nat → RoRow} {f : FuncId} {fi : FI} (hF : FnOK P f fi) {args : List AV} {h : Rows} {Q : AV → Rows → Prop}
    (hb : Safe P R fi.body ⟨enterT args fi.ntmps, h⟩ fun e st => (e = .normal ∨ e = .ret) ∧ ∃ vs, ResOK T R st fi.results vs ∧ Q (tupOf vs) st.rows) : SafeCall P R f args h Q := by
  obtain ⟨fn, hfn, hbody, hnt, hres, hname⟩ := hF.fn
  intro m w m0 h0 w0 as has hW hS
  refine calls_of_wp hfn hbody ?_
  have hlen := has.length
  simp only [Array.length_toList] at hlen
  have hrel : Rel R m ⟨enterT args fi.ntmps, h⟩ { tmps := as ++ Array.replicate (fn.ntmps - as.size) undef, defers := [] } w := by
    refine ⟨by simp [enterT, hnt, hlen], ?_, rfl, hW⟩
    intro i x hx
    simp only [enterT] at hx
    by_cases hi : i < args.length
    · rw [List.getElem?_append_left hi] at hx
      obtain ⟨c, hc, hd⟩ := has.get hx
      have hi2 : i < as.size := by omega
      refine ⟨c, ?_, hd⟩
      rw [Array.getElem?_append_left hi2]
      simpa using hc
    · rw [List.getElem?_append_right (by omega)] at hx
      have hx2 := List.getElem?_eq_some_iff.1 hx
      obtain ⟨hlt, hxe⟩ := hx2
      simp at hlt hxe
      subst hxe
      refine ⟨undef, ?_, by simp [Den, DenL, undef]⟩
      rw [Array.getElem?_append_right (by omega)]
      rw [Array.getElem?_replicate]
      rw [if_pos (by omega)]
  refine wp_mono (hb m _ w m0 h0 w0 hrel hS) ?_
  rintro e a' w' ⟨m', st', hok, ⟨he, vs, hvs, hq⟩, hr', hs'⟩
  obtain ⟨c, hfin, hden⟩ : ∃ c, (results fn a'.tmps).run P w' = .ok c w' ∧ Den m' st'.rows.length (tupOf vs) c := by
    have hres' : ∃ F : ResultVar → Sem Value, (∀ t, F (.tmp t) = pure (a'.tmps.getD t undef)) ∧ (∀ x t, F (.cell x t) = do loadVar t (← asAddr (a'.tmps.getD x undef))) ∧
        results fn a'.tmps = (do let vs ← fn.results.mapM F; pure (if h : vs.size = 1 then vs[0] else .tuple vs)) := ⟨_, fun _ => rfl, fun _ _ => rfl, rfl⟩
    obtain ⟨F, hF1, hF2, hres'⟩ := hres'
    rw [hres', hres]
    simp only [Sem.run_bind]
    rw [List.mapM_toArray]
    simp only [Sem.run_map]
    obtain ⟨cs, hcs, hd⟩ := res_run hT hr' F hF1 hF2 hvs
    rw [hcs]
    simp only [Result.andThen_ok, Sem.run_pure]
    refine ⟨_, rfl, ?_⟩
    cases vs with
    | nil =>
      simp only [DenL] at hd
      subst hd
      simp [tupOf, Den, DenL]
    | cons v vs =>
      simp only [DenL] at hd
      obtain ⟨u, us, rfl, h1, h2⟩ := hd
      cases vs with
      | nil =>
        simp only [DenL] at h2
        subst h2
        simpa [tupOf] using h1
      | cons v2 vs =>
        simp only [DenL] at h2
        obtain ⟨u2, us, rfl, h2, h3⟩ := h2
        simp only [tupOf, Den]
        refine ⟨(u :: u2 :: us).toArray, by simp, ?_⟩
        simp only [DenL]
        exact ⟨u, _, rfl, h1, u2, us, rfl, h2, h3⟩
  have hR : ∃ c' v m' h', (Ending.returned c) = .returned c' ∧ Q v h' ∧ Den m' h'.length v c' ∧ WR R m' h' w' ∧ Step m0 h0 w0 m' h' w' :=
    ⟨_, _, m', st'.rows, rfl, hq, hden, hr'.wr, hs'⟩
  rcases he with rfl | rfl
  · exact ⟨hr'.defers, _, hfin, hR⟩
  · exact ⟨hr'.defers, _, hfin, hR⟩

section
variable {α : Type} {A : Ans α} {E : Env α} {draw : Draw α} {hold : α → Prop} {P : Program}

theorem code_ok (hA : Holds A hold) (hE : EnvOK P E hold) (hD : DrawOK P E hold draw) : ∀ (n : Nat) (f : FuncId) (c : Code) (st : St) (k : Exit → St → α), (∀ p ∈ subs c, p ∈ E.subsOf f) → hold (code A E draw n f c st k) →
    Safe P E.R c st fun e st' => hold (k e st') := by
  intro n
  induction n using Nat.strongRecOn with
  | ind n IH =>
   cases n with
   | zero => intro f c st k _ h; exact (hA.bot h).elim
   | succ n =>
    have ih := IH n (Nat.lt_succ_self n)
    intro f c st k hsub h
    -- the calls
    have hcall : CallOK P E.R hold (fun g args rows k => match E.calls g with
      | some spec => spec args rows k
      | none => match E.F g with
        | none => A.bot
        | some fi => forceL (enterT args fi.ntmps) fun ts => code A E draw n g fi.body ⟨ts, rows⟩ fun e st => match e with
          | .normal | .ret => resK A E st fi.results fun v => k v st.rows
          | _ => A.bot) := by
      intro g args rows k hk
      simp only [] at hk
      cases hc : E.calls g with
      | some spec => rw [hc] at hk; exact hE.calls g spec hc args rows k hk
      | none =>
        rw [hc] at hk
        simp only [] at hk
        cases hf : E.F g with
        | none => rw [hf] at hk; exact (hA.bot hk).elim
        | some fi =>
          rw [hf] at hk
          have hk := forced hk
          have hF := hE.F g fi hf
          have hb := ih g fi.body _ _ (fun p hp => by unfold Env.subsOf; rw [hf]; exact hp) hk
          obtain ⟨fn, h1, h2, h3, h4, h5⟩ := hF.fn
          refine ⟨SafeCall.of_body hE.T hF (hb.mono ?_), fn, h1, by rw [h2]; rfl, h5⟩
          intro e st' he
          cases e <;> first
            | exact ⟨.inl rfl, resL_ok hA he⟩
            | exact ⟨.inr rfl, resL_ok hA he⟩
            | exact (hA.bot he).elim
    intro m a w m0 h0 w0 hr hs
    cases c with
    | skip => exact wp_skip ⟨m, st, trivial, h, hr, hs⟩
    | label l => exact wp_label ⟨m, st, trivial, h, hr, hs⟩
    | exit id => exact wp_exit ⟨m, st, trivial, h, hr, hs⟩
    | ret => exact wp_ret ⟨m, st, trivial, h, hr, hs⟩
    | seq x y =>
      have hx := ih f x st _ (fun p hp => hsub p (by simp [subs, hp])) h
      refine wp_seq (wp_mono (hx m a w m0 h0 w0 hr hs) ?_)
      rintro e a' w' ⟨m', st', hok, hq, hr', hs'⟩
      cases e <;> first
        | exact hok.elim
        | exact ⟨m', st', trivial, hq, hr', hs'⟩
        | exact ih f y st' k (fun p hp => hsub p (by simp [subs, hp])) hq m' a' w' m0 h0 w0 hr' hs'
    | cond x y z =>
      have hev := hr.ev x
      simp only [code, setBoolK_eq] at h
      split at h
      · rename_i b he
        rw [he] at hev
        simp only [Den] at hev
        have hset : Rel E.R m (setBool st x b) a w ∧ (setBool st x b).rows = st.rows := by
          cases x with
          | tmp d => exact ⟨hr.known (by simpa [St.ev, nthV_eq] using he), rfl⟩
          | _ => exact ⟨hr, rfl⟩
        rcases hold_cond b _ _ h with ⟨rfl, hk⟩ | ⟨rfl, hk⟩
        · exact wp_cond_true hev (ih f y _ k (fun p hp => hsub p (by simp [subs, hp])) hk m a w m0 h0 w0 hset.1 (by rw [hset.2]; exact hs))
        · exact wp_cond_false hev (ih f z _ k (fun p hp => hsub p (by simp [subs, hp])) hk m a w m0 h0 w0 hset.1 (by rw [hset.2]; exact hs))
      · exact (hA.bot h).elim
    | block id body =>
      simp only [code] at h
      cases hl : E.loops f id with
      | some spec =>
        rw [hl] at h
        exact hE.loops f id spec hl body (hsub _ (by simp [subs])) st k h m a w m0 h0 w0 hr hs
      | none =>
        rw [hl] at h
        have hb := ih f body st _ (fun p hp => hsub p (by simp [subs, hp])) h
        refine wp_block (wp_mono (hb m a w m0 h0 w0 hr hs) ?_)
        rintro e a' w' ⟨m', st', hok, hq, hr', hs'⟩
        cases e with
        | normal => exact ⟨m', st', trivial, hq, hr', hs'⟩
        | ret => exact ⟨m', st', trivial, hq, hr', hs'⟩
        | exit id' =>
          simp only [Exit.inBlock]
          by_cases hid : id' = id
          · rw [if_pos hid]
            subst hid
            simp only [Nat.beq_refl, cond_true] at hq
            exact ⟨m', st', trivial, hq, hr', hs'⟩
          · rw [if_neg hid]
            have : Nat.beq id' id = false := by rw [Bool.eq_false_iff]; exact fun e => hid (Nat.eq_of_beq_eq_true e)
            simp only [this, cond_false] at hq
            exact ⟨m', st', trivial, hq, hr', hs'⟩
        | goto l => exact hok.elim
        | panic ch => exact hok.elim
        | outgrown => exact hok.elim
    | loop body =>
      -- rounds
      have key : ∀ (j : Nat), j ≤ n + 1 → ∀ (st : St), hold (code A E draw j f (.loop body) st k) → ∀ m a w, Rel E.R m st a w → Step m0 h0 w0 m st.rows w →
          Code.rounds P body (Post E.R (fun e st' => hold (k e st')) m0 h0 w0) j a w := by
        intro j
        induction j with
        | zero => intro _ st h m a w _ _; exact (hA.bot h).elim
        | succ j ihj =>
          intro hj st h m a w hr hs
          rw [rounds_succ]
          simp only [code] at h
          refine wp_mono (IH j (by omega) f body st _ (fun p hp => hsub p (by simpa [subs] using hp)) h m a w m0 h0 w0 hr hs) ?_
          rintro e a' w' ⟨m', st', hok, hq, hr', hs'⟩
          cases e with
          | normal => exact ihj (by omega) st' hq m' a' w' hr' hs'
          | _ => first | exact hok.elim | exact ⟨m', st', trivial, hq, hr', hs'⟩
      exact wp_loop_rounds (n + 1) (key (n + 1) (Nat.le_refl _) st h m a w hr hs)
    | region id ops d =>
      cases d with
      | false =>
        refine wp_region_list ?_
        exact runOps_ok hA hE.T hcall ops ops.toList st _ h hr hs _ (fun m' st' a' w' hk hr' hs' => ⟨m', st', trivial, hk, hr', hs'⟩)
      | true =>
        refine wp_mono (hD _ hcall id ops st _ h m a w m0 h0 w0 hr hs) fun e a' w' hp => hp.mono ?_
        rintro e st' ⟨rfl, hk⟩
        exact hk
    | scope b => exact (hA.bot h).elim
    | goto l => exact (hA.bot h).elim
    | refuse why => exact (hA.bot h).elim
    | rangeFunc g ps as' b => exact (hA.bot h).elim

end

end Go.Dc
