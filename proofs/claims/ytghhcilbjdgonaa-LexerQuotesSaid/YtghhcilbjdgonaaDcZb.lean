/- Code in a round of a range over a function. -/
import Derived.Test.YtghhcilbjdgonaaDcYe
import Derived.Test.YtghhcilbjdgonaaDcZ
set_option linter.unusedSimpArgs false
set_option linter.unusedVariables false
namespace Go.Dc

/-- Safe in a round, or with deferred calls that stand by. -/
def SafeR (rd : Option Nat) (ds : List Deferred) (P : Program) (R : Nat → RoRow) (c : Code) (st : St) (Q : Exit → St → Prop) : Prop :=
  ∀ m a w m0 h0 w0, a.defers = ds → Rel R m st (clr a) w → Step m0 h0 w0 m st.rows w → c.wpIn (Fd rd) 0 P (QD ds (Post R Q m0 h0 w0)) a w

theorem post_tame (R : Nat → RoRow) (Q : Exit → St → Prop) (m0 : Map) (h0 : Rows) (w0 : World) : Tame (Post R Q m0 h0 w0) where
  out := by
    rintro ⟨a, w, m, st, h, _⟩
    exact h
  panic := by
    rintro ch a w ⟨m, st, h, _⟩
    exact h
theorem post_defers {R : Nat → RoRow} {Q : Exit → St → Prop} {m0 : Map} {h0 : Rows} {w0 : World} (a : Act) (w : World) (h : Post R Q m0 h0 w0 .normal a w) : a.defers = [] := by
  obtain ⟨m, st, _, _, hr, _⟩ := h
  exact hr.defers

def codeND : Code → Bool
  | .seq a b => codeND a && codeND b
  | .cond _ a b => codeND a && codeND b
  | .block _ b => codeND b
  | .loop b => codeND b
  | .region _ ops _ => ops.toList.all noDefer
  | .rangeFunc _ _ a b => codeND a && codeND b
  | _ => true

theorem nd_seq {a b : Code} (h : codeND (.seq a b) = true) : codeND a = true ∧ codeND b = true := by simpa [codeND] using h
theorem nd_cond {c : Operand} {a b : Code} (h : codeND (.cond c a b) = true) : codeND a = true ∧ codeND b = true := by simpa [codeND] using h

section
variable {α : Type} {A : Ans α} {E : Env α} {hold : α → Prop} {P : Program} {rd : Option Nat} {ds : List Deferred}

theorem drawAll_okR (hA : Holds A hold) (hT : TabOK P E.T) (hm : P.follows .mixedOrders = true) : ∀ call, CallOK P E.R hold call → ∀ id ops st k, ops.toList.all noDefer = true → hold (drawAll A E call ops st k) → ∀ m a w m0 h0 w0, a.defers = ds → Rel E.R m st (clr a) w → Step m0 h0 w0 m st.rows w →
    (Code.region id ops true).wpIn (Fd rd) 0 P (QD ds (Post E.R (fun e st' => e = .normal ∧ hold (k st')) m0 h0 w0)) a w := by
  intro call hcall id ops st k hnd h m a w m0 h0 w0 ha hr hs
  unfold drawAll at h
  cases hn : neat ops with
  | false => rw [hn] at h; exact (hA.bot h).elim
  | true =>
    rw [hn] at h
    simp only [cond_true] at h
    refine wpIn_region_any hm (anyD (post_tame _ _ _ _ _) post_defers hnd _ _ _ _ ha ?_)
    refine drawGo_ok (m0 := m0) (h0 := h0) (w0 := w0) (Q := Post E.R (fun e st' => e = .normal ∧ hold (k st')) m0 h0 w0) hA hT hcall hn ?_ _ _ _ _ h _ _ m _ _ ?_ ?_
    · intro m' st' a' w' hk hr' hs'
      exact ⟨m', st', trivial, ⟨rfl, hk⟩, hr', hs'⟩
    · have hW : WR E.R m st.rows { w with drawn := w.drawn + 1 } := hr.wr.same rfl
      constructor
      · intro i hi
        rw [Array.getD_eq_getD_getElem?] at hi
        rcases Nat.lt_or_ge i ops.size with h1 | h1
        · rw [Array.getElem?_eq_getElem (by simpa using h1)] at hi; simp at hi
        · rw [Array.getElem?_eq_none (by simpa using h1)] at hi; simp at hi
      · simp
      · intro i hi; simp at hi
      · intro i o hi
        rw [Array.getD_eq_getD_getElem?] at hi
        rcases Nat.lt_or_ge i ops.size with h1 | h1
        · rw [Array.getElem?_eq_getElem (by simpa using h1)] at hi; simp at hi
        · rw [Array.getElem?_eq_none (by simpa using h1)] at hi; simp at hi
      · trivial
      · intro i hi; simp at hi
      · exact ⟨st.tmps, rfl, fun _ _ => rfl, hr.size, hr.tmps, hr.defers, hW⟩
      · exact ⟨hs.os, hs.tape, hs.output, hs.size, hs.block, hs.len, hs.mu, hs.ro, hs.new⟩
    · unfold cnt
      refine Nat.le_trans List.countP_le_length ?_
      simp


theorem code_okR (hA : Holds A hold) (hE : EnvOK P E hold) (hm : P.follows .mixedOrders = true)
    (f : FuncId) (hL : ∀ id spec, E.loops f id = some spec → ∀ body, (id, body) ∈ E.subsOf f → ∀ st k, hold (spec st k) → SafeR rd ds P E.R (.block id body) st fun e st' => hold (k e st')) :
    ∀ (n : Nat) (c : Code) (st : St) (k : Exit → St → α), codeND c = true → (∀ p ∈ subs c, p ∈ E.subsOf f) → hold (code A E (drawAll A E) n f c st k) →
    SafeR rd ds P E.R c st fun e st' => hold (k e st') := by
  intro n
  induction n using Nat.strongRecOn with
  | ind n IH =>
   cases n with
   | zero => intro c st k _ _ h; exact (hA.bot h).elim
   | succ n =>
    have ih := IH n (Nat.lt_succ_self n)
    intro c st k hnd hsub h
    -- the calls
    have hcall : CallOK P E.R hold (fun g args rows k => match E.calls g with
      | some spec => spec args rows k
      | none => match E.F g with
        | none => A.bot
        | some fi => forceL (enterT args fi.ntmps) fun ts => code A E (drawAll A E) n g fi.body ⟨ts, rows⟩ fun e st => match e with
          | .normal | .ret => resK A E st fi.results fun v => k v st.rows
          | _ => A.bot) := by
      intro g args rows k hk
      simp only [] at hk
      cases hc : E.calls g with
      | some spec => rw [hc] at hk; exact hE.calls g spec hc args rows k hk
      | none =>
        rw [hc] at hk
        simp only [] at hk
        cases hf : E.F g with
        | none => rw [hf] at hk; exact (hA.bot hk).elim
        | some fi =>
          rw [hf] at hk
          have hk := forced hk
          have hF := hE.F g fi hf
          have hb := code_ok hA hE (drawAll_ok hA hE.T hm) n g fi.body _ _ (fun p hp => by unfold Env.subsOf; rw [hf]; exact hp) hk
          obtain ⟨fn, h1, h2, h3, h4, h5⟩ := hF.fn
          refine ⟨SafeCall.of_body hE.T hF (hb.mono ?_), fn, h1, by rw [h2]; rfl, h5⟩
          intro e st' he
          cases e <;> first
            | exact ⟨.inl rfl, resL_ok hA he⟩
            | exact ⟨.inr rfl, resL_ok hA he⟩
            | exact (hA.bot he).elim
    intro m a w m0 h0 w0 ha hr hs
    cases c with
    | skip => exact wpIn_skip ⟨⟨m, st, trivial, h, hr, hs⟩, ha⟩
    | label l => exact wpIn_label ⟨⟨m, st, trivial, h, hr, hs⟩, ha⟩
    | exit id => exact wpIn_exit ⟨⟨m, st, trivial, h, hr, hs⟩, ha⟩
    | ret => exact wpIn_ret ⟨⟨m, st, trivial, h, hr, hs⟩, ha⟩
    | seq x y =>
      have hx := ih x st _ (nd_seq hnd).1 (fun p hp => hsub p (by simp [subs, hp])) h
      refine wpIn_seq (wpIn_mono (hx m a w m0 h0 w0 ha hr hs) ?_)
      rintro e a' w' ⟨⟨m', st', hok, hq, hr', hs'⟩, ha'⟩
      cases e <;> first
        | exact hok.elim
        | exact ⟨⟨m', st', trivial, hq, hr', hs'⟩, ha'⟩
        | exact ih y st' k (nd_seq hnd).2 (fun p hp => hsub p (by simp [subs, hp])) hq m' a' w' m0 h0 w0 ha' hr' hs'
    | cond x y z =>
      have hev := hr.ev x
      simp only [code, setBoolK_eq] at h
      split at h
      · rename_i b he
        rw [he] at hev
        simp only [Den] at hev
        have hset : Rel E.R m (setBool st x b) (clr a) w ∧ (setBool st x b).rows = st.rows := by
          cases x with
          | tmp d => exact ⟨hr.known (by simpa [St.ev, nthV_eq] using he), rfl⟩
          | _ => exact ⟨hr, rfl⟩
        rcases hold_cond b _ _ h with ⟨rfl, hk⟩ | ⟨rfl, hk⟩
        · exact wpIn_cond_true hev (ih y _ k (nd_cond hnd).1 (fun p hp => hsub p (by simp [subs, hp])) hk m a w m0 h0 w0 ha hset.1 (by rw [hset.2]; exact hs))
        · exact wpIn_cond_false hev (ih z _ k (nd_cond hnd).2 (fun p hp => hsub p (by simp [subs, hp])) hk m a w m0 h0 w0 ha hset.1 (by rw [hset.2]; exact hs))
      · exact (hA.bot h).elim
    | block id body =>
      simp only [code] at h
      cases hl : E.loops f id with
      | some spec =>
        rw [hl] at h
        exact hL id spec hl body (hsub _ (by simp [subs])) st k h m a w m0 h0 w0 ha hr hs
      | none =>
        rw [hl] at h
        have hb := ih body st _ (by simpa [codeND] using hnd) (fun p hp => hsub p (by simp [subs, hp])) h
        refine wpIn_block (wpIn_mono (hb m a w m0 h0 w0 ha hr hs) ?_)
        rintro e a' w' ⟨⟨m', st', hok, hq, hr', hs'⟩, ha'⟩
        cases e with
        | normal => exact ⟨⟨m', st', trivial, hq, hr', hs'⟩, ha'⟩
        | ret => exact ⟨⟨m', st', trivial, hq, hr', hs'⟩, ha'⟩
        | exit id' =>
          simp only [Exit.inBlock]
          by_cases hid : id' = id
          · rw [if_pos hid]
            subst hid
            simp only [Nat.beq_refl, cond_true] at hq
            exact ⟨⟨m', st', trivial, hq, hr', hs'⟩, ha'⟩
          · rw [if_neg hid]
            have : Nat.beq id' id = false := by rw [Bool.eq_false_iff]; exact fun e => hid (Nat.eq_of_beq_eq_true e)
            simp only [this, cond_false] at hq
            exact ⟨⟨m', st', trivial, hq, hr', hs'⟩, ha'⟩
        | goto l => exact hok.elim
        | panic ch => exact hok.elim
        | outgrown => exact hok.elim
    | loop body =>
      -- rounds
      have key : ∀ (j : Nat), j ≤ n + 1 → ∀ (st : St), hold (code A E (drawAll A E) j f (.loop body) st k) → ∀ m a w, a.defers = ds → Rel E.R m st (clr a) w → Step m0 h0 w0 m st.rows w →
          Code.roundsIn (Fd rd) 0 P body (QD ds (Post E.R (fun e st' => hold (k e st')) m0 h0 w0)) j a w := by
        intro j
        induction j with
        | zero => intro _ st h m a w _ _ _; exact (hA.bot h).elim
        | succ j ihj =>
          intro hj st h m a w ha hr hs
          rw [roundsIn_succ]
          simp only [code] at h
          refine wpIn_mono (IH j (by omega) body st _ (by simpa [codeND] using hnd) (fun p hp => hsub p (by simpa [subs] using hp)) h m a w m0 h0 w0 ha hr hs) ?_
          rintro e a' w' ⟨⟨m', st', hok, hq, hr', hs'⟩, ha'⟩
          cases e with
          | normal => exact ihj (by omega) st' hq m' a' w' ha' hr' hs'
          | _ => first | exact hok.elim | exact ⟨⟨m', st', trivial, hq, hr', hs'⟩, ha'⟩
      exact wpIn_loop_rounds (n + 1) (key (n + 1) (Nat.le_refl _) st h m a w ha hr hs)
    | region id ops d =>
      cases d with
      | false =>
        refine wpIn_region_list (listD (post_tame _ _ _ _ _) post_defers _ _ _ (by simpa [codeND] using hnd) ha ?_)
        exact runOps_ok hA hE.T hcall ops ops.toList st _ h hr hs _ (fun m' st' a' w' hk hr' hs' => ⟨m', st', trivial, hk, hr', hs'⟩)
      | true =>
        refine wpIn_mono (drawAll_okR hA hE.T hm _ hcall id ops st _ (by simpa [codeND] using hnd) h m a w m0 h0 w0 ha hr hs) fun e a' w' hp => ⟨hp.1.mono ?_, hp.2⟩
        rintro e st' ⟨rfl, hk⟩
        exact hk
    | scope b => exact (hA.bot h).elim
    | goto l => exact (hA.bot h).elim
    | refuse why => exact (hA.bot h).elim
    | rangeFunc g ps x y => exact (hA.bot h).elim

end
end Go.Dc
