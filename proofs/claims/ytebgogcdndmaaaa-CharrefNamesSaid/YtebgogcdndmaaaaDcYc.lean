/- Regions whose order is open, last part. -/
import Derived.Test.YtebgogcdndmaaaaDcYb
set_option linter.unusedSimpArgs false
set_option linter.unusedVariables false
namespace Go.Dc

section
variable {α : Type} {A : Ans α} {E : Env α} {call : FuncId → List AV → Rows → (AV → Rows → α) → α} {hold : α → Prop} {P : Program} {ops : Array Oper}

def cnt (listed : Array Bool) : Nat := listed.toList.countP fun b => !b

theorem cnt_set {listed : Array Bool} {i : Nat} (h : listed.getD i true = false) : cnt (listed.setIfInBounds i true) + 1 = cnt listed := by
  have hlt : i < listed.size := by
    rcases Nat.lt_or_ge i listed.size with h1 | h1
    · exact h1
    · rw [Array.getD_eq_getD_getElem?, Array.getElem?_eq_none h1] at h; simp at h
  have hv : listed.toList[i]'(by simpa using hlt) = false := by
    rw [Array.getD_eq_getD_getElem?, Array.getElem?_eq_getElem hlt] at h
    simpa using h
  unfold cnt
  rw [Array.toList_setIfInBounds, List.countP_set (by simpa using hlt)]
  have hpos : 0 < listed.toList.countP fun b => !b := List.countP_pos_iff.2 ⟨false, by rw [← hv]; exact List.getElem_mem _, rfl⟩
  rw [hv]
  simp only [Bool.not_false, Bool.not_true, if_true, Bool.false_eq_true, if_false]
  omega

theorem any_intro {Q : Exit → Act → World → Prop} {fuel : Nat} {listed : Array Bool} {a : Act} {w : World} (hc : cnt listed ≤ fuel) (h0 : Region.ready .any ops listed = [] → Q .normal a w)
    (h1 : ∀ i ∈ Region.ready .any ops listed, ∀ f', fuel = f' + 1 → cnt (listed.setIfInBounds i true) ≤ f' → wpOp P ops Q i (wpAny P .any ops Q f' (listed.setIfInBounds i true)) a w) : wpAny P .any ops Q fuel listed a w := by
  cases fuel with
  | zero =>
    have : Region.ready .any ops listed = [] := by
      cases hr : Region.ready .any ops listed with
      | nil => rfl
      | cons i is =>
        have := cnt_set (ready_spec (ops := ops) (listed := listed) (i := i) (by rw [hr]; simp)).1
        omega
    exact ⟨this, h0 this⟩
  | succ f =>
    refine ⟨h0, fun i hi => h1 i hi f rfl ?_⟩
    have := cnt_set (ready_spec hi).1
    omega

theorem qeval_drop (hn : neat ops = true) {La : List Nat} (hord : OrdOK ops La) {i q : Nat} {o p : Oper} (hi : ops[i]? = some o) (hLa : i ∈ La) (hq : ops[q]? = some p) (hqn : q ∉ La) (hpa : isAssign p = false) :
    ∀ d, p.dst = some d → d ∉ o.looksAt ops ∧ o.dst ≠ some d := by
  intro d hd
  have hdeps : ∀ x ∈ deps o, x ∈ La := by
    have key : ∀ L : List Nat, OrdOK ops L → i ∈ L → ∀ x ∈ deps o, x ∈ L := by
      intro L
      induction L with
      | nil => intro _ h; simp at h
      | cons j L ih =>
        rintro ⟨⟨o', ho', hd'⟩, hL⟩ hm x hx
        rcases List.mem_cons.1 hm with rfl | hm
        · rw [hi] at ho'; cases ho'
          exact List.mem_cons_of_mem _ (hd' x hx)
        · exact List.mem_cons_of_mem _ (ih hL hm x hx)
    exact key La hord hLa
  have h := neat_look hn hq hi hd hpa
  refine ⟨fun hl => hqn (hdeps q (h.1 hl)), fun ho => hqn (hdeps q (h.2 ?_ ho))⟩
  rintro rfl
  exact hqn hLa

theorem agree_put {o : Oper} {ts : List AV} {dst : Option Tmp} {v : AV} (h : ∀ d, dst = some d → d ∉ o.looksAt ops) : Agree ops o (putT ts dst v) ts := by
  intro t ht
  have : dst ≠ some t := fun e => h t e ht
  simp only [List.getD, putT_get this]

/-- A quiet operation is run ahead: nothing runs yet in the program. -/
theorem DInv.quiet {La : List Nat} {done : List (Nat × AV)} {st : St} {listed : Array Bool} {m : Map} {a : Act} {w : World} {m0 : Map} {h0 : Rows} {w0 : World} (D : DInv E ops La done st listed m a w m0 h0 w0) (hn : neat ops = true)
    {q : Nat} {o : Oper} {v : AV} (hq : q ∈ readyL ops La) (ho : ops[q]? = some o) (hv : (qeval E ops st o).has v) : DInv E ops (q :: La) ((q, v) :: done) ⟨putT st.tmps o.dst v, st.rows⟩ listed m a w m0 h0 w0 := by
  obtain ⟨hlt, hnm, o', ho', hdep⟩ := mem_readyL.1 hq
  rw [ho] at ho'; cases ho'
  have hna := (qeval_has hv).1
  have hself : ∀ d, o.dst = some d → d ∉ o.looksAt ops := by
    intro d hd hl
    exact hnm (hdep q ((neat_look hn ho ho hd hna).1 hl))
  constructor
  · intro i hi; exact List.mem_cons_of_mem _ (D.sub i hi)
  · exact D.size
  · intro i hi
    rcases List.mem_cons.1 hi with rfl | hi
    · exact hlt
    · exact D.inb i hi
  · exact D.closed
  · exact ⟨⟨o, ho, hdep⟩, D.ord⟩
  · intro i hi hl
    rcases List.mem_cons.1 hi with rfl | hi
    · refine ⟨o, v, ho, by simp, ?_, ?_⟩
      · rw [qeval_congr (agree_put hself) st.rows]; exact hv
      · intro d hd hlt
        rw [hd]
        simp only [putT]
        rw [List.getElem?_set_self (by rwa [putT_length] at hlt)]
    · obtain ⟨p, u, hp, hdone, hqe, hdst⟩ := D.pend i hi hl
      have hdrop := qeval_drop hn D.ord hp hi ho hnm hna
      refine ⟨p, u, hp, List.mem_cons_of_mem _ hdone, ?_, ?_⟩
      · rw [qeval_congr (agree_put fun d hd => (hdrop d hd).1) st.rows]; exact hqe
      · intro d hd hlt
        simp only [] at hlt
        rw [putT_length] at hlt
        rw [putT_get (fun e => (hdrop d e).2 hd)]
        exact hdst d hd hlt
  · obtain ⟨tb, h1, h2, h3⟩ := D.rel
    refine ⟨tb, by rw [putT_length]; exact h1, ?_, h3⟩
    intro t ht
    have hlq : listed.getD q false = false := by
      cases hh : listed.getD q false with
      | true => exact absurd (D.sub q hh) hnm
      | false => rfl
    rw [putT_get (ht q o (by simp) hlq ho)]
    exact h2 t fun i p hi hl hp => ht i p (List.mem_cons_of_mem _ hi) hl hp
  · exact D.step

theorem drawGo_ok (hA : Holds A hold) (hT : TabOK P E.T) (hcall : CallOK P E.R hold call) (hn : neat ops = true) {k : St → α} {Q : Exit → Act → World → Prop} {m0 : Map} {h0 : Rows} {w0 : World}
    (hQ : ∀ m st a w, hold (k st) → Rel E.R m st a w → Step m0 h0 w0 m st.rows w → Q .normal a w) :
    ∀ n La done st, hold (drawGo A E call ops k n La done st) → ∀ fuel listed m a w, DInv E ops La done st listed m a w m0 h0 w0 → cnt listed ≤ fuel → wpAny P .any ops Q fuel listed a w := by
  intro n
  induction n with
  | zero => intro La done st h; exact (hA.bot h).elim
  | succ n ih =>
    intro La done st h
    unfold drawGo at h
    split at h
    · rename_i hrs
      intro fuel
      induction fuel with
      | zero =>
        intro listed m a w D hc
        refine any_intro hc (fun hr => hQ m st a w h (D.done_rel hr) D.step) ?_
        intro i hi f' hf; omega
      | succ fuel ihf =>
        intro listed m a w D hc
        refine any_intro hc (fun hr => hQ m st a w h (D.done_rel hr) D.step) ?_
        intro i hi f' hf hc'
        cases hf
        obtain ⟨_, _, o, ho, hdep⟩ := ready_spec hi
        by_cases hm : i ∈ La
        · exact D.pendStep hT hn hi hm fun a' D' => ihf _ m a' w D' hc'
        · have : i ∈ readyL ops La := mem_readyL.2 ⟨(Array.getElem?_eq_some_iff.1 ho).1, hm, o, ho, fun d hd => D.sub d (hdep d hd)⟩
          rw [hrs] at this; simp at this
    · rename_i i0 is hrs
      rcases tryL_ok hA h with ⟨q, hq, o, v, ho, hv, hk⟩ | hk
      · intro fuel listed m a w D hc
        rw [← hrs] at hq
        exact ih _ _ _ (by rw [putK_eq] at hk; exact hk) fuel listed m a w (D.quiet hn hq ho hv) hc
      · have hall := wAll_ok hA hk
        have hready0 : ∀ {listed m a w}, DInv E ops La done st listed m a w m0 h0 w0 → Region.ready .any ops listed ≠ [] := by
          intro listed m a w D hr
          have hi0 : i0 ∈ readyL ops La := by rw [hrs]; simp
          obtain ⟨hlt, hnm, o, ho, hdep⟩ := mem_readyL.1 hi0
          have : i0 ∈ Region.ready .any ops listed := by
            refine mem_ready.2 ⟨?_, o, ho, fun e he hb => D.noPend hr _ (hdep _ (mem_deps.2 ⟨e, he, hb, rfl⟩))⟩
            have hl : listed.getD i0 false = false := by
              cases hh : listed.getD i0 false with
              | true => exact absurd (D.sub i0 hh) hnm
              | false => rfl
            have hsz : i0 < listed.size := by rw [D.size]; exact hlt
            rw [Array.getD_eq_getD_getElem?, Array.getElem?_eq_getElem hsz] at hl ⊢
            simpa using hl
          rw [hr] at this; simp at this
        intro fuel
        induction fuel with
        | zero =>
          intro listed m a w D hc
          refine any_intro hc (fun hr => absurd hr (hready0 D)) ?_
          intro i hi f' hf; omega
        | succ fuel ihf =>
          intro listed m a w D hc
          refine any_intro hc (fun hr => absurd hr (hready0 D)) ?_
          intro i hi f' hf hc'
          cases hf
          obtain ⟨hl1, hl, o, ho, hdep⟩ := ready_spec hi
          by_cases hm : i ∈ La
          · exact D.pendStep hT hn hi hm fun a' D' => ihf _ m a' w D' hc'
          · have hi2 : i ∈ readyL ops La := mem_readyL.2 ⟨(Array.getElem?_eq_some_iff.1 ho).1, hm, o, ho, fun d hd => D.sub d (hdep d hd)⟩
            have hw := hall i (by rw [← hrs]; exact hi2)
            rw [ho] at hw
            simp only [] at hw
            obtain ⟨tb, hlen, htb, hrel⟩ := D.rel
            have hag := D.agree hn ho hdep htb
            rw [← guardW_congr hag st.rows] at hw
            refine guardW_ok hA hT hcall hw hrel D.step _ Q ?_ ho
            intro m' v rows a' w' hk' hrel' hs'
            have hk' := (show hold _ by rw [putK_eq] at hk'; exact hk')
            obtain ⟨hgo, hre⟩ := recheck_ok hA hk'
            refine ih _ _ _ hgo _ _ m' a' w' ?_ hc'
            have hsz : i < listed.size := by rw [D.size]; exact (Array.getElem?_eq_some_iff.1 ho).1
            have nodst : ∀ j p, j ∈ La → listed.getD j false = false → ops[j]? = some p → ∀ d, p.dst = some d → o.dst ≠ some d := by
              intro j p hj hlj hp d hd hod
              obtain ⟨p', u, hp', _, hqe, _⟩ := D.pend j hj hlj
              rw [hp] at hp'; cases hp'
              have hne : j ≠ i := fun e => hm (e ▸ hj)
              have := hdep j ((neat_look hn hp ho hd (qeval_has hqe).1).2 hne hod)
              rw [hlj] at this; exact absurd this (by simp)
            constructor
            · intro j hj
              rw [getD_set hsz] at hj
              by_cases e : j = i
              · subst e; simp
              · rw [if_neg e] at hj; exact List.mem_cons_of_mem _ (D.sub j hj)
            · simp [D.size]
            · intro j hj
              rcases List.mem_cons.1 hj with rfl | hj
              · exact (Array.getElem?_eq_some_iff.1 ho).1
              · exact D.inb j hj
            · intro j p hj hp d hd
              rw [getD_set hsz] at hj ⊢
              by_cases e : d = i
              · rw [if_pos e]
              · rw [if_neg e]
                by_cases e2 : j = i
                · subst e2
                  rw [ho] at hp; cases hp
                  exact hdep d hd
                · rw [if_neg e2] at hj
                  exact D.closed j p hj hp d hd
            · exact ⟨⟨o, ho, fun d hd => D.sub d (hdep d hd)⟩, D.ord⟩
            · intro j hj hlj
              rw [getD_set hsz] at hlj
              by_cases e : j = i
              · rw [if_pos e] at hlj; exact absurd hlj (by simp)
              · rw [if_neg e] at hlj
                have hj : j ∈ La := by
                  rcases List.mem_cons.1 hj with e2 | hj
                  · exact absurd e2 e
                  · exact hj
                obtain ⟨p, u, hp, hdone, hqe, hdst⟩ := D.pend j hj hlj
                obtain ⟨p', hp', hcase⟩ := hre j u hdone
                rw [hp] at hp'; cases hp'
                refine ⟨p, u, hp, hdone, ?_, ?_⟩
                · rcases hcase with h1 | ⟨h1, h2⟩ | h1
                  · have := ahead_mem D.closed ops.size j i (fun o' ho' => by rw [ho] at ho'; cases ho'; exact hdep) h1
                    rw [hlj] at this; exact absurd this (by simp)
                  · rw [qeval_mem h1 rows st.rows, qeval_congr (agree_put h2) st.rows]
                    exact hqe
                  · exact h1
                · intro d hd hlt
                  simp only [] at hlt
                  rw [putT_length] at hlt
                  rw [putT_get (nodst j p hj hlj hp d hd)]
                  exact hdst d hd hlt
            · refine ⟨putT tb o.dst v, by rw [putT_length, putT_length, hlen], ?_, hrel'⟩
              intro t ht
              by_cases e : o.dst = some t
              · rw [e]
                simp only [putT]
                rcases Nat.lt_or_ge t st.tmps.length with h1 | h1
                · rw [List.getElem?_set_self (by rw [hlen]; exact h1), List.getElem?_set_self h1]
                · rw [List.getElem?_eq_none (by simp [hlen]; exact h1), List.getElem?_eq_none (by simpa using h1)]
              · rw [putT_get e, putT_get e]
                refine htb t fun j p hj hlj hp => ht j p (List.mem_cons_of_mem _ hj) ?_ hp
                rw [getD_set hsz, if_neg (fun e2 => hm (by rw [← e2]; exact hj))]
                exact hlj
            · exact hs'

theorem drawAll_ok (hA : Holds A hold) (hT : TabOK P E.T) (hm : P.follows .mixedOrders = true) : DrawOK P E hold (drawAll A E) := by
  intro call hcall id ops st k h m a w m0 h0 w0 hr hs
  unfold drawAll at h
  cases hn : neat ops with
  | false => rw [hn] at h; exact (hA.bot h).elim
  | true =>
    rw [hn] at h
    simp only [cond_true] at h
    refine wp_region_any hm ?_
    refine drawGo_ok (m0 := m0) (h0 := h0) (w0 := w0) (Q := Post E.R (fun e st' => e = .normal ∧ hold (k st')) m0 h0 w0) hA hT hcall hn ?_ _ _ _ _ h _ _ m _ _ ?_ ?_
    · intro m' st' a' w' hk hr' hs'
      exact ⟨m', st', trivial, ⟨rfl, hk⟩, hr', hs'⟩
    · have hW : WR E.R m st.rows { w with drawn := w.drawn + 1 } := hr.wr.same rfl
      constructor
      · intro i hi
        rw [Array.getD_eq_getD_getElem?] at hi
        rcases Nat.lt_or_ge i ops.size with h1 | h1
        · rw [Array.getElem?_eq_getElem (by simpa using h1)] at hi; simp at hi
        · rw [Array.getElem?_eq_none (by simpa using h1)] at hi; simp at hi
      · simp
      · intro i hi; simp at hi
      · intro i o hi
        rw [Array.getD_eq_getD_getElem?] at hi
        rcases Nat.lt_or_ge i ops.size with h1 | h1
        · rw [Array.getElem?_eq_getElem (by simpa using h1)] at hi; simp at hi
        · rw [Array.getElem?_eq_none (by simpa using h1)] at hi; simp at hi
      · trivial
      · intro i hi; simp at hi
      · exact ⟨st.tmps, rfl, fun _ _ => rfl, hr.size, hr.tmps, hr.defers, hW⟩
      · exact ⟨hs.os, hs.tape, hs.output, hs.size, hs.block, hs.len, hs.mu, hs.ro, hs.new⟩
    · unfold cnt
      refine Nat.le_trans List.countP_le_length ?_
      simp

end

end Go.Dc
