/- A value in quotes: a call of Next, the loop. -/
import Derived.Test.YtghhcilbjdgonaaQuoFa
import Derived.Test.YtghhcilbjdgonaaQuoFb
import Derived.Test.YtghhcilbjdgonaaQuoFu
set_option linter.unusedVariables false
set_option linter.unusedSimpArgs false
namespace Go.Dc.Kl
open Go.Proofs Go.RowKit
set_option maxRecDepth 100000
theorem Loops.mono {P : Program} {c : Code} {Q Q' : Exit → Act → World → Prop} {a : Act} {w : World} (h : Loops P c Q a w) (hq : ∀ e a w, Q e a w → Q' e a w) : Loops P c Q' a w := by
  intro b k cs
  obtain ⟨e, a', w', h1, h2⟩ := h b k cs
  exact ⟨e, a', w', hq _ _ _ h1, h2⟩
theorem SafeL.mono {P : Program} {R : Nat → RoRow} {nk : Nat} {c : Code} {st : St} {Q Q' : Exit → St → Prop} (h : SafeL P R nk c st Q) (hq : ∀ e st, Q e st → Q' e st) : SafeL P R nk c st Q' :=
  fun m a w m0 h0 w0 hn hr hs => Loops.mono (h m a w m0 h0 w0 hn hr hs) fun _ _ _ hp => hp.mono hq

theorem starta {T : List AV} {u v : List UInt8} (h0 : nthV T 0 = .ptr false 0 0 0) (h2 : nthV T 2 = .ptr false 2 0 0) (h3 : nthV T 3 = .bool false) (hl : T.length = 43) : Fit 3 ⟨tm12, n0Q 34 u⟩ ⟨T, n0Q 34 u⟩ := by
  refine ⟨some, ⟨View.of ?_ (fun c c' b _ _ e1 e2 => by cases e1; cases e2; rfl), ?_⟩, fun _ _ => rfl, Nat.le_refl _⟩
  · intro c o ho
    have hc : c < 3 := (List.getElem?_eq_some_iff.1 ho).1
    show ViewL some 3 _ c o
    rcases (by omega : c = 0 ∨ c = 1 ∨ c = 2) with rfl | rfl | rfl
    · cases ho
      refine ViewL.at_ (b := 0) rfl rfl (.lst1 rfl (.aggI ?_))
      iterate 25 refine VwL.cons (by first | exact Vw.slI (by decide) rfl | exact Vw.gndI rfl) ?_
      exact VwL.nil
    · cases ho
      exact ViewL.at_ (b := 1) rfl rfl (.gen rfl fun i hi => ⟨ones_FQ 34 u i, gnd_vw _ _ _ (gnd_FQ 34 u i)⟩)
    · cases ho
      exact ViewL.at_ (b := 2) rfl rfl (.gnd rfl rfl)
  · show VwL some 3 tm12 T
    rw [tm12_spr]
    refine VwL.ofKnown hl ⟨?_, ?_, ?_, trivial⟩
    · rw [h0]; exact Vw.ptrI (by decide) rfl
    · rw [h2]; exact Vw.ptrI (by decide) rfl
    · rw [h3]; exact Vw.boolI
structure N0a (u v : List UInt8) (h : Rows) : Prop where
  hh : h = n0Q 34 u
def spec12a (u v : List UInt8) : LoopSp := fun st k => (nthV st.tmps 0 = .ptr false 0 0 0 ∧ nthV st.tmps 2 = .ptr false 2 0 0 ∧ nthV st.tmps 3 = .bool false ∧ st.tmps.length = 43 ∧ N0a u v st.rows) ∧ k .normal ⟨tm12, qfQ 34 u v (v.length + 1)⟩
theorem spec12a_ok (R : Nat → RoRow) (u v : List UInt8) (hu : u = v ++ [34, 62]) (hv : v.length ≤ 4000) (hok : ∀ i, i < v.length → OkC (byteI u i)) : ∀ st k, spec12a u v st k → Safe Try.prog R (.block 0 (.loop lp12)) st k := by
  rintro ⟨T0, H0⟩ k ⟨⟨h0, h2, h3, hl, ⟨hh⟩⟩, hk⟩
  have hh : H0 = n0Q 34 u := hh
  subst hh
  refine Safe.fit (Q := fun e st' => ∃ stE, Fit 3 stE st' ∧ k e stE) (SafeL.block (SafeL.fit (starta (u := u) (v := v) h0 h2 h3 hl) (SafeL.mono (nexta R u v hu hv hok) ?_))) (fun e st' h => h)
  rintro e st' ⟨rfl, hF⟩
  exact ⟨_, hF, hk⟩

theorem startb {T : List AV} {u v : List UInt8} (h0 : nthV T 0 = .ptr false 0 0 0) (h2 : nthV T 2 = .ptr false 2 0 0) (h3 : nthV T 3 = .bool false) (hl : T.length = 43) : Fit 3 ⟨tm12, n0Q 39 u⟩ ⟨T, n0Q 39 u⟩ := by
  refine ⟨some, ⟨View.of ?_ (fun c c' b _ _ e1 e2 => by cases e1; cases e2; rfl), ?_⟩, fun _ _ => rfl, Nat.le_refl _⟩
  · intro c o ho
    have hc : c < 3 := (List.getElem?_eq_some_iff.1 ho).1
    show ViewL some 3 _ c o
    rcases (by omega : c = 0 ∨ c = 1 ∨ c = 2) with rfl | rfl | rfl
    · cases ho
      refine ViewL.at_ (b := 0) rfl rfl (.lst1 rfl (.aggI ?_))
      iterate 25 refine VwL.cons (by first | exact Vw.slI (by decide) rfl | exact Vw.gndI rfl) ?_
      exact VwL.nil
    · cases ho
      exact ViewL.at_ (b := 1) rfl rfl (.gen rfl fun i hi => ⟨ones_FQ 39 u i, gnd_vw _ _ _ (gnd_FQ 39 u i)⟩)
    · cases ho
      exact ViewL.at_ (b := 2) rfl rfl (.gnd rfl rfl)
  · show VwL some 3 tm12 T
    rw [tm12_spr]
    refine VwL.ofKnown hl ⟨?_, ?_, ?_, trivial⟩
    · rw [h0]; exact Vw.ptrI (by decide) rfl
    · rw [h2]; exact Vw.ptrI (by decide) rfl
    · rw [h3]; exact Vw.boolI
structure N0b (u v : List UInt8) (h : Rows) : Prop where
  hh : h = n0Q 39 u
def spec12b (u v : List UInt8) : LoopSp := fun st k => (nthV st.tmps 0 = .ptr false 0 0 0 ∧ nthV st.tmps 2 = .ptr false 2 0 0 ∧ nthV st.tmps 3 = .bool false ∧ st.tmps.length = 43 ∧ N0b u v st.rows) ∧ k .normal ⟨tm12, qfQ 39 u v (v.length + 1)⟩
theorem spec12b_ok (R : Nat → RoRow) (u v : List UInt8) (hu : u = v ++ [39, 62]) (hv : v.length ≤ 4000) (hok : ∀ i, i < v.length → OkC (byteI u i)) : ∀ st k, spec12b u v st k → Safe Try.prog R (.block 0 (.loop lp12)) st k := by
  rintro ⟨T0, H0⟩ k ⟨⟨h0, h2, h3, hl, ⟨hh⟩⟩, hk⟩
  have hh : H0 = n0Q 39 u := hh
  subst hh
  refine Safe.fit (Q := fun e st' => ∃ stE, Fit 3 stE st' ∧ k e stE) (SafeL.block (SafeL.fit (startb (u := u) (v := v) h0 h2 h3 hl) (SafeL.mono (nextb R u v hu hv hok) ?_))) (fun e st' h => h)
  rintro e st' ⟨rfl, hF⟩
  exact ⟨_, hF, hk⟩

theorem startu {T : List AV} {u v : List UInt8} (h0 : nthV T 0 = .ptr false 0 0 0) (h2 : nthV T 2 = .ptr false 2 0 0) (h3 : nthV T 3 = .bool false) (hl : T.length = 43) : Fit 3 ⟨tm12, n0U u⟩ ⟨T, n0U u⟩ := by
  refine ⟨some, ⟨View.of ?_ (fun c c' b _ _ e1 e2 => by cases e1; cases e2; rfl), ?_⟩, fun _ _ => rfl, Nat.le_refl _⟩
  · intro c o ho
    have hc : c < 3 := (List.getElem?_eq_some_iff.1 ho).1
    show ViewL some 3 _ c o
    rcases (by omega : c = 0 ∨ c = 1 ∨ c = 2) with rfl | rfl | rfl
    · cases ho
      refine ViewL.at_ (b := 0) rfl rfl (.lst1 rfl (.aggI ?_))
      iterate 25 refine VwL.cons (by first | exact Vw.slI (by decide) rfl | exact Vw.gndI rfl) ?_
      exact VwL.nil
    · cases ho
      exact ViewL.at_ (b := 1) rfl rfl (.gen rfl fun i hi => ⟨ones_FU u i, gnd_vw _ _ _ (gnd_FU u i)⟩)
    · cases ho
      exact ViewL.at_ (b := 2) rfl rfl (.gnd rfl rfl)
  · show VwL some 3 tm12 T
    rw [tm12_spr]
    refine VwL.ofKnown hl ⟨?_, ?_, ?_, trivial⟩
    · rw [h0]; exact Vw.ptrI (by decide) rfl
    · rw [h2]; exact Vw.ptrI (by decide) rfl
    · rw [h3]; exact Vw.boolI
structure N0u (u v : List UInt8) (h : Rows) : Prop where
  hh : h = n0U u
def spec12u (u v : List UInt8) : LoopSp := fun st k => (nthV st.tmps 0 = .ptr false 0 0 0 ∧ nthV st.tmps 2 = .ptr false 2 0 0 ∧ nthV st.tmps 3 = .bool false ∧ st.tmps.length = 43 ∧ N0u u v st.rows) ∧ k .normal ⟨tm12, qfU u v v.length⟩
theorem spec12u_ok (R : Nat → RoRow) (u v : List UInt8) (hu : u = v ++ [62]) (hv : v.length ≤ 4000) (hv0 : 0 < v.length) (hok : ∀ i, i < v.length → OkC (byteI u i)) : ∀ st k, spec12u u v st k → Safe Try.prog R (.block 0 (.loop lp12)) st k := by
  rintro ⟨T0, H0⟩ k ⟨⟨h0, h2, h3, hl, ⟨hh⟩⟩, hk⟩
  have hh : H0 = n0U u := hh
  subst hh
  refine Safe.fit (Q := fun e st' => ∃ stE, Fit 3 stE st' ∧ k e stE) (SafeL.block (SafeL.fit (startu (u := u) (v := v) h0 h2 h3 hl) (SafeL.mono (nextU R u v hu hv hv0 hok) ?_))) (fun e st' h => h)
  rintro e st' ⟨rfl, hF⟩
  exact ⟨_, hF, hk⟩
noncomputable abbrev env12Qa (R : Nat → RoRow) (u v : List UInt8) : Env Prop := (base R).addLoop 12 0 (spec12a u v)
noncomputable abbrev env12Qb (R : Nat → RoRow) (u v : List UInt8) : Env Prop := (base R).addLoop 12 0 (spec12b u v)
noncomputable abbrev env12Qu (R : Nat → RoRow) (u v : List UInt8) : Env Prop := (base R).addLoop 12 0 (spec12u u v)
def m0Q (q : Int) (u : List UInt8) : Rows := [lexR (.sl false 1 0 (u.length + 6) .no) true (u.length + 6 : Nat) .nils 0 [], some (.gen 29 2 (u.length + 6) (FQ q u))]
def m0U (u : List UInt8) : Rows := [lexR (.sl false 1 0 (u.length + 5) .no) true (u.length + 5 : Nat) .nils 0 [], some (.gen 29 2 (u.length + 5) (FU u))]
end Go.Dc.Kl
