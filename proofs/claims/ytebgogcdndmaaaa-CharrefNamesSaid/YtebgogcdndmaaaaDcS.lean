/- Runs seen from inside: calls, code, loops. -/
import Derived.Test.YtebgogcdndmaaaaDcR
set_option linter.unusedSimpArgs false
set_option linter.unusedVariables false
namespace Go.Dc

/-- The outer state behind a run inside. -/
def St.out (f : Nat → Option Nat) (nk nL : Nat) (h : Rows) (st' : St) : St := ⟨renL (ext f nk h.length) st'.tmps, merged f nk nL h st'.rows⟩

theorem renL_get (g : Nat → Nat) (l : List AV) (i : Nat) : (renL g l)[i]? = (l[i]?).map (ren g) := by
  rw [renL_eq]; simp

theorem Rel.outK {R : Nat → RoRow} {f : Nat → Option Nat} {nk : Nat} {stL st st' : St} {m m' : Map} {a' : Act} {w w' : World} (hV : View f stL.rows st.rows) (hW : WR R m st.rows w) (hr' : Rel R m' st' a' w')
    (hs : StepK nk (m.view f stL.rows.es) stL.rows w m' st'.rows w') : ∃ m'', Rel R m'' (st'.out f nk stL.rows.length st.rows) a' w' ∧ Step m st.rows w m'' (st'.out f nk stL.rows.length st.rows).rows w' := by
  obtain ⟨m'', hg, hro, hW, hS⟩ := merge_ok hV hW hr'.wr hs
  refine ⟨m'', ⟨?_, ?_, hr'.defers, hW⟩, hS⟩
  · simp only [St.out, renL_eq, List.length_map]; exact hr'.size
  · intro i x hx
    simp only [St.out, renL_get] at hx
    obtain ⟨y, hy, rfl⟩ := Option.map_eq_some_iff.1 hx
    obtain ⟨v, hv, hd⟩ := hr'.tmps i y hy
    exact ⟨v, hv, ren_den hg hro y v hd⟩

theorem Safe.focus {P : Program} {R : Nat → RoRow} {c : Code} {f : Nat → Option Nat} {stL st : St} {Q : Exit → St → Prop} (hV : StV f stL st) (hs : Safe P R c stL Q) :
    Safe P R c st fun e st'' => ∃ st', Q e st' ∧ st'' = st'.out f stL.rows.length stL.rows.length st.rows := by
  intro m a w m0 h0 w0 hr hstep
  refine wp_mono (hs _ a w _ _ w (hr.view hV) (Step.refl _ _ _)) ?_
  rintro e a' w' ⟨m', st', hok, hq, hr', hs'⟩
  obtain ⟨m'', hR, hS⟩ := Rel.outK hV.rows hr.wr hr' hs'.toK
  exact ⟨m'', _, hok, ⟨st', hq, rfl⟩, hR, hstep.trans hS⟩

theorem SafeCall.focus {P : Program} {R : Nat → RoRow} {fn : FuncId} {f : Nat → Option Nat} {argsL args : List AV} {hL h : Rows} {Q : AV → Rows → Prop} (hV : View f hL h) (hA : VwL f hL.length argsL args) (hs : SafeCall P R fn argsL hL Q) :
    SafeCall P R fn args h fun v'' h'' => ∃ v' h', Q v' h' ∧ v'' = ren (ext f hL.length h.length) v' ∧ h'' = merged f hL.length hL.length h h' := by
  intro m w m0 h0 w0 as has hW hstep
  refine (hs _ w _ _ w as (hA.den _ _ _ has) (hW.view hV) (Step.refl _ _ _)).mono ?_
  rintro e w' ⟨c, v, m', h', rfl, hq, hd, hW', hs'⟩
  obtain ⟨m'', hg, hro, hW2, hS⟩ := merge_ok hV hW hW' hs'.toK
  exact ⟨c, _, m'', _, rfl, ⟨v, h', hq, rfl, rfl⟩, ren_den hg hro v c hd, hW2, hstep.trans hS⟩

/-- What lies behind a run is told with fewer rows: the first 'n' keep their numbers. -/
def Fit (n : Nat) (stE st : St) : Prop := ∃ f, StV f stE st ∧ (∀ c, c < n → f c = some c) ∧ n ≤ stE.rows.length

theorem Safe.fit {P : Program} {R : Nat → RoRow} {c : Code} {st : St} {Q Q' : Exit → St → Prop} (hs : Safe P R c st Q) (hq : ∀ e st', Q e st' → ∃ stE, Fit st.rows.length stE st' ∧ Q' e stE) : Safe P R c st Q' := by
  intro m a w m0 h0 w0 hr hstep
  refine wp_mono (hs m a w m0 h0 w0 hr hstep) ?_
  rintro e a' w' ⟨m', st', hok, hq1, hr', hs'⟩
  obtain ⟨stE, ⟨f, hV, hf, hl⟩, hq2⟩ := hq e st' hq1
  exact ⟨_, stE, hok, hq2, hr'.view hV, hs'.forget hV.rows (fun c hc => hf c (Nat.lt_of_lt_of_le hc hstep.len)) (Nat.le_trans hstep.len hl)⟩

def FitV (n : Nat) (vE : AV) (hE : Rows) (v : AV) (h : Rows) : Prop := ∃ f, View f hE h ∧ Vw f hE.length vE v ∧ (∀ c, c < n → f c = some c) ∧ n ≤ hE.length

theorem SafeCall.fit {P : Program} {R : Nat → RoRow} {fn : FuncId} {args : List AV} {h : Rows} {Q Q' : AV → Rows → Prop} (hs : SafeCall P R fn args h Q) (hq : ∀ v h', Q v h' → ∃ vE hE, FitV h.length vE hE v h' ∧ Q' vE hE) : SafeCall P R fn args h Q' := by
  intro m w m0 h0 w0 as has hW hstep
  refine (hs m w m0 h0 w0 as has hW hstep).mono ?_
  rintro e w' ⟨c, v, m', h', rfl, hq1, hd, hW', hs'⟩
  obtain ⟨vE, hE, ⟨f, hV, hv, hf, hl⟩, hq2⟩ := hq v h' hq1
  exact ⟨c, vE, _, hE, rfl, hq2, hv.den _ _ _ hd, hW'.view hV, hs'.forget hV (fun c hc => hf c (Nat.lt_of_lt_of_le hc hstep.len)) (Nat.le_trans hstep.len hl)⟩

theorem SafeCall.mono {P : Program} {R : Nat → RoRow} {fn : FuncId} {args : List AV} {h : Rows} {Q Q' : AV → Rows → Prop} (hs : SafeCall P R fn args h Q) (hq : ∀ v h', Q v h' → Q' v h') : SafeCall P R fn args h Q' := by
  intro m w m0 h0 w0 as has hW hstep
  refine (hs m w m0 h0 w0 as has hW hstep).mono ?_
  rintro e w' ⟨c, v, m', h', rfl, hq1, hd, hW', hs'⟩
  exact ⟨c, v, m', h', rfl, hq _ _ hq1, hd, hW', hs'⟩

/-- Run inside; what lies behind is told with fewer rows, of which the first 'nk' are those of before. -/
theorem Safe.focusFit {P : Program} {R : Nat → RoRow} {c : Code} {f : Nat → Option Nat} {stL st : St} {nk : Nat} {Q : Exit → St → Prop} (hV : StV f stL st) (hk : nk ≤ stL.rows.length)
    (hs : Safe P R c stL fun e st' => ∃ stE, Fit nk stE st' ∧ Q e stE) :
    Safe P R c st fun e st'' => ∃ stE, Q e stE ∧ st'' = stE.out f nk stL.rows.length st.rows := by
  intro m a w m0 h0 w0 hr hstep
  refine wp_mono (hs _ a w _ _ w (hr.view hV) (Step.refl _ _ _)) ?_
  rintro e a' w' ⟨m', st', hok, ⟨stE, ⟨g, hg, hgf, hgl⟩, hq⟩, hr', hs'⟩
  obtain ⟨m'', hR, hS⟩ := Rel.outK hV.rows hr.wr (hr'.view hg) (hs'.fitK hg.rows hgf hk hgl)
  exact ⟨m'', _, hok, ⟨stE, hq, rfl⟩, hR, hstep.trans hS⟩

theorem StV.out {f : Nat → Option Nat} {stL st stE st' : St} (hV : View f stL.rows st.rows) {g : Nat → Option Nat} (hE : StV g stE st') : StV (fun c => (g c).map (ext f stL.rows.length st.rows.length)) stE (st'.out f stL.rows.length stL.rows.length st.rows) := by
  refine ⟨⟨?_, ?_, ?_⟩, ?_⟩
  · intro c b hc hb
    obtain ⟨d, hd, rfl⟩ := Option.map_eq_some_iff.1 hb
    show _ < (merged _ _ _ _ _).length
    rw [merged_length]
    exact hV.ext_lt (Nat.le_refl _) (hE.rows.lt c d hc hd)
  · intro c c' b hc hc' hb hb'
    obtain ⟨d, hd, rfl⟩ := Option.map_eq_some_iff.1 hb
    obtain ⟨d', hd', he⟩ := Option.map_eq_some_iff.1 hb'
    have := hV.ext_inj (Nat.le_refl _) he
    subst this
    exact hE.rows.inj c c' _ hc hc' hd hd'
  · intro c r hc
    rcases hE.rows.row c r hc with ⟨b, r', h1, h2, h3⟩ | ⟨h1, h2⟩
    · refine .inl ⟨_, _, by rw [h1]; rfl, merged_in hV (Nat.le_refl _) h2, ?_⟩
      refine ⟨by rw [renRow_ty]; exact h3.ty, by rw [renRow_esz]; exact h3.esz, by rw [renRow_len]; exact h3.len, ?_⟩
      intro i e he
      obtain ⟨hone, e', he', hvw⟩ := h3.get i e he
      exact ⟨hone, _, by rw [renRow_get, he']; rfl, Vw.ren _ _ hvw⟩
    · exact .inr ⟨by rw [h1]; rfl, h2⟩
  · exact VwL.ren _ _ hE.tmps

mutual
theorem Den.vw {m : Map} {n : Nat} : ∀ (x : AV) (v : Value), Den m n x v → Vw some n x x
  | .any, _, _ => by simp [Vw]
  | .bool b, _, _ => by simp [Vw]
  | .int k x, _, _ => by simp [Vw]
  | .str l, _, _ => by simp [Vw]
  | .ptr true b i o, _, _ => by simp [Vw]
  | .ptr false b i o, v, h => by
    simp only [Den] at h
    simp only [Vw]
    exact ⟨h.1 trivial, b, rfl, rfl⟩
  | .nilp, _, _ => by simp [Vw]
  | .sl true b i l u, _, _ => by simp [Vw]
  | .sl false b i l u, v, h => by
    simp only [Den] at h
    simp only [Vw]
    exact ⟨h.1 trivial, .inl ⟨b, u, rfl, rfl, id⟩⟩
  | .nils, _, _ => by simp [Vw]
  | .fn g a c, v, h => by
    simp only [Den] at h
    obtain ⟨us, vs, _, h1, h2⟩ := h
    simp only [Vw]
    exact ⟨a, c, rfl, DenL.vw a _ h1, DenL.vw c _ h2⟩
  | .nilf, _, _ => by simp [Vw]
  | .ifc t x, v, h => by
    simp only [Den] at h
    obtain ⟨u, _, h1⟩ := h
    simp only [Vw]
    exact ⟨x, rfl, Den.vw x _ h1⟩
  | .nili, _, _ => by simp [Vw]
  | .agg cs, v, h => by
    simp only [Den] at h
    obtain ⟨u, _, h1⟩ := h
    simp only [Vw]
    exact ⟨cs, rfl, DenL.vw cs _ h1⟩
  | .tup cs, v, h => by
    simp only [Den] at h
    obtain ⟨u, _, h1⟩ := h
    simp only [Vw]
    exact ⟨cs, rfl, DenL.vw cs _ h1⟩
theorem DenL.vw {m : Map} {n : Nat} : ∀ (x : List AV) (v : List Value), DenL m n x v → VwL some n x x
  | [], _, _ => by simp [VwL]
  | x :: xs, v, h => by
    simp only [DenL] at h
    obtain ⟨u, us, _, h1, h2⟩ := h
    simp only [VwL]
    exact ⟨x, xs, rfl, Den.vw x _ h1, DenL.vw xs _ h2⟩
end

theorem VwL.of {f : Nat → Option Nat} {n : Nat} : ∀ {x : List AV}, (∀ (i : Nat) (a : AV), x[i]? = some a → Vw f n a a) → VwL f n x x
  | [], _ => by simp [VwL]
  | x :: xs, h => by
    simp only [VwL]
    exact ⟨x, xs, rfl, h 0 x (by simp), VwL.of fun i a hi => h (i + 1) a (by simpa using hi)⟩

theorem WR.idView {R : Nat → RoRow} {m : Map} {h : Rows} {w : World} (hW : WR R m h w) : View some h h where
  lt := fun c b hc hb => by simp at hb; omega
  inj := fun c c' b _ _ h1 h2 => by simp at h1 h2; omega
  row := fun c r hc => by
    refine .inl ⟨c, r, rfl, hc, rfl, rfl, rfl, ?_⟩
    obtain ⟨h1, h2, h3⟩ := hW.row c r hc
    intro i e he
    split at h3
    · exfalso
      have h0 := h3.1
      cases r with
      | lst t s l => simp [Row.len] at h0; subst h0; simp [Row.get?] at he
      | gen t s n a =>
        simp [Row.len] at h0; subst h0
        simp only [Row.get?] at he
        have : Nat.blt i 0 = false := by rw [Bool.eq_false_iff]; intro e; exact absurd (blt_of e) (Nat.not_lt_zero _)
        rw [this] at he; simp at he
      | byt t l => simp [Row.len] at h0; subst h0; simp [Row.get?] at he
    · obtain ⟨cc, fz, _, _, _, hel⟩ := h3
      obtain ⟨_, hcell⟩ := hel i e he
      have hone : ∀ a ∈ e.cells, a.one = true := by
        intro a ha
        obtain ⟨o, ho⟩ := List.getElem?_of_mem ha
        exact (hcell o a ho).1
      refine ⟨hone, e, he, ?_⟩
      have hv : ∀ (o : Nat) (a : AV), e.cells[o]? = some a → Vw some h.length a a := by
        intro o a ha
        obtain ⟨_, v, _, hd⟩ := hcell o a ha
        exact Den.vw a v hd
      cases e with
      | agg cs => simp only [Vw]; exact ⟨cs, rfl, VwL.of hv⟩
      | _ => exact hv 0 _ rfl

theorem Rel.idView {R : Nat → RoRow} {m : Map} {st : St} {a : Act} {w : World} (h : Rel R m st a w) : StV some st st := by
  refine ⟨h.wr.idView, VwL.of ?_⟩
  intro i x hx
  obtain ⟨c, _, hd⟩ := h.tmps i x hx
  exact Den.vw x c hd

/-- A loop, round by round. 'fam': the states at the head of a round, told with few rows; of these the first 'nk' are the same rows in each round. -/
theorem loop_rule {P : Program} {R : Nat → RoRow} {body : Code} {I : Type} (fam : I → St) (mu : I → Nat) (nk : Nat) (X : Exit → St → Prop)
    (hnk : ∀ i, nk ≤ (fam i).rows.length)
    (hround : ∀ i, Safe P R body (fam i) fun e st' => match e with
      | .normal => ∃ i', mu i' < mu i ∧ Fit nk (fam i') st'
      | e => ∃ stE, Fit nk stE st' ∧ X e stE) :
    ∀ i, Safe P R (.loop body) (fam i) fun e st' => ∃ stE, Fit nk stE st' ∧ X e stE := by
  intro i0 m0' a0 w0' m0 h0 w0 hr0 hs0
  have key : ∀ n i, mu i < n → ∀ f st m a w, StV f (fam i) st → (∀ c, c < nk → f c = some c) → Rel R m st a w → Step m0 h0 w0 m st.rows w →
      Code.rounds P body (Post R (fun e st' => ∃ stE, Fit nk stE st' ∧ X e stE) m0 h0 w0) n a w := by
    intro n
    induction n with
    | zero => intro i hi; omega
    | succ n ih =>
      intro i hi f st m a w hV hf hr hs
      rw [rounds_succ]
      refine wp_mono ((hround i).focus hV m a w m0 h0 w0 hr hs) ?_
      rintro e a' w' ⟨m', st', hok, ⟨st2, hq, rfl⟩, hr', hs'⟩
      have hfix : ∀ {stE}, Fit nk stE st2 → ∃ g, StV g stE (st2.out f (fam i).rows.length (fam i).rows.length st.rows) ∧ (∀ c, c < nk → g c = some c) ∧ nk ≤ stE.rows.length := by
        rintro stE ⟨g, hg, hgf, hgl⟩
        refine ⟨_, hg.out hV.rows, ?_, hgl⟩
        intro c hc
        simp only [hgf c hc, Option.map_some]
        exact congrArg some (ext_some (Nat.lt_of_lt_of_le hc (hnk i)) (hf c hc))
      cases e with
      | normal =>
        obtain ⟨i', h1, hfit⟩ := hq
        obtain ⟨g, hg, hgf, _⟩ := hfix hfit
        exact ih i' (by omega) _ _ m' a' w' hg hgf hr' hs'
      | exit id =>
        obtain ⟨stE, hfit, hx⟩ := hq
        exact ⟨m', _, trivial, ⟨stE, hfix hfit, hx⟩, hr', hs'⟩
      | ret =>
        obtain ⟨stE, hfit, hx⟩ := hq
        exact ⟨m', _, trivial, ⟨stE, hfix hfit, hx⟩, hr', hs'⟩
      | _ => exact hok.elim
  exact wp_loop_rounds _ (key (mu i0 + 1) i0 (Nat.lt_succ_self _) some _ m0' a0 w0' hr0.idView (fun _ _ => rfl) hr0 hs0)

end Go.Dc
