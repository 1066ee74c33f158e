/- Environments: functions told by what they answer, loops told by their rounds. -/
import Derived.Test.YtebgogcdndmaaaaDcT
set_option linter.unusedSimpArgs false
set_option linter.unusedVariables false
namespace Go.Dc

def lookF : List (Nat × FI) → FuncId → Option FI
  | [], _ => none
  | p :: l, f => bif Nat.beq p.1 f then some p.2 else lookF l f

theorem lookF_ok {P : Program} : ∀ {l : List (Nat × FI)}, (∀ p ∈ l, FnOK P p.1 p.2) → ∀ f fi, lookF l f = some fi → FnOK P f fi
  | [], _, f, fi, h => by simp [lookF] at h
  | p :: l, hl, f, fi, h => by
    simp only [lookF] at h
    cases hb : Nat.beq p.1 f with
    | true =>
      rw [hb] at h
      simp only [cond_true, Option.some.injEq] at h
      have := Nat.eq_of_beq_eq_true hb
      subst this; subst h
      exact hl p (by simp)
    | false =>
      rw [hb] at h
      exact lookF_ok (fun q hq => hl q (by simp [hq])) f fi h

abbrev CallSpec := List AV → Rows → (AV → Rows → Prop) → Prop
abbrev LoopSp := St → (Exit → St → Prop) → Prop

def Env.base (T : TypeId → Option TI) (F : FuncId → Option FI) (R : Nat → RoRow) : Env Prop := ⟨T, R, F, fun _ => none, fun _ _ => none⟩

theorem EnvOK.base {P : Program} {T : TypeId → Option TI} {F : FuncId → Option FI} {R : Nat → RoRow} (hT : TabOK P T) (hF : ∀ f fi, F f = some fi → FnOK P f fi) : EnvOK P (Env.base T F R) id :=
  ⟨hT, hF, fun f spec h => by simp [Env.base] at h, fun f i spec h => by simp [Env.base] at h⟩

def Env.addCall (E : Env Prop) (f : FuncId) (spec : CallSpec) : Env Prop :=
  { E with calls := fun g => bif Nat.beq f g then some spec else E.calls g }

theorem EnvOK.addCall {P : Program} {E : Env Prop} (h : EnvOK P E id) {f : FuncId} {spec : CallSpec} {fi : FI} (hF : E.F f = some fi) (hs : ∀ args h k, spec args h k → SafeCall P E.R f args h k) : EnvOK P (E.addCall f spec) id where
  T := h.T
  F := h.F
  calls := fun g sp hg args rows k hk => by
    simp only [Env.addCall] at hg
    cases hb : Nat.beq f g with
    | true =>
      rw [hb] at hg
      simp only [cond_true, Option.some.injEq] at hg
      have := Nat.eq_of_beq_eq_true hb
      subst this; subst hg
      obtain ⟨fn, h1, h2, _, _, h5⟩ := (h.F f fi hF).fn
      exact ⟨hs args rows k hk, fn, h1, by rw [h2]; rfl, h5⟩
    | false =>
      rw [hb] at hg
      exact h.calls g sp hg args rows k hk
  loops := h.loops

def Env.addLoop (E : Env Prop) (f : FuncId) (id : Nat) (spec : LoopSp) : Env Prop :=
  { E with loops := fun g i => bif Nat.beq f g && Nat.beq id i then some spec else E.loops g i }

def blockOf (fi : FI) (id : Nat) : Option Code :=
  match (subs fi.body).filter fun p => Nat.beq p.1 id with
  | [(_, b)] => some b
  | _ => none

theorem EnvOK.addLoop {P : Program} {E : Env Prop} (h : EnvOK P E id) {f : FuncId} {i : Nat} {spec : LoopSp} {fi : FI} (hF : E.F f = some fi) {body : Code} (hb : blockOf fi i = some body)
    (hs : ∀ st k, spec st k → Safe P E.R (.block i body) st k) : EnvOK P (E.addLoop f i spec) id where
  T := h.T
  F := h.F
  calls := h.calls
  loops := fun g j sp hg b hmem st k hk => by
    simp only [Env.addLoop] at hg
    cases hbb : (Nat.beq f g && Nat.beq i j) with
    | true =>
      rw [hbb] at hg
      simp only [cond_true, Option.some.injEq] at hg
      simp only [Bool.and_eq_true] at hbb
      have e1 := Nat.eq_of_beq_eq_true hbb.1
      have e2 := Nat.eq_of_beq_eq_true hbb.2
      subst e1; subst e2; subst hg
      have hm : (i, b) ∈ subs fi.body := by
        have : (i, b) ∈ E.subsOf f := hmem
        unfold Env.subsOf at this
        rwa [hF] at this
      have : b = body := by
        unfold blockOf at hb
        have hf : (i, b) ∈ (subs fi.body).filter fun p => Nat.beq p.1 i := by simp [hm]
        split at hb
        · rename_i j' b' he
          rw [he] at hf
          simp at hf hb
          exact hf.2.trans hb
        · exact absurd hb (by simp)
      subst this
      exact hs st k hk
    | false =>
      rw [hbb] at hg
      exact h.loops g j sp hg b hmem st k hk

theorem Safe.run {P : Program} {E : Env Prop} {draw : Draw Prop} (hE : EnvOK P E id) (hD : DrawOK P E id draw) {f : FuncId} {fi : FI} (hF : E.F f = some fi) {i : Nat} {b c : Code} (hb : blockOf fi i = some b) (hc : subs c = subs b) {st : St} {k : Exit → St → Prop} (n : Nat)
    (hk : code propAns E draw n f c st k) : Safe P E.R c st k := by
  refine code_ok propHolds hE hD n f c st k ?_ hk
  have key : ∀ (c : Code) (p : Nat × Code), p ∈ subs c → ∀ q ∈ subs p.2, q ∈ subs c := by
    intro c
    induction c with
    | block id b ih =>
      intro p hp q hq
      simp only [subs, List.mem_cons] at hp ⊢
      rcases hp with rfl | hp
      · exact .inr hq
      · exact .inr (ih p hp q hq)
    | seq x y ihx ihy =>
      intro p hp q hq
      simp only [subs, List.mem_append] at hp ⊢
      rcases hp with hp | hp
      · exact .inl (ihx p hp q hq)
      · exact .inr (ihy p hp q hq)
    | cond x y z ihx ihy =>
      intro p hp q hq
      simp only [subs, List.mem_append] at hp ⊢
      rcases hp with hp | hp
      · exact .inl (ihx p hp q hq)
      · exact .inr (ihy p hp q hq)
    | loop b ih => exact ih
    | _ => intro p hp; simp [subs] at hp
  intro p hp
  unfold Env.subsOf
  rw [hF]
  rw [hc] at hp
  have hm : (i, b) ∈ subs fi.body := by
    unfold blockOf at hb
    split at hb
    · rename_i j' b' he
      simp only [Option.some.injEq] at hb
      subst hb
      have : (j', b') ∈ (subs fi.body).filter fun p => Nat.beq p.1 i := by rw [he]; simp
      simp only [List.mem_filter] at this
      obtain ⟨h1, h2⟩ := this
      have := Nat.eq_of_beq_eq_true h2
      subst this
      exact h1
    · exact absurd hb (by simp)
  exact key fi.body (i, b) hm p hp

/-! ### A loop -/

def blockExit (id : Nat) : Exit → Exit
  | .exit id' => bif Nat.beq id' id then .normal else .exit id'
  | e => e

/-- What a loop does to a state that looks, seen from inside, like one of the states at the head of a round. -/
def loopSpec {G I : Type} (fam : G → I → St) (nk : Nat) (X : G → Exit → St → Prop) (id : Nat) : LoopSp := fun st k =>
  ∃ g i f, StV f (fam g i) st ∧ ∀ e stE, X g e stE → k (blockExit id e) (stE.out f nk (fam g i).rows.length st.rows)

theorem loopSpec_ok {P : Program} {R : Nat → RoRow} {G I : Type} {fam : G → I → St} {nk : Nat} {X : G → Exit → St → Prop} {id : Nat} {b : Code} (mu : G → I → Nat) (hnk : ∀ g i, nk ≤ (fam g i).rows.length)
    (hround : ∀ g i, Safe P R b (fam g i) fun e st' => match e with
      | .normal => ∃ i', mu g i' < mu g i ∧ Fit nk (fam g i') st'
      | e => ∃ stE, Fit nk stE st' ∧ X g e stE) : ∀ st k, loopSpec fam nk X id st k → Safe P R (.block id (.loop b)) st k := by
  rintro st k ⟨g, i, f, hV, hk⟩ m a w m0 h0 w0 hr hs
  have h1 := (loop_rule (fam g) (mu g) nk (X g) (hnk g) (hround g) i).focusFit hV (hnk g i) m a w m0 h0 w0 hr hs
  refine wp_block (wp_mono h1 ?_)
  rintro e a' w' ⟨m', st', hok, ⟨stE, hx, rfl⟩, hr', hs'⟩
  have := hk e stE hx
  cases e with
  | normal => exact ⟨m', _, trivial, this, hr', hs'⟩
  | ret => exact ⟨m', _, trivial, this, hr', hs'⟩
  | exit id' =>
    simp only [Exit.inBlock]
    simp only [blockExit] at this
    by_cases hid : id' = id
    · rw [if_pos hid]
      subst hid
      simp only [Nat.beq_refl, cond_true] at this
      exact ⟨m', _, trivial, this, hr', hs'⟩
    · rw [if_neg hid]
      have e : Nat.beq id' id = false := by rw [Bool.eq_false_iff]; exact fun e => hid (Nat.eq_of_beq_eq_true e)
      simp only [e, cond_false] at this
      exact ⟨m', _, trivial, this, hr', hs'⟩
  | goto l => exact hok.elim
  | panic ch => exact hok.elim
  | outgrown => exact hok.elim

end Go.Dc
