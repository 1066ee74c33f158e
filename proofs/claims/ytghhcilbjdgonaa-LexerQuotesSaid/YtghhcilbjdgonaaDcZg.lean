/- A range over slices.Backward in its block, told by what stands between its rounds. -/
import Derived.Test.YtghhcilbjdgonaaDcZf
import Derived.Test.YtghhcilbjdgonaaDcYi
set_option linter.unusedSimpArgs false
set_option linter.unusedVariables false
namespace Go.Dc

theorem subs_trans : ∀ (c : Code) (p : Nat × Code), p ∈ subs c → ∀ q ∈ subs p.2, q ∈ subs c := by
  intro c
  induction c with
  | block id b ih =>
    intro p hp q hq
    simp only [subs, List.mem_cons] at hp ⊢
    rcases hp with rfl | hp
    · exact .inr hq
    · exact .inr (ih p hp q hq)
  | seq x y ihx ihy =>
    intro p hp q hq
    simp only [subs, List.mem_append] at hp ⊢
    rcases hp with hp | hp
    · exact .inl (ihx p hp q hq)
    · exact .inr (ihy p hp q hq)
  | cond x y z ihx ihy =>
    intro p hp q hq
    simp only [subs, List.mem_append] at hp ⊢
    rcases hp with hp | hp
    · exact .inl (ihx p hp q hq)
    · exact .inr (ihy p hp q hq)
  | loop b ih => exact ih
  | rangeFunc g ps x y ihx ihy =>
    intro p hp q hq
    simp only [subs, List.mem_append] at hp ⊢
    rcases hp with hp | hp
    · exact .inl (ihx p hp q hq)
    · exact .inr (ihy p hp q hq)
  | _ => intro p hp; simp [subs] at hp

theorem blockOf_mem {fi : FI} {i : Nat} {b : Code} (hb : blockOf fi i = some b) : (i, b) ∈ subs fi.body := by
  unfold blockOf at hb
  split at hb
  · rename_i j' b' he
    simp only [Option.some.injEq] at hb
    subst hb
    have : (j', b') ∈ (subs fi.body).filter fun p => Nat.beq p.1 i := by rw [he]; simp
    simp only [List.mem_filter] at this
    obtain ⟨h1, h2⟩ := this
    have := Nat.eq_of_beq_eq_true h2
    subst this
    exact h1
  · exact absurd hb (by simp)

theorem blockOf_uniq {fi : FI} {i : Nat} {b b' : Code} (hb : blockOf fi i = some b) (h : (i, b') ∈ subs fi.body) : b' = b := by
  unfold blockOf at hb
  split at hb
  · rename_i j' b2 he
    simp only [Option.some.injEq] at hb
    subst hb
    have : (i, b') ∈ (subs fi.body).filter fun p => Nat.beq p.1 i := List.mem_filter.2 ⟨h, by simp⟩
    rw [he] at this
    simp only [List.mem_singleton, Prod.mk.injEq] at this
    exact this.2
  · exact absurd hb (by simp)

/-- One round: the left sides, then the body. -/
noncomputable def rndR (E : Env Prop) (n : Nat) (f : FuncId) (as body : Code) (st : St) (k : Exit → St → Prop) : Prop :=
  code propAns E (drawAll propAns E) n f as st fun e st1 => match e with
    | .normal => code propAns E (drawAll propAns E) n f body st1 k
    | _ => False

/-- The code of a range in its block. -/
def rgA (fi : FI) (id : Nat) : Code := match blockOf fi id with | some (.rangeFunc _ _ a _) => a | _ => .skip
def rgB (fi : FI) (id : Nat) : Code := match blockOf fi id with | some (.rangeFunc _ _ _ b) => b | _ => .skip

theorem rangeLoop {P : Program} {E : Env Prop} (hm : P.follows .mixedOrders = true) (hE : EnvOK P E id) {f : FuncId} (hl : ∀ i, E.loops f i = Option.none) {gf esz : Nat} (hB : BackOK P gf esz)
    (hent : ∀ args w, (callFunc gf args).run P w = .ok (.enter gf args) w) {fi : FI} (hF : E.F f = some fi) {i : Nat} {g : Operand} {p0 p1 : Tmp} {as body : Code} (hb : blockOf fi i = some (.rangeFunc g #[p0, p1] as body))
    (hnd : (codeND as && codeND body) = true) {st : St} {bx : Nat} (hg : st.ev g = .fn gf [] [.ptr false bx 0 0]) {rb : Row} (hbx : st.rows.live bx = some rb) {sv : AV} (hsv0 : rb.get? 0 = some sv)
    {ds : List Nat} {len : Nat} {els : Nat → AV} (hbd : bx ∈ ds)
    (hsv : (sv = .nils ∧ len = 0) ∨ (∃ b i full r, sv = .sl false b i len full ∧ st.rows.live b = some r ∧ r.esz = esz ∧ b ∈ ds ∧ ∀ j, j < len → r.get? (i + j) = some (els j)) ∨
      (∃ b i full, sv = .sl true b i len full ∧ (E.R b).esz = esz ∧ i + len ≤ (E.R b).n ∧ ∀ j, j < len → els j = (E.R b).at_ (i + j)))
    {I : Nat → Rows → Prop} {X : Exit → Rows → Prop} (h0 : I 0 (dead ds st.rows)) (n : Nat)
    (hround : ∀ k rows, k < len → I k rows → rndR E n f as body ⟨(st.tmps.set p0 (.int .i64 ((len - 1 - k : Nat) : Int))).set p1 (els (len - 1 - k)), rows⟩ fun e st2 =>
      ∃ rowsE, (rowsE = st2.rows ∨ FitR st.rows.length rowsE st2.rows) ∧ match e with | .normal => I (k + 1) rowsE | e => X e rowsE)
    {Q : Exit → St → Prop} (hdone : ∀ rows, I len rows → Q .normal ⟨st.tmps, revive ds st.rows rows⟩)
    (hexit : ∀ e rows, X e rows → match e with
      | .exit id' => bif Nat.beq id' i then Q .normal ⟨st.tmps, revive ds st.rows rows⟩ else Q (.exit id') ⟨st.tmps, revive ds st.rows rows⟩
      | e => Q e ⟨st.tmps, revive ds st.rows rows⟩) :
    SafeM P E.R (.block i (.rangeFunc g #[p0, p1] as body)) st Q := by
  have hm1 := blockOf_mem hb
  have hsa : ∀ p ∈ subs as, p ∈ E.subsOf f := fun p hp => by unfold Env.subsOf; rw [hF]; exact subs_trans _ _ hm1 p (by simp [subs, hp])
  have hsb : ∀ p ∈ subs body, p ∈ E.subsOf f := fun p hp => by unfold Env.subsOf; rw [hF]; exact subs_trans _ _ hm1 p (by simp [subs, hp])
  simp only [Bool.and_eq_true] at hnd
  refine SafeM.block (range_ok hB hent hg hbx hsv0 hbd hsv (I := I) (X := X) h0 ?_ hdone ?_)
  · intro l k rows hk hI
    have ok := fun c st k => code_okR (rd := some l) (ds := []) propHolds hE hm f (fun id spec e => by rw [hl id] at e; cases e) n c st k
    refine SafeR.mono (ok as _ _ hnd.1 hsa (hround k rows hk hI)) ?_
    intro e1 st1 hq1
    cases e1 with
    | normal => exact ⟨rfl, ok body _ _ hnd.2 hsb hq1⟩
    | _ => exact hq1.elim
  · intro e rows hx
    exact hexit e rows hx
/-! ### Rows of plain values, with rows behind -/
def lstGnd : Option Row → Bool
  | some (.lst _ _ l) => l.all fun e => ones e && Go.Dc.gnd e
  | none => true
  | _ => false

theorem RowV.lstG {f : Nat → Option Nat} {n : Nat} {t z : Nat} {l : List AV} (h : (l.all fun e => ones e && Go.Dc.gnd e) = true) : RowV f n (.lst t z l) (.lst t z l) where
  ty := rfl
  esz := rfl
  len := rfl
  get := fun i x hx => by
    simp only [Row.get?] at hx ⊢
    have hm := List.mem_of_getElem? hx
    have := List.all_eq_true.1 h x hm
    simp only [Bool.and_eq_true] at this
    exact ⟨ones_mem this.1, x, hx, gnd_vw f n x this.2⟩

theorem View.pre (h tl : Rows) (hg : h.all lstGnd = true) : View some h (h ++ tl) :=
  View.of (fun c o ho => by
    have hm := List.mem_of_getElem? ho
    have hlt := (List.getElem?_eq_some_iff.1 ho).1
    have hgo := List.all_eq_true.1 hg o hm
    cases o with
    | none =>
      refine ⟨(fun r hr => by cases hr), fun b hb => ?_⟩
      simp only [Option.some.injEq] at hb
      subst hb
      simp; omega
    | some r =>
      cases r with
      | lst t z l => exact ViewL.at_ (b := c) rfl (by rw [List.getElem?_append_left hlt]; exact ho) (RowV.lstG hgo)
      | gen t z n a => simp [lstGnd] at hgo
      | byt t l => simp [lstGnd] at hgo)
    (fun c c' b _ _ h1 h2 => by simp only [Option.some.injEq] at h1 h2; omega)

theorem FitR.pre {nk : Nat} (h tl : Rows) (hg : h.all lstGnd = true) (hn : nk ≤ h.length) : FitR nk h (h ++ tl) := ⟨some, View.pre h tl hg, fun _ _ => rfl, hn⟩

end Go.Dc
