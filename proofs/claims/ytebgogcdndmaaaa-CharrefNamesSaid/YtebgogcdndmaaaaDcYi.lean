/- Rows that came behind those of before, forgotten. -/
import Derived.Test.YtebgogcdndmaaaaDcYh
set_option linter.unusedSimpArgs false
set_option linter.unusedVariables false
namespace Go.Dc

theorem live_append {h j : Rows} {c : Nat} (hc : c < h.length) : Rows.live (h ++ j) c = h.live c := by
  unfold Rows.live
  rw [List.getElem?_append_left hc]

theorem WR.prefixView {R : Nat → RoRow} {m : Map} {h : Rows} {w : World} (hW : WR R m h w) (j : Rows) : View some h (h ++ j) where
  lt := fun c b hc hb => by simp at hb; simp; omega
  inj := fun c c' b _ _ h1 h2 => by simp at h1 h2; omega
  row := fun c r hc => by
    rcases hW.idView.row c r hc with ⟨b, r', h1, h2, h3⟩ | ⟨h1, h2⟩
    · refine .inl ⟨b, r', h1, ?_, h3⟩
      rw [live_append (live_lt h2)]
      exact h2
    · exact .inr ⟨h1, h2⟩

theorem SafeCall.trim {P : Program} {R : Nat → RoRow} {fn : FuncId} {args : List AV} {h : Rows} {Q : AV → Prop} (hs : SafeCall P R fn args h fun v h' => Q v ∧ ∃ j, h' = h ++ j) (hg : ∀ v, Q v → gnd v = true) :
    SafeCall P R fn args h fun v h' => Q v ∧ h' = h := by
  intro m w m0 h0 w0 vs has hW hstep
  refine (hs m w m0 h0 w0 vs has hW hstep).mono ?_
  rintro e w' ⟨c, v, m', h', rfl, ⟨hq, j, rfl⟩, hd, hW', hs'⟩
  have hV := hW.prefixView j
  exact ⟨c, v, _, h, rfl, ⟨hq, rfl⟩, (gnd_vw some h.length v (hg v hq)).den _ _ _ hd, hW'.view hV, hs'.forget hV (fun c hc => rfl) hstep.len⟩

theorem SafeCall.trimV {P : Program} {R : Nat → RoRow} {fn : FuncId} {args : List AV} {h : Rows} {Q : AV → Prop} (hs : SafeCall P R fn args h fun v h' => Q v ∧ (View some h h → View some h h')) (hg : ∀ v, Q v → gnd v = true) :
    SafeCall P R fn args h fun v h' => Q v ∧ h' = h := by
  intro m w m0 h0 w0 vs has hW hstep
  refine (hs m w m0 h0 w0 vs has hW hstep).mono ?_
  rintro e w' ⟨c, v, m', h', rfl, ⟨hq, hj⟩, hd, hW', hs'⟩
  have hV := hj hW.idView
  exact ⟨c, v, _, h, rfl, ⟨hq, rfl⟩, (gnd_vw some h.length v (hg v hq)).den _ _ _ hd, hW'.view hV, hs'.forget hV (fun c hc => rfl) hstep.len⟩

/-- One row told otherwise, and rows behind. -/
theorem View.setAppend {h : Rows} {b : Nat} {r r' : Row} (hb : h[b]? = some (some r)) (hr : RowV some h.length r r') (j : Rows) (hV : View some h h) : View some h (h.set b (some r') ++ j) where
  lt := fun c d hc hd => by have := hV.lt c d hc hd; simp; omega
  inj := hV.inj
  row := fun c q hc => by
    have hlt : c < h.length := live_lt hc
    by_cases hcb : c = b
    · subst hcb
      have hq : q = r := by
        unfold Rows.live at hc
        rw [hb] at hc
        simpa using hc.symm
      subst hq
      refine .inl ⟨c, r', rfl, ?_, hr⟩
      rw [live_append (by simpa using hlt)]
      unfold Rows.live
      rw [List.getElem?_set_self hlt]
      rfl
    · rcases hV.row c q hc with ⟨d, q', h1, h2, h3⟩ | ⟨h1, h2⟩
      · cases h1
        refine .inl ⟨c, q', rfl, ?_, h3⟩
        rw [live_append (by simpa using hlt)]
        unfold Rows.live at h2 ⊢
        rw [List.getElem?_set_ne (fun e => hcb e.symm)]
        exact h2
      · exact .inr ⟨h1, h2⟩

theorem Safe.trim {P : Program} {R : Nat → RoRow} {c : Code} {st : St} {X : Exit → List AV → Prop} (hs : Safe P R c st fun e st' => ∃ T', X e T' ∧ (∃ j, st'.rows = st.rows ++ j) ∧ VwL some st.rows.length T' st'.tmps) :
    Safe P R c st fun e st' => X e st'.tmps ∧ st'.rows = st.rows := by
  intro m a w m0 h0 w0 hr hstep
  refine wp_mono (hs m a w m0 h0 w0 hr hstep) ?_
  rintro e a' w' ⟨m', st', hok, ⟨T', hX, ⟨j, hj⟩, hT⟩, hr', hs'⟩
  have hV := hr.wr.prefixView j
  rw [← hj] at hV
  have hVS : StV some ⟨T', st.rows⟩ st' := ⟨hV, hT⟩
  exact ⟨_, ⟨T', st.rows⟩, hok, ⟨hX, rfl⟩, hr'.view hVS, hs'.forget hV (fun c hc => rfl) hstep.len⟩

/-- A block, by what it holds. -/
theorem Safe.block {P : Program} {R : Nat → RoRow} {c : Code} {id : Nat} {st : St} {Q : Exit → St → Prop} (hs : Safe P R c st fun e st' => Q (blockExit id e) st') : Safe P R (.block id c) st Q := by
  intro m a w m0 h0 w0 hr hstep
  refine wp_block (wp_mono (hs m a w m0 h0 w0 hr hstep) ?_)
  rintro e a' w' ⟨m', st', hok, hx, hr', hs'⟩
  cases e with
  | normal => exact ⟨m', st', trivial, hx, hr', hs'⟩
  | ret => exact ⟨m', st', trivial, hx, hr', hs'⟩
  | exit id' =>
    simp only [Exit.inBlock]
    simp only [blockExit] at hx
    by_cases hid : id' = id
    · rw [if_pos hid]
      subst hid
      simp only [Nat.beq_refl, cond_true] at hx
      exact ⟨m', st', trivial, hx, hr', hs'⟩
    · rw [if_neg hid]
      have e : Nat.beq id' id = false := by rw [Bool.eq_false_iff]; exact fun e => hid (Nat.eq_of_beq_eq_true e)
      simp only [e, cond_false] at hx
      exact ⟨m', st', trivial, hx, hr', hs'⟩
  | goto l => exact hok.elim
  | panic ch => exact hok.elim
  | outgrown => exact hok.elim
end Go.Dc
