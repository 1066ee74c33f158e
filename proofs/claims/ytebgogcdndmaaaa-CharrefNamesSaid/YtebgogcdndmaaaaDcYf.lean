/- A call of the library that answers with a row of its own. -/
import Derived.Test.YtebgogcdndmaaaaDcYe
import Derived.Laws.AppendOwn
set_option linter.unusedSimpArgs false
set_option linter.unusedVariables false
namespace Go.Dc
open Go.RowKit

/-- A new row, somewhere in the new blocks. -/
theorem WR.pushAt {R : Nat → RoRow} {m : Map} {h : Rows} {w w' : World} (hW : WR R m h w) (r : Row) (c : Array Value) (fz : Nat × Nat) (ext g : Nat)
    (hb : Below w.heap.size w w') (hg : w.heap.size ≤ g) (hh : w'.heap[g]? = some (.cells c r.ty fz))
    (h2 : r.len ≤ ext) (h3 : ext * r.esz ≤ c.size) (h4 : ∀ k, k < ext * r.esz → (fz.1 ≤ k && k < fz.2) = false) (h5 : ElsOK m h.length r r.esz (fun k => c[k]?)) :
    WR R (m.setMu h.length ⟨g, 0, r.esz, ext, false⟩) (h ++ [some r]) w' ∧ Step m h w (m.setMu h.length ⟨g, 0, r.esz, ext, false⟩) (h ++ [some r]) w' := by
  have hold : ∀ k, k < w.heap.size → w'.heap[k]? = w.heap[k]? := hb.block
  have hmu : ∀ b, b < h.length → (m.setMu h.length ⟨g, 0, r.esz, ext, false⟩).mu b = m.mu b := fun b hb => Map.setMu_ne m _ _ _ (by omega)
  have hmn := Map.setMu_same m h.length ⟨g, 0, r.esz, ext, false⟩
  refine ⟨{ row := ?_, apart := ?_, ro := ?_, roApart := ?_ }, { os := hb.os, tape := hb.tape, output := hb.output, size := hb.size, block := fun k hk _ => hold k hk, len := by simp, mu := hmu, ro := rfl, new := ?_ }⟩
  · intro b r' hb
    rcases live_push hb with ⟨hlt, hl⟩ | ⟨rfl, rfl⟩
    · rw [hmu b hlt]
      exact (hW.row b r' hl).mono (by simp) (fun c hc => hmu c hc) rfl (fun hv => hold _ (hW.blk_lt hl hv))
    · rw [hmn]
      refine RowOK.mk' rfl rfl h2 (c := c) (fz := fz) ?_ (by simpa using h3) (fun k _ hk => h4 k (by simpa using hk)) ?_
      · exact hh
      · simpa using h5.mono (by simp) (fun c hc => hmu c hc) rfl
  · intro b b' r1 r2 hb hb' hv hv' he
    rcases live_push hb with ⟨hlt, hl⟩ | ⟨rfl, rfl⟩
    · rcases live_push hb' with ⟨hlt', hl'⟩ | ⟨rfl, rfl⟩
      · rw [hmu b hlt] at hv he
        rw [hmu b' hlt'] at hv' he
        exact hW.apart b b' r1 r2 hl hl' hv hv' he
      · rw [hmu b hlt] at hv he
        rw [hmn] at he
        have := hW.blk_lt hl hv
        simp only [] at he
        omega
    · rcases live_push hb' with ⟨hlt', hl'⟩ | ⟨rfl, rfl⟩
      · rw [hmu b' hlt'] at hv' he
        rw [hmn] at he
        have := hW.blk_lt hl' hv'
        simp only [] at he
        omega
      · rfl
  · intro i
    exact (hW.ro i).mono rfl (fun hv hn => hold _ (hW.ro_lt hv hn))
  · intro i b r' hb hv hv' hn
    rcases live_push hb with ⟨hlt, hl⟩ | ⟨rfl, rfl⟩
    · rw [hmu b hlt] at hv ⊢
      exact hW.roApart i b r' hl hv hv' hn
    · rw [hmn]
      have := hW.ro_lt hv' hn
      show (m.ro i).blk ≠ g
      omega
  · intro b r' hb hv
    rcases live_push hb with ⟨hlt, hl⟩ | ⟨rfl, rfl⟩
    · rw [hmu b hlt] at hv ⊢
      exact .inr ⟨b, r', hl, hv, rfl⟩
    · rw [hmn]; exact .inl hg

/-- A call that answers with a new slice of strings. -/
theorem SafeCall.ownStrs {P : Program} {R : Nat → RoRow} {fn : FuncId} {args : List AV} {h : Rows} {ty : TypeId} {l : List (List UInt8)}
    (hs : ∀ m n (as : Array Value), DenL m n args as.toList → ∀ w, Calls P fn as w fun e w' => ∃ A, e = .returned (.slice (some ⟨A, 0, Option.none⟩) l.length l.length) ∧ w.heap.size ≤ A ∧
      w'.ownsRow w.heap.size ty 1 (.slice (some ⟨A, 0, Option.none⟩) l.length l.length) l.length (l.map fun s => .string ⟨⟨s⟩⟩) ∧ Below w.heap.size w w') :
    SafeCall P R fn args h fun v' h' => v' = .sl false h.length 0 l.length true ∧ h' = h ++ [some (.lst ty 1 (l.map AV.str))] := by
  intro m w m0 h0 w0 as has hW hstep
  refine (hs m _ as has w).mono ?_
  rintro e w' ⟨A, rfl, hA, hown, hb⟩
  obtain ⟨hlen, hcase⟩ := hown
  rcases hcase with ⟨hnil, _⟩ | ⟨g, cap, cur, hv, hg, hcell, hn, hmax, hsz, htake⟩
  · simp at hnil
  · simp only [Value.slice.injEq, Option.some.injEq, Addr.mk.injEq, true_and, and_true] at hv
    obtain ⟨rfl, rfl⟩ := hv
    have hcur : cur.toList = l.map fun s => Value.string ⟨⟨s⟩⟩ := by
      rw [← htake, List.take_of_length_le]
      rw [Array.length_toList, hsz]
      exact Nat.le_refl _
    obtain ⟨hW', hS⟩ := hW.pushAt (.lst ty 1 (l.map AV.str)) cur (0, 0) l.length A hb hA hcell (by simp [Row.len]) (by simp [Row.esz]; omega) (by simp) (by
      intro i e he
      simp only [Row.get?, List.getElem?_map] at he
      obtain ⟨s, hs, rfl⟩ := Option.map_eq_some_iff.1 he
      refine ⟨by simp [AV.cells, Row.esz], ?_⟩
      intro o a ha
      simp only [AV.cells] at ha
      cases o with
      | zero =>
        simp only [List.getElem?_cons_zero, Option.some.injEq] at ha
        subst ha
        refine ⟨by simp [AV.one], .string ⟨⟨s⟩⟩, ?_, by simp [Den]⟩
        have : cur[i]? = some (.string ⟨⟨s⟩⟩) := by
          rw [← Array.getElem?_toList, hcur]
          simp [hs]
        simpa [Row.esz] using this
      | succ o => simp at ha)
    refine ⟨_, .sl false h.length 0 l.length true, _, _, rfl, ⟨rfl, rfl⟩, ?_, hW', hstep.trans hS⟩
    simp only [Den, Map.loc, Bool.false_eq_true, if_false]
    rw [Map.setMu_same]
    refine ⟨fun _ => by simp, ?_⟩
    unfold SlDen
    simp only [Bool.false_eq_true, if_false]
    exact ⟨_, _, rfl, Nat.le_refl _, hmax, fun _ => rfl, fun _ => ⟨by simp, by simp⟩⟩

/-- From a state that tells more to one that tells less. -/
theorem Safe.weaken {P : Program} {R : Nat → RoRow} {c : Code} {f : Nat → Option Nat} {stE st : St} {Q : Exit → St → Prop} (hV : StV f stE st) (hf : ∀ c, c < st.rows.length → f c = some c) (hl : st.rows.length ≤ stE.rows.length)
    (hs : Safe P R c stE Q) : Safe P R c st Q := by
  intro m a w m0 h0 w0 hr hstep
  exact hs _ a w m0 h0 w0 (hr.view hV) (hstep.forget hV.rows (fun c hc => hf c (Nat.lt_of_lt_of_le hc hstep.len)) (Nat.le_trans hstep.len hl))

/-- A loop in its block, told by the states at the head of its rounds; behind it, states of which the rows of before are the first. -/
theorem loop_block {P : Program} {R : Nat → RoRow} {body : Code} {I : Type} {fam : I → St} (mu : I → Nat) {X : Exit → St → Prop} {id : Nat} {i0 : I} {st : St} {f : Nat → Option Nat}
    (hV : StV f (fam i0) st) (hf : ∀ c, c < st.rows.length → f c = some c)
    (hnk : ∀ i, st.rows.length ≤ (fam i).rows.length)
    (hround : ∀ i, Safe P R body (fam i) fun e st' => match e with
      | .normal => ∃ i', mu i' < mu i ∧ Fit st.rows.length (fam i') st'
      | e => ∃ stE, Fit st.rows.length stE st' ∧ X e stE) :
    Safe P R (.block id (.loop body)) st fun e stE => ∃ e0, e = blockExit id e0 ∧ X e0 stE := by
  have h1 : Safe P R (.loop body) st fun e st' => ∃ stE, Fit st.rows.length stE st' ∧ X e stE :=
    (loop_rule fam mu st.rows.length X hnk hround i0).weaken hV hf (hnk i0)
  have h2 : Safe P R (.loop body) st X := h1.fit fun e st' h => h
  intro m a w m0 h0 w0 hr hs
  refine wp_block (wp_mono (h2 m a w m0 h0 w0 hr hs) ?_)
  rintro e a' w' ⟨m', st', hok, hx, hr', hs'⟩
  cases e with
  | normal => exact ⟨m', st', trivial, ⟨.normal, rfl, hx⟩, hr', hs'⟩
  | ret => exact ⟨m', st', trivial, ⟨.ret, rfl, hx⟩, hr', hs'⟩
  | exit id' =>
    simp only [Exit.inBlock]
    by_cases hid : id' = id
    · rw [if_pos hid]
      subst hid
      exact ⟨m', st', trivial, ⟨.exit id', by simp [blockExit], hx⟩, hr', hs'⟩
    · rw [if_neg hid]
      have e : Nat.beq id' id = false := by rw [Bool.eq_false_iff]; exact fun e => hid (Nat.eq_of_beq_eq_true e)
      exact ⟨m', st', trivial, ⟨.exit id', by simp [blockExit, e], hx⟩, hr', hs'⟩
  | goto l => exact hok.elim
  | panic ch => exact hok.elim
  | outgrown => exact hok.elim

end Go.Dc
