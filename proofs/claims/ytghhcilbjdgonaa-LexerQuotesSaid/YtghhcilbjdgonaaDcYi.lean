/- Tools for contracts: library calls, loops, views. -/
import Derived.Test.YtghhcilbjdgonaaDcYe
import Derived.Laws.AppendOwn
section
/- A call of the library that answers with a row of its own. -/
set_option linter.unusedSimpArgs false
set_option linter.unusedVariables false
namespace Go.Dc
open Go.RowKit

/-- A new row, somewhere in the new blocks. -/
theorem WR.pushAt {R : Nat → RoRow} {m : Map} {h : Rows} {w w' : World} (hW : WR R m h w) (r : Row) (c : Array Value) (fz : Nat × Nat) (ext g : Nat)
    (hb : Below w.heap.size w w') (hg : w.heap.size ≤ g) (hh : w'.heap[g]? = some (.cells c r.ty fz))
    (h2 : r.len ≤ ext) (h3 : ext * r.esz ≤ c.size) (h4 : ∀ k, k < ext * r.esz → (fz.1 ≤ k && k < fz.2) = false) (h5 : ElsOK m h.length r r.esz (fun k => c[k]?)) :
    WR R (m.setMu h.length ⟨g, 0, r.esz, ext, false⟩) (h ++ [some r]) w' ∧ Step m h w (m.setMu h.length ⟨g, 0, r.esz, ext, false⟩) (h ++ [some r]) w' := by
  have hold : ∀ k, k < w.heap.size → w'.heap[k]? = w.heap[k]? := hb.block
  have hmu : ∀ b, b < h.length → (m.setMu h.length ⟨g, 0, r.esz, ext, false⟩).mu b = m.mu b := fun b hb => Map.setMu_ne m _ _ _ (by omega)
  have hmn := Map.setMu_same m h.length ⟨g, 0, r.esz, ext, false⟩
  refine ⟨{ row := ?_, apart := ?_, ro := ?_, roApart := ?_ }, { os := hb.os, tape := hb.tape, output := hb.output, size := hb.size, block := fun k hk _ => hold k hk, len := by simp, mu := hmu, ro := rfl, new := ?_ }⟩
  · intro b r' hb
    rcases live_push hb with ⟨hlt, hl⟩ | ⟨rfl, rfl⟩
    · rw [hmu b hlt]
      exact (hW.row b r' hl).mono (by simp) (fun c hc => hmu c hc) rfl (fun hv => hold _ (hW.blk_lt hl hv))
    · rw [hmn]
      refine RowOK.mk' rfl rfl h2 (c := c) (fz := fz) ?_ (by simpa using h3) (fun k _ hk => h4 k (by simpa using hk)) ?_
      · exact hh
      · simpa using h5.mono (by simp) (fun c hc => hmu c hc) rfl
  · intro b b' r1 r2 hb hb' hv hv' he
    rcases live_push hb with ⟨hlt, hl⟩ | ⟨rfl, rfl⟩
    · rcases live_push hb' with ⟨hlt', hl'⟩ | ⟨rfl, rfl⟩
      · rw [hmu b hlt] at hv he
        rw [hmu b' hlt'] at hv' he
        exact hW.apart b b' r1 r2 hl hl' hv hv' he
      · rw [hmu b hlt] at hv he
        rw [hmn] at he
        have := hW.blk_lt hl hv
        simp only [] at he
        omega
    · rcases live_push hb' with ⟨hlt', hl'⟩ | ⟨rfl, rfl⟩
      · rw [hmu b' hlt'] at hv' he
        rw [hmn] at he
        have := hW.blk_lt hl' hv'
        simp only [] at he
        omega
      · rfl
  · intro i
    exact (hW.ro i).mono rfl (fun hv hn => hold _ (hW.ro_lt hv hn))
  · intro i b r' hb hv hv' hn
    rcases live_push hb with ⟨hlt, hl⟩ | ⟨rfl, rfl⟩
    · rw [hmu b hlt] at hv ⊢
      exact hW.roApart i b r' hl hv hv' hn
    · rw [hmn]
      have := hW.ro_lt hv' hn
      show (m.ro i).blk ≠ g
      omega
  · intro b r' hb hv
    rcases live_push hb with ⟨hlt, hl⟩ | ⟨rfl, rfl⟩
    · rw [hmu b hlt] at hv ⊢
      exact .inr ⟨b, r', hl, hv, rfl⟩
    · rw [hmn]; exact .inl hg

/-- A call that answers with a new slice of strings. -/
theorem SafeCall.ownStrs {P : Program} {R : Nat → RoRow} {fn : FuncId} {args : List AV} {h : Rows} {ty : TypeId} {l : List (List UInt8)}
    (hs : ∀ m n (as : Array Value), DenL m n args as.toList → ∀ w, Calls P fn as w fun e w' => ∃ A, e = .returned (.slice (some ⟨A, 0, Option.none⟩) l.length l.length) ∧ w.heap.size ≤ A ∧
      w'.ownsRow w.heap.size ty 1 (.slice (some ⟨A, 0, Option.none⟩) l.length l.length) l.length (l.map fun s => .string ⟨⟨s⟩⟩) ∧ Below w.heap.size w w') :
    SafeCall P R fn args h fun v' h' => v' = .sl false h.length 0 l.length .tight ∧ h' = h ++ [some (.lst ty 1 (l.map AV.str))] := by
  intro m w m0 h0 w0 as has hW hstep
  refine (hs m _ as has w).mono ?_
  rintro e w' ⟨A, rfl, hA, hown, hb⟩
  obtain ⟨hlen, hcase⟩ := hown
  rcases hcase with ⟨hnil, _⟩ | ⟨g, cap, cur, hv, hg, hcell, hn, hmax, hsz, htake⟩
  · simp at hnil
  · simp only [Value.slice.injEq, Option.some.injEq, Addr.mk.injEq, true_and, and_true] at hv
    obtain ⟨rfl, rfl⟩ := hv
    have hcur : cur.toList = l.map fun s => Value.string ⟨⟨s⟩⟩ := by
      rw [← htake, List.take_of_length_le]
      rw [Array.length_toList, hsz]
      exact Nat.le_refl _
    obtain ⟨hW', hS⟩ := hW.pushAt (.lst ty 1 (l.map AV.str)) cur (0, 0) l.length A hb hA hcell (by simp [Row.len]) (by simp [Row.esz]; omega) (by simp) (by
      intro i e he
      simp only [Row.get?, List.getElem?_map] at he
      obtain ⟨s, hs, rfl⟩ := Option.map_eq_some_iff.1 he
      refine ⟨by simp [AV.cells, Row.esz], ?_⟩
      intro o a ha
      simp only [AV.cells] at ha
      cases o with
      | zero =>
        simp only [List.getElem?_cons_zero, Option.some.injEq] at ha
        subst ha
        refine ⟨by simp [AV.one], .string ⟨⟨s⟩⟩, ?_, by simp [Den]⟩
        have : cur[i]? = some (.string ⟨⟨s⟩⟩) := by
          rw [← Array.getElem?_toList, hcur]
          simp [hs]
        simpa [Row.esz] using this
      | succ o => simp at ha)
    refine ⟨_, .sl false h.length 0 l.length .tight, _, _, rfl, ⟨rfl, rfl⟩, ?_, hW', hstep.trans hS⟩
    simp only [Den, Map.loc, Bool.false_eq_true, if_false]
    rw [Map.setMu_same]
    refine ⟨fun _ => by simp, ?_⟩
    unfold SlDen
    simp only [Bool.false_eq_true, if_false]
    exact ⟨_, _, rfl, Nat.le_refl _, hmax, rfl, fun _ => ⟨by simp, by simp⟩⟩

/-- From a state that tells more to one that tells less. -/
theorem Safe.weaken {P : Program} {R : Nat → RoRow} {c : Code} {f : Nat → Option Nat} {stE st : St} {Q : Exit → St → Prop} (hV : StV f stE st) (hf : ∀ c, c < st.rows.length → f c = some c) (hl : st.rows.length ≤ stE.rows.length)
    (hs : Safe P R c stE Q) : Safe P R c st Q := by
  intro m a w m0 h0 w0 hr hstep
  exact hs _ a w m0 h0 w0 (hr.view hV) (hstep.forget hV.rows (fun c hc => hf c (Nat.lt_of_lt_of_le hc hstep.len)) (Nat.le_trans hstep.len hl))

/-- A loop in its block, told by the states at the head of its rounds; behind it, states of which the rows of before are the first. -/
theorem loop_block {P : Program} {R : Nat → RoRow} {body : Code} {I : Type} {fam : I → St} (mu : I → Nat) {X : Exit → St → Prop} {id : Nat} {i0 : I} {st : St} {f : Nat → Option Nat}
    (hV : StV f (fam i0) st) (hf : ∀ c, c < st.rows.length → f c = some c)
    (hnk : ∀ i, st.rows.length ≤ (fam i).rows.length)
    (hround : ∀ i, Safe P R body (fam i) fun e st' => match e with
      | .normal => ∃ i', mu i' < mu i ∧ Fit st.rows.length (fam i') st'
      | e => ∃ stE, Fit st.rows.length stE st' ∧ X e stE) :
    Safe P R (.block id (.loop body)) st fun e stE => ∃ e0, e = blockExit id e0 ∧ X e0 stE := by
  have h1 : Safe P R (.loop body) st fun e st' => ∃ stE, Fit st.rows.length stE st' ∧ X e stE :=
    (loop_rule fam mu st.rows.length X hnk hround i0).weaken hV hf (hnk i0)
  have h2 : Safe P R (.loop body) st X := h1.fit fun e st' h => h
  intro m a w m0 h0 w0 hr hs
  refine wp_block (wp_mono (h2 m a w m0 h0 w0 hr hs) ?_)
  rintro e a' w' ⟨m', st', hok, hx, hr', hs'⟩
  cases e with
  | normal => exact ⟨m', st', trivial, ⟨.normal, rfl, hx⟩, hr', hs'⟩
  | ret => exact ⟨m', st', trivial, ⟨.ret, rfl, hx⟩, hr', hs'⟩
  | exit id' =>
    simp only [Exit.inBlock]
    by_cases hid : id' = id
    · rw [if_pos hid]
      subst hid
      exact ⟨m', st', trivial, ⟨.exit id', by simp [blockExit], hx⟩, hr', hs'⟩
    · rw [if_neg hid]
      have e : Nat.beq id' id = false := by rw [Bool.eq_false_iff]; exact fun e => hid (Nat.eq_of_beq_eq_true e)
      exact ⟨m', st', trivial, ⟨.exit id', by simp [blockExit, e], hx⟩, hr', hs'⟩
  | goto l => exact hok.elim
  | panic ch => exact hok.elim
  | outgrown => exact hok.elim

end Go.Dc
end

section
/- States told with fewer rows: how it is shown, row by row. -/
set_option linter.unusedSimpArgs false
set_option linter.unusedVariables false
namespace Go.Dc

def ones (e : AV) : Bool := e.cells.all AV.one
theorem ones_mem {e : AV} (h : ones e = true) : ∀ a ∈ e.cells, a.one = true := by simpa [ones] using h

theorem RowV.lst1 {f : Nat → Option Nat} {n : Nat} {t z : Nat} {e e' : AV} (h1 : ones e = true) (h2 : Vw f n e e') : RowV f n (.lst t z [e]) (.lst t z [e']) where
  ty := rfl
  esz := rfl
  len := rfl
  get := fun i x hx => by
    cases i with
    | zero => simp only [Row.get?, List.getElem?_cons_zero, Option.some.injEq] at hx; subst hx; exact ⟨ones_mem h1, e', rfl, h2⟩
    | succ i => simp [Row.get?] at hx
theorem RowV.byt {f : Nat → Option Nat} {n : Nat} {t : Nat} {l : List UInt8} : RowV f n (.byt t l) (.byt t l) where
  ty := rfl
  esz := rfl
  len := rfl
  get := fun i x hx => by
    simp only [Row.get?] at hx ⊢
    obtain ⟨c, hc, rfl⟩ := Option.map_eq_some_iff.1 hx
    exact ⟨by simp [AV.cells, AV.one], .int .u8 c.toNat, by rw [hc]; rfl, by simp [Vw]⟩
theorem RowV.gen {f : Nat → Option Nat} {n : Nat} {t z : Nat} {k k' : Nat} {g g' : Nat → AV} (hk : k = k') (h : ∀ i, i < k → ones (g i) = true ∧ Vw f n (g i) (g' i)) : RowV f n (.gen t z k g) (.gen t z k' g') where
  ty := rfl
  esz := rfl
  len := hk
  get := fun i x hx => by
    subst hk
    simp only [Row.get?] at hx ⊢
    cases hb : Nat.blt i k with
    | false => rw [hb] at hx; simp at hx
    | true =>
      rw [hb] at hx
      simp only [cond_true, Option.some.injEq] at hx
      subst hx
      have hi : i < k := by simpa [Nat.blt_eq] using hb
      exact ⟨ones_mem (h i hi).1, _, rfl, (h i hi).2⟩
theorem RowV.gnd {f : Nat → Option Nat} {n : Nat} {t z : Nat} {e : AV} (h1 : ones e = true) (h2 : Go.Dc.gnd e = true) : RowV f n (.lst t z [e]) (.lst t z [e]) := .lst1 h1 (gnd_vw f n e h2)

/-- The row of each name: 'b c' the outer number. -/
structure ViewL (f : Nat → Option Nat) (N : Nat) (h : Rows) (c : Nat) (o : Option Row) : Prop where
  row : ∀ r, o = some r → (∃ b r', f c = some b ∧ h.live b = some r' ∧ RowV f N r r') ∨ (f c = none ∧ r.len = 0)
  lt : ∀ b, f c = some b → b < h.length

theorem View.of {f : Nat → Option Nat} {hE h : Rows} (hl : ∀ c o, hE[c]? = some o → ViewL f hE.length h c o) (hi : ∀ c c' b, c < hE.length → c' < hE.length → f c = some b → f c' = some b → c = c') : View f hE h where
  lt := fun c b hc hb => (hl c _ (List.getElem?_eq_getElem hc)).lt b hb
  inj := hi
  row := fun c r hc => by
    unfold Rows.live at hc
    cases ho : hE[c]? with
    | none => rw [ho] at hc; simp at hc
    | some o =>
      rw [ho] at hc
      simp only [Option.join_some] at hc
      subst hc
      exact (hl c _ ho).row r rfl

theorem ViewL.at_ {f : Nat → Option Nat} {N : Nat} {h : Rows} {c b : Nat} {r r' : Row} (hf : f c = some b) (hb : h[b]? = some (some r')) (hr : RowV f N r r') : ViewL f N h c (some r) where
  row := fun r0 h0 => by cases h0; exact .inl ⟨b, r', hf, by simp [Rows.live, hb], hr⟩
  lt := fun b' hb' => by
    rw [hf] at hb'
    cases hb'
    exact (List.getElem?_eq_some_iff.1 hb).1
theorem ViewL.void {f : Nat → Option Nat} {N : Nat} {h : Rows} {c : Nat} {r : Row} (hf : f c = none) (hr : r.len = 0) : ViewL f N h c (some r) where
  row := fun r0 h0 => by cases h0; exact .inr ⟨hf, hr⟩
  lt := fun b hb => by rw [hf] at hb; simp at hb

theorem VwL.nil {f : Nat → Option Nat} {n : Nat} : VwL f n [] [] := by simp [VwL]
theorem VwL.cons {f : Nat → Option Nat} {n : Nat} {x y : AV} {xs ys : List AV} (h1 : Vw f n x y) (h2 : VwL f n xs ys) : VwL f n (x :: xs) (y :: ys) := by
  simp only [VwL]; exact ⟨y, ys, rfl, h1, h2⟩
theorem Vw.anyI {f : Nat → Option Nat} {n : Nat} {y : AV} : Vw f n .any y := by simp [Vw]
theorem Vw.intI {f : Nat → Option Nat} {n : Nat} {k : IntKind} {x : Int} : Vw f n (.int k x) (.int k x) := by simp [Vw]
theorem Vw.intE {f : Nat → Option Nat} {n : Nat} {k : IntKind} {x y : Int} (h : y = x) : Vw f n (.int k x) (.int k y) := by simp [Vw, h]
theorem Vw.boolI {f : Nat → Option Nat} {n : Nat} {x : Bool} : Vw f n (.bool x) (.bool x) := by simp [Vw]
theorem Vw.strI {f : Nat → Option Nat} {n : Nat} {x : List UInt8} : Vw f n (.str x) (.str x) := by simp [Vw]
theorem Vw.nilsI {f : Nat → Option Nat} {n : Nat} : Vw f n .nils .nils := by simp [Vw]
theorem Vw.nilpI {f : Nat → Option Nat} {n : Nat} : Vw f n .nilp .nilp := by simp [Vw]
theorem Vw.ptrI {f : Nat → Option Nat} {n b b' i o : Nat} (hb : b < n) (hf : f b = some b') : Vw f n (.ptr false b i o) (.ptr false b' i o) := by
  simp only [Vw]; exact ⟨hb, b', hf, rfl⟩
theorem Vw.slI {f : Nat → Option Nat} {n b b' i len : Nat} {u : Cp} (hb : b < n) (hf : f b = some b') : Vw f n (.sl false b i len u) (.sl false b' i len u) := by
  simp only [Vw]; exact ⟨hb, .inl ⟨b', u, hf, rfl, Cp.le_refl u⟩⟩
theorem Vw.slE {f : Nat → Option Nat} {n b b' i len : Nat} {u : Cp} (hb : b < n) (hf : f b = some b') : Vw f n (.sl false b i len .no) (.sl false b' i len u) := by
  simp only [Vw]; exact ⟨hb, .inl ⟨b', u, hf, rfl, Cp.no_le u⟩⟩
theorem Vw.slV {f : Nat → Option Nat} {n b i : Nat} {u : Bool} (hb : b < n) (hf : f b = none) : Vw f n (.sl false b i 0 u) .nils := by
  unfold Vw; exact ⟨hb, .inr ⟨hf, rfl, by cases u <;> simp [CpOK], rfl⟩⟩
theorem Vw.slN {f : Nat → Option Nat} {n b i : Nat} (hb : b < n) (hf : f b = none) : Vw f n (.sl false b i 0 .no) .nils := by
  unfold Vw; exact ⟨hb, .inr ⟨hf, rfl, trivial, rfl⟩⟩
theorem Vw.aggI {f : Nat → Option Nat} {n : Nat} {x y : List AV} (h : VwL f n x y) : Vw f n (.agg x) (.agg y) := by
  simp only [Vw]; exact ⟨y, rfl, h⟩
theorem Vw.tupI {f : Nat → Option Nat} {n : Nat} {x y : List AV} (h : VwL f n x y) : Vw f n (.tup x) (.tup y) := by
  simp only [Vw]; exact ⟨y, rfl, h⟩
theorem Vw.gndI {f : Nat → Option Nat} {n : Nat} {x : AV} (h : Go.Dc.gnd x = true) : Vw f n x x := gnd_vw f n x h
end Go.Dc
end

section
/- A call that is known for one row alone holds wherever that row lies. -/
set_option linter.unusedSimpArgs false
set_option linter.unusedVariables false
namespace Go.Dc

def oneV (b : Nat) : Nat → Option Nat := fun c => bif Nat.beq c 0 then some b else none
def g1 (b N : Nat) : Nat → Nat := fun c => bif Nat.beq c 0 then b else N + c

theorem ext_one (b N : Nat) : ext (oneV b) 1 N = g1 b N := by
  funext c
  cases c with
  | zero => rfl
  | succ c => exact ext_ge (Nat.succ_le_succ (Nat.zero_le c))

theorem merged_one {b : Nat} {h : Rows} (hb : b < h.length) (o : Option Row) (tl : Rows) :
    merged (oneV b) 1 1 h (o :: tl) = h.set b (o.map (renRow (g1 b h.length))) ++ none :: tl.map (Option.map (renRow (g1 b h.length))) := by
  unfold merged
  rw [ext_one]
  refine List.ext_getElem? fun c => ?_
  rw [List.getElem?_map]
  have gs : ∀ k, g1 b h.length (k + 1) = h.length + (k + 1) := fun k => rfl
  have gz : g1 b h.length 0 = b := rfl
  rcases Nat.lt_or_ge c (h.length + (o :: tl).length) with hlt | hge
  · rw [List.getElem?_range hlt]
    simp only [Option.map_some]
    simp only [List.length_cons] at hlt ⊢
    rcases Nat.lt_or_ge c h.length with h1 | h1
    · rw [List.getElem?_append_left (by simpa using h1)]
      by_cases hcb : c = b
      · subst hcb
        have hf : findC (g1 c h.length) c (tl.length + 1) = some 0 := by
          have := findC_inj (g := g1 c h.length) (c := 0) (n := tl.length + 1) (by omega) (fun c' _ he => by
            cases c' with
            | zero => rfl
            | succ c' => rw [gs, gz] at he; omega)
          rwa [gz] at this
        rw [hf, List.getElem?_set_self h1]
        rfl
      · have hf : findC (g1 b h.length) c (tl.length + 1) = none := by
          cases hf : findC (g1 b h.length) c (tl.length + 1) with
          | none => rfl
          | some d =>
            have := (findC_some hf).2
            cases d with
            | zero => rw [gz] at this; omega
            | succ d => rw [gs] at this; omega
        rw [hf, List.getElem?_set_ne (fun e => hcb e.symm)]
        have hs : seen (oneV b) c 1 = false := by
          show (match oneV b 0 with | some b' => bif Nat.beq b' c then true else seen (oneV b) c 0 | none => seen (oneV b) c 0) = false
          show (bif Nat.beq b c then true else false) = false
          rw [show Nat.beq b c = false by rw [Bool.eq_false_iff]; exact fun e => hcb (Nat.eq_of_beq_eq_true e).symm]
          rfl
        simp only [hs, cond_false, Rows.live, List.getElem?_eq_getElem h1, Option.join_some]
    · rw [List.getElem?_append_right (by simpa using h1), List.length_set]
      obtain ⟨d, rfl⟩ : ∃ d, c = h.length + d := ⟨c - h.length, by omega⟩
      rw [show h.length + d - h.length = d by omega]
      cases d with
      | zero =>
        have hf : findC (g1 b h.length) (h.length + 0) (tl.length + 1) = none := by
          cases hf : findC (g1 b h.length) (h.length + 0) (tl.length + 1) with
          | none => rfl
          | some d =>
            have := (findC_some hf).2
            cases d with
            | zero => rw [gz] at this; omega
            | succ d => rw [gs] at this; omega
        rw [hf]
        have hl : h.live (h.length + 0) = none := by
          unfold Rows.live
          rw [List.getElem?_eq_none (by omega)]
          rfl
        simp only [hl]
        cases seen (oneV b) (h.length + 0) 1 <;> rfl
      | succ d =>
        have hf : findC (g1 b h.length) (h.length + (d + 1)) (tl.length + 1) = some (d + 1) := by
          have := findC_inj (g := g1 b h.length) (c := d + 1) (n := tl.length + 1) (by omega) (fun c' _ he => by
            cases c' with
            | zero => rw [gs, gz] at he; omega
            | succ c' => rw [gs, gs] at he; omega)
          rwa [gs] at this
        rw [hf]
        simp only [List.getElem?_cons_succ, List.getElem?_map]
        have hd : d < tl.length := by omega
        simp only [Rows.live, List.getElem?_cons_succ, List.getElem?_eq_getElem hd, Option.join_some, Option.map_some]
  · rw [List.getElem?_eq_none (by simpa using hge), List.getElem?_eq_none (by simp at hge ⊢; omega)]
    rfl

theorem SafeCall.focus1 {P : Program} {R : Nat → RoRow} {fn : FuncId} {argsL args : List AV} {r r0 : Row} {h : Rows} {b : Nat} {V : AV} {o : Option Row} {tl : Rows}
    (hb : h[b]? = some (some r0)) (hr : RowV (oneV b) 1 r r0) (hA : VwL (oneV b) 1 argsL args) (hs : SafeCall P R fn argsL [some r] fun v h' => v = V ∧ h' = o :: tl) :
    SafeCall P R fn args h fun v'' h'' => v'' = ren (g1 b h.length) V ∧ h'' = h.set b (o.map (renRow (g1 b h.length))) ++ Option.none :: tl.map (Option.map (renRow (g1 b h.length))) := by
  have hlt : b < h.length := (List.getElem?_eq_some_iff.1 hb).1
  have hV : View (oneV b) [some r] h := View.of (fun c o ho => by
    cases c with
    | zero => cases ho; exact ViewL.at_ (b := b) rfl hb hr
    | succ c => simp at ho) (fun c c' d hc hc' _ _ => by simp at hc hc'; omega)
  refine (hs.focus hV hA).mono ?_
  rintro v'' h'' ⟨v', h', ⟨rfl, rfl⟩, rfl, rfl⟩
  refine ⟨?_, merged_one hlt o tl⟩
  show ren (ext (oneV b) 1 h.length) _ = _
  rw [ext_one]
end Go.Dc
end

section
/- Rows that came behind those of before, forgotten. -/
set_option linter.unusedSimpArgs false
set_option linter.unusedVariables false
namespace Go.Dc

theorem live_append {h j : Rows} {c : Nat} (hc : c < h.length) : Rows.live (h ++ j) c = h.live c := by
  unfold Rows.live
  rw [List.getElem?_append_left hc]

theorem WR.prefixView {R : Nat → RoRow} {m : Map} {h : Rows} {w : World} (hW : WR R m h w) (j : Rows) : View some h (h ++ j) where
  lt := fun c b hc hb => by simp at hb; simp; omega
  inj := fun c c' b _ _ h1 h2 => by simp at h1 h2; omega
  row := fun c r hc => by
    rcases hW.idView.row c r hc with ⟨b, r', h1, h2, h3⟩ | ⟨h1, h2⟩
    · refine .inl ⟨b, r', h1, ?_, h3⟩
      rw [live_append (live_lt h2)]
      exact h2
    · exact .inr ⟨h1, h2⟩

theorem SafeCall.trim {P : Program} {R : Nat → RoRow} {fn : FuncId} {args : List AV} {h : Rows} {Q : AV → Prop} (hs : SafeCall P R fn args h fun v h' => Q v ∧ ∃ j, h' = h ++ j) (hg : ∀ v, Q v → gnd v = true) :
    SafeCall P R fn args h fun v h' => Q v ∧ h' = h := by
  intro m w m0 h0 w0 vs has hW hstep
  refine (hs m w m0 h0 w0 vs has hW hstep).mono ?_
  rintro e w' ⟨c, v, m', h', rfl, ⟨hq, j, rfl⟩, hd, hW', hs'⟩
  have hV := hW.prefixView j
  exact ⟨c, v, _, h, rfl, ⟨hq, rfl⟩, (gnd_vw some h.length v (hg v hq)).den _ _ _ hd, hW'.view hV, hs'.forget hV (fun c hc => rfl) hstep.len⟩

theorem SafeCall.trimV {P : Program} {R : Nat → RoRow} {fn : FuncId} {args : List AV} {h : Rows} {Q : AV → Prop} (hs : SafeCall P R fn args h fun v h' => Q v ∧ (View some h h → View some h h')) (hg : ∀ v, Q v → gnd v = true) :
    SafeCall P R fn args h fun v h' => Q v ∧ h' = h := by
  intro m w m0 h0 w0 vs has hW hstep
  refine (hs m w m0 h0 w0 vs has hW hstep).mono ?_
  rintro e w' ⟨c, v, m', h', rfl, ⟨hq, hj⟩, hd, hW', hs'⟩
  have hV := hj hW.idView
  exact ⟨c, v, _, h, rfl, ⟨hq, rfl⟩, (gnd_vw some h.length v (hg v hq)).den _ _ _ hd, hW'.view hV, hs'.forget hV (fun c hc => rfl) hstep.len⟩

/-- One row told otherwise, and rows behind. -/
theorem View.setAppend {h : Rows} {b : Nat} {r r' : Row} (hb : h[b]? = some (some r)) (hr : RowV some h.length r r') (j : Rows) (hV : View some h h) : View some h (h.set b (some r') ++ j) where
  lt := fun c d hc hd => by have := hV.lt c d hc hd; simp; omega
  inj := hV.inj
  row := fun c q hc => by
    have hlt : c < h.length := live_lt hc
    by_cases hcb : c = b
    · subst hcb
      have hq : q = r := by
        unfold Rows.live at hc
        rw [hb] at hc
        simpa using hc.symm
      subst hq
      refine .inl ⟨c, r', rfl, ?_, hr⟩
      rw [live_append (by simpa using hlt)]
      unfold Rows.live
      rw [List.getElem?_set_self hlt]
      rfl
    · rcases hV.row c q hc with ⟨d, q', h1, h2, h3⟩ | ⟨h1, h2⟩
      · cases h1
        refine .inl ⟨c, q', rfl, ?_, h3⟩
        rw [live_append (by simpa using hlt)]
        unfold Rows.live at h2 ⊢
        rw [List.getElem?_set_ne (fun e => hcb e.symm)]
        exact h2
      · exact .inr ⟨h1, h2⟩

theorem Safe.trim {P : Program} {R : Nat → RoRow} {c : Code} {st : St} {X : Exit → List AV → Prop} (hs : Safe P R c st fun e st' => ∃ T', X e T' ∧ (∃ j, st'.rows = st.rows ++ j) ∧ VwL some st.rows.length T' st'.tmps) :
    Safe P R c st fun e st' => X e st'.tmps ∧ st'.rows = st.rows := by
  intro m a w m0 h0 w0 hr hstep
  refine wp_mono (hs m a w m0 h0 w0 hr hstep) ?_
  rintro e a' w' ⟨m', st', hok, ⟨T', hX, ⟨j, hj⟩, hT⟩, hr', hs'⟩
  have hV := hr.wr.prefixView j
  rw [← hj] at hV
  have hVS : StV some ⟨T', st.rows⟩ st' := ⟨hV, hT⟩
  exact ⟨_, ⟨T', st.rows⟩, hok, ⟨hX, rfl⟩, hr'.view hVS, hs'.forget hV (fun c hc => rfl) hstep.len⟩

/-- A block, by what it holds. -/
theorem Safe.block {P : Program} {R : Nat → RoRow} {c : Code} {id : Nat} {st : St} {Q : Exit → St → Prop} (hs : Safe P R c st fun e st' => Q (blockExit id e) st') : Safe P R (.block id c) st Q := by
  intro m a w m0 h0 w0 hr hstep
  refine wp_block (wp_mono (hs m a w m0 h0 w0 hr hstep) ?_)
  rintro e a' w' ⟨m', st', hok, hx, hr', hs'⟩
  cases e with
  | normal => exact ⟨m', st', trivial, hx, hr', hs'⟩
  | ret => exact ⟨m', st', trivial, hx, hr', hs'⟩
  | exit id' =>
    simp only [Exit.inBlock]
    simp only [blockExit] at hx
    by_cases hid : id' = id
    · rw [if_pos hid]
      subst hid
      simp only [Nat.beq_refl, cond_true] at hx
      exact ⟨m', st', trivial, hx, hr', hs'⟩
    · rw [if_neg hid]
      have e : Nat.beq id' id = false := by rw [Bool.eq_false_iff]; exact fun e => hid (Nat.eq_of_beq_eq_true e)
      simp only [e, cond_false] at hx
      exact ⟨m', st', trivial, hx, hr', hs'⟩
  | goto l => exact hok.elim
  | panic ch => exact hok.elim
  | outgrown => exact hok.elim
end Go.Dc
end
