/- A range over slices.Backward on abstract states: the rule. -/
import Derived.Test.YtghhcilbjdgonaaDcZc
set_option linter.unusedSimpArgs false
set_option linter.unusedVariables false
namespace Go.Dc

/-- An element of a slice, as a load reads it. -/
def ElemAt (W : World) (b o n : Nat) (v : Value) : Prop :=
  (n = 1 ∧ single v = true ∧ W.cell? ⟨b, o, none⟩ = some v) ∨
  ∃ vs : Array Value, v = .agg vs ∧ vs.size = n ∧ ∀ t x, vs[t]? = some x → single x = true ∧ W.cell? ⟨b, o + t, none⟩ = some x

/-- What slices.Backward's closure does: it calls the round at each place, the last one first. -/
def BackOK (P : Program) (gf esz : Nat) : Prop :=
  ∀ (l bb bo blk off len cap : Nat) (a : Option Addr) (vals : Nat → Value) (J : Nat → World → Prop) (Jx : World → Prop) (W : World),
    len ≤ cap → cap ≤ maxLen → (0 < len → a = some ⟨blk, off, none⟩) → W.cell? ⟨bb, bo, none⟩ = some (.slice a len cap) →
    (∀ j, j < len → ElemAt W blk (off + j * esz) esz (vals j)) →
    (∀ k W1 W2, J k W1 → W1.grownBy W2 none → J k W2) →
    (∀ k W1, k < len → J k W1 → W1.heap[bb]? = W.heap[bb]? → W1.heap[blk]? = W.heap[blk]? → YieldAt Fence.wide 0 P l #[.int .i64 ((len - 1 - k : Nat) : Int), vals (len - 1 - k)] W1 fun e W' =>
       (e = .returned (.bool true) ∧ J (k + 1) W' ∧ W'.heap[bb]? = W1.heap[bb]? ∧ W'.heap[blk]? = W1.heap[blk]?) ∨ (e = .returned (.bool false) ∧ Jx W')) →
    J 0 W →
    Calls P gf #[.func (.yield l) #[] #[], .pointer (some ⟨bb, bo, none⟩)] W fun e W' => (∃ v, e = .returned v) ∧ (J len W' ∨ Jx W')

def jumpOf : Exit → Option Code
  | .ret => some .ret
  | .exit id => some (.exit id)
  | _ => none

/-- An element in the cells of a block, as a load reads it. -/
theorem elem_of {m : Map} {n : Nat} {w : World} {blk shift esz i : Nat} {c : Array Value} {ty : TypeId} {fz : Nat × Nat} {e : AV} (hc : w.heap[blk]? = some (.cells c ty fz)) (hl : e.cells.length = esz)
    (hcell : ∀ o a, e.cells[o]? = some a → a.one = true ∧ ∃ v, c[shift + (i * esz + o)]? = some v ∧ Den m n a v) :
    ∃ v, ElemAt w blk (shift + i * esz) esz v ∧ Den m n e v := by
  have rd : ∀ o v, c[shift + (i * esz + o)]? = some v → w.cell? ⟨blk, shift + i * esz + o, none⟩ = some v := by
    intro o v hv2
    simp only [World.cell?, hc]
    rw [Nat.add_assoc]
    simpa using hv2
  by_cases ha : ∃ cs, e = .agg cs
  · obtain ⟨cs, rfl⟩ := ha
    have hlen : cs.length = esz := hl
    have get : ∀ o, o < esz → ∃ v, c[shift + (i * esz + o)]? = some v := by
      intro o ho
      have : o < cs.length := by omega
      obtain ⟨_, v, hv2, _⟩ := hcell o cs[o] (by simp [AV.cells, this])
      exact ⟨v, hv2⟩
    let vs : Array Value := Array.ofFn (n := esz) fun o => (get o.1 o.2).choose
    have hvs : ∀ t x, vs[t]? = some x → t < esz ∧ c[shift + (i * esz + t)]? = some x := by
      intro t x hx
      have ht : t < esz := by
        have := (Array.getElem?_eq_some_iff.1 hx).1
        simpa [vs] using this
      refine ⟨ht, ?_⟩
      have : x = (get t ht).choose := by
        have := (Array.getElem?_eq_some_iff.1 hx).2
        simpa [vs] using this.symm
      rw [this]
      exact (get t ht).choose_spec
    refine ⟨.agg vs, .inr ⟨vs, rfl, by simp [vs], ?_⟩, ?_⟩
    · intro t x hx
      obtain ⟨ht, hxc⟩ := hvs t x hx
      have : t < cs.length := by omega
      obtain ⟨h1', v, hv2, hd2⟩ := hcell t cs[t] (by simp [AV.cells, this])
      rw [hxc] at hv2
      cases hv2
      exact ⟨hd2.oneCell h1', rd t x hxc⟩
    · simp only [Den]
      refine ⟨vs, rfl, DenL.of (by simp [vs, hlen]) ?_⟩
      intro t a ha2
      have ht : t < cs.length := (List.getElem?_eq_some_iff.1 ha2).1
      obtain ⟨_, v, hv2, hd2⟩ := hcell t a (by simpa [AV.cells] using ha2)
      have hlt : t < vs.size := by simp [vs]; omega
      refine ⟨vs[t], by simp [hlt], ?_⟩
      obtain ⟨_, hxc⟩ := hvs t vs[t] (by simp [hlt])
      rw [hxc] at hv2
      cases hv2
      exact hd2
  · have hce : e.cells = [e] := by
      cases e <;> simp [AV.cells] at ha ⊢
    have h1' : esz = 1 := by rw [← hl, hce]; rfl
    obtain ⟨hone, v, hv2, hd2⟩ := hcell 0 e (by rw [hce]; rfl)
    exact ⟨v, .inl ⟨h1', hd2.oneCell hone, by simpa using rd 0 v hv2⟩, hd2⟩

theorem RowOK.elem {m : Map} {n : Nat} {l : Loc} {r : Row} {w : World} (h : RowOK m n l r w) (hv : l.vir = false) {i : Nat} {e : AV} (he : r.get? i = some e) :
    ∃ v, ElemAt w l.blk (l.shift + i * l.esz) l.esz v ∧ Den m n e v := by
  obtain ⟨h1, h2, h3⟩ := h
  rw [hv] at h3
  simp only [Bool.false_eq_true, if_false] at h3
  obtain ⟨c, fz, hc, hs, hf, hd⟩ := h3
  obtain ⟨hl, hcell⟩ := hd i e he
  exact elem_of hc hl hcell

theorem RoOK.elem {m : Map} {l : Loc} {r : RoRow} {w : World} (h : RoOK m l r w) (hv : l.vir = false) {i : Nat} (hi : i < r.n) :
    ∃ v, ElemAt w l.blk (l.shift + i * l.esz) l.esz v ∧ Den m 0 (r.at_ i) v := by
  obtain ⟨h1, h2, h3⟩ := h
  rw [hv] at h3
  simp only [Bool.false_eq_true, if_false] at h3
  obtain ⟨c, fz, hc, hd⟩ := h3 (by omega)
  obtain ⟨hl, hcell⟩ := hd i hi
  exact elem_of hc hl hcell

theorem fold2 (p0 p1 : Tmp) (t : Array Value) (x y : Value) : (#[p0, p1].zip #[x, y]).foldl (fun tmps (t, a) => tmps.setIfInBounds t a) t = (t.setIfInBounds p0 x).setIfInBounds p1 y := by
  rw [← Array.foldl_toList, Array.toList_zip]
  rfl

theorem clr_mk (a : Act) (ds : List Deferred) : clr { a with defers := ds } = clr a := rfl

/-- Fewer rows: those of before, and what is still of use of the others. -/
def FitR (nk : Nat) (rowsE rows : Rows) : Prop := ∃ f : Nat → Option Nat, View f rowsE rows ∧ (∀ c, c < nk → f c = some c) ∧ nk ≤ rowsE.length

/-- **The statement.** -/
theorem range_ok {P : Program} {R : Nat → RoRow} {gf esz : Nat} (hB : BackOK P gf esz) (hent : ∀ args w, (callFunc gf args).run P w = .ok (.enter gf args) w)
    {st : St} {g : Operand} {p0 p1 : Tmp} {assign body : Code} {bx : Nat} (hg : st.ev g = .fn gf [] [.ptr false bx 0 0])
    {rb : Row} (hbx : st.rows.live bx = some rb) {sv : AV} (hsv0 : rb.get? 0 = some sv)
    {ds : List Nat} {len : Nat} {els : Nat → AV} (hbd : bx ∈ ds)
    (hsv : (sv = .nils ∧ len = 0) ∨ (∃ b i full r, sv = .sl false b i len full ∧ st.rows.live b = some r ∧ r.esz = esz ∧ b ∈ ds ∧ ∀ j, j < len → r.get? (i + j) = some (els j)) ∨
      (∃ b i full, sv = .sl true b i len full ∧ (R b).esz = esz ∧ i + len ≤ (R b).n ∧ ∀ j, j < len → els j = (R b).at_ (i + j)))
    {I : Nat → Rows → Prop} {X : Exit → Rows → Prop} (h0 : I 0 (dead ds st.rows))
    (hround : ∀ l k rows, k < len → I k rows → SafeR (some l) [] P R assign ⟨(st.tmps.set p0 (.int .i64 ((len - 1 - k : Nat) : Int))).set p1 (els (len - 1 - k)), rows⟩ fun e st1 => e = .normal ∧
      SafeR (some l) [] P R body st1 fun e st2 => ∃ rowsE, (rowsE = st2.rows ∨ FitR st.rows.length rowsE st2.rows) ∧ match e with | .normal => I (k + 1) rowsE | e => X e rowsE)
    {Q : Exit → St → Prop} (hdone : ∀ rows, I len rows → Q .normal ⟨st.tmps, revive ds st.rows rows⟩)
    (hexit : ∀ e rows, X e rows → Q e ⟨st.tmps, revive ds st.rows rows⟩) :
    SafeM P R (.rangeFunc g #[p0, p1] assign body) st Q := by
  intro m a w m0 h0' w0 hk hr hs
  have hev := hr.ev g
  rw [hg] at hev
  simp only [Den, DenL] at hev
  obtain ⟨us, lb, hfv, hus, hcap⟩ := hev
  obtain ⟨pv, ps', hlb, ⟨hbxn, hbvir, hpv⟩, hnil⟩ := hcap
  subst hnil
  have hbvir := hbvir
  simp only [Map.loc, Bool.false_eq_true, if_false] at hbvir hpv
  have hus' : us = #[] := by
    cases us with
    | mk l => simp at hus; rw [hus]
  have hlb' : lb = #[pv] := by
    cases lb with
    | mk l => simp at hlb; rw [hlb]
  subst hus' hlb' hpv
  -- the slice
  have hW := hr.wr
  obtain ⟨sval, hsel, hsden⟩ := (hW.row bx rb hbx).elem hbvir hsv0
  refine wpIn_rangeFunc ?_
  intro fn hfn
  obtain ⟨rec, hrec⟩ : ∃ rec : LoopState → Option Code → Loop, rec = fun st pe => { state := st, pending := pe, fn, tmps := a.tmps, params := #[p0, p1], assign, body, defers := w.heap.size } := ⟨_, rfl⟩
  obtain ⟨W1, hW1⟩ : ∃ W1, (w.alloc (.deferred (some []))).alloc (.loop (rec .ready none)) = W1 := ⟨_, rfl⟩
  have hL1 : W1.heap[w.heap.size + 1]? = some (.loop (rec .ready none)) := by
    rw [← hW1]; have := World.alloc_heap_new (w.alloc (.deferred (some []))) (.loop (rec .ready none)); rwa [World.size_alloc] at this
  have hD1 : W1.heap[w.heap.size]? = some (.deferred (some [])) := by
    rw [← hW1, heap_alloc_old _ _ _ (by simp)]; exact World.alloc_heap_new w _
  have ht1 : Turned w.heap.size w W1 := by
    rw [← hW1]
    exact (Turned.alloc w _ (Nat.le_refl _)).trans (Turned.alloc _ _ (by simp))
  have hsz1 : W1.heap.size = w.heap.size + 2 := by rw [← hW1]; simp
  -- what stands between two rounds
  let Base : Nat → Map → Rows → World → Prop := fun _ m' rows W => WR R m' rows W ∧ Step m (dead ds st.rows) w m' rows W
  let J : Nat → World → Prop := fun k W => ∃ m' rows, I k rows ∧ WR R m' rows W ∧ Step m (dead ds st.rows) w m' rows W ∧ W.heap[w.heap.size + 1]? = some (.loop (rec .ready none)) ∧ W.heap[w.heap.size]? = some (.deferred (some []))
  let Jx : World → Prop := fun W => ∃ e c m' rows, jumpOf e = some c ∧ X e rows ∧ WR R m' rows W ∧ Step m (dead ds st.rows) w m' rows W ∧ W.heap[w.heap.size + 1]? = some (.loop (rec .done (some c))) ∧ W.heap[w.heap.size]? = some (.deferred (some []))
  have J0 : J 0 W1 := ⟨m, _, h0, (hW.dead ds).others ht1.others, (Step.refl m (dead ds st.rows) w).turned ht1, hL1, hD1⟩
  -- the address of the elements, and the elements
  obtain ⟨blk, off, cap, ao, vals, hsval, hlc, hcm, hao, hel, hden, hblk⟩ : ∃ (blk off cap : Nat) (ao : Option Addr) (vals : Nat → Value), sval = .slice ao len cap ∧ len ≤ cap ∧ cap ≤ maxLen ∧ (0 < len → ao = some ⟨blk, off, none⟩) ∧
      (∀ j, j < len → ElemAt w blk (off + j * esz) esz (vals j)) ∧ (∀ j, j < len → Den m st.rows.length (els j) (vals j)) ∧
      (0 < len → blk < w.heap.size ∧ ∀ b r, (dead ds st.rows).live b = some r → (m.mu b).vir = false → (m.mu b).blk ≠ blk) := by
    rcases hsv with ⟨rfl, rfl⟩ | ⟨b, i, full, r, rfl, hb, hre, hbd', hels⟩ | ⟨b, i, full, rfl, hre, hin, hels⟩
    · simp only [Den] at hsden
      exact ⟨0, 0, 0, none, fun _ => undef, hsden, Nat.le_refl _, Nat.zero_le _, by omega, by omega, by omega, by omega⟩
    · simp only [Den, Map.loc, Bool.false_eq_true, if_false, SlDen] at hsden
      obtain ⟨_, hsden⟩ := hsden
      cases hv : (m.mu b).vir with
      | true =>
        rw [hv] at hsden
        simp only [if_true] at hsden
        obtain ⟨rfl, ao, rfl, _⟩ := hsden
        exact ⟨0, 0, 0, ao, fun _ => undef, rfl, Nat.le_refl _, Nat.zero_le _, by omega, by omega, by omega, by omega⟩
      | false =>
        rw [hv] at hsden
        simp only [Bool.false_eq_true, if_false] at hsden
        obtain ⟨a', cap, rfl, h1, h2, _, h4⟩ := hsden
        have hrow := hW.row b r hb
        have hesz : (m.mu b).esz = esz := hrow.1.trans hre
        have each : ∀ j, j < len → ∃ v, ElemAt w (m.mu b).blk ((m.mu b).shift + i * esz + j * esz) esz v ∧ Den m st.rows.length (els j) v := by
          intro j hj
          have := hrow.elem hv (hels j hj)
          rwa [hesz, Nat.add_mul, ← Nat.add_assoc] at this
        refine ⟨(m.mu b).blk, (m.mu b).shift + i * esz, cap, some a', fun j => if hj : j < len then (each j hj).choose else undef, rfl, h1, h2, ?_, ?_, ?_, ?_⟩
        · intro hl
          obtain ⟨e1, _⟩ := h4 (by omega)
          rw [e1, hesz]
        · intro j hj
          simp only [hj, dif_pos]
          exact (each j hj).choose_spec.1
        · intro j hj
          simp only [hj, dif_pos]
          exact (each j hj).choose_spec.2
        · intro _
          refine ⟨?_, ?_⟩
          · obtain ⟨_, _, h3⟩ := hrow
            rw [hv] at h3
            simp only [Bool.false_eq_true, if_false] at h3
            obtain ⟨c, fz, hc, _⟩ := h3
            exact (Array.getElem?_eq_some_iff.1 hc).1
          · intro c rc hc hcv e
            rw [dead_live] at hc
            split at hc
            · cases hc
            · rename_i hn
              have := hW.apart c b rc r hc hb hcv hv e
              exact hn (this ▸ hbd')
    · simp only [Den, Map.loc, if_true, SlDen] at hsden
      obtain ⟨_, hsden⟩ := hsden
      cases hv : (m.ro b).vir with
      | true =>
        rw [hv] at hsden
        simp only [if_true] at hsden
        obtain ⟨rfl, ao, rfl, _⟩ := hsden
        exact ⟨0, 0, 0, ao, fun _ => undef, rfl, Nat.le_refl _, Nat.zero_le _, by omega, by omega, by omega, by omega⟩
      | false =>
        rw [hv] at hsden
        simp only [Bool.false_eq_true, if_false] at hsden
        obtain ⟨a', cap, rfl, h1, h2, _, h4⟩ := hsden
        have hrow := hW.ro b
        have hesz : (m.ro b).esz = esz := hrow.1.trans hre
        have each : ∀ j, j < len → ∃ v, ElemAt w (m.ro b).blk ((m.ro b).shift + i * esz + j * esz) esz v ∧ Den m st.rows.length (els j) v := by
          intro j hj
          obtain ⟨v, hv1, hv2⟩ := hrow.elem hv (i := i + j) (by omega)
          rw [hesz, Nat.add_mul, ← Nat.add_assoc] at hv1
          rw [hels j hj]
          exact ⟨v, hv1, hv2.mono (Nat.zero_le _) (fun _ _ => rfl) rfl⟩
        refine ⟨(m.ro b).blk, (m.ro b).shift + i * esz, cap, some a', fun j => if hj : j < len then (each j hj).choose else undef, rfl, h1, h2, ?_, ?_, ?_, ?_⟩
        · intro hl
          obtain ⟨e1, _⟩ := h4 (by omega)
          rw [e1, hesz]
        · intro j hj
          simp only [hj, dif_pos]
          exact (each j hj).choose_spec.1
        · intro j hj
          simp only [hj, dif_pos]
          exact (each j hj).choose_spec.2
        · intro hl
          refine ⟨?_, ?_⟩
          · obtain ⟨_, _, h3⟩ := hrow
            rw [hv] at h3
            simp only [Bool.false_eq_true, if_false] at h3
            obtain ⟨c, fz, hc, _⟩ := h3 (by omega)
            exact (Array.getElem?_eq_some_iff.1 hc).1
          · intro c rc hc hcv e
            rw [dead_live] at hc
            split at hc
            · cases hc
            · exact hW.roApart b c rc hc hcv hv (by omega) e.symm
  subst hsval
  have hbb : (m.mu bx).blk < w.heap.size ∧ ∀ b r, (dead ds st.rows).live b = some r → (m.mu b).vir = false → (m.mu b).blk ≠ (m.mu bx).blk := by
    refine ⟨?_, ?_⟩
    · obtain ⟨_, _, h3⟩ := hW.row bx rb hbx
      rw [hbvir] at h3
      simp only [Bool.false_eq_true, if_false] at h3
      obtain ⟨c, fz, hc, _⟩ := h3
      exact (Array.getElem?_eq_some_iff.1 hc).1
    · intro c rc hc hcv e
      rw [dead_live] at hc
      split at hc
      · cases hc
      · rename_i hn
        have := hW.apart c bx rc rb hc hbx hcv hbvir e
        exact hn (this ▸ hbd)
  have hcell : W1.cell? ⟨(m.mu bx).blk, (m.mu bx).shift + (0 * (m.mu bx).esz + 0), none⟩ = some (.slice ao len cap) := by
    rw [World.cell?_of_block (w := w) (ht1.below _ hbb.1)]
    rcases hsel with ⟨_, _, h⟩ | ⟨vs, h, _⟩
    · simpa using h
    · cases h
  refine ⟨w.heap.size + 1, [{ target := .collected w.heap.size, args := #[] }], W1, { target := .fn (.func gf) #[.pointer (some ⟨(m.mu bx).blk, (m.mu bx).shift + (0 * (m.mu bx).esz + 0), none⟩)], args := #[.func (.yield (w.heap.size + 1)) #[] #[]] }, W1, gf,
    #[.func (.yield (w.heap.size + 1)) #[] #[]] ++ #[.pointer (some ⟨(m.mu bx).blk, (m.mu bx).shift + (0 * (m.mu bx).esz + 0), none⟩)], W1, ?_, ?_, ?_, ?_, ?_, ?_⟩
  · rw [← hW1, hrec]; exact run_enterLoop_outer _ _ _ _ _
  · have hfv' : a.eval g = .func (.func gf) #[] #[.pointer (some ⟨(m.mu bx).blk, (m.mu bx).shift + (0 * (m.mu bx).esz + 0), none⟩)] := hfv
    simp only [resolve, hfv']
    simp [go_sem]
  · intro f' _; trivial
  · simp [invoke, go_sem, hent]
  · intro h; simp [Fd, Fence.wide] at h
  · refine (callsR (rd := none) (n := 0) (hB (w.heap.size + 1) _ _ blk off len cap ao vals J Jx W1 hlc hcm hao hcell ?_ ?_ ?_ J0)).mono ?_
    · intro j hj
      have hb1 := (hblk (by omega)).1
      rcases hel j hj with ⟨h1, h2, h3⟩ | ⟨vs, h1, h2, h3⟩
      · exact .inl ⟨h1, h2, by rw [World.cell?_of_block (w := w) (ht1.below _ hb1)]; exact h3⟩
      · exact .inr ⟨vs, h1, h2, fun t x hx => ⟨(h3 t x hx).1, by rw [World.cell?_of_block (w := w) (ht1.below _ hb1)]; exact (h3 t x hx).2⟩⟩
    · -- a new block minds nobody
      rintro k A B ⟨m', rows, hI, hWR, hS, hl, hd⟩ hg'
      have ht : Turned w.heap.size A B := ⟨hg'.os, hg'.tape, hg'.output, ⟨hg'.size, fun i c t fz hi => by
        rw [hg'.block i (Array.getElem?_eq_some_iff.1 hi).1 (by simp)]; exact hi⟩, fun i hi => hg'.block i (Nat.lt_of_lt_of_le hi hS.size) (by simp)⟩
      exact ⟨m', rows, hI, hWR.others ht.others, hS.turned ht, by rw [hg'.block _ (Array.getElem?_eq_some_iff.1 hl).1 (by simp)]; exact hl, by rw [hg'.block _ (Array.getElem?_eq_some_iff.1 hd).1 (by simp)]; exact hd⟩
    · -- one round
      rintro k W hlt ⟨m', rows, hI, hWR, hS, hl, hd⟩ _ _
      have hmu : ∀ b, b < st.rows.length → m'.mu b = m.mu b := fun b hb => hS.mu b (by rw [dead_length]; exact hb)
      have hlen : st.rows.length ≤ rows.length := by have := hS.len; rwa [dead_length] at this
      have hlt1 : w.heap.size + 1 < W.heap.size := (Array.getElem?_eq_some_iff.1 hl).1
      have hy := run_yield (P := P) (args := #[.int .i64 ((len - 1 - k : Nat) : Int), vals (len - 1 - k)]) hl (by rw [hrec]; rfl)
      rw [hrec] at hy
      have hfold : ∀ (t : Array Value) (x y : Value), (#[p0, p1].zip #[x, y]).foldl (fun tmps (t, a) => tmps.setIfInBounds t a) t = (t.setIfInBounds p0 x).setIfInBounds p1 y := by
        exact fold2 p0 p1
      dsimp only at hy
      rw [hfold] at hy
      refine ⟨fn, _, assign, body, hy, roundIn_of_wpIn trivial ?_⟩
      -- the state at the head of the round
      have hrel : Rel R m' ⟨(st.tmps.set p0 (.int .i64 ((len - 1 - k : Nat) : Int))).set p1 (els (len - 1 - k)), rows⟩ { tmps := (a.tmps.setIfInBounds p0 (.int .i64 ((len - 1 - k : Nat) : Int))).setIfInBounds p1 (vals (len - 1 - k)), defers := [] } W := by
        have r0 : Rel R m' ⟨st.tmps, rows⟩ { tmps := a.tmps, defers := [] } W :=
          ⟨hr.size, fun i x hx => by obtain ⟨c, hc, hd'⟩ := hr.tmps i x hx; exact ⟨c, hc, hd'.mono hlen hmu hS.ro⟩, rfl, hWR⟩
        have r1 := r0.put (Step.refl _ _ _) hWR (some p0) (v := .int .i64 ((len - 1 - k : Nat) : Int)) (c := .int .i64 ((len - 1 - k : Nat) : Int)) (by simp [Den])
        exact r1.put (Step.refl _ _ _) hWR (some p1) ((hden (len - 1 - k) (by omega)).mono hlen hmu hS.ro)
      refine wpIn_mono ((hround (w.heap.size + 1) k rows hlt hI) m' _ W m' rows W rfl hrel (Step.refl _ _ _)) ?_
      rintro e a1 W2 ⟨⟨m1, st1, hok, ⟨rfl, hbody⟩, hr1, hs1⟩, ha1⟩
      have hl2 : W2.heap[w.heap.size + 1]? = some (.loop (rec .ready none)) := hs1.keeps hWR hl (fun _ _ _ h => by cases h)
      have hd2 : W2.heap[w.heap.size]? = some (.deferred (some [])) := hs1.keeps hWR hd (fun _ _ _ h => by cases h)
      refine ⟨_, run_beginRound hl2 (by rw [hrec]), ?_⟩
      have ht2 : Turned w.heap.size W2 (W2.putObj (w.heap.size + 1) (.loop { rec .ready none with state := .busy })) := Turned.putObj _ hl2 (fun _ _ _ h => by cases h) (by omega)
      have ht2' : Turned W.heap.size W (W.putObj W.heap.size (.deferred none)) ∨ True := .inr trivial
      have hr2 : Rel R m1 st1 (clr a1) (W2.putObj (w.heap.size + 1) (.loop { rec .ready none with state := .busy })) := ⟨hr1.size, hr1.tmps, hr1.defers, hr1.wr.others ht2.others⟩
      have hlt2 : w.heap.size + 1 < W2.heap.size := (Array.getElem?_eq_some_iff.1 hl2).1
      have hl3 : (W2.putObj (w.heap.size + 1) (.loop { rec .ready none with state := .busy })).heap[w.heap.size + 1]? = some (.loop { rec .ready none with state := .busy }) := World.putObj_heap_same hlt2
      have hd3 : (W2.putObj (w.heap.size + 1) (.loop { rec .ready none with state := .busy })).heap[w.heap.size]? = some (.deferred (some [])) := (World.putObj_heap_other (by omega)).trans hd2
      refine wpIn_mono (hbody m1 a1 _ m1 st1.rows _ ha1 hr2 (Step.refl _ _ _)) ?_
      rintro e a3 W3 ⟨⟨m3, st3, hok3, ⟨rowsE, hfitE, hq3⟩, hr3, hs3⟩, ha3⟩
      have hl4 : W3.heap[w.heap.size + 1]? = some (.loop { rec .ready none with state := .busy }) := hs3.keeps hr2.wr hl3 (fun _ _ _ h => by cases h)
      have hd4 : W3.heap[w.heap.size]? = some (.deferred (some [])) := hs3.keeps hr2.wr hd3 (fun _ _ _ h => by cases h)
      have hlt4 : w.heap.size + 1 < W3.heap.size := (Array.getElem?_eq_some_iff.1 hl4).1
      -- the way from the head of the range
      have s2 : Step m (dead ds st.rows) w m1 st1.rows W2 := hS.trans hs1
      have s2' : Step m (dead ds st.rows) w m1 st1.rows (W2.putObj (w.heap.size + 1) (.loop { rec .ready none with state := .busy })) := s2.turned ht2
      have s3 : Step m (dead ds st.rows) w m3 st3.rows W3 := s2'.trans hs3
      obtain ⟨mE, hwE, hsE⟩ : ∃ mE, WR R mE rowsE W3 ∧ Step m (dead ds st.rows) w mE rowsE W3 := by
        rcases hfitE with rfl | ⟨f, hV, hf, hn⟩
        · exact ⟨m3, hr3.wr, s3⟩
        · exact ⟨_, hr3.wr.view hV, s3.forget hV (by rw [dead_length]; exact hf) (by rw [dead_length]; exact hn)⟩
      have fin : ∀ (jump : Option Code), (Instr.endRound (w.heap.size + 1) jump).run P W3 = .ok (.bool jump.isNone) (W3.putObj (w.heap.size + 1) (.loop (rec (if jump.isNone then .ready else .done) jump))) ∧
          WR R mE rowsE (W3.putObj (w.heap.size + 1) (.loop (rec (if jump.isNone then .ready else .done) jump))) ∧
          Step m (dead ds st.rows) w mE rowsE (W3.putObj (w.heap.size + 1) (.loop (rec (if jump.isNone then .ready else .done) jump))) ∧
          (W3.putObj (w.heap.size + 1) (.loop (rec (if jump.isNone then .ready else .done) jump))).heap[w.heap.size + 1]? = some (.loop (rec (if jump.isNone then .ready else .done) jump)) ∧
          (W3.putObj (w.heap.size + 1) (.loop (rec (if jump.isNone then .ready else .done) jump))).heap[w.heap.size]? = some (.deferred (some [])) := by
        intro jump
        have ht4 : Turned w.heap.size W3 (W3.putObj (w.heap.size + 1) (.loop (rec (if jump.isNone then .ready else .done) jump))) := Turned.putObj _ hl4 (fun _ _ _ h => by cases h) (by omega)
        have := run_endRound (P := P) jump hl4
        rw [hrec] at this ⊢
        rw [hrec] at ht4
        exact ⟨this, hwE.others ht4.others, hsE.turned ht4, World.putObj_heap_same hlt4, (World.putObj_heap_other (by omega)).trans hd4⟩
      -- what the iterator reads
      have keep : ∀ (jump : Option Code) (D : Nat), D < w.heap.size → (∀ b r, (dead ds st.rows).live b = some r → (m.mu b).vir = false → (m.mu b).blk ≠ D) →
          (W3.putObj (w.heap.size + 1) (.loop (rec (if jump.isNone then .ready else .done) jump))).heap[D]? = W.heap[D]? := by
        intro jump D hD hne
        rw [World.putObj_heap_other (by omega), hs3.block D (by rw [World.putObj_size]; omega) (s2.aside hD hne), World.putObj_heap_other (by omega)]
        exact hs1.block D (by omega) (hS.aside hD hne)
      cases e with
      | normal =>
        obtain ⟨hrun, hwr, hst, hl5, hd5⟩ := fin none
        exact ⟨_, _, hrun, .inl ⟨rfl, ⟨mE, rowsE, hq3, hwr, hst, hl5, hd5⟩, keep none _ hbb.1 hbb.2, keep none _ (hblk (by omega)).1 (hblk (by omega)).2⟩⟩
      | ret =>
        obtain ⟨hrun, hwr, hst, hl5, hd5⟩ := fin (some .ret)
        exact ⟨_, _, hrun, .inr ⟨rfl, .ret, .ret, mE, rowsE, rfl, hq3, hwr, hst, hl5, hd5⟩⟩
      | exit id =>
        obtain ⟨hrun, hwr, hst, hl5, hd5⟩ := fin (some (.exit id))
        exact ⟨_, _, hrun, .inr ⟨rfl, .exit id, .exit id, mE, rowsE, rfl, hq3, hwr, hst, hl5, hd5⟩⟩
      | goto t => exact hok3.elim
      | panic ch => exact hok3.elim
      | outgrown => exact hok3.elim
    · -- behind
      have marks : ∀ W' : World, W'.heap[w.heap.size]? = some (.deferred (some [])) → (∀ (D : Nat) (o : Obj), w.heap[D]? = some o → (∀ c t fz, o ≠ Obj.cells c t fz) → W'.heap[D]? = some o) → Marks w0.heap.size ({ target := .collected w.heap.size, args := #[] } :: a.defers) W' := by
        intro W' hd hold
        refine ⟨List.nodup_cons.2 ⟨?_, hk.1⟩, ?_⟩
        · intro hm
          obtain ⟨D, e, _, hD⟩ := hk.2 _ hm
          have : w.heap.size = D := by simpa using e
          subst this
          have := (Array.getElem?_eq_some_iff.1 hD).1
          omega
        · intro d hd'
          rcases List.mem_cons.1 hd' with rfl | hd'
          · exact ⟨_, rfl, hs.size, hd⟩
          · obtain ⟨D, e, hB', hD⟩ := hk.2 d hd'
            exact ⟨D, e, hB', hold D _ hD (fun _ _ _ h => by cases h)⟩
      have finish : ∀ (rows : Rows) (m' : Map) (W2 : World) (s : LoopState) (pe : Option Code) (e : Exit) (hok : match e with | .normal | .exit _ | .ret => True | _ => False), Q e ⟨st.tmps, revive ds st.rows rows⟩ → WR R m' rows W2 → Step m (dead ds st.rows) w m' rows W2 → W2.heap[w.heap.size + 1]? = some (.loop (rec s pe)) → W2.heap[w.heap.size]? = some (.deferred (some [])) →
          ∀ s', Post R Q m0 h0' w0 e (clr { a with defers := { target := .collected w.heap.size, args := #[] } :: a.defers }) (W2.putObj (w.heap.size + 1) (.loop (rec s' pe))) ∧ Marks w0.heap.size ({ target := .collected w.heap.size, args := #[] } :: a.defers) (W2.putObj (w.heap.size + 1) (.loop (rec s' pe))) := by
        intro rows m' W2 s pe e hok hq hwr hst hl hd s'
        have ht : Turned w.heap.size W2 (W2.putObj (w.heap.size + 1) (.loop (rec s' pe))) := Turned.putObj _ hl (fun _ _ _ h => by cases h) (by omega)
        obtain ⟨hw2, hs2⟩ := revive_ok hW (hst.turned ht) (hwr.others ht.others)
        have hlen : st.rows.length ≤ rows.length := by have := hst.len; rwa [dead_length] at this
        have hlen2 : st.rows.length ≤ (revive ds st.rows rows).length := by rw [revive_length]; exact hlen
        refine ⟨⟨m', ⟨st.tmps, revive ds st.rows rows⟩, hok, hq, ⟨hr.size, ?_, rfl, hw2⟩, hs.trans hs2⟩, marks _ ((World.putObj_heap_other (by omega)).trans hd) ?_⟩
        · intro i x hx
          obtain ⟨c, hc, hd'⟩ := hr.tmps i x hx
          exact ⟨c, hc, hd'.mono hlen2 (fun b hb => hst.mu b (by rw [dead_length]; exact hb)) hst.ro⟩
        · intro D o hD ho
          have hDlt := (Array.getElem?_eq_some_iff.1 hD).1
          rw [World.putObj_heap_other (by omega)]
          exact hst.keeps (hW.dead ds) hD ho
      rintro e W2 ⟨⟨v, rfl⟩, (⟨m', rows, hI, hwr, hst, hl, hd⟩ | ⟨e, c, m', rows, hj, hX, hwr, hst, hl, hd⟩)⟩
      · refine ⟨none, _, by have := run_endLoop (P := P) hl (by rw [hrec]; simp); rw [hrec] at this; exact this, ?_⟩
        have := finish rows m' W2 .ready none .normal trivial (hdone rows hI) hwr hst hl hd .exhausted
        rw [hrec] at this
        exact this
      · refine ⟨some c, _, by have := run_endLoop (P := P) hl (by rw [hrec]; simp); rw [hrec] at this; exact this, ?_⟩
        cases e with
        | ret =>
          simp only [jumpOf, Option.some.injEq] at hj
          subst hj
          have := finish rows m' W2 .done _ .ret trivial (hexit _ rows hX) hwr hst hl hd .exhausted
          rw [hrec] at this
          exact wpIn_ret this
        | exit id =>
          simp only [jumpOf, Option.some.injEq] at hj
          subst hj
          have := finish rows m' W2 .done _ (.exit id) trivial (hexit _ rows hX) hwr hst hl hd .exhausted
          rw [hrec] at this
          exact wpIn_exit this
        | _ => simp [jumpOf] at hj
end Go.Dc
