/- Ranges over slices.Backward on abstract states, and functions that hold one. -/
import Derived.Test.YtghhcilbjdgonaaDcZb
import Derived.RangeFuncRecord
set_option linter.unusedSimpArgs false
set_option linter.unusedVariables false
namespace Go.Dc

/-- What is no cells may turn. -/
structure Others (W W' : World) : Prop where
  size : W.heap.size ≤ W'.heap.size
  same : ∀ (k : Nat) c t fz, W.heap[k]? = some (Obj.cells c t fz) → W'.heap[k]? = some (Obj.cells c t fz)

theorem Others.trans {A B C : World} (h : Others A B) (k : Others B C) : Others A C :=
  ⟨Nat.le_trans h.size k.size, fun i c t fz hi => k.same i c t fz (h.same i c t fz hi)⟩

theorem WR.others {R : Nat → RoRow} {m : Map} {h : Rows} {W W' : World} (hW : WR R m h W) (ho : Others W W') : WR R m h W' where
  row := fun b r hb => by
    obtain ⟨h1, h2, h3⟩ := hW.row b r hb
    refine ⟨h1, h2, ?_⟩
    cases hv : (m.mu b).vir with
    | true => rw [hv] at h3; simpa using h3
    | false =>
      rw [hv] at h3
      simp only [Bool.false_eq_true, if_false] at h3 ⊢
      obtain ⟨c, fz, hc, rest⟩ := h3
      exact ⟨c, fz, ho.same _ _ _ _ hc, rest⟩
  apart := hW.apart
  ro := fun i => by
    obtain ⟨h1, h2, h3⟩ := hW.ro i
    refine ⟨h1, h2, ?_⟩
    cases hv : (m.ro i).vir with
    | true => rw [hv] at h3; simpa using h3
    | false =>
      rw [hv] at h3
      simp only [Bool.false_eq_true, if_false] at h3 ⊢
      intro hn
      obtain ⟨c, fz, hc, rest⟩ := h3 hn
      exact ⟨c, fz, ho.same _ _ _ _ hc, rest⟩
  roApart := hW.roApart

/-- Nothing that lay below B turns, nor any cells. -/
structure Turned (B : Nat) (W W' : World) : Prop where
  os : W'.os = W.os
  tape : W'.tape = W.tape
  output : W'.output = W.output
  others : Others W W'
  below : ∀ k, k < B → W'.heap[k]? = W.heap[k]?

theorem Turned.trans {B : Nat} {X Y Z : World} (h : Turned B X Y) (k : Turned B Y Z) : Turned B X Z :=
  ⟨k.os.trans h.os, k.tape.trans h.tape, k.output.trans h.output, h.others.trans k.others, fun i hi => (k.below i hi).trans (h.below i hi)⟩
theorem Turned.mono {B B' : Nat} {X Y : World} (h : Turned B X Y) (hb : B' ≤ B) : Turned B' X Y :=
  ⟨h.os, h.tape, h.output, h.others, fun i hi => h.below i (by omega)⟩
theorem Turned.refl (B : Nat) (W : World) : Turned B W W := ⟨rfl, rfl, rfl, ⟨Nat.le_refl _, fun _ _ _ _ h => h⟩, fun _ _ => rfl⟩

theorem Turned.putObj {B : Nat} {W : World} {l : Nat} {o : Obj} (o' : Obj) (hl : W.heap[l]? = some o) (ho : ∀ c t fz, o ≠ Obj.cells c t fz) (hB : B ≤ l) : Turned B W (W.putObj l o') :=
  ⟨rfl, rfl, rfl, ⟨by simp, fun k c t fz hk => by
    have : k ≠ l := by rintro rfl; rw [hl] at hk; cases hk; exact ho _ _ _ rfl
    rw [World.putObj_heap_other this]; exact hk⟩, fun k hk => World.putObj_heap_other (by omega)⟩

theorem heap_alloc_old (w : World) (o : Obj) (k : Nat) (h : k < w.heap.size) : (w.alloc o).heap[k]? = w.heap[k]? := by
  show (w.heap.push o)[k]? = _
  rw [Array.getElem?_push, if_neg (by omega)]

theorem Turned.alloc {B : Nat} (W : World) (o : Obj) (hB : B ≤ W.heap.size) : Turned B W (W.alloc o) :=
  ⟨rfl, rfl, rfl, ⟨by simp, fun k c t fz hk => by
    rw [heap_alloc_old _ _ _ (Array.getElem?_eq_some_iff.1 hk).1]; exact hk⟩, fun k hk => heap_alloc_old _ _ _ (by omega)⟩

theorem Step.turned {m0 m : Map} {h0 h : Rows} {w0 W W' : World} (hs : Step m0 h0 w0 m h W) (ht : Turned w0.heap.size W W') : Step m0 h0 w0 m h W' where
  os := ht.os.trans hs.os
  tape := ht.tape.trans hs.tape
  output := ht.output.trans hs.output
  size := Nat.le_trans hs.size ht.others.size
  block := fun k hk hn => (ht.below k hk).trans (hs.block k hk hn)
  len := hs.len
  mu := hs.mu
  ro := hs.ro
  new := hs.new

/-! ### Marks -/
def Mk (B : Nat) (w : World) (d : Deferred) : Prop := ∃ D, d = { target := .collected D, args := #[] } ∧ B ≤ D ∧ w.heap[D]? = some (.deferred (some []))
def Marks (B : Nat) (ds : List Deferred) (w : World) : Prop := ds.Nodup ∧ ∀ d ∈ ds, Mk B w d

/-- No live row lies where no cells lie. -/
theorem WR.not_live {R : Nat → RoRow} {m : Map} {h : Rows} {w : World} (hW : WR R m h w) {D : Nat} {o : Obj} (hD : w.heap[D]? = some o) (ho : ∀ c t fz, o ≠ Obj.cells c t fz) :
    ∀ b r, h.live b = some r → (m.mu b).vir = false → (m.mu b).blk ≠ D := by
  intro b r hb hv e
  obtain ⟨_, _, h3⟩ := hW.row b r hb
  rw [hv] at h3
  simp only [Bool.false_eq_true, if_false] at h3
  obtain ⟨c, fz, hc, _⟩ := h3
  rw [e, hD] at hc
  cases hc
  exact ho _ _ _ rfl

theorem Step.keeps {R : Nat → RoRow} {m m' : Map} {h h' : Rows} {w w' : World} (hs : Step m h w m' h' w') (hW : WR R m h w) {D : Nat} {o : Obj} (hD : w.heap[D]? = some o) (ho : ∀ c t fz, o ≠ Obj.cells c t fz) : w'.heap[D]? = some o := by
  rw [hs.block D (Array.getElem?_eq_some_iff.1 hD).1 (hW.not_live hD ho)]
  exact hD

theorem Marks.step {R : Nat → RoRow} {B : Nat} {ds : List Deferred} {m m' : Map} {h h' : Rows} {w w' : World} (hk : Marks B ds w) (hW : WR R m h w) (hs : Step m h w m' h' w') : Marks B ds w' :=
  ⟨hk.1, fun d hd => by
    obtain ⟨D, e, hB, hD⟩ := hk.2 d hd
    exact ⟨D, e, hB, hs.keeps hW hD (fun _ _ _ h => by cases h)⟩⟩

/-- Safe, with marks of ranges that are over standing by. -/
def SafeM (P : Program) (R : Nat → RoRow) (c : Code) (st : St) (Q : Exit → St → Prop) : Prop :=
  ∀ m a w m0 h0 w0, Marks w0.heap.size a.defers w → Rel R m st (clr a) w → Step m0 h0 w0 m st.rows w →
    c.wpIn (Fd none) 0 P (fun e a' w' => Post R Q m0 h0 w0 e (clr a') w' ∧ Marks w0.heap.size a'.defers w') a w

theorem SafeM.of {P : Program} {R : Nat → RoRow} {c : Code} {st : St} {Q : Exit → St → Prop} (h : ∀ ds, SafeR none ds P R c st Q) : SafeM P R c st Q := by
  intro m a w m0 h0 w0 hk hr hs
  refine wpIn_mono (h a.defers m a w m st.rows w rfl hr (Step.refl _ _ _)) ?_
  rintro e a' w' ⟨⟨m', st', hok, hq, hr', hs'⟩, ha'⟩
  refine ⟨⟨m', st', hok, hq, hr', hs.trans hs'⟩, ?_⟩
  rw [ha']
  exact hk.step hr.wr hs'

theorem SafeM.mono {P : Program} {R : Nat → RoRow} {c : Code} {st : St} {Q Q' : Exit → St → Prop} (h : SafeM P R c st Q) (hq : ∀ e st, Q e st → Q' e st) : SafeM P R c st Q' :=
  fun m a w m0 h0 w0 hk hr hs => wpIn_mono (h m a w m0 h0 w0 hk hr hs) fun _ _ _ hp => ⟨hp.1.mono hq, hp.2⟩

theorem SafeM.seq {P : Program} {R : Nat → RoRow} {x y : Code} {st : St} {Q : Exit → St → Prop} (h : SafeM P R x st fun e st' => match e with | .normal => SafeM P R y st' Q | e => Q e st') : SafeM P R (.seq x y) st Q := by
  intro m a w m0 h0 w0 hk hr hs
  refine wpIn_seq (wpIn_mono (h m a w m0 h0 w0 hk hr hs) ?_)
  rintro e a' w' ⟨⟨m', st', hok, hq, hr', hs'⟩, hk'⟩
  cases e <;> first
    | exact hok.elim
    | exact ⟨⟨m', st', trivial, hq, hr', hs'⟩, hk'⟩
    | exact hq m' a' w' m0 h0 w0 hk' hr' hs'

theorem SafeM.block {P : Program} {R : Nat → RoRow} {id : Nat} {b : Code} {st : St} {Q : Exit → St → Prop} (h : SafeM P R b st fun e st' => match e with | .exit id' => bif Nat.beq id' id then Q .normal st' else Q (.exit id') st' | e => Q e st') : SafeM P R (.block id b) st Q := by
  intro m a w m0 h0 w0 hk hr hs
  refine wpIn_block (wpIn_mono (h m a w m0 h0 w0 hk hr hs) ?_)
  rintro e a' w' ⟨⟨m', st', hok, hq, hr', hs'⟩, ha'⟩
  cases e with
  | normal => exact ⟨⟨m', st', trivial, hq, hr', hs'⟩, ha'⟩
  | ret => exact ⟨⟨m', st', trivial, hq, hr', hs'⟩, ha'⟩
  | exit id' =>
    simp only [Exit.inBlock]
    by_cases hid : id' = id
    · rw [if_pos hid]
      subst hid
      simp only [Nat.beq_refl, cond_true] at hq
      exact ⟨⟨m', st', trivial, hq, hr', hs'⟩, ha'⟩
    · rw [if_neg hid]
      have : Nat.beq id' id = false := by rw [Bool.eq_false_iff]; exact fun e => hid (Nat.eq_of_beq_eq_true e)
      simp only [this, cond_false] at hq
      exact ⟨⟨m', st', trivial, hq, hr', hs'⟩, ha'⟩
  | goto l => exact hok.elim
  | panic ch => exact hok.elim
  | outgrown => exact hok.elim

theorem leaves_marks {P : Program} {fn : Func} {tmps : Array Value} {Rr : Ending → World → Prop} {B : Nat} : ∀ (ds : List Deferred) (w : World), Marks B ds w →
    (∀ w', Turned B w w' → ∃ v, (results fn tmps).run P w' = .ok v w' ∧ Rr (.returned v) w') → LeavesInM (Fd Option.none) 0 P fn tmps Rr ds .returning w
  | [], w, _, h => h w (Turned.refl _ _)
  | d :: ds, w, hk, h => by
    obtain ⟨D, rfl, hB, hD⟩ := hk.2 d (by simp)
    have ht : Turned B w (w.putObj D (.deferred none)) := Turned.putObj _ hD (fun _ _ _ h => by cases h) hB
    refine ⟨by simp, .inl ⟨D, _, rfl, run_takeDeferred hD, leaves_marks ds _ ⟨(List.nodup_cons.1 hk.1).2, fun d' hd' => ?_⟩ fun w' hw' => h w' (ht.trans hw')⟩⟩
    obtain ⟨D', rfl, hB', hD'⟩ := hk.2 d' (by simp [hd'])
    refine ⟨D', rfl, hB', ?_⟩
    rw [World.putObj_heap_other]
    · exact hD'
    · rintro rfl
      exact (List.nodup_cons.1 hk.1).1 hd'

/-- The call of a function whose body is safe, ranges over functions and all. -/
theorem SafeCall.of_bodyM {P : Program} {T : TypeId → Option TI} (hT : TabOK P T) {R : Nat → RoRow} {f : FuncId} {fi : FI} (hF : FnOK P f fi) {args : List AV} {h : Rows} {Q : AV → Rows → Prop}
    (hb : SafeM P R fi.body ⟨enterT args fi.ntmps, h⟩ fun e st => (e = .normal ∨ e = .ret) ∧ ∃ vs, ResOK T R st fi.results vs ∧ Q (tupOf vs) st.rows) : SafeCall P R f args h Q := by
  obtain ⟨fn, hfn, hbody, hnt, hres, hname⟩ := hF.fn
  intro m w m0 h0 w0 as has hW hS
  refine (callsIn_wide (n := 0)).1 (callsIn_of_wp_marks (F := Fd Option.none) hfn hbody trivial ?_ rfl)
  have hlen := has.length
  simp only [Array.length_toList] at hlen
  have hrel : Rel R m ⟨enterT args fi.ntmps, h⟩ { tmps := as ++ Array.replicate (fn.ntmps - as.size) undef, defers := [] } w := by
    refine ⟨by simp [enterT, hnt, hlen], ?_, rfl, hW⟩
    intro i x hx
    simp only [enterT] at hx
    by_cases hi : i < args.length
    · rw [List.getElem?_append_left hi] at hx
      obtain ⟨c, hc, hd⟩ := has.get hx
      have hi2 : i < as.size := by omega
      refine ⟨c, ?_, hd⟩
      rw [Array.getElem?_append_left hi2]
      simpa using hc
    · rw [List.getElem?_append_right (by omega)] at hx
      have hx2 := List.getElem?_eq_some_iff.1 hx
      obtain ⟨hlt, hxe⟩ := hx2
      simp at hlt hxe
      subst hxe
      refine ⟨undef, ?_, by simp [Den, DenL, undef]⟩
      rw [Array.getElem?_append_right (by omega)]
      rw [Array.getElem?_replicate]
      rw [if_pos (by omega)]
  refine wpIn_mono (hb m _ w m0 h0 w0 ⟨by simp, by simp⟩ hrel hS) ?_
  rintro e a' w' ⟨⟨m', st', hok, ⟨he, vs, hvs, hq⟩, hr', hs'⟩, hk'⟩
  have key : LeavesInM (Fd Option.none) 0 P fn a'.tmps (fun e w' => ∃ c v m' h', e = .returned c ∧ Q v h' ∧ Den m' h'.length v c ∧ WR R m' h' w' ∧ Step m0 h0 w0 m' h' w') a'.defers .returning w' := by
    refine leaves_marks _ _ hk' ?_
    intro w2 ht
    have hr2 : Rel R m' st' (clr a') w2 := ⟨hr'.size, hr'.tmps, hr'.defers, hr'.wr.others ht.others⟩
    have hs2 : Step m0 h0 w0 m' st'.rows w2 := hs'.turned ht
    obtain ⟨c, hfin, hden⟩ : ∃ c, (results fn a'.tmps).run P w2 = .ok c w2 ∧ Den m' st'.rows.length (tupOf vs) c := by
      have hres' : ∃ F : ResultVar → Sem Value, (∀ t, F (.tmp t) = pure (a'.tmps.getD t undef)) ∧ (∀ x t, F (.cell x t) = do loadVar t (← asAddr (a'.tmps.getD x undef))) ∧
          results fn a'.tmps = (do let vs ← fn.results.mapM F; pure (if h : vs.size = 1 then vs[0] else .tuple vs)) := ⟨_, fun _ => rfl, fun _ _ => rfl, rfl⟩
      obtain ⟨F, hF1, hF2, hres'⟩ := hres'
      rw [hres', hres]
      simp only [Sem.run_bind]
      rw [List.mapM_toArray]
      simp only [Sem.run_map]
      obtain ⟨cs, hcs, hd⟩ := res_run hT hr2 F hF1 hF2 hvs
      rw [hcs]
      simp only [Result.andThen_ok, Sem.run_pure]
      refine ⟨_, rfl, ?_⟩
      cases vs with
      | nil =>
        simp only [DenL] at hd
        subst hd
        simp [tupOf, Den, DenL]
      | cons v vs =>
        simp only [DenL] at hd
        obtain ⟨u, us, rfl, h1, h2⟩ := hd
        cases vs with
        | nil =>
          simp only [DenL] at h2
          subst h2
          simpa [tupOf] using h1
        | cons v2 vs =>
          simp only [DenL] at h2
          obtain ⟨u2, us, rfl, h2, h3⟩ := h2
          simp only [tupOf, Den]
          refine ⟨(u :: u2 :: us).toArray, by simp, ?_⟩
          simp only [DenL]
          exact ⟨u, _, rfl, h1, u2, us, rfl, h2, h3⟩
    exact ⟨c, hfin, c, _, m', st'.rows, rfl, hq, hden, hr2.wr, hs2⟩
  rcases he with rfl | rfl
  · exact key
  · exact key

/-! ### Rows that are put aside -/
def dead (ds : List Nat) (h : Rows) : Rows := ds.foldl (fun acc c => acc.set c none) h
def revive (ds : List Nat) (h h' : Rows) : Rows := ds.foldl (fun acc c => acc.set c (h.getD c none)) h'

theorem dead_length : ∀ (ds : List Nat) (h : Rows), (dead ds h).length = h.length
  | [], h => rfl
  | c :: ds, h => by
    show (dead ds (h.set c none)).length = _
    rw [dead_length ds]; simp
theorem revive_length (h : Rows) : ∀ (ds : List Nat) (h' : Rows), (revive ds h h').length = h'.length
  | [], h' => rfl
  | c :: ds, h' => by
    show (revive ds h (h'.set c _)).length = _
    rw [revive_length h ds]; simp

theorem set_live (h : Rows) (c b : Nat) (o : Option Row) : Rows.live (h.set c o) b = if c = b then (if c < h.length then o else none) else h.live b := by
  unfold Rows.live
  by_cases e : c = b
  · subst e
    by_cases hl : c < h.length
    · simp [hl]
    · simp [hl]
  · simp [e]

theorem dead_live : ∀ (ds : List Nat) (h : Rows) (b : Nat), (dead ds h).live b = if b ∈ ds then none else h.live b
  | [], h, b => by simp [dead]
  | c :: ds, h, b => by
    show (dead ds (h.set c none)).live b = _
    rw [dead_live ds, set_live]
    by_cases e : c = b
    · subst e
      by_cases h1 : c ∈ ds <;> by_cases h2 : c < h.length <;> simp [h1, h2]
    · have : b ≠ c := fun x => e x.symm
      by_cases h1 : b ∈ ds <;> simp [h1, e, this]

theorem revive_live (h : Rows) : ∀ (ds : List Nat) (h' : Rows) (b : Nat), b < h'.length → (revive ds h h').live b = if b ∈ ds then h.live b else h'.live b
  | [], h', b, _ => by simp [revive]
  | c :: ds, h', b, hb => by
    show (revive ds h (h'.set c (h.getD c none))).live b = _
    rw [revive_live h ds _ _ (by simpa using hb), set_live]
    by_cases e : c = b
    · subst e
      have : h.getD c none = h.live c := by
        unfold Rows.live
        rw [List.getD]
        cases h[c]? <;> rfl
      by_cases h1 : c ∈ ds
      · simp [h1]
      · rw [if_neg h1, if_pos rfl, if_pos hb, this]
        simp
    · have : b ≠ c := fun x => e x.symm
      by_cases h1 : b ∈ ds <;> simp [h1, e, this]

theorem WR.dead {R : Nat → RoRow} {m : Map} {h : Rows} {w : World} (hW : WR R m h w) (ds : List Nat) : WR R m (dead ds h) w := by
  have sub : ∀ b r, (Dc.dead ds h).live b = some r → h.live b = some r := by
    intro b r hb
    rw [dead_live] at hb
    split at hb
    · cases hb
    · exact hb
  exact ⟨fun b r hb => by rw [dead_length]; exact hW.row b r (sub b r hb), fun b b' r r' hb hb' => hW.apart b b' r r' (sub b r hb) (sub b' r' hb'), hW.ro, fun i b r hb => hW.roApart i b r (sub b r hb)⟩

theorem Step.dead {m0 m : Map} {h0 h : Rows} {w0 w : World} (hs : Step m0 h0 w0 m h w) (ds : List Nat) : Step m0 h0 w0 m (dead ds h) w where
  os := hs.os
  tape := hs.tape
  output := hs.output
  size := hs.size
  block := hs.block
  len := by rw [dead_length]; exact hs.len
  mu := hs.mu
  ro := hs.ro
  new := fun b r hb hv => by
    rw [dead_live] at hb
    split at hb
    · cases hb
    · exact hs.new b r hb hv

/-- A block that is none of a live row's stays none's, step for step. -/
theorem Step.aside {m m' : Map} {h h' : Rows} {w w' : World} (hs : Step m h w m' h' w') {D : Nat} (hD : D < w.heap.size) (hn : ∀ b r, h.live b = some r → (m.mu b).vir = false → (m.mu b).blk ≠ D) :
    ∀ b r, h'.live b = some r → (m'.mu b).vir = false → (m'.mu b).blk ≠ D := by
  intro b r hb hv e
  rcases hs.new b r hb hv with h1 | ⟨c, r', hc, hcv, hce⟩
  · omega
  · exact hn c r' hc hcv (hce.trans e)

theorem revive_ok {R : Nat → RoRow} {m m' : Map} {h h' : Rows} {w W : World} {ds : List Nat} (hW : WR R m h w) (hs : Step m (dead ds h) w m' h' W) (hW' : WR R m' h' W) :
    WR R m' (revive ds h h') W ∧ Step m h w m' (revive ds h h') W := by
  have hlen : h.length ≤ h'.length := by have := hs.len; rwa [dead_length] at this
  have hmu : ∀ b, b < h.length → m'.mu b = m.mu b := fun b hb => hs.mu b (by rw [dead_length]; exact hb)
  have dl : ∀ b r, (dead ds h).live b = some r → h.live b = some r ∧ b ∉ ds := by
    intro b r hb
    rw [dead_live] at hb
    split at hb
    · cases hb
    · rename_i hn; exact ⟨hb, hn⟩
  -- what is live behind
  have cases2 : ∀ b r, (revive ds h h').live b = some r → (b ∈ ds ∧ h.live b = some r) ∨ (b ∉ ds ∧ h'.live b = some r) := by
    intro b r hb
    have hlt := live_lt hb
    rw [revive_length] at hlt
    rw [revive_live _ _ _ _ hlt] at hb
    split at hb
    · rename_i hm; exact .inl ⟨hm, hb⟩
    · rename_i hm; exact .inr ⟨hm, hb⟩
  have blkEq : ∀ b r, b ∈ ds → h.live b = some r → (m.mu b).vir = false → (m.mu b).blk < w.heap.size ∧ W.heap[(m.mu b).blk]? = w.heap[(m.mu b).blk]? ∧ (∀ c r', h'.live c = some r' → (m'.mu c).vir = false → (m'.mu c).blk ≠ (m.mu b).blk) := by
    intro b r hm hb hv
    have hlt : (m.mu b).blk < w.heap.size := by
      obtain ⟨_, _, h3⟩ := hW.row b r hb
      rw [hv] at h3
      simp only [Bool.false_eq_true, if_false] at h3
      obtain ⟨c, fz, hc, _⟩ := h3
      exact (Array.getElem?_eq_some_iff.1 hc).1
    have hne : ∀ c r', (dead ds h).live c = some r' → (m.mu c).vir = false → (m.mu c).blk ≠ (m.mu b).blk := by
      intro c r' hc hcv e
      obtain ⟨hc1, hc2⟩ := dl c r' hc
      exact hc2 (hW.apart c b r' r hc1 hb hcv hv e ▸ hm)
    exact ⟨hlt, hs.block _ hlt hne, hs.aside hlt hne⟩
  refine ⟨⟨?_, ?_, ?_, ?_⟩, ?_⟩
  · intro b r hb
    rw [revive_length]
    rcases cases2 b r hb with ⟨hm, hl⟩ | ⟨hm, hl⟩
    · rw [hmu b (live_lt hl)]
      exact (hW.row b r hl).mono hlen hmu hs.ro (fun hv => (blkEq b r hm hl hv).2.1)
    · exact hW'.row b r hl
  · intro b b' r r' hb hb' hv hv' e
    rcases cases2 b r hb with ⟨hm, hl⟩ | ⟨hm, hl⟩ <;> rcases cases2 b' r' hb' with ⟨hm', hl'⟩ | ⟨hm', hl'⟩
    · rw [hmu b (live_lt hl)] at hv e
      rw [hmu b' (live_lt hl')] at hv' e
      exact hW.apart b b' r r' hl hl' hv hv' e
    · rw [hmu b (live_lt hl)] at hv e
      exact absurd e.symm ((blkEq b r hm hl hv).2.2 b' r' hl' hv')
    · rw [hmu b' (live_lt hl')] at hv' e
      exact absurd e ((blkEq b' r' hm' hl' hv').2.2 b r hl hv)
    · exact hW'.apart b b' r r' hl hl' hv hv' e
  · exact hW'.ro
  · intro i b r hb hv hiv hn
    rcases cases2 b r hb with ⟨hm, hl⟩ | ⟨hm, hl⟩
    · rw [hmu b (live_lt hl)] at hv ⊢
      rw [hs.ro] at hiv ⊢
      exact hW.roApart i b r hl hv hiv hn
    · exact hW'.roApart i b r hl hv hiv hn
  · refine ⟨hs.os, hs.tape, hs.output, hs.size, ?_, by rw [revive_length]; exact hlen, hmu, hs.ro, ?_⟩
    · intro k hk hn
      refine hs.block k hk ?_
      intro b r hb hv
      exact hn b r (dl b r hb).1 hv
    · intro b r hb hv
      rcases cases2 b r hb with ⟨hm, hl⟩ | ⟨hm, hl⟩
      · rw [hmu b (live_lt hl)] at hv ⊢
        exact .inr ⟨b, r, hl, hv, rfl⟩
      · rcases hs.new b r hl hv with h1 | ⟨c, r', hc, hcv, hce⟩
        · exact .inl h1
        · exact .inr ⟨c, r', (dl c r' hc).1, hcv, hce⟩

end Go.Dc
