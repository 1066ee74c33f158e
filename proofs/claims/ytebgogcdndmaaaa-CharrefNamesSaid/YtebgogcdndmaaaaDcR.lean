/- A state seen from inside: what is run there is run outside too. -/
import Derived.Test.YtebgogcdndmaaaaDcQ
set_option linter.unusedSimpArgs false
set_option linter.unusedVariables false
namespace Go.Dc

structure RowV (f : Nat → Option Nat) (n : Nat) (r r' : Row) : Prop where
  ty : r.ty = r'.ty
  esz : r.esz = r'.esz
  len : r.len = r'.len
  get : ∀ i e, r.get? i = some e → (∀ a ∈ e.cells, a.one = true) ∧ ∃ e', r'.get? i = some e' ∧ Vw f n e e'

structure View (f : Nat → Option Nat) (hL h : Rows) : Prop where
  lt : ∀ c b, c < hL.length → f c = some b → b < h.length
  inj : ∀ c c' b, c < hL.length → c' < hL.length → f c = some b → f c' = some b → c = c'
  row : ∀ c r, hL.live c = some r → (∃ b r', f c = some b ∧ h.live b = some r' ∧ RowV f hL.length r r') ∨ (f c = none ∧ r.len = 0)

def Rows.es (h : Rows) (c : Nat) : Nat := match h.live c with | some r => r.esz | none => 0

theorem Den.ground {m m' : Map} {n : Nat} (hr : m'.ro = m.ro) {a : AV} {v : Value} (h : Den m 0 a v) : Den m' n a v :=
  h.mono (Nat.zero_le _) (fun b hb => absurd hb (Nat.not_lt_zero b)) hr

theorem one_ne_any {a : AV} (h : ∀ x ∈ a.cells, x.one = true) : a ≠ .any := by
  rintro rfl
  have := h .any (by simp [AV.cells])
  simp [AV.one] at this

theorem RowOK.view {m : Map} {f : Nat → Option Nat} {es : Nat → Nat} {n N : Nat} {l : Loc} {r r' : Row} {w : World} (h : RowOK m N l r' w) (hv : RowV f n r r') : RowOK (m.view f es) n l r w := by
  obtain ⟨h1, h2, h3⟩ := h
  refine ⟨h1.trans hv.esz.symm, by rw [hv.len]; exact h2, ?_⟩
  split
  · rename_i hvir
    rw [if_pos hvir] at h3
    exact ⟨hv.len.trans h3.1, h3.2⟩
  · rename_i hvir
    rw [if_neg hvir] at h3
    obtain ⟨c, fz, hc, hsz, hfz, hel⟩ := h3
    refine ⟨c, fz, by rw [hv.ty]; exact hc, hsz, hfz, ?_⟩
    intro i e he
    obtain ⟨hone, e', he', hvw⟩ := hv.get i e he
    obtain ⟨hlen, hcell⟩ := hel i e' he'
    have hcs := hvw.cells (one_ne_any hone)
    refine ⟨hcs.length.trans hlen, ?_⟩
    intro o a ha
    obtain ⟨b, hb, hab⟩ := hcs.get ha
    obtain ⟨_, v, hv1, hv2⟩ := hcell o b hb
    exact ⟨hone a (List.mem_of_getElem? ha), v, hv1, hab.den _ _ _ hv2⟩

theorem View.real {m : Map} {f : Nat → Option Nat} {hL h : Rows} (hV : View f hL h) {c : Nat} {r : Row} (hc : hL.live c = some r) (hv : ((m.view f hL.es).mu c).vir = false) :
    ∃ b r', f c = some b ∧ h.live b = some r' ∧ RowV f hL.length r r' ∧ (m.view f hL.es).mu c = m.mu b := by
  rcases hV.row c r hc with ⟨b, r', h1, h2, h3⟩ | ⟨h1, h2⟩
  · exact ⟨b, r', h1, h2, h3, view_some h1⟩
  · rw [view_none h1] at hv; simp at hv

theorem WR.view {R : Nat → RoRow} {m : Map} {f : Nat → Option Nat} {hL h : Rows} {w : World} (hW : WR R m h w) (hV : View f hL h) : WR R (m.view f hL.es) hL w where
  row := fun c r hc => by
    rcases hV.row c r hc with ⟨b, r', h1, h2, h3⟩ | ⟨h1, h2⟩
    · rw [view_some h1]; exact (hW.row _ _ h2).view h3
    · rw [view_none h1]
      refine ⟨?_, by rw [h2]; exact Nat.zero_le _, ?_⟩
      · show hL.es c = r.esz
        unfold Rows.es
        rw [hc]
      · rw [if_pos rfl]; exact ⟨h2, rfl⟩
  apart := fun b b' r r' hb hb' hv hv' he => by
    obtain ⟨d, r1, h1, h2, _, e1⟩ := hV.real hb hv
    obtain ⟨d', r2, h1', h2', _, e2⟩ := hV.real hb' hv'
    rw [e1] at hv he; rw [e2] at hv' he
    have := hW.apart _ _ _ _ h2 h2' hv hv' he
    subst this
    exact hV.inj b b' _ (live_lt hb) (live_lt hb') h1 h1'
  ro := fun i => by
    obtain ⟨h1, h2, h3⟩ := hW.ro i
    refine ⟨h1, h2, ?_⟩
    have e : (m.view f hL.es).ro = m.ro := rfl
    rw [e]
    split
    · rename_i hv; rw [if_pos hv] at h3; exact h3
    · rename_i hv
      rw [if_neg hv] at h3
      intro hn
      obtain ⟨c, fz, hc, hel⟩ := h3 hn
      refine ⟨c, fz, hc, fun j hj => ?_⟩
      obtain ⟨hlen, hcell⟩ := hel j hj
      refine ⟨hlen, fun o a ha => ?_⟩
      obtain ⟨h4, v, h5, h6⟩ := hcell o a ha
      exact ⟨h4, v, h5, Den.ground (m := m) (m' := m.view f hL.es) rfl h6⟩
  roApart := fun i b r hb hv hr hn => by
    obtain ⟨d, r1, h1, h2, _, e1⟩ := hV.real hb hv
    rw [e1] at hv ⊢
    exact hW.roApart i _ _ h2 hv hr hn

/-- A whole state, seen from inside. -/
structure StV (f : Nat → Option Nat) (stL st : St) : Prop where
  rows : View f stL.rows st.rows
  tmps : VwL f stL.rows.length stL.tmps st.tmps

theorem Rel.view {R : Nat → RoRow} {m : Map} {f : Nat → Option Nat} {stL st : St} {a : Act} {w : World} (h : Rel R m st a w) (hV : StV f stL st) : Rel R (m.view f stL.rows.es) stL a w where
  size := h.size.trans hV.tmps.length.symm
  tmps := fun i x hx => by
    obtain ⟨y, hy, hxy⟩ := hV.tmps.get hx
    obtain ⟨c, hc, hd⟩ := h.tmps i y hy
    exact ⟨c, hc, hxy.den _ _ _ hd⟩
  defers := h.defers
  wr := h.wr.view hV.rows

/-- What lies behind may be forgotten, and numbered anew. -/
theorem Step.forget {m0 m : Map} {h0 h hE : Rows} {w0 w : World} {f : Nat → Option Nat} (hs : Step m0 h0 w0 m h w) (hV : View f hE h) (hf : ∀ c, c < h0.length → f c = some c) (hl : h0.length ≤ hE.length) : Step m0 h0 w0 (m.view f hE.es) hE w where
  os := hs.os
  tape := hs.tape
  output := hs.output
  size := hs.size
  block := hs.block
  len := hl
  mu := fun b hb => by rw [view_some (hf b hb), hs.mu b hb]
  ro := hs.ro
  new := fun b r hb hv => by
    obtain ⟨d, r1, h1, h2, _, e1⟩ := hV.real hb hv
    rw [e1] at hv ⊢
    exact hs.new _ _ h2 hv

/-! ### Back -/

def renRow (f : Nat → Nat) : Row → Row
  | .lst t s l => .lst t s (l.map (ren f))
  | .gen t s n a => .gen t s n fun i => ren f (a i)
  | .byt t l => .byt t l

theorem renRow_ty (f : Nat → Nat) (r : Row) : (renRow f r).ty = r.ty := by cases r <;> rfl
theorem renRow_esz (f : Nat → Nat) (r : Row) : (renRow f r).esz = r.esz := by cases r <;> rfl
theorem renRow_len (f : Nat → Nat) (r : Row) : (renRow f r).len = r.len := by cases r <;> simp [renRow, Row.len]
theorem renRow_get (f : Nat → Nat) (r : Row) (i : Nat) : (renRow f r).get? i = (r.get? i).map (ren f) := by
  cases r with
  | lst t s l => simp [renRow, Row.get?]
  | gen t s n a => simp only [renRow, Row.get?]; cases Nat.blt i n <;> rfl
  | byt t l => simp only [renRow, Row.get?, Option.map_map]; rfl

theorem blt_t {a b : Nat} (h : a < b) : Nat.blt a b = true := by rw [Nat.blt_eq]; exact h
theorem blt_of {a b : Nat} (h : Nat.blt a b = true) : a < b := by rwa [Nat.blt_eq] at h

/-- The outer number of an inner one. -/
def ext (f : Nat → Option Nat) (nL N : Nat) : Nat → Nat := fun c => bif Nat.blt c nL then (match f c with | some b => b | none => N + c) else N + c

theorem ext_some {f : Nat → Option Nat} {nL N c b : Nat} (h : c < nL) (hf : f c = some b) : ext f nL N c = b := by
  simp [ext, blt_t h, hf]
theorem ext_none {f : Nat → Option Nat} {nL N c : Nat} (hf : f c = none) : ext f nL N c = N + c := by
  unfold ext
  cases Nat.blt c nL <;> simp [hf]
theorem ext_ge {f : Nat → Option Nat} {nL N c : Nat} (h : nL ≤ c) : ext f nL N c = N + c := by
  have : Nat.blt c nL = false := by
    rw [Bool.eq_false_iff]; intro e; have := blt_of e; omega
  simp [ext, this]

/-- Inner number 'c' whose outer number is 'b'. -/
def findC (g : Nat → Nat) (b : Nat) : Nat → Option Nat
  | 0 => none
  | n + 1 => bif Nat.beq (g n) b then some n else findC g b n

theorem findC_some {g : Nat → Nat} {b : Nat} : ∀ {n c : Nat}, findC g b n = some c → c < n ∧ g c = b
  | 0, _, h => by simp [findC] at h
  | n + 1, c, h => by
    simp only [findC] at h
    cases hb : Nat.beq (g n) b with
    | true => rw [hb] at h; simp at h; subst h; exact ⟨Nat.lt_succ_self _, Nat.eq_of_beq_eq_true hb⟩
    | false => rw [hb] at h; have := findC_some h; exact ⟨Nat.lt_succ_of_lt this.1, this.2⟩

theorem findC_none {g : Nat → Nat} {b : Nat} : ∀ {n : Nat}, findC g b n = none → ∀ c, c < n → g c ≠ b
  | 0, _, _, h => absurd h (Nat.not_lt_zero _)
  | n + 1, h, c, hc => by
    simp only [findC] at h
    cases hb : Nat.beq (g n) b with
    | true => rw [hb] at h; simp at h
    | false =>
      rw [hb] at h
      rcases Nat.lt_succ_iff_lt_or_eq.1 hc with h1 | rfl
      · exact findC_none h c h1
      · intro e; rw [e] at hb; simp at hb

theorem findC_inj {g : Nat → Nat} {c n : Nat} (hc : c < n) (hi : ∀ c', c' < n → g c' = g c → c' = c) : findC g (g c) n = some c := by
  cases h : findC g (g c) n with
  | none => exact absurd rfl (findC_none h c hc)
  | some d => have := findC_some h; rw [hi d this.1 this.2]

/-- Is 'b' an outer number of one of the first 'n' inner ones? -/
def seen (f : Nat → Option Nat) (b : Nat) : Nat → Bool
  | 0 => false
  | n + 1 => match f n with
    | some b' => bif Nat.beq b' b then true else seen f b n
    | none => seen f b n

theorem seen_of {f : Nat → Option Nat} {b c : Nat} : ∀ {n : Nat}, c < n → f c = some b → seen f b n = true
  | 0, h, _ => absurd h (Nat.not_lt_zero _)
  | n + 1, h, hf => by
    unfold seen
    rcases Nat.lt_succ_iff_lt_or_eq.1 h with h1 | rfl
    · have ih := seen_of h1 hf
      split
      · rename_i b' hb'
        cases Nat.beq b' b <;> simp [ih]
      · exact ih
    · rw [hf]; simp

/-- The outer rows behind a run inside: the first 'nk' inner rows are those they were, of the 'nL' that were there. -/
def merged (f : Nat → Option Nat) (nk nL : Nat) (h h' : Rows) : Rows :=
  (List.range (h.length + h'.length)).map fun b => match findC (ext f nk h.length) b h'.length with
    | some c => (h'.live c).map (renRow (ext f nk h.length))
    | none => bif seen f b nL then none else h.live b

theorem merged_length (f : Nat → Option Nat) (nk nL : Nat) (h h' : Rows) : (merged f nk nL h h').length = h.length + h'.length := by
  simp [merged]

theorem merged_live {f : Nat → Option Nat} {nk nL : Nat} {h h' : Rows} {b : Nat} {r : Row} (hb : (merged f nk nL h h').live b = some r) :
    b < h.length + h'.length ∧ ((∃ c r', c < h'.length ∧ ext f nk h.length c = b ∧ h'.live c = some r' ∧ r = renRow (ext f nk h.length) r') ∨ (h.live b = some r ∧ seen f b nL = false)) := by
  have hlt := live_lt hb
  rw [merged_length] at hlt
  refine ⟨hlt, ?_⟩
  unfold merged Rows.live at hb
  rw [List.getElem?_map, List.getElem?_range hlt] at hb
  simp only [Option.map_some, Option.join_some] at hb
  cases hf : findC (ext f nk h.length) b h'.length with
  | none =>
    rw [hf] at hb
    simp only [] at hb
    cases hs : seen f b nL with
    | true => rw [hs] at hb; simp at hb
    | false => rw [hs] at hb; exact .inr ⟨hb, rfl⟩
  | some c =>
    rw [hf] at hb
    obtain ⟨h1, h2⟩ := findC_some hf
    simp only [] at hb
    obtain ⟨r', h3, h4⟩ := Option.map_eq_some_iff.1 hb
    exact .inl ⟨c, r', h1, h2, h3, h4.symm⟩

/-- As 'Step', but only the first 'nk' rows keep their places. -/
structure StepK (nk : Nat) (m : Map) (h : Rows) (w : World) (m' : Map) (h' : Rows) (w' : World) : Prop where
  os : w'.os = w.os
  tape : w'.tape = w.tape
  output : w'.output = w.output
  size : w.heap.size ≤ w'.heap.size
  block : ∀ k, k < w.heap.size → (∀ b r, h.live b = some r → (m.mu b).vir = false → (m.mu b).blk ≠ k) → w'.heap[k]? = w.heap[k]?
  kept : nk ≤ h.length
  len : nk ≤ h'.length
  mu : ∀ b, b < nk → m'.mu b = m.mu b
  ro : m'.ro = m.ro
  new : ∀ b r, h'.live b = some r → (m'.mu b).vir = false → w.heap.size ≤ (m'.mu b).blk ∨ ∃ c r', h.live c = some r' ∧ (m.mu c).vir = false ∧ (m.mu c).blk = (m'.mu b).blk

theorem Step.toK {m m' : Map} {h h' : Rows} {w w' : World} (s : Step m h w m' h' w') : StepK h.length m h w m' h' w' :=
  ⟨s.os, s.tape, s.output, s.size, s.block, Nat.le_refl _, s.len, s.mu, s.ro, s.new⟩

theorem Step.fitK {nk : Nat} {m0 m : Map} {h0 h hE : Rows} {w0 w : World} {f : Nat → Option Nat} (hs : Step m0 h0 w0 m h w) (hV : View f hE h) (hf : ∀ c, c < nk → f c = some c) (hk : nk ≤ h0.length) (hl : nk ≤ hE.length) : StepK nk m0 h0 w0 (m.view f hE.es) hE w where
  os := hs.os
  tape := hs.tape
  output := hs.output
  size := hs.size
  block := hs.block
  kept := hk
  len := hl
  mu := fun b hb => by rw [view_some (hf b hb), hs.mu b (Nat.lt_of_lt_of_le hb hk)]
  ro := hs.ro
  new := fun b r hb hv => by
    obtain ⟨d, r1, h1, h2, _, e1⟩ := hV.real hb hv
    rw [e1] at hv ⊢
    exact hs.new _ _ h2 hv

theorem View.ext_lt {f : Nat → Option Nat} {hL h : Rows} (hV : View f hL h) {nk : Nat} (hk : nk ≤ hL.length) {n : Nat} {c : Nat} (hc : c < n) : ext f nk h.length c < h.length + n := by
  rcases Nat.lt_or_ge c nk with h1 | h1
  · cases hf : f c with
    | some b => rw [ext_some h1 hf]; have := hV.lt c b (Nat.lt_of_lt_of_le h1 hk) hf; omega
    | none => rw [ext_none hf]; omega
  · rw [ext_ge h1]; omega

theorem View.ext_cs {f : Nat → Option Nat} {hL h : Rows} (hV : View f hL h) {nk : Nat} (hk : nk ≤ hL.length) (c : Nat) :
    (∃ b, c < nk ∧ f c = some b ∧ ext f nk h.length c = b ∧ b < h.length) ∨ ext f nk h.length c = h.length + c := by
  rcases Nat.lt_or_ge c nk with h1 | h1
  · cases hf : f c with
    | some b => exact .inl ⟨b, h1, rfl, ext_some h1 hf, hV.lt c b (Nat.lt_of_lt_of_le h1 hk) hf⟩
    | none => exact .inr (ext_none hf)
  · exact .inr (ext_ge h1)

theorem View.ext_inj {f : Nat → Option Nat} {hL h : Rows} (hV : View f hL h) {nk : Nat} (hk : nk ≤ hL.length) {c c' : Nat} (he : ext f nk h.length c' = ext f nk h.length c) : c' = c := by
  rcases hV.ext_cs hk c with ⟨b, h1, h2, h3, h4⟩ | h3 <;> rcases hV.ext_cs hk c' with ⟨b', h1', h2', h3', h4'⟩ | h3'
  · have : b' = b := by omega
    subst this
    exact hV.inj c' c _ (Nat.lt_of_lt_of_le h1' hk) (Nat.lt_of_lt_of_le h1 hk) h2' h2
  · omega
  · omega
  · omega

theorem merged_in {f : Nat → Option Nat} {nk : Nat} {hL h h' : Rows} (hV : View f hL h) (hk : nk ≤ hL.length) {c : Nat} {r : Row} (hc : h'.live c = some r) : (merged f nk hL.length h h').live (ext f nk h.length c) = some (renRow (ext f nk h.length) r) := by
  have hlt := live_lt hc
  unfold merged Rows.live
  rw [List.getElem?_map, List.getElem?_range (hV.ext_lt hk hlt)]
  simp only [Option.map_some, Option.join_some]
  rw [findC_inj hlt (fun c' _ he => hV.ext_inj hk he)]
  have hc' : h'[c]?.join = some r := hc
  simp only []
  rw [hc']; rfl

theorem merge_ok {R : Nat → RoRow} {m m' : Map} {f : Nat → Option Nat} {nk : Nat} {hL h h' : Rows} {w w' : World} (hV : View f hL h) (hW : WR R m h w) (hW' : WR R m' h' w') (hs : StepK nk (m.view f hL.es) hL w m' h' w') :
    ∃ m'', (∀ c, c < h'.length → ext f nk h.length c < (merged f nk hL.length h h').length ∧ m''.mu (ext f nk h.length c) = m'.mu c) ∧ m''.ro = m'.ro ∧
      WR R m'' (merged f nk hL.length h h') w' ∧ Step m h w m'' (merged f nk hL.length h h') w' := by
  have hlen := hs.len
  have hk := hs.kept
  let g := ext f nk h.length
  have hg : ∀ c, c < h'.length → g c < (merged f nk hL.length h h').length := by
    intro c hc
    rw [merged_length]
    exact hV.ext_lt hk hc
  let m'' : Map := ⟨fun b => bif Nat.blt b h.length then m.mu b else m'.mu (b - h.length), m'.ro⟩
  have hold : ∀ b, b < h.length → m''.mu b = m.mu b := by
    intro b hb
    show (bif Nat.blt b h.length then m.mu b else m'.mu (b - h.length)) = m.mu b
    simp [blt_t hb]
  have hnew : ∀ c, m''.mu (h.length + c) = m'.mu c := by
    intro c
    have : Nat.blt (h.length + c) h.length = false := by
      rw [Bool.eq_false_iff]; intro e; have := blt_of e; omega
    show (bif Nat.blt (h.length + c) h.length then m.mu (h.length + c) else m'.mu (h.length + c - h.length)) = m'.mu c
    rw [this]
    simp only [cond_false]
    congr 1
    omega
  have hmu : ∀ c, c < h'.length → m''.mu (g c) = m'.mu c := by
    intro c hc
    rcases Nat.lt_or_ge c nk with h1 | h1
    · cases hf : f c with
      | some b =>
        have e : g c = b := ext_some h1 hf
        rw [e, hold _ (hV.lt c b (Nat.lt_of_lt_of_le h1 hk) hf), hs.mu c h1, view_some hf]
      | none =>
        have e : g c = h.length + c := ext_none hf
        rw [e, hnew]
    · have e : g c = h.length + c := ext_ge h1
      rw [e, hnew]
  have hcs : ∀ c, c < h'.length → g c < (merged f nk hL.length h h').length ∧ m''.mu (g c) = m'.mu c := fun c hc => ⟨hg c hc, hmu c hc⟩
  have hro : m''.ro = m'.ro := rfl
  have hro0 : m'.ro = m.ro := hs.ro
  -- an outer row that isn't seen from inside
  have old : ∀ b r, h.live b = some r → seen f b hL.length = false → (∀ c r1, hL.live c = some r1 → f c ≠ some b) := by
    intro b r hb hn c r1 hc e
    rw [seen_of (live_lt hc) e] at hn
    exact absurd hn (by simp)
  have oldBlk : ∀ b r, h.live b = some r → (∀ c r1, hL.live c = some r1 → f c ≠ some b) → (m.mu b).vir = false → w'.heap[(m.mu b).blk]? = w.heap[(m.mu b).blk]? := by
    intro b r hb hn hv
    refine hs.block _ (hW.blk_lt hb hv) ?_
    intro c r1 hc hcv he
    obtain ⟨d, r2, h1, h2, _, e1⟩ := hV.real hc hcv
    rw [e1] at hcv he
    have := hW.apart _ _ _ _ h2 hb hcv hv he
    subst this
    exact hn c r1 hc h1
  have inner : ∀ c r', h'.live c = some r' → (m'.mu c).vir = false → ∀ b r, h.live b = some r → (∀ c r1, hL.live c = some r1 → f c ≠ some b) → (m.mu b).vir = false → (m'.mu c).blk ≠ (m.mu b).blk := by
    intro c r' hc hcv b r hb hn hv he
    rcases hs.new c r' hc hcv with h1 | ⟨d, r1, hd, hdv, hde⟩
    · have := hW.blk_lt hb hv; omega
    · obtain ⟨d', r2, h1, h2, _, e1⟩ := hV.real hd hdv
      rw [e1] at hdv hde
      have := hW.apart _ _ _ _ h2 hb hdv hv (hde.trans he)
      subst this
      exact hn d r1 hd h1
  refine ⟨m'', hcs, hro, ?_, ?_⟩
  · constructor
    · intro b r hb
      obtain ⟨hblt, ⟨c, r', hc, hcb, hlc, rfl⟩ | ⟨hlb, hn⟩⟩ := merged_live hb
      · subst hcb
        obtain ⟨h1, h2, h3⟩ := hW'.row c r' hlc
        have e1 : m''.mu (ext f nk h.length c) = m'.mu c := hmu c hc
        unfold RowOK
        rw [e1, renRow_esz, renRow_len, renRow_ty]
        refine ⟨h1, h2, ?_⟩
        split
        · rename_i hv; rw [if_pos hv] at h3; exact h3
        · rename_i hv
          rw [if_neg hv] at h3
          obtain ⟨cc, fz, hcc, hsz, hfz, hel⟩ := h3
          refine ⟨cc, fz, hcc, hsz, hfz, ?_⟩
          intro i e he
          rw [renRow_get] at he
          obtain ⟨e', he', rfl⟩ := Option.map_eq_some_iff.1 he
          obtain ⟨hl, hcell⟩ := hel i e' he'
          rw [ren_cells]
          refine ⟨by simpa using hl, ?_⟩
          intro o a ha
          rw [List.getElem?_map] at ha
          obtain ⟨a', ha', rfl⟩ := Option.map_eq_some_iff.1 ha
          obtain ⟨ho, v, hv1, hv2⟩ := hcell o a' ha'
          exact ⟨by rw [ren_one]; exact ho, v, hv1, ren_den hcs hro a' v hv2⟩
      · have hn2 := old b r hlb hn
        have hblt2 := live_lt hlb
        obtain ⟨h1, h2, h3⟩ := hW.row b r hlb
        unfold RowOK
        rw [hold b hblt2]
        refine ⟨h1, h2, ?_⟩
        split
        · rename_i hv; rw [if_pos hv] at h3; exact h3
        · rename_i hv
          rw [if_neg hv] at h3
          obtain ⟨cc, fz, hcc, hsz, hfz, hel⟩ := h3
          refine ⟨cc, fz, by rw [oldBlk b r hlb hn2 (by simpa using hv)]; exact hcc, hsz, hfz, ?_⟩
          intro i e he
          obtain ⟨hl, hcell⟩ := hel i e he
          refine ⟨hl, fun o a ha => ?_⟩
          obtain ⟨ho, v, hv1, hv2⟩ := hcell o a ha
          exact ⟨ho, v, hv1, hv2.mono (by rw [merged_length]; omega) hold (hro.trans hro0)⟩
    · intro b b' r r' hb hb' hv hv' he
      obtain ⟨hblt, ⟨c, r1, hc, hcb, hlc, rfl⟩ | ⟨hlb, hn⟩⟩ := merged_live hb <;>
        obtain ⟨hblt', ⟨c', r1', hc', hcb', hlc', rfl⟩ | ⟨hlb', hn'⟩⟩ := merged_live hb'
      · subst hcb; subst hcb'
        have e1 : m''.mu (ext f nk h.length c) = m'.mu c := hmu c hc
        have e2 : m''.mu (ext f nk h.length c') = m'.mu c' := hmu c' hc'
        rw [e1] at hv he; rw [e2] at hv' he
        rw [hW'.apart c c' _ _ hlc hlc' hv hv' he]
      · subst hcb
        have e1 : m''.mu (ext f nk h.length c) = m'.mu c := hmu c hc
        rw [e1] at hv he; rw [hold b' (live_lt hlb')] at hv' he
        exact absurd he (inner c _ hlc hv b' _ hlb' (old b' _ hlb' hn') hv')
      · subst hcb'
        have e1 : m''.mu (ext f nk h.length c') = m'.mu c' := hmu c' hc'
        rw [e1] at hv' he; rw [hold b (live_lt hlb)] at hv he
        exact absurd he.symm (inner c' _ hlc' hv' b _ hlb (old b _ hlb hn) hv)
      · rw [hold b (live_lt hlb)] at hv he; rw [hold b' (live_lt hlb')] at hv' he
        exact hW.apart _ _ _ _ hlb hlb' hv hv' he
    · intro i
      obtain ⟨h1, h2, h3⟩ := hW'.ro i
      refine ⟨h1, h2, ?_⟩
      rw [hro]
      split
      · rename_i hv; rw [if_pos hv] at h3; exact h3
      · rename_i hv
        rw [if_neg hv] at h3
        intro hn
        obtain ⟨c, fz, hc, hel⟩ := h3 hn
        refine ⟨c, fz, hc, fun j hj => ?_⟩
        obtain ⟨hl, hcell⟩ := hel j hj
        refine ⟨hl, fun o a ha => ?_⟩
        obtain ⟨h4, v, h5, h6⟩ := hcell o a ha
        exact ⟨h4, v, h5, Den.ground (m := m') (m' := m'') hro h6⟩
    · intro i b r hb hv hr hn
      obtain ⟨hblt, ⟨c, r1, hc, hcb, hlc, rfl⟩ | ⟨hlb, hnn⟩⟩ := merged_live hb
      · subst hcb
        have e1 : m''.mu (ext f nk h.length c) = m'.mu c := hmu c hc
        rw [e1] at hv ⊢
        exact hW'.roApart i c _ hlc hv hr hn
      · rw [hold b (live_lt hlb)] at hv ⊢
        rw [hro, hro0] at hr ⊢
        exact hW.roApart i b _ hlb hv hr hn
  · constructor
    · exact hs.os
    · exact hs.tape
    · exact hs.output
    · exact hs.size
    · intro k hk hn
      refine hs.block k hk ?_
      intro c r hc hv
      obtain ⟨d, r2, h1, h2, _, e1⟩ := hV.real hc hv
      rw [e1] at hv ⊢
      exact hn _ _ h2 hv
    · rw [merged_length]; omega
    · exact hold
    · exact hro.trans hro0
    · intro b r hb hv
      obtain ⟨hblt, ⟨c, r1, hc, hcb, hlc, rfl⟩ | ⟨hlb, hnn⟩⟩ := merged_live hb
      · subst hcb
        have e1 : m''.mu (ext f nk h.length c) = m'.mu c := hmu c hc
        rw [e1] at hv ⊢
        rcases hs.new c _ hlc hv with h1 | ⟨d, r3, hd, hdv, hde⟩
        · exact .inl h1
        · obtain ⟨d', r2, h1, h2, _, e2⟩ := hV.real hd hdv
          rw [e2] at hdv hde
          exact .inr ⟨_, _, h2, hdv, hde⟩
      · rw [hold b (live_lt hlb)] at hv ⊢
        exact .inr ⟨b, r, hlb, hv, rfl⟩

end Go.Dc
