/- Changes of memory: a new row, a row that changes in its place, a row that goes over into another one. -/
import Derived.Test.YtebgogcdndmaaaaDcF
set_option linter.unusedSimpArgs false
set_option linter.unusedVariables false
namespace Go.Dc

def Map.setMu (m : Map) (b : Nat) (l : Loc) : Map := { mu := fun c => bif Nat.beq c b then l else m.mu c, ro := m.ro }

theorem Map.setMu_same (m : Map) (b : Nat) (l : Loc) : (m.setMu b l).mu b = l := by simp [Map.setMu]
theorem Map.setMu_ne (m : Map) (b c : Nat) (l : Loc) (h : c ≠ b) : (m.setMu b l).mu c = m.mu c := by
  have : Nat.beq c b = false := by rw [Bool.eq_false_iff]; exact fun e => h (Nat.eq_of_beq_eq_true e)
  simp [Map.setMu, this]

theorem live_lt {h : Rows} {b : Nat} {r : Row} (hl : h.live b = some r) : b < h.length := by
  unfold Rows.live at hl
  cases hx : h[b]? with
  | none => rw [hx] at hl; simp at hl
  | some x => exact (List.getElem?_eq_some_iff.1 hx).1

theorem live_push {h : Rows} {r : Row} {b : Nat} {r' : Row} (hl : Rows.live (h ++ [some r]) b = some r') : (b < h.length ∧ h.live b = some r') ∨ (b = h.length ∧ r' = r) := by
  have hb := live_lt hl
  simp at hb
  unfold Rows.live at hl ⊢
  by_cases h1 : b < h.length
  · rw [List.getElem?_append_left h1] at hl
    exact .inl ⟨h1, hl⟩
  · have : b = h.length := by omega
    subst this
    rw [List.getElem?_append_right (Nat.le_refl _)] at hl
    simp at hl
    exact .inr ⟨rfl, hl.symm⟩

theorem live_set {h : Rows} {b c : Nat} {x : Option Row} (hb : b < h.length) : Rows.live (h.set b x) c = if c = b then x else h.live c := by
  unfold Rows.live
  by_cases e : c = b
  · subst e; simp [hb]
  · rw [if_neg e, List.getElem?_set_ne (by omega)]

/-- Elements that read as they should. -/
def ElsOK (m : Map) (n : Nat) (r : Row) (esz : Nat) (c : Nat → Option Value) : Prop :=
  ∀ i e, r.get? i = some e → e.cells.length = esz ∧ ∀ o a, e.cells[o]? = some a → a.one = true ∧ ∃ v, c (i * esz + o) = some v ∧ Den m n a v

theorem ElsOK.mono {m m' : Map} {n n' : Nat} {r : Row} {esz : Nat} {c : Nat → Option Value} (h : ElsOK m n r esz c) (hn : n ≤ n') (hm : ∀ b, b < n → m'.mu b = m.mu b) (hr : m'.ro = m.ro) : ElsOK m' n' r esz c :=
  fun i e he => ⟨(h i e he).1, fun o a ha => by
    obtain ⟨h1, v, hv, hd⟩ := (h i e he).2 o a ha
    exact ⟨h1, v, hv, hd.mono hn hm hr⟩⟩

theorem RowOK.els {m : Map} {n : Nat} {l : Loc} {r : Row} {w : World} (h : RowOK m n l r w) (hv : l.vir = false) :
    ∃ c fz, w.heap[l.blk]? = some (.cells c r.ty fz) ∧ l.shift + l.ext * l.esz ≤ c.size ∧ (∀ k, l.shift ≤ k → k < l.shift + l.ext * l.esz → (fz.1 ≤ k && k < fz.2) = false) ∧
      ElsOK m n r l.esz (fun k => c[l.shift + k]?) := by
  unfold RowOK at h
  rw [hv] at h
  simp only [Bool.false_eq_true, if_false] at h
  obtain ⟨h1, h2, c, fz, hb, h3, h4, h5⟩ := h
  exact ⟨c, fz, hb, h3, h4, h5⟩

theorem RowOK.mk' {m : Map} {n : Nat} {l : Loc} {r : Row} {w : World} (hv : l.vir = false) (h1 : l.esz = r.esz) (h2 : r.len ≤ l.ext) {c : Array Value} {fz : Nat × Nat} (hb : w.heap[l.blk]? = some (.cells c r.ty fz))
    (h3 : l.shift + l.ext * l.esz ≤ c.size) (h4 : ∀ k, l.shift ≤ k → k < l.shift + l.ext * l.esz → (fz.1 ≤ k && k < fz.2) = false) (h5 : ElsOK m n r l.esz (fun k => c[l.shift + k]?)) : RowOK m n l r w := by
  unfold RowOK
  rw [hv]
  simp only [Bool.false_eq_true, if_false]
  exact ⟨h1, h2, c, fz, hb, h3, h4, h5⟩

theorem RowOK.mono {m m' : Map} {n n' : Nat} {l : Loc} {r : Row} {w w' : World} (h : RowOK m n l r w) (hn : n ≤ n') (hm : ∀ b, b < n → m'.mu b = m.mu b) (hr : m'.ro = m.ro)
    (hb : l.vir = false → w'.heap[l.blk]? = w.heap[l.blk]?) : RowOK m' n' l r w' := by
  cases hv : l.vir with
  | true =>
    unfold RowOK at h ⊢
    rw [hv] at h ⊢
    exact h
  | false =>
    obtain ⟨c, fz, h1, h2, h3, h4⟩ := h.els hv
    exact RowOK.mk' hv h.1 h.2.1 (by rw [hb hv]; exact h1) h2 h3 (h4.mono hn hm hr)

theorem RoOK.mono {m m' : Map} {l : Loc} {r : RoRow} {w w' : World} (h : RoOK m l r w) (hr : m'.ro = m.ro) (hb : l.vir = false → 0 < r.n → w'.heap[l.blk]? = w.heap[l.blk]?) : RoOK m' l r w' := by
  unfold RoOK at h ⊢
  refine ⟨h.1, h.2.1, ?_⟩
  have h3 := h.2.2
  split
  · rename_i hv; rw [if_pos hv] at h3; exact h3
  · rename_i hv
    rw [if_neg hv] at h3
    intro hn
    obtain ⟨c, fz, h4, h5⟩ := h3 hn
    refine ⟨c, fz, by rw [hb (by simpa using hv) hn]; exact h4, fun i hi => ⟨(h5 i hi).1, fun o a ha => ?_⟩⟩
    obtain ⟨h6, v, h7, h8⟩ := (h5 i hi).2 o a ha
    exact ⟨h6, v, h7, h8.mono (Nat.le_refl _) (fun _ hb => absurd hb (Nat.not_lt_zero _)) hr⟩

theorem WR.blk_lt {R : Nat → RoRow} {m : Map} {h : Rows} {w : World} (hW : WR R m h w) {b : Nat} {r : Row} (hl : h.live b = some r) (hv : (m.mu b).vir = false) : (m.mu b).blk < w.heap.size := by
  obtain ⟨c, fz, h1, _⟩ := (hW.row b r hl).els hv
  exact (Array.getElem?_eq_some_iff.1 h1).1

theorem WR.ro_lt {R : Nat → RoRow} {m : Map} {h : Rows} {w : World} (hW : WR R m h w) {i : Nat} (hv : (m.ro i).vir = false) (hn : 0 < (R i).n) : (m.ro i).blk < w.heap.size := by
  have h0 := (hW.ro i).2.2
  rw [if_neg (by simpa using hv)] at h0
  obtain ⟨c, fz, h1, _⟩ := h0 hn
  exact (Array.getElem?_eq_some_iff.1 h1).1

/-- Nothing of memory has changed. -/
theorem WR.same {R : Nat → RoRow} {m : Map} {h : Rows} {w w' : World} (hW : WR R m h w) (hh : w'.heap = w.heap) : WR R m h w' where
  row := fun b r hl => (hW.row b r hl).mono (Nat.le_refl _) (fun _ _ => rfl) rfl (fun _ => by rw [hh])
  apart := hW.apart
  ro := fun i => (hW.ro i).mono rfl (fun _ _ => by rw [hh])
  roApart := hW.roApart

/-- A row is given up. -/
theorem WR.drop {R : Nat → RoRow} {m : Map} {h : Rows} {w : World} (hW : WR R m h w) (b : Nat) (hb : b < h.length) : WR R m (h.set b none) w := by
  have hlive : ∀ c r, Rows.live (h.set b none) c = some r → h.live c = some r := by
    intro c r hc
    rw [live_set hb] at hc
    split at hc
    · exact absurd hc (by simp)
    · exact hc
  exact {
    row := fun c r hc => by
      have := hW.row c r (hlive c r hc)
      simpa using this
    apart := fun c d r r' hc hd => hW.apart c d r r' (hlive c r hc) (hlive d r' hd)
    ro := hW.ro
    roApart := fun i c r hc => hW.roApart i c r (hlive c r hc) }

theorem Step.drop {m : Map} {h : Rows} {w : World} (b : Nat) (hb : b < h.length) : Step m h w m (h.set b none) w where
  os := rfl
  tape := rfl
  output := rfl
  size := Nat.le_refl _
  block := fun _ _ _ => rfl
  len := by simp
  mu := fun _ _ => rfl
  ro := rfl
  new := fun c r hc hv => by
    rw [live_set hb] at hc
    split at hc
    · exact absurd hc (by simp)
    · exact .inr ⟨c, r, hc, hv, rfl⟩

/-- A new row in a new block. -/
theorem WR.push {R : Nat → RoRow} {m : Map} {h : Rows} {w w' : World} (hW : WR R m h w) (r : Row) (c : Array Value) (fz : Nat × Nat) (ext : Nat)
    (hos : w'.os = w.os) (htape : w'.tape = w.tape) (hout : w'.output = w.output) (hh : w'.heap = w.heap.push (.cells c r.ty fz))
    (h2 : r.len ≤ ext) (h3 : ext * r.esz ≤ c.size) (h4 : ∀ k, k < ext * r.esz → (fz.1 ≤ k && k < fz.2) = false) (h5 : ElsOK m h.length r r.esz (fun k => c[k]?)) :
    WR R (m.setMu h.length ⟨w.heap.size, 0, r.esz, ext, false⟩) (h ++ [some r]) w' ∧ Step m h w (m.setMu h.length ⟨w.heap.size, 0, r.esz, ext, false⟩) (h ++ [some r]) w' := by
  have hold : ∀ k, k < w.heap.size → w'.heap[k]? = w.heap[k]? := by
    intro k hk
    rw [hh, Array.getElem?_push, if_neg (by omega)]
  have hmu : ∀ b, b < h.length → (m.setMu h.length ⟨w.heap.size, 0, r.esz, ext, false⟩).mu b = m.mu b := fun b hb => Map.setMu_ne m _ _ _ (by omega)
  have hmn := Map.setMu_same m h.length ⟨w.heap.size, 0, r.esz, ext, false⟩
  refine ⟨{ row := ?_, apart := ?_, ro := ?_, roApart := ?_ }, { os := hos, tape := htape, output := hout, size := by rw [hh]; simp, block := fun k hk _ => hold k hk, len := by simp, mu := hmu, ro := rfl, new := ?_ }⟩
  · intro b r' hb
    rcases live_push hb with ⟨hlt, hl⟩ | ⟨rfl, rfl⟩
    · rw [hmu b hlt]
      exact (hW.row b r' hl).mono (by simp) (fun c hc => hmu c hc) rfl (fun hv => hold _ (hW.blk_lt hl hv))
    · rw [hmn]
      refine RowOK.mk' rfl rfl h2 (c := c) (fz := fz) ?_ (by simpa using h3) (fun k _ hk => h4 k (by simpa using hk)) ?_
      · rw [hh]; simp
      · simpa using h5.mono (by simp) (fun c hc => hmu c hc) rfl
  · intro b b' r1 r2 hb hb' hv hv' he
    rcases live_push hb with ⟨hlt, hl⟩ | ⟨rfl, rfl⟩
    · rcases live_push hb' with ⟨hlt', hl'⟩ | ⟨rfl, rfl⟩
      · rw [hmu b hlt] at hv he
        rw [hmu b' hlt'] at hv' he
        exact hW.apart b b' r1 r2 hl hl' hv hv' he
      · rw [hmu b hlt] at hv he
        rw [hmn] at he
        have := hW.blk_lt hl hv
        simp only [] at he
        omega
    · rcases live_push hb' with ⟨hlt', hl'⟩ | ⟨rfl, rfl⟩
      · rw [hmu b' hlt'] at hv' he
        rw [hmn] at he
        have := hW.blk_lt hl' hv'
        simp only [] at he
        omega
      · rfl
  · intro i
    exact (hW.ro i).mono rfl (fun hv hn => hold _ (hW.ro_lt hv hn))
  · intro i b r' hb hv hv' hn
    rcases live_push hb with ⟨hlt, hl⟩ | ⟨rfl, rfl⟩
    · rw [hmu b hlt] at hv ⊢
      exact hW.roApart i b r' hl hv hv' hn
    · rw [hmn]
      have := hW.ro_lt hv' hn
      show (m.ro i).blk ≠ w.heap.size
      omega
  · intro b r' hb hv
    rcases live_push hb with ⟨hlt, hl⟩ | ⟨rfl, rfl⟩
    · rw [hmu b hlt] at hv ⊢
      exact .inr ⟨b, r', hl, hv, rfl⟩
    · rw [hmn]; exact .inl (Nat.le_refl _)

/-- A row changes in its place. -/
theorem WR.update {R : Nat → RoRow} {m : Map} {h : Rows} {w w' : World} (hW : WR R m h w) {b : Nat} {r : Row} (hl : h.live b = some r) (hv : (m.mu b).vir = false) (r' : Row) (c : Array Value) (fz : Nat × Nat)
    (hos : w'.os = w.os) (htape : w'.tape = w.tape) (hout : w'.output = w.output) (hsz : w'.heap.size = w.heap.size) (hother : ∀ k, k ≠ (m.mu b).blk → w'.heap[k]? = w.heap[k]?)
    (hblk : w'.heap[(m.mu b).blk]? = some (.cells c r'.ty fz)) (he : r'.esz = (m.mu b).esz) (h2 : r'.len ≤ (m.mu b).ext) (h3 : (m.mu b).shift + (m.mu b).ext * (m.mu b).esz ≤ c.size)
    (h4 : ∀ k, (m.mu b).shift ≤ k → k < (m.mu b).shift + (m.mu b).ext * (m.mu b).esz → (fz.1 ≤ k && k < fz.2) = false) (h5 : ElsOK m h.length r' (m.mu b).esz (fun k => c[(m.mu b).shift + k]?)) :
    WR R m (h.set b (some r')) w' ∧ Step m h w m (h.set b (some r')) w' := by
  have hb := live_lt hl
  have hlive : ∀ c r1, Rows.live (h.set b (some r')) c = some r1 → (c = b ∧ r1 = r') ∨ (c ≠ b ∧ h.live c = some r1) := by
    intro c r1 hc
    rw [live_set hb] at hc
    split at hc
    · rename_i e; simp at hc; exact .inl ⟨e, hc.symm⟩
    · rename_i e; exact .inr ⟨e, hc⟩
  refine ⟨{ row := ?_, apart := ?_, ro := ?_, roApart := ?_ }, { os := hos, tape := htape, output := hout, size := by omega, block := ?_, len := by simp, mu := fun _ _ => rfl, ro := rfl, new := ?_ }⟩
  · intro d r1 hd
    rw [List.length_set]
    rcases hlive d r1 hd with ⟨rfl, rfl⟩ | ⟨hne, hl'⟩
    · exact RowOK.mk' hv he.symm h2 hblk h3 h4 h5
    · refine (hW.row d r1 hl').mono (Nat.le_refl _) (fun _ _ => rfl) rfl (fun hv' => hother _ ?_)
      exact fun e => hne (hW.apart d b r1 r hl' hl hv' hv e)
  · intro d d' r1 r2 hd hd' hv1 hv2 hbe
    rcases hlive d r1 hd with ⟨rfl, rfl⟩ | ⟨hne, hl'⟩ <;> rcases hlive d' r2 hd' with ⟨rfl, rfl⟩ | ⟨hne', hl''⟩
    · rfl
    · exact hW.apart _ _ _ _ hl hl'' hv1 hv2 hbe
    · exact hW.apart _ _ _ _ hl' hl hv1 hv2 hbe
    · exact hW.apart _ _ _ _ hl' hl'' hv1 hv2 hbe
  · intro i
    exact (hW.ro i).mono rfl (fun hv' hn => hother _ (hW.roApart i b r hl hv hv' hn))
  · intro i d r1 hd hv1 hv2 hn
    rcases hlive d r1 hd with ⟨rfl, rfl⟩ | ⟨hne, hl'⟩
    · exact hW.roApart i _ _ hl hv1 hv2 hn
    · exact hW.roApart i _ _ hl' hv1 hv2 hn
  · intro k hk hn
    exact hother k (fun e => hn b r hl hv e.symm)
  · intro d r1 hd hv1
    rcases hlive d r1 hd with ⟨rfl, rfl⟩ | ⟨hne, hl'⟩
    · exact .inr ⟨_, r, hl, hv, rfl⟩
    · exact .inr ⟨d, r1, hl', hv1, rfl⟩

/-- A row goes over into another one that lies in the same block. -/
theorem WR.move {R : Nat → RoRow} {m : Map} {h : Rows} {w w' : World} (hW : WR R m h w) {b : Nat} {r : Row} (hl : h.live b = some r) (hv : (m.mu b).vir = false) (r' : Row) (c : Array Value) (fz : Nat × Nat) (shift ext : Nat)
    (hos : w'.os = w.os) (htape : w'.tape = w.tape) (hout : w'.output = w.output) (hsz : w'.heap.size = w.heap.size) (hother : ∀ k, k ≠ (m.mu b).blk → w'.heap[k]? = w.heap[k]?)
    (hblk : w'.heap[(m.mu b).blk]? = some (.cells c r'.ty fz)) (h2 : r'.len ≤ ext) (h3 : shift + ext * r'.esz ≤ c.size)
    (h4 : ∀ k, shift ≤ k → k < shift + ext * r'.esz → (fz.1 ≤ k && k < fz.2) = false) (h5 : ElsOK m h.length r' r'.esz (fun k => c[shift + k]?)) :
    WR R (m.setMu h.length ⟨(m.mu b).blk, shift, r'.esz, ext, false⟩) (h.set b none ++ [some r']) w' ∧ Step m h w (m.setMu h.length ⟨(m.mu b).blk, shift, r'.esz, ext, false⟩) (h.set b none ++ [some r']) w' := by
  have hb := live_lt hl
  have hlen : (h.set b none).length = h.length := by simp
  have hmu : ∀ d, d < h.length → (m.setMu h.length ⟨(m.mu b).blk, shift, r'.esz, ext, false⟩).mu d = m.mu d := fun d hd => Map.setMu_ne m _ _ _ (by omega)
  have hmn := Map.setMu_same m h.length ⟨(m.mu b).blk, shift, r'.esz, ext, false⟩
  have hlive : ∀ d r1, Rows.live (h.set b none ++ [some r']) d = some r1 → (d = h.length ∧ r1 = r') ∨ (d < h.length ∧ d ≠ b ∧ h.live d = some r1) := by
    intro d r1 hd
    rcases live_push hd with ⟨hlt, hl'⟩ | ⟨rfl, rfl⟩
    · rw [live_set hb] at hl'
      split at hl'
      · exact absurd hl' (by simp)
      · rename_i e; rw [hlen] at hlt; exact .inr ⟨hlt, e, hl'⟩
    · rw [hlen]; exact .inl ⟨rfl, rfl⟩
  refine ⟨{ row := ?_, apart := ?_, ro := ?_, roApart := ?_ }, { os := hos, tape := htape, output := hout, size := by omega, block := ?_, len := by simp, mu := hmu, ro := rfl, new := ?_ }⟩
  · intro d r1 hd
    rcases hlive d r1 hd with ⟨rfl, rfl⟩ | ⟨hlt, hne, hl'⟩
    · rw [hmn]
      refine RowOK.mk' rfl rfl h2 hblk h3 h4 ?_
      exact h5.mono (by simp) (fun c hc => hmu c hc) rfl
    · rw [hmu d hlt]
      refine (hW.row d r1 hl').mono (by simp) (fun c hc => hmu c hc) rfl (fun hv' => hother _ ?_)
      exact fun e => hne (hW.apart d b r1 r hl' hl hv' hv e)
  · intro d d' r1 r2 hd hd' hv1 hv2 hbe
    rcases hlive d r1 hd with ⟨rfl, rfl⟩ | ⟨hlt, hne, hl'⟩ <;> rcases hlive d' r2 hd' with ⟨rfl, rfl⟩ | ⟨hlt', hne', hl''⟩
    · rfl
    · rw [hmu _ hlt'] at hv2 hbe
      rw [hmn] at hbe
      exact absurd (hW.apart b d' r r2 hl hl'' hv hv2 hbe).symm hne'
    · rw [hmu _ hlt] at hv1 hbe
      rw [hmn] at hbe
      exact absurd (hW.apart d b r1 r hl' hl hv1 hv hbe) hne
    · rw [hmu _ hlt] at hv1 hbe
      rw [hmu _ hlt'] at hv2 hbe
      exact hW.apart _ _ _ _ hl' hl'' hv1 hv2 hbe
  · intro i
    exact (hW.ro i).mono rfl (fun hv' hn => hother _ (hW.roApart i b r hl hv hv' hn))
  · intro i d r1 hd hv1 hv2 hn
    rcases hlive d r1 hd with ⟨rfl, rfl⟩ | ⟨hlt, hne, hl'⟩
    · rw [hmn]; exact hW.roApart i b r hl hv hv2 hn
    · rw [hmu d hlt] at hv1 ⊢
      exact hW.roApart i _ _ hl' hv1 hv2 hn
  · intro k hk hn
    exact hother k (fun e => hn b r hl hv e.symm)
  · intro d r1 hd hv1
    rcases hlive d r1 hd with ⟨rfl, rfl⟩ | ⟨hlt, hne, hl'⟩
    · rw [hmn]; exact .inr ⟨b, r, hl, hv, rfl⟩
    · rw [hmu d hlt] at hv1 ⊢
      exact .inr ⟨d, r1, hl', hv1, rfl⟩

end Go.Dc
