/- States told with fewer rows: how it is shown, row by row. -/
import Derived.Test.YtebgogcdndmaaaaDcYf
set_option linter.unusedSimpArgs false
set_option linter.unusedVariables false
namespace Go.Dc

def ones (e : AV) : Bool := e.cells.all AV.one
theorem ones_mem {e : AV} (h : ones e = true) : ∀ a ∈ e.cells, a.one = true := by simpa [ones] using h

theorem RowV.lst1 {f : Nat → Option Nat} {n : Nat} {t z : Nat} {e e' : AV} (h1 : ones e = true) (h2 : Vw f n e e') : RowV f n (.lst t z [e]) (.lst t z [e']) where
  ty := rfl
  esz := rfl
  len := rfl
  get := fun i x hx => by
    cases i with
    | zero => simp only [Row.get?, List.getElem?_cons_zero, Option.some.injEq] at hx; subst hx; exact ⟨ones_mem h1, e', rfl, h2⟩
    | succ i => simp [Row.get?] at hx
theorem RowV.byt {f : Nat → Option Nat} {n : Nat} {t : Nat} {l : List UInt8} : RowV f n (.byt t l) (.byt t l) where
  ty := rfl
  esz := rfl
  len := rfl
  get := fun i x hx => by
    simp only [Row.get?] at hx ⊢
    obtain ⟨c, hc, rfl⟩ := Option.map_eq_some_iff.1 hx
    exact ⟨by simp [AV.cells, AV.one], .int .u8 c.toNat, by rw [hc]; rfl, by simp [Vw]⟩
theorem RowV.gen {f : Nat → Option Nat} {n : Nat} {t z : Nat} {k k' : Nat} {g g' : Nat → AV} (hk : k = k') (h : ∀ i, i < k → ones (g i) = true ∧ Vw f n (g i) (g' i)) : RowV f n (.gen t z k g) (.gen t z k' g') where
  ty := rfl
  esz := rfl
  len := hk
  get := fun i x hx => by
    subst hk
    simp only [Row.get?] at hx ⊢
    cases hb : Nat.blt i k with
    | false => rw [hb] at hx; simp at hx
    | true =>
      rw [hb] at hx
      simp only [cond_true, Option.some.injEq] at hx
      subst hx
      have hi : i < k := by simpa [Nat.blt_eq] using hb
      exact ⟨ones_mem (h i hi).1, _, rfl, (h i hi).2⟩
theorem RowV.gnd {f : Nat → Option Nat} {n : Nat} {t z : Nat} {e : AV} (h1 : ones e = true) (h2 : Go.Dc.gnd e = true) : RowV f n (.lst t z [e]) (.lst t z [e]) := .lst1 h1 (gnd_vw f n e h2)

/-- The row of each name: 'b c' the outer number. -/
structure ViewL (f : Nat → Option Nat) (N : Nat) (h : Rows) (c : Nat) (o : Option Row) : Prop where
  row : ∀ r, o = some r → (∃ b r', f c = some b ∧ h.live b = some r' ∧ RowV f N r r') ∨ (f c = none ∧ r.len = 0)
  lt : ∀ b, f c = some b → b < h.length

theorem View.of {f : Nat → Option Nat} {hE h : Rows} (hl : ∀ c o, hE[c]? = some o → ViewL f hE.length h c o) (hi : ∀ c c' b, c < hE.length → c' < hE.length → f c = some b → f c' = some b → c = c') : View f hE h where
  lt := fun c b hc hb => (hl c _ (List.getElem?_eq_getElem hc)).lt b hb
  inj := hi
  row := fun c r hc => by
    unfold Rows.live at hc
    cases ho : hE[c]? with
    | none => rw [ho] at hc; simp at hc
    | some o =>
      rw [ho] at hc
      simp only [Option.join_some] at hc
      subst hc
      exact (hl c _ ho).row r rfl

theorem ViewL.at_ {f : Nat → Option Nat} {N : Nat} {h : Rows} {c b : Nat} {r r' : Row} (hf : f c = some b) (hb : h[b]? = some (some r')) (hr : RowV f N r r') : ViewL f N h c (some r) where
  row := fun r0 h0 => by cases h0; exact .inl ⟨b, r', hf, by simp [Rows.live, hb], hr⟩
  lt := fun b' hb' => by
    rw [hf] at hb'
    cases hb'
    exact (List.getElem?_eq_some_iff.1 hb).1
theorem ViewL.void {f : Nat → Option Nat} {N : Nat} {h : Rows} {c : Nat} {r : Row} (hf : f c = none) (hr : r.len = 0) : ViewL f N h c (some r) where
  row := fun r0 h0 => by cases h0; exact .inr ⟨hf, hr⟩
  lt := fun b hb => by rw [hf] at hb; simp at hb

theorem VwL.nil {f : Nat → Option Nat} {n : Nat} : VwL f n [] [] := by simp [VwL]
theorem VwL.cons {f : Nat → Option Nat} {n : Nat} {x y : AV} {xs ys : List AV} (h1 : Vw f n x y) (h2 : VwL f n xs ys) : VwL f n (x :: xs) (y :: ys) := by
  simp only [VwL]; exact ⟨y, ys, rfl, h1, h2⟩
theorem Vw.anyI {f : Nat → Option Nat} {n : Nat} {y : AV} : Vw f n .any y := by simp [Vw]
theorem Vw.intI {f : Nat → Option Nat} {n : Nat} {k : IntKind} {x : Int} : Vw f n (.int k x) (.int k x) := by simp [Vw]
theorem Vw.intE {f : Nat → Option Nat} {n : Nat} {k : IntKind} {x y : Int} (h : y = x) : Vw f n (.int k x) (.int k y) := by simp [Vw, h]
theorem Vw.boolI {f : Nat → Option Nat} {n : Nat} {x : Bool} : Vw f n (.bool x) (.bool x) := by simp [Vw]
theorem Vw.strI {f : Nat → Option Nat} {n : Nat} {x : List UInt8} : Vw f n (.str x) (.str x) := by simp [Vw]
theorem Vw.nilsI {f : Nat → Option Nat} {n : Nat} : Vw f n .nils .nils := by simp [Vw]
theorem Vw.nilpI {f : Nat → Option Nat} {n : Nat} : Vw f n .nilp .nilp := by simp [Vw]
theorem Vw.ptrI {f : Nat → Option Nat} {n b b' i o : Nat} (hb : b < n) (hf : f b = some b') : Vw f n (.ptr false b i o) (.ptr false b' i o) := by
  simp only [Vw]; exact ⟨hb, b', hf, rfl⟩
theorem Vw.slI {f : Nat → Option Nat} {n b b' i len : Nat} {u : Bool} (hb : b < n) (hf : f b = some b') : Vw f n (.sl false b i len u) (.sl false b' i len u) := by
  simp only [Vw]; exact ⟨hb, .inl ⟨b', u, hf, rfl, fun h => h⟩⟩
theorem Vw.slE {f : Nat → Option Nat} {n b b' i len : Nat} {u : Bool} (hb : b < n) (hf : f b = some b') : Vw f n (.sl false b i len false) (.sl false b' i len u) := by
  simp only [Vw]; exact ⟨hb, .inl ⟨b', u, hf, rfl, fun h => by simp at h⟩⟩
theorem Vw.slV {f : Nat → Option Nat} {n b i : Nat} {u : Bool} (hb : b < n) (hf : f b = none) : Vw f n (.sl false b i 0 u) .nils := by
  unfold Vw; exact ⟨hb, .inr ⟨hf, rfl, rfl⟩⟩
theorem Vw.aggI {f : Nat → Option Nat} {n : Nat} {x y : List AV} (h : VwL f n x y) : Vw f n (.agg x) (.agg y) := by
  simp only [Vw]; exact ⟨y, rfl, h⟩
theorem Vw.tupI {f : Nat → Option Nat} {n : Nat} {x y : List AV} (h : VwL f n x y) : Vw f n (.tup x) (.tup y) := by
  simp only [Vw]; exact ⟨y, rfl, h⟩
theorem Vw.gndI {f : Nat → Option Nat} {n : Nat} {x : AV} (h : Go.Dc.gnd x = true) : Vw f n x x := gnd_vw f n x h
end Go.Dc
