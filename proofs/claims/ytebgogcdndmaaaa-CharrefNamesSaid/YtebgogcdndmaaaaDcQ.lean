/- Names of rows, changed: a state seen from inside (few rows, numbered anew) and from outside. -/
import Derived.Test.YtebgogcdndmaaaaDcP
set_option linter.unusedSimpArgs false
set_option linter.unusedVariables false
namespace Go.Dc

mutual
def ren (f : Nat → Nat) : AV → AV
  | .any => .any
  | .bool b => .bool b
  | .int k x => .int k x
  | .str l => .str l
  | .ptr ro b i o => .ptr ro (cond ro b (f b)) i o
  | .nilp => .nilp
  | .sl ro b i len full => .sl ro (cond ro b (f b)) i len full
  | .nils => .nils
  | .fn g a c => .fn g (renL f a) (renL f c)
  | .nilf => .nilf
  | .ifc t x => .ifc t (ren f x)
  | .nili => .nili
  | .agg cs => .agg (renL f cs)
  | .tup cs => .tup (renL f cs)
def renL (f : Nat → Nat) : List AV → List AV
  | [] => []
  | x :: xs => ren f x :: renL f xs
end

mutual
/-- 'x', told with inner numbers, is 'y', told with outer ones; or it tells less. An inner row without an outer one is empty. -/
def Vw (f : Nat → Option Nat) (n : Nat) : AV → AV → Prop
  | .any, _ => True
  | .bool b, y => y = .bool b
  | .int k x, y => y = .int k x
  | .str l, y => y = .str l
  | .ptr true b i o, y => y = .ptr true b i o
  | .ptr false b i o, y => b < n ∧ ∃ b', f b = some b' ∧ y = .ptr false b' i o
  | .nilp, y => y = .nilp
  | .sl true b i len full, y => ∃ u, y = .sl true b i len u ∧ (full = true → u = true)
  | .sl false b i len full, y => b < n ∧ ((∃ b' u, f b = some b' ∧ y = .sl false b' i len u ∧ (full = true → u = true)) ∨ (f b = none ∧ len = 0 ∧ y = .nils))
  | .nils, y => y = .nils
  | .fn g a c, y => ∃ a' c', y = .fn g a' c' ∧ VwL f n a a' ∧ VwL f n c c'
  | .nilf, y => y = .nilf
  | .ifc t x, y => ∃ x', y = .ifc t x' ∧ Vw f n x x'
  | .nili, y => y = .nili
  | .agg cs, y => ∃ cs', y = .agg cs' ∧ VwL f n cs cs'
  | .tup cs, y => ∃ cs', y = .tup cs' ∧ VwL f n cs cs'
def VwL (f : Nat → Option Nat) (n : Nat) : List AV → List AV → Prop
  | [], l => l = []
  | x :: xs, l => ∃ y ys, l = y :: ys ∧ Vw f n x y ∧ VwL f n xs ys
end

def Map.view (m : Map) (f : Nat → Option Nat) (es : Nat → Nat) : Map := ⟨fun c => match f c with | some b => m.mu b | none => ⟨0, 0, es c, 0, true⟩, m.ro⟩

theorem view_some {m : Map} {f : Nat → Option Nat} {es : Nat → Nat} {c b : Nat} (h : f c = some b) : (m.view f es).mu c = m.mu b := by
  simp [Map.view, h]
theorem view_none {m : Map} {f : Nat → Option Nat} {es : Nat → Nat} {c : Nat} (h : f c = none) : (m.view f es).mu c = ⟨0, 0, es c, 0, true⟩ := by
  simp [Map.view, h]

mutual
theorem Vw.den {m : Map} {f : Nat → Option Nat} {es : Nat → Nat} {n N : Nat} : ∀ (x y : AV) (v : Value), Vw f n x y → Den m N y v → Den (m.view f es) n x v
  | .any, _, _, _, _ => by simp [Den]
  | .bool b, y, v, h, hd => by simp only [Vw] at h; subst h; simpa [Den] using hd
  | .int k x, y, v, h, hd => by simp only [Vw] at h; subst h; simpa [Den] using hd
  | .str l, y, v, h, hd => by simp only [Vw] at h; subst h; simpa [Den] using hd
  | .ptr true b i o, y, v, h, hd => by
    simp only [Vw] at h
    subst h
    simp only [Den, Map.loc, if_true] at hd ⊢
    exact ⟨by simp, hd.2⟩
  | .ptr false b i o, y, v, h, hd => by
    simp only [Vw] at h
    obtain ⟨hlt, b', hb, rfl⟩ := h
    simp only [Den, Map.loc, Bool.false_eq_true, if_false] at hd ⊢
    rw [view_some hb]
    exact ⟨fun _ => hlt, hd.2⟩
  | .nilp, y, v, h, hd => by simp only [Vw] at h; subst h; simpa [Den] using hd
  | .sl true b i len full, y, v, h, hd => by
    simp only [Vw] at h
    obtain ⟨u, rfl, hu⟩ := h
    simp only [Den, Map.loc, if_true] at hd ⊢
    refine ⟨by simp, ?_⟩
    have h2 := hd.2
    have e : (m.view f es).ro = m.ro := rfl
    rw [e]
    unfold SlDen at h2 ⊢
    split
    · rename_i hv; rw [if_pos hv] at h2; exact h2
    · rename_i hv
      rw [if_neg hv] at h2
      obtain ⟨a, cap, h1, h3, h4, h5, h6⟩ := h2
      exact ⟨a, cap, h1, h3, h4, fun e => h5 (hu e), h6⟩
  | .sl false b i len full, y, v, h, hd => by
    simp only [Vw] at h
    obtain ⟨hlt, ⟨b', u, hb, rfl, hu⟩ | ⟨hb, rfl, rfl⟩⟩ := h
    · simp only [Den, Map.loc, Bool.false_eq_true, if_false] at hd ⊢
      refine ⟨fun _ => hlt, ?_⟩
      rw [view_some hb]
      have h2 := hd.2
      unfold SlDen at h2 ⊢
      split
      · rename_i hv; rw [if_pos hv] at h2; exact h2
      · rename_i hv
        rw [if_neg hv] at h2
        obtain ⟨a, cap, h1, h3, h4, h5, h6⟩ := h2
        exact ⟨a, cap, h1, h3, h4, fun e => h5 (hu e), h6⟩
    · simp only [Den, Map.loc, Bool.false_eq_true, if_false] at hd ⊢
      refine ⟨fun _ => hlt, ?_⟩
      rw [view_none hb]
      unfold SlDen
      rw [if_pos rfl]
      exact ⟨rfl, none, hd⟩
  | .nils, y, v, h, hd => by simp only [Vw] at h; subst h; simpa [Den] using hd
  | .fn g a c, y, v, h, hd => by
    simp only [Vw] at h
    obtain ⟨a', c', rfl, h1, h2⟩ := h
    simp only [Den] at hd ⊢
    obtain ⟨us, vs, e, hu, hc⟩ := hd
    exact ⟨us, vs, e, VwL.den a a' _ h1 hu, VwL.den c c' _ h2 hc⟩
  | .nilf, y, v, h, hd => by simp only [Vw] at h; subst h; simpa [Den] using hd
  | .ifc t x, y, v, h, hd => by
    simp only [Vw] at h
    obtain ⟨x', rfl, h1⟩ := h
    simp only [Den] at hd ⊢
    obtain ⟨u, e, hu⟩ := hd
    exact ⟨u, e, Vw.den x x' _ h1 hu⟩
  | .nili, y, v, h, hd => by simp only [Vw] at h; subst h; simpa [Den] using hd
  | .agg cs, y, v, h, hd => by
    simp only [Vw] at h
    obtain ⟨cs', rfl, h1⟩ := h
    simp only [Den] at hd ⊢
    obtain ⟨u, e, hu⟩ := hd
    exact ⟨u, e, VwL.den cs cs' _ h1 hu⟩
  | .tup cs, y, v, h, hd => by
    simp only [Vw] at h
    obtain ⟨cs', rfl, h1⟩ := h
    simp only [Den] at hd ⊢
    obtain ⟨u, e, hu⟩ := hd
    exact ⟨u, e, VwL.den cs cs' _ h1 hu⟩
theorem VwL.den {m : Map} {f : Nat → Option Nat} {es : Nat → Nat} {n N : Nat} : ∀ (x y : List AV) (v : List Value), VwL f n x y → DenL m N y v → DenL (m.view f es) n x v
  | [], y, v, h, hd => by simp only [VwL] at h; subst h; simpa [DenL] using hd
  | x :: xs, y, v, h, hd => by
    simp only [VwL] at h
    obtain ⟨y, ys, rfl, h1, h2⟩ := h
    simp only [DenL] at hd ⊢
    obtain ⟨u, us, e, hu, hus⟩ := hd
    exact ⟨u, us, e, Vw.den x y _ h1 hu, VwL.den xs ys _ h2 hus⟩
end

mutual
theorem Vw.ren {f : Nat → Option Nat} {g : Nat → Nat} {n : Nat} : ∀ (x y : AV), Vw f n x y → Vw (fun c => (f c).map g) n x (ren g y)
  | .any, _, _ => by simp [Vw]
  | .bool b, y, h => by simp only [Vw] at h; subst h; simp [Vw, Dc.ren]
  | .int k x, y, h => by simp only [Vw] at h; subst h; simp [Vw, Dc.ren]
  | .str l, y, h => by simp only [Vw] at h; subst h; simp [Vw, Dc.ren]
  | .ptr true b i o, y, h => by simp only [Vw] at h; subst h; simp [Vw, Dc.ren]
  | .ptr false b i o, y, h => by
    simp only [Vw] at h
    obtain ⟨hlt, b', hb, rfl⟩ := h
    simp [Vw, Dc.ren, hlt, hb]
  | .nilp, y, h => by simp only [Vw] at h; subst h; simp [Vw, Dc.ren]
  | .sl true b i len full, y, h => by
    simp only [Vw] at h
    obtain ⟨u, rfl, hu⟩ := h
    simpa [Vw, Dc.ren] using hu
  | .sl false b i len full, y, h => by
    simp only [Vw] at h
    obtain ⟨hlt, ⟨b', u, hb, rfl, hu⟩ | ⟨hb, rfl, rfl⟩⟩ := h
    · simp only [Vw, Dc.ren, cond_false]
      exact ⟨hlt, .inl ⟨_, u, by rw [hb]; rfl, rfl, hu⟩⟩
    · simp only [Vw, Dc.ren]
      exact ⟨hlt, .inr ⟨by rw [hb]; rfl, by trivial, by trivial⟩⟩
  | .nils, y, h => by simp only [Vw] at h; subst h; simp [Vw, Dc.ren]
  | .fn t a c, y, h => by
    simp only [Vw] at h
    obtain ⟨a', c', rfl, h1, h2⟩ := h
    simp only [Vw, Dc.ren]
    exact ⟨_, _, rfl, VwL.ren a a' h1, VwL.ren c c' h2⟩
  | .nilf, y, h => by simp only [Vw] at h; subst h; simp [Vw, Dc.ren]
  | .ifc t x, y, h => by
    simp only [Vw] at h
    obtain ⟨x', rfl, h1⟩ := h
    simp only [Vw, Dc.ren]
    exact ⟨_, rfl, Vw.ren x x' h1⟩
  | .nili, y, h => by simp only [Vw] at h; subst h; simp [Vw, Dc.ren]
  | .agg cs, y, h => by
    simp only [Vw] at h
    obtain ⟨cs', rfl, h1⟩ := h
    simp only [Vw, Dc.ren]
    exact ⟨_, rfl, VwL.ren cs cs' h1⟩
  | .tup cs, y, h => by
    simp only [Vw] at h
    obtain ⟨cs', rfl, h1⟩ := h
    simp only [Vw, Dc.ren]
    exact ⟨_, rfl, VwL.ren cs cs' h1⟩
theorem VwL.ren {f : Nat → Option Nat} {g : Nat → Nat} {n : Nat} : ∀ (x y : List AV), VwL f n x y → VwL (fun c => (f c).map g) n x (renL g y)
  | [], y, h => by simp only [VwL] at h; subst h; simp [VwL, renL]
  | x :: xs, y, h => by
    simp only [VwL] at h
    obtain ⟨y, ys, rfl, h1, h2⟩ := h
    simp only [VwL, renL]
    exact ⟨_, _, rfl, Vw.ren x y h1, VwL.ren xs ys h2⟩
end

mutual
/-- Numbers changed on the way out. -/
theorem ren_den {m m' : Map} {g : Nat → Nat} {n N : Nat} (hg : ∀ c, c < n → g c < N ∧ m'.mu (g c) = m.mu c) (hro : m'.ro = m.ro) : ∀ (x : AV) (v : Value), Den m n x v → Den m' N (ren g x) v
  | .any, _, _ => by simp [ren, Den]
  | .bool b, v, h => by simpa [ren, Den] using h
  | .int k x, v, h => by simpa [ren, Den] using h
  | .str l, v, h => by simpa [ren, Den] using h
  | .ptr ro b i o, v, h => by
    cases ro with
    | true => simp only [ren, Den, Map.loc, cond_true, if_true, hro] at h ⊢; exact ⟨by simp, h.2⟩
    | false =>
      simp only [ren, Den, Map.loc, cond_false] at h ⊢
      obtain ⟨h1, h2⟩ := h
      have := hg b (h1 trivial)
      simp only [Bool.false_eq_true, if_false] at h2 ⊢
      rw [this.2]; exact ⟨fun _ => this.1, h2⟩
  | .nilp, v, h => by simpa [ren, Den] using h
  | .sl ro b i len full, v, h => by
    cases ro with
    | true => simp only [ren, Den, Map.loc, cond_true, if_true, hro] at h ⊢; exact ⟨by simp, h.2⟩
    | false =>
      simp only [ren, Den, Map.loc, cond_false] at h ⊢
      obtain ⟨h1, h2⟩ := h
      have := hg b (h1 trivial)
      simp only [Bool.false_eq_true, if_false] at h2 ⊢
      rw [this.2]; exact ⟨fun _ => this.1, h2⟩
  | .nils, v, h => by simpa [ren, Den] using h
  | .fn t a c, v, h => by
    simp only [ren, Den] at h ⊢
    obtain ⟨us, vs, e, hu, hc⟩ := h
    exact ⟨us, vs, e, renL_den hg hro a _ hu, renL_den hg hro c _ hc⟩
  | .nilf, v, h => by simpa [ren, Den] using h
  | .ifc t x, v, h => by
    simp only [ren, Den] at h ⊢
    obtain ⟨u, e, hu⟩ := h
    exact ⟨u, e, ren_den hg hro x _ hu⟩
  | .nili, v, h => by simpa [ren, Den] using h
  | .agg cs, v, h => by
    simp only [ren, Den] at h ⊢
    obtain ⟨u, e, hu⟩ := h
    exact ⟨u, e, renL_den hg hro cs _ hu⟩
  | .tup cs, v, h => by
    simp only [ren, Den] at h ⊢
    obtain ⟨u, e, hu⟩ := h
    exact ⟨u, e, renL_den hg hro cs _ hu⟩
theorem renL_den {m m' : Map} {g : Nat → Nat} {n N : Nat} (hg : ∀ c, c < n → g c < N ∧ m'.mu (g c) = m.mu c) (hro : m'.ro = m.ro) : ∀ (x : List AV) (v : List Value), DenL m n x v → DenL m' N (renL g x) v
  | [], v, h => by simpa [renL, DenL] using h
  | x :: xs, v, h => by
    simp only [renL, DenL] at h ⊢
    obtain ⟨u, us, e, hu, hus⟩ := h
    exact ⟨u, us, e, ren_den hg hro x _ hu, renL_den hg hro xs _ hus⟩
end

theorem renL_eq (f : Nat → Nat) : ∀ l, renL f l = l.map (ren f)
  | [] => rfl
  | x :: xs => by simp [renL, renL_eq f xs]

theorem ren_cells (f : Nat → Nat) (x : AV) : (ren f x).cells = x.cells.map (ren f) := by
  cases x <;> simp [ren, AV.cells, renL_eq]

theorem ren_one (f : Nat → Nat) (x : AV) : (ren f x).one = x.one := by
  cases x <;> simp [ren, AV.one]

theorem VwL.length {f : Nat → Option Nat} {n : Nat} : ∀ {x y : List AV}, VwL f n x y → x.length = y.length
  | [], y, h => by simp only [VwL] at h; subst h; rfl
  | x :: xs, y, h => by
    simp only [VwL] at h
    obtain ⟨y, ys, rfl, _, h2⟩ := h
    simp [VwL.length h2]

theorem VwL.get {f : Nat → Option Nat} {n : Nat} : ∀ {x y : List AV}, VwL f n x y → ∀ {i : Nat} {a : AV}, x[i]? = some a → ∃ b, y[i]? = some b ∧ Vw f n a b
  | [], _, _, _, _, h => by simp at h
  | x :: xs, _, h, i, b, hi => by
    simp only [VwL] at h
    obtain ⟨y, ys, rfl, hd, hl⟩ := h
    cases i with
    | zero => simp at hi; subst hi; exact ⟨y, by simp, hd⟩
    | succ i => simp at hi; simpa using VwL.get hl hi

theorem Vw.cells {f : Nat → Option Nat} {n : Nat} {x y : AV} (h : Vw f n x y) (hx : x ≠ .any) : VwL f n x.cells y.cells := by
  have one : ∀ {x y : AV}, Vw f n x y → (x.cells = [x]) → y.cells = [y] → VwL f n x.cells y.cells := by
    intro x y h h1 h2
    rw [h1, h2]
    simp only [VwL]
    exact ⟨_, _, rfl, h, rfl⟩
  cases x with
  | any => exact absurd rfl hx
  | agg cs =>
    simp only [Vw] at h
    obtain ⟨cs', rfl, h1⟩ := h
    exact h1
  | ptr ro b i o =>
    refine one h rfl ?_
    cases ro with
    | true => simp only [Vw] at h; subst h; rfl
    | false => simp only [Vw] at h; obtain ⟨_, _, _, rfl⟩ := h; rfl
  | sl ro b i len u =>
    refine one h rfl ?_
    cases ro with
    | true => simp only [Vw] at h; obtain ⟨_, rfl, _⟩ := h; rfl
    | false => simp only [Vw] at h; obtain ⟨_, ⟨_, _, _, rfl, _⟩ | ⟨_, _, rfl⟩⟩ := h <;> rfl
  | _ =>
    refine one h rfl ?_
    simp only [Vw] at h
    first
      | (subst h; rfl)
      | (obtain ⟨_, rfl⟩ := h; rfl)
      | (obtain ⟨_, rfl, _⟩ := h; rfl)
      | (obtain ⟨_, _, rfl, _⟩ := h; rfl)

end Go.Dc
