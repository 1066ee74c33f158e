/- Abstract values and abstract memory: what a run of the program looks like when the addresses, the capacities and the order of what Go leaves open are put aside. -/
import Derived.Orders
import Derived.Below
import Derived.KernelRfl
import Derived.WalkKit
namespace Go.Dc

inductive AV where
  | any
  | bool (b : Bool)
  | int (k : IntKind) (n : Int)
  | str (l : List UInt8)
  | ptr (ro : Bool) (b i o : Nat)
  | nilp
  | sl (ro : Bool) (b i len : Nat) (full : Bool)
  | nils
  | fn (f : FuncId) (first cap : List AV)
  | nilf
  | ifc (t : TypeId) (x : AV)
  | nili
  | agg (cs : List AV)
  | tup (vs : List AV)
  deriving Inhabited

abbrev AV.undef : AV := .tup []

def AV.cells : AV → List AV
  | .agg cs => cs
  | v => [v]

/-- A value of one cell. -/
def AV.one : AV → Bool
  | .any | .agg _ | .tup _ => false
  | _ => true

structure Loc where
  blk : Nat
  shift : Nat
  esz : Nat
  ext : Nat
  vir : Bool

structure Map where
  mu : Nat → Loc
  ro : Nat → Loc

def Map.loc (m : Map) (ro : Bool) (b : Nat) : Loc := if ro then m.ro b else m.mu b

def SlDen (l : Loc) (i len : Nat) (full : Bool) (v : Value) : Prop :=
  if l.vir then len = 0 ∧ ∃ ao, v = .slice ao 0 0
  else ∃ a cap, v = .slice (some a) len cap ∧ len ≤ cap ∧ cap ≤ maxLen ∧ (full = true → cap = len) ∧ (0 < cap → a = ⟨l.blk, l.shift + i * l.esz, none⟩ ∧ i + cap ≤ l.ext)

mutual
def Den (m : Map) (n : Nat) : AV → Value → Prop
  | .any, _ => True
  | .bool b, v => v = .bool b
  | .int k x, v => v = .int k x
  | .str l, v => v = .string ⟨⟨l⟩⟩
  | .ptr ro b i o, v => (ro = false → b < n) ∧ (m.loc ro b).vir = false ∧ v = .pointer (some ⟨(m.loc ro b).blk, (m.loc ro b).shift + (i * (m.loc ro b).esz + o), none⟩)
  | .nilp, v => v = .pointer none
  | .sl ro b i len full, v => (ro = false → b < n) ∧ SlDen (m.loc ro b) i len full v
  | .nils, v => v = .slice none 0 0
  | .fn f first cap, v => ∃ us vs : Array Value, v = .func (.func f) us vs ∧ DenL m n first us.toList ∧ DenL m n cap vs.toList
  | .nilf, v => v = .nilFunc
  | .ifc t x, v => ∃ u, v = .iface t u ∧ Den m n x u
  | .nili, v => v = .nilIface
  | .agg cs, v => ∃ vs : Array Value, v = .agg vs ∧ DenL m n cs vs.toList
  | .tup cs, v => ∃ vs : Array Value, v = .tuple vs ∧ DenL m n cs vs.toList
def DenL (m : Map) (n : Nat) : List AV → List Value → Prop
  | [], l => l = []
  | a :: as, l => ∃ v vs, l = v :: vs ∧ Den m n a v ∧ DenL m n as vs
end

inductive Row where
  | lst (ty : TypeId) (esz : Nat) (els : List AV)
  | gen (ty : TypeId) (esz n : Nat) (at_ : Nat → AV)
  | byt (ty : TypeId) (l : List UInt8)

def Row.ty : Row → TypeId | .lst t _ _ | .gen t _ _ _ | .byt t _ => t
def Row.esz : Row → Nat | .lst _ s _ | .gen _ s _ _ => s | .byt .. => 1
def Row.len : Row → Nat | .lst _ _ l => l.length | .gen _ _ n _ => n | .byt _ l => l.length
def Row.get? : Row → Nat → Option AV
  | .lst _ _ l, i => l[i]?
  | .gen _ _ n f, i => bif Nat.blt i n then some (f i) else none
  | .byt _ l, i => (l[i]?).map fun c => .int .u8 c.toNat

abbrev Rows := List (Option Row)
def Rows.live (h : Rows) (b : Nat) : Option Row := (h[b]?).join

structure St where
  tmps : List AV
  rows : Rows

def RowOK (m : Map) (n : Nat) (l : Loc) (r : Row) (w : World) : Prop :=
  l.esz = r.esz ∧ r.len ≤ l.ext ∧
  if l.vir then r.len = 0 ∧ l.ext = 0
  else ∃ c fz, w.heap[l.blk]? = some (.cells c r.ty fz) ∧ l.shift + l.ext * l.esz ≤ c.size ∧
    (∀ k, l.shift ≤ k → k < l.shift + l.ext * l.esz → (fz.1 ≤ k && k < fz.2) = false) ∧
    ∀ i e, r.get? i = some e → e.cells.length = l.esz ∧
      ∀ o a, e.cells[o]? = some a → a.one = true ∧ ∃ v, c[l.shift + (i * l.esz + o)]? = some v ∧ Den m n a v

/-- Memory that came in and is only read. -/
structure RoRow where
  ty : TypeId
  esz : Nat
  n : Nat
  at_ : Nat → AV

def RoOK (m : Map) (l : Loc) (r : RoRow) (w : World) : Prop :=
  l.esz = r.esz ∧ r.n ≤ l.ext ∧
  if l.vir then r.n = 0
  else 0 < r.n → ∃ c fz, w.heap[l.blk]? = some (.cells c r.ty fz) ∧
    ∀ i, i < r.n → (r.at_ i).cells.length = l.esz ∧
      ∀ o a, (r.at_ i).cells[o]? = some a → a.one = true ∧ ∃ v, c[l.shift + (i * l.esz + o)]? = some v ∧ Den m 0 a v

structure WR (R : Nat → RoRow) (m : Map) (h : Rows) (w : World) : Prop where
  row : ∀ b r, h.live b = some r → RowOK m h.length (m.mu b) r w
  apart : ∀ b b' r r', h.live b = some r → h.live b' = some r' → (m.mu b).vir = false → (m.mu b').vir = false → (m.mu b).blk = (m.mu b').blk → b = b'
  ro : ∀ i, RoOK m (m.ro i) (R i) w
  roApart : ∀ i b r, h.live b = some r → (m.mu b).vir = false → (m.ro i).vir = false → 0 < (R i).n → (m.ro i).blk ≠ (m.mu b).blk

/-- From one state of memory to a later one: what isn't live is as it was; the old names lead where they led. -/
structure Step (m : Map) (h : Rows) (w : World) (m' : Map) (h' : Rows) (w' : World) : Prop where
  os : w'.os = w.os
  tape : w'.tape = w.tape
  output : w'.output = w.output
  size : w.heap.size ≤ w'.heap.size
  block : ∀ k, k < w.heap.size → (∀ b r, h.live b = some r → (m.mu b).vir = false → (m.mu b).blk ≠ k) → w'.heap[k]? = w.heap[k]?
  len : h.length ≤ h'.length
  mu : ∀ b, b < h.length → m'.mu b = m.mu b
  ro : m'.ro = m.ro
  new : ∀ b r, h'.live b = some r → (m'.mu b).vir = false → w.heap.size ≤ (m'.mu b).blk ∨ ∃ c r', h.live c = some r' ∧ (m.mu c).vir = false ∧ (m.mu c).blk = (m'.mu b).blk

theorem Step.refl (m : Map) (h : Rows) (w : World) : Step m h w m h w :=
  ⟨rfl, rfl, rfl, Nat.le_refl _, fun _ _ _ => rfl, Nat.le_refl _, fun _ _ => rfl, rfl, fun b r hb hv => .inr ⟨b, r, hb, hv, rfl⟩⟩

theorem Step.trans {m m1 m2 : Map} {h h1 h2 : Rows} {w w1 w2 : World} (a : Step m h w m1 h1 w1) (b : Step m1 h1 w1 m2 h2 w2) : Step m h w m2 h2 w2 where
  os := b.os.trans a.os
  tape := b.tape.trans a.tape
  output := b.output.trans a.output
  size := Nat.le_trans a.size b.size
  block := fun k hk hn => by
    rw [b.block k (Nat.lt_of_lt_of_le hk a.size), a.block k hk hn]
    intro c r hc hv he
    rcases a.new c r hc hv with h | ⟨d, r', hd, hdv, hde⟩
    · omega
    · exact hn d r' hd hdv (hde.trans he)
  len := Nat.le_trans a.len b.len
  mu := fun c hc => (b.mu c (Nat.lt_of_lt_of_le hc a.len)).trans (a.mu c hc)
  ro := b.ro.trans a.ro
  new := fun c r hc hv => by
    rcases b.new c r hc hv with h | ⟨d, r', hd, hdv, hde⟩
    · exact .inl (Nat.le_trans a.size h)
    · rcases a.new d r' hd hdv with h | ⟨e, r'', he, hev, hee⟩
      · exact .inl (hde ▸ h)
      · exact .inr ⟨e, r'', he, hev, hee.trans hde⟩

mutual
theorem Den.mono {m m' : Map} {n n' : Nat} (hn : n ≤ n') (hm : ∀ b, b < n → m'.mu b = m.mu b) (hr : m'.ro = m.ro) :
    ∀ (a : AV) (v : Value), Den m n a v → Den m' n' a v
  | .any, _, _ => by simp [Den]
  | .bool b, v, h => by simpa [Den] using h
  | .int k x, v, h => by simpa [Den] using h
  | .str l, v, h => by simpa [Den] using h
  | .ptr ro b i o, v, h => by
    simp only [Den] at h ⊢
    refine ⟨fun e => Nat.lt_of_lt_of_le (h.1 e) hn, ?_⟩
    cases ro with
    | true => have e : m'.loc true b = m.loc true b := by simp [Map.loc, hr]
              rw [e]; exact h.2
    | false => have e : m'.loc false b = m.loc false b := by simp [Map.loc, hm b (h.1 rfl)]
               rw [e]; exact h.2
  | .nilp, v, h => by simpa [Den] using h
  | .sl ro b i len full, v, h => by
    simp only [Den] at h ⊢
    refine ⟨fun e => Nat.lt_of_lt_of_le (h.1 e) hn, ?_⟩
    cases ro with
    | true => have e : m'.loc true b = m.loc true b := by simp [Map.loc, hr]
              rw [e]; exact h.2
    | false => have e : m'.loc false b = m.loc false b := by simp [Map.loc, hm b (h.1 rfl)]
               rw [e]; exact h.2
  | .nils, v, h => by simpa [Den] using h
  | .fn f first cap, v, h => by
    simp only [Den] at h ⊢
    obtain ⟨us, vs, e, hu, hd⟩ := h
    exact ⟨us, vs, e, DenL.mono hn hm hr first _ hu, DenL.mono hn hm hr cap _ hd⟩
  | .nilf, v, h => by simpa [Den] using h
  | .ifc t x, v, h => by
    simp only [Den] at h ⊢
    obtain ⟨u, e, hd⟩ := h
    exact ⟨u, e, Den.mono hn hm hr x _ hd⟩
  | .nili, v, h => by simpa [Den] using h
  | .agg cs, v, h => by
    simp only [Den] at h ⊢
    obtain ⟨vs, e, hd⟩ := h
    exact ⟨vs, e, DenL.mono hn hm hr cs _ hd⟩
  | .tup cs, v, h => by
    simp only [Den] at h ⊢
    obtain ⟨vs, e, hd⟩ := h
    exact ⟨vs, e, DenL.mono hn hm hr cs _ hd⟩
theorem DenL.mono {m m' : Map} {n n' : Nat} (hn : n ≤ n') (hm : ∀ b, b < n → m'.mu b = m.mu b) (hr : m'.ro = m.ro) :
    ∀ (a : List AV) (v : List Value), DenL m n a v → DenL m' n' a v
  | [], v, h => by simpa [DenL] using h
  | a :: as, v, h => by
    simp only [DenL] at h ⊢
    obtain ⟨x, xs, e, hd, hl⟩ := h
    exact ⟨x, xs, e, Den.mono hn hm hr a _ hd, DenL.mono hn hm hr as _ hl⟩
end

theorem DenL.length {m : Map} {n : Nat} : ∀ {as : List AV} {vs : List Value}, DenL m n as vs → as.length = vs.length
  | [], _, h => by simp only [DenL] at h; subst h; rfl
  | a :: as, _, h => by
    simp only [DenL] at h
    obtain ⟨x, xs, rfl, _, hl⟩ := h
    simp [DenL.length hl]

theorem DenL.get {m : Map} {n : Nat} : ∀ {as : List AV} {vs : List Value}, DenL m n as vs → ∀ {i : Nat} {a : AV}, as[i]? = some a → ∃ v, vs[i]? = some v ∧ Den m n a v
  | [], _, _, _, _, h => by simp at h
  | a :: as, _, h, i, b, hi => by
    simp only [DenL] at h
    obtain ⟨x, xs, rfl, hd, hl⟩ := h
    cases i with
    | zero => simp at hi; subst hi; exact ⟨x, by simp, hd⟩
    | succ i => simp at hi; simpa using DenL.get hl hi

theorem DenL.of {m : Map} {n : Nat} : ∀ {as : List AV} {vs : List Value}, as.length = vs.length → (∀ (i : Nat) (a : AV), as[i]? = some a → ∃ v, vs[i]? = some v ∧ Den m n a v) → DenL m n as vs
  | [], vs, hl, _ => by
    have : vs = [] := by cases vs <;> simp_all
    simp [DenL, this]
  | a :: as, [], hl, _ => by simp at hl
  | a :: as, v :: vs, hl, h => by
    simp only [DenL]
    obtain ⟨x, hx, hd⟩ := h 0 a (by simp)
    simp at hx; subst hx
    exact ⟨v, vs, rfl, hd, DenL.of (by simpa using hl) (fun i b hb => by simpa using h (i + 1) b (by simpa using hb))⟩

def single : Value → Bool
  | .agg _ | .tuple _ => false
  | _ => true

theorem Den.oneCell {m : Map} {n : Nat} {a : AV} {v : Value} (h : Den m n a v) (ho : a.one = true) : single v = true := by
  cases a <;> simp [AV.one] at ho <;> simp only [Den] at h
  all_goals first
    | (subst h; rfl)
    | (obtain ⟨_, rfl⟩ := h; rfl)
    | (obtain ⟨_, rfl, _⟩ := h; rfl)
    | (obtain ⟨_, _, rfl⟩ := h; rfl)
    | (obtain ⟨_, _, rfl, _⟩ := h; rfl)
    | skip
  rename_i ro b i len full
  unfold SlDen at h
  obtain ⟨_, h⟩ := h
  split at h
  · obtain ⟨_, _, rfl⟩ := h; rfl
  · obtain ⟨_, _, rfl, _⟩ := h; rfl

end Go.Dc
