/- What is read out of a slice or a text at once; what append, copy, string conversion and the makers of memory do. -/
import Derived.Test.YtebgogcdndmaaaaDcG
set_option linter.unusedSimpArgs false
set_option linter.unusedVariables false
namespace Go.Dc

inductive Src where
  | lst (l : List AV)
  | gen (n : Nat) (f : Nat → AV)
  | byt (l : List UInt8)

def Src.len : Src → Nat
  | .lst l => l.length
  | .gen n _ => n
  | .byt l => l.length

def Src.at_ : Src → Nat → AV
  | .lst l, j => l.getD j .any
  | .gen _ f, j => f j
  | .byt l, j => .int .u8 (l.getD j 0).toNat

/-- What a slice or a text holds, under a condition. -/
def srcOf (R : Nat → RoRow) (h : Rows) : AV → Option (Bool × Src)
  | .nils => some (true, .lst [])
  | .str l => some (true, .byt l)
  | .sl true b i len _ => some (decide (i + len ≤ (R b).n), .gen len fun j => (R b).at_ (i + j))
  | .sl false b i len _ => match h.live b with
    | some (.lst _ _ l) => some (decide (i + len ≤ l.length), .lst ((l.drop i).take len))
    | some (.gen _ _ n f) => some (decide (i + len ≤ n), .gen len fun j => f (i + j))
    | some (.byt _ l) => some (decide (i + len ≤ l.length), .byt ((l.drop i).take len))
    | none => none
  | _ => none

def SrcOK (m : Map) (n : Nat) (esz : Nat) (s : Src) (vs : Nat → Option Value) : Prop :=
  ∀ j, j < s.len → (s.at_ j).cells.length = esz ∧ ∀ o a, (s.at_ j).cells[o]? = some a → a.one = true ∧ ∃ v, vs (j * esz + o) = some v ∧ Den m n a v

theorem Row.get_lst {t s : Nat} {l : List AV} {i : Nat} (h : i < l.length) : (Row.lst t s l).get? i = some (l.getD i .any) := by
  simp [Row.get?, List.getD, List.getElem?_eq_getElem h]
theorem Row.get_gen {t s n : Nat} {f : Nat → AV} {i : Nat} (h : i < n) : (Row.gen t s n f).get? i = some (f i) := by
  have : Nat.blt i n = true := by simpa [Nat.blt_eq] using h
  simp [Row.get?, this]
theorem Row.get_byt {t : Nat} {l : List UInt8} {i : Nat} (h : i < l.length) : (Row.byt t l).get? i = some (.int .u8 (l.getD i 0).toNat) := by
  simp [Row.get?, List.getD, List.getElem?_eq_getElem h]

theorem getD_drop_take {α : Type} (l : List α) (i len j : Nat) (d : α) (hj : j < len) (h : i + len ≤ l.length) : ((l.drop i).take len).getD j d = l.getD (i + j) d := by
  simp [List.getD, List.getElem?_take_of_lt hj, List.getElem?_drop]

/-- What the cells hold where a slice's elements lie. -/
theorem src_cells {R : Nat → RoRow} {m : Map} {h : Rows} {w : World} (hW : WR R m h w) {ro : Bool} {b i len : Nat} {full : Bool} {s : Src} (hs : srcOf R h (.sl ro b i len full) = some (true, s)) (hv : (m.loc ro b).vir = false) :
    s.len = len ∧ ∀ j, j < len → (s.at_ j).cells.length = (m.loc ro b).esz ∧ ∀ o a, (s.at_ j).cells[o]? = some a → a.one = true ∧
      ∃ v, w.cell? ⟨(m.loc ro b).blk, (m.loc ro b).shift + ((i + j) * (m.loc ro b).esz + o), none⟩ = some v ∧ Den m h.length a v := by
  have key : ∀ e, ∀ j, (elemAt R h ro b (i + j)).has e → e.cells.length = (m.loc ro b).esz ∧ ∀ o a, e.cells[o]? = some a → a.one = true ∧
      ∃ v, w.cell? ⟨(m.loc ro b).blk, (m.loc ro b).shift + ((i + j) * (m.loc ro b).esz + o), none⟩ = some v ∧ Den m h.length a v := fun e j he => elemAt_spec hW he hv
  cases ro with
  | true =>
    simp only [srcOf, Option.some.injEq, Prod.mk.injEq, decide_eq_true_eq] at hs
    obtain ⟨hle, rfl⟩ := hs
    exact ⟨rfl, fun j hj => key _ j ⟨by simp; omega, rfl⟩⟩
  | false =>
    unfold srcOf at hs
    simp only [] at hs
    cases hl : h.live b with
    | none => rw [hl] at hs; simp at hs
    | some r =>
      rw [hl] at hs
      cases r with
      | lst t z l =>
        simp only [Option.some.injEq, Prod.mk.injEq, decide_eq_true_eq] at hs
        obtain ⟨hle, rfl⟩ := hs
        refine ⟨by simp [Src.len]; omega, fun j hj => ?_⟩
        have : (Src.lst ((l.drop i).take len)).at_ j = l.getD (i + j) .any := getD_drop_take l i len j _ hj hle
        rw [this]
        refine key _ j ?_
        simp only [elemAt, hl]
        have hlt : i + j < l.length := by omega
        rw [List.getElem?_eq_getElem hlt]
        simp [QR.has, List.getD, List.getElem?_eq_getElem hlt]
      | gen t z n f =>
        simp only [Option.some.injEq, Prod.mk.injEq, decide_eq_true_eq] at hs
        obtain ⟨hle, rfl⟩ := hs
        refine ⟨rfl, fun j hj => key _ j ?_⟩
        simp only [elemAt, hl, Src.at_]
        exact ⟨by simp; omega, rfl⟩
      | byt t l =>
        simp only [Option.some.injEq, Prod.mk.injEq, decide_eq_true_eq] at hs
        obtain ⟨hle, rfl⟩ := hs
        refine ⟨by simp [Src.len]; omega, fun j hj => ?_⟩
        have : (Src.byt ((l.drop i).take len)).at_ j = .int .u8 (l.getD (i + j) 0).toNat := by
          simp only [Src.at_]; rw [getD_drop_take l i len j _ hj hle]
        rw [this]
        refine key _ j ?_
        simp only [elemAt, hl]
        exact ⟨by simp; omega, rfl⟩

def eszOfAV (R : Nat → RoRow) (h : Rows) : AV → Option Nat
  | .sl ro b _ _ _ => eszOf R h ro b
  | _ => none

/-- The values of a source, one behind the other. -/
theorem src_vals_n {P : Program} {R : Nat → RoRow} {m : Map} {h : Rows} {w : World} (hW : WR R m h w) {x : AV} {u : Value} {s : Src} {esz : Nat} (hx : Den m h.length x u) (hs : srcOf R h x = some (true, s))
    (hz : (∃ z, eszOfAV R h x = some z ∧ z = esz) ∨ x = .nils ∨ (esz = 1 ∧ ∃ l, x = .str l)) :
    ∃ news : List Value, news.length = s.len * esz ∧ (Builtin.lenOf u).run P w = .ok s.len w ∧ (∀ (n : Nat) (w2 : World), n ≤ s.len → w2.heap = w.heap → (Builtin.firstCells esz n u).run P w2 = .ok (news.take (n * esz)).toArray w2) ∧
      SrcOK m h.length esz s (fun k => news[k]?) ∧ ∀ v ∈ news, v.oneCell' = true := by
  have fin : ∀ (len : Nat) (f : Nat → Value), s.len = len → (∀ k, k < len * esz → ∃ j o a, k = j * esz + o ∧ j < len ∧ (s.at_ j).cells[o]? = some a ∧ a.one = true ∧ Den m h.length a (f k)) →
      (∀ j, j < len → (s.at_ j).cells.length = esz) → (∀ v ∈ (List.range (len * esz)).map f, v.oneCell' = true) ∧ SrcOK m h.length esz s (fun k => ((List.range (len * esz)).map f)[k]?) := by
    intro len f hlen hf hcl
    constructor
    · intro v hv
      simp only [List.mem_map, List.mem_range] at hv
      obtain ⟨k, hk, rfl⟩ := hv
      obtain ⟨j, o, a, _, _, _, h1, h2⟩ := hf k hk
      exact h2.oneCell h1
    · intro j hj
      rw [hlen] at hj
      refine ⟨hcl j hj, fun o a ha => ?_⟩
      have ho : o < esz := by
        have := (List.getElem?_eq_some_iff.1 ha).1
        rw [hcl j hj] at this; exact this
      have hk : j * esz + o < len * esz := by
        have : (j + 1) * esz ≤ len * esz := Nat.mul_le_mul_right _ hj
        rw [Nat.add_mul] at this; omega
      obtain ⟨j', o', a', hkk, hj', ha', h1, h2⟩ := hf _ hk
      have ho' : o' < esz := by
        have := (List.getElem?_eq_some_iff.1 ha').1
        rw [hcl j' hj'] at this; exact this
      have hjj : j' = j := by
        have e1 : (j * esz + o) / esz = j := by rw [Nat.mul_comm, Nat.mul_add_div (by omega)]; rw [Nat.div_eq_of_lt ho]; rfl
        have e2 : (j' * esz + o') / esz = j' := by rw [Nat.mul_comm, Nat.mul_add_div (by omega)]; rw [Nat.div_eq_of_lt ho']; rfl
        rw [hkk] at e1; omega
      subst hjj
      have hoo : o' = o := by omega
      subst hoo
      rw [ha] at ha'
      cases ha'
      exact ⟨h1, _, by simp [hk], h2⟩
  cases x
  case nils =>
    simp only [srcOf, Option.some.injEq, Prod.mk.injEq] at hs
    obtain ⟨_, rfl⟩ := hs
    simp only [Den] at hx; subst hx
    exact ⟨[], by simp [Src.len], by simp [Builtin.lenOf, Src.len, pure, Sem.run], fun n w2 _ _ => by simp [Builtin.firstCells, pure, Sem.run], fun j hj => absurd hj (by simp [Src.len]), by simp⟩
  case str l =>
    simp only [srcOf, Option.some.injEq, Prod.mk.injEq] at hs
    obtain ⟨_, rfl⟩ := hs
    simp only [Den] at hx; subst hx
    have hesz : esz = 1 := by
      rcases hz with ⟨z, h1, _⟩ | h1 | ⟨h1, _⟩
      · simp [eszOfAV] at h1
      · exact absurd h1 (by simp)
      · exact h1
    subst hesz
    refine ⟨l.map fun c => .int .u8 c.toNat, by simp [Src.len], by simp [Builtin.lenOf, Src.len, size_mk, pure, Sem.run], fun n w2 _ _ => ?_, ?_, ?_⟩
    · simp only [Builtin.firstCells]
      have e : (⟨⟨l⟩⟩ : ByteArray).extract 0 n = ⟨⟨l.take n⟩⟩ := by
        have := ByteArray.extract_mk l 0 n
        simpa using this
      rw [e]
      simp [pure, Sem.run, List.map_take]
    · intro j hj
      simp only [Src.len] at hj
      refine ⟨rfl, fun o a ha => ?_⟩
      simp only [Src.at_, AV.cells] at ha
      cases o with
      | succ o => simp at ha
      | zero =>
        simp at ha; subst ha
        exact ⟨rfl, .int .u8 (l.getD j 0).toNat, by simp [List.getD, List.getElem?_eq_getElem hj], by simp [Den]⟩
    · intro v hv
      simp only [List.mem_map] at hv
      obtain ⟨c, _, rfl⟩ := hv
      rfl
  case sl ro b i len full =>
    have hesz : (m.loc ro b).esz = esz := by
      rcases hz with ⟨z, h1, rfl⟩ | h1 | ⟨_, _, h1⟩
      · exact eszOf_spec hW h1
      · exact absurd h1 (by simp)
      · exact absurd h1 (by simp)
    simp only [Den] at hx
    obtain ⟨_, hsl⟩ := hx
    unfold SlDen at hsl
    split at hsl
    · -- nil
      obtain ⟨rfl, ao, rfl⟩ := hsl
      have hl0 : s.len = 0 := by
        cases ro with
        | true => simp only [srcOf, Option.some.injEq, Prod.mk.injEq] at hs; rw [← hs.2]; rfl
        | false =>
          unfold srcOf at hs
          simp only [] at hs
          cases hl : h.live b with
          | none => rw [hl] at hs; simp at hs
          | some r => rw [hl] at hs; cases r <;> simp only [Option.some.injEq, Prod.mk.injEq] at hs <;> rw [← hs.2] <;> simp [Src.len]
      exact ⟨[], by simp [hl0], by simp [Builtin.lenOf, hl0, pure, Sem.run], fun n w2 hn _ => by (have hn0 : n = 0 := by omega); (subst hn0); (cases ao <;> simp [Builtin.firstCells, loadCells, loadCellsFrom, pure, Sem.run]), fun j hj => absurd hj (by omega), by simp⟩
    · rename_i hvir
      obtain ⟨ad, cap, rfl, h1, h2, h3, h4⟩ := hsl
      obtain ⟨hlen, hcs⟩ := src_cells hW hs (by simpa using hvir)
      rw [hesz] at hcs
      by_cases h0 : len = 0
      · subst h0
        exact ⟨[], by simp [hlen], by simp [Builtin.lenOf, hlen, pure, Sem.run], fun n w2 hn _ => by (have hn0 : n = 0 := by omega); (subst hn0); (simp [Builtin.firstCells, loadCells, loadCellsFrom, pure, Sem.run]), fun j hj => absurd hj (by omega), by simp⟩
      · obtain ⟨rfl, hext⟩ := h4 (by omega)
        rw [hesz]
        -- the values
        obtain ⟨f, hf⟩ : ∃ f : Nat → Value, ∀ j o a, j < len → (s.at_ j).cells[o]? = some a → w.cell? ⟨(m.loc ro b).blk, (m.loc ro b).shift + i * esz + (j * esz + o), none⟩ = some (f (j * esz + o)) ∧ a.one = true ∧ Den m h.length a (f (j * esz + o)) := by
          refine ⟨fun k => (w.cell? ⟨(m.loc ro b).blk, (m.loc ro b).shift + i * esz + k, none⟩).getD default, fun j o a hj ha => ?_⟩
          obtain ⟨_, hh⟩ := hcs j hj
          obtain ⟨ho, v, hv, hd⟩ := hh o a ha
          have e : (m.loc ro b).shift + ((i + j) * esz + o) = (m.loc ro b).shift + i * esz + (j * esz + o) := by rw [Nat.add_mul]; omega
          rw [e] at hv
          exact ⟨by simp [hv], ho, by simpa [hv] using hd⟩
        have hdiv : ∀ k, k < len * esz → ∃ j o, k = j * esz + o ∧ j < len ∧ o < esz := by
          intro k hk
          have hpos : 0 < esz := by rcases Nat.eq_zero_or_pos esz with h | h; · rw [h] at hk; omega
                                    · exact h
          exact ⟨k / esz, k % esz, by rw [Nat.mul_comm]; exact (Nat.div_add_mod k esz).symm, Nat.div_lt_of_lt_mul (by rw [Nat.mul_comm]; exact hk), Nat.mod_lt _ hpos⟩
        have hfull : ∀ k, k < len * esz → ∃ j o a, k = j * esz + o ∧ j < len ∧ (s.at_ j).cells[o]? = some a ∧ a.one = true ∧ Den m h.length a (f k) := by
          intro k hk
          obtain ⟨j, o, rfl, hj, ho⟩ := hdiv k hk
          have hlt : o < (s.at_ j).cells.length := by rw [(hcs j hj).1]; exact ho
          obtain ⟨_, g1, g2⟩ := hf j o _ hj (List.getElem?_eq_getElem hlt)
          exact ⟨j, o, _, rfl, hj, List.getElem?_eq_getElem hlt, g1, g2⟩
        obtain ⟨q1, q2⟩ := fin len f hlen hfull (fun j hj => (hcs j hj).1)
        refine ⟨(List.range (len * esz)).map f, by simp [hlen], by simp [Builtin.lenOf, hlen, pure, Sem.run], fun n w2 hn hw2 => ?_, q2, q1⟩
        rw [hlen] at hn
        have hne : n * esz ≤ len * esz := Nat.mul_le_mul_right _ hn
        refine run_firstCells_some (P := P) w2 esz n _ len cap _ (by rw [List.length_take, List.length_map, List.length_range]; exact Nat.min_eq_left hne) ?_
        intro k v hkv
        have hk0 : k < n * esz := by have := (List.getElem?_eq_some_iff.1 hkv).1; rw [List.length_take] at this; exact Nat.lt_of_lt_of_le this (Nat.min_le_left _ _)
        have hk : k < len * esz := by omega
        have hv : f k = v := by simpa [hk, List.getElem?_take_of_lt hk0] using hkv
        subst hv
        obtain ⟨j, o, rfl, hj, ho⟩ := hdiv k hk
        have hlt : o < (s.at_ j).cells.length := by rw [(hcs j hj).1]; exact ho
        have := (hf j o _ hj (List.getElem?_eq_getElem hlt)).1
        have hcw : ∀ a : Addr, w2.cell? a = w.cell? a := fun a => by simp [World.cell?, hw2]
        rw [hcw, ← this]
        unfold Addr.add
        split
        · rename_i hk0; rw [hk0]; rfl
        · rfl
  all_goals simp [srcOf] at hs

theorem src_vals {P : Program} {R : Nat → RoRow} {m : Map} {h : Rows} {w : World} (hW : WR R m h w) {x : AV} {u : Value} {s : Src} {esz : Nat} (hx : Den m h.length x u) (hs : srcOf R h x = some (true, s))
    (hz : (∃ z, eszOfAV R h x = some z ∧ z = esz) ∨ x = .nils ∨ (esz = 1 ∧ ∃ l, x = .str l)) :
    ∃ news : List Value, news.length = s.len * esz ∧ (Builtin.lenOf u).run P w = .ok s.len w ∧ (∀ w2 : World, w2.heap = w.heap → (Builtin.firstCells esz s.len u).run P w2 = .ok news.toArray w2) ∧
      SrcOK m h.length esz s (fun k => news[k]?) ∧ ∀ v ∈ news, v.oneCell' = true := by
  obtain ⟨news, h1, h2, h3, h4, h5⟩ := src_vals_n (P := P) hW hx hs hz
  refine ⟨news, h1, h2, fun w2 hw2 => ?_, h4, h5⟩
  have := h3 s.len w2 (Nat.le_refl _) hw2
  rwa [← h1, List.take_length] at this

end Go.Dc
