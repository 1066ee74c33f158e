/- Operations that change no memory, part two: reading memory, places, parts. -/
import Derived.Test.YtebgogcdndmaaaaDcB
set_option linter.unusedSimpArgs false
set_option linter.unusedVariables false
namespace Go.Dc

def QR.then (q : QR) (f : AV → QR) : QR :=
  match q with
  | .no => .no
  | .ok v => f v
  | .ck c v => match f v with
    | .no => .no
    | .ok u => .ck c u
    | .ck c' u => .ck (c && c') u

/-- The answer is v, under a condition that holds. -/
def QR.has (q : QR) (v : AV) : Prop :=
  match q with
  | .no => False
  | .ok u => u = v
  | .ck c u => c = true ∧ u = v

theorem QR.sat_of {m : Map} {n : Nat} {P : Program} {w : World} {s : Sem Value} {q : QR} (h : ∀ v, q.has v → ∃ c, s.run P w = .ok c w ∧ Den m n v c) : q.sat m n P w s := by
  cases q with
  | no => trivial
  | ok v => exact h v rfl
  | ck c v => exact fun hc => h v ⟨hc, rfl⟩

theorem QR.then_has {q : QR} {f : AV → QR} {v : AV} (h : (q.then f).has v) : ∃ u, q.has u ∧ (f u).has v := by
  cases q with
  | no => exact h.elim
  | ok u => exact ⟨u, rfl, h⟩
  | ck c u =>
    simp only [QR.then] at h
    cases hf : f u with
    | no => rw [hf] at h; exact h.elim
    | ok x => rw [hf] at h; exact ⟨u, ⟨h.1, rfl⟩, by rw [hf]; exact h.2⟩
    | ck c' x =>
      rw [hf] at h
      have h1 := h.1
      simp only [Bool.and_eq_true] at h1
      exact ⟨u, ⟨h1.1, rfl⟩, by rw [hf]; exact ⟨h1.2, h.2⟩⟩

def elemAt (R : Nat → RoRow) (h : Rows) (ro : Bool) (b i : Nat) : QR :=
  match ro with
  | true => .ck (decide (i < (R b).n)) ((R b).at_ i)
  | false => match h.live b with
    | some (.lst _ _ l) => match l[i]? with | some e => .ok e | none => .no
    | some (.gen _ _ n f) => .ck (decide (i < n)) (f i)
    | some (.byt _ l) => .ck (decide (i < l.length)) (.int .u8 (l.getD i 0).toNat)
    | none => .no

theorem elemAt_spec {R : Nat → RoRow} {m : Map} {h : Rows} {w : World} (hW : WR R m h w) {ro : Bool} {b i : Nat} {e : AV} (he : (elemAt R h ro b i).has e) (hv : (m.loc ro b).vir = false) :
    e.cells.length = (m.loc ro b).esz ∧ ∀ o a, e.cells[o]? = some a → a.one = true ∧ ∃ v, w.cell? ⟨(m.loc ro b).blk, (m.loc ro b).shift + (i * (m.loc ro b).esz + o), none⟩ = some v ∧ Den m h.length a v := by
  cases ro with
  | true =>
    obtain ⟨hc, rfl⟩ := he
    have hi : i < (R b).n := by simpa using hc
    have hro := hW.ro b
    simp only [Map.loc, if_true] at hv ⊢
    unfold RoOK at hro
    rw [hv] at hro
    simp only [Bool.false_eq_true, if_false] at hro
    obtain ⟨h1, h2, h3⟩ := hro
    obtain ⟨c, fz, hb, hall⟩ := h3 (by omega)
    obtain ⟨hl, hcs⟩ := hall i hi
    refine ⟨hl, fun o a ha => ?_⟩
    obtain ⟨h3, v, hv1, hd⟩ := hcs o a ha
    exact ⟨h3, v, by simp [World.cell?, hb, hv1], hd.mono (Nat.zero_le _) (fun _ h => absurd h (Nat.not_lt_zero _)) rfl⟩
  | false =>
    simp only [elemAt] at he
    simp only [Map.loc, Bool.false_eq_true, if_false] at hv ⊢
    cases hl : h.live b with
    | none => rw [hl] at he; exact he.elim
    | some r =>
      have hrow := hW.row b r hl
      unfold RowOK at hrow
      rw [hv] at hrow
      simp only [Bool.false_eq_true, if_false] at hrow
      obtain ⟨h1, h2, c, fz, hb, h3, h4, hall⟩ := hrow
      have hg : r.get? i = some e := by
        rw [hl] at he
        cases r with
        | lst t s l =>
          simp only [] at he
          cases hx : l[i]? with
          | none => rw [hx] at he; exact he.elim
          | some x => rw [hx] at he; cases he; exact hx
        | gen t s n f =>
          obtain ⟨hc, rfl⟩ := he
          have hi : i < n := by simpa using hc
          have hbl : Nat.blt i n = true := by simpa [Nat.blt_eq] using hi
          simp [Row.get?, hbl]
        | byt t l =>
          obtain ⟨hc, rfl⟩ := he
          have hi : i < l.length := by simpa using hc
          simp [Row.get?, List.getElem?_eq_getElem hi]
      obtain ⟨h5, h6⟩ := hall i e hg
      refine ⟨h5, fun o a ha => ?_⟩
      obtain ⟨h7, v, hv1, hd⟩ := h6 o a ha
      exact ⟨h7, v, by simp [World.cell?, hb, hv1], hd⟩

/-- Cells that are all whole numbers of one kind. -/
def allInts (k : IntKind) : List AV → Option (List Int)
  | [] => some []
  | .int k' n :: l => if k = k' then (allInts k l).map (n :: ·) else none
  | _ :: _ => none

def cellOf (cells : List AV) (o : Nat) : QR :=
  if 8 < cells.length then
    match cells with
    | .int k _ :: _ => match allInts k cells with
      | some l => .ck (decide (o < l.length)) (.int k (l.getD o 0))
      | none => match cells[o]? with | some a => .ok a | none => .no
    | _ => match cells[o]? with | some a => .ok a | none => .no
  else match cells[o]? with | some a => .ok a | none => .no

theorem allInts_spec {k : IntKind} : ∀ {cells : List AV} {l : List Int}, allInts k cells = some l → cells = l.map (.int k ·)
  | [], l, h => by simp [allInts] at h; subst h; rfl
  | a :: cells, l, h => by
    cases a <;> simp only [allInts] at h <;> try (simp at h; done)
    split at h
    · rename_i hk
      subst hk
      obtain ⟨l', hl, rfl⟩ := Option.map_eq_some_iff.1 h
      rw [allInts_spec hl]; rfl
    · exact absurd h (by simp)

theorem cellOf_has {cells : List AV} {o : Nat} {a : AV} (h : (cellOf cells o).has a) : cells[o]? = some a := by
  have plain : ∀ q : QR, q = (match cells[o]? with | some a => QR.ok a | none => .no) → q.has a → cells[o]? = some a := by
    intro q hq hh
    cases hx : cells[o]? with
    | none => rw [hx] at hq; subst hq; exact hh.elim
    | some x => rw [hx] at hq; subst hq; cases hh; rfl
  unfold cellOf at h
  split at h
  · split at h
    · split at h
      · rename_i k _ _ l hl
        obtain ⟨hc, rfl⟩ := h
        have hi : o < l.length := by simpa using hc
        rw [allInts_spec hl]
        simp [List.getElem?_eq_getElem hi]
      · exact plain _ rfl h
    · exact plain _ rfl h
  · exact plain _ rfl h

def aload (T : TypeId → Option TI) (R : Nat → RoRow) (h : Rows) (t : TypeId) (p : AV) : QR :=
  match T t, p with
  | some ti, .ptr ro b i o => (elemAt R h ro b i).then fun e =>
    if ti.kd.agg then (if o + ti.size ≤ e.cells.length then .ok (.agg ((e.cells.drop o).take ti.size)) else .no)
    else cellOf e.cells o
  | _, _ => .no

theorem aload_ok {T : TypeId → Option TI} {P : Program} (hT : TabOK P T) {R : Nat → RoRow} {m : Map} {h : Rows} {w : World} (hW : WR R m h w) (t : TypeId) (p : AV) (u : Value) (hp : Den m h.length p u) :
    (aload T R h t p).sat m h.length P w (Instr.loadAt t u) := by
  refine QR.sat_of fun v hv => ?_
  unfold aload at hv
  split at hv
  case h_2 => exact hv.elim
  rename_i ti ro b i o hti
  obtain ⟨e, he, hv⟩ := QR.then_has hv
  simp only [Den] at hp
  obtain ⟨_, hvir, rfl⟩ := hp
  obtain ⟨hl, hcs⟩ := elemAt_spec hW he hvir
  simp only [Instr.loadAt, Instr.sureAddr, loadVar, Sem.run_bind, pure, Sem.run, Result.andThen_ok, (hT _ _ hti).run_isAgg w]
  split at hv
  · rename_i hag
    rw [hag]
    simp only [if_true]
    split at hv
    · rename_i hsz
      cases hv
      -- the cells one by one
      have hcell : ∀ j, j < ti.size → ∃ x, w.cell? ⟨(m.loc ro b).blk, (m.loc ro b).shift + (i * (m.loc ro b).esz + o) + j, none⟩ = some x ∧ Den m h.length (e.cells.getD (o + j) .any) x := by
        intro j hj
        have hlt : o + j < e.cells.length := by omega
        obtain ⟨_, x, hx, hd⟩ := hcs (o + j) e.cells[o + j] (List.getElem?_eq_getElem hlt)
        refine ⟨x, ?_, by simpa [List.getD, List.getElem?_eq_getElem hlt] using hd⟩
        rw [← hx]; congr 2; omega
      obtain ⟨f, hf⟩ : ∃ f : Nat → Value, ∀ j, j < ti.size → w.cell? ⟨(m.loc ro b).blk, (m.loc ro b).shift + (i * (m.loc ro b).esz + o) + j, none⟩ = some (f j) ∧ Den m h.length (e.cells.getD (o + j) .any) (f j) := by
        refine ⟨fun j => (w.cell? ⟨(m.loc ro b).blk, (m.loc ro b).shift + (i * (m.loc ro b).esz + o) + j, none⟩).getD default, fun j hj => ?_⟩
        obtain ⟨x, hx, hd⟩ := hcell j hj
        exact ⟨by simp [hx], by simpa [hx] using hd⟩
      have hlen : ((List.range ti.size).map f).length = ti.size := by simp
      have hload := run_loadCells_list (P := P) (w := w) ⟨(m.loc ro b).blk, (m.loc ro b).shift + (i * (m.loc ro b).esz + o), none⟩ ((List.range ti.size).map f) (by
        intro j x hx
        have hj : j < ti.size := by have := (List.getElem?_eq_some_iff.1 hx).1; simpa using this
        have hx' : f j = x := by simpa [List.getElem?_range hj] using hx
        subst hx'
        have := (hf j hj).1
        unfold Addr.add
        split
        · rename_i h0; subst h0; simpa using this
        · exact this)
      rw [hlen] at hload
      simp only [Sem.run_bind, (hT _ _ hti).run_sizeOf w, Result.andThen_ok, hload]
      refine ⟨_, rfl, ?_⟩
      simp only [Den]
      refine ⟨_, rfl, DenL.of (by simp; omega) ?_⟩
      intro j a ha
      have hj : j < ti.size := by
        have := (List.getElem?_eq_some_iff.1 ha).1
        simp at this; omega
      refine ⟨f j, by simp [hj], ?_⟩
      have hd := (hf j hj).2
      have hlt : o + j < e.cells.length := by omega
      have : a = e.cells.getD (o + j) .any := by
        rw [List.getElem?_take_of_lt hj, List.getElem?_drop] at ha
        simp [List.getD, ha]
      rw [this]; exact hd
    · exact hv.elim
  · rename_i hag
    have hag' : ti.kd.agg = false := by simpa using hag
    rw [hag']
    simp only [Bool.false_eq_true, if_false]
    obtain ⟨_, x, hx, hd⟩ := hcs o v (cellOf_has hv)
    exact ⟨x, by simp [hx], hd⟩

/-! ### Places -/
def afield (T : TypeId → Option TI) (s : TypeId) (f : Nat) : Option (TypeId × Nat × Nat) :=
  match T s with
  | some ti => match ti.kd with
    | .struct fs => fs[f]?
    | _ => none
  | none => none

theorem afield_spec {T : TypeId → Option TI} {P : Program} (hT : TabOK P T) {s : TypeId} {f t o z : Nat} (h : afield T s f = some (t, o, z)) (w : World) :
    ∃ (a : Array Field) (g : Field), (underlying s).run P w = .ok (.struct a) w ∧ P.underlying s = some (.struct a) ∧ a[f]? = some g ∧ g.type = t ∧ g.offset = o ∧ ((P.info? t).map (·.size)).getD 0 = z := by
  unfold afield at h
  split at h
  · rename_i ti hti
    split at h
    · rename_i fs hkd
      obtain ⟨d, hr, hu, hk⟩ := (hT _ _ hti).run_underlying w
      rw [hkd] at hk
      simp only [KdOK] at hk
      obtain ⟨a, rfl, rfl⟩ := hk
      rw [List.getElem?_map] at h
      obtain ⟨g, hg, he⟩ := Option.map_eq_some_iff.1 h
      simp only [Prod.mk.injEq] at he
      obtain ⟨rfl, rfl, rfl⟩ := he
      exact ⟨a, g, hr, hu, by simpa using hg, rfl, rfl, rfl⟩
    · exact absurd h (by simp)
  · exact absurd h (by simp)

def afieldAddr (T : TypeId → Option TI) (s : TypeId) (p : AV) (f : Nat) : QR :=
  match afield T s f, p with
  | some (t, off, z), .ptr ro b i o => if z = 0 then .no else .ok (.ptr ro b i (o + off))
  | _, _ => .no

theorem afieldAddr_ok {T : TypeId → Option TI} {P : Program} (hT : TabOK P T) {m : Map} {n : Nat} {w : World} (s : TypeId) (p : AV) (f : Nat) (u : Value) (hp : Den m n p u) :
    (afieldAddr T s p f).sat m n P w (Instr.fieldAt s u f) := by
  refine QR.sat_of fun v hv => ?_
  unfold afieldAddr at hv
  split at hv
  case h_2 => exact hv.elim
  rename_i t off z ro b i o hf
  split at hv
  · exact hv.elim
  · rename_i hz
    cases hv
    obtain ⟨a, g, hr, hu, hg, rfl, rfl, hs⟩ := afield_spec hT hf w
    have hinfo : ∃ j, P.info? g.type = some j ∧ j.size ≠ 0 := by
      cases hi : P.info? g.type with
      | none => rw [hi] at hs; simp at hs; exact absurd hs.symm hz
      | some j => rw [hi] at hs; simp at hs; exact ⟨j, rfl, by omega⟩
    obtain ⟨j, hj, hjz⟩ := hinfo
    simp only [Den] at hp
    obtain ⟨hb, hvir, rfl⟩ := hp
    have hsz : (sizeOf g.type).run P w = .ok j.size w := by simp [sizeOf, typeInfo, program, Sem.run, hj, pure]
    refine ⟨.pointer (some ⟨(m.loc ro b).blk, (m.loc ro b).shift + (i * (m.loc ro b).esz + (o + g.offset)), none⟩), ?_, by simp only [Den]; exact ⟨hb, hvir, trivial⟩⟩
    simp only [Instr.fieldAt, Sem.run_bind, hr, Result.andThen_ok, hg, Instr.sureAddr, fieldPlace, hsz, Sem.run_pure]
    rw [if_neg hjz]
    simp only [Sem.run_pure, Result.andThen_ok]
    congr 3
    unfold Addr.add
    split
    · rename_i h0; rw [h0]; rfl
    · simp only [Addr.mk.injEq, and_true, true_and]; omega

def apart (T : TypeId → Option TI) (t : TypeId) (cs : List AV) (off : Nat) : QR :=
  match T t with
  | some ti => if ti.kd.agg then (if off + ti.size ≤ cs.length then .ok (.agg ((cs.drop off).take ti.size)) else .no) else cellOf cs off
  | none => .no

theorem apart_ok {T : TypeId → Option TI} {P : Program} (hT : TabOK P T) {m : Map} {n : Nat} {w : World} (t : TypeId) (cs : List AV) (us : Array Value) (off : Nat) (hd : DenL m n cs us.toList) :
    (apart T t cs off).sat m n P w (part t us off) := by
  refine QR.sat_of fun v hv => ?_
  unfold apart at hv
  cases hti : T t with
  | none => rw [hti] at hv; exact hv.elim
  | some ti =>
    rw [hti] at hv
    simp only [] at hv
    simp only [part, Sem.run_bind, (hT _ _ hti).run_isAgg w, Result.andThen_ok]
    split at hv
    · rename_i hag
      rw [hag]
      simp only [if_true]
      split at hv
      · rename_i hsz
        cases hv
        simp only [Sem.run_bind, (hT _ _ hti).run_sizeOf w, Result.andThen_ok, Sem.run_pure]
        refine ⟨_, rfl, ?_⟩
        simp only [Den]
        have hlen := hd.length
        refine ⟨_, rfl, DenL.of (by simp at hlen ⊢; omega) ?_⟩
        intro j a ha
        have hj : j < ti.size := by
          have := (List.getElem?_eq_some_iff.1 ha).1
          simp at this; omega
        rw [List.getElem?_take_of_lt hj, List.getElem?_drop] at ha
        obtain ⟨x, hx, hdx⟩ := hd.get ha
        refine ⟨x, ?_, hdx⟩
        rw [Array.getElem?_toList] at hx
        simp only [Array.toList_extract, List.extract_eq_take_drop]
        rw [List.getElem?_take_of_lt (by omega), List.getElem?_drop]
        simpa using hx
      · exact hv.elim
    · rename_i hag
      have hag' : ti.kd.agg = false := by simpa using hag
      rw [hag']
      obtain ⟨x, hx, hdx⟩ := hd.get (cellOf_has hv)
      have hx' : us[off]? = some x := by simpa using hx
      exact ⟨x, by simp [hx'], hdx⟩

def afieldOf (T : TypeId → Option TI) (s : TypeId) (x : AV) (f : Nat) : QR :=
  match afield T s f, x with
  | some (t, off, _), .agg cs => apart T t cs off
  | _, _ => .no

theorem afieldOf_ok {T : TypeId → Option TI} {P : Program} (hT : TabOK P T) {m : Map} {n : Nat} {w : World} (s : TypeId) (p : AV) (f : Nat) (u : Value) (hp : Den m n p u) :
    (afieldOf T s p f).sat m n P w (Instr.field s u f) := by
  unfold afieldOf
  split
  case h_2 => trivial
  rename_i t off z cs hf
  obtain ⟨a, g, hr, hu, hg, rfl, rfl, hs⟩ := afield_spec hT hf w
  simp only [Den] at hp
  obtain ⟨us, rfl, hd⟩ := hp
  have := apart_ok hT (w := w) g.type cs us g.offset hd
  have e : (Instr.field s (.agg us) f).run P w = (part g.type us g.offset).run P w := by
    simp only [Instr.field, Sem.run_bind, hr, Result.andThen_ok, hg, asAgg, Sem.run_pure]
  cases hq : apart T g.type cs g.offset <;> rw [hq] at this <;> simp only [QR.sat, e] at this ⊢ <;> exact this

def eszOf (R : Nat → RoRow) (h : Rows) (ro : Bool) (b : Nat) : Option Nat :=
  match ro with
  | true => some (R b).esz
  | false => (h.live b).map Row.esz

theorem eszOf_spec {R : Nat → RoRow} {m : Map} {h : Rows} {w : World} (hW : WR R m h w) {ro : Bool} {b z : Nat} (he : eszOf R h ro b = some z) : (m.loc ro b).esz = z := by
  cases ro with
  | true => simp only [eszOf, Option.some.injEq] at he; subst he; exact (hW.ro b).1
  | false =>
    obtain ⟨r, hr, rfl⟩ := Option.map_eq_some_iff.1 he
    exact (hW.row b r hr).1

def aindexAddr (T : TypeId → Option TI) (R : Nat → RoRow) (h : Rows) (t : TypeId) (x ix : AV) : QR :=
  match T t, x, ix with
  | some ti, .sl ro b i len full, .int _ j => match ti.kd with
    | .slice e => match T e with
      | some te => if eszOf R h ro b = some te.size then .ck (decide (0 ≤ j) && decide (j < (len : Int))) (.ptr ro b (i + j.toNat) 0) else .no
      | none => .no
    | _ => .no
  | some ti, .ptr ro b i o, .int _ j => match ti.kd with
    | .array n e => match T e with
      | some te => .ck (decide (0 ≤ j) && decide (j < (n : Int))) (.ptr ro b i (o + j.toNat * te.size))
      | none => .no
    | _ => .no
  | _, _, _ => .no

theorem aindexAddr_ok {T : TypeId → Option TI} {P : Program} (hT : TabOK P T) {R : Nat → RoRow} {m : Map} {h : Rows} {w : World} (hW : WR R m h w) (t : TypeId) (x ix : AV) (u v : Value)
    (hx : Den m h.length x u) (hi : Den m h.length ix v) : (aindexAddr T R h t x ix).sat m h.length P w (Instr.indexAt t u v) := by
  refine QR.sat_of fun a ha => ?_
  unfold aindexAddr at ha
  split at ha
  · rename_i ti ro b i len full k j hti
    split at ha
    · rename_i e hkd
      obtain ⟨d, hr, hu, hk⟩ := (hT _ _ hti).run_underlying w
      rw [hkd] at hk
      simp only [KdOK] at hk
      subst hk
      cases hte : T e with
      | none => rw [hte] at ha; exact ha.elim
      | some te =>
        rw [hte] at ha
        simp only [] at ha
        split at ha
        · rename_i hz
          obtain ⟨hc, rfl⟩ := ha
          simp only [Bool.and_eq_true, decide_eq_true_eq] at hc
          simp only [Den] at hx hi
          subst hi
          obtain ⟨hb, hsl⟩ := hx
          unfold SlDen at hsl
          split at hsl
          · obtain ⟨h0, _⟩ := hsl; omega
          · rename_i hvir
            have hvir' : (m.loc ro b).vir = false := by simpa using hvir
            obtain ⟨ad, cap, rfl, h1, h2, h3, h4⟩ := hsl
            obtain ⟨rfl, h5⟩ := h4 (by omega)
            have hesz := eszOf_spec hW hz
            refine ⟨.pointer (some ⟨(m.loc ro b).blk, (m.loc ro b).shift + ((i + j.toNat) * (m.loc ro b).esz + 0), none⟩), ?_, by simp only [Den]; exact ⟨hb, hvir', trivial⟩⟩
            simp only [Instr.indexAt, asIntOf, Sem.run_bind, Sem.run_pure, Result.andThen_ok, hr]
            rw [if_pos (show (0 : Int) ≤ j ∧ j < (len : Int) from hc)]
            simp only [Sem.run_bind, (hT _ _ hte).run_sizeOf w, Result.andThen_ok, Sem.run_pure]
            congr 3
            rw [hesz]
            unfold Addr.add
            split
            · rename_i h0; simp only [Addr.mk.injEq, and_true, true_and]; rw [Nat.add_mul, h0]; omega
            · simp only [Addr.mk.injEq, and_true, true_and]; rw [Nat.add_mul]; omega
        · exact ha.elim
    · exact ha.elim
  · rename_i ti ro b i o k j hti
    split at ha
    · rename_i n e hkd
      obtain ⟨d, hr, hu, hk⟩ := (hT _ _ hti).run_underlying w
      rw [hkd] at hk
      simp only [KdOK] at hk
      subst hk
      cases hte : T e with
      | none => rw [hte] at ha; exact ha.elim
      | some te =>
        rw [hte] at ha
        obtain ⟨hc, rfl⟩ := ha
        simp only [Bool.and_eq_true, decide_eq_true_eq] at hc
        simp only [Den] at hx hi
        subst hi
        obtain ⟨hb, hvir, rfl⟩ := hx
        refine ⟨.pointer (some ⟨(m.loc ro b).blk, (m.loc ro b).shift + (i * (m.loc ro b).esz + (o + j.toNat * te.size)), none⟩), ?_, by simp only [Den]; exact ⟨hb, hvir, trivial⟩⟩
        simp only [Instr.indexAt, asIntOf, Sem.run_bind, Sem.run_pure, Result.andThen_ok, hr, Instr.sureAddr]
        rw [if_pos (show (0 : Int) ≤ j ∧ j < (n : Int) from hc)]
        simp only [Sem.run_bind, (hT _ _ hte).run_sizeOf w, Result.andThen_ok, Sem.run_pure]
        congr 3
        unfold Addr.add
        split
        · rename_i h0; simp only [Addr.mk.injEq, and_true, true_and]; omega
        · simp only [Addr.mk.injEq, and_true, true_and]; omega
    · exact ha.elim
  · exact ha.elim

end Go.Dc
