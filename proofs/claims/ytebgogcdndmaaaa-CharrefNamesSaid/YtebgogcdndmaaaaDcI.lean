/- append. -/
import Derived.Test.YtebgogcdndmaaaaDcH
set_option linter.unusedSimpArgs false
set_option linter.unusedVariables false
namespace Go.Dc

def isByte : AV → Bool
  | .int .u8 n => decide (0 ≤ n) && decide (n ≤ 255)
  | _ => false

def joinCond (a b : Src) : Bool :=
  match a, b with
  | .byt _, .lst y => y.all isByte
  | _, _ => true

def joinRow (ty esz : Nat) (a b : Src) : Row :=
  match a, b, Nat.beq esz 1 with
  | .lst x, .lst y, _ => .lst ty esz (x ++ y)
  | .byt x, .byt y, true => .byt ty (x ++ y)
  | .lst [], .byt y, true => .byt ty y
  | .byt x, .lst y, true => .byt ty (x ++ y.map fun v => (byteOfAV v).getD 0)
  | a, b, _ => .gen ty esz (a.len + b.len) fun j => bif Nat.blt j a.len then a.at_ j else b.at_ (j - a.len)

theorem isByte_spec {v : AV} (h : isByte v = true) : ∃ n, v = .int .u8 n ∧ ((((byteOfAV v).getD 0).toNat : Int)) = n := by
  unfold isByte at h
  split at h
  · rename_i n
    simp only [Bool.and_eq_true, decide_eq_true_eq] at h
    refine ⟨n, rfl, ?_⟩
    simp only [byteOfAV, Option.getD_some, UInt8.toNat_ofNat']
    have : n.toNat < 2 ^ 8 := by omega
    rw [Nat.mod_eq_of_lt this]; omega
  · exact absurd h (by simp)

theorem joinRow_ty (ty esz : Nat) (a b : Src) : (joinRow ty esz a b).ty = ty := by
  unfold joinRow; split <;> rfl
theorem joinRow_esz (ty esz : Nat) (a b : Src) : (joinRow ty esz a b).esz = esz := by
  unfold joinRow
  split <;> first
    | rfl
    | (rename_i h; exact (Nat.eq_of_beq_eq_true h).symm)
theorem joinRow_len (ty esz : Nat) (a b : Src) : (joinRow ty esz a b).len = a.len + b.len := by
  unfold joinRow
  split <;> simp [Row.len, Src.len]

theorem joinRow_get (ty esz : Nat) (a b : Src) (hc : joinCond a b = true) {j : Nat} {e : AV} (h : (joinRow ty esz a b).get? j = some e) :
    (j < a.len ∧ e = a.at_ j) ∨ (a.len ≤ j ∧ j - a.len < b.len ∧ e = b.at_ (j - a.len)) := by
  have hgen : ∀ (a b : Src), (Row.gen ty esz (a.len + b.len) fun j => bif Nat.blt j a.len then a.at_ j else b.at_ (j - a.len)).get? j = some e →
      (j < a.len ∧ e = a.at_ j) ∨ (a.len ≤ j ∧ j - a.len < b.len ∧ e = b.at_ (j - a.len)) := by
    intro a b h
    simp only [Row.get?] at h
    cases hb : Nat.blt j (a.len + b.len) with
    | false => rw [hb] at h; simp at h
    | true =>
      rw [hb] at h
      simp only [cond_true, Option.some.injEq] at h
      have hlt : j < a.len + b.len := by simpa [Nat.blt_eq] using hb
      cases ha : Nat.blt j a.len with
      | true => rw [ha] at h; exact .inl ⟨by simpa [Nat.blt_eq] using ha, h.symm⟩
      | false =>
        rw [ha] at h
        have : ¬ j < a.len := by intro hh; rw [← Nat.blt_eq] at hh; rw [hh] at ha; exact absurd ha (by simp)
        exact .inr ⟨by omega, by omega, h.symm⟩
  have happ : ∀ {α : Type} (x y : List α) (d : α) (f : α → AV), ((x ++ y)[j]?).map f = some e → (j < x.length ∧ e = f (x.getD j d)) ∨ (x.length ≤ j ∧ j - x.length < y.length ∧ e = f (y.getD (j - x.length) d)) := by
    intro α x y d f h
    by_cases hj : j < x.length
    · rw [List.getElem?_append_left hj] at h
      rw [List.getElem?_eq_getElem hj] at h
      exact .inl ⟨hj, by simpa [List.getD, List.getElem?_eq_getElem hj] using h.symm⟩
    · rw [List.getElem?_append_right (by omega)] at h
      have hlt : j - x.length < y.length := by
        cases hx : y[j - x.length]? with
        | none => rw [hx] at h; simp at h
        | some v => exact (List.getElem?_eq_some_iff.1 hx).1
      rw [List.getElem?_eq_getElem hlt] at h
      exact .inr ⟨by omega, hlt, by simpa [List.getD, List.getElem?_eq_getElem hlt] using h.symm⟩
  unfold joinRow at h
  split at h
  · rename_i _ x y
    exact happ x y .any id (by simpa [Row.get?] using h)
  · rename_i x y _
    exact happ x y 0 (fun c => AV.int .u8 c.toNat) h
  · rename_i y _
    have := happ [] y 0 (fun c => AV.int .u8 c.toNat) h
    simpa [Src.len, Src.at_] using this
  · rename_i x y _
    simp only [joinCond, List.all_eq_true] at hc
    rcases happ x (y.map fun v => (byteOfAV v).getD 0) 0 (fun c => AV.int .u8 c.toNat) h with h1 | ⟨h1, h2, h3⟩
    · exact .inl h1
    · refine .inr ⟨h1, by simpa [Src.len] using h2, ?_⟩
      rw [h3]
      simp only [List.length_map] at h2
      have hm := hc y[j - x.length] (List.getElem_mem h2)
      obtain ⟨n, hn, hnn⟩ := isByte_spec hm
      simp only [Src.at_, Src.len, List.getD, List.getElem?_map, List.getElem?_eq_getElem h2, Option.map_some, Option.getD_some]
      rw [hnn, hn]
  · exact hgen _ _ h

theorem SrcOK.mono {m : Map} {n esz : Nat} {s : Src} {c c' : Nat → Option Value} (h : SrcOK m n esz s c) (hc : ∀ k v, k < s.len * esz → c k = some v → c' k = some v) : SrcOK m n esz s c' := by
  intro j hj
  refine ⟨(h j hj).1, fun o a ha => ?_⟩
  obtain ⟨g1, v, g2, g3⟩ := (h j hj).2 o a ha
  have ho : o < esz := by
    have := (List.getElem?_eq_some_iff.1 ha).1
    rw [(h j hj).1] at this; exact this
  have hk : j * esz + o < s.len * esz := by
    have : (j + 1) * esz ≤ s.len * esz := Nat.mul_le_mul_right _ hj
    rw [Nat.add_mul] at this; omega
  exact ⟨g1, v, hc _ v hk g2, g3⟩

/-- Two sources, one behind the other, as the elements of a row. -/
theorem joinRow_els {m : Map} {n : Nat} (ty esz : Nat) {a b : Src} (hc : joinCond a b = true) {c : Nat → Option Value} (ha : SrcOK m n esz a c) (hb : SrcOK m n esz b (fun k => c (a.len * esz + k))) :
    ElsOK m n (joinRow ty esz a b) esz c := by
  intro j e he
  rcases joinRow_get ty esz a b hc he with ⟨h1, rfl⟩ | ⟨h1, h2, rfl⟩
  · exact ha j h1
  · refine ⟨(hb _ h2).1, fun o x hx => ?_⟩
    obtain ⟨g1, v, g2, g3⟩ := (hb _ h2).2 o x hx
    refine ⟨g1, v, ?_, g3⟩
    have hmul : j * esz = a.len * esz + (j - a.len) * esz := by rw [← Nat.add_mul]; congr 1; omega
    rw [← g2]
    show c (j * esz + o) = c (a.len * esz + ((j - a.len) * esz + o))
    congr 1; omega

inductive WQ where
  | no
  | ok (c : Bool) (v : AV) (h : Rows)

def nextVal : Next → Option Value
  | .value v => some v
  | .skip => some undef
  | _ => none

def WQ.run (R : Nat → RoRow) (m : Map) (h : Rows) (P : Program) (w : World) (s : Sem Next) : WQ → Prop
  | .no => True
  | .ok c v h' => c = true → ∃ nx cv w' m', s.run P w = .ok nx w' ∧ nextVal nx = some cv ∧ Den m' h'.length v cv ∧ WR R m' h' w' ∧ Step m h w m' h' w'

theorem run_append_in {P : Program} {w : World} {t t2 ty e : TypeId} {i : TypeInfo} {d2 : TypeDesc} (ht : P.underlying t = some (.slice e)) (h2 : P.underlying t2 = some d2) (h2i : (∃ e2, d2 = .slice e2) ∨ d2 = .string) (hi : P.info? e = some i)
    (ts : List TypeId) (us : List Value) (base : Option Addr) (sLen sCap n : Nat) (x : Value) (news : List Value) (hlen : (Builtin.lenOf x).run P w = .ok n w) (hnews : (Builtin.firstCells i.size n x).run P w = .ok news.toArray w)
    (hle : sLen + n ≤ sCap) :
    (Builtin.append_ (t :: t2 :: ts).toArray ty (.slice base sLen sCap :: x :: us).toArray).run P w =
      (match base with | some a => (storeCells (a.add (sLen * i.size)) news).run P w | none => .ok () w).andThen fun _ w' => .ok (.slice base (sLen + n) sCap) w' := by
  rcases h2i with ⟨e2, rfl⟩ | rfl <;> cases base <;> simp [Builtin.append_, run_underlying ht, run_underlying h2, sizeOf, typeInfo, hi, hlen, hle, hnews]

theorem run_append_up {P : Program} {w : World} {t t2 ty e : TypeId} {i : TypeInfo} {d2 : TypeDesc} {z : Value} (ht : P.underlying t = some (.slice e)) (h2 : P.underlying t2 = some d2) (h2i : (∃ e2, d2 = .slice e2) ∨ d2 = .string) (hi : P.info? e = some i) (hz0 : i.zero = some z)
    (hb1 : 0 < i.bytes)
    (ts : List TypeId) (us : List Value) (base : Option Addr) (sLen sCap n : Nat) (x : Value) (olds news : List Value) (hlen : (Builtin.lenOf x).run P w = .ok n w)
    (hnews : ∀ w2 : World, w2.heap = w.heap → (Builtin.firstCells i.size n x).run P w2 = .ok news.toArray w2)
    (holds : ∀ w2 : World, w2.heap = w.heap → (Builtin.firstCells i.size sLen (.slice base sLen sCap)).run P w2 = .ok olds.toArray w2)
    (hgt : sCap < sLen + n) (hfit : (sLen + n) * i.bytes ≤ 140737488355328) :
    (Builtin.append_ (t :: t2 :: ts).toArray ty (.slice base sLen sCap :: x :: us).toArray).run P w =
      .ok (.slice (some ⟨w.heap.size, 0, none⟩) (sLen + n) (grownCap w (sLen + n) sCap e))
        (w.drew.alloc (.cells (olds.toArray ++ news.toArray ++ Builtin.zeroCells z.cells (grownCap w (sLen + n) sCap e - (sLen + n))) e)) := by
  have hbig : sLen + n ≤ 140737488355328 := by
    have : (sLen + n) * 1 ≤ (sLen + n) * i.bytes := Nat.mul_le_mul_left _ hb1
    omega
  have hlt : ¬ (sLen + n ≤ sCap) := by omega
  have h63' : ¬ (9223372036854775807 < ((sLen : Int) + (n : Int))) := by omega
  have h48' : ¬ (281474976710656 < Builtin.nextslicecap (sLen + n) sCap * i.bytes) := by
    have := growslice_fits hgt hfit
    omega
  have hn2 := hnews w.drew rfl
  have ho2 := holds w.drew rfl
  have fin : ∀ a b c : Array Value, a ++ (b ++ c) = a ++ b ++ c := fun a b c => (Array.append_assoc ..).symm
  rcases h2i with ⟨e2, rfl⟩ | rfl <;> simp [Builtin.append_, run_underlying ht, run_underlying h2, sizeOf, typeInfo, zeroValue, hi, hz0, hlen, hlt, h63', h48', Question.forced, hn2, ho2, newRow, grownCap] <;> (congr 2; apply Array.ext'; simp [List.append_assoc])

/-- A world in which one block of cells was overwritten from a place on. -/
structure Over (w w' : World) (g : Nat) (o : Nat) (vs : List Value) : Prop where
  os : w'.os = w.os
  tape : w'.tape = w.tape
  output : w'.output = w.output
  size : w'.heap.size = w.heap.size
  other : ∀ k, k ≠ g → w'.heap[k]? = w.heap[k]?
  blk : ∀ c t fz, w.heap[g]? = some (.cells c t fz) → ∃ c', w'.heap[g]? = some (.cells c' t fz) ∧ c'.size = c.size ∧ ∀ k, c'[k]? = if o ≤ k ∧ k < o + vs.length then vs[k - o]? else c[k]?

theorem heap_setCell (w : World) (g o : Nat) (v : Value) (c : Array Value) (t : TypeId) (fz : Nat × Nat) (h : w.heap[g]? = some (.cells c t fz)) :
    (w.setCell ⟨g, o, none⟩ v).heap[g]? = some (.cells (c.setIfInBounds o v) t fz) := by
  simp [World.setCell, Array.getElem?_modify, h]

theorem run_storeCells_over {P : Program} (g : Nat) (t : TypeId) (fz : Nat × Nat) (a : Addr) : ∀ (vs : List Value) (i o : Nat) (cur : Array Value) (w : World), w.heap[g]? = some (.cells cur t fz) → a.add i = ⟨g, o, none⟩ → (∀ j, a.add (i + j) = ⟨g, o + j, none⟩) →
    o + vs.length ≤ cur.size → (∀ k, o ≤ k → k < o + vs.length → (fz.1 ≤ k && k < fz.2) = false) → (∀ v ∈ vs, v.oneCell' = true) →
    ∃ w', (storeCells a vs i).run P w = .ok () w' ∧ Over w w' g o vs
  | [], i, o, cur, w, hb, ha, haj, hsz, hfz, h1 => ⟨w, by simp [storeCells, pure, Sem.run], rfl, rfl, rfl, rfl, fun _ _ => rfl, fun c t fz h => ⟨c, h, rfl, fun k => by simp; omega⟩⟩
  | v :: vs, i, o, cur, w, hb, ha, haj, hsz, hfz, h1 => by
    simp only [List.length_cons] at hsz hfz
    have hcell : w.cell? ⟨g, o, none⟩ = some (cur[o]'(by omega)) := by simp [World.cell?, hb]
    have hfr : w.frozen? ⟨g, o, none⟩ = false := by
      simp only [World.frozen?, hb]
      exact hfz o (Nat.le_refl _) (by omega)
    have hst : (store (a.add i) v).run P w = .ok () (w.setCell ⟨g, o, none⟩ v) := by
      rw [ha, run_store P w _ v _ (h1 v List.mem_cons_self)]
      simp [hcell, hfr]
    have hb' := heap_setCell w g o v cur t fz hb
    obtain ⟨w', hr, ho⟩ := run_storeCells_over (P := P) g t fz a vs (i + 1) (o + 1) (cur.setIfInBounds o v) (w.setCell ⟨g, o, none⟩ v) hb' (haj 1) (fun j => by
        have := haj (1 + j); rw [show i + 1 + j = i + (1 + j) by omega, this]; congr 1; omega) (by simp; omega) (fun k h1 h2 => hfz k (by omega) (by omega)) (fun u hu => h1 u (List.mem_cons_of_mem _ hu))
    refine ⟨w', by simp only [storeCells, Sem.run_bind, hst, Result.andThen_ok, hr], ho.os, ho.tape, ho.output, by rw [ho.size]; simp, fun k hk => ?_, fun c t' fz' h => ?_⟩
    · rw [ho.other k hk]
      exact Go.RowKit.Below.heap_setCell w _ _ k hk
    · rw [hb] at h
      cases h
      obtain ⟨c', hc1, hc2, hc3⟩ := ho.blk _ _ _ hb'
      refine ⟨c', hc1, by rw [hc2]; simp, fun k => ?_⟩
      rw [hc3 k]
      by_cases e : k = o
      · subst e
        rw [if_neg (by omega), if_pos (by simp)]
        have : k < cur.size := by omega
        simp [this]
      · by_cases e2 : o + 1 ≤ k ∧ k < o + 1 + vs.length
        · rw [if_pos e2, if_pos (by simp only [List.length_cons]; omega)]
          rw [show k - o = (k - (o + 1)) + 1 by omega]
          simp
        · rw [if_neg e2, if_neg (by simp only [List.length_cons]; omega)]
          rw [Array.getElem?_setIfInBounds_ne (by omega)]

/-- Which row an append uses up: none: it can't be told; some none: none of them. -/
def consumes (s : AV) (b : Src) : Option (Option Nat) :=
  match s with
  | .nils => some none
  | .sl false blk _ len true => match len with
    | 0 => some none
    | _ + 1 => match b with
      | .lst (_ :: _) => some none
      | _ => some (some blk)
  | .sl true _ _ 0 true => some none
  | .sl true _ _ (_ + 1) true => match b with
    | .lst (_ :: _) => some none
    | _ => none
  | .sl false blk _ _ false => some (some blk)
  | _ => none

def dropRow (h : Rows) : Option Nat → Rows
  | none => h
  | some b => h.set b none

def srcFits (R : Nat → RoRow) (h : Rows) (te : TI) (x : AV) : Bool :=
  match x with
  | .nils => true
  | .str _ => match te.kd with | .int .u8 => Nat.beq te.size 1 | _ => false
  | x => match eszOfAV R h x with | some z => Nat.beq z te.size | none => false

def appOK (R : Nat → RoRow) (h : Rows) (e : TypeId) (te t2i : TI) (s x : AV) : Bool :=
  (match t2i.kd with | .slice _ | .str => true | _ => false) && (srcFits R h te s && (srcFits R h te x && (Nat.blt 0 te.bytes && (Nat.beq te.zv.cells.length te.size &&
    (match s with | .str _ => false | .sl false b _ _ _ => (match h.live b with | some r => Nat.beq r.ty e | none => false) | _ => true)))))

def aappend (T : TypeId → Option TI) (R : Nat → RoRow) (h : Rows) (t t2 : TypeId) (s x : AV) : WQ :=
  match T t, T t2 with
  | some ti, some t2i =>
    match ti.kd with
    | .slice e => match T e with
      | some te =>
        if appOK R h e te t2i s x then
          match x, srcOf R h s, srcOf R h x with
          | .nils, _, _ => .ok true s h
          | _, some (c1, a), some (c2, b) => match consumes s b with
            | some d => .ok (c1 && (c2 && (joinCond a b && decide ((a.len + b.len) * te.bytes ≤ 140737488355328)))) (.sl false h.length 0 (a.len + b.len) false) (dropRow h d ++ [some (joinRow e te.size a b)])
            | none => .no
          | _, _, _ => .no
        else .no
      | none => .no
    | _ => .no
  | _, _ => .no

end Go.Dc
