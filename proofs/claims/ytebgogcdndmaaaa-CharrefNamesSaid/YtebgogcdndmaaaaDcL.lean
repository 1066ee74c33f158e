/- Slices that are made; copy and clear; a text as bytes. -/
import Derived.Test.YtebgogcdndmaaaaDcK
set_option linter.unusedSimpArgs false
set_option linter.unusedVariables false
namespace Go.Dc

def flatZ (z : List AV) (k : Nat) : List AV := (List.range k).map fun i => z.getD (i % z.length) .any

def chunks (zv : AV) (size len : Nat) (res : List AV) : List AV := (List.range len).map fun i => mkEl zv ((res.drop (i * size)).take size)

def abuildSlice (T : TypeId → Option TI) (h : Rows) (t : TypeId) (len : Nat) (parts : List (Nat × AV)) : WQ :=
  match T t with
  | some ti => match ti.kd with
    | .slice e => match T e with
      | some te =>
        if Nat.ble (len * te.size) (2 ^ 24) && (Nat.ble len (2 ^ 24) && okCells te.zv te.size) then
          match afill (fun i => some (i * te.size, te.size)) (flatZ te.zv.cells (len * te.size)) parts with
          | some res => if res.all AV.one then .ok true (.sl false h.length 0 len true) (h ++ [some (.lst e te.size (chunks te.zv te.size len res))]) else .no
          | none => .no
        else .no
      | none => .no
    | _ => .no
  | none => .no

theorem flatZ_length (z : List AV) (k : Nat) : (flatZ z k).length = k := by simp [flatZ]

theorem afill_length {place : Nat → Option (Nat × Nat)} : ∀ {parts : List (Nat × AV)} {cells res : List AV}, afill place cells parts = some res → res.length = cells.length
  | [], cells, res, h => by simp [afill] at h; rw [h]
  | (i, v) :: parts, cells, res, h => by
    simp only [afill] at h
    split at h
    · exact absurd h (by simp)
    · split at h
      · rename_i hc
        rw [afill_length h, putAt_length hc.2.2]
      · exact absurd h (by simp)

theorem flatZ_den {m : Map} {n : Nat} {zs : List AV} {z : Array Value} (h : DenL m n zs z.toList) (k : Nat) (hk : 0 < k → 0 < zs.length) :
    DenL m n (flatZ zs k) ((Array.range k).map (fun i => z[i % z.size]!)).toList := by
  have hl := h.length
  simp only [Array.length_toList] at hl
  refine DenL.of (by simp [flatZ]) ?_
  intro i a ha
  have hi : i < k := by have := (List.getElem?_eq_some_iff.1 ha).1; simpa [flatZ] using this
  have hz : 0 < zs.length := hk (by omega)
  have hm : i % zs.length < zs.length := Nat.mod_lt _ hz
  simp only [flatZ, List.getElem?_map, List.getElem?_range hi, Option.map_some, Option.some.injEq] at ha
  obtain ⟨v, hv, hd⟩ := h.get (List.getElem?_eq_getElem hm)
  refine ⟨v, ?_, ?_⟩
  · simp only [Array.toList_map, List.getElem?_map, Array.toList_range, List.getElem?_range hi, Option.map_some, Option.some.injEq]
    rw [← hl]
    have hm2 : i % zs.length < z.size := by omega
    rw [Array.getElem?_toList] at hv
    rw [getElem!_pos z _ hm2]
    rw [Array.getElem?_eq_getElem hm2] at hv
    exact Option.some.inj hv
  · rw [← ha]
    simpa [List.getD, List.getElem?_eq_getElem hm] using hd

theorem chunks_els {m : Map} {n : Nat} {zv : AV} {size len : Nat} {res : List AV} (hz : okCells zv size = true) (h1 : res.all AV.one = true) (hl : res.length = len * size) {r : Array Value} (hd : DenL m n res r.toList) (ty : Nat) :
    ElsOK m n (.lst ty size (chunks zv size len res)) size (fun k => r[k]?) := by
  simp only [okCells, Bool.and_eq_true] at hz
  obtain ⟨z1, z2, z3⟩ := hz
  have z2' := Nat.eq_of_beq_eq_true z2
  intro i e he
  simp only [Row.get?] at he
  have hi : i < len := by have := (List.getElem?_eq_some_iff.1 he).1; simpa [chunks] using this
  simp only [chunks, List.getElem?_map, List.getElem?_range hi, Option.map_some, Option.some.injEq] at he
  subst he
  have hmul : (i + 1) * size ≤ len * size := Nat.mul_le_mul_right _ hi
  rw [Nat.add_mul] at hmul
  have hcl : ((res.drop (i * size)).take size).length = size := by simp; omega
  have hcells : (mkEl zv ((res.drop (i * size)).take size)).cells = (res.drop (i * size)).take size := by
    refine mkEl_cells (by rw [hcl, z2']) (fun a ha => ?_) (fun o a ha => List.all_eq_true.1 z3 a (List.mem_of_getElem? ha))
    exact List.all_eq_true.1 h1 a (List.mem_of_mem_drop (List.mem_of_mem_take ha))
  rw [hcells]
  refine ⟨hcl, fun o a ha => ?_⟩
  have ho : o < size := by have := (List.getElem?_eq_some_iff.1 ha).1; omega
  rw [List.getElem?_take_of_lt ho, List.getElem?_drop] at ha
  obtain ⟨v, hv, hdv⟩ := hd.get ha
  exact ⟨List.all_eq_true.1 h1 a (List.mem_of_getElem? ha), v, by simpa using hv, hdv⟩

theorem abuildSlice_ok {T : TypeId → Option TI} {P : Program} (hT : TabOK P T) {R : Nat → RoRow} {m : Map} {h : Rows} {w : World} (hW : WR R m h w) (t : TypeId) (len : Nat) (parts : List (Nat × AV)) (ps : Array (Nat × Value))
    (h1 : ps.toList.map (·.1) = parts.map (·.1)) (h2 : DenL m h.length (parts.map (·.2)) (ps.toList.map (·.2))) :
    (abuildSlice T h t len parts).run R m h P w (do pure (.value (← Instr.buildSlice t len ps))) := by
  unfold abuildSlice
  cases hti : T t with
  | none => trivial
  | some ti =>
    simp only []
    split
    case h_2 => trivial
    rename_i e hkd
    cases hte : T e with
    | none => trivial
    | some te =>
      simp only []
      split
      case isFalse => trivial
      rename_i hc
      simp only [Bool.and_eq_true] at hc
      obtain ⟨hbig, hbl, hz⟩ := hc
      have hbl' := Nat.le_of_ble_eq_true hbl
      split
      case h_2 => trivial
      rename_i res hres
      split
      case isFalse => trivial
      rename_i hone
      intro _
      obtain ⟨d, hr, hu, hk⟩ := (hT _ _ hti).run_underlying w
      rw [hkd] at hk; simp only [KdOK] at hk; subst hk
      obtain ⟨z, hzr, hzd⟩ := (hT _ _ hte).run_zero w
      have hzc := Den.cells (hT _ _ hte).zk (hzd m h.length)
      have hzl : te.zv.cells.length = te.size := by
        simp only [okCells, Bool.and_eq_true] at hz
        exact Nat.eq_of_beq_eq_true hz.2.1
      have hbig' : ¬ (len * te.size > 2 ^ 24) := by
        have := Nat.le_of_ble_eq_true hbig
        omega
      have hpos : 0 < len * te.size → 0 < te.zv.cells.length := by
        intro h0
        rw [hzl]
        rcases Nat.eq_zero_or_pos te.size with h | h
        · rw [h] at h0; omega
        · exact h
      have hlr : res.length = len * te.size := by rw [afill_length hres, flatZ_length]
      -- the zero cells: none where there are none
      obtain ⟨r, hrun, hd⟩ : ∃ r : Array Value, (do pure (.value (← Instr.buildSlice t len ps)) : Sem Next).run P w = .ok (.value (.slice (some ⟨w.heap.size, 0, none⟩) len len)) (w.alloc (.cells r e)) ∧ DenL m h.length res r.toList := by
        by_cases h0 : len * te.size = 0
        · have hden : DenL m h.length (flatZ te.zv.cells (len * te.size)) ((Array.range (len * te.size)).map (fun i => (#[] : Array Value)[i % (#[] : Array Value).size]!)).toList := by
            rw [h0]; simp [flatZ, DenL]
          obtain ⟨r, hfr, hd⟩ := fill_ok (fun i => some (i * te.size, te.size)) parts ps.toList _ res _ hden h1 h2 hres
          refine ⟨r, ?_, hd⟩
          simp only [Instr.buildSlice, Sem.run_bind, hr, Result.andThen_ok, (hT _ _ hte).run_sizeOf w]
          rw [if_neg hbig', if_pos h0]
          simp only [Sem.run_bind, Sem.run_pure, Result.andThen_ok, hfr]
          simp [newRow, newObj, pure, Sem.run]
        · obtain ⟨r, hfr, hd⟩ := fill_ok (fun i => some (i * te.size, te.size)) parts ps.toList _ res _ (flatZ_den hzc _ hpos) h1 h2 hres
          refine ⟨r, ?_, hd⟩
          simp only [Instr.buildSlice, Sem.run_bind, hr, Result.andThen_ok, (hT _ _ hte).run_sizeOf w]
          rw [if_neg hbig', if_neg h0]
          simp only [Sem.run_bind, Sem.run_pure, Result.andThen_ok, hzr, hfr]
          simp [newRow, newObj, pure, Sem.run]
      have hrs : r.size = len * te.size := by
        have := hd.length
        simp at this; omega
      obtain ⟨vW, vS⟩ := hW.push (w' := w.alloc (.cells r e)) (.lst e te.size (chunks te.zv te.size len res)) r (0, 0) len rfl rfl rfl rfl (by simp [Row.len, chunks]) (by simp [Row.esz, hrs]) (by simp) (chunks_els hz hone hlr hd e)
      refine ⟨.value (.slice (some ⟨w.heap.size, 0, none⟩) len len), .slice (some ⟨w.heap.size, 0, none⟩) len len, _, _, ?_, rfl, ?_, vW, vS⟩
      · exact hrun
      · simp only [Den]
        refine ⟨fun _ => by simp, ?_⟩
        simp only [Map.loc, Bool.false_eq_true, if_false, Map.setMu_same, SlDen]
        have hml : len ≤ maxLen := by unfold maxLen; omega
        exact ⟨_, len, rfl, Nat.le_refl _, hml, fun _ => rfl, fun _ => ⟨by simp, by simp⟩⟩

/-- make: a slice of zeros. -/
def amakeSlice (T : TypeId → Option TI) (h : Rows) (t : TypeId) (l c : AV) : WQ :=
  match T t, l, c with
  | some ti, .int _ l, .int _ c => match ti.kd with
    | .slice e => match T e with
      | some te => if okCells te.zv te.size && (Nat.blt 0 te.bytes && Nat.blt 0 te.size) then
          .ok (decide (0 ≤ l) && (decide (l ≤ c) && decide (c * te.bytes ≤ 140737488355328))) (.sl false h.length 0 l.toNat (l == c)) (h ++ [some (.gen e te.size l.toNat fun _ => te.zv)])
        else .no
      | none => .no
    | _ => .no
  | _, _, _ => .no

theorem wrap64_small {x : Int} (h0 : 0 ≤ x) (h1 : x ≤ 140737488355328) : IntKind.i64.wrap x = x := by
  unfold IntKind.wrap
  simp only [IntKind.bits, IntKind.signed]
  have : x % (2 ^ 64 : Int) = x := Int.emod_eq_of_lt h0 (by omega)
  simp only [this]
  rw [if_neg]
  simp
  omega

theorem amakeSlice_ok {T : TypeId → Option TI} {P : Program} (hT : TabOK P T) {R : Nat → RoRow} {m : Map} {h : Rows} {w : World} (hW : WR R m h w) (t : TypeId) (l c : AV) (ul uc : Value) (hl : Den m h.length l ul) (hc : Den m h.length c uc) :
    (amakeSlice T h t l c).run R m h P w (do pure (.value (← Instr.makeSlice t ul uc))) := by
  unfold amakeSlice
  split
  case h_2 => trivial
  rename_i ti _ _ _ k l k' c hti
  split
  case h_2 => trivial
  rename_i e hkd
  cases hte : T e with
  | none => trivial
  | some te =>
    simp only []
    split
    case isFalse => trivial
    rename_i hcond
    simp only [Bool.and_eq_true] at hcond
    obtain ⟨hz, hby, hsz⟩ := hcond
    intro hcc
    simp only [Bool.and_eq_true, decide_eq_true_eq] at hcc
    obtain ⟨c1, c2, c3⟩ := hcc
    simp only [Den] at hl hc
    subst hl hc
    obtain ⟨d, hr, hu, hk⟩ := (hT _ _ hti).run_underlying w
    rw [hkd] at hk; simp only [KdOK] at hk; subst hk
    obtain ⟨z, hzr, hzd⟩ := (hT _ _ hte).run_zero w
    obtain ⟨ie, hie, hieb, hies⟩ := (hT _ _ hte).run_typeInfo w
    have hby' : 0 < te.bytes := by simpa [Nat.blt_eq] using hby
    have hsz' : 0 < te.size := by simpa [Nat.blt_eq] using hsz
    have hcb : c ≤ 140737488355328 := by
      have h1 : c * 1 ≤ c * te.bytes := Int.mul_le_mul_of_nonneg_left (by omega) (by omega)
      omega
    have hzc := Den.cells (hT _ _ hte).zk (hzd m h.length)
    obtain ⟨q1, q2, q3, q4, q5⟩ := okCells_spec hz (hzd m h.length)
    have hden := flatZ_den hzc (c.toNat * te.size) (fun _ => by omega)
    have hel : ElsOK m h.length (.gen e te.size l.toNat fun _ => te.zv) te.size (fun k => ((Array.range (c.toNat * te.size)).map (fun i => z.cells[i % z.cells.size]!))[k]?) := by
      intro i x hx
      simp only [Row.get?] at hx
      cases hb : Nat.blt i l.toNat with
      | false => rw [hb] at hx; simp at hx
      | true =>
        rw [hb] at hx
        simp only [cond_true, Option.some.injEq] at hx
        subst hx
        refine ⟨q3, fun o a ha => ?_⟩
        have ho : o < te.size := by have := (List.getElem?_eq_some_iff.1 ha).1; omega
        have hi : i < l.toNat := by simpa [Nat.blt_eq] using hb
        have hmul : (i + 1) * te.size ≤ c.toNat * te.size := Nat.mul_le_mul_right _ (by omega)
        rw [Nat.add_mul] at hmul
        have hk : i * te.size + o < c.toNat * te.size := by omega
        obtain ⟨g1, y, g2, g3⟩ := q4 o a ha
        have hmod : (i * te.size + o) % te.zv.cells.length = o := by
          rw [q3, Nat.mul_comm, Nat.mul_add_mod, Nat.mod_eq_of_lt ho]
        have hget : (flatZ te.zv.cells (c.toNat * te.size))[i * te.size + o]? = some a := by
          simp only [flatZ, List.getElem?_map, List.getElem?_range hk, Option.map_some, hmod, List.getD, ha, Option.getD_some]
        obtain ⟨v, hv, hd⟩ := hden.get hget
        exact ⟨g1, v, by rw [Array.getElem?_toList] at hv; exact hv, hd⟩
    obtain ⟨vW, vS⟩ := hW.push (w' := w.alloc (.cells ((Array.range (c.toNat * te.size)).map (fun i => z.cells[i % z.cells.size]!)) e)) (.gen e te.size l.toNat fun _ => te.zv) _ (0, 0) c.toNat rfl rfl rfl rfl (by simp [Row.len]; omega) (by simp [Row.esz]) (by simp) hel
    refine ⟨.value (.slice (some ⟨w.heap.size, 0, none⟩) l.toNat c.toNat), .slice (some ⟨w.heap.size, 0, none⟩) l.toNat c.toNat, _, _, ?_, rfl, ?_, vW, vS⟩
    · obtain ⟨ie2, hie2, hie2s, hie2b, ze, hze, hzed⟩ := (hT _ _ hte).info
      have hzz : ze = z := by
        have : (zeroValue e).run P w = .ok ze w := by simp [zeroValue, typeInfo, program, Sem.run, hie2, pure, hze]
        rw [hzr] at this
        injection this with h1
        exact h1.symm
      have hrun := run_make (P := P) w t e ie2 ze hu hie2 hze k k' l c c1 c2 (by rw [hie2b, Int.mul_comm]; omega) (by omega)
      simp only [Sem.run_bind, hrun, Result.andThen_ok, hie2s, hzz]
      rfl
    · simp only [Den]
      refine ⟨fun _ => by simp, ?_⟩
      simp only [Map.loc, Bool.false_eq_true, if_false, Map.setMu_same, SlDen]
      refine ⟨_, c.toNat, rfl, by omega, by unfold maxLen; omega, fun hf => ?_, fun _ => ⟨by simp, by simp⟩⟩
      have : l = c := by simpa using hf
      rw [this]

end Go.Dc
