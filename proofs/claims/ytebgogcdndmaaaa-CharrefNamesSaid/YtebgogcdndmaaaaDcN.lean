/- What one operation that may change memory answers. -/
import Derived.Test.YtebgogcdndmaaaaDcM
import Derived.Lib.ConvBytes
set_option linter.unusedSimpArgs false
set_option linter.unusedVariables false
namespace Go.Dc

def acopy (T : TypeId → Option TI) (R : Nat → RoRow) (h : Rows) (t : TypeId) (dst x : AV) : WQ :=
  match T t with
  | none => .no
  | some ti => match ti.kd with
    | .slice e => match T e with
      | none => .no
      | some te =>
        if srcFits R h te x then
          match dst, srcOf R h x with
          | .sl false b i len full, some (c, s) =>
            if eszOf R h false b = some te.size then
              match h.live b with
              | some r => .ok (c && decide (i + Nat.min s.len len ≤ r.len)) (.int .i64 (Nat.min s.len len : Nat)) (h.set b (some (overlay r i (Nat.min s.len len) s)))
              | none => .no
            else .no
          | .nils, some (c, s) => .ok c (.int .i64 0) h
          | _, _ => .no
        else .no
    | _ => .no

theorem fits_spec {R : Nat → RoRow} {h : Rows} {te : TI} {y : AV} {c : Bool} {q : Src} (hf : srcFits R h te y = true) (hq : srcOf R h y = some (c, q)) : (∃ z, eszOfAV R h y = some z ∧ z = te.size) ∨ y = .nils ∨ (te.size = 1 ∧ ∃ l, y = .str l) := by
  unfold srcFits at hf
  split at hf
  · exact .inr (.inl rfl)
  · split at hf
    · exact .inr (.inr ⟨Nat.eq_of_beq_eq_true hf, _, rfl⟩)
    · exact absurd hf (by simp)
  · cases hz : eszOfAV R h y with
    | none => rw [hz] at hf; simp at hf
    | some z => rw [hz] at hf; exact .inl ⟨z, rfl, Nat.eq_of_beq_eq_true hf⟩

theorem acopy_ok {T : TypeId → Option TI} {P : Program} (hT : TabOK P T) {R : Nat → RoRow} {m : Map} {h : Rows} {w : World} (hW : WR R m h w) (t ty : TypeId) (ts : List TypeId) (dst x : AV) (u v : Value) (us : List Value)
    (hd : Den m h.length dst u) (hx : Den m h.length x v) :
    (acopy T R h t dst x).run R m h P w (do pure (.value (← Builtin.copy_ (t :: ts).toArray ty (u :: v :: us).toArray))) := by
  unfold acopy
  cases hti : T t with
  | none => trivial
  | some ti =>
    simp only []
    split
    case h_2 => trivial
    rename_i e hkd
    cases hte : T e with
    | none => trivial
    | some te =>
      simp only []
      split
      case isFalse => trivial
      rename_i hfit
      obtain ⟨d, hr, hu, hk⟩ := (hT _ _ hti).run_underlying w
      rw [hkd] at hk; simp only [KdOK] at hk; subst hk
      have hzr := (hT _ _ hte).run_sizeOf w
      split
      · rename_i b i len full c s hs
        split
        case isFalse => trivial
        rename_i hez
        cases hl : h.live b with
        | none => trivial
        | some r =>
          intro hc
          simp only [Bool.and_eq_true, decide_eq_true_eq] at hc
          obtain ⟨rfl, hin⟩ := hc
          obtain ⟨news, n1, n2, n3, n4, n5⟩ := src_vals_n (P := P) hW hx hs (fits_spec hfit hs)
          have hesz := eszOf_spec hW hez
          simp only [Map.loc, Bool.false_eq_true, if_false] at hesz
          simp only [Den] at hd
          obtain ⟨hb, hsl⟩ := hd
          have hbase : ∃ base cap, u = .slice base len cap ∧ ((m.mu b).vir = false → 0 < len → base = some ⟨(m.mu b).blk, (m.mu b).shift + i * (m.mu b).esz, none⟩) := by
            unfold SlDen at hsl
            simp only [Map.loc, Bool.false_eq_true, if_false] at hsl
            split at hsl
            · rename_i hv
              obtain ⟨rfl, ao, rfl⟩ := hsl
              exact ⟨ao, 0, rfl, fun hv' => by rw [hv] at hv'; exact absurd hv' (by simp)⟩
            · obtain ⟨ad, cap, rfl, h1, h2, h3, h4⟩ := hsl
              exact ⟨some ad, cap, rfl, fun _ hp => by rw [(h4 (by omega)).1]⟩
          obtain ⟨base, cap, rfl, hbs⟩ := hbase
          have hmin1 : Nat.min s.len len ≤ s.len := Nat.min_le_left _ _
          have hmin2 : Nat.min s.len len ≤ len := Nat.min_le_right _ _
          have hmul : Nat.min s.len len * te.size ≤ s.len * te.size := Nat.mul_le_mul_right _ hmin1
          obtain ⟨w', hst, mW, mS⟩ := hW.overlay (P := P) hl i (Nat.min s.len len) s hin hmin1 (news := news.take (Nat.min s.len len * te.size)) (by rw [List.length_take, n1, hesz]; exact Nat.min_eq_left hmul)
            (by
              intro j hj
              rw [hesz]
              obtain ⟨a1, a2⟩ := n4 j (by omega)
              refine ⟨a1, fun o a ha => ?_⟩
              obtain ⟨b1, vv, b2, b3⟩ := a2 o a ha
              have ho : o < te.size := by have := (List.getElem?_eq_some_iff.1 ha).1; omega
              have hk : (j + 1) * te.size ≤ Nat.min s.len len * te.size := Nat.mul_le_mul_right _ hj
              rw [Nat.add_mul] at hk
              exact ⟨b1, vv, by rw [List.getElem?_take_of_lt (by omega)]; exact b2, b3⟩)
            (fun vv hv => n5 vv (List.mem_of_mem_take hv)) base (fun hv hp => hbs hv (by omega))
          refine ⟨.value (.int .i64 (Nat.min s.len len : Nat)), _, w', m, ?_, rfl, by simp only [Den], mW, mS⟩
          have hn := n3 (Nat.min s.len len) w hmin1 rfl
          have hgen : (Builtin.copy_ (t :: ts).toArray ty (.slice base len cap :: v :: us).toArray).run P w = .ok (.int .i64 (Nat.min s.len len : Nat)) w' := by
            cases base with
            | none => simp only [Builtin.copy_, List.getElem?_toArray, List.getElem?_cons_zero, List.getElem?_cons_succ, Sem.run_bind, hr, Result.andThen_ok, n2, hzr, hn]
                      simp only [Result.ok.injEq, true_and] at hst
                      subst hst
                      simp [goInt, pure, Sem.run]
            | some a => simp only [Builtin.copy_, List.getElem?_toArray, List.getElem?_cons_zero, List.getElem?_cons_succ, Sem.run_bind, hr, Result.andThen_ok, n2, hzr, hn]
                        simp only [] at hst
                        simp only [hst, Result.andThen_ok]
                        simp [goInt, pure, Sem.run]
          simp only [Sem.run_bind, hgen, Result.andThen_ok]
          rfl
      · rename_i c s hs
        intro hc
        subst hc
        obtain ⟨news, n1, n2, n3, n4, n5⟩ := src_vals_n (P := P) hW hx hs (fits_spec hfit hs)
        simp only [Den] at hd
        subst hd
        have hn := n3 0 w (Nat.zero_le _) rfl
        refine ⟨.value (.int .i64 0), _, w, m, ?_, rfl, by simp only [Den], hW, Step.refl _ _ _⟩
        have hm0 : Nat.min s.len 0 = 0 := Nat.min_zero _
        simp only [Builtin.copy_, List.getElem?_toArray, List.getElem?_cons_zero, List.getElem?_cons_succ, Sem.run_bind, hr, Result.andThen_ok, n2, hzr, hm0, hn]
        simp [goInt, pure, Sem.run]
      · trivial

def aclear (T : TypeId → Option TI) (R : Nat → RoRow) (h : Rows) (t : TypeId) (x : AV) : WQ :=
  match T t with
  | none => .no
  | some ti => match ti.kd with
    | .slice e => match T e with
      | none => .no
      | some te =>
        match x with
        | .nils => .ok true (.tup []) h
        | .sl false b i len full =>
          if eszOf R h false b = some te.size ∧ okCells te.zv te.size = true then
            match h.live b with
            | some r => .ok (decide (i + len ≤ r.len)) (.tup []) (h.set b (some (overlay r i len (.lst (List.replicate len te.zv)))))
            | none => .no
          else .no
        | _ => .no
    | _ => .no

theorem aclear_ok {T : TypeId → Option TI} {P : Program} (hT : TabOK P T) {R : Nat → RoRow} {m : Map} {h : Rows} {w : World} (hW : WR R m h w) (t ty : TypeId) (ts : List TypeId) (x : AV) (u : Value) (us : List Value)
    (hx : Den m h.length x u) :
    (aclear T R h t x).run R m h P w (do pure (.value (← Builtin.clear_ (t :: ts).toArray ty (u :: us).toArray))) := by
  unfold aclear
  cases hti : T t with
  | none => trivial
  | some ti =>
    simp only []
    split
    case h_2 => trivial
    rename_i e hkd
    cases hte : T e with
    | none => trivial
    | some te =>
      simp only []
      obtain ⟨d, hr, hu, hk⟩ := (hT _ _ hti).run_underlying w
      rw [hkd] at hk; simp only [KdOK] at hk; subst hk
      split
      · intro _
        simp only [Den] at hx
        subst hx
        refine ⟨.value (.tuple #[]), _, w, m, ?_, rfl, by simp [Den, DenL], hW, Step.refl _ _ _⟩
        simp [Builtin.clear_, hr, pure, Sem.run]
      · rename_i b i len full
        split
        case isFalse => trivial
        rename_i hcond
        obtain ⟨hez, hz⟩ := hcond
        cases hl : h.live b with
        | none => trivial
        | some r =>
          intro hc
          simp only [decide_eq_true_eq] at hc
          have hesz := eszOf_spec hW hez
          simp only [Map.loc, Bool.false_eq_true, if_false] at hesz
          obtain ⟨z, hzr, hzd⟩ := (hT _ _ hte).run_zero w
          obtain ⟨q1, q2, q3, q4, q5⟩ := okCells_spec hz (hzd m h.length)
          simp only [Den] at hx
          obtain ⟨hb, hsl⟩ := hx
          unfold SlDen at hsl
          simp only [Map.loc, Bool.false_eq_true, if_false] at hsl
          have hzs : ∀ k, k < len * te.size → 0 < te.size := fun k hk => by
            rcases Nat.eq_zero_or_pos te.size with h | h
            · rw [h] at hk; omega
            · exact h
          have hnews : ∀ (j o : Nat), j < len → o < te.size → (Builtin.zeroCells z.cells len).toList[j * te.size + o]? = z.cells[o]? := by
            intro j o hj ho
            have hk : (j + 1) * te.size ≤ len * te.size := Nat.mul_le_mul_right _ hj
            rw [Nat.add_mul] at hk
            simp only [Builtin.zeroCells, Array.toList_map, Array.toList_range, List.getElem?_map]
            rw [q1, List.getElem?_range (by omega)]
            simp only [Option.map_some]
            rw [show (j * te.size + o) % te.size = o by rw [Nat.mul_comm, Nat.mul_add_mod, Nat.mod_eq_of_lt ho]]
            have hlt : o < z.cells.size := by omega
            rw [getElem!_pos z.cells o hlt, Array.getElem?_eq_getElem hlt]
          have hone : ∀ v ∈ (Builtin.zeroCells z.cells len).toList, v.oneCell' = true := by
            intro v hv
            simp only [Builtin.zeroCells, Array.toList_map, Array.toList_range, List.mem_map, List.mem_range] at hv
            obtain ⟨k, hk, rfl⟩ := hv
            have hpos : 0 < z.cells.size := by
              rcases Nat.eq_zero_or_pos z.cells.size with h | h
              · rw [h] at hk; omega
              · exact h
            have hm : k % z.cells.size < z.cells.size := Nat.mod_lt _ hpos
            rw [getElem!_pos z.cells _ hm]
            exact q5 _ (by simp)
          obtain ⟨w', hst, mW, mS⟩ := hW.overlay (P := P) hl i len (.lst (List.replicate len te.zv)) hc (by simp [Src.len]) (news := (Builtin.zeroCells z.cells len).toList) (by simp [size_zeroCells, q1, hesz])
            (by
              intro j hj
              have hat : (Src.lst (List.replicate len te.zv)).at_ j = te.zv := by simp [Src.at_, List.getD, hj]
              rw [hat, hesz]
              refine ⟨q3, fun o a ha => ?_⟩
              have ho : o < te.size := by have := (List.getElem?_eq_some_iff.1 ha).1; omega
              obtain ⟨b1, y, b2, b3⟩ := q4 o a ha
              exact ⟨b1, y, by rw [hnews j o hj ho]; exact b2, b3⟩)
            hone (match u with | .slice (some a) (_ + 1) _ => some a | _ => none)
            (by
              intro hv hp
              rw [hv] at hsl
              simp only [Bool.false_eq_true, if_false] at hsl
              obtain ⟨ad, cap, rfl, h1, h2, h3, h4⟩ := hsl
              obtain ⟨k, rfl⟩ : ∃ k, len = k + 1 := ⟨len - 1, by omega⟩
              simp only []
              rw [(h4 (by omega)).1])
          refine ⟨.value (.tuple #[]), _, w', m, ?_, rfl, by simp [Den, DenL], mW, mS⟩
          split at hsl
          · obtain ⟨rfl, ao, rfl⟩ := hsl
            have hst' : w' = w := by
              cases ao <;> simp only [Result.ok.injEq, true_and] at hst <;> exact hst.symm
            subst hst'
            cases ao <;> simp [Builtin.clear_, hr, pure, Sem.run]
          · obtain ⟨ad, cap, rfl, h1, h2, h3, h4⟩ := hsl
            cases len with
            | zero =>
              simp only [Result.ok.injEq, true_and] at hst
              subst hst
              simp [Builtin.clear_, hr, pure, Sem.run]
            | succ k =>
              simp only [] at hst
              simp [Builtin.clear_, hr, hzr, hst, pure, Sem.run]
      · trivial

/-- A text as a slice of bytes. -/
def astrBytes (T : TypeId → Option TI) (h : Rows) (d : TypeId) (x : AV) : WQ :=
  match T d, x with
  | some td, .str l => match td.kd with
    | .slice e => match T e with
      | some te => match te.kd, te.size with
        | .int .u8, 1 => .ok (decide (l.length ≤ 9223372036854775807)) (.sl false h.length 0 l.length false) (h ++ [some (.byt e l)])
        | _, _ => .no
      | none => .no
    | _ => .no
  | _, _ => .no

theorem astrBytes_ok {T : TypeId → Option TI} {P : Program} (hT : TabOK P T) {R : Nat → RoRow} {m : Map} {h : Rows} {w : World} (hW : WR R m h w) (s d : TypeId) (ts : TI) (hs : T s = some ts) (x : AV) (u : Value) (hx : Den m h.length x u) :
    (astrBytes T h d x).run R m h P w (do pure (.value (← convert s d u))) := by
  unfold astrBytes
  split
  case h_2 => trivial
  rename_i td l htd
  split
  case h_2 => trivial
  rename_i e hkd
  cases hte : T e with
  | none => trivial
  | some te =>
    simp only []
    split
    case h_2 => trivial
    rename_i hkt hsz
    intro hc
    simp only [decide_eq_true_eq] at hc
    simp only [Den] at hx
    subst hx
    obtain ⟨ds, hrs, hus, hks⟩ := (hT _ _ hs).run_underlying w
    obtain ⟨dd, hrd, hud, hk⟩ := (hT _ _ htd).run_underlying w
    rw [hkd] at hk; simp only [KdOK] at hk; subst hk
    obtain ⟨de, hre, hue, hkk⟩ := (hT _ _ hte).run_underlying w
    rw [hkt] at hkk; simp only [KdOK] at hkk; subst hkk
    obtain ⟨b1, b2⟩ := grownCap_bounds w l.length 0 e (by omega)
    have hel : ElsOK m h.length (.byt e l) 1 (fun k => (((l.map fun c => Value.int .u8 c.toNat).toArray ++ Array.replicate (grownCap w l.length 0 e - l.length) (.int .u8 0)) : Array Value)[k]?) := by
      intro i x hx
      rw [Row.get_iff] at hx
      obtain ⟨hi, rfl⟩ := hx
      simp only [Row.len] at hi
      refine ⟨rfl, fun o a ha => ?_⟩
      simp only [Row.at_, AV.cells] at ha
      cases o with
      | succ o => simp at ha
      | zero =>
        simp only [List.getElem?_cons_zero, Option.some.injEq] at ha
        subst ha
        refine ⟨rfl, .int .u8 (l.getD i 0).toNat, ?_, by simp [Den]⟩
        simp only []
        rw [Array.getElem?_append_left (by simp; omega)]
        simp [List.getD, List.getElem?_eq_getElem hi]
    have hcsz : (((l.map fun c => Value.int .u8 c.toNat).toArray ++ Array.replicate (grownCap w l.length 0 e - l.length) (.int .u8 0)) : Array Value).size = grownCap w l.length 0 e := by
      simp; omega
    have hbc : Lib.bytesCells w e ⟨⟨l⟩⟩ = ((l.map fun c => Value.int .u8 c.toNat).toArray ++ Array.replicate (grownCap w l.length 0 e - l.length) (.int .u8 0)) := by
      simp [Lib.bytesCells, size_mk]
    have hheap : (Lib.bytesWorld w e ⟨⟨l⟩⟩).heap = w.heap.push (.cells ((l.map fun c => Value.int .u8 c.toNat).toArray ++ Array.replicate (grownCap w l.length 0 e - l.length) (.int .u8 0)) e (grownCap w l.length 0 e, grownCap w l.length 0 e + 1)) := by
      apply Array.ext_getElem?
      intro k
      rcases Nat.lt_trichotomy k w.heap.size with hk | rfl | hk
      · rw [Lib.bytesWorld_at_old w e _ k hk, Array.getElem?_push, if_neg (by omega)]
      · rw [Lib.bytesWorld_at_new, hbc, hcsz]; simp
      · rw [Array.getElem?_eq_none (by rw [Lib.bytesWorld_size]; omega), Array.getElem?_eq_none (by simp; omega)]
    obtain ⟨vW, vS⟩ := hW.push (w' := Lib.bytesWorld w e ⟨⟨l⟩⟩) (.byt e l) _ (grownCap w l.length 0 e, grownCap w l.length 0 e + 1) (grownCap w l.length 0 e)
      rfl rfl rfl hheap
      (by simp only [Row.len]; exact b1) (by simp only [Row.esz]; rw [hcsz]; omega) (fun k hk => by simp [Row.esz] at hk ⊢; omega) hel
    refine ⟨.value (.slice (some ⟨w.heap.size, 0, none⟩) l.length (grownCap w l.length 0 e)), _, _, _, ?_, rfl, ?_, vW, vS⟩
    · have hrun := Lib.run_convert_string_bytes (P := P) w s d e ⟨⟨l⟩⟩ hus hud hue
      simp only [Sem.run_bind, hrun, Result.andThen_ok, size_mk]
      rfl
    · simp only [Den]
      refine ⟨fun _ => by simp, ?_⟩
      simp only [Map.loc, Bool.false_eq_true, if_false, Map.setMu_same, SlDen]
      exact ⟨_, _, rfl, b1, b2, fun h => absurd h (by simp), fun _ => ⟨by simp, by simp⟩⟩

/-! ### One operation that may change memory -/
def evW (T : TypeId → Option TI) (R : Nat → RoRow) (h : Rows) (ev : Operand → AV) (o : Oper) : WQ :=
  match o.op with
  | .alloc e => match T e with | some te => newOne h e te.size te.zv | none => .no
  | .box e x => match T e with | some te => newOne h e te.size (ev x) | none => .no
  | .buildSlice t len parts => abuildSlice T h t len (parts.toList.map fun p => (p.1, ev p.2))
  | .makeSlice t l c => amakeSlice T h t (ev l) (ev c)
  | .store t p x => astore T h t (ev p) (ev x)
  | .convert s d x => match T s with | some _ => astrBytes T h d (ev x) | none => .no
  | .call { callee := .builtin .append, args, argTypes } => match argTypes.toList, args.toList with
    | t :: t2 :: _, s :: x :: _ => aappend T R h t t2 (ev s) (ev x)
    | _, _ => .no
  | .call { callee := .builtin .copy, args, argTypes } => match argTypes.toList, args.toList with
    | t :: _, s :: x :: _ => acopy T R h t (ev s) (ev x)
    | _, _ => .no
  | .call { callee := .builtin .clear, args, argTypes } => match argTypes.toList, args.toList with
    | t :: _, x :: _ => aclear T R h t (ev x)
    | _, _ => .no
  | _ => .no

set_option maxHeartbeats 1000000 in
theorem evW_ok {T : TypeId → Option TI} {P : Program} (hT : TabOK P T) {R : Nat → RoRow} {m : Map} {h : Rows} {w : World} (hW : WR R m h w) (ev : Operand → AV) (ρ : Operand → Value)
    (hev : ∀ x, Den m h.length (ev x) (ρ x)) (o : Oper) : (evW T R h ev o).run R m h P w (execOp ρ o) := by
  obtain ⟨dst, op, type, pos, after, guard⟩ := o
  cases op <;> try exact True.intro
  case alloc e =>
    simp only [evW]
    cases hte : T e with
    | none => trivial
    | some te =>
      obtain ⟨z, hzr, hzd⟩ := (hT _ _ hte).run_zero w
      refine newOne_ok hW e te.size te.zv z (hzd m h.length) _ ?_
      simp [execOp, Instr.alloc, hzr, newVar, newRow, newObj, pure, Sem.run]
  case box e x =>
    simp only [evW]
    cases hte : T e with
    | none => trivial
    | some te =>
      refine newOne_ok hW e te.size (ev x) (ρ x) (hev x) _ ?_
      simp [execOp, Instr.box, newVar, newRow, newObj, pure, Sem.run]
  case buildSlice t len parts =>
    refine abuildSlice_ok hT hW t len _ (parts.map fun (i, x) => (i, ρ x)) ?_ ?_
    · simp
    · have := DenL.map_op hev (parts.toList.map (·.2))
      simpa [Function.comp_def] using this
  case makeSlice t l c => exact amakeSlice_ok hT hW t _ _ _ _ (hev l) (hev c)
  case store t p x => exact astore_ok hT hW t _ _ _ _ (hev p) (hev x)
  case convert s d x =>
    simp only [evW]
    cases hts : T s with
    | none => trivial
    | some ts => exact astrBytes_ok hT hW s d ts hts _ _ (hev x)
  case call c =>
    obtain ⟨callee, args, argTypes⟩ := c
    cases callee <;> try exact True.intro
    rename_i b
    have two : ∀ (s x : Operand) (xs : List Operand), args.toList = s :: x :: xs → args.map ρ = (ρ s :: ρ x :: xs.map ρ).toArray := by
      intro s x xs ha
      rw [show args = (s :: x :: xs).toArray by rw [← ha]]; simp
    have one : ∀ (s : Operand) (xs : List Operand), args.toList = s :: xs → args.map ρ = (ρ s :: xs.map ρ).toArray := by
      intro s xs ha
      rw [show args = (s :: xs).toArray by rw [← ha]]; simp
    cases b <;> try exact True.intro
    case append =>
      simp only [evW]
      split
      · rename_i t t2 tts s x xs ht ha
        have hl := aappend_ok hT hW t t2 type tts _ _ _ _ (xs.map ρ) (hev s) (hev x)
        have e1 : argTypes = (t :: t2 :: tts).toArray := by rw [← ht]
        have e : execOp ρ ⟨dst, .call ⟨.builtin .append, args, argTypes⟩, type, pos, after, guard⟩ = (do pure (.value (← Builtin.append_ (t :: t2 :: tts).toArray type (ρ s :: ρ x :: xs.map ρ).toArray))) := by
          simp only [execOp, resolve, pure_bind, invoke, builtin]
          rw [e1, two s x xs ha]
        rw [e]; exact hl
      · trivial
    case copy =>
      simp only [evW]
      split
      · rename_i t tts s x xs ht ha
        have hl := acopy_ok hT hW t type tts _ _ _ _ (xs.map ρ) (hev s) (hev x)
        have e1 : argTypes = (t :: tts).toArray := by rw [← ht]
        have e : execOp ρ ⟨dst, .call ⟨.builtin .copy, args, argTypes⟩, type, pos, after, guard⟩ = (do pure (.value (← Builtin.copy_ (t :: tts).toArray type (ρ s :: ρ x :: xs.map ρ).toArray))) := by
          simp only [execOp, resolve, pure_bind, invoke, builtin]
          rw [e1, two s x xs ha]
        rw [e]; exact hl
      · trivial
    case clear =>
      simp only [evW]
      split
      · rename_i t tts x xs ht ha
        have hl := aclear_ok hT hW t type tts _ _ (xs.map ρ) (hev x)
        have e1 : argTypes = (t :: tts).toArray := by rw [← ht]
        have e : execOp ρ ⟨dst, .call ⟨.builtin .clear, args, argTypes⟩, type, pos, after, guard⟩ = (do pure (.value (← Builtin.clear_ (t :: tts).toArray type (ρ x :: xs.map ρ).toArray))) := by
          simp only [execOp, resolve, pure_bind, invoke, builtin]
          rw [e1, one x xs ha]
        rw [e]; exact hl
      · trivial

end Go.Dc
