/- The makers of memory, the store, copy, clear. -/
import Derived.Test.YtebgogcdndmaaaaDcJ
set_option linter.unusedSimpArgs false
set_option linter.unusedVariables false
namespace Go.Dc

def okCells (v : AV) (size : Nat) : Bool := v.known && (Nat.beq v.cells.length size && v.cells.all AV.one)

theorem okCells_spec {v : AV} {size : Nat} (h : okCells v size = true) {m : Map} {n : Nat} {u : Value} (hd : Den m n v u) :
    u.cells.size = size ∧ DenL m n v.cells u.cells.toList ∧ v.cells.length = size ∧ (∀ (o : Nat) (a : AV), v.cells[o]? = some a → a.one = true ∧ ∃ x, u.cells[o]? = some x ∧ Den m n a x) ∧ ∀ x ∈ u.cells.toList, x.oneCell' = true := by
  simp only [okCells, Bool.and_eq_true] at h
  obtain ⟨h1, h2, h3⟩ := h
  have hk : v ≠ .any := by intro e; rw [e] at h1; simp [AV.known] at h1
  have hc := hd.cells hk
  have hl := hc.length
  have h2' := Nat.eq_of_beq_eq_true h2
  have hall : ∀ (o : Nat) (a : AV), v.cells[o]? = some a → a.one = true ∧ ∃ x, u.cells[o]? = some x ∧ Den m n a x := by
    intro o a ha
    obtain ⟨x, hx, hdx⟩ := hc.get ha
    exact ⟨List.all_eq_true.1 h3 a (List.mem_of_getElem? ha), x, by simpa using hx, hdx⟩
  refine ⟨by simp at hl; omega, hc, h2', hall, fun x hx => ?_⟩
  obtain ⟨o, ho, rfl⟩ := List.getElem_of_mem hx
  have hlt : o < v.cells.length := by rw [hl]; exact ho
  obtain ⟨g1, y, g2, g3⟩ := hall o _ (List.getElem?_eq_getElem hlt)
  have : u.cells.toList[o] = y := by
    have hx2 : u.cells.toList[o]? = some y := by simpa using g2
    rw [List.getElem?_eq_getElem ho] at hx2
    exact Option.some.inj hx2
  rw [this]
  exact g3.oneCell g1

theorem box_els {v : AV} {size : Nat} (h : okCells v size = true) {m : Map} {n : Nat} {u : Value} (hd : Den m n v u) (ty : Nat) : ElsOK m n (.lst ty size [v]) size (fun k => u.cells[k]?) := by
  obtain ⟨h1, h2, h3, h4, h5⟩ := okCells_spec h hd
  intro i e he
  cases i with
  | succ i => simp [Row.get?] at he
  | zero =>
    simp [Row.get?] at he
    subst he
    exact ⟨h3, fun o a ha => by simpa using h4 o a ha⟩

def newOne (h : Rows) (elem : TypeId) (size : Nat) (v : AV) : WQ :=
  if okCells v size then .ok true (.ptr false h.length 0 0) (h ++ [some (.lst elem size [v])]) else .no

theorem newOne_ok {P : Program} {R : Nat → RoRow} {m : Map} {h : Rows} {w : World} (hW : WR R m h w) (elem : TypeId) (size : Nat) (v : AV) (u : Value) (hd : Den m h.length v u) (s : Sem Next)
    (hs : s.run P w = .ok (.value (.pointer (some ⟨w.heap.size, 0, none⟩))) (w.alloc (.cells u.cells elem))) : (newOne h elem size v).run R m h P w s := by
  unfold newOne
  split
  · rename_i hc
    intro _
    obtain ⟨h1, h2, h3, h4, h5⟩ := okCells_spec hc hd
    obtain ⟨vW, vS⟩ := hW.push (w' := w.alloc (.cells u.cells elem)) (.lst elem size [v]) u.cells (0, 0) 1 rfl rfl rfl rfl (by simp [Row.len]) (by simp [Row.esz, h1]) (by simp) (box_els hc hd elem)
    refine ⟨_, _, _, _, hs, rfl, ?_, vW, vS⟩
    simp only [Den]
    refine ⟨fun _ => by simp, ?_, ?_⟩
    · simp only [Map.loc, Bool.false_eq_true, if_false, Map.setMu_same]
    · simp only [Map.loc, Bool.false_eq_true, if_false, Map.setMu_same]; simp
  · trivial

/-! ### The store -/
def mkEl (e : AV) (cs : List AV) : AV :=
  match e with
  | .agg _ => .agg cs
  | _ => cs.headD .any

def Row.put (r : Row) (i o : Nat) (x : AV) : WQ :=   -- the rows: this row alone
  match r with
  | .lst ty z els => match els[i]? with
    | some e => if Nat.ble (o + x.cells.length) e.cells.length then .ok true .undef [some (.lst ty z (els.set i (mkEl e (putAt e.cells o x.cells))))] else .no
    | none => .no
  | .gen ty z n f => if Nat.ble (o + x.cells.length) (f i).cells.length then .ok (decide (i < n)) .undef [some (.gen ty z n fun j => bif Nat.beq j i then mkEl (f i) (putAt (f i).cells o x.cells) else f j)] else .no
  | .byt ty l => match x, o with
    | .int .u8 n, 0 => .ok (decide (i < l.length) && (decide (0 ≤ n) && decide (n ≤ 255))) .undef [some (.byt ty (l.set i (UInt8.ofNat n.toNat)))]
    | _, _ => .no

def astore (T : TypeId → Option TI) (h : Rows) (t : TypeId) (p x : AV) : WQ :=
  match T t, p with
  | some ti, .ptr false b i o => if okCells x ti.size then
      match h.live b with
      | some r => match r.put i o x with
        | .ok c v [r'] => .ok c v (h.set b r')
        | _ => .no
      | none => .no
    else .no
  | _, _ => .no

theorem mkEl_cells {e : AV} {cs : List AV} (hl : cs.length = e.cells.length) (h1 : ∀ a : AV, a ∈ cs → a.one = true) (he : ∀ (o : Nat) (a : AV), e.cells[o]? = some a → a.one = true) : (mkEl e cs).cells = cs := by
  cases e
  case agg c => rfl
  all_goals
    simp only [AV.cells, List.length_cons, List.length_nil, Nat.zero_add] at hl
    match cs, hl with
    | [a], _ =>
      have := h1 a (by simp)
      simp only [mkEl, List.headD]
      cases a <;> simp [AV.one] at this <;> rfl

theorem put_els {m : Map} {n : Nat} {r : Row} {esz : Nat} {c c' : Nat → Option Value} (hr : ElsOK m n r esz c) (hrz : r.esz = esz) {i o : Nat} {x : AV} {size : Nat} (hx : okCells x size = true) {u : Value} (hd : Den m n x u) {cc : Bool} {v : AV} {r' : Option Row}
    (hp : r.put i o x = .ok cc v [r']) (hc : cc = true)
    (hnew : ∀ k, i * esz + o ≤ k → k < i * esz + o + size → c' k = u.cells[k - (i * esz + o)]?) (hold : ∀ k, k < i * esz + o ∨ i * esz + o + size ≤ k → c' k = c k) :
    ∃ r2, r' = some r2 ∧ r2.ty = r.ty ∧ r2.esz = r.esz ∧ r2.len = r.len ∧ i < r.len ∧ o + size ≤ esz ∧ v = .undef ∧ ElsOK m n r2 esz c' := by
  obtain ⟨h1, h2, h3, h4, h5⟩ := okCells_spec hx hd
  -- one element that is changed
  have key : ∀ e, r.get? i = some e → o + x.cells.length ≤ e.cells.length → e.cells.length = esz ∧ (mkEl e (putAt e.cells o x.cells)).cells = putAt e.cells o x.cells ∧
      ∀ (o' : Nat) (a : AV), (putAt e.cells o x.cells)[o']? = some a → a.one = true ∧ ∃ y, c' (i * esz + o') = some y ∧ Den m n a y := by
    intro e he hle
    obtain ⟨g1, g2⟩ := hr i e he
    have gall : ∀ (o' : Nat) (a : AV), (putAt e.cells o x.cells)[o']? = some a → a.one = true ∧ ∃ y, c' (i * esz + o') = some y ∧ Den m n a y := by
      intro o' a ha
      rw [putAt_get hle] at ha
      split at ha
      · rename_i hh
        obtain ⟨q1, y, q2, q3⟩ := h4 _ _ ha
        refine ⟨q1, y, ?_, q3⟩
        rw [hnew _ (by omega) (by omega), ← q2]
        congr 1; omega
      · rename_i hh
        obtain ⟨q1, y, q2, q3⟩ := g2 _ _ ha
        exact ⟨q1, y, by rw [hold _ (by omega)]; exact q2, q3⟩
    refine ⟨g1, mkEl_cells (putAt_length hle) (fun a ha => ?_) (fun o a ha => (g2 o a ha).1), gall⟩
    obtain ⟨k, hk, rfl⟩ := List.getElem_of_mem ha
    exact (gall k _ (List.getElem?_eq_getElem hk)).1
  -- the other elements
  have other : ∀ j e, j ≠ i → o + size ≤ esz → r.get? j = some e → e.cells.length = esz ∧ ∀ (o' : Nat) (a : AV), e.cells[o']? = some a → a.one = true ∧ ∃ y, c' (j * esz + o') = some y ∧ Den m n a y := by
    intro j e hj hle he
    obtain ⟨g1, g2⟩ := hr j e he
    refine ⟨g1, fun o' a ha => ?_⟩
    obtain ⟨q1, y, q2, q3⟩ := g2 o' a ha
    have ho' : o' < esz := by
      have := (List.getElem?_eq_some_iff.1 ha).1
      rw [g1] at this; exact this
    refine ⟨q1, y, ?_, q3⟩
    rw [hold _ ?_]; exact q2
    rcases Nat.lt_or_gt_of_ne hj with hlt | hgt
    · have : (j + 1) * esz ≤ i * esz := Nat.mul_le_mul_right _ hlt
      rw [Nat.add_mul] at this; omega
    · have : (i + 1) * esz ≤ j * esz := Nat.mul_le_mul_right _ hgt
      rw [Nat.add_mul] at this; omega
  cases r with
  | lst ty z els =>
    simp only [Row.put] at hp
    cases he : els[i]? with
    | none => rw [he] at hp; simp at hp
    | some e =>
      rw [he] at hp
      simp only [] at hp
      split at hp
      · rename_i hle
        simp only [WQ.ok.injEq, List.cons.injEq, and_true] at hp
        obtain ⟨rfl, rfl, rfl⟩ := hp
        have hle' : o + x.cells.length ≤ e.cells.length := by simpa using hle
        have hi : i < els.length := (List.getElem?_eq_some_iff.1 he).1
        obtain ⟨g1, g2, g3⟩ := key e he hle'
        refine ⟨_, rfl, rfl, rfl, by simp [Row.len], hi, by omega, rfl, ?_⟩
        intro j e' he'
        simp only [Row.get?] at he'
        by_cases hj : j = i
        · subst hj
          rw [List.getElem?_set_self hi] at he'
          cases he'
          rw [g2]
          exact ⟨by rw [putAt_length hle', g1], g3⟩
        · rw [List.getElem?_set_ne (by omega)] at he'
          exact other j e' hj (by omega) he'
      · simp at hp
  | gen ty z nn f =>
    simp only [Row.put] at hp
    split at hp
    · rename_i hle
      simp only [WQ.ok.injEq, List.cons.injEq, and_true] at hp
      obtain ⟨rfl, rfl, rfl⟩ := hp
      have hi : i < nn := by simpa using hc
      have hle' : o + x.cells.length ≤ (f i).cells.length := by simpa using hle
      obtain ⟨g1, g2, g3⟩ := key (f i) (Row.get_gen hi) hle'
      refine ⟨_, rfl, rfl, rfl, rfl, hi, by omega, rfl, ?_⟩
      intro j e' he'
      simp only [Row.get?] at he'
      cases hb : Nat.blt j nn with
      | false => rw [hb] at he'; simp at he'
      | true =>
        rw [hb] at he'
        simp only [cond_true, Option.some.injEq] at he'
        subst he'
        by_cases hj : j = i
        · subst hj
          simp only [Nat.beq_refl, cond_true]
          rw [g2]
          exact ⟨by rw [putAt_length hle', g1], g3⟩
        · have : Nat.beq j i = false := by rw [Bool.eq_false_iff]; exact fun e => hj (Nat.eq_of_beq_eq_true e)
          rw [this]
          exact other j _ hj (by omega) (Row.get_gen (by simpa [Nat.blt_eq] using hb))
    · simp at hp
  | byt ty l =>
    simp only [Row.put] at hp
    split at hp
    · rename_i nn
      simp only [WQ.ok.injEq, List.cons.injEq, and_true] at hp
      obtain ⟨rfl, rfl, rfl⟩ := hp
      simp only [Bool.and_eq_true, decide_eq_true_eq] at hc
      obtain ⟨hi, hn0, hn1⟩ := hc
      have hs1 : size = 1 := by rw [← h3]; rfl
      simp only [Row.esz] at hrz
      subst hrz
      refine ⟨_, rfl, rfl, rfl, by simp [Row.len], hi, by omega, rfl, ?_⟩
      intro j e' he'
      simp only [Row.get?] at he'
      by_cases hj : j = i
      · subst hj
        rw [List.getElem?_set_self hi] at he'
        simp only [Option.map_some, Option.some.injEq] at he'
        subst he'
        refine ⟨rfl, fun o' a ha => ?_⟩
        simp only [AV.cells] at ha
        cases o' with
        | succ o' => simp at ha
        | zero =>
          simp only [List.getElem?_cons_zero, Option.some.injEq] at ha
          subst ha
          obtain ⟨q1, y, q2, q3⟩ := h4 0 _ rfl
          refine ⟨rfl, y, ?_, ?_⟩
          · rw [hnew _ (by omega) (by omega), ← q2]; congr 1; omega
          · have : ((UInt8.ofNat nn.toNat).toNat : Int) = nn := by
              simp only [UInt8.toNat_ofNat']
              rw [Nat.mod_eq_of_lt (by omega)]; omega
            rw [this]; exact q3
      · rw [List.getElem?_set_ne (by omega)] at he'
        exact other j e' hj (by omega) he'
    · simp at hp

theorem astore_ok {T : TypeId → Option TI} {P : Program} (hT : TabOK P T) {R : Nat → RoRow} {m : Map} {h : Rows} {w : World} (hW : WR R m h w) (t : TypeId) (p x : AV) (up u : Value)
    (hp : Den m h.length p up) (hx : Den m h.length x u) : (astore T h t p x).run R m h P w (do Instr.storeAt t up u; pure .skip) := by
  unfold astore
  split
  case h_2 => trivial
  rename_i ti b i o hti
  split
  case isFalse => trivial
  rename_i hok
  cases hl : h.live b with
  | none => trivial
  | some r =>
    simp only []
    split
    case h_2 => trivial
    rename_i c v r' hput
    intro hc
    simp only [Den] at hp
    obtain ⟨hb, hvir, rfl⟩ := hp
    simp only [Map.loc, Bool.false_eq_true, if_false] at hvir ⊢
    obtain ⟨h1, h2, h3, h4, h5⟩ := okCells_spec hok hx
    obtain ⟨cc, fz, g1, g2, g3, g4⟩ := (hW.row b r hl).els hvir
    have hesz := (hW.row b r hl).1
    have hlen := (hW.row b r hl).2.1
    -- what the put says of its places, told of any cells
    have hput' := fun c' hn ho => put_els (c' := c') g4 hesz.symm hok hx hput hc hn ho
    have hplace : i < r.len ∧ o + ti.size ≤ (m.mu b).esz := by
      obtain ⟨r2, _, _, _, _, a1, a2, _, _⟩ := hput' (fun k => if i * (m.mu b).esz + o ≤ k ∧ k < i * (m.mu b).esz + o + ti.size then u.cells[k - (i * (m.mu b).esz + o)]? else cc[(m.mu b).shift + k]?)
        (fun k q1 q2 => by rw [if_pos ⟨q1, q2⟩]) (fun k q => by rw [if_neg (by omega)])
      exact ⟨a1, a2⟩
    obtain ⟨hi, hoz⟩ := hplace
    have hm1 : (i + 1) * (m.mu b).esz ≤ (m.mu b).ext * (m.mu b).esz := Nat.mul_le_mul_right _ (by omega)
    rw [Nat.add_mul] at hm1
    have haddr : ∀ j, (⟨(m.mu b).blk, (m.mu b).shift + (i * (m.mu b).esz + o), none⟩ : Addr).add j = ⟨(m.mu b).blk, (m.mu b).shift + (i * (m.mu b).esz + o) + j, none⟩ := by
      intro j
      unfold Addr.add
      split
      · rename_i h0; subst h0; rfl
      · rfl
    obtain ⟨w', hst, hov⟩ := run_storeCells_over (P := P) (m.mu b).blk r.ty fz ⟨(m.mu b).blk, (m.mu b).shift + (i * (m.mu b).esz + o), none⟩ u.cells.toList 0 ((m.mu b).shift + (i * (m.mu b).esz + o)) cc w g1 (by rw [haddr]; simp) (fun j => by rw [haddr]; simp)
      (by simp; omega) (fun k q1 q2 => g3 k (by omega) (by simp at q2; omega)) h5
    obtain ⟨c', p1, p2, p3⟩ := hov.blk _ _ _ g1
    obtain ⟨r2, rfl, e1, e2, e3, e4, e5, rfl, e7⟩ := hput' (fun k => c'[(m.mu b).shift + k]?)
      (fun k q1 q2 => by
        show c'[(m.mu b).shift + k]? = _
        rw [p3, if_pos (by simp; omega), Array.getElem?_toList]
        congr 1; omega)
      (fun k q => by
        show c'[(m.mu b).shift + k]? = _
        rw [p3, if_neg (by simp; omega)])
    obtain ⟨mW, mS⟩ := hW.update hl hvir r2 c' fz hov.os hov.tape hov.output hov.size hov.other (by rw [p1, e1]) (by rw [e2, hesz]) (by omega) (by omega) g3 e7
    refine ⟨.skip, undef, w', m, ?_, rfl, by simp [Den, DenL, undef], mW, mS⟩
    simp only [Sem.run_bind, Instr.storeAt, Instr.sureAddr, Sem.run_pure, Result.andThen_ok, storeVar, (hT _ _ hti).run_sizeOf w]
    rw [if_neg (by rw [h1]; simp)]
    rw [hst]; rfl

end Go.Dc
