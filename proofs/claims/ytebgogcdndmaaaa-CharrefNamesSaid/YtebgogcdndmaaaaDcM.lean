/- copy, clear, a text as bytes. -/
import Derived.Test.YtebgogcdndmaaaaDcL
set_option linter.unusedSimpArgs false
set_option linter.unusedVariables false
namespace Go.Dc

def Row.at_ : Row → Nat → AV
  | .lst _ _ l, j => l.getD j .any
  | .gen _ _ _ f, j => f j
  | .byt _ l, j => .int .u8 (l.getD j 0).toNat

theorem Row.get_iff {r : Row} {j : Nat} {e : AV} : r.get? j = some e ↔ j < r.len ∧ e = r.at_ j := by
  cases r with
  | lst t z l =>
    simp only [Row.get?, Row.len, Row.at_]
    constructor
    · intro h
      have hj := (List.getElem?_eq_some_iff.1 h).1
      exact ⟨hj, by simp [List.getD, h]⟩
    · rintro ⟨hj, rfl⟩
      simp [List.getD, List.getElem?_eq_getElem hj]
  | gen t z n f =>
    simp only [Row.get?, Row.len, Row.at_]
    cases hb : Nat.blt j n with
    | false => simp; intro h; rw [← Nat.blt_eq] at h; rw [h] at hb; exact absurd hb (by simp)
    | true => simp only [Nat.blt_eq] at hb; simp [hb, eq_comm]
  | byt t l =>
    simp only [Row.get?, Row.len, Row.at_]
    constructor
    · intro h
      obtain ⟨c, hc, rfl⟩ := Option.map_eq_some_iff.1 h
      exact ⟨(List.getElem?_eq_some_iff.1 hc).1, by simp [List.getD, hc]⟩
    · rintro ⟨hj, rfl⟩
      simp [List.getD, List.getElem?_eq_getElem hj]

def overlay (r : Row) (i n : Nat) (s : Src) : Row :=
  match r, s with
  | .lst ty z l, .lst x => .lst ty z (l.take i ++ (x.take n ++ l.drop (i + n)))
  | .byt ty l, .byt x => .byt ty (l.take i ++ (x.take n ++ l.drop (i + n)))
  | r, s => .gen r.ty r.esz r.len fun j => bif Nat.ble i j && Nat.blt j (i + n) then s.at_ (j - i) else r.at_ j

theorem overlay_ty (r : Row) (i n : Nat) (s : Src) : (overlay r i n s).ty = r.ty := by unfold overlay; split <;> rfl
theorem overlay_esz (r : Row) (i n : Nat) (s : Src) : (overlay r i n s).esz = r.esz := by unfold overlay; split <;> rfl
theorem overlay_len (r : Row) (i n : Nat) (s : Src) (h1 : i + n ≤ r.len) (h2 : n ≤ s.len) : (overlay r i n s).len = r.len := by
  unfold overlay
  split
  · simp only [Row.len, Src.len] at *; simp; omega
  · simp only [Row.len, Src.len] at *; simp; omega
  · rfl

theorem list_overlay {α : Type} (l x : List α) (i n j : Nat) (d : α) (h1 : i + n ≤ l.length) (h2 : n ≤ x.length) (hj : j < l.length) :
    (l.take i ++ (x.take n ++ l.drop (i + n))).getD j d = if i ≤ j ∧ j < i + n then x.getD (j - i) d else l.getD j d := by
  simp only [List.getD]
  congr 1
  by_cases h3 : j < i
  · rw [if_neg (by omega), List.getElem?_append_left (by simp; omega), List.getElem?_take_of_lt h3]
  · rw [List.getElem?_append_right (by simp; omega)]
    have e : (l.take i).length = i := by simp; omega
    rw [e]
    have e2 : (x.take n).length = n := by rw [List.length_take]; omega
    by_cases h4 : j < i + n
    · rw [if_pos (by omega), List.getElem?_append_left (by omega), List.getElem?_take_of_lt (by omega)]
    · rw [if_neg (by omega), List.getElem?_append_right (by omega), List.getElem?_drop, e2]
      have e3 : i + n + (j - i - n) = j := by omega
      rw [e3]

theorem overlay_get {r : Row} {i n : Nat} {s : Src} (h1 : i + n ≤ r.len) (h2 : n ≤ s.len) {j : Nat} {e : AV} (h : (overlay r i n s).get? j = some e) :
    j < r.len ∧ e = if i ≤ j ∧ j < i + n then s.at_ (j - i) else r.at_ j := by
  rw [Row.get_iff, overlay_len r i n s h1 h2] at h
  obtain ⟨hj, rfl⟩ := h
  refine ⟨hj, ?_⟩
  unfold overlay
  split
  · simp only [Row.at_, Src.at_, Row.len, Src.len] at *
    exact list_overlay _ _ _ _ _ _ h1 h2 hj
  · simp only [Row.at_, Src.at_, Row.len, Src.len] at *
    rw [list_overlay _ _ _ _ _ _ h1 h2 hj]
    split <;> rfl
  · simp only [Row.at_]
    by_cases hc : i ≤ j ∧ j < i + n
    · rw [if_pos hc]
      have : (Nat.ble i j && Nat.blt j (i + n)) = true := by simp [Nat.ble_eq, Nat.blt_eq, hc]
      rw [this]; rfl
    · rw [if_neg hc]
      have : (Nat.ble i j && Nat.blt j (i + n)) = false := by
        rw [Bool.eq_false_iff]
        intro hh
        simp only [Bool.and_eq_true, Nat.ble_eq, Nat.blt_eq] at hh
        exact hc hh
      rw [this]; rfl

/-- A row without a place is put for another one. -/
theorem WR.setVir {R : Nat → RoRow} {m : Map} {h : Rows} {w : World} (hW : WR R m h w) {b : Nat} {r : Row} (hl : h.live b = some r) (hv : (m.mu b).vir = true) (r' : Row) (he : r'.esz = r.esz) (h0 : r'.len = 0) :
    WR R m (h.set b (some r')) w ∧ Step m h w m (h.set b (some r')) w := by
  have hb := live_lt hl
  have hlive : ∀ c r1, Rows.live (h.set b (some r')) c = some r1 → (c = b ∧ r1 = r') ∨ (c ≠ b ∧ h.live c = some r1) := by
    intro c r1 hc
    rw [live_set hb] at hc
    split at hc
    · rename_i e; simp at hc; exact .inl ⟨e, hc.symm⟩
    · rename_i e; exact .inr ⟨e, hc⟩
  refine ⟨{ row := ?_, apart := ?_, ro := hW.ro, roApart := ?_ }, { os := rfl, tape := rfl, output := rfl, size := Nat.le_refl _, block := fun _ _ _ => rfl, len := by simp, mu := fun _ _ => rfl, ro := rfl, new := ?_ }⟩
  · intro d r1 hd
    rw [List.length_set]
    rcases hlive d r1 hd with ⟨rfl, rfl⟩ | ⟨hne, hl'⟩
    · have hrow := hW.row d r hl
      unfold RowOK at hrow ⊢
      rw [hv] at hrow ⊢
      simp only [if_true] at hrow ⊢
      exact ⟨by rw [he]; exact hrow.1, by omega, h0, hrow.2.2.2⟩
    · exact hW.row d r1 hl'
  · intro d d' r1 r2 hd hd' hv1 hv2 hbe
    rcases hlive d r1 hd with ⟨rfl, rfl⟩ | ⟨hne, hl'⟩
    · rw [hv] at hv1; exact absurd hv1 (by simp)
    · rcases hlive d' r2 hd' with ⟨rfl, rfl⟩ | ⟨hne', hl''⟩
      · rw [hv] at hv2; exact absurd hv2 (by simp)
      · exact hW.apart _ _ _ _ hl' hl'' hv1 hv2 hbe
  · intro i d r1 hd hv1 hv2 hn
    rcases hlive d r1 hd with ⟨rfl, rfl⟩ | ⟨hne, hl'⟩
    · rw [hv] at hv1; exact absurd hv1 (by simp)
    · exact hW.roApart i _ _ hl' hv1 hv2 hn
  · intro d r1 hd hv1
    rcases hlive d r1 hd with ⟨rfl, rfl⟩ | ⟨hne, hl'⟩
    · rw [hv] at hv1; exact absurd hv1 (by simp)
    · exact .inr ⟨d, r1, hl', hv1, rfl⟩

/-- Stores of a source's elements over a part of a row. -/
theorem WR.overlay {P : Program} {R : Nat → RoRow} {m : Map} {h : Rows} {w : World} (hW : WR R m h w) {b : Nat} {r : Row} (hl : h.live b = some r) (i n : Nat) (s : Src) (h1 : i + n ≤ r.len) (h2 : n ≤ s.len) {news : List Value}
    (hn : news.length = n * (m.mu b).esz) (hs : ∀ j, j < n → (s.at_ j).cells.length = (m.mu b).esz ∧ ∀ (o : Nat) (a : AV), (s.at_ j).cells[o]? = some a → a.one = true ∧ ∃ v, news[j * (m.mu b).esz + o]? = some v ∧ Den m h.length a v) (hone : ∀ v ∈ news, v.oneCell' = true)
    (base : Option Addr) (hbase : (m.mu b).vir = false → 0 < n → base = some ⟨(m.mu b).blk, (m.mu b).shift + i * (m.mu b).esz, none⟩) :
    ∃ w', (match base with | some a => (storeCells a news).run P w | none => .ok () w) = .ok () w' ∧ WR R m (h.set b (some (Dc.overlay r i n s))) w' ∧ Step m h w m (h.set b (some (Dc.overlay r i n s))) w' := by
  have hempty : n = 0 → (match base with | some a => (storeCells a news).run P w | none => .ok () w) = .ok () w := by
    intro h0
    have : news = [] := by
      have : news.length = 0 := by rw [hn, h0]; simp
      exact List.length_eq_zero_iff.1 this
    subst this
    cases base <;> simp [storeCells, pure, Sem.run]
  cases hv : (m.mu b).vir with
  | true =>
    have hrow := hW.row b r hl
    unfold RowOK at hrow
    rw [hv] at hrow
    simp only [if_true] at hrow
    have h0 : n = 0 := by omega
    obtain ⟨a1, a2⟩ := hW.setVir hl hv (Dc.overlay r i n s) (overlay_esz _ _ _ _) (by rw [overlay_len _ _ _ _ h1 h2]; omega)
    exact ⟨w, hempty h0, a1, a2⟩
  | false =>
    obtain ⟨c, fz, g1, g2, g3, g4⟩ := (hW.row b r hl).els hv
    have hesz := (hW.row b r hl).1
    have hlen := (hW.row b r hl).2.1
    have hm1 : (i + n) * (m.mu b).esz ≤ (m.mu b).ext * (m.mu b).esz := Nat.mul_le_mul_right _ (by omega)
    rw [Nat.add_mul] at hm1
    -- the world behind
    obtain ⟨w', hst, hov⟩ : ∃ w', (match base with | some a => (storeCells a news).run P w | none => .ok () w) = .ok () w' ∧ Over w w' (m.mu b).blk ((m.mu b).shift + i * (m.mu b).esz) news := by
      by_cases h0 : n = 0
      · have hne : news = [] := by
          have : news.length = 0 := by rw [hn, h0]; simp
          exact List.length_eq_zero_iff.1 this
        refine ⟨w, hempty h0, rfl, rfl, rfl, rfl, fun _ _ => rfl, fun c t fz hc => ⟨c, hc, rfl, fun k => ?_⟩⟩
        rw [if_neg (by rw [hne]; simp <;> omega)]
      · rw [hbase hv (by omega)]
        have haddr : ∀ j, (⟨(m.mu b).blk, (m.mu b).shift + i * (m.mu b).esz, none⟩ : Addr).add j = ⟨(m.mu b).blk, (m.mu b).shift + i * (m.mu b).esz + j, none⟩ := by
          intro j
          unfold Addr.add
          split
          · rename_i h0; subst h0; rfl
          · rfl
        exact run_storeCells_over (P := P) (m.mu b).blk r.ty fz _ news 0 _ c w g1 (by rw [haddr]; simp) (fun j => by rw [haddr]; simp) (by rw [hn]; omega) (fun k q1 q2 => g3 k (by omega) (by rw [hn] at q2; omega)) hone
    obtain ⟨c', p1, p2, p3⟩ := hov.blk _ _ _ g1
    obtain ⟨mW, mS⟩ := hW.update hl hv (Dc.overlay r i n s) c' fz hov.os hov.tape hov.output hov.size hov.other (by rw [p1, overlay_ty]) (by rw [overlay_esz, hesz]) (by rw [overlay_len _ _ _ _ h1 h2]; exact hlen) (by omega) g3 (by
      intro j e he
      obtain ⟨hj, rfl⟩ := overlay_get h1 h2 he
      split
      · rename_i hc
        obtain ⟨a1, a2⟩ := hs (j - i) (by omega)
        refine ⟨a1, fun o a ha => ?_⟩
        obtain ⟨b1, v, b2, b3⟩ := a2 o a ha
        have ho : o < (m.mu b).esz := by have := (List.getElem?_eq_some_iff.1 ha).1; omega
        have hmul : j * (m.mu b).esz = i * (m.mu b).esz + (j - i) * (m.mu b).esz := by rw [← Nat.add_mul]; congr 1; omega
        have hlt : (j - i) * (m.mu b).esz + o < news.length := (List.getElem?_eq_some_iff.1 b2).1
        refine ⟨b1, v, ?_, b3⟩
        show c'[(m.mu b).shift + (j * (m.mu b).esz + o)]? = some v
        rw [p3, if_pos (by omega), ← b2]
        congr 1; omega
      · rename_i hc
        obtain ⟨a1, a2⟩ := g4 j (r.at_ j) (Row.get_iff.2 ⟨hj, rfl⟩)
        refine ⟨a1, fun o a ha => ?_⟩
        obtain ⟨b1, v, b2, b3⟩ := a2 o a ha
        have ho : o < (m.mu b).esz := by have := (List.getElem?_eq_some_iff.1 ha).1; omega
        refine ⟨b1, v, ?_, b3⟩
        show c'[(m.mu b).shift + (j * (m.mu b).esz + o)]? = some v
        rw [p3, if_neg ?_]
        · exact b2
        · rw [hn]
          rcases Nat.lt_or_ge j i with hlt | hge
          · have : (j + 1) * (m.mu b).esz ≤ i * (m.mu b).esz := Nat.mul_le_mul_right _ hlt
            rw [Nat.add_mul] at this; omega
          · have : (i + n) * (m.mu b).esz ≤ j * (m.mu b).esz := Nat.mul_le_mul_right _ (by omega)
            rw [Nat.add_mul] at this; omega)
    exact ⟨w', hst, mW, mS⟩

end Go.Dc
