/- Functions that only read: shown with what they read as memory that came in, used wherever that lies. -/
import Derived.Test.YtlhplhncdljicaaDcZe
import Derived.Test.YtlhplhncdljicaaDcYi
section
set_option linter.unusedSimpArgs false
set_option linter.unusedVariables false
namespace Go.Dc

/-- A value without places. -/
def flat1 : AV → Bool
  | .bool _ | .int _ _ | .str _ | .nilp | .nils | .nilf | .nili => true
  | _ => false
def flat : AV → Bool
  | .agg cs => cs.all flat1
  | .tup cs => cs.all flat1
  | v => flat1 v

theorem flat1_den {m m' : Map} {n n' : Nat} : ∀ {x : AV} {v : Value}, flat1 x = true → Den m n x v → Den m' n' x v := by
  intro x v h hd
  cases x <;> simp [flat1] at h <;> simpa [Den] using hd

theorem flatL_den {m m' : Map} {n n' : Nat} : ∀ {l : List AV} {vs : List Value}, l.all flat1 = true → DenL m n l vs → DenL m' n' l vs
  | [], vs, _, hd => by simpa [DenL] using hd
  | x :: l, vs, h, hd => by
    simp only [List.all_cons, Bool.and_eq_true] at h
    simp only [DenL] at hd ⊢
    obtain ⟨v, vs', rfl, h1, h2⟩ := hd
    exact ⟨v, vs', rfl, flat1_den h.1 h1, flatL_den h.2 h2⟩

theorem flat_den {m m' : Map} {n n' : Nat} {x : AV} {v : Value} (h : flat x = true) (hd : Den m n x v) : Den m' n' x v := by
  cases x
  case agg cs =>
    simp only [flat] at h
    simp only [Den] at hd ⊢
    obtain ⟨vs, e, hd⟩ := hd
    exact ⟨vs, e, flatL_den h hd⟩
  case tup cs =>
    simp only [flat] at h
    simp only [Den] at hd ⊢
    obtain ⟨vs, e, hd⟩ := hd
    exact ⟨vs, e, flatL_den h hd⟩
  all_goals exact flat1_den (by simpa [flat] using h) hd

def All2 {α β : Type} (r : α → β → Prop) : List α → List β → Prop
  | [], [] => True
  | a :: as, b :: bs => r a b ∧ All2 r as bs
  | _, _ => False

/-- A value of one cell, its places told as memory that is only read. -/
def RoVw1 (f : Nat → Option Nat) : AV → AV → Prop
  | .ptr false b i o, y => ∃ c, f b = some c ∧ y = .ptr true c i o
  | .sl false b i len _, y => ∃ c, f b = some c ∧ y = .sl true c i len .no
  | .any, y => y = .any
  | x, y => flat1 x = true ∧ y = x
def RoVw (f : Nat → Option Nat) (x y : AV) : Prop := match x with
  | .agg cs => ∃ ds, y = .agg ds ∧ All2 (RoVw1 f) cs ds
  | x => RoVw1 f x y

theorem RoVw1.den {m m2 : Map} {n : Nat} {f : Nat → Option Nat} (hf : ∀ b c, f b = some c → m2.ro c = m.mu b) {x y : AV} {v : Value} (h : RoVw1 f x y) (hd : Den m n x v) : Den m2 0 y v := by
  cases x
  case ptr ro b i o =>
    cases ro with
    | true => simp [RoVw1, flat1] at h
    | false =>
      obtain ⟨c, hc, rfl⟩ := h
      simp only [Den, Map.loc, if_true, Bool.false_eq_true, if_false] at hd ⊢
      rw [hf b c hc]
      exact ⟨by simp, hd.2⟩
  case sl ro b i len u =>
    cases ro with
    | true => simp [RoVw1, flat1] at h
    | false =>
      obtain ⟨c, hc, rfl⟩ := h
      simp only [Den, Map.loc, if_true, Bool.false_eq_true, if_false] at hd ⊢
      rw [hf b c hc]
      refine ⟨by simp, ?_⟩
      have h2 := hd.2
      unfold SlDen at h2 ⊢
      split
      · rename_i hv; rw [if_pos hv] at h2; obtain ⟨h1, ao, h3, _⟩ := h2; exact ⟨h1, ao, h3, trivial⟩
      · rename_i hv; rw [if_neg hv] at h2; obtain ⟨a, cap, h1, h3, h4, _, h6⟩ := h2; exact ⟨a, cap, h1, h3, h4, trivial, h6⟩
  case any => simp only [RoVw1] at h; subst h; simp [Den]
  all_goals
    simp only [RoVw1] at h
    obtain ⟨h1, rfl⟩ := h
    exact flat1_den h1 hd

theorem RoVwL.den {m m2 : Map} {n : Nat} {f : Nat → Option Nat} (hf : ∀ b c, f b = some c → m2.ro c = m.mu b) : ∀ {xs ys : List AV} {vs : List Value}, All2 (RoVw1 f) xs ys → DenL m n xs vs → DenL m2 0 ys vs
  | [], [], vs, _, hd => by simpa [DenL] using hd
  | [], _ :: _, vs, h, _ => h.elim
  | _ :: _, [], vs, h, _ => h.elim
  | x :: xs, y :: ys, vs, h, hd => by
    simp only [DenL] at hd ⊢
    obtain ⟨v, vs', rfl, d1, d2⟩ := hd
    exact ⟨v, vs', rfl, h.1.den hf d1, RoVwL.den hf h.2 d2⟩

theorem RoVw.to1 {f : Nat → Option Nat} {x y : AV} (hn : ∀ cs, x ≠ .agg cs) (h : RoVw f x y) : RoVw1 f x y := by
  unfold RoVw at h
  split at h
  · exact absurd rfl (hn _)
  · exact h

theorem RoVw.den {m m2 : Map} {n : Nat} {f : Nat → Option Nat} (hf : ∀ b c, f b = some c → m2.ro c = m.mu b) {x y : AV} {v : Value} (h : RoVw f x y) (hd : Den m n x v) : Den m2 0 y v := by
  cases x
  case agg cs =>
    obtain ⟨ds, rfl, h⟩ := h
    simp only [Den] at hd ⊢
    obtain ⟨vs, e, hd⟩ := hd
    exact ⟨vs, e, RoVwL.den hf h hd⟩
  all_goals exact RoVw1.den hf (RoVw.to1 (fun _ e => by cases e) h) hd

theorem RoVwA.den {m m2 : Map} {n : Nat} {f : Nat → Option Nat} (hf : ∀ b c, f b = some c → m2.ro c = m.mu b) : ∀ {xs ys : List AV} {vs : List Value}, All2 (RoVw f) xs ys → DenL m n xs vs → DenL m2 0 ys vs
  | [], [], vs, _, hd => by simpa [DenL] using hd
  | [], _ :: _, vs, h, _ => h.elim
  | _ :: _, [], vs, h, _ => h.elim
  | x :: xs, y :: ys, vs, h, hd => by
    simp only [DenL] at hd ⊢
    obtain ⟨v, vs', rfl, d1, d2⟩ := hd
    exact ⟨v, vs', rfl, h.1.den hf d1, RoVwA.den hf h.2 d2⟩

theorem RoVw1.one {f : Nat → Option Nat} {x y : AV} (h : RoVw1 f x y) (hx : x.one = true) : y.one = true := by
  cases x
  case ptr ro b i o =>
    cases ro with
    | true => simp [RoVw1, flat1] at h
    | false => obtain ⟨c, _, rfl⟩ := h; rfl
  case sl ro b i len u =>
    cases ro with
    | true => simp [RoVw1, flat1] at h
    | false => obtain ⟨c, _, rfl⟩ := h; rfl
  case any => simp [AV.one] at hx
  all_goals
    simp only [RoVw1] at h
    obtain ⟨_, rfl⟩ := h
    exact hx

theorem RoVw1.cells {f : Nat → Option Nat} {x y : AV} (h : RoVw1 f x y) (hx : x.one = true) : x.cells = [x] ∧ y.cells = [y] := by
  have hy := h.one hx
  constructor
  · cases x <;> simp [AV.one] at hx <;> rfl
  · cases y <;> simp [AV.one] at hy <;> rfl

theorem forall2_get {α β : Type} {r : α → β → Prop} : ∀ {xs : List α} {ys : List β}, All2 r xs ys → ∀ {o : Nat} {b : β}, ys[o]? = some b → ∃ a, xs[o]? = some a ∧ r a b
  | [], [], _, o, b, hb => by simp at hb
  | [], _ :: _, h, _, _, _ => h.elim
  | _ :: _, [], h, _, _, _ => h.elim
  | x :: _, y :: _, h, 0, b, hb => by
    simp only [List.getElem?_cons_zero, Option.some.injEq] at hb
    subst hb
    exact ⟨x, by simp, h.1⟩
  | _ :: _, _ :: _, h, o + 1, b, hb => by
    simp only [List.getElem?_cons_succ] at hb
    obtain ⟨a, ha, hr⟩ := forall2_get h.2 hb
    exact ⟨a, by simpa using ha, hr⟩

theorem forall2_len {α β : Type} {r : α → β → Prop} : ∀ {xs : List α} {ys : List β}, All2 r xs ys → xs.length = ys.length
  | [], [], _ => rfl
  | [], _ :: _, h => h.elim
  | _ :: _, [], h => h.elim
  | _ :: _, _ :: _, h => by simp [forall2_len h.2]

/-- The cells of an element, told so. -/
theorem RoVw.cells {f : Nat → Option Nat} {x y : AV} (h : RoVw f x y) (hx : ∀ (o : Nat) (a : AV), x.cells[o]? = some a → a.one = true) : y.cells.length = x.cells.length ∧ ∀ (o : Nat) (b : AV), y.cells[o]? = some b → b.one = true ∧ ∃ a, x.cells[o]? = some a ∧ RoVw1 f a b := by
  by_cases ha : ∃ cs, x = .agg cs
  · obtain ⟨cs, rfl⟩ := ha
    obtain ⟨ds, rfl, h⟩ := h
    refine ⟨(forall2_len h).symm, fun o b hb => ?_⟩
    obtain ⟨a, ha, hr⟩ := forall2_get h (show ds[o]? = some b from hb)
    exact ⟨hr.one (hx o a ha), a, ha, hr⟩
  · have h1 : RoVw1 f x y := by
      cases x <;> first | exact h | exact absurd ⟨_, rfl⟩ ha
    have hc : x.cells = [x] := by cases x <;> first | rfl | exact absurd ⟨_, rfl⟩ ha
    have hone : x.one = true := hx 0 x (by rw [hc]; rfl)
    obtain ⟨_, c2⟩ := h1.cells hone
    refine ⟨by rw [hc, c2]; rfl, fun o b hb => ?_⟩
    rw [c2] at hb
    cases o with
    | zero =>
      simp only [List.getElem?_cons_zero, Option.some.injEq] at hb
      subst hb
      exact ⟨h1.one hone, x, by rw [hc]; rfl, h1⟩
    | succ o => simp at hb

structure RoRowV (f : Nat → Option Nat) (r : Row) (q : RoRow) : Prop where
  ty : q.ty = r.ty
  esz : q.esz = r.esz
  n : q.n ≤ r.len
  at_ : ∀ (j : Nat) (e : AV), j < q.n → r.get? j = some e → RoVw f e (q.at_ j)

theorem RowOK.ro {m m2 : Map} {n : Nat} {l : Loc} {r : Row} {q : RoRow} {w : World} {f : Nat → Option Nat} (hf : ∀ b c, f b = some c → m2.ro c = m.mu b) (h : RowOK m n l r w) (hv : RoRowV f r q) : RoOK m2 l q w := by
  obtain ⟨h1, h2, h3⟩ := h
  refine ⟨h1.trans hv.esz.symm, Nat.le_trans hv.n h2, ?_⟩
  cases hvir : l.vir with
  | true =>
    rw [hvir] at h3
    simp only [if_true] at h3 ⊢
    have := hv.n
    omega
  | false =>
    rw [hvir] at h3
    simp only [Bool.false_eq_true, if_false] at h3 ⊢
    intro hn
    obtain ⟨c, fz, hc, hs, hfz, hd⟩ := h3
    refine ⟨c, fz, by rw [hv.ty]; exact hc, fun i hi => ?_⟩
    obtain ⟨e, he⟩ := Row.get?_some (r := r) (i := i) (by have := hv.n; omega)
    obtain ⟨hl, hcell⟩ := hd i e he
    obtain ⟨k1, k2⟩ := (hv.at_ i e hi he).cells (fun o a ha => (hcell o a ha).1)
    refine ⟨k1.trans hl, fun o b hb => ?_⟩
    obtain ⟨ho, a, ha, hr⟩ := k2 o b hb
    obtain ⟨_, v, hv2, hden⟩ := hcell o a ha
    exact ⟨ho, v, hv2, hr.den hf hden⟩

theorem SafeCall.ofRead {P : Program} {R R2 : Nat → RoRow} {fn : FuncId} {argsL args : List AV} {h : Rows} {Q : AV → Prop} (hs : SafeCall P R2 fn argsL [] fun v _ => Q v) (hg : ∀ v, Q v → flat v = true)
    (hmap : ∀ m w, WR R m h w → ∃ m2 : Map, (∀ i, RoOK m2 (m2.ro i) (R2 i) w) ∧ ∀ as, DenL m h.length args as → DenL m2 0 argsL as) :
    SafeCall P R fn args h fun v h' => Q v ∧ h' = h := by
  intro m w m0 h0 w0 as has hW hS
  obtain ⟨m2, hro, hden⟩ := hmap m w hW
  have hW2 : WR R2 m2 [] w := ⟨fun b r hb => by simp [Rows.live] at hb, fun b b' r r' hb => by simp [Rows.live] at hb, hro, fun i b r hb => by simp [Rows.live] at hb⟩
  refine (hs m2 w m2 [] w as (hden _ has) hW2 (Step.refl _ _ _)).mono ?_
  rintro e w' ⟨c, v, m', h', rfl, hq, hd, _, hS'⟩
  have hbelow : ∀ k, k < w.heap.size → w'.heap[k]? = w.heap[k]? := fun k hk => hS'.block k hk (fun b r hb => by simp [Rows.live] at hb)
  have ho : Others w w' := ⟨hS'.size, fun k c t fz hk => by rw [hbelow k (Array.getElem?_eq_some_iff.1 hk).1]; exact hk⟩
  have ht : Turned w0.heap.size w w' := ⟨hS'.os, hS'.tape, hS'.output, ho, fun k hk => hbelow k (Nat.lt_of_lt_of_le hk hS.size)⟩
  exact ⟨c, v, m, h, rfl, ⟨hq, rfl⟩, flat_den (hg v hq) hd, hW.others ho, hS.turned ht⟩

/-- What only reads some rows, wherever they lie: 'g i' is the row that is told as the i-th. -/
theorem SafeCall.reads {P : Program} {R R2 : Nat → RoRow} {fn : FuncId} {argsL args : List AV} {h : Rows} {Q : AV → Prop} (f g : Nat → Option Nat) (hfg : ∀ b i, f b = some i → g i = some b)
    (hrow : ∀ i, match g i with | some b => ∃ r, h.live b = some r ∧ RoRowV f r (R2 i) | .none => (R2 i).n = 0) (hA : All2 (RoVw f) args argsL)
    (hs : SafeCall P R2 fn argsL [] fun v _ => Q v) (hg : ∀ v, Q v → flat v = true) : SafeCall P R fn args h fun v h' => Q v ∧ h' = h := by
  refine hs.ofRead hg ?_
  intro m w hW
  let m2 : Map := ⟨fun _ => ⟨0, 0, 0, 0, true⟩, fun i => match g i with | some b => m.mu b | .none => ⟨0, 0, (R2 i).esz, 0, true⟩⟩
  have hf : ∀ b c, f b = some c → m2.ro c = m.mu b := by
    intro b c hc
    have := hfg b c hc
    show (match g c with | some b => m.mu b | .none => _) = _
    rw [this]
  refine ⟨m2, ?_, ?_⟩
  · intro i
    have h1 := hrow i
    show RoOK m2 (match g i with | some b => m.mu b | .none => ⟨0, 0, (R2 i).esz, 0, true⟩) (R2 i) w
    cases hgi : g i with
    | some b =>
      rw [hgi] at h1
      obtain ⟨r, hb, hv⟩ := h1
      exact (hW.row b r hb).ro hf hv
    | none =>
      rw [hgi] at h1
      exact ⟨rfl, by simp at h1; omega, by simpa using h1⟩
  · intro as
    exact RoVwA.den hf hA

/-! ### One list that came in -/
def roL (ty esz n : Nat) (at_ : Nat → AV) : Nat → RoRow := fun i => match i with | 0 => ⟨ty, esz, n, at_⟩ | _ + 1 => ⟨0, 0, 0, fun _ => .undef⟩

theorem listArg (w : World) (a : Addr) (len cap : Nat) (at_ : Nat → AV) (V : Nat → Value) (hl : len ≤ cap) (hm : cap ≤ maxLen) (hone : ∀ i, (at_ i).one = true) (hV : ∀ m n i, Den m n (at_ i) (V i)) (hcell : ∀ i, i < cap → w.cell? (a.add i) = some (V i)) :
    ∃ ty m, (∀ i, RoOK m (m.ro i) (roL ty 1 len at_ i) w) ∧ Den m 0 (.sl true 0 0 len .no) (.slice (some a) len cap) := by
  have cells1 : ∀ i, (at_ i).cells = [at_ i] := fun i => by
    have := hone i
    cases hx : at_ i <;> rw [hx] at this <;> simp [AV.one] at this <;> rfl
  rcases Nat.eq_zero_or_pos cap with h0 | hp
  · subst h0
    obtain rfl : len = 0 := by omega
    refine ⟨0, ⟨fun _ => ⟨0, 0, 0, 0, true⟩, fun i => match i with | 0 => ⟨0, 0, 1, 0, true⟩ | _ + 1 => ⟨0, 0, 0, 0, true⟩⟩, ?_, ?_⟩
    · intro i
      cases i with
      | zero => exact ⟨rfl, Nat.le_refl _, by simp [roL]⟩
      | succ i => exact ⟨rfl, Nat.le_refl _, by simp [roL]⟩
    · simp only [Den, Map.loc, if_true]
      refine ⟨by simp, ?_⟩
      unfold SlDen
      simp only [if_true]
      exact ⟨trivial, some a, rfl, trivial⟩
  · have h0 := hcell 0 hp
    have hadd0 : a.add 0 = a := by unfold Addr.add; simp
    rw [hadd0] at h0
    obtain ⟨c, ty, fz, hc⟩ : ∃ c ty fz, w.heap[a.block]? = some (Obj.cells c ty fz) := by
      unfold World.cell? at h0
      split at h0
      · rename_i c ty fz hc; exact ⟨c, ty, fz, hc⟩
      · cases h0
    have hspot : a.spot = none := by
      unfold World.cell? at h0
      rw [hc] at h0
      simp only [] at h0
      cases hs : a.spot with
      | none => rfl
      | some s => rw [hs] at h0; simp at h0
    have ha : a = ⟨a.block, a.off, none⟩ := by cases a; simp_all
    have hadd : ∀ i, a.add i = ⟨a.block, a.off + i, none⟩ := by
      intro i
      rw [ha]
      unfold Addr.add
      split
      · rename_i h; subst h; rfl
      · rfl
    refine ⟨ty, ⟨fun _ => ⟨0, 0, 0, 0, true⟩, fun i => match i with | 0 => ⟨a.block, a.off, 1, cap, false⟩ | _ + 1 => ⟨0, 0, 0, 0, true⟩⟩, ?_, ?_⟩
    · intro i
      cases i with
      | zero =>
        refine ⟨rfl, hl, ?_⟩
        simp only [Bool.false_eq_true, if_false]
        intro hn
        refine ⟨c, fz, hc, fun i hi => ?_⟩
        simp only [roL] at hi ⊢
        refine ⟨by rw [cells1]; rfl, fun o b hb => ?_⟩
        rw [cells1] at hb
        cases o with
        | zero =>
          simp only [List.getElem?_cons_zero, Option.some.injEq] at hb
          subst hb
          refine ⟨hone i, V i, ?_, hV _ _ i⟩
          have := hcell i (by omega)
          rw [hadd] at this
          unfold World.cell? at this
          rw [hc] at this
          simpa using this
        | succ o => simp at hb
      | succ i => exact ⟨rfl, Nat.le_refl _, by simp [roL]⟩
    · simp only [Den, Map.loc, if_true]
      refine ⟨by simp, ?_⟩
      unfold SlDen
      simp only [Bool.false_eq_true, if_false]
      exact ⟨a, cap, rfl, hl, hm, trivial, fun _ => ⟨by simpa using ha, by simp⟩⟩

theorem nilArg (w : World) (at_ : Nat → AV) : ∃ ty m, (∀ i, RoOK m (m.ro i) (roL ty 1 0 at_ i) w) ∧ Den m 0 (.sl true 0 0 0 .no) (.slice none 0 0) := by
  refine ⟨0, ⟨fun _ => ⟨0, 0, 0, 0, true⟩, fun i => match i with | 0 => ⟨0, 0, 1, 0, true⟩ | _ + 1 => ⟨0, 0, 0, 0, true⟩⟩, ?_, ?_⟩
  · intro i
    cases i with
    | zero => exact ⟨rfl, Nat.le_refl _, by simp [roL]⟩
    | succ i => exact ⟨rfl, Nat.le_refl _, by simp [roL]⟩
  · simp only [Den, Map.loc, if_true]
    refine ⟨by simp, ?_⟩
    unfold SlDen
    simp only [if_true]
    exact ⟨trivial, none, rfl, trivial⟩

end Go.Dc
end
section
set_option linter.unusedSimpArgs false
set_option linter.unusedVariables false
namespace Go.Dc


theorem subs_trans : ∀ (c : Code) (p : Nat × Code), p ∈ subs c → ∀ q ∈ subs p.2, q ∈ subs c := by
  intro c
  induction c with
  | block id b ih =>
    intro p hp q hq
    simp only [subs, List.mem_cons] at hp ⊢
    rcases hp with rfl | hp
    · exact .inr hq
    · exact .inr (ih p hp q hq)
  | seq x y ihx ihy =>
    intro p hp q hq
    simp only [subs, List.mem_append] at hp ⊢
    rcases hp with hp | hp
    · exact .inl (ihx p hp q hq)
    · exact .inr (ihy p hp q hq)
  | cond x y z ihx ihy =>
    intro p hp q hq
    simp only [subs, List.mem_append] at hp ⊢
    rcases hp with hp | hp
    · exact .inl (ihx p hp q hq)
    · exact .inr (ihy p hp q hq)
  | loop b ih => exact ih
  | rangeFunc g ps x y ihx ihy =>
    intro p hp q hq
    simp only [subs, List.mem_append] at hp ⊢
    rcases hp with hp | hp
    · exact .inl (ihx p hp q hq)
    · exact .inr (ihy p hp q hq)
  | _ => intro p hp; simp [subs] at hp

theorem blockOf_mem {fi : FI} {i : Nat} {b : Code} (hb : blockOf fi i = some b) : (i, b) ∈ subs fi.body := by
  unfold blockOf at hb
  split at hb
  · rename_i j' b' he
    simp only [Option.some.injEq] at hb
    subst hb
    have : (j', b') ∈ (subs fi.body).filter fun p => Nat.beq p.1 i := by rw [he]; simp
    simp only [List.mem_filter] at this
    obtain ⟨h1, h2⟩ := this
    have := Nat.eq_of_beq_eq_true h2
    subst this
    exact h1
  · exact absurd hb (by simp)

theorem blockOf_uniq {fi : FI} {i : Nat} {b b' : Code} (hb : blockOf fi i = some b) (h : (i, b') ∈ subs fi.body) : b' = b := by
  unfold blockOf at hb
  split at hb
  · rename_i j' b2 he
    simp only [Option.some.injEq] at hb
    subst hb
    have : (i, b') ∈ (subs fi.body).filter fun p => Nat.beq p.1 i := List.mem_filter.2 ⟨h, by simp⟩
    rw [he] at this
    simp only [List.mem_singleton, Prod.mk.injEq] at this
    exact this.2
  · exact absurd hb (by simp)

/-! ### Rows of plain values, with rows behind -/
def lstGnd : Option Row → Bool
  | some (.lst _ _ l) => l.all fun e => ones e && Go.Dc.gnd e
  | none => true
  | _ => false

theorem RowV.lstG {f : Nat → Option Nat} {n : Nat} {t z : Nat} {l : List AV} (h : (l.all fun e => ones e && Go.Dc.gnd e) = true) : RowV f n (.lst t z l) (.lst t z l) where
  ty := rfl
  esz := rfl
  len := rfl
  get := fun i x hx => by
    simp only [Row.get?] at hx ⊢
    have hm := List.mem_of_getElem? hx
    have := List.all_eq_true.1 h x hm
    simp only [Bool.and_eq_true] at this
    exact ⟨ones_mem this.1, x, hx, gnd_vw f n x this.2⟩

theorem View.pre (h tl : Rows) (hg : h.all lstGnd = true) : View some h (h ++ tl) :=
  View.of (fun c o ho => by
    have hm := List.mem_of_getElem? ho
    have hlt := (List.getElem?_eq_some_iff.1 ho).1
    have hgo := List.all_eq_true.1 hg o hm
    cases o with
    | none =>
      refine ⟨(fun r hr => by cases hr), fun b hb => ?_⟩
      simp only [Option.some.injEq] at hb
      subst hb
      simp; omega
    | some r =>
      cases r with
      | lst t z l => exact ViewL.at_ (b := c) rfl (by rw [List.getElem?_append_left hlt]; exact ho) (RowV.lstG hgo)
      | gen t z n a => simp [lstGnd] at hgo
      | byt t l => simp [lstGnd] at hgo)
    (fun c c' b _ _ h1 h2 => by simp only [Option.some.injEq] at h1 h2; omega)


end Go.Dc
end
section
set_option linter.unusedSimpArgs false
set_option linter.unusedVariables false
namespace Go.Dc

/-- One round: the left sides, then the body. -/
noncomputable def rndR (E : Env Prop) (n : Nat) (f : FuncId) (as body : Code) (st : St) (k : Exit → St → Prop) : Prop :=
  code propAns E (drawAll propAns E) n f as st fun e st1 => match e with
    | .normal => code propAns E (drawAll propAns E) n f body st1 k
    | _ => False

/-- The code of a range in its block. -/
def rgA (fi : FI) (id : Nat) : Code := match blockOf fi id with | some (.rangeFunc _ _ a _) => a | _ => .skip
def rgB (fi : FI) (id : Nat) : Code := match blockOf fi id with | some (.rangeFunc _ _ _ b) => b | _ => .skip

theorem rangeLoop {P : Program} {E : Env Prop} (hm : P.follows .mixedOrders = true) (hE : EnvOK P E id) {f : FuncId} (hl : ∀ i, E.loops f i = Option.none) {gf esz : Nat} (hB : BackOK P gf esz)
    (hent : ∀ args w, (callFunc gf args).run P w = .ok (.enter gf args) w) {fi : FI} (hF : E.F f = some fi) {i : Nat} {g : Operand} {p0 p1 : Tmp} {as body : Code} (hb : blockOf fi i = some (.rangeFunc g #[p0, p1] as body))
    (hnd : (codeND as && codeND body) = true) {st : St} {bx : Nat} (hg : st.ev g = .fn gf [] [.ptr false bx 0 0]) {rb : Row} (hbx : st.rows.live bx = some rb) {sv : AV} (hsv0 : rb.get? 0 = some sv)
    {ds : List Nat} {len : Nat} {els : Nat → AV} (hbd : bx ∈ ds)
    (hsv : (sv = .nils ∧ len = 0) ∨ (∃ b i full r, sv = .sl false b i len full ∧ st.rows.live b = some r ∧ r.esz = esz ∧ b ∈ ds ∧ ∀ j, j < len → r.get? (i + j) = some (els j)) ∨
      (∃ b i full, sv = .sl true b i len full ∧ (E.R b).esz = esz ∧ i + len ≤ (E.R b).n ∧ ∀ j, j < len → els j = (E.R b).at_ (i + j)))
    {I : Nat → Rows → Prop} {X : Exit → Rows → Prop} (h0 : I 0 (dead ds st.rows)) (n : Nat)
    (hround : ∀ k rows, k < len → I k rows → rndR E n f as body ⟨(st.tmps.set p0 (.int .i64 ((len - 1 - k : Nat) : Int))).set p1 (els (len - 1 - k)), rows⟩ fun e st2 =>
      ∃ rowsE, (rowsE = st2.rows ∨ FitR st.rows.length rowsE st2.rows) ∧ match e with | .normal => I (k + 1) rowsE | e => X e rowsE)
    {Q : Exit → St → Prop} (hdone : ∀ rows, I len rows → Q .normal ⟨st.tmps, revive ds st.rows rows⟩)
    (hexit : ∀ e rows, X e rows → match e with
      | .exit id' => bif Nat.beq id' i then Q .normal ⟨st.tmps, revive ds st.rows rows⟩ else Q (.exit id') ⟨st.tmps, revive ds st.rows rows⟩
      | e => Q e ⟨st.tmps, revive ds st.rows rows⟩) :
    SafeM P E.R (.block i (.rangeFunc g #[p0, p1] as body)) st Q := by
  have hm1 := blockOf_mem hb
  have hsa : ∀ p ∈ subs as, p ∈ E.subsOf f := fun p hp => by unfold Env.subsOf; rw [hF]; exact subs_trans _ _ hm1 p (by simp [subs, hp])
  have hsb : ∀ p ∈ subs body, p ∈ E.subsOf f := fun p hp => by unfold Env.subsOf; rw [hF]; exact subs_trans _ _ hm1 p (by simp [subs, hp])
  simp only [Bool.and_eq_true] at hnd
  refine SafeM.block (range_ok hB hent hg hbx hsv0 hbd hsv (I := I) (X := X) h0 ?_ hdone ?_)
  · intro l k rows hk hI
    have ok := fun c st k => code_okR (rd := some l) (ds := []) propHolds hE hm f (fun id spec e => by rw [hl id] at e; cases e) n c st k
    refine SafeR.mono (ok as _ _ hnd.1 hsa (hround k rows hk hI)) ?_
    intro e1 st1 hq1
    cases e1 with
    | normal => exact ⟨rfl, ok body _ _ hnd.2 hsb hq1⟩
    | _ => exact hq1.elim
  · intro e rows hx
    exact hexit e rows hx
theorem FitR.pre {nk : Nat} (h tl : Rows) (hg : h.all lstGnd = true) (hn : nk ≤ h.length) : FitR nk h (h ++ tl) := ⟨some, View.pre h tl hg, fun _ _ => rfl, hn⟩
end Go.Dc
end
