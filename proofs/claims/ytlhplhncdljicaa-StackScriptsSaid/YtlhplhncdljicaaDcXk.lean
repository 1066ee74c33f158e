/- Rows told in other words; calls of the library that read rows; tools for loops. -/
import Derived.Test.YtlhplhncdljicaaDcZg
import Derived.Test.YtlhplhncdljicaaDcZe
import Derived.Test.YtlhplhncdljicaaDcYi
import Derived.Defers
import Derived.Recover
import Derived.WideLaws
import Derived.Below
section
set_option linter.unusedSimpArgs false
set_option linter.unusedVariables false
namespace Go.Dc
open Go.RowKit

theorem RowOK.retell {m : Map} {n : Nat} {l : Loc} {r r' : Row} {w : World} (h : RowOK m n l r w) (ht : r'.ty = r.ty) (he : r'.esz = r.esz) (hl : r'.len = r.len) (hg : ∀ i e, r'.get? i = some e → r.get? i = some e) : RowOK m n l r' w := by
  obtain ⟨h1, h2, h3⟩ := h
  refine ⟨h1.trans he.symm, by rw [hl]; exact h2, ?_⟩
  cases hv : l.vir with
  | true =>
    rw [hv] at h3
    simp only [if_true] at h3 ⊢
    rw [hl]
    exact h3
  | false =>
    rw [hv] at h3
    simp only [Bool.false_eq_true, if_false] at h3 ⊢
    obtain ⟨c, fz, hc, hs, hf, hd⟩ := h3
    exact ⟨c, fz, by rw [ht]; exact hc, hs, hf, fun i e hi => hd i e (hg i e hi)⟩

theorem live_last (h : Rows) (r : Row) : Rows.live (h ++ [some r]) h.length = some r := by simp [Rows.live]

/-- The last row told otherwise. -/
theorem SafeCall.retell {P : Program} {R : Nat → RoRow} {fn : FuncId} {args : List AV} {h : Rows} {v v0 : AV} {r r0 : Row} (hs : SafeCall P R fn args h fun v' h' => v' = v ∧ h' = h ++ [some r]) (ht : r0.ty = r.ty) (he : r0.esz = r.esz) (hl : r0.len = r.len)
    (hg : ∀ i e, r0.get? i = some e → r.get? i = some e) (hv : ∀ m n c, Den m n v c → Den m n v0 c) : SafeCall P R fn args h fun v' h' => v' = v0 ∧ h' = h ++ [some r0] := by
  intro m w m0 h0 w0 as has hW hS
  refine (hs m w m0 h0 w0 as has hW hS).mono ?_
  rintro e w' ⟨c, v', m', h', rfl, ⟨rfl, rfl⟩, hd, hW', hS'⟩
  have up : ∀ b q, Rows.live (h ++ [some r0]) b = some q → ∃ q', Rows.live (h ++ [some r]) b = some q' ∧ (q' = q ∨ (q' = r ∧ q = r0)) := by
    intro b q hb
    rcases live_push hb with ⟨hlt, hl⟩ | ⟨rfl, rfl⟩
    · exact ⟨q, by rw [live_append hlt]; exact hl, .inl rfl⟩
    · exact ⟨r, live_last h r, .inr ⟨rfl, rfl⟩⟩
  refine ⟨c, v0, m', _, rfl, ⟨rfl, rfl⟩, by simpa using hv _ _ _ hd, ⟨?_, ?_, hW'.ro, ?_⟩, ⟨hS'.os, hS'.tape, hS'.output, hS'.size, hS'.block, by simpa using hS'.len, hS'.mu, hS'.ro, ?_⟩⟩
  · intro b q hb
    obtain ⟨q', hb', rfl | ⟨rfl, rfl⟩⟩ := up b q hb
    · simpa using hW'.row b q' hb'
    · simpa using (hW'.row b q' hb').retell ht he hl hg
  · intro b b' q q' hb hb'
    obtain ⟨_, k1, _⟩ := up b q hb
    obtain ⟨_, k2, _⟩ := up b' q' hb'
    exact hW'.apart b b' _ _ k1 k2
  · intro i b q hb
    obtain ⟨_, k1, _⟩ := up b q hb
    exact hW'.roApart i b _ k1
  · intro b q hb
    obtain ⟨_, k1, _⟩ := up b q hb
    exact hS'.new b _ k1

/-- A call of the library that reads rows and answers with a plain value. -/
theorem SafeCall.knownRead {P : Program} {R : Nat → RoRow} {fn : FuncId} {args : List AV} {h : Rows} {v : AV}
    (hs : ∀ m w (as : Array Value), WR R m h w → DenL m h.length args as.toList → Calls P fn as w fun e w' => ∃ c, e = .returned c ∧ (∀ m n, Den m n v c) ∧ Below w.heap.size w w') :
    SafeCall P R fn args h fun v' h' => v' = v ∧ h' = h := by
  intro m w m0 h0 w0 as has hW hS
  refine (hs m w as hW has).mono ?_
  rintro e w' ⟨c, rfl, hd, hb⟩
  have ho : Others w w' := ⟨hb.size, fun k c t fz hk => by rw [hb.block k (Array.getElem?_eq_some_iff.1 hk).1]; exact hk⟩
  have ht : Turned w0.heap.size w w' := ⟨hb.os, hb.tape, hb.output, ho, fun k hk => hb.block k (Nat.lt_of_lt_of_le hk hS.size)⟩
  exact ⟨c, v, m, h, rfl, ⟨rfl, rfl⟩, hd _ _, hW.others ho, hS.turned ht⟩

/-- A row of texts, as the world bears it. -/
def strsRow (ty : TypeId) (l : List (List UInt8)) : Row := .gen ty 1 l.length fun j => .str (l.getD j [])

theorem strs_cells {R : Nat → RoRow} {m : Map} {h : Rows} {w : World} (hW : WR R m h w) {q : Nat} {ty : TypeId} {l : List (List UInt8)} {at_ : Nat → AV} (hq : h.live q = some (.gen ty 1 l.length at_)) (hat : ∀ j, j < l.length → at_ j = .str (l.getD j [])) {u : Value} {c : Cp} (hd : Den m h.length (.sl false q 0 l.length c) u) :
    (l = [] ∧ ∃ a cap, u = .slice a 0 cap) ∨ ∃ bk o cap, u = .slice (some ⟨bk, o, none⟩) l.length cap ∧ l.length ≤ cap ∧ bk < w.heap.size ∧ ∀ j s, l[j]? = some s → w.cell? ⟨bk, o + j, none⟩ = some (.string ⟨⟨s⟩⟩) := by
  simp only [Den, Map.loc, Bool.false_eq_true, if_false] at hd
  obtain ⟨_, hsl⟩ := hd
  cases l with
  | nil =>
    refine .inl ⟨rfl, ?_⟩
    unfold SlDen at hsl
    split at hsl
    · obtain ⟨_, ao, rfl, _⟩ := hsl; exact ⟨ao, 0, rfl⟩
    · obtain ⟨a, cap, rfl, _⟩ := hsl; exact ⟨_, cap, rfl⟩
  | cons s0 l =>
    refine .inr ?_
    unfold SlDen at hsl
    split at hsl
    · obtain ⟨h0, _⟩ := hsl; simp at h0
    · rename_i hv
      have hv : (m.mu q).vir = false := by simpa using hv
      obtain ⟨a, cap, rfl, h1, _, _, h4⟩ := hsl
      obtain ⟨rfl, _⟩ := h4 (by simp at h1; omega)
      obtain ⟨e1, e2, h3⟩ := hW.row q _ hq
      rw [hv] at h3
      simp only [Bool.false_eq_true, if_false] at h3
      obtain ⟨cs, fz, hc, _, _, hel⟩ := h3
      have hesz : (m.mu q).esz = 1 := e1
      refine ⟨_, _, cap, rfl, h1, (Array.getElem?_eq_some_iff.1 hc).1, fun j s hj => ?_⟩
      have hjl : j < (s0 :: l).length := (List.getElem?_eq_some_iff.1 hj).1
      have hg : (Row.gen ty 1 (s0 :: l).length at_).get? j = some (.str s) := by
        rw [Row.get_gen hjl, hat j hjl]
        simp only [List.getD, hj, Option.getD_some]
      obtain ⟨_, hcell⟩ := hel j _ hg
      obtain ⟨_, v, hv2, hden⟩ := hcell 0 (.str s) (by simp [AV.cells])
      simp only [Den] at hden
      subst hden
      rw [hesz] at hv2
      simp only [World.cell?, hc, hesz]
      simpa using hv2

theorem View.nil : View (fun _ => Option.none) [] [] := ⟨fun c b hc => absurd hc (Nat.not_lt_zero _), fun c c' b hc => absurd hc (Nat.not_lt_zero _), fun c r hc => by simp [Rows.live] at hc⟩
theorem Fit.nil {T T' : List AV} (h : VwL (fun _ => Option.none) 0 T T') : Fit 0 ⟨T, []⟩ ⟨T', []⟩ := ⟨fun _ => Option.none, ⟨View.nil, h⟩, fun c hc => absurd hc (Nat.not_lt_zero _), Nat.le_refl _⟩
theorem subs_loop (b : Code) : subs b = subs (.loop b) := rfl

def strOf : AV → List UInt8
  | .str s => s
  | _ => []
/-- The texts of a row. -/
def strsOf (n : Nat) (at_ : Nat → AV) : List (List UInt8) := (List.range n).map fun j => strOf (at_ j)
theorem strsOf_length (n : Nat) (at_ : Nat → AV) : (strsOf n at_).length = n := by simp [strsOf]
theorem strsOf_getD {n : Nat} {at_ : Nat → AV} {j : Nat} (hj : j < n) : (strsOf n at_).getD j [] = strOf (at_ j) := by
  simp [strsOf, List.getD, hj]
theorem strsOf_row (l : List (List UInt8)) : strsOf l.length (fun j => .str (l.getD j [])) = l := by
  apply List.ext_getElem
  · simp [strsOf]
  · intro i h1 h2
    simp [strsOf, strOf, List.getD, h2]

/-- A call that is known for one row alone, with what it leaves told by a condition. -/
theorem SafeCall.focus1Q {P : Program} {R : Nat → RoRow} {fn : FuncId} {argsL args : List AV} {r r0 : Row} {h : Rows} {b : Nat} {Q : AV → Option Row → Rows → Prop}
    (hb : h[b]? = some (some r0)) (hr : RowV (oneV b) 1 r r0) (hA : VwL (oneV b) 1 argsL args) (hs : SafeCall P R fn argsL [some r] fun v h' => ∃ o tl, Q v o tl ∧ h' = o :: tl) :
    SafeCall P R fn args h fun v'' h'' => ∃ V o tl, Q V o tl ∧ v'' = ren (g1 b h.length) V ∧ h'' = h.set b (o.map (renRow (g1 b h.length))) ++ Option.none :: tl.map (Option.map (renRow (g1 b h.length))) := by
  have hlt : b < h.length := (List.getElem?_eq_some_iff.1 hb).1
  have hV : View (oneV b) [some r] h := View.of (fun c o ho => by
    cases c with
    | zero => cases ho; exact ViewL.at_ (b := b) rfl hb hr
    | succ c => simp at ho) (fun c c' d hc hc' _ _ => by simp at hc hc'; omega)
  refine (hs.focus hV hA).mono ?_
  rintro v'' h'' ⟨v', h', ⟨o, tl, hq, rfl⟩, rfl, rfl⟩
  refine ⟨v', o, tl, hq, ?_, merged_one hlt o tl⟩
  show ren (ext (oneV b) 1 h.length) _ = _
  rw [ext_one]
/-- A list of scratch slots of which few are known. -/
def spr (l : List (Nat × AV)) : Nat → Nat → List AV
  | _, 0 => []
  | k, n + 1 => (match l.lookup k with | some a => a | none => .any) :: spr l (k + 1) n
theorem VwL.spr {f : Nat → Option Nat} {N : Nat} {l : List (Nat × AV)} : ∀ {n k : Nat} {T : List AV}, T.length = n → (∀ i a, l.lookup (k + i) = some a → i < n → Vw f N a (nthV T i)) → VwL f N (Dc.spr l k n) T
  | 0, k, T, h, _ => by
    cases T with
    | nil => exact VwL.nil
    | cons x T => simp at h
  | n + 1, k, T, h, hp => by
    cases T with
    | nil => simp at h
    | cons x T =>
      refine VwL.cons ?_ (VwL.spr (by simpa using h) fun i a hl hi => ?_)
      · cases hl : l.lookup k with
        | none => exact Vw.anyI
        | some a =>
          have := hp 0 a (by simpa using hl) (by omega)
          simpa only [nthV_eq, List.getD_cons_zero] using this
      · have := hp (i + 1) a (by rw [show k + (i + 1) = k + 1 + i by omega]; exact hl) (by omega)
        simpa only [nthV_eq, List.getD_cons_succ] using this
/-- The known slots, one by one. -/
def known (f : Nat → Option Nat) (N : Nat) (T : List AV) : List (Nat × AV) → Prop
  | [] => True
  | (i, a) :: l => Vw f N a (nthV T i) ∧ known f N T l
theorem known.at_ {f : Nat → Option Nat} {N : Nat} {T : List AV} : ∀ {l : List (Nat × AV)}, known f N T l → ∀ i a, l.lookup i = some a → Vw f N a (nthV T i)
  | [], _, i, a, h => by simp at h
  | (j, b) :: l, hk, i, a, h => by
    rw [List.lookup_cons] at h
    by_cases e : i = j
    · subst e
      simp at h
      exact h ▸ hk.1
    · rw [show (i == j) = false by simpa using e] at h
      exact hk.2.at_ i a h
theorem VwL.ofKnown {f : Nat → Option Nat} {N n : Nat} {l : List (Nat × AV)} {T : List AV} (h : T.length = n) (hk : known f N T l) : VwL f N (Dc.spr l 0 n) T :=
  VwL.spr h fun i a hl _ => hk.at_ i a (by rw [Nat.zero_add] at hl; exact hl)
end Go.Dc
end
section
set_option linter.unusedSimpArgs false
set_option linter.unusedVariables false
namespace Go.Dc
noncomputable def loopOf (fi : FI) (id : Nat) : Code := match blockOf fi id with | some (.loop b) => b | _ => .skip
theorem hcT {b : Bool} {X Y : Prop} (h : b = true) (hx : X) : cond b X Y := by subst h; exact hx
theorem hcF {b : Bool} {X Y : Prop} (h : b = false) (hy : Y) : cond b X Y := by subst h; exact hy
theorem hcB {b : Bool} {X Y : Prop} (h1 : b = true → X) (h2 : b = false → Y) : cond b X Y := by
  cases b
  · exact h2 rfl
  · exact h1 rfl
theorem hcB2 {b : Bool} {X Y : Prop} (h2 : b = false → Y) (h1 : b = true → X) : cond b X Y := hcB h1 h2
theorem wrapI64 (x : Int) (h0 : -9223372036854775808 ≤ x) (h1 : x ≤ 9223372036854775807) : IntKind.i64.wrap x = x := by
  have e : IntKind.i64.wrap x = if (decide (x % 18446744073709551616 ≥ 9223372036854775808)) = true then x % 18446744073709551616 - 18446744073709551616 else x % 18446744073709551616 := rfl
  rw [e]
  simp only [decide_eq_true_eq]
  split <;> omega
theorem wrapSucc (i : Nat) (h : i ≤ 4611686018427387904) : IntKind.i64.wrap ((i : Int) + 1) = ((i + 1 : Nat) : Int) := by rw [wrapI64 _ (by omega) (by omega)]; omega
/-- One row moved. -/
def mvR (c0 b0 : Nat) : Nat → Option Nat := fun c => bif Nat.beq c c0 then some b0 else some c
theorem mvR_lt {c0 b0 n : Nat} (hn : n ≤ c0) (c : Nat) (hc : c < n) : mvR c0 b0 c = some c := by
  unfold mvR
  rw [show Nat.beq c c0 = false by rw [Bool.eq_false_iff]; exact fun e => by have := Nat.eq_of_beq_eq_true e; omega]
  rfl
theorem mvR_at (c0 b0 c : Nat) : mvR c0 b0 c = some (if c = c0 then b0 else c) := by
  unfold mvR
  by_cases h : c = c0
  · subst h; rw [Nat.beq_refl, if_pos rfl]; rfl
  · rw [show Nat.beq c c0 = false by rw [Bool.eq_false_iff]; exact fun e => h (Nat.eq_of_beq_eq_true e), if_neg h]; rfl
theorem mvR_inj {c0 b0 N : Nat} (hb : N ≤ b0 + 1) (hN : N ≤ c0 + 1) (c c' b : Nat) (hc : c < N) (hc' : c' < N) (h1 : mvR c0 b0 c = some b) (h2 : mvR c0 b0 c' = some b) : c = c' := by
  rw [mvR_at] at h1 h2
  injection h1 with h1
  injection h2 with h2
  split at h1 <;> split at h2 <;> omega
theorem inj_of {N : Nat} {f : Nat → Option Nat} (h : ∀ c c' : Fin N, f c.1 = f c'.1 → f c.1 ≠ none → c = c') (c c' b : Nat) (hc : c < N) (hc' : c' < N) (h1 : f c = some b) (h2 : f c' = some b) : c = c' := by
  have := h ⟨c, hc⟩ ⟨c', hc'⟩ (h1.trans h2.symm) (by show f c ≠ none; rw [h1]; simp)
  exact congrArg Fin.val this
theorem some_inj (N c c' b : Nat) (_ : c < N) (_ : c' < N) (h1 : some c = some b) (h2 : some c' = some b) : c = c' := by cases h1; cases h2; rfl
/-- The first n rows stay, the others weren't there. -/
def upR (n : Nat) : Nat → Option Nat := fun c => bif Nat.blt c n then some c else none
theorem upR_lt {n c : Nat} (h : c < n) : upR n c = some c := by unfold upR; rw [show c.blt n = true by simpa [Nat.blt_eq] using h]; rfl
theorem upR_ge {n c : Nat} (h : n ≤ c) : upR n c = none := by unfold upR; rw [show c.blt n = false by rw [Bool.eq_false_iff]; simp [Nat.blt_eq]; omega]; rfl
theorem upR_inj {n N : Nat} (c c' b : Nat) (_ : c < N) (_ : c' < N) (h1 : upR n c = some b) (h2 : upR n c' = some b) : c = c' := by
  rcases Nat.lt_or_ge c n with h | h
  · rw [upR_lt h] at h1
    rcases Nat.lt_or_ge c' n with h' | h'
    · rw [upR_lt h'] at h2; cases h1; cases h2; rfl
    · rw [upR_ge h'] at h2; cases h2
  · rw [upR_ge h] at h1; cases h1
theorem ViewL.goneR {f : Nat → Option Nat} {N : Nat} {h : Rows} {c b : Nat} (hf : f c = some b) (hb : b < h.length) : ViewL f N h c none where
  row := fun r hr => by cases hr
  lt := fun b' hb' => by rw [hf] at hb'; cases hb'; exact hb
theorem ViewL.noneR {f : Nat → Option Nat} {N : Nat} {h : Rows} {c : Nat} (hf : f c = none) : ViewL f N h c none where
  row := fun r hr => by cases hr
  lt := fun b' hb' => by rw [hf] at hb'; cases hb'
theorem fitVK {n : Nat} {hE h : Rows} {v : AV} {Q : AV → Rows → Prop} (f : Nat → Option Nat) (hV : View f hE h) (hg : gnd v = true) (hf : ∀ c, c < n → f c = some c) (hl : n ≤ hE.length) (hq : Q v hE) : ∃ vE hE, FitV n vE hE v h ∧ Q vE hE :=
  ⟨v, hE, ⟨f, hV, Vw.gndI hg, hf, hl⟩, hq⟩
/-- The very same rows. -/
structure RowsAre (h h0 : Rows) : Prop where
  h : h = h0
theorem capOK {m z : Nat} (h : (m + 1) * z ≤ 140737488355328) : (decide (0 + m ≤ m) && (true && (true && decide ((m + 1) * z ≤ 140737488355328)))) = true := by simp; exact h
/-- An element more, behind a row that is told by a function. -/
theorem app_gen {n : Nat} {F G : Nat → AV} {e : AV} (hF : ∀ j, j < n → F (0 + j) = G j) (he : e = G n) (j : Nat) (hj : j < n + 1) : (bif j.blt n then F (0 + j) else (Src.lst [e]).at_ (j - n)) = G j := by
  by_cases h : j < n
  · rw [show j.blt n = true by simpa [Nat.blt_eq] using h]; exact hF j h
  · have : j = n := by omega
    subst this
    rw [show j.blt j = false by rw [Bool.eq_false_iff]; simp [Nat.blt_eq], Nat.sub_self, he.symm]
    rfl
end Go.Dc
end
section
set_option linter.unusedSimpArgs false
set_option linter.unusedVariables false
namespace Go.Dc

/-! ### Names of places -/
private def decF : Nat → Nat → Nat × Nat
  | 0, _ => (0, 0)
  | f + 1, n => if n % 2 = 0 then ((decF f (n / 2)).1 + 1, (decF f (n / 2)).2) else (0, n / 2)
private def encF : Nat → Nat → Nat
  | 0, b => 2 * b + 1
  | a + 1, b => 2 * encF a b
private theorem decF_enc : ∀ (a b f : Nat), a < f → decF f (encF a b) = (a, b)
  | 0, b, f + 1, _ => by
    show (if (2 * b + 1) % 2 = 0 then _ else _) = _
    have e : encF 0 b = 2 * b + 1 := rfl
    rw [e, if_neg (by omega)]
    congr 1; omega
  | a + 1, b, f + 1, h => by
    show (if (2 * encF a b) % 2 = 0 then ((decF f (2 * encF a b / 2)).1 + 1, (decF f (2 * encF a b / 2)).2) else _) = _
    rw [if_pos (by omega)]
    have : 2 * encF a b / 2 = encF a b := by omega
    rw [this, decF_enc a b f (by omega)]
private theorem enc_gt : ∀ (a b : Nat), a < encF a b
  | 0, b => by simp only [encF]; omega
  | a + 1, b => by have := enc_gt a b; simp only [encF]; omega
theorem names_ex : ∃ (enc : Nat → Nat → Nat) (dec : Nat → Nat × Nat), ∀ a b, dec (enc a b) = (a, b) :=
  ⟨encF, fun n => decF n n, fun a b => decF_enc a b _ (enc_gt a b)⟩
noncomputable def enc : Nat → Nat → Nat := Classical.choose names_ex
noncomputable def dec : Nat → Nat × Nat := Classical.choose (Classical.choose_spec names_ex)
theorem dec_enc (a b : Nat) : dec (enc a b) = (a, b) := Classical.choose_spec (Classical.choose_spec names_ex) a b

/-- The names from 15 on: one that is nowhere, and one for each place (the size of an element, the block, the place in it, how far it reaches). -/
noncomputable def tkLoc : Nat → Loc
  | 0 => ⟨0, 0, 3, 0, true⟩
  | x + 1 => if x < 9 then ⟨0, 0, x + 1, 0, true⟩ else ⟨(dec (dec (x - 9)).2).1, (dec (dec (dec (x - 9)).2).2).1, (dec (x - 9)).1, (dec (dec (dec (x - 9)).2).2).2, false⟩
noncomputable def tkName (esz blk off ext : Nat) : Nat := enc esz (enc blk (enc off ext)) + 10
theorem tkLoc_name (esz blk off ext : Nat) : tkLoc (tkName esz blk off ext) = ⟨blk, off, esz, ext, false⟩ := by
  unfold tkName
  generalize hn : enc esz (enc blk (enc off ext)) = n
  have e : tkLoc (n + 10) = ⟨(dec (dec n).2).1, (dec (dec (dec n).2).2).1, (dec n).1, (dec (dec (dec n).2).2).2, false⟩ := by
    show (if n + 9 < 9 then (⟨0, 0, n + 9 + 1, 0, true⟩ : Loc) else ⟨(dec (dec (n + 9 - 9)).2).1, (dec (dec (dec (n + 9 - 9)).2).2).1, (dec (n + 9 - 9)).1, (dec (dec (dec (n + 9 - 9)).2).2).2, false⟩) = _
    rw [if_neg (by omega), Nat.add_sub_cancel]
  rw [e, ← hn]
  simp [dec_enc]
/-- Names of nothing, for elements of so many cells. -/
theorem tkLoc_nil (z : Nat) (h0 : 0 < z) (h : z < 10) : tkLoc z = ⟨0, 0, z, 0, true⟩ := by
  obtain ⟨x, rfl⟩ : ∃ x, z = x + 1 := ⟨z - 1, by omega⟩
  have e : x < 9 := by omega
  simp only [tkLoc, if_pos e]
/-- A slice known by its name. -/
abbrev tok (x len : Nat) : AV := .sl true (x + 15) 0 len .no

/-- Memory that nobody writes any more. -/
abbrev Fz := Nat → Option (TypeId × Array Value)
def Fz.le (F G : Fz) : Prop := ∀ b x, F b = some x → G b = some x
theorem Fz.le_refl (F : Fz) : F.le F := fun _ _ h => h
theorem Fz.le_trans {F G H : Fz} (a : F.le G) (b : G.le H) : F.le H := fun x y h => b x y (a x y h)
def Fz.empty : Fz := fun _ => none
theorem Fz.empty_le (F : Fz) : Fz.empty.le F := fun _ _ h => nomatch h

/-- From one to a later one: what is new in it is new in memory, or was a live row. -/
structure Fz.To (F0 : Fz) (m0 : Map) (h0 : Rows) (w0 : World) (F : Fz) : Prop where
  le : F0.le F
  new : ∀ b x, F b = some x → F0 b = some x ∨ w0.heap.size ≤ b ∨ ∃ c r, h0.live c = some r ∧ (m0.mu c).vir = false ∧ (m0.mu c).blk = b
theorem Fz.To.refl (F : Fz) (m : Map) (h : Rows) (w : World) : F.To m h w F := ⟨F.le_refl, fun _ _ h => .inl h⟩
theorem Fz.To.trans {F0 F F' : Fz} {m0 m : Map} {h0 h : Rows} {w0 w : World} (a : F0.To m0 h0 w0 F) (s : Step m0 h0 w0 m h w) (b : F.To m h w F') : F0.To m0 h0 w0 F' where
  le := Fz.le_trans a.le b.le
  new := fun k x hk => by
    rcases b.new k x hk with h1 | h1 | ⟨c, r, hc, hv, he⟩
    · exact a.new k x h1
    · exact .inr (.inl (Nat.le_trans s.size h1))
    · rcases s.new c r hc hv with h2 | h2
      · exact .inr (.inl (he ▸ h2))
      · obtain ⟨d, r', hd, hdv, hde⟩ := h2
        exact .inr (.inr ⟨d, r', hd, hdv, hde.trans he⟩)

structure FzOK (F : Fz) (m : Map) (h : Rows) (w : World) : Prop where
  blk : ∀ b ty c, F b = some (ty, c) → ∃ fz, w.heap[b]? = some (.cells c ty fz)
  apart : ∀ b r, h.live b = some r → (m.mu b).vir = false → F (m.mu b).blk = none
  ro : ∀ i, m.ro (i + 15) = tkLoc i

theorem FzOK.step {F : Fz} {m m' : Map} {h h' : Rows} {w w' : World} (hf : FzOK F m h w) (s : Step m h w m' h' w') : FzOK F m' h' w' where
  blk := fun b ty c hb => by
    obtain ⟨fz, hw⟩ := hf.blk b ty c hb
    refine ⟨fz, ?_⟩
    rw [s.block b (Array.getElem?_eq_some_iff.1 hw).1, hw]
    intro c' r hc hv he
    have := hf.apart c' r hc hv
    rw [he, hb] at this; cases this
  apart := fun b r hb hv => by
    rcases s.new b r hb hv with h1 | ⟨c, r', hc, hcv, hce⟩
    · cases hF : F (m'.mu b).blk with
      | none => rfl
      | some x =>
        obtain ⟨ty, c⟩ := x
        obtain ⟨fz, hw⟩ := hf.blk _ ty c hF
        have := (Array.getElem?_eq_some_iff.1 hw).1
        omega
    · rw [← hce]; exact hf.apart c r' hc hcv
  ro := fun i => by rw [s.ro]; exact hf.ro i

/-! ### Runs -/
structure RelX (R : Nat → RoRow) (ds : List Deferred) (m : Map) (st : St) (a : Act) (w : World) : Prop where
  size : a.tmps.size = st.tmps.length
  tmps : ∀ (i : Nat) (x : AV), st.tmps[i]? = some x → ∃ c, a.tmps[i]? = some c ∧ Den m st.rows.length x c
  defers : a.defers = ds
  wr : WR R m st.rows w
theorem RelX.of {R : Nat → RoRow} {m : Map} {st : St} {a : Act} {w : World} (h : Rel R m st a w) : RelX R [] m st a w := ⟨h.size, h.tmps, h.defers, h.wr⟩
theorem RelX.to {R : Nat → RoRow} {m : Map} {st : St} {a : Act} {w : World} (h : RelX R [] m st a w) : Rel R m st a w := ⟨h.size, h.tmps, h.defers, h.wr⟩
theorem Act.eval_defers (a : Act) (ds : List Deferred) (x : Operand) : ({ tmps := a.tmps, defers := ds } : Act).eval x = a.eval x := by cases x <;> rfl
theorem RelX.bare {R : Nat → RoRow} {ds : List Deferred} {m : Map} {st : St} {a : Act} {w : World} (h : RelX R ds m st a w) : Rel R m st { tmps := a.tmps, defers := [] } w := ⟨h.size, h.tmps, rfl, h.wr⟩
theorem RelX.ev {R : Nat → RoRow} {ds : List Deferred} {m : Map} {st : St} {a : Act} {w : World} (h : RelX R ds m st a w) (x : Operand) : Den m st.rows.length (st.ev x) (a.eval x) := by
  have := h.bare.ev x
  rwa [Act.eval_defers] at this
theorem RelX.put {R : Nat → RoRow} {ds : List Deferred} {m m' : Map} {st : St} {a : Act} {w w' : World} (h : RelX R ds m st a w) {rows : Rows} (hs : Step m st.rows w m' rows w') (hW : WR R m' rows w') (dst : Option Tmp) {v : AV} {c : Value}
    (hd : Den m' rows.length v c) : RelX R ds m' ⟨putT st.tmps dst v, rows⟩ (a.put dst c) w' := by
  have := h.bare.put hs hW dst hd
  have ht : (Act.put { tmps := a.tmps, defers := [] } dst c).tmps = (a.put dst c).tmps := by cases dst <;> rfl
  have hdf : (a.put dst c).defers = a.defers := by cases dst <;> rfl
  exact ⟨by rw [← ht]; exact this.size, by rw [← ht]; exact this.tmps, by rw [hdf]; exact h.defers, this.wr⟩
theorem RelX.known {R : Nat → RoRow} {ds : List Deferred} {m : Map} {st : St} {a : Act} {w : World} (h : RelX R ds m st a w) {d : Nat} {b : Bool} (hd : st.tmps.getD d .undef = .bool b) : RelX R ds m ⟨st.tmps.set d (.bool b), st.rows⟩ a w := by
  have := h.bare.known hd
  exact ⟨this.size, this.tmps, h.defers, this.wr⟩

/-! ### The interpreter once more, its branches told by what is answered -/
structure AnsB (α : Type) where
  bot : α
  both : α → α → α
  eqv : AV → AV → α → α
  br : Bool → α → α → α
structure HoldsB {α : Type} (A : AnsB α) (hold : α → Prop) : Prop where
  bot : ¬ hold A.bot
  both : ∀ x y, hold (A.both x y) → hold x ∧ hold y
  eqv : ∀ u v x, hold (A.eqv u v x) → u = v ∧ hold x
  br : ∀ b x y, hold (A.br b x y) → (b = true ∧ hold x) ∨ (b = false ∧ hold y)
noncomputable section
section
variable {α : Type} (A : AnsB α) (E : Env α) (call : FuncId → List AV → Rows → (AV → Rows → α) → α)
def stepOp0B (o : Oper) (st : St) (k : St → α) : α :=
  match o.op with
  | .pick c a b => match st.ev c with
    | .bool t => A.br t (k ((setBool st c true).put o.dst (st.ev a))) (k ((setBool st c false).put o.dst (st.ev b)))
    | _ => A.bot
  | .call { callee := .value f, args, .. } => match st.ev f with
    | .fn g first cap => forceL (first ++ (args.toList.map st.ev ++ cap)) fun as => call g as st.rows fun v rows => forceRows rows fun rows => k ⟨putT st.tmps o.dst v, rows⟩
    | _ => A.bot
  | _ => match evQ E.T E.R st.rows st.ev o with
    | .ok v => k (st.put o.dst v)
    | .ck c v => A.br c (k (st.put o.dst v)) A.bot
    | .no => match evW E.T E.R st.rows st.ev o with
      | .ok c v rows => A.br c (forceRows rows fun rows => k ⟨putT st.tmps o.dst v, rows⟩) A.bot
      | .no => A.bot

def guardOp0B (ops : List Oper) (o : Oper) (st : St) (k : St → α) : α :=
  match o.guard with
  | none => stepOp0B A E call o st k
  | some (j, want) => match (ops[j]?).bind (·.dst) with
    | none => A.bot
    | some d => match st.tmps.getD d .undef with
      | .bool b => A.br b
          (cond want (stepOp0B A E call o ⟨st.tmps.set d (.bool true), st.rows⟩ k) (k (St.put ⟨st.tmps.set d (.bool true), st.rows⟩ o.dst .undef)))
          (cond want (k (St.put ⟨st.tmps.set d (.bool false), st.rows⟩ o.dst .undef)) (stepOp0B A E call o ⟨st.tmps.set d (.bool false), st.rows⟩ k))
      | .tup _ | .int .. | .str _ => k (st.put o.dst .undef)
      | _ => A.bot

def stepOpB (o : Oper) (st : St) (k : St → α) : α :=
  match o.op with
  | .pick c a b => match st.ev c with
    | .bool t => A.br t (setBoolK st c true fun s => s.putK o.dst (st.ev a) k) (setBoolK st c false fun s => s.putK o.dst (st.ev b) k)
    | _ => A.bot
  | .call { callee := .value f, args, .. } => match st.ev f with
    | .fn g first cap => forceL (first ++ (args.toList.map st.ev ++ cap)) fun as => call g as st.rows fun v rows => forceRows rows fun rows => Dc.putK st.tmps o.dst v fun ts => k ⟨ts, rows⟩
    | _ => A.bot
  | _ => match evQ E.T E.R st.rows st.ev o with
    | .ok v => st.putK o.dst v k
    | .ck c v => A.br c (st.putK o.dst v k) A.bot
    | .no => match evW E.T E.R st.rows st.ev o with
      | .ok c v rows => A.br c (forceRows rows fun rows => forceP v fun v => Dc.putK st.tmps o.dst v fun ts => k ⟨ts, rows⟩) A.bot
      | .no => A.bot

def guardOpB (ops : List Oper) (o : Oper) (st : St) (k : St → α) : α :=
  match o.guard with
  | none => stepOpB A E call o st k
  | some (j, want) => match (ops[j]?).bind (·.dst) with
    | none => A.bot
    | some d => match nthV st.tmps d with
      | .bool b => A.br b
          (setK st.tmps d (.bool true) fun ts => cond want (stepOpB A E call o ⟨ts, st.rows⟩ k) (St.putK ⟨ts, st.rows⟩ o.dst .undef k))
          (setK st.tmps d (.bool false) fun ts => cond want (St.putK ⟨ts, st.rows⟩ o.dst .undef k) (stepOpB A E call o ⟨ts, st.rows⟩ k))
      | .tup _ | .int .. | .str _ => st.putK o.dst .undef k
      | _ => A.bot

def runOpsB (ops : List Oper) : List Oper → St → (St → α) → α
  | [], st, k => k st
  | o :: rest, st, k => guardOpB A E call ops o st fun st => runOpsB ops rest st k
end
section
variable {α : Type} {A : AnsB α} {E : Env α} {call : FuncId → List AV → Rows → (AV → Rows → α) → α}
theorem stepOp_eqB (o : Oper) (st : St) (k : St → α) : stepOpB A E call o st k = stepOp0B A E call o st k := by
  unfold stepOpB stepOp0B
  simp only [setBoolK_eq, St.putK_eq, Dc.putK_eq, forceP_eq]
theorem guardOp_eqB (ops : List Oper) (o : Oper) (st : St) (k : St → α) : guardOpB A E call ops o st k = guardOp0B A E call ops o st k := by
  unfold guardOpB guardOp0B
  simp only [St.putK_eq, stepOp_eqB, setK_eq, nthV_eq]
end
section
variable {α : Type} {A : AnsB α} {E : Env α}
def resLB (A : AnsB α) (T : TypeId → Option TI) (R : Nat → RoRow) (st : St) : List ResultVar → (List AV → α) → α
  | [], k => k []
  | r :: rs, k => match resV T R st r with
    | .ok v => resLB A T R st rs fun vs => k (v :: vs)
    | .ck c v => A.br c (resLB A T R st rs fun vs => k (v :: vs)) A.bot
    | .no => A.bot

def resKB (A : AnsB α) (E : Env α) (st : St) (rs : List ResultVar) (k : AV → α) : α := resLB A E.T E.R st rs fun vs => k (tupOf vs)

def codeB (A : AnsB α) (E : Env α) (draw : Draw α) : Nat → FuncId → Code → St → (Exit → St → α) → α
  | 0, _, _, _, _ => A.bot
  | n + 1, f, c, st, k =>
    let call : FuncId → List AV → Rows → (AV → Rows → α) → α := fun g args rows k => match E.calls g with
      | some spec => spec args rows k
      | none => match E.F g with
        | none => A.bot
        | some fi => forceL (enterT args fi.ntmps) fun ts => codeB A E draw n g fi.body ⟨ts, rows⟩ fun e st => match e with
          | .normal | .ret => resKB A E st fi.results fun v => k v st.rows
          | _ => A.bot
    match c with
    | .skip => k .normal st
    | .label _ => k .normal st
    | .seq x y => codeB A E draw n f x st fun e st => match e with | .normal => codeB A E draw n f y st k | e => k e st
    | .cond c x y => match st.ev c with
      | .bool b => A.br b (setBoolK st c true fun st => codeB A E draw n f x st k) (setBoolK st c false fun st => codeB A E draw n f y st k)
      | _ => A.bot
    | .block id body => match E.loops f id with
      | some spec => spec st k
      | none => codeB A E draw n f body st fun e st => match e with
        | .exit id' => bif Nat.beq id' id then k .normal st else k (.exit id') st
        | e => k e st
    | .loop body => codeB A E draw n f body st fun e st => match e with | .normal => codeB A E draw n f (.loop body) st k | e => k e st
    | .exit id => k (.exit id) st
    | .ret => k .ret st
    | .region _ ops false => runOpsB A E call ops.toList ops.toList st fun st => k .normal st
    | .region _ ops true => draw call ops st fun st => k .normal st
    | _ => A.bot

end
section
variable {α : Type} (A : AnsB α) (E : Env α) (call : FuncId → List AV → Rows → (AV → Rows → α) → α) (ops : Array Oper)
def split1B (st : St) (d : Tmp) (k : St → α) : α :=
  match st.tmps.getD d .undef with
  | .bool b => A.br b (k ⟨st.tmps.set d (.bool true), st.rows⟩) (k ⟨st.tmps.set d (.bool false), st.rows⟩)
  | _ => k st

def splitGB (o : Oper) (st : St) (k : St → α) : α :=
  match o.guard with
  | none => k st
  | some (j, _) => match (ops[j]?).bind (·.dst) with
    | none => k st
    | some d => split1B A st d k

def splitPB (o : Oper) (st : St) (k : St → α) : α :=
  match o.op with
  | .pick (.tmp d) _ _ => split1B A st d k
  | _ => k st

def stepWB (o : Oper) (st : St) (k : AV → Rows → α) : α :=
  match o.op with
  | .assign x => k (st.ev x) st.rows
  | .call { callee := .value f, args, .. } => match st.ev f with
    | .fn g first cap => forceL (first ++ (args.toList.map st.ev ++ cap)) fun as => call g as st.rows fun v rows => forceRows rows fun rows => k v rows
    | _ => A.bot
  | _ => match evW E.T E.R st.rows st.ev o with
    | .ok c v rows => A.br c (forceRows rows fun rows => k v rows) A.bot
    | .no => A.bot

def guardWB (o : Oper) (st : St) (k : AV → Rows → α) : α :=
  match o.guard with
  | none => stepWB A E call o st k
  | some (j, want) => match (ops[j]?).bind (·.dst) with
    | none => A.bot
    | some d => match st.tmps.getD d .undef with
      | .bool true => cond want (stepWB A E call o st k) (k .undef st.rows)
      | .bool false => cond want (k .undef st.rows) (stepWB A E call o st k)
      | .tup _ | .int .. | .str _ => k .undef st.rows
      | _ => A.bot

def recheckB (j : Nat) (dst : Option Tmp) (st : St) : List (Nat × AV) → α → α
  | [], k => k
  | (i, v) :: l, k => match ops[i]? with
    | none => A.bot
    | some o => A.br (ahead ops ops.size i j || (memFree o && !(match dst with | some d => hasN (o.looksAt ops) d | none => false))) (recheckB j dst st l k)
      (match qeval E ops st o with
        | .ok u => A.eqv u v (recheckB j dst st l k)
        | .ck c u => A.br c (A.eqv u v (recheckB j dst st l k)) A.bot
        | .no => A.bot)

def tryLB (onQ : Nat → Oper → St → AV → α) (onNone : St → α) : List Nat → St → α
  | [], st => onNone st
  | i :: is, st => match ops[i]? with
    | none => A.bot
    | some o => splitGB A ops o st fun st => splitPB A o st fun st => match qeval E ops st o with
      | .ok v => onQ i o st v
      | .ck c v => A.br c (onQ i o st v) A.bot
      | .no => tryLB onQ onNone is st

def wAllB (f : Nat → α) : List Nat → α
  | [] => A.bot
  | [i] => f i
  | i :: is => A.both (f i) (wAllB f is)

def drawGoB (k : St → α) : Nat → List Nat → List (Nat × AV) → St → α
  | 0, _, _, _ => A.bot
  | n + 1, La, done, st => match readyL ops La with
    | [] => k st
    | i :: is => tryLB A E ops
        (fun i o st v => putK st.tmps o.dst v fun ts => drawGoB k n (i :: La) ((i, v) :: done) ⟨ts, st.rows⟩)
        (fun st => wAllB A (fun i => match ops[i]? with
          | none => A.bot
          | some o => guardWB A E call ops o st fun v rows => putK st.tmps o.dst v fun ts => recheckB A E ops i o.dst ⟨ts, rows⟩ done (drawGoB k n (i :: La) done ⟨ts, rows⟩)) (i :: is))
        (i :: is) st

end
def drawAllB {α : Type} (A : AnsB α) (E : Env α) : Draw α := fun call ops st k => bif neat ops then drawGoB A E call ops k (ops.size + 1) [] [] st else A.bot

end
section
variable {α : Type} {A : AnsB α} {E : Env α} {call : FuncId → List AV → Rows → (AV → Rows → α) → α} {ops : Array Oper} {hold : α → Prop}
theorem split1_okB (hA : HoldsB A hold) {st : St} {d : Tmp} {k : St → α} (h : hold (split1B A st d k)) : hold (k st) := by
  unfold split1B at h
  split at h
  · rename_i b hb
    rcases hA.br b _ _ h with ⟨rfl, hk⟩ | ⟨rfl, hk⟩
    · rwa [set_same hb] at hk
    · rwa [set_same hb] at hk
  · exact h

theorem splitG_okB (hA : HoldsB A hold) {o : Oper} {st : St} {k : St → α} (h : hold (splitGB A ops o st k)) : hold (k st) := by
  unfold splitGB at h
  split at h
  · exact h
  · split at h
    · exact h
    · exact split1_okB hA h

theorem splitP_okB (hA : HoldsB A hold) {o : Oper} {st : St} {k : St → α} (h : hold (splitPB A o st k)) : hold (k st) := by
  unfold splitPB at h
  split at h
  · exact split1_okB hA h
  · exact h

theorem tryL_okB (hA : HoldsB A hold) {onQ : Nat → Oper → St → AV → α} {onNone : St → α} : ∀ {l : List Nat} {st : St}, hold (tryLB A E ops onQ onNone l st) →
    (∃ i ∈ l, ∃ o v, ops[i]? = some o ∧ (qeval E ops st o).has v ∧ hold (onQ i o st v)) ∨ hold (onNone st)
  | [], st, h => .inr h
  | i :: is, st, h => by
    unfold tryLB at h
    split at h
    · exact (hA.bot h).elim
    · rename_i o ho
      have h := splitP_okB hA (splitG_okB hA h)
      split at h
      · rename_i v hv
        exact .inl ⟨i, by simp, o, v, ho, by rw [hv]; rfl, h⟩
      · rename_i c v hv
        rcases hA.br c _ _ h with ⟨hc, hk⟩ | ⟨_, hk⟩
        · exact .inl ⟨i, by simp, o, v, ho, by rw [hv]; exact ⟨hc, rfl⟩, hk⟩
        · exact (hA.bot hk).elim
      · rcases tryL_okB hA h with ⟨j, hj, r⟩ | hn
        · exact .inl ⟨j, by simp [hj], r⟩
        · exact .inr hn

theorem wAll_okB (hA : HoldsB A hold) {f : Nat → α} : ∀ {l : List Nat}, hold (wAllB A f l) → ∀ i ∈ l, hold (f i)
  | [], h, _, _ => (hA.bot h).elim
  | [j], h, i, hi => by
    simp only [List.mem_singleton] at hi
    subst hi; exact h
  | j :: j2 :: js, h, i, hi => by
    unfold wAllB at h
    obtain ⟨h1, h2⟩ := hA.both _ _ h
    rcases List.mem_cons.1 hi with rfl | hi
    · exact h1
    · exact wAll_okB hA h2 i hi

theorem recheck_okB (hA : HoldsB A hold) {j : Nat} {dst : Option Tmp} {st : St} {k : α} : ∀ {l : List (Nat × AV)}, hold (recheckB A E ops j dst st l k) →
    hold k ∧ ∀ i v, (i, v) ∈ l → ∃ o, ops[i]? = some o ∧ (ahead ops ops.size i j = true ∨ (memFree o = true ∧ ∀ d, dst = some d → d ∉ o.looksAt ops) ∨ (qeval E ops st o).has v)
  | [], h => ⟨h, fun i v hm => by simp at hm⟩
  | (i, v) :: l, h => by
    unfold recheckB at h
    split at h
    · exact (hA.bot h).elim
    · rename_i o ho
      have put : ∀ {X : Prop}, hold (recheckB A E ops j dst st l k) → (ahead ops ops.size i j = true ∨ (memFree o = true ∧ ∀ d, dst = some d → d ∉ o.looksAt ops) ∨ (qeval E ops st o).has v) →
          hold k ∧ ∀ i' v', (i', v') ∈ (i, v) :: l → ∃ o, ops[i']? = some o ∧ (ahead ops ops.size i' j = true ∨ (memFree o = true ∧ ∀ d, dst = some d → d ∉ o.looksAt ops) ∨ (qeval E ops st o).has v') := by
        intro X h1 h2
        have ih := recheck_okB hA h1
        refine ⟨ih.1, fun i' v' hm => ?_⟩
        rcases List.mem_cons.1 hm with e | hm
        · cases e; exact ⟨o, ho, h2⟩
        · exact ih.2 i' v' hm
      rcases hA.br _ _ _ h with ⟨hc, hk⟩ | ⟨_, hk⟩
      · refine put (X := True) hk ?_
        simp only [Bool.or_eq_true, Bool.and_eq_true, Bool.not_eq_true'] at hc
        rcases hc with hc | ⟨hc1, hc2⟩
        · exact .inl hc
        · refine .inr (.inl ⟨hc1, ?_⟩)
          rintro d rfl hd
          simp only [] at hc2
          rw [hasN_iff.2 hd] at hc2
          exact absurd hc2 (by simp)
      · split at hk
        · rename_i u hu
          obtain ⟨e, hk⟩ := hA.eqv _ _ _ hk
          exact put (X := True) hk (.inr (.inr (by rw [hu]; exact e)))
        · rename_i c u hu
          rcases hA.br c _ _ hk with ⟨hc, hk⟩ | ⟨_, hk⟩
          · obtain ⟨e, hk⟩ := hA.eqv _ _ _ hk
            exact put (X := True) hk (.inr (.inr (by rw [hu]; exact ⟨hc, e⟩)))
          · exact (hA.bot hk).elim
        · exact (hA.bot hk).elim

theorem stepW_congrB {o : Oper} {x y : List AV} (h : Agree ops o x y) (rows : Rows) (k : AV → Rows → α) : stepWB A E call o ⟨x, rows⟩ k = stepWB A E call o ⟨y, rows⟩ k := by
  have hev := h.ev rows rows
  have main : evW E.T E.R rows (⟨x, rows⟩ : St).ev o = evW E.T E.R rows (⟨y, rows⟩ : St).ev o := evW_congr o hev
  obtain ⟨dst, op, type, pos, after, guard⟩ := o
  cases op
  case assign z =>
    simp only [stepWB]
    rw [hev z (by simp [Op.operands])]
  case call c =>
    obtain ⟨callee, args, ats⟩ := c
    cases callee
    case value f =>
      simp only [stepWB]
      have ha : args.toList.map (⟨x, rows⟩ : St).ev = args.toList.map (⟨y, rows⟩ : St).ev := List.map_congr_left fun z hz => hev z (by simp [Op.operands, Call.operands]; exact .inr (by simpa using hz))
      rw [hev f (by simp [Op.operands, Call.operands]), ha]
    all_goals
      simp only [stepWB]
      rw [main]
  all_goals
    simp only [stepWB]
    rw [main]

theorem guardW_congrB {o : Oper} {x y : List AV} (h : Agree ops o x y) (rows : Rows) (k : AV → Rows → α) : guardWB A E call ops o ⟨x, rows⟩ k = guardWB A E call ops o ⟨y, rows⟩ k := by
  unfold guardWB
  cases hg : o.guard with
  | none => exact stepW_congrB h rows k
  | some g =>
    obtain ⟨j, want⟩ := g
    simp only []
    cases hd : (ops[j]?).bind (·.dst) with
    | none => rfl
    | some d =>
      simp only []
      rw [h.guard hg hd, stepW_congrB h rows k]

theorem resL_okB {α : Type} {A : AnsB α} {hold : α → Prop} (hA : HoldsB A hold) {T : TypeId → Option TI} {R : Nat → RoRow} {st : St} : ∀ {rs : List ResultVar} {k : List AV → α}, hold (resLB A T R st rs k) → ∃ vs, ResOK T R st rs vs ∧ hold (k vs)
  | [], k, h => ⟨[], rfl, h⟩
  | r :: rs, k, h => by
    unfold resLB at h
    split at h
    · rename_i v hv
      obtain ⟨vs, h1, h2⟩ := resL_okB hA h
      exact ⟨v :: vs, ⟨v, vs, rfl, by rw [hv]; rfl, h1⟩, h2⟩
    · rename_i c v hv
      rcases hA.br c _ _ h with ⟨hc, hk⟩ | ⟨_, hk⟩
      · obtain ⟨vs, h1, h2⟩ := resL_okB hA hk
        exact ⟨v :: vs, ⟨v, vs, rfl, by rw [hv]; exact ⟨hc, rfl⟩, h1⟩, h2⟩
      · exact (hA.bot hk).elim
    · exact (hA.bot h).elim

end
/-- A call that answers or panics: by Q, or by HP. -/
def SafeCallX (P : Program) (R : Nat → RoRow) (f : FuncId) (args : List AV) (h : Rows) (F : Fz) (Q HP : AV → Rows → Fz → Prop) : Prop :=
  ∀ m w m0 h0 w0 (F0 : Fz) (as : Array Value), DenL m h.length args as.toList → WR R m h w → FzOK F m h w → Step m0 h0 w0 m h w → F0.To m0 h0 w0 F →
    Calls P f as w fun e w' => ∃ m' h' F', WR R m' h' w' ∧ FzOK F' m' h' w' ∧ F0.To m0 h0 w0 F' ∧ Step m0 h0 w0 m' h' w' ∧
      ((∃ c v, e = .returned c ∧ Q v h' F' ∧ Den m' h'.length v c) ∨ ∃ c v, e = .panicked [{ v := c, recovered := false }] ∧ HP v h' F' ∧ Den m' h'.length v c)
theorem SafeCall.toX {P : Program} {R : Nat → RoRow} {f : FuncId} {args : List AV} {h : Rows} {F : Fz} {Q : AV → Rows → Prop} {Q' HP : AV → Rows → Fz → Prop} (hs : SafeCall P R f args h Q) (hq : ∀ v h, Q v h → Q' v h F) : SafeCallX P R f args h F Q' HP := by
  intro m w m0 h0 w0 F0 as h1 h2 h3 h4 h5
  refine (hs m w m h w as h1 h2 (Step.refl _ _ _)).mono ?_
  rintro e w' ⟨c, v, m', h', rfl, hqq, hd, hW, hS⟩
  exact ⟨m', h', F, hW, h3.step hS, h5, h4.trans hS, .inl ⟨c, v, rfl, hq _ _ hqq, hd⟩⟩
theorem SafeCallX.mono {P : Program} {R : Nat → RoRow} {f : FuncId} {args : List AV} {h : Rows} {F : Fz} {Q HP Q' HP' : AV → Rows → Fz → Prop} (hs : SafeCallX P R f args h F Q HP) (h1 : ∀ v h F', F.le F' → Q v h F' → Q' v h F') (h2 : ∀ v h F', F.le F' → HP v h F' → HP' v h F') : SafeCallX P R f args h F Q' HP' := by
  intro m w m0 h0 w0 F0 as a1 a2 a3 a4 a5
  refine (hs m w m h w F as a1 a2 a3 (Step.refl _ _ _) (.refl _ _ _ _)).mono ?_
  rintro e w' ⟨m', h', F', hW, hF, hl, hS, ⟨c, v, rfl, hq, hd⟩ | ⟨c, v, rfl, hq, hd⟩⟩
  · exact ⟨m', h', F', hW, hF, a5.trans a4 hl, a4.trans hS, .inl ⟨c, v, rfl, h1 _ _ _ hl.le hq, hd⟩⟩
  · exact ⟨m', h', F', hW, hF, a5.trans a4 hl, a4.trans hS, .inr ⟨c, v, rfl, h2 _ _ _ hl.le hq, hd⟩⟩

def CallOKX {α : Type} (P : Program) (R : Nat → RoRow) (hold : Fz → α → Prop) (HP : AV → Rows → Fz → Prop) (call : FuncId → List AV → Rows → (AV → Rows → α) → α) : Prop :=
  ∀ f args h k F, hold F (call f args h k) → SafeCallX P R f args h F (fun v h' F' => hold F' (k v h')) HP ∧ ∃ fn, P.funcs[f]? = some fn ∧ fn.body.isSome = true ∧ (fn.name == "runtime.NumGoroutine") = false
/-- Where a panic leads. -/
def PanicToX (R : Nat → RoRow) (ds : List Deferred) (HP : AV → Rows → Fz → Prop) (m0 : Map) (h0 : Rows) (w0 : World) (F0 : Fz) (Q : Exit → Act → World → Prop) : Prop :=
  ∀ (a : Act) c v m' h' w' F, a.defers = ds → HP v h' F → Den m' h'.length v c → WR R m' h' w' → FzOK F m' h' w' → Step m0 h0 w0 m' h' w' → F0.To m0 h0 w0 F → Q (.panic [{ v := c, recovered := false }]) a w'
def Post1X (R : Nat → RoRow) (ds : List Deferred) (Q : Exit → St → Fz → Prop) (m0 : Map) (h0 : Rows) (w0 : World) (F0 : Fz) (e : Exit) (a : Act) (w : World) : Prop :=
  ∃ m st F, (match e with | .normal | .exit _ | .ret => True | _ => False) ∧ Q e st F ∧ RelX R ds m st a w ∧ FzOK F m st.rows w ∧ Step m0 h0 w0 m st.rows w ∧ F0.To m0 h0 w0 F
def PostX (R : Nat → RoRow) (ds : List Deferred) (Q : Exit → St → Fz → Prop) (HP : AV → Rows → Fz → Prop) (m0 : Map) (h0 : Rows) (w0 : World) (F0 : Fz) (e : Exit) (a : Act) (w : World) : Prop :=
  match e with
  | .panic ch => ∃ m h v c F, ch = [{ v := c, recovered := false }] ∧ HP v h F ∧ Den m h.length v c ∧ WR R m h w ∧ FzOK F m h w ∧ Step m0 h0 w0 m h w ∧ F0.To m0 h0 w0 F ∧ a.defers = ds
  | e => Post1X R ds Q m0 h0 w0 F0 e a w
theorem postX_to (R : Nat → RoRow) (ds : List Deferred) (Q : Exit → St → Fz → Prop) (HP : AV → Rows → Fz → Prop) (m0 : Map) (h0 : Rows) (w0 : World) (F0 : Fz) : PanicToX R ds HP m0 h0 w0 F0 (PostX R ds Q HP m0 h0 w0 F0) :=
  fun a c v m' h' w' F hd h1 h2 h3 h4 h5 h6 => ⟨m', h', v, c, F, rfl, h1, h2, h3, h4, h5, h6, hd⟩
theorem PostX.mono {R : Nat → RoRow} {ds : List Deferred} {Q Q' : Exit → St → Fz → Prop} {HP HP' : AV → Rows → Fz → Prop} {m0 : Map} {h0 : Rows} {w0 : World} {F0 : Fz} (hq : ∀ e st F, F0.le F → Q e st F → Q' e st F) (hp : ∀ v h F, F0.le F → HP v h F → HP' v h F) {e : Exit} {a : Act} {w : World} (h : PostX R ds Q HP m0 h0 w0 F0 e a w) : PostX R ds Q' HP' m0 h0 w0 F0 e a w := by
  cases e with
  | panic ch => obtain ⟨m, h, v, c, F, h1, h2, h3, h4, h5, h6, h7, h8⟩ := h; exact ⟨m, h, v, c, F, h1, hp _ _ _ h7.le h2, h3, h4, h5, h6, h7, h8⟩
  | goto l => obtain ⟨_, _, _, h, _⟩ := h; exact h.elim
  | outgrown => obtain ⟨_, _, _, h, _⟩ := h; exact h.elim
  | normal => obtain ⟨m, st, F, h1, h2, h3, h4, h5, h6⟩ := h; exact ⟨m, st, F, h1, hq _ _ _ h6.le h2, h3, h4, h5, h6⟩
  | exit id => obtain ⟨m, st, F, h1, h2, h3, h4, h5, h6⟩ := h; exact ⟨m, st, F, h1, hq _ _ _ h6.le h2, h3, h4, h5, h6⟩
  | ret => obtain ⟨m, st, F, h1, h2, h3, h4, h5, h6⟩ := h; exact ⟨m, st, F, h1, hq _ _ _ h6.le h2, h3, h4, h5, h6⟩
/-- A piece of codeB, with such deferred calls standing by. -/
def SafeX (P : Program) (R : Nat → RoRow) (ds : List Deferred) (c : Code) (st : St) (F : Fz) (Q : Exit → St → Fz → Prop) (HP : AV → Rows → Fz → Prop) : Prop :=
  ∀ m a w m0 h0 w0 F0, RelX R ds m st a w → FzOK F m st.rows w → Step m0 h0 w0 m st.rows w → F0.To m0 h0 w0 F → c.wp P (PostX R ds Q HP m0 h0 w0 F0) a w
theorem SafeX.mono {P : Program} {R : Nat → RoRow} {ds : List Deferred} {c : Code} {st : St} {F : Fz} {Q Q' : Exit → St → Fz → Prop} {HP HP' : AV → Rows → Fz → Prop} (h : SafeX P R ds c st F Q HP) (hq : ∀ e st F', Q e st F' → Q' e st F') (hp : ∀ v h F', HP v h F' → HP' v h F') : SafeX P R ds c st F Q' HP' :=
  fun m a w m0 h0 w0 F0 hr hf hs hl => wp_mono (h m a w m0 h0 w0 F0 hr hf hs hl) fun _ _ _ h => h.mono (fun e st F _ => hq e st F) (fun v h F _ => hp v h F)
theorem Safe.toX {P : Program} {R : Nat → RoRow} {c : Code} {st : St} {F : Fz} {Q : Exit → St → Prop} {Q' : Exit → St → Fz → Prop} {HP : AV → Rows → Fz → Prop} (h : Safe P R c st Q) (hq : ∀ e st, Q e st → Q' e st F) : SafeX P R [] c st F Q' HP :=
  fun m a w m0 h0 w0 F0 hr hf hs hl => wp_mono (h m a w m st.rows w hr.to (Step.refl _ _ _)) fun e _ _ hp => by
    obtain ⟨m', st', hok, hqq, hr', hS⟩ := hp
    have : Post1X R [] Q' m0 h0 w0 F0 e _ _ := ⟨m', st', F, hok, hq _ _ hqq, .of hr', hf.step hS, hs.trans hS, hl⟩
    cases e with
    | panic ch => exact hok.elim
    | _ => exact this
section
variable {ds : List Deferred} {α : Type} {A : AnsB α} {E : Env α} {call : FuncId → List AV → Rows → (AV → Rows → α) → α} {hold : Fz → α → Prop} {P : Program} {HP : AV → Rows → Fz → Prop}
theorem stepOp0_okX (hA : ∀ F, HoldsB A (hold F)) (hT : TabOK P E.T) (hcall : CallOKX P E.R hold HP call) {o : Oper} {st : St} {k : St → α} {F : Fz} (h : hold F (stepOp0B A E call o st k)) {m : Map} {a : Act} {w : World} (hr : RelX E.R ds m st a w)
    (hf : FzOK F m st.rows w) {m0 : Map} {h0 : Rows} {w0 : World} {F0 : Fz} (hs : Step m0 h0 w0 m st.rows w) (hl : F0.To m0 h0 w0 F) (K : Act → World → Prop) (Q : Exit → Act → World → Prop) (hP : PanicToX E.R ds HP m0 h0 w0 F0 Q)
    (hK : ∀ F' m' st' a' w', hold F' (k st') → RelX E.R ds m' st' a' w' → FzOK F' m' st'.rows w' → Step m0 h0 w0 m' st'.rows w' → F0.To m0 h0 w0 F' → K a' w') : o.wp P a w K Q := by
  have hev := hr.ev
  -- the quiet ones
  have quiet : ∀ v, (evQ E.T E.R st.rows st.ev o).has v → hold F (k (st.put o.dst v)) → o.wp P a w K Q := by
    intro v hv hk
    obtain ⟨c, hc, hd⟩ := evQ_ok hT hr.wr st.ev a.eval hev o v hv
    unfold Oper.wp
    rw [hc]
    exact hK F m _ _ _ hk (hr.put (Step.refl _ _ _) hr.wr o.dst hd) hf hs hl
  have loud : ∀ c v rows, evW E.T E.R st.rows st.ev o = .ok c v rows → c = true → hold F (k ⟨putT st.tmps o.dst v, rows⟩) → o.wp P a w K Q := by
    intro c v rows hw hc hk
    have := evW_ok hT hr.wr st.ev a.eval hev o
    rw [hw] at this
    obtain ⟨nx, cv, w', m', hrun, hn, hd, hW, hS⟩ := this hc
    unfold Oper.wp
    rw [hrun]
    cases nx <;> simp only [nextVal] at hn <;> try (cases hn; done)
    · cases hn
      exact hK F m' _ _ _ hk (hr.put hS hW o.dst hd) (hf.step hS) (hs.trans hS) hl
    · cases hn
      exact hK F m' _ _ _ hk (hr.put hS hW o.dst hd) (hf.step hS) (hs.trans hS) hl
  have both : hold F (match evQ E.T E.R st.rows st.ev o with
    | .ok v => k (st.put o.dst v)
    | .ck c v => A.br c (k (st.put o.dst v)) A.bot
    | .no => match evW E.T E.R st.rows st.ev o with
      | .ok c v rows => A.br c (forceRows rows fun rows => k ⟨putT st.tmps o.dst v, rows⟩) A.bot
      | .no => A.bot) → o.wp P a w K Q := by
    intro h
    cases hq : evQ E.T E.R st.rows st.ev o with
    | ok v => rw [hq] at h; exact quiet v (by rw [hq]; rfl) h
    | ck c v =>
      rw [hq] at h
      rcases (hA _).br c _ _ h with ⟨hc, hk⟩ | ⟨_, hk⟩
      · exact quiet v (by rw [hq]; exact ⟨hc, rfl⟩) hk
      · exact ((hA _).bot hk).elim
    | no =>
      rw [hq] at h
      cases hw : evW E.T E.R st.rows st.ev o with
      | no => rw [hw] at h; exact ((hA _).bot h).elim
      | ok c v rows =>
        rw [hw] at h
        rcases (hA _).br c _ _ h with ⟨hc, hk⟩ | ⟨_, hk⟩
        · exact loud c v rows hw hc (by rw [forceRows_eq] at hk; exact hk)
        · exact ((hA _).bot hk).elim
  obtain ⟨dst, op, type, pos, after, guard⟩ := o
  cases op
  case pick c x y =>
    simp only [stepOp0B] at h
    have hc := hev c
    split at h
    · rename_i t he
      rw [he] at hc
      simp only [Den] at hc
      have hset : RelX E.R ds m (setBool st c t) a w ∧ (setBool st c t).rows = st.rows := by
        cases c with
        | tmp d => exact ⟨hr.known (by simpa [St.ev, nthV_eq] using he), rfl⟩
        | _ => exact ⟨hr, rfl⟩
      have fin : ∀ z, hold F (k ((setBool st c t).put dst (st.ev z))) → (execOp a.eval ⟨dst, .pick c x y, type, pos, after, guard⟩).run P w = .ok (.value (a.eval z)) w → (⟨dst, .pick c x y, type, pos, after, guard⟩ : Oper).wp P a w K Q := by
        intro z hk hrun
        unfold Oper.wp
        rw [hrun]
        have hS : Step m (setBool st c t).rows w m (setBool st c t).rows w := Step.refl _ _ _
        refine hK F m _ _ _ hk (hset.1.put hS hset.1.wr dst ?_) (by show FzOK F m (setBool st c t).rows w; rw [hset.2]; exact hf) ?_ hl
        · rw [hset.2]; exact hev z
        · show Step m0 h0 w0 m (setBool st c t).rows w
          rw [hset.2]; exact hs
      rcases (hA _).br t _ _ h with ⟨rfl, hk⟩ | ⟨rfl, hk⟩
      · exact fin x hk (by simp [execOp, hc, asBool, pure, Sem.run])
      · exact fin y hk (by simp [execOp, hc, asBool, pure, Sem.run])
    · exact ((hA _).bot h).elim
  case call c =>
    obtain ⟨callee, args, argTypes⟩ := c
    cases callee
    case builtin b => exact both h
    case invoke r mm => exact both h
    case value f =>
      simp only [stepOp0B] at h
      split at h
      · rename_i g first cap he
        have hf := hev f
        rw [he] at hf
        simp only [Den] at hf
        obtain ⟨us, vs, hfe, hus, hvs⟩ := hf
        have h := forced h
        obtain ⟨hsafe, fn, hfn, hbody, hname⟩ := hcall g _ _ _ F h
        have hrun : (execOp a.eval ⟨dst, .call ⟨.value f, args, argTypes⟩, type, pos, after, guard⟩).run P w = .ok (.enter g (us ++ args.map a.eval ++ vs)) w := by
          simp only [execOp, resolve, Sem.run_bind, Deferred.ofValue, hfe, Sem.run_pure, Result.andThen_ok, invoke, callFunc]
          simp only [program, Sem.run, pure, Result.andThen_ok, hfn, Sem.bind]
          have hb : fn.body.isNone = false := by cases hbb : fn.body <;> simp_all
          simp [hname, hb, Sem.run]
        unfold Oper.wp
        rw [hrun]
        have hargs : DenL m st.rows.length (first ++ (args.toList.map st.ev ++ cap)) (us ++ args.map a.eval ++ vs).toList := by
          have app : ∀ {l1 l2 : List AV} {v1 v2 : List Value}, DenL m st.rows.length l1 v1 → DenL m st.rows.length l2 v2 → DenL m st.rows.length (l1 ++ l2) (v1 ++ v2) := by
            intro l1
            induction l1 with
            | nil => intro l2 v1 v2 h1 h2; simp only [DenL] at h1; subst h1; simpa using h2
            | cons x l1 ih =>
              intro l2 v1 v2 h1 h2
              simp only [DenL] at h1
              obtain ⟨u, us, rfl, hd, hl⟩ := h1
              simp only [List.cons_append, DenL]
              exact ⟨u, _, rfl, hd, ih hl h2⟩
          have hm : DenL m st.rows.length (args.toList.map st.ev) (args.map a.eval).toList := by simpa using DenL.map_op hev args.toList
          have := app hus (app hm hvs)
          simpa [List.append_assoc] using this
        refine (hsafe m w m st.rows w F _ hargs hr.wr hf (Step.refl _ _ _) (.refl _ _ _ _)).mono ?_
        rintro e w' ⟨m', h', F', hW, hf', hle, hS, ⟨c, v, rfl, hk, hd⟩ | ⟨c, v, rfl, hk, hd⟩⟩
        · exact hK F' m' _ _ _ (forcedRows hk) (hr.put hS hW dst hd) hf' (hs.trans hS) (hl.trans hs hle)
        · exact hP a c v m' h' w' F' hr.defers hk hd hW hf' (hs.trans hS) (hl.trans hs hle)
      · exact ((hA _).bot h).elim
  all_goals exact both h

theorem guardOp0_okX (hA : ∀ F, HoldsB A (hold F)) (hT : TabOK P E.T) (hcall : CallOKX P E.R hold HP call) {ops : Array Oper} {o : Oper} {st : St} {k : St → α} {F : Fz} (h : hold F (guardOp0B A E call ops.toList o st k)) {m : Map} {a : Act} {w : World} (hr : RelX E.R ds m st a w)
    (hf : FzOK F m st.rows w) {m0 : Map} {h0 : Rows} {w0 : World} {F0 : Fz} (hs : Step m0 h0 w0 m st.rows w) (hl : F0.To m0 h0 w0 F) (K : Act → World → Prop) (Q : Exit → Act → World → Prop) (hP : PanicToX E.R ds HP m0 h0 w0 F0 Q)
    (hK : ∀ F' m' st' a' w', hold F' (k st') → RelX E.R ds m' st' a' w' → FzOK F' m' st'.rows w' → Step m0 h0 w0 m' st'.rows w' → F0.To m0 h0 w0 F' → K a' w') :
    (Region.wanted o (yielded ops a.tmps) = true ∧ o.wp P a w K Q) ∨ (Region.wanted o (yielded ops a.tmps) = false ∧ K (a.put o.dst undef) w) := by
  unfold guardOp0B at h
  have skip : ∀ st' : St, RelX E.R ds m st' a w → st'.rows = st.rows → hold F (k (St.put st' o.dst .undef)) → K (a.put o.dst undef) w := by
    intro st' hr' he hk
    refine hK F m _ _ _ hk (hr'.put (Step.refl _ _ _) hr'.wr o.dst (by simp [Den, DenL, undef])) (by show FzOK F m st'.rows w; rw [he]; exact hf) ?_ hl
    show Step m0 h0 w0 m st'.rows w
    rw [he]; exact hs
  cases hg : o.guard with
  | none =>
    rw [hg] at h
    exact .inl ⟨by simp [Region.wanted, hg], stepOp0_okX hA hT hcall h hr hf hs hl K Q hP hK⟩
  | some g =>
    obtain ⟨j, want⟩ := g
    rw [hg] at h
    simp only [] at h
    cases hd : (ops.toList[j]?).bind (·.dst) with
    | none => rw [hd] at h; exact ((hA _).bot h).elim
    | some d =>
      rw [hd] at h
      simp only [] at h
      have hd' : (ops[j]?).bind (·.dst) = some d := by simpa using hd
      have hev := hr.ev (.tmp d)
      simp only [St.ev, Act.eval, nthV_eq] at hev
      have hy : ∀ v : Value, a.tmps.getD d undef = v → d < a.tmps.size → yielded ops a.tmps j = (match v with | .bool b => some b | _ => none) := by
        intro v hv hlt
        unfold yielded
        rw [hd']
        simp only [Option.bind_some]
        rw [Array.getD_eq_getD_getElem?, Array.getElem?_eq_getElem hlt] at hv
        simp only [Option.getD_some] at hv
        rw [Array.getElem?_eq_getElem hlt, hv]
        cases v <;> rfl
      have hylt : ¬ d < a.tmps.size → yielded ops a.tmps j = none := by
        intro hlt
        unfold yielded
        rw [hd']
        simp only [Option.bind_some]
        rw [Array.getElem?_eq_none (Nat.le_of_not_lt hlt)]
      have hno : ∀ v : Value, a.tmps.getD d undef = v → (∀ b, v ≠ .bool b) → Region.wanted o (yielded ops a.tmps) = false := by
        intro v hv hne
        unfold Region.wanted
        rw [hg]
        simp only []
        by_cases hlt : d < a.tmps.size
        · rw [hy v hv hlt]
          cases v <;> first | rfl | exact absurd rfl (hne _)
        · rw [hylt hlt]; rfl
      split at h
      · rename_i b he
        rw [he] at hev
        simp only [Den] at hev
        have hlt : d < a.tmps.size := by
          rcases Nat.lt_or_ge d a.tmps.size with h1 | h1
          · exact h1
          · rw [Array.getD_eq_getD_getElem?, Array.getElem?_eq_none h1] at hev
            simp [undef] at hev
        have hyb := hy _ hev hlt
        simp only [] at hyb
        have hknown := hr.known (by simpa [St.ev, nthV_eq] using he)
        have hw : Region.wanted o (yielded ops a.tmps) = (b == want) := by
          unfold Region.wanted
          rw [hg]
          simp only [hyb]
          cases b <;> cases want <;> rfl
        rw [hw]
        rcases (hA _).br b _ _ h with ⟨rfl, hk⟩ | ⟨rfl, hk⟩
        · rcases hold_cond want _ _ hk with ⟨rfl, hk⟩ | ⟨rfl, hk⟩
          · exact .inl ⟨rfl, stepOp0_okX hA hT hcall hk hknown hf hs hl K Q hP hK⟩
          · exact .inr ⟨rfl, skip _ hknown rfl hk⟩
        · rcases hold_cond want _ _ hk with ⟨rfl, hk⟩ | ⟨rfl, hk⟩
          · exact .inr ⟨rfl, skip _ hknown rfl hk⟩
          · exact .inl ⟨rfl, stepOp0_okX hA hT hcall hk hknown hf hs hl K Q hP hK⟩
      · rename_i he
        rw [he] at hev
        simp only [Den] at hev
        obtain ⟨vs, hv, _⟩ := hev
        exact .inr ⟨hno _ hv (by simp), skip st hr rfl h⟩
      · rename_i he
        rw [he] at hev
        simp only [Den] at hev
        exact .inr ⟨hno _ hev (by simp), skip st hr rfl h⟩
      · rename_i he
        rw [he] at hev
        simp only [Den] at hev
        exact .inr ⟨hno _ hev (by simp), skip st hr rfl h⟩
      · exact ((hA _).bot h).elim

theorem runOps_okX (hA : ∀ F, HoldsB A (hold F)) (hT : TabOK P E.T) (hcall : CallOKX P E.R hold HP call) (ops : Array Oper) : ∀ (l : List Oper) (st : St) (k : St → α) (F : Fz), hold F (runOpsB A E call ops.toList l st k) →
    ∀ {m : Map} {a : Act} {w : World}, RelX E.R ds m st a w → FzOK F m st.rows w → ∀ {m0 : Map} {h0 : Rows} {w0 : World} {F0 : Fz}, Step m0 h0 w0 m st.rows w → F0.To m0 h0 w0 F →
      ∀ (Q : Exit → Act → World → Prop), PanicToX E.R ds HP m0 h0 w0 F0 Q → (∀ F' m' st' a' w', hold F' (k st') → RelX E.R ds m' st' a' w' → FzOK F' m' st'.rows w' → Step m0 h0 w0 m' st'.rows w' → F0.To m0 h0 w0 F' → Q .normal a' w') → wpList P ops Q l a w
  | [], st, k, F, h, m, a, w, hr, hf, m0, h0, w0, F0, hs, hl, Q, hP, hQ => wpList_nil (hQ F m st a w h hr hf hs hl)
  | o :: l, st, k, F, h, m, a, w, hr, hf, m0, h0, w0, F0, hs, hl, Q, hP, hQ => by
    simp only [runOpsB, guardOp_eqB] at h
    have := guardOp0_okX hA hT hcall h hr hf hs hl (wpList P ops Q l) Q hP (fun F' m' st' a' w' hk hr' hf' hs' hl' => runOps_okX hA hT hcall ops l st' k F' hk hr' hf' hs' hl' Q hP hQ)
    unfold wpList
    rcases this with ⟨hw, h1⟩ | ⟨hw, h1⟩
    · rw [if_pos hw]; exact .inl h1
    · rw [if_neg (by rw [hw]; simp)]; exact h1

end

section
variable {α : Type} {A : AnsB α} {E : Env α} {call : FuncId → List AV → Rows → (AV → Rows → α) → α} {ops : Array Oper} {hold : Fz → α → Prop} {P : Program} {HP : AV → Rows → Fz → Prop}
theorem stepW_okX (hA : ∀ F, HoldsB A (hold F)) (hT : TabOK P E.T) (hcall : CallOKX P E.R hold HP call) {o : Oper} {st : St} {k : AV → Rows → α} {F : Fz} (h : hold F (stepWB A E call o st k)) {m : Map} {a : Act} {w : World} (hr : Rel E.R m st a w)
    (hf : FzOK F m st.rows w) {m0 : Map} {h0 : Rows} {w0 : World} {F0 : Fz} (hs : Step m0 h0 w0 m st.rows w) (hl : F0.To m0 h0 w0 F) (K : Act → World → Prop) (Q : Exit → Act → World → Prop) (hP : PanicToX E.R [] HP m0 h0 w0 F0 Q)
    (hK : ∀ F' m' v rows a' w', hold F' (k v rows) → Rel E.R m' ⟨putT st.tmps o.dst v, rows⟩ a' w' → FzOK F' m' rows w' → Step m0 h0 w0 m' rows w' → F0.To m0 h0 w0 F' → K a' w') : o.wp P a w K Q := by
  have hev := hr.ev
  have both : hold F (match evW E.T E.R st.rows st.ev o with
      | .ok c v rows => A.br c (forceRows rows fun rows => k v rows) A.bot
      | .no => A.bot) → o.wp P a w K Q := by
    intro h
    cases hw : evW E.T E.R st.rows st.ev o with
    | no => rw [hw] at h; exact ((hA _).bot h).elim
    | ok c v rows =>
      rw [hw] at h
      rcases (hA _).br c _ _ h with ⟨hc, hk⟩ | ⟨_, hk⟩
      · have hk := forcedRows hk
        have := evW_ok hT hr.wr st.ev a.eval hev o
        rw [hw] at this
        obtain ⟨nx, cv, w', m', hrun, hn, hd, hW, hS⟩ := this hc
        unfold Oper.wp
        rw [hrun]
        cases nx <;> simp only [nextVal] at hn <;> try (cases hn; done)
        · cases hn
          exact hK F m' _ _ _ _ hk (hr.put hS hW o.dst hd) (hf.step hS) (hs.trans hS) hl
        · cases hn
          exact hK F m' _ _ _ _ hk (hr.put hS hW o.dst hd) (hf.step hS) (hs.trans hS) hl
      · exact ((hA _).bot hk).elim
  obtain ⟨dst, op, type, pos, after, guard⟩ := o
  cases op
  case assign x =>
    simp only [stepWB] at h
    have hrun : (execOp a.eval ⟨dst, .assign x, type, pos, after, guard⟩).run P w = .ok (.value (a.eval x)) w := rfl
    unfold Oper.wp
    rw [hrun]
    exact hK F m _ _ _ _ h (hr.put (Step.refl _ _ _) hr.wr dst (hev x)) hf hs hl
  case call c =>
    obtain ⟨callee, args, argTypes⟩ := c
    cases callee
    case builtin b => exact both h
    case invoke r mm => exact both h
    case value f =>
      simp only [stepWB] at h
      split at h
      · rename_i g first cap he
        have hf := hev f
        rw [he] at hf
        simp only [Den] at hf
        obtain ⟨us, vs, hfe, hus, hvs⟩ := hf
        have h := forced h
        obtain ⟨hsafe, fn, hfn, hbody, hname⟩ := hcall g _ _ _ F h
        have hrun : (execOp a.eval ⟨dst, .call ⟨.value f, args, argTypes⟩, type, pos, after, guard⟩).run P w = .ok (.enter g (us ++ args.map a.eval ++ vs)) w := by
          simp only [execOp, resolve, Sem.run_bind, Deferred.ofValue, hfe, Sem.run_pure, Result.andThen_ok, invoke, callFunc]
          simp only [program, Sem.run, pure, Result.andThen_ok, hfn, Sem.bind]
          have hb : fn.body.isNone = false := by cases hbb : fn.body <;> simp_all
          simp [hname, hb, Sem.run]
        unfold Oper.wp
        rw [hrun]
        have hargs : DenL m st.rows.length (first ++ (args.toList.map st.ev ++ cap)) (us ++ args.map a.eval ++ vs).toList := by
          have app : ∀ {l1 l2 : List AV} {v1 v2 : List Value}, DenL m st.rows.length l1 v1 → DenL m st.rows.length l2 v2 → DenL m st.rows.length (l1 ++ l2) (v1 ++ v2) := by
            intro l1
            induction l1 with
            | nil => intro l2 v1 v2 h1 h2; simp only [DenL] at h1; subst h1; simpa using h2
            | cons x l1 ih =>
              intro l2 v1 v2 h1 h2
              simp only [DenL] at h1
              obtain ⟨u, us, rfl, hd, hl⟩ := h1
              simp only [List.cons_append, DenL]
              exact ⟨u, _, rfl, hd, ih hl h2⟩
          have hm : DenL m st.rows.length (args.toList.map st.ev) (args.map a.eval).toList := by simpa using DenL.map_op hev args.toList
          have := app hus (app hm hvs)
          simpa [List.append_assoc] using this
        refine (hsafe m w m st.rows w F _ hargs hr.wr hf (Step.refl _ _ _) (.refl _ _ _ _)).mono ?_
        rintro e w' ⟨m', h', F', hW, hf', hle, hS, ⟨c, v, rfl, hk, hd⟩ | ⟨c, v, rfl, hk, hd⟩⟩
        · exact hK F' m' _ _ _ _ (forcedRows hk) (hr.put hS hW dst hd) hf' (hs.trans hS) (hl.trans hs hle)
        · exact hP a c v m' h' w' F' hr.defers hk hd hW hf' (hs.trans hS) (hl.trans hs hle)
      · exact ((hA _).bot h).elim
  all_goals exact both h

theorem guardW_okX (hA : ∀ F, HoldsB A (hold F)) (hT : TabOK P E.T) (hcall : CallOKX P E.R hold HP call) {o : Oper} {st : St} {k : AV → Rows → α} {F : Fz} (h : hold F (guardWB A E call ops o st k)) {m : Map} {a : Act} {w : World} (hr : Rel E.R m st a w)
    (hf : FzOK F m st.rows w) {m0 : Map} {h0 : Rows} {w0 : World} {F0 : Fz} (hs : Step m0 h0 w0 m st.rows w) (hl : F0.To m0 h0 w0 F) (K : Act → World → Prop) (Q : Exit → Act → World → Prop) (hP : PanicToX E.R [] HP m0 h0 w0 F0 Q)
    (hK : ∀ F' m' v rows a' w', hold F' (k v rows) → Rel E.R m' ⟨putT st.tmps o.dst v, rows⟩ a' w' → FzOK F' m' rows w' → Step m0 h0 w0 m' rows w' → F0.To m0 h0 w0 F' → K a' w') {i : Nat} (hi : ops[i]? = some o) : wpOp P ops Q i K a w := by
  unfold wpOp
  rw [hi]
  simp only []
  have skip : Region.wanted o (yielded ops a.tmps) = false → hold F (k .undef st.rows) → (if Region.wanted o (yielded ops a.tmps) = true then o.wp P a w K Q ∨ (o.asks P a w ∧ LetsOut Q) else K (a.put o.dst undef) w) := by
    intro hw hk
    rw [hw]
    simp only [Bool.false_eq_true, if_false]
    exact hK F m _ _ _ _ hk (hr.put (Step.refl _ _ _) hr.wr o.dst (by simp [Den, DenL, undef])) hf hs hl
  have run : Region.wanted o (yielded ops a.tmps) = true → hold F (stepWB A E call o st k) → (if Region.wanted o (yielded ops a.tmps) = true then o.wp P a w K Q ∨ (o.asks P a w ∧ LetsOut Q) else K (a.put o.dst undef) w) := by
    intro hw hk
    rw [if_pos hw]
    exact .inl (stepW_okX hA hT hcall hk hr hf hs hl K Q hP hK)
  unfold guardWB at h
  cases hg : o.guard with
  | none =>
    rw [hg] at h
    exact run (by simp [Region.wanted, hg]) h
  | some g =>
    obtain ⟨j, want⟩ := g
    rw [hg] at h
    simp only [] at h
    cases hd : (ops[j]?).bind (·.dst) with
    | none => rw [hd] at h; exact ((hA _).bot h).elim
    | some d =>
      rw [hd] at h
      simp only [] at h
      split at h
      · rename_i he
        have hw := wanted_bool hr hg hd he
        rcases hold_cond want _ _ h with ⟨rfl, hk⟩ | ⟨rfl, hk⟩
        · exact run (by rw [hw]; rfl) hk
        · exact skip (by rw [hw]; rfl) hk
      · rename_i he
        have hw := wanted_bool hr hg hd he
        rcases hold_cond want _ _ h with ⟨rfl, hk⟩ | ⟨rfl, hk⟩
        · exact skip (by rw [hw]; rfl) hk
        · exact run (by rw [hw]; rfl) hk
      all_goals first
        | exact ((hA _).bot h).elim
        | (rename_i he
           exact skip (wanted_not hr hg hd he trivial) h)

theorem drawGo_okX (hA : ∀ F, HoldsB A (hold F)) (hT : TabOK P E.T) (hcall : CallOKX P E.R hold HP call) (hn : neat ops = true) {k : St → α} {Q : Exit → Act → World → Prop} {m0 : Map} {h0 : Rows} {w0 : World} {F0 : Fz} (hP : PanicToX E.R [] HP m0 h0 w0 F0 Q)
    (hQ : ∀ F m st a w, hold F (k st) → Rel E.R m st a w → FzOK F m st.rows w → Step m0 h0 w0 m st.rows w → F0.To m0 h0 w0 F → Q .normal a w) :
    ∀ n La done st F, hold F (drawGoB A E call ops k n La done st) → ∀ fuel listed m a w, DInv E ops La done st listed m a w m0 h0 w0 → FzOK F m st.rows w → F0.To m0 h0 w0 F → cnt listed ≤ fuel → wpAny P .any ops Q fuel listed a w := by
  intro n
  induction n with
  | zero => intro La done st F h; exact ((hA _).bot h).elim
  | succ n ih =>
    intro La done st F h
    unfold drawGoB at h
    split at h
    · rename_i hrs
      intro fuel
      induction fuel with
      | zero =>
        intro listed m a w D hf hl hc
        refine any_intro hc (fun hr => hQ F m st a w h (D.done_rel hr) hf D.step hl) ?_
        intro i hi f' hf; omega
      | succ fuel ihf =>
        intro listed m a w D hf hl hc
        refine any_intro hc (fun hr => hQ F m st a w h (D.done_rel hr) hf D.step hl) ?_
        intro i hi f' hf hc'
        cases hf
        obtain ⟨_, _, o, ho, hdep⟩ := ready_spec hi
        by_cases hm : i ∈ La
        · exact D.pendStep hT hn hi hm fun a' D' => ihf _ m a' w D' hf hl hc'
        · have : i ∈ readyL ops La := mem_readyL.2 ⟨(Array.getElem?_eq_some_iff.1 ho).1, hm, o, ho, fun d hd => D.sub d (hdep d hd)⟩
          rw [hrs] at this; simp at this
    · rename_i i0 is hrs
      rcases tryL_okB (hA F) h with ⟨q, hq, o, v, ho, hv, hk⟩ | hk
      · intro fuel listed m a w D hf hl hc
        rw [← hrs] at hq
        exact ih _ _ _ F (by rw [putK_eq] at hk; exact hk) fuel listed m a w (D.quiet hn hq ho hv) hf hl hc
      · have hall := wAll_okB (hA F) hk
        have hready0 : ∀ {listed m a w}, DInv E ops La done st listed m a w m0 h0 w0 → Region.ready .any ops listed ≠ [] := by
          intro listed m a w D hr
          have hi0 : i0 ∈ readyL ops La := by rw [hrs]; simp
          obtain ⟨hlt, hnm, o, ho, hdep⟩ := mem_readyL.1 hi0
          have : i0 ∈ Region.ready .any ops listed := by
            refine mem_ready.2 ⟨?_, o, ho, fun e he hb => D.noPend hr _ (hdep _ (mem_deps.2 ⟨e, he, hb, rfl⟩))⟩
            have hl : listed.getD i0 false = false := by
              cases hh : listed.getD i0 false with
              | true => exact absurd (D.sub i0 hh) hnm
              | false => rfl
            have hsz : i0 < listed.size := by rw [D.size]; exact hlt
            rw [Array.getD_eq_getD_getElem?, Array.getElem?_eq_getElem hsz] at hl ⊢
            simpa using hl
          rw [hr] at this; simp at this
        intro fuel
        induction fuel with
        | zero =>
          intro listed m a w D hf hl hc
          refine any_intro hc (fun hr => absurd hr (hready0 D)) ?_
          intro i hi f' hf; omega
        | succ fuel ihf =>
          intro listed m a w D hf hl hc
          refine any_intro hc (fun hr => absurd hr (hready0 D)) ?_
          intro i hi f' hf hc'
          cases hf
          obtain ⟨hl1, hlst, o, ho, hdep⟩ := ready_spec hi
          by_cases hm : i ∈ La
          · exact D.pendStep hT hn hi hm fun a' D' => ihf _ m a' w D' hf hl hc'
          · have hi2 : i ∈ readyL ops La := mem_readyL.2 ⟨(Array.getElem?_eq_some_iff.1 ho).1, hm, o, ho, fun d hd => D.sub d (hdep d hd)⟩
            have hw := hall i (by rw [← hrs]; exact hi2)
            rw [ho] at hw
            simp only [] at hw
            obtain ⟨tb, hlen, htb, hrel⟩ := D.rel
            have hag := D.agree hn ho hdep htb
            rw [← guardW_congrB hag st.rows] at hw
            refine guardW_okX hA hT hcall hw hrel hf D.step hl _ Q hP ?_ ho
            intro F' m' v rows a' w' hk' hrel' hf' hs' hl'
            have hk' := (show hold F' _ by rw [putK_eq] at hk'; exact hk')
            obtain ⟨hgo, hre⟩ := recheck_okB (hA F') hk'
            refine ih _ _ _ F' hgo _ _ m' a' w' ?_ hf' hl' hc'
            have hsz : i < listed.size := by rw [D.size]; exact (Array.getElem?_eq_some_iff.1 ho).1
            have nodst : ∀ j p, j ∈ La → listed.getD j false = false → ops[j]? = some p → ∀ d, p.dst = some d → o.dst ≠ some d := by
              intro j p hj hlj hp d hd hod
              obtain ⟨p', u, hp', _, hqe, _⟩ := D.pend j hj hlj
              rw [hp] at hp'; cases hp'
              have hne : j ≠ i := fun e => hm (e ▸ hj)
              have := hdep j ((neat_look hn hp ho hd (qeval_has hqe).1).2 hne hod)
              rw [hlj] at this; exact absurd this (by simp)
            constructor
            · intro j hj
              rw [getD_set hsz] at hj
              by_cases e : j = i
              · subst e; simp
              · rw [if_neg e] at hj; exact List.mem_cons_of_mem _ (D.sub j hj)
            · simp [D.size]
            · intro j hj
              rcases List.mem_cons.1 hj with rfl | hj
              · exact (Array.getElem?_eq_some_iff.1 ho).1
              · exact D.inb j hj
            · intro j p hj hp d hd
              rw [getD_set hsz] at hj ⊢
              by_cases e : d = i
              · rw [if_pos e]
              · rw [if_neg e]
                by_cases e2 : j = i
                · subst e2
                  rw [ho] at hp; cases hp
                  exact hdep d hd
                · rw [if_neg e2] at hj
                  exact D.closed j p hj hp d hd
            · exact ⟨⟨o, ho, fun d hd => D.sub d (hdep d hd)⟩, D.ord⟩
            · intro j hj hlj
              rw [getD_set hsz] at hlj
              by_cases e : j = i
              · rw [if_pos e] at hlj; exact absurd hlj (by simp)
              · rw [if_neg e] at hlj
                have hj : j ∈ La := by
                  rcases List.mem_cons.1 hj with e2 | hj
                  · exact absurd e2 e
                  · exact hj
                obtain ⟨p, u, hp, hdone, hqe, hdst⟩ := D.pend j hj hlj
                obtain ⟨p', hp', hcase⟩ := hre j u hdone
                rw [hp] at hp'; cases hp'
                refine ⟨p, u, hp, hdone, ?_, ?_⟩
                · rcases hcase with h1 | ⟨h1, h2⟩ | h1
                  · have := ahead_mem D.closed ops.size j i (fun o' ho' => by rw [ho] at ho'; cases ho'; exact hdep) h1
                    rw [hlj] at this; exact absurd this (by simp)
                  · rw [qeval_mem h1 rows st.rows, qeval_congr (agree_put h2) st.rows]
                    exact hqe
                  · exact h1
                · intro d hd hlt
                  simp only [] at hlt
                  rw [putT_length] at hlt
                  rw [putT_get (nodst j p hj hlj hp d hd)]
                  exact hdst d hd hlt
            · refine ⟨putT tb o.dst v, by rw [putT_length, putT_length, hlen], ?_, hrel'⟩
              intro t ht
              by_cases e : o.dst = some t
              · rw [e]
                simp only [putT]
                rcases Nat.lt_or_ge t st.tmps.length with h1 | h1
                · rw [List.getElem?_set_self (by rw [hlen]; exact h1), List.getElem?_set_self h1]
                · rw [List.getElem?_eq_none (by simp [hlen]; exact h1), List.getElem?_eq_none (by simpa using h1)]
              · rw [putT_get e, putT_get e]
                refine htb t fun j p hj hlj hp => ht j p (List.mem_cons_of_mem _ hj) ?_ hp
                rw [getD_set hsz, if_neg (fun e2 => hm (by rw [← e2]; exact hj))]
                exact hlj
            · exact hs'

end

def DrawOKX {α : Type} (P : Program) (E : Env α) (ds : List Deferred) (hold : Fz → α → Prop) (HP : AV → Rows → Fz → Prop) (draw : Draw α) : Prop :=
  ∀ call, CallOKX P E.R hold HP call → ∀ id ops st (k : St → α) F, hold F (draw call ops st k) → ∀ m a w m0 h0 w0 F0, RelX E.R ds m st a w → FzOK F m st.rows w → Step m0 h0 w0 m st.rows w → F0.To m0 h0 w0 F →
    (Code.region id ops true).wp P (PostX E.R ds (fun e st' F' => e = .normal ∧ hold F' (k st')) HP m0 h0 w0 F0) a w

section
variable {α : Type} {A : AnsB α} {E : Env α} {hold : Fz → α → Prop} {P : Program} {HP : AV → Rows → Fz → Prop}
theorem drawAll_okX (hA : ∀ F, HoldsB A (hold F)) (hT : TabOK P E.T) (hm : P.follows .mixedOrders = true) : DrawOKX P E [] hold HP (drawAllB A E) := by
  intro call hcall id ops st k F h m a w m0 h0 w0 F0 hr hf hs hl
  have hr := hr.to
  unfold drawAllB at h
  cases hn : neat ops with
  | false => rw [hn] at h; exact ((hA _).bot h).elim
  | true =>
    rw [hn] at h
    simp only [cond_true] at h
    refine wp_region_any hm ?_
    refine drawGo_okX (m0 := m0) (h0 := h0) (w0 := w0) (F0 := F0) (Q := PostX E.R [] (fun e st' F' => e = .normal ∧ hold F' (k st')) HP m0 h0 w0 F0) hA hT hcall hn (postX_to _ _ _ _ _ _ _ _) ?_ _ _ _ _ _ h _ _ m _ _ ?_ ?_ hl ?_
    · intro F' m' st' a' w' hk hr' hf' hs' hl'
      exact ⟨m', st', F', trivial, ⟨rfl, hk⟩, .of hr', hf', hs', hl'⟩
    · have hW : WR E.R m st.rows { w with drawn := w.drawn + 1 } := hr.wr.same rfl
      constructor
      · intro i hi
        rw [Array.getD_eq_getD_getElem?] at hi
        rcases Nat.lt_or_ge i ops.size with h1 | h1
        · rw [Array.getElem?_eq_getElem (by simpa using h1)] at hi; simp at hi
        · rw [Array.getElem?_eq_none (by simpa using h1)] at hi; simp at hi
      · simp
      · intro i hi; simp at hi
      · intro i o hi
        rw [Array.getD_eq_getD_getElem?] at hi
        rcases Nat.lt_or_ge i ops.size with h1 | h1
        · rw [Array.getElem?_eq_getElem (by simpa using h1)] at hi; simp at hi
        · rw [Array.getElem?_eq_none (by simpa using h1)] at hi; simp at hi
      · trivial
      · intro i hi; simp at hi
      · exact ⟨st.tmps, rfl, fun _ _ => rfl, hr.size, hr.tmps, hr.defers, hW⟩
      · exact ⟨hs.os, hs.tape, hs.output, hs.size, hs.block, hs.len, hs.mu, hs.ro, hs.new⟩
    · exact ⟨hf.blk, hf.apart, hf.ro⟩
    · unfold cnt
      refine Nat.le_trans List.countP_le_length ?_
      simp
end

theorem SafeCallX.of_body {P : Program} {T : TypeId → Option TI} (hT : TabOK P T) {R : Nat → RoRow} {f : FuncId} {fi : FI} (hF : FnOK P f fi) {args : List AV} {h : Rows} {F : Fz} {Q HP : AV → Rows → Fz → Prop}
    (hb : SafeX P R [] fi.body ⟨enterT args fi.ntmps, h⟩ F (fun e st F' => (e = .normal ∨ e = .ret) ∧ ∃ vs, ResOK T R st fi.results vs ∧ Q (tupOf vs) st.rows F') HP) : SafeCallX P R f args h F Q HP := by
  obtain ⟨fn, hfn, hbody, hnt, hres, hname⟩ := hF.fn
  intro m w m0 h0 w0 F0 as has hW hf hS hTo
  refine calls_of_wp hfn hbody ?_
  have hlen := has.length
  simp only [Array.length_toList] at hlen
  have hrel : Rel R m ⟨enterT args fi.ntmps, h⟩ { tmps := as ++ Array.replicate (fn.ntmps - as.size) undef, defers := [] } w := by
    refine ⟨by simp [enterT, hnt, hlen], ?_, rfl, hW⟩
    intro i x hx
    simp only [enterT] at hx
    by_cases hi : i < args.length
    · rw [List.getElem?_append_left hi] at hx
      obtain ⟨c, hc, hd⟩ := has.get hx
      have hi2 : i < as.size := by omega
      refine ⟨c, ?_, hd⟩
      rw [Array.getElem?_append_left hi2]
      simpa using hc
    · rw [List.getElem?_append_right (by omega)] at hx
      have hx2 := List.getElem?_eq_some_iff.1 hx
      obtain ⟨hlt, hxe⟩ := hx2
      simp at hlt hxe
      subst hxe
      refine ⟨undef, ?_, by simp [Den, DenL, undef]⟩
      rw [Array.getElem?_append_right (by omega)]
      rw [Array.getElem?_replicate]
      rw [if_pos (by omega)]
  have good : ∀ m' st' F' a' w', (∃ vs, ResOK T R st' fi.results vs ∧ Q (tupOf vs) st'.rows F') → RelX R [] m' st' a' w' → FzOK F' m' st'.rows w' → Step m0 h0 w0 m' st'.rows w' → F0.To m0 h0 w0 F' →
      a'.defers = [] ∧ ∃ v, (results fn a'.tmps).run P w' = .ok v w' ∧ ∃ m' h' F', WR R m' h' w' ∧ FzOK F' m' h' w' ∧ F0.To m0 h0 w0 F' ∧ Step m0 h0 w0 m' h' w' ∧
        ((∃ c v', Ending.returned v = .returned c ∧ Q v' h' F' ∧ Den m' h'.length v' c) ∨ ∃ c v', Ending.returned v = .panicked [{ v := c, recovered := false }] ∧ HP v' h' F' ∧ Den m' h'.length v' c) := by
    rintro m' st' F' a' w' ⟨vs, hvs, hq⟩ hr' hf' hs' hl'
    have hr' := hr'.to
    obtain ⟨c, hfin, hden⟩ : ∃ c, (results fn a'.tmps).run P w' = .ok c w' ∧ Den m' st'.rows.length (tupOf vs) c := by
      have hres' : ∃ F : ResultVar → Sem Value, (∀ t, F (.tmp t) = pure (a'.tmps.getD t undef)) ∧ (∀ x t, F (.cell x t) = do loadVar t (← asAddr (a'.tmps.getD x undef))) ∧
          results fn a'.tmps = (do let vs ← fn.results.mapM F; pure (if h : vs.size = 1 then vs[0] else .tuple vs)) := ⟨_, fun _ => rfl, fun _ _ => rfl, rfl⟩
      obtain ⟨F, hF1, hF2, hres'⟩ := hres'
      rw [hres', hres]
      simp only [Sem.run_bind]
      rw [List.mapM_toArray]
      simp only [Sem.run_map]
      obtain ⟨cs, hcs, hd⟩ := res_run hT hr' F hF1 hF2 hvs
      rw [hcs]
      simp only [Result.andThen_ok, Sem.run_pure]
      refine ⟨_, rfl, ?_⟩
      cases vs with
      | nil =>
        simp only [DenL] at hd
        subst hd
        simp [tupOf, Den, DenL]
      | cons v vs =>
        simp only [DenL] at hd
        obtain ⟨u, us, rfl, h1, h2⟩ := hd
        cases vs with
        | nil =>
          simp only [DenL] at h2
          subst h2
          simpa [tupOf] using h1
        | cons v2 vs =>
          simp only [DenL] at h2
          obtain ⟨u2, us, rfl, h2, h3⟩ := h2
          simp only [tupOf, Den]
          refine ⟨(u :: u2 :: us).toArray, by simp, ?_⟩
          simp only [DenL]
          exact ⟨u, _, rfl, h1, u2, us, rfl, h2, h3⟩
    exact ⟨hr'.defers, _, hfin, m', st'.rows, F', hr'.wr, hf', hl', hs', .inl ⟨_, _, rfl, hq, hden⟩⟩
  refine wp_mono (hb m _ w m0 h0 w0 F0 (.of hrel) hf hS hTo) ?_
  intro e a' w' hpost
  cases e with
  | panic ch => obtain ⟨m', h', v, c, F', rfl, h2, h3, h4, h5, h6, h7, h8⟩ := hpost; exact ⟨h8, m', h', F', h4, h5, h7, h6, .inr ⟨c, v, rfl, h2, h3⟩⟩
  | exit id => obtain ⟨_, _, _, _, ⟨he, _⟩, _⟩ := hpost; cases he with | inl h => cases h | inr h => cases h
  | goto l => obtain ⟨_, _, _, h, _⟩ := hpost; exact h.elim
  | outgrown => obtain ⟨_, _, _, h, _⟩ := hpost; exact h.elim
  | normal => obtain ⟨m', st', F', hok, ⟨he, hv⟩, hr', hf', hs', hl'⟩ := hpost; exact good m' st' F' _ _ hv hr' hf' hs' hl'
  | ret => obtain ⟨m', st', F', hok, ⟨he, hv⟩, hr', hf', hs', hl'⟩ := hpost; exact good m' st' F' _ _ hv hr' hf' hs' hl'

structure EnvOKX {α : Type} (P : Program) (E : Env α) (ds : List Deferred) (hold : Fz → α → Prop) (HP : AV → Rows → Fz → Prop) : Prop where
  T : TabOK P E.T
  F : ∀ f fi, E.F f = some fi → FnOK P f fi
  calls : ∀ f spec, E.calls f = some spec → ∀ args h k F, hold F (spec args h k) → SafeCallX P E.R f args h F (fun v h' F' => hold F' (k v h')) HP ∧ ∃ fn, P.funcs[f]? = some fn ∧ fn.body.isSome = true ∧ (fn.name == "runtime.NumGoroutine") = false
  loops : ∀ f id spec, E.loops f id = some spec → ∀ body, (id, body) ∈ E.subsOf f → ∀ st k F, hold F (spec st k) → SafeX P E.R ds (.block id body) st F (fun e st' F' => hold F' (k e st')) HP

section
variable {α : Type} {A : AnsB α} {E : Env α} {draw : Draw α} {hold : Fz → α → Prop} {P : Program} {HP : AV → Rows → Fz → Prop} {ds : List Deferred}

theorem code_okX (hA : ∀ F, HoldsB A (hold F)) (hE0 : EnvOKX P E [] hold HP) (hE : EnvOKX P E ds hold HP) (hD0 : DrawOKX P E [] hold HP draw) (hD : DrawOKX P E ds hold HP draw) : ∀ (n : Nat) (ds' : List Deferred), (ds' = [] ∨ ds' = ds) → ∀ (f : FuncId) (c : Code) (st : St) (k : Exit → St → α) (F : Fz), (∀ p ∈ subs c, p ∈ E.subsOf f) → hold F (codeB A E draw n f c st k) →
    SafeX P E.R ds' c st F (fun e st' F' => hold F' (k e st')) HP := by
  intro n
  induction n using Nat.strongRecOn with
  | ind n IH =>
   cases n with
   | zero => intro ds' _ f c st k F _ h; exact ((hA _).bot h).elim
   | succ n =>
    have ih := IH n (Nat.lt_succ_self n)
    intro ds' hds f c st k F hsub h
    have hE' : EnvOKX P E ds' hold HP := by rcases hds with rfl | rfl <;> assumption
    have hD' : DrawOKX P E ds' hold HP draw := by rcases hds with rfl | rfl <;> assumption
    -- the calls
    have hcall : CallOKX P E.R hold HP (fun g args rows k => match E.calls g with
      | some spec => spec args rows k
      | none => match E.F g with
        | none => A.bot
        | some fi => forceL (enterT args fi.ntmps) fun ts => codeB A E draw n g fi.body ⟨ts, rows⟩ fun e st => match e with
          | .normal | .ret => resKB A E st fi.results fun v => k v st.rows
          | _ => A.bot) := by
      intro g args rows k F hk
      simp only [] at hk
      cases hc : E.calls g with
      | some spec => rw [hc] at hk; exact hE0.calls g spec hc args rows k F hk
      | none =>
        rw [hc] at hk
        simp only [] at hk
        cases hf : E.F g with
        | none => rw [hf] at hk; exact ((hA _).bot hk).elim
        | some fi =>
          rw [hf] at hk
          have hk := forced hk
          have hF := hE0.F g fi hf
          have hb := ih [] (.inl rfl) g fi.body _ _ F (fun p hp => by unfold Env.subsOf; rw [hf]; exact hp) hk
          obtain ⟨fn, h1, h2, h3, h4, h5⟩ := hF.fn
          refine ⟨SafeCallX.of_body hE0.T hF (hb.mono ?_ (fun _ _ _ h => h)), fn, h1, by rw [h2]; rfl, h5⟩
          intro e st' F' he
          cases e <;> first
            | exact ⟨.inl rfl, resL_okB (hA F') he⟩
            | exact ⟨.inr rfl, resL_okB (hA F') he⟩
            | exact ((hA _).bot he).elim
    intro m a w m0 h0 w0 F0 hr hf hs hl
    cases c with
    | skip => exact wp_skip ⟨m, st, F, trivial, h, hr, hf, hs, hl⟩
    | label l => exact wp_label ⟨m, st, F, trivial, h, hr, hf, hs, hl⟩
    | exit id => exact wp_exit ⟨m, st, F, trivial, h, hr, hf, hs, hl⟩
    | ret => exact wp_ret ⟨m, st, F, trivial, h, hr, hf, hs, hl⟩
    | seq x y =>
      have hx := ih ds' hds f x st _ F (fun p hp => hsub p (by simp [subs, hp])) h
      refine wp_seq (wp_mono (hx m a w m0 h0 w0 F0 hr hf hs hl) ?_)
      intro e a' w' hpost
      cases e with
      | panic ch => exact hpost
      | goto l => obtain ⟨_, _, _, h, _⟩ := hpost; exact h.elim
      | outgrown => obtain ⟨_, _, _, h, _⟩ := hpost; exact h.elim
      | normal => obtain ⟨m', st', F', hok, hq, hr', hf', hs', hl'⟩ := hpost; exact ih ds' hds f y st' k F' (fun p hp => hsub p (by simp [subs, hp])) hq m' a' w' m0 h0 w0 F0 hr' hf' hs' hl'
      | _ => exact hpost
    | cond x y z =>
      have hev := hr.ev x
      simp only [codeB, setBoolK_eq] at h
      split at h
      · rename_i b he
        rw [he] at hev
        simp only [Den] at hev
        have hset : RelX E.R ds' m (setBool st x b) a w ∧ (setBool st x b).rows = st.rows := by
          cases x with
          | tmp d => exact ⟨hr.known (by simpa [St.ev, nthV_eq] using he), rfl⟩
          | _ => exact ⟨hr, rfl⟩
        rcases (hA _).br b _ _ h with ⟨rfl, hk⟩ | ⟨rfl, hk⟩
        · exact wp_cond_true hev (ih ds' hds f y _ k F (fun p hp => hsub p (by simp [subs, hp])) hk m a w m0 h0 w0 F0 hset.1 (by rw [hset.2]; exact hf) (by rw [hset.2]; exact hs) hl)
        · exact wp_cond_false hev (ih ds' hds f z _ k F (fun p hp => hsub p (by simp [subs, hp])) hk m a w m0 h0 w0 F0 hset.1 (by rw [hset.2]; exact hf) (by rw [hset.2]; exact hs) hl)
      · exact ((hA _).bot h).elim
    | block id body =>
      simp only [codeB] at h
      cases hlp : E.loops f id with
      | some spec =>
        rw [hlp] at h
        exact hE'.loops f id spec hlp body (hsub _ (by simp [subs])) st k F h m a w m0 h0 w0 F0 hr hf hs hl
      | none =>
        rw [hlp] at h
        have hb := ih ds' hds f body st _ F (fun p hp => hsub p (by simp [subs, hp])) h
        refine wp_block (wp_mono (hb m a w m0 h0 w0 F0 hr hf hs hl) ?_)
        intro e a' w' hpost
        cases e with
        | panic ch => exact hpost
        | goto l => obtain ⟨_, _, _, h, _⟩ := hpost; exact h.elim
        | outgrown => obtain ⟨_, _, _, h, _⟩ := hpost; exact h.elim
        | normal => exact hpost
        | ret => exact hpost
        | exit id' =>
          obtain ⟨m', st', F', hok, hq, hr', hf', hs', hl'⟩ := hpost
          simp only [Exit.inBlock]
          by_cases hid : id' = id
          · rw [if_pos hid]
            subst hid
            simp only [Nat.beq_refl, cond_true] at hq
            exact ⟨m', st', F', trivial, hq, hr', hf', hs', hl'⟩
          · rw [if_neg hid]
            have : Nat.beq id' id = false := by rw [Bool.eq_false_iff]; exact fun e => hid (Nat.eq_of_beq_eq_true e)
            simp only [this, cond_false] at hq
            exact ⟨m', st', F', trivial, hq, hr', hf', hs', hl'⟩
    | loop body =>
      -- rounds
      have key : ∀ (j : Nat), j ≤ n + 1 → ∀ (st : St) F, hold F (codeB A E draw j f (.loop body) st k) → ∀ m a w, RelX E.R ds' m st a w → FzOK F m st.rows w → Step m0 h0 w0 m st.rows w → F0.To m0 h0 w0 F →
          Code.rounds P body (PostX E.R ds' (fun e st' F' => hold F' (k e st')) HP m0 h0 w0 F0) j a w := by
        intro j
        induction j with
        | zero => intro _ st F h m a w _ _; exact ((hA _).bot h).elim
        | succ j ihj =>
          intro hj st F h m a w hr hf hs hl
          rw [rounds_succ]
          simp only [codeB] at h
          refine wp_mono (IH j (by omega) ds' hds f body st _ F (fun p hp => hsub p (by simpa [subs] using hp)) h m a w m0 h0 w0 F0 hr hf hs hl) ?_
          intro e a' w' hpost
          cases e with
          | normal => obtain ⟨m', st', F', hok, hq, hr', hf', hs', hl'⟩ := hpost; exact ihj (by omega) st' F' hq m' a' w' hr' hf' hs' hl'
          | goto l => obtain ⟨_, _, _, h, _⟩ := hpost; exact h.elim
          | outgrown => obtain ⟨_, _, _, h, _⟩ := hpost; exact h.elim
          | panic ch => exact hpost
          | exit id => exact hpost
          | ret => exact hpost
      exact wp_loop_rounds (n + 1) (key (n + 1) (Nat.le_refl _) st F h m a w hr hf hs hl)
    | region id ops d =>
      cases d with
      | false =>
        refine wp_region_list ?_
        exact runOps_okX hA hE.T hcall ops ops.toList st _ F h hr hf hs hl _ (postX_to _ _ _ _ _ _ _ _) (fun F' m' st' a' w' hk hr' hf' hs' hl' => ⟨m', st', F', trivial, hk, hr', hf', hs', hl'⟩)
      | true =>
        refine wp_mono (hD' _ hcall id ops st _ F h m a w m0 h0 w0 F0 hr hf hs hl) fun e a' w' hp => hp.mono ?_ (fun _ _ _ _ h => h)
        rintro e st' F' _ ⟨rfl, hk⟩
        exact hk
    | scope b => exact ((hA _).bot h).elim
    | goto l => exact ((hA _).bot h).elim
    | refuse why => exact ((hA _).bot h).elim
    | rangeFunc g ps as' b => exact ((hA _).bot h).elim

end
end Go.Dc
end
section
set_option linter.unusedSimpArgs false
set_option linter.unusedVariables false
namespace Go.Dc

def ansX : AnsB (Fz → Prop) := { bot := fun _ => False, both := fun x y F => x F ∧ y F, eqv := fun u v x F => u = v ∧ x F, br := fun b x y F => cond b (x F) (y F) }
abbrev atF (F : Fz) (x : Fz → Prop) : Prop := x F
theorem ansX_holds (F : Fz) : HoldsB ansX (atF F) := ⟨fun h => h, fun _ _ h => h, fun _ _ _ h => h, fun b x y h => by cases b with | true => exact .inl ⟨rfl, h⟩ | false => exact .inr ⟨rfl, h⟩⟩
abbrev CallSpecX := List AV → Rows → (AV → Rows → Fz → Prop) → Fz → Prop
abbrev LoopSpX := St → (Exit → St → Fz → Prop) → Fz → Prop
abbrev EnvX := Env (Fz → Prop)
abbrev OKX (P : Program) (E : EnvX) (ds : List Deferred) (HP : AV → Rows → Fz → Prop) : Prop := EnvOKX P E ds atF HP

def EnvX.base (T : TypeId → Option TI) (F : FuncId → Option FI) (R : Nat → RoRow) : EnvX := ⟨T, R, F, fun _ => none, fun _ _ => none⟩
theorem OKX.base {P : Program} {T : TypeId → Option TI} {F : FuncId → Option FI} {R : Nat → RoRow} {ds : List Deferred} {HP : AV → Rows → Fz → Prop} (hT : TabOK P T) (hF : ∀ f fi, F f = some fi → FnOK P f fi) : OKX P (EnvX.base T F R) ds HP :=
  ⟨hT, hF, fun f spec h => by simp [EnvX.base] at h, fun f i spec h => by simp [EnvX.base] at h⟩
def EnvX.addCall (E : EnvX) (f : FuncId) (spec : CallSpecX) : EnvX :=
  { E with calls := fun g => bif Nat.beq f g then some spec else E.calls g }
theorem OKX.addCall {P : Program} {E : EnvX} {ds : List Deferred} {HP : AV → Rows → Fz → Prop} (h : OKX P E ds HP) {f : FuncId} {spec : CallSpecX} {fi : FI} (hF : E.F f = some fi) (hs : ∀ args h k F, spec args h k F → SafeCallX P E.R f args h F k HP) : OKX P (E.addCall f spec) ds HP where
  T := h.T
  F := h.F
  calls := fun g sp hg args rows k F hk => by
    simp only [EnvX.addCall] at hg
    cases hb : Nat.beq f g with
    | true =>
      rw [hb] at hg
      simp only [cond_true, Option.some.injEq] at hg
      have := Nat.eq_of_beq_eq_true hb
      subst this; subst hg
      obtain ⟨fn, h1, h2, _, _, h5⟩ := (h.F f fi hF).fn
      exact ⟨hs args rows k F hk, fn, h1, by rw [h2]; rfl, h5⟩
    | false =>
      rw [hb] at hg
      exact h.calls g sp hg args rows k F hk
  loops := h.loops
/-- A contract of a call that nothing panics in. -/
def liftC (spec : CallSpec) : CallSpecX := fun args h k F => spec args h fun v h' => k v h' F
theorem liftC_ok {P : Program} {R : Nat → RoRow} {f : FuncId} {spec : CallSpec} {HP : AV → Rows → Fz → Prop} (hs : ∀ args h k, spec args h k → SafeCall P R f args h k) : ∀ args h k F, liftC spec args h k F → SafeCallX P R f args h F k HP :=
  fun args h k F hk => (hs args h _ hk).toX fun _ _ h => h
def EnvX.addLoop (E : EnvX) (f : FuncId) (id : Nat) (spec : LoopSpX) : EnvX :=
  { E with loops := fun g i => bif Nat.beq f g && Nat.beq id i then some spec else E.loops g i }
theorem OKX.addLoop {P : Program} {E : EnvX} {ds : List Deferred} {HP : AV → Rows → Fz → Prop} (h : OKX P E ds HP) {f : FuncId} {i : Nat} {spec : LoopSpX} {fi : FI} (hF : E.F f = some fi) {body : Code} (hb : blockOf fi i = some body)
    (hs : ∀ st k F, spec st k F → SafeX P E.R ds (.block i body) st F k HP) : OKX P (E.addLoop f i spec) ds HP where
  T := h.T
  F := h.F
  calls := h.calls
  loops := fun g j sp hg b hmem st k F hk => by
    simp only [EnvX.addLoop] at hg
    cases hbb : (Nat.beq f g && Nat.beq i j) with
    | true =>
      rw [hbb] at hg
      simp only [cond_true, Option.some.injEq] at hg
      simp only [Bool.and_eq_true] at hbb
      have e1 := Nat.eq_of_beq_eq_true hbb.1
      have e2 := Nat.eq_of_beq_eq_true hbb.2
      subst e1; subst e2; subst hg
      have hm : (i, b) ∈ subs fi.body := by
        have : (i, b) ∈ E.subsOf f := hmem
        unfold Env.subsOf at this
        rwa [hF] at this
      have : b = body := by
        unfold blockOf at hb
        have hf : (i, b) ∈ (subs fi.body).filter fun p => Nat.beq p.1 i := by simp [hm]
        split at hb
        · rename_i j' b' he
          rw [he] at hf
          simp at hf hb
          exact hf.2.trans hb
        · exact absurd hb (by simp)
      subst this
      exact hs st k F hk
    | false =>
      rw [hbb] at hg
      exact h.loops g j sp hg b hmem st k F hk

theorem subs_sub : ∀ (c : Code) (p : Nat × Code), p ∈ subs c → ∀ q ∈ subs p.2, q ∈ subs c := by
  intro c
  induction c with
  | block id b ih =>
    intro p hp q hq
    simp only [subs, List.mem_cons] at hp ⊢
    rcases hp with rfl | hp
    · exact .inr hq
    · exact .inr (ih p hp q hq)
  | seq x y ihx ihy =>
    intro p hp q hq
    simp only [subs, List.mem_append] at hp ⊢
    rcases hp with hp | hp
    · exact .inl (ihx p hp q hq)
    · exact .inr (ihy p hp q hq)
  | cond x y z ihx ihy =>
    intro p hp q hq
    simp only [subs, List.mem_append] at hp ⊢
    rcases hp with hp | hp
    · exact .inl (ihx p hp q hq)
    · exact .inr (ihy p hp q hq)
  | loop b ih => exact ih
  | rangeFunc g ps x y ihx ihy =>
    intro p hp q hq
    simp only [subs, List.mem_append] at hp ⊢
    rcases hp with hp | hp
    · exact .inl (ihx p hp q hq)
    · exact .inr (ihy p hp q hq)
  | _ => intro p hp; simp [subs] at hp
theorem blockOf_sub {fi : FI} {i : Nat} {b : Code} (hb : blockOf fi i = some b) : ∀ q ∈ subs b, q ∈ subs fi.body := by
  have hm : (i, b) ∈ subs fi.body := by
    unfold blockOf at hb
    split at hb
    · rename_i j' b' he
      simp only [Option.some.injEq] at hb
      subst hb
      have : (j', b') ∈ (subs fi.body).filter fun p => Nat.beq p.1 i := by rw [he]; simp
      simp only [List.mem_filter] at this
      obtain ⟨h1, h2⟩ := this
      have := Nat.eq_of_beq_eq_true h2
      subst this
      exact h1
    · exact absurd hb (by simp)
  exact subs_sub fi.body (i, b) hm

/-- The condition of a function, of a loop's round. -/
def vcx (E : EnvX) (n : Nat) (f : FuncId) (fi : FI) (args : List AV) (h : Rows) (Q : AV → Rows → Fz → Prop) : Fz → Prop :=
  codeB ansX E (drawAllB ansX E) n f fi.body ⟨enterT args fi.ntmps, h⟩ fun e st => match e with
    | .normal | .ret => resKB ansX E st fi.results fun v => Q v st.rows
    | _ => fun _ => False
def rnx (E : EnvX) (n : Nat) (f : FuncId) (c : Code) (st : St) (k : Exit → St → Fz → Prop) : Fz → Prop := codeB ansX E (drawAllB ansX E) n f c st k

section
variable {P : Program} {E : EnvX} {HP : AV → Rows → Fz → Prop}
theorem SafeX.rnx (hm : P.follows .mixedOrders = true) (hE : OKX P E [] HP) {f : FuncId} {c : Code} (hc : ∀ p ∈ subs c, p ∈ E.subsOf f) {st : St} {F : Fz} {k : Exit → St → Fz → Prop} (n : Nat)
    (hk : Dc.rnx E n f c st k F) : SafeX P E.R [] c st F k HP :=
  code_okX ansX_holds hE hE (drawAll_okX ansX_holds hE.T hm) (drawAll_okX ansX_holds hE.T hm) n [] (.inl rfl) f c st k F hc hk
theorem SafeX.round (hm : P.follows .mixedOrders = true) (hE : OKX P E [] HP) {f : FuncId} {fi : FI} (hF : E.F f = some fi) {i : Nat} {b c : Code} (hb : blockOf fi i = some b) (hc : subs c = subs b) {st : St} {F : Fz} {k : Exit → St → Fz → Prop} (n : Nat)
    (hk : Dc.rnx E n f c st k F) : SafeX P E.R [] c st F k HP :=
  SafeX.rnx hm hE (fun p hp => by unfold Env.subsOf; rw [hF]; rw [hc] at hp; exact blockOf_sub hb p hp) n hk
theorem SafeCallX.vcx (hm : P.follows .mixedOrders = true) (hE : OKX P E [] HP) {f : FuncId} {fi : FI} (hF : E.F f = some fi) {args : List AV} {h : Rows} {F : Fz} {Q : AV → Rows → Fz → Prop} (n : Nat)
    (hk : Dc.vcx E n f fi args h Q F) : SafeCallX P E.R f args h F Q HP := by
  refine SafeCallX.of_body hE.T (hE.F f fi hF) ((SafeX.rnx hm hE (f := f) (fun p hp => by unfold Env.subsOf; rw [hF]; exact hp) n hk).mono ?_ fun _ _ _ h => h)
  intro e st' F' he
  cases e <;> first
    | exact ⟨.inl rfl, resL_okB (ansX_holds F') he⟩
    | exact ⟨.inr rfl, resL_okB (ansX_holds F') he⟩
    | exact he.elim
end

/-! ### Views -/
theorem FzOK.view {F : Fz} {m : Map} {f : Nat → Option Nat} {hL h : Rows} {w : World} (hf : FzOK F m h w) (hV : View f hL h) : FzOK F (m.view f hL.es) hL w where
  blk := hf.blk
  apart := fun c r hc hv => by
    obtain ⟨b, r', h1, h2, h3, h4⟩ := hV.real hc hv
    rw [h4] at hv ⊢
    exact hf.apart b r' h2 hv
  ro := hf.ro
theorem RelX.view {R : Nat → RoRow} {ds : List Deferred} {m : Map} {f : Nat → Option Nat} {stL st : St} {a : Act} {w : World} (h : RelX R ds m st a w) (hV : StV f stL st) : RelX R ds (m.view f stL.rows.es) stL a w := by
  have := h.bare.view hV
  exact ⟨this.size, this.tmps, h.defers, this.wr⟩

/-- A state may be seen as another one: fewer rows, some of them frozen. The first 'nk' rows keep their numbers. -/
def ToX (R : Nat → RoRow) (ds : List Deferred) (nk : Nat) (st : St) (F : Fz) (S : St → Fz → Prop) : Prop :=
  ∀ m a w m0 h0 w0 (F0 : Fz), h0.length ≤ nk → RelX R ds m st a w → FzOK F m st.rows w → Step m0 h0 w0 m st.rows w → F0.To m0 h0 w0 F →
    ∃ m' st' F', S st' F' ∧ RelX R ds m' st' a w ∧ FzOK F' m' st'.rows w ∧ Step m0 h0 w0 m' st'.rows w ∧ F0.To m0 h0 w0 F'
section
variable {R : Nat → RoRow} {ds : List Deferred} {nk : Nat} {st stE : St} {F : Fz} {S S' : St → Fz → Prop}
theorem ToX.here (h : S st F) : ToX R ds nk st F S := fun m a w m0 h0 w0 F0 _ hr hf hs hl => ⟨m, st, F, h, hr, hf, hs, hl⟩
theorem ToX.mono (h : ToX R ds nk st F S) (hq : ∀ st F, S st F → S' st F) : ToX R ds nk st F S' := fun m a w m0 h0 w0 F0 hn hr hf hs hl =>
  let ⟨m', st', F', h1, h2⟩ := h m a w m0 h0 w0 F0 hn hr hf hs hl
  ⟨m', st', F', hq _ _ h1, h2⟩
theorem ToX.fit (hF : Fit nk stE st) (h : ToX R ds nk stE F S) : ToX R ds nk st F S := by
  obtain ⟨f, hV, hf, hl⟩ := hF
  intro m a w m0 h0 w0 F0 hn hr hF hs hl0
  exact h _ a w m0 h0 w0 F0 hn (hr.view hV) (hF.view hV.rows) (hs.forget hV.rows (fun c hc => hf c (Nat.lt_of_lt_of_le hc hn)) (Nat.le_trans hn hl)) hl0
theorem ToX.bind (h : ToX R ds nk st F S) (hq : ∀ st F, S st F → ToX R ds nk st F S') : ToX R ds nk st F S' := by
  intro m a w m0 h0 w0 F0 hn hr hF hs hl
  obtain ⟨m', st', F', h1, hr', hF', hs', hl'⟩ := h m a w m0 h0 w0 F0 hn hr hF hs hl
  exact hq _ _ h1 m' a w m0 h0 w0 F0 hn hr' hF' hs' hl'
theorem SafeX.pre {P : Program} {c : Code} {Q : Exit → St → Fz → Prop} {HP : AV → Rows → Fz → Prop} (h : ToX R ds st.rows.length st F fun st' F' => SafeX P R ds c st' F' Q HP) : SafeX P R ds c st F Q HP := by
  intro m a w m0 h0 w0 F0 hr hf hs hl
  obtain ⟨m', st', F', h1, hr', hF', hs', hl'⟩ := h m a w m0 h0 w0 F0 hs.len hr hf hs hl
  exact h1 m' a w m0 h0 w0 F0 hr' hF' hs' hl'
theorem SafeX.post {P : Program} {c : Code} {Q Q' : Exit → St → Fz → Prop} {HP : AV → Rows → Fz → Prop} (h : SafeX P R ds c st F Q HP) (hq : ∀ e st' F', F.le F' → Q e st' F' → ToX R ds st.rows.length st' F' (Q' e)) : SafeX P R ds c st F Q' HP := by
  intro m a w m0 h0 w0 F0 hr hf hs hl
  refine wp_mono (h m a w m st.rows w F hr hf (Step.refl _ _ _) (.refl _ _ _ _)) ?_
  intro e a' w' hp
  cases e with
  | panic ch => obtain ⟨m', h', v, c, F', h1, h2, h3, h4, h5, h6, h7, h8⟩ := hp; exact ⟨m', h', v, c, F', h1, h2, h3, h4, h5, hs.trans h6, hl.trans hs h7, h8⟩
  | goto l => obtain ⟨_, _, _, h, _⟩ := hp; exact h.elim
  | outgrown => obtain ⟨_, _, _, h, _⟩ := hp; exact h.elim
  | _ =>
    obtain ⟨m', st', F', h1, h2, h3, h4, h5, h6⟩ := hp
    obtain ⟨m2, st2, F2, q1, q2, q3, q4, q5⟩ := hq _ _ _ h6.le h2 m' a' w' m st.rows w F (Nat.le_refl _) h3 h4 h5 h6
    exact ⟨m2, st2, F2, h1, q1, q2, q3, hs.trans q4, hl.trans hs q5⟩
end

/-- An answer, with the rows behind it, seen otherwise. -/
def ToV (R : Nat → RoRow) (nk : Nat) (v : AV) (h : Rows) (F : Fz) (S : AV → Rows → Fz → Prop) : Prop :=
  ∀ m (c : Value) w m0 h0 w0 (F0 : Fz), h0.length ≤ nk → Den m h.length v c → WR R m h w → FzOK F m h w → Step m0 h0 w0 m h w → F0.To m0 h0 w0 F →
    ∃ m' v' h' F', S v' h' F' ∧ Den m' h'.length v' c ∧ WR R m' h' w ∧ FzOK F' m' h' w ∧ Step m0 h0 w0 m' h' w ∧ F0.To m0 h0 w0 F'
section
variable {R : Nat → RoRow} {nk : Nat} {v vE : AV} {h hE : Rows} {F : Fz} {S S' : AV → Rows → Fz → Prop}
theorem ToV.here (hh : S v h F) : ToV R nk v h F S := fun m c w m0 h0 w0 F0 _ hd hW hf hs hl => ⟨m, v, h, F, hh, hd, hW, hf, hs, hl⟩
theorem ToV.mono (hh : ToV R nk v h F S) (hq : ∀ v h F, S v h F → S' v h F) : ToV R nk v h F S' := fun m c w m0 h0 w0 F0 hn hd hW hf hs hl =>
  let ⟨m', v', h', F', h1, h2⟩ := hh m c w m0 h0 w0 F0 hn hd hW hf hs hl
  ⟨m', v', h', F', hq _ _ _ h1, h2⟩
theorem ToV.fit (hF : FitV nk vE hE v h) (hh : ToV R nk vE hE F S) : ToV R nk v h F S := by
  obtain ⟨f, hV, hv, hf, hl⟩ := hF
  intro m c w m0 h0 w0 F0 hn hd hW hF hs hl0
  exact hh _ c w m0 h0 w0 F0 hn (hv.den _ _ _ hd) (hW.view hV) (hF.view hV) (hs.forget hV (fun c hc => hf c (Nat.lt_of_lt_of_le hc hn)) (Nat.le_trans hn hl)) hl0
theorem ToV.bind (hh : ToV R nk v h F S) (hq : ∀ v h F, S v h F → ToV R nk v h F S') : ToV R nk v h F S' := by
  intro m c w m0 h0 w0 F0 hn hd hW hF hs hl
  obtain ⟨m', v', h', F', h1, hd', hW', hF', hs', hl'⟩ := hh m c w m0 h0 w0 F0 hn hd hW hF hs hl
  exact hq _ _ _ h1 m' c w m0 h0 w0 F0 hn hd' hW' hF' hs' hl'
theorem SafeCallX.post {P : Program} {f : FuncId} {args : List AV} {Q Q' HP HP' : AV → Rows → Fz → Prop} (hs : SafeCallX P R f args h F Q HP) (hq : ∀ v h' F', F.le F' → Q v h' F' → ToV R h.length v h' F' Q') (hp : ∀ v h' F', F.le F' → HP v h' F' → ToV R h.length v h' F' HP') : SafeCallX P R f args h F Q' HP' := by
  intro m w m0 h0 w0 F0 as h1 h2 h3 h4 h5
  refine (hs m w m h w F as h1 h2 h3 (Step.refl _ _ _) (.refl _ _ _ _)).mono ?_
  rintro e w' ⟨m', h', F', hW, hF, hl, hS, ⟨c, v, rfl, hqq, hd⟩ | ⟨c, v, rfl, hqq, hd⟩⟩
  · obtain ⟨m2, v2, h2', F2, q1, q2, q3, q4, q5, q6⟩ := hq _ _ _ hl.le hqq m' c w' m h w F (Nat.le_refl _) hd hW hF hS hl
    exact ⟨m2, h2', F2, q3, q4, h5.trans h4 q6, h4.trans q5, .inl ⟨c, v2, rfl, q1, q2⟩⟩
  · obtain ⟨m2, v2, h2', F2, q1, q2, q3, q4, q5, q6⟩ := hp _ _ _ hl.le hqq m' c w' m h w F (Nat.le_refl _) hd hW hF hS hl
    exact ⟨m2, h2', F2, q3, q4, h5.trans h4 q6, h4.trans q5, .inr ⟨c, v2, rfl, q1, q2⟩⟩
end

/-! ### A call that is known at some rows, at more of them -/
theorem FzOK.out {R : Nat → RoRow} {F F' : Fz} {m m' m'' : Map} {f : Nat → Option Nat} {hL h h' : Rows} {w w' : World} (hV : View f hL h) (hW : WR R m h w) (hf : FzOK F m h w) (hf' : FzOK F' m' h' w')
    (hTo : F.To (m.view f hL.es) hL w F') (hg : ∀ c, c < h'.length → m''.mu (ext f hL.length h.length c) = m'.mu c) (hro : m''.ro = m'.ro) (hS : Step m h w m'' (merged f hL.length hL.length h h') w') :
    FzOK F' m'' (merged f hL.length hL.length h h') w' ∧ F.To m h w F' := by
  refine ⟨⟨hf'.blk, ?_, fun i => by rw [hro]; exact hf'.ro i⟩, hTo.le, ?_⟩
  · intro b r hb hv
    obtain ⟨hblt, ⟨c, r', hc, hcb, hlc, rfl⟩ | ⟨hlb, hnn⟩⟩ := merged_live hb
    · subst hcb
      rw [hg c hc] at hv ⊢
      exact hf'.apart c r' hlc hv
    · have hmu : m''.mu b = m.mu b := hS.mu b (live_lt hlb)
      rw [hmu] at hv ⊢
      cases hx : F' (m.mu b).blk with
      | none => rfl
      | some x =>
        exfalso
        rcases hTo.new _ x hx with h1 | h1 | ⟨c, r', hc, hcv, hce⟩
        · rw [hf.apart b r hlb hv] at h1; cases h1
        · obtain ⟨_, _, h3⟩ := hW.row b r hlb
          rw [if_neg (by rw [hv]; simp)] at h3
          obtain ⟨cc, fz, hh, _⟩ := h3
          have := (Array.getElem?_eq_some_iff.1 hh).1
          omega
        · obtain ⟨d, r2, h1, h2, _, e1⟩ := hV.real hc hcv
          rw [e1] at hcv hce
          have hdb : d = b := hW.apart d b r2 r h2 hlb hcv hv hce
          subst hdb
          have := seen_of (live_lt hc) h1
          rw [this] at hnn; cases hnn
  · intro b x hx
    rcases hTo.new b x hx with h1 | h1 | ⟨c, r', hc, hcv, hce⟩
    · exact .inl h1
    · exact .inr (.inl h1)
    · obtain ⟨d, r2, h1, h2, _, e1⟩ := hV.real hc hcv
      rw [e1] at hcv hce
      exact .inr (.inr ⟨d, r2, h2, hcv, hce⟩)
theorem SafeCallX.focus {P : Program} {R : Nat → RoRow} {fn : FuncId} {f : Nat → Option Nat} {argsL args : List AV} {hL h : Rows} {F : Fz} {Q HP : AV → Rows → Fz → Prop} (hV : View f hL h) (hA : VwL f hL.length argsL args) (hs : SafeCallX P R fn argsL hL F Q HP) :
    SafeCallX P R fn args h F (fun v'' h'' F' => ∃ v' h', Q v' h' F' ∧ v'' = ren (ext f hL.length h.length) v' ∧ h'' = merged f hL.length hL.length h h') (fun v'' h'' F' => ∃ v' h', HP v' h' F' ∧ v'' = ren (ext f hL.length h.length) v' ∧ h'' = merged f hL.length hL.length h h') := by
  intro m w m0 h0 w0 F0 as has hW hf hstep hTo
  refine (hs _ w _ _ w F as (hA.den _ _ _ has) (hW.view hV) (hf.view hV) (Step.refl _ _ _) (.refl _ _ _ _)).mono ?_
  rintro e w' ⟨m', h', F', hW', hf', hl, hs', hcase⟩
  obtain ⟨m'', hg, hro, hW2, hS⟩ := merge_ok hV hW hW' hs'.toK
  obtain ⟨hf2, hl2⟩ := FzOK.out hV hW hf hf' hl (fun c hc => (hg c hc).2) hro hS
  refine ⟨m'', _, F', hW2, hf2, hTo.trans hstep hl2, hstep.trans hS, ?_⟩
  rcases hcase with ⟨c, v, rfl, hq, hd⟩ | ⟨c, v, rfl, hq, hd⟩
  · exact .inl ⟨c, _, rfl, ⟨v, h', hq, rfl, rfl⟩, ren_den hg hro v c hd⟩
  · exact .inr ⟨c, _, rfl, ⟨v, h', hq, rfl, rfl⟩, ren_den hg hro v c hd⟩

/-! ### Loops -/
theorem SafeX.loop {P : Program} {R : Nat → RoRow} {ds : List Deferred} {HP : AV → Rows → Fz → Prop} {body : Code} (nk : Nat) (Inv : Nat → St → Fz → Prop) {X : Exit → St → Fz → Prop}
    (hround : ∀ n st F, Inv n st F → SafeX P R ds body st F (fun e st' F' => match e with
      | .normal => ToX R ds nk st' F' fun st'' F'' => ∃ n', n' < n ∧ Inv n' st'' F''
      | e => ToX R ds nk st' F' (X e)) HP) :
    ∀ n st F, Inv n st F → ∀ m a w m0 h0 w0 F0, h0.length ≤ nk → RelX R ds m st a w → FzOK F m st.rows w → Step m0 h0 w0 m st.rows w → F0.To m0 h0 w0 F → (Code.loop body).wp P (PostX R ds X HP m0 h0 w0 F0) a w := by
  intro n st F hi m a w m0 h0 w0 F0 hn hr hf hs hl
  refine wp_loop_rounds (n + 1) ?_
  have key : ∀ N n, n < N → ∀ st F, Inv n st F → ∀ m a w, RelX R ds m st a w → FzOK F m st.rows w → Step m0 h0 w0 m st.rows w → F0.To m0 h0 w0 F → Code.rounds P body (PostX R ds X HP m0 h0 w0 F0) N a w := by
    intro N
    induction N with
    | zero => intro n h; omega
    | succ N ih =>
      intro n hlt st F hi m a w hr hf hs hl
      rw [rounds_succ]
      refine wp_mono (hround n st F hi m a w m0 h0 w0 F0 hr hf hs hl) ?_
      intro e a' w' hp
      cases e with
      | panic ch => exact hp
      | goto l => obtain ⟨_, _, _, h, _⟩ := hp; exact h.elim
      | outgrown => obtain ⟨_, _, _, h, _⟩ := hp; exact h.elim
      | normal =>
        obtain ⟨m', st', F', _, hq, hr', hf', hs', hl'⟩ := hp
        obtain ⟨m2, st2, F2, ⟨n', hlt', hi'⟩, q2, q3, q4, q5⟩ := hq m' a' w' m0 h0 w0 F0 hn hr' hf' hs' hl'
        exact ih n' (by omega) st2 F2 hi' m2 a' w' q2 q3 q4 q5
      | exit id =>
        obtain ⟨m', st', F', _, hq, hr', hf', hs', hl'⟩ := hp
        obtain ⟨m2, st2, F2, q1, q2, q3, q4, q5⟩ := hq m' a' w' m0 h0 w0 F0 hn hr' hf' hs' hl'
        exact ⟨m2, st2, F2, trivial, q1, q2, q3, q4, q5⟩
      | ret =>
        obtain ⟨m', st', F', _, hq, hr', hf', hs', hl'⟩ := hp
        obtain ⟨m2, st2, F2, q1, q2, q3, q4, q5⟩ := hq m' a' w' m0 h0 w0 F0 hn hr' hf' hs' hl'
        exact ⟨m2, st2, F2, trivial, q1, q2, q3, q4, q5⟩
  exact key (n + 1) n (Nat.lt_succ_self n) st F hi m a w hr hf hs hl

/-- A loop in its block. -/
theorem SafeX.loop_block {P : Program} {R : Nat → RoRow} {ds : List Deferred} {HP : AV → Rows → Fz → Prop} {body : Code} {id : Nat} {st : St} {F : Fz} (Inv : Nat → St → Fz → Prop) {Q : Exit → St → Fz → Prop}
    (h0 : ToX R ds st.rows.length st F fun st' F' => ∃ n, Inv n st' F')
    (hround : ∀ n st' F', Inv n st' F' → SafeX P R ds body st' F' (fun e st2 F2 => match e with
      | .normal => ToX R ds st.rows.length st2 F2 fun st3 F3 => ∃ n', n' < n ∧ Inv n' st3 F3
      | e => ToX R ds st.rows.length st2 F2 fun st3 F3 => Q (blockExit id e) st3 F3) HP) :
    SafeX P R ds (.block id (.loop body)) st F Q HP := by
  intro m a w m0 h1 w0 F0 hr hf hs hl
  obtain ⟨m', st', F', ⟨n, hi⟩, hr', hF', hs', hl'⟩ := h0 m a w m0 h1 w0 F0 hs.len hr hf hs hl
  have := SafeX.loop (X := fun e st3 F3 => Q (blockExit id e) st3 F3) st.rows.length Inv (fun n st' F' hi => hround n st' F' hi) n st' F' hi m' a w m0 h1 w0 F0 hs.len hr' hF' hs' hl'
  refine wp_block (wp_mono this ?_)
  intro e a' w' hp
  cases e with
  | panic ch => exact hp
  | goto l => obtain ⟨_, _, _, h, _⟩ := hp; exact h.elim
  | outgrown => obtain ⟨_, _, _, h, _⟩ := hp; exact h.elim
  | normal => exact hp
  | ret => exact hp
  | exit id' =>
    obtain ⟨m2, st2, F2, h1, h2, h3⟩ := hp
    simp only [Exit.inBlock]
    by_cases hid : id' = id
    · rw [if_pos hid]
      subst hid
      simp only [blockExit, Nat.beq_refl, cond_true] at h2
      exact ⟨m2, st2, F2, trivial, h2, h3⟩
    · rw [if_neg hid]
      have e : Nat.beq id' id = false := by rw [Bool.eq_false_iff]; exact fun e => hid (Nat.eq_of_beq_eq_true e)
      simp only [blockExit, e, cond_false] at h2
      exact ⟨m2, st2, F2, trivial, h2, h3⟩
end Go.Dc
end
section
set_option linter.unusedSimpArgs false
set_option linter.unusedVariables false
namespace Go.Dc

/-- A value that leads to no rows but frozen ones. -/
def gtk : AV → Prop
  | .bool _ | .int .. | .str _ | .nilp | .nils | .nilf | .nili => True
  | .sl true i _ _ _ => ∃ x, i = x + 15
  | .ptr true i _ _ => ∃ x, i = x + 15
  | _ => False
def Named (m : Map) : Prop := ∀ i, m.ro (i + 15) = tkLoc i
def DenT (a : AV) (v : Value) : Prop := ∀ m n, Named m → Den m n a v
theorem gtk.den {a : AV} (hg : gtk a) {m : Map} {n : Nat} (hm : Named m) {v : Value} (h : Den m n a v) : DenT a v := by
  intro m' n' hm'
  cases a with
  | sl ro i o l c =>
    cases ro with
    | false => exact hg.elim
    | true =>
      obtain ⟨x, rfl⟩ := hg
      simp only [Den, Map.loc, if_true] at h ⊢
      rw [hm' x]; rw [hm x] at h
      first | exact ⟨(fun e => absurd e (by decide)), h.2⟩ | exact h
  | ptr ro i o l =>
    cases ro with
    | false => exact hg.elim
    | true =>
      obtain ⟨x, rfl⟩ := hg
      simp only [Den, Map.loc, if_true] at h ⊢
      rw [hm' x]; rw [hm x] at h
      first | exact ⟨(fun e => absurd e (by decide)), h.2⟩ | exact h
  | any => exact hg.elim
  | fn => exact hg.elim
  | ifc => exact hg.elim
  | agg => exact hg.elim
  | tup => exact hg.elim
  | _ => simpa [Den] using h

/-- What is frozen under a name. -/
def Frz (F : Fz) (x : Nat) (r : RoRow) : Prop :=
  (x = 0 ∧ r.n = 0) ∨ ∃ blk off ext c, x = tkName r.esz blk off ext ∧ r.n ≤ ext ∧ F blk = some (r.ty, c) ∧ ∀ i, i < r.n → (r.at_ i).cells.length = r.esz ∧
    ∀ o a, (r.at_ i).cells[o]? = some a → a.one = true ∧ ∃ v, c[off + (i * r.esz + o)]? = some v ∧ DenT a v
theorem Frz.le {F F' : Fz} {x : Nat} {r : RoRow} (h : Frz F x r) (hl : F.le F') : Frz F' x r := by
  rcases h with h | ⟨blk, off, ext, c, h1, h2, h3, h4⟩
  · exact .inl h
  · exact .inr ⟨blk, off, ext, c, h1, h2, hl _ _ h3, h4⟩
/-- A row told as one that is only read. -/
structure RoOf (r : Row) (ro : RoRow) : Prop where
  ty : ro.ty = r.ty
  esz : ro.esz = r.esz
  len : ro.n ≤ r.len
  get : ∀ i, i < ro.n → r.get? i = some (ro.at_ i)
  gtk : ∀ i, i < ro.n → ∀ a ∈ (ro.at_ i).cells, gtk a
theorem RoOf.lst {t z : Nat} {l : List AV} (hg : ∀ e ∈ l, ∀ a ∈ e.cells, Dc.gtk a) : RoOf (.lst t z l) ⟨t, z, l.length, fun i => l.getD i .any⟩ where
  ty := rfl
  esz := rfl
  len := Nat.le_refl _
  get := fun i hi => by simp only [Row.get?]; simp [List.getD, hi]
  gtk := fun i hi => hg _ (by
    have hi : i < l.length := hi
    show l.getD i .any ∈ l
    simp only [List.getD, List.getElem?_eq_getElem hi, Option.getD_some]
    exact List.getElem_mem hi)
theorem RoOf.gen {t z n : Nat} {G : Nat → AV} (hg : ∀ i, i < n → ∀ a ∈ (G i).cells, Dc.gtk a) : RoOf (.gen t z n G) ⟨t, z, n, G⟩ where
  ty := rfl
  esz := rfl
  len := Nat.le_refl _
  get := fun i hi => by
    have hi : i < n := hi
    simp only [Row.get?]; rw [blt_t hi]; rfl
  gtk := hg

def Fz.add (F : Fz) (b : Nat) (x : TypeId × Array Value) : Fz := fun k => if k = b then some x else F k

theorem live_set_none {h : Rows} {b c : Nat} {r : Row} (hc : Rows.live (h.set b none) c = some r) : c ≠ b ∧ h.live c = some r := by
  unfold Rows.live at hc ⊢
  rw [List.getElem?_set] at hc
  by_cases e : b = c
  · subst e
    rw [if_pos rfl] at hc
    split at hc <;> simp at hc
  · rw [if_neg e] at hc
    exact ⟨fun e2 => e e2.symm, hc⟩

theorem freeze_ok {R : Nat → RoRow} {F : Fz} {m : Map} {h : Rows} {w : World} (hW : WR R m h w) (hf : FzOK F m h w) {b : Nat} {r : Row} {ro : RoRow} (hb : h.live b = some r) (hr : RoOf r ro) :
    ∃ F' x, F.le F' ∧ (∀ k y, F' k = some y → F k = some y ∨ (k = (m.mu b).blk ∧ (m.mu b).vir = false)) ∧ Frz F' x ro ∧ FzOK F' m (h.set b none) w ∧
      ∀ n len cp v, Den m n (.sl false b 0 len cp) v → Den m n (tok x len) v := by
  obtain ⟨hesz, hlen, hrow⟩ := hW.row b r hb
  have hro : Named m := hf.ro
  split at hrow
  · rename_i hv
    refine ⟨F, 0, F.le_refl, fun _ _ h => .inl h, .inl ⟨rfl, by have := hr.len; omega⟩, ⟨hf.blk, fun c r' hc hcv => hf.apart c r' (live_set_none hc).2 hcv, hf.ro⟩, ?_⟩
    intro n len cp v hd
    simp only [Den, Map.loc, Bool.false_eq_true, if_false, SlDen, hv, if_true] at hd
    obtain ⟨_, h1, ao, h2, _⟩ := hd
    simp only [tok, Den, Map.loc, if_true]
    have := hro 0
    simp only [Nat.zero_add] at this ⊢
    rw [this]
    first | exact ⟨(fun e => absurd e (by decide)), by simp only [SlDen, tkLoc, if_true]; exact ⟨h1, ao, h2, trivial⟩⟩ | (simp only [SlDen, tkLoc, if_true]; exact ⟨h1, ao, h2, trivial⟩)
  · rename_i hv
    have hv : (m.mu b).vir = false := by simpa using hv
    obtain ⟨c, fz, hh, hsz, hfz, hcell⟩ := hrow
    have hlt : (m.mu b).blk < w.heap.size := (Array.getElem?_eq_some_iff.1 hh).1
    have hnone := hf.apart b r hb hv
    refine ⟨F.add (m.mu b).blk (r.ty, c), tkName (m.mu b).esz (m.mu b).blk (m.mu b).shift (m.mu b).ext, ?_, ?_, .inr ⟨(m.mu b).blk, (m.mu b).shift, (m.mu b).ext, c, ?_, ?_, ?_, ?_⟩, ⟨?_, ?_, hf.ro⟩, ?_⟩
    · intro k x hk
      simp only [Fz.add]
      rw [if_neg]
      · exact hk
      · rintro rfl; rw [hnone] at hk; cases hk
    · intro k y hk
      simp only [Fz.add] at hk
      split at hk
      · rename_i e; exact .inr ⟨e, hv⟩
      · exact .inl hk
    · rw [hr.esz, hesz]
    · exact Nat.le_trans hr.len hlen
    · simp [Fz.add, hr.ty]
    · intro i hi
      obtain ⟨h1, h2⟩ := hcell i _ (hr.get i hi)
      refine ⟨by rw [h1, hr.esz, hesz], fun o a ha => ?_⟩
      obtain ⟨h3, v, h4, h5⟩ := h2 o a ha
      exact ⟨h3, v, by rw [hr.esz, ← hesz]; exact h4, (hr.gtk i hi a (List.mem_of_getElem? ha)).den hro h5⟩
    · intro k ty c' hk
      simp only [Fz.add] at hk
      split at hk
      · rename_i e; subst e; cases hk; exact ⟨fz, hh⟩
      · exact hf.blk k ty c' hk
    · intro c' r' hc hcv
      obtain ⟨hne, hc⟩ := live_set_none hc
      simp only [Fz.add]
      rw [if_neg]
      · exact hf.apart c' r' hc hcv
      · intro e; exact hne (hW.apart c' b r' r hc hb hcv hv e)
    · intro n len cp v hd
      simp only [Den, Map.loc, Bool.false_eq_true, if_false, SlDen, hv] at hd
      obtain ⟨_, a, cap, h1, h2, h3, h4, h5⟩ := hd
      simp only [tok, Den, Map.loc, if_true]
      rw [hro, tkLoc_name]
      first | refine ⟨(fun e => absurd e (by decide)), ?_⟩ | skip
      simp only [SlDen, Bool.false_eq_true, if_false]
      exact ⟨a, cap, h1, h2, h3, trivial, h5⟩

/-! ### Slices that lead to a frozen row, told by its name -/
def tk1 (b x : Nat) : AV → AV
  | .sl false c 0 l u => bif Nat.beq c b then tok x l else .sl false c 0 l u
  | y => y
def tkE (b x : Nat) : AV → AV
  | .agg cs => .agg (cs.map (tk1 b x))
  | y => tk1 b x y
def tk2 (b x : Nat) : AV → AV
  | .tup cs => .tup (cs.map (tkE b x))
  | y => tkE b x y
def tkRow (b x : Nat) : Row → Row
  | .lst t z l => .lst t z (l.map (tkE b x))
  | .gen t z n G => .gen t z n fun i => tkE b x (G i)
  | .byt t l => .byt t l
section
variable {m : Map} {b x : Nat} (hx : ∀ n len cp v, Den m n (.sl false b 0 len cp) v → Den m n (tok x len) v)
include hx
theorem tk1_den {n : Nat} {y : AV} {v : Value} (h : Den m n y v) : Den m n (tk1 b x y) v := by
  unfold tk1
  split
  · rename_i c l u
    cases hb : Nat.beq c b with
    | true => have := Nat.eq_of_beq_eq_true hb; subst this; exact hx _ _ _ _ h
    | false => exact h
  · exact h
theorem tk1_denL {n : Nat} : ∀ {l : List AV} {v : List Value}, DenL m n l v → DenL m n (l.map (tk1 b x)) v
  | [], _, h => h
  | y :: l, v, h => by
    simp only [DenL] at h
    obtain ⟨u, us, rfl, h1, h2⟩ := h
    simp only [List.map_cons, DenL]
    exact ⟨u, us, rfl, tk1_den hx h1, tk1_denL h2⟩
theorem tkE_den {n : Nat} {y : AV} {v : Value} (h : Den m n y v) : Den m n (tkE b x y) v := by
  unfold tkE
  split
  · simp only [Den] at h ⊢
    obtain ⟨vs, h1, h2⟩ := h
    exact ⟨vs, h1, tk1_denL hx h2⟩
  · exact tk1_den hx h
theorem tkE_denL {n : Nat} : ∀ {l : List AV} {v : List Value}, DenL m n l v → DenL m n (l.map (tkE b x)) v
  | [], _, h => h
  | y :: l, v, h => by
    simp only [DenL] at h
    obtain ⟨u, us, rfl, h1, h2⟩ := h
    simp only [List.map_cons, DenL]
    exact ⟨u, us, rfl, tkE_den hx h1, tkE_denL h2⟩
theorem tk2_den {n : Nat} {y : AV} {v : Value} (h : Den m n y v) : Den m n (tk2 b x y) v := by
  unfold tk2
  split
  · simp only [Den] at h ⊢
    obtain ⟨vs, h1, h2⟩ := h
    exact ⟨vs, h1, tkE_denL hx h2⟩
  · exact tkE_den hx h
end
theorem tk1_one (b x : Nat) (y : AV) : (tk1 b x y).one = y.one := by
  unfold tk1
  split
  · rename_i c l u
    cases hb : Nat.beq c b <;> rfl
  · rfl
theorem tk1_agg (b x : Nat) (y : AV) (cs : List AV) (hc : tk1 b x y = .agg cs) : y = .agg cs := by
  unfold tk1 at hc
  split at hc
  · rename_i c l u
    cases hb : Nat.beq c b <;> rw [hb] at hc <;> cases hc
  · exact hc
theorem cells_one {y : AV} (h : ∀ cs, y ≠ .agg cs) : y.cells = [y] := by
  cases y <;> first | rfl | exact absurd rfl (h _)
theorem tkE_cells (b x : Nat) (y : AV) : (tkE b x y).cells = y.cells.map (tk1 b x) := by
  unfold tkE
  split
  · rfl
  · rename_i h1
    rw [cells_one h1, cells_one (fun cs hc => h1 cs (tk1_agg _ _ _ _ hc))]
    rfl
theorem tkRow_ty (b x : Nat) (r : Row) : (tkRow b x r).ty = r.ty := by cases r <;> rfl
theorem tkRow_esz (b x : Nat) (r : Row) : (tkRow b x r).esz = r.esz := by cases r <;> rfl
theorem tkRow_len (b x : Nat) (r : Row) : (tkRow b x r).len = r.len := by cases r <;> simp [tkRow, Row.len]
theorem tkRow_get (b x : Nat) (r : Row) (i : Nat) (e : AV) (h : (tkRow b x r).get? i = some e) : (∃ e', r.get? i = some e' ∧ e.cells = e'.cells.map (tk1 b x)) := by
  cases r with
  | lst t z l =>
    simp only [tkRow, Row.get?, List.getElem?_map] at h ⊢
    obtain ⟨e', h1, rfl⟩ := Option.map_eq_some_iff.1 h
    exact ⟨e', h1, tkE_cells _ _ _⟩
  | gen t z n G =>
    simp only [tkRow, Row.get?] at h ⊢
    cases hb : Nat.blt i n <;> rw [hb] at h
    · simp at h
    · simp only [cond_true, Option.some.injEq] at h
      subst h
      exact ⟨G i, rfl, tkE_cells _ _ _⟩
  | byt t l =>
    refine ⟨e, h, ?_⟩
    simp only [tkRow, Row.get?] at h
    obtain ⟨c, _, rfl⟩ := Option.map_eq_some_iff.1 h
    rfl
def tkRows (b x : Nat) (h : Rows) : Rows := h.map (Option.map (tkRow b x))
theorem tkRows_live {b x : Nat} {h : Rows} {c : Nat} {r : Row} (hc : (tkRows b x h).live c = some r) : ∃ r', h.live c = some r' ∧ r = tkRow b x r' := by
  unfold Rows.live tkRows at hc
  unfold Rows.live
  rw [List.getElem?_map] at hc
  cases hh : h[c]? with
  | none => rw [hh] at hc; simp at hc
  | some o =>
    rw [hh] at hc
    cases o with
    | none => simp at hc
    | some r' => simp at hc; exact ⟨r', rfl, hc.symm⟩
theorem WR.tk {R : Nat → RoRow} {m : Map} {b x : Nat} (hx : ∀ n len cp v, Den m n (.sl false b 0 len cp) v → Den m n (tok x len) v) {h : Rows} {w : World} (hW : WR R m h w) : WR R m (tkRows b x h) w where
  row := fun c r hc => by
    obtain ⟨r', hc', rfl⟩ := tkRows_live hc
    obtain ⟨h1, h2, h3⟩ := hW.row c r' hc'
    refine ⟨by rw [tkRow_esz]; exact h1, by rw [tkRow_len]; exact h2, ?_⟩
    split
    · rename_i hv
      rw [if_pos hv] at h3
      exact ⟨by rw [tkRow_len]; exact h3.1, h3.2⟩
    · rename_i hv
      rw [if_neg hv] at h3
      obtain ⟨cc, fz, h4, h5, h6, h7⟩ := h3
      refine ⟨cc, fz, by rw [tkRow_ty]; exact h4, h5, h6, ?_⟩
      intro i e he
      obtain ⟨e', he', hcells⟩ := tkRow_get _ _ _ _ _ he
      obtain ⟨h8, h9⟩ := h7 i e' he'
      refine ⟨by rw [hcells, List.length_map]; exact h8, fun o a ha => ?_⟩
      rw [hcells, List.getElem?_map] at ha
      obtain ⟨a', ha', rfl⟩ := Option.map_eq_some_iff.1 ha
      obtain ⟨h10, v, h11, h12⟩ := h9 o a' ha'
      refine ⟨by rw [tk1_one]; exact h10, v, h11, ?_⟩
      have : (tkRows b x h).length = h.length := by simp [tkRows]
      rw [this]
      exact tk1_den hx h12
  apart := fun c c' r r' hc hc' hv hv' he => by
    obtain ⟨_, hc, _⟩ := tkRows_live hc
    obtain ⟨_, hc', _⟩ := tkRows_live hc'
    exact hW.apart _ _ _ _ hc hc' hv hv' he
  ro := hW.ro
  roApart := fun i c r hc hv hv' hn => by
    obtain ⟨_, hc, _⟩ := tkRows_live hc
    exact hW.roApart i c _ hc hv hv' hn
theorem WR.dropRow {R : Nat → RoRow} {m : Map} {h : Rows} {w : World} (hW : WR R m h w) (b : Nat) : WR R m (h.set b none) w where
  row := fun c r hc => by
    have := hW.row c r (live_set_none hc).2
    rw [List.length_set]; exact this
  apart := fun c c' r r' hc hc' => hW.apart c c' r r' (live_set_none hc).2 (live_set_none hc').2
  ro := hW.ro
  roApart := fun i c r hc => hW.roApart i c r (live_set_none hc).2
theorem Step.dropRow {m0 m : Map} {h0 h : Rows} {w0 w : World} (hs : Step m0 h0 w0 m h w) (b x : Nat) : Step m0 h0 w0 m ((tkRows b x h).set b none) w where
  os := hs.os
  tape := hs.tape
  output := hs.output
  size := hs.size
  block := hs.block
  len := by rw [List.length_set]; simp only [tkRows, List.length_map]; exact hs.len
  mu := hs.mu
  ro := hs.ro
  new := fun c r hc hv => by
    obtain ⟨_, hc, _⟩ := tkRows_live (live_set_none hc).2
    exact hs.new c _ hc hv
theorem FzOK.tk {F : Fz} {m : Map} {h : Rows} {w : World} {b : Nat} (x : Nat) (hf : FzOK F m (h.set b none) w) : FzOK F m ((tkRows b x h).set b none) w where
  blk := hf.blk
  apart := fun c r hc hv => by
    obtain ⟨hne, hc⟩ := live_set_none hc
    obtain ⟨r', hc, _⟩ := tkRows_live hc
    refine hf.apart c r' ?_ hv
    unfold Rows.live at hc ⊢
    rw [List.getElem?_set, if_neg (fun e => hne e.symm)]
    exact hc
  ro := hf.ro
theorem Fz.To.freeze {F0 F F' : Fz} {m0 m : Map} {h0 h : Rows} {w0 w : World} (hs : Step m0 h0 w0 m h w) (hl : F0.To m0 h0 w0 F) {b : Nat} {r : Row} (hb : h.live b = some r) (h1 : F.le F')
    (h2 : ∀ k y, F' k = some y → F k = some y ∨ (k = (m.mu b).blk ∧ (m.mu b).vir = false)) : F0.To m0 h0 w0 F' where
  le := Fz.le_trans hl.le h1
  new := fun k y hk => by
    rcases h2 k y hk with h3 | ⟨rfl, hv⟩
    · exact hl.new k y h3
    · rcases hs.new b r hb hv with h4 | ⟨c, r', hc, hcv, hce⟩
      · exact .inr (.inl h4)
      · exact .inr (.inr ⟨c, r', hc, hcv, hce⟩)
/-- A row is frozen. -/
theorem ToX.freeze {R : Nat → RoRow} {ds : List Deferred} {nk : Nat} {st : St} {F : Fz} {S : St → Fz → Prop} (b : Nat) {r : Row} {ro : RoRow} (hb : st.rows.live b = some r) (hr : RoOf r ro)
    (hk : ∀ F' x, F.le F' → Frz F' x ro → ToX R ds nk ⟨st.tmps.map (tk2 b x), (tkRows b x st.rows).set b none⟩ F' S) : ToX R ds nk st F S := by
  intro m a w m0 h0 w0 F0 hn hrel hf hs hl
  obtain ⟨F', x, h1, h2, h3, h4, h5⟩ := freeze_ok hrel.wr hf hb hr
  refine hk F' x h1 h3 m a w m0 h0 w0 F0 hn ⟨by simpa using hrel.size, ?_, hrel.defers, (WR.tk h5 hrel.wr).dropRow b⟩ (FzOK.tk x h4) (hs.dropRow b x) (hl.freeze hs hb h1 h2)
  intro i y hy
  simp only [List.getElem?_map] at hy
  obtain ⟨y', hy', rfl⟩ := Option.map_eq_some_iff.1 hy
  obtain ⟨c, hc, hd⟩ := hrel.tmps i y' hy'
  refine ⟨c, hc, ?_⟩
  have : ((tkRows b x st.rows).set b none).length = st.rows.length := by simp [tkRows]
  simp only [this]
  exact tk2_den h5 hd
theorem ToV.freeze {R : Nat → RoRow} {nk : Nat} {v : AV} {h : Rows} {F : Fz} {S : AV → Rows → Fz → Prop} (b : Nat) {r : Row} {ro : RoRow} (hb : h.live b = some r) (hr : RoOf r ro)
    (hk : ∀ F' x, F.le F' → Frz F' x ro → ToV R nk (tk2 b x v) ((tkRows b x h).set b none) F' S) : ToV R nk v h F S := by
  intro m c w m0 h0 w0 F0 hn hd hW hf hs hl
  obtain ⟨F', x, h1, h2, h3, h4, h5⟩ := freeze_ok hW hf hb hr
  refine hk F' x h1 h3 m c w m0 h0 w0 F0 hn ?_ ((WR.tk h5 hW).dropRow b) (FzOK.tk x h4) (hs.dropRow b x) (hl.freeze hs hb h1 h2)
  have : ((tkRows b x h).set b none).length = h.length := by simp [tkRows]
  rw [this]
  exact tk2_den h5 hd
/-- A call: a row that is handed over is frozen ahead of it. -/
theorem SafeCallX.freeze {P : Program} {R : Nat → RoRow} {f : FuncId} {args : List AV} {h : Rows} {F : Fz} {Q HP : AV → Rows → Fz → Prop} (b : Nat) {r : Row} {ro : RoRow} (hb : h.live b = some r) (hr : RoOf r ro)
    (hk : ∀ F' x, F.le F' → Frz F' x ro → SafeCallX P R f (args.map (tk2 b x)) ((tkRows b x h).set b none) F' Q HP) : SafeCallX P R f args h F Q HP := by
  intro m w m0 h0 w0 F0 as hd hW hf hs hl
  obtain ⟨F', x, h1, h2, h3, h4, h5⟩ := freeze_ok hW hf hb hr
  refine hk F' x h1 h3 m w m0 h0 w0 F0 as ?_ ((WR.tk h5 hW).dropRow b) (FzOK.tk x h4) (hs.dropRow b x) (hl.freeze hs hb h1 h2)
  have : ((tkRows b x h).set b none).length = h.length := by simp [tkRows]
  rw [this]
  have key : ∀ {l : List AV} {v : List Value}, DenL m h.length l v → DenL m h.length (l.map (tk2 b x)) v := by
    intro l
    induction l with
    | nil => intro v h; exact h
    | cons y l ih =>
      intro v h
      simp only [DenL] at h
      obtain ⟨u, us, rfl, h1, h2⟩ := h
      simp only [List.map_cons, DenL]
      exact ⟨u, us, rfl, tk2_den h5 h1, ih h2⟩
  exact key hd

/-- A literal nil is the empty slice that is nowhere. -/
theorem nils_tok {m : Map} (hm : Named m) {n : Nat} {v : Value} (h : Den m n .nils v) : Den m n (tok 0 0) v := by
  simp only [Den] at h
  subst h
  simp only [tok, Den, Map.loc, if_true]
  have := hm 0
  simp only [Nat.zero_add] at this ⊢
  rw [this]
  exact ⟨(fun e => absurd e (by decide)), by simp [SlDen, tkLoc, CpOK]⟩
end Go.Dc
end
section
set_option linter.unusedSimpArgs false
set_option linter.unusedVariables false
namespace Go.Dc

def updR (R : Nat → RoRow) (k : Nat) (r : RoRow) : Nat → RoRow := fun i => bif Nat.beq i k then r else R i
def nmI (k x i : Nat) : Nat := bif Nat.beq i k then x + 15 else i
mutual
/-- The number k told by the name x. -/
def nm (k x : Nat) : AV → AV
  | .ptr true i a b => .ptr true (nmI k x i) a b
  | .sl true i a b c => .sl true (nmI k x i) a b c
  | .fn f a c => .fn f (nmL k x a) (nmL k x c)
  | .ifc t a => .ifc t (nm k x a)
  | .agg cs => .agg (nmL k x cs)
  | .tup cs => .tup (nmL k x cs)
  | .ptr false i a b => .ptr false i a b
  | .sl false i a b c => .sl false i a b c
  | .any => .any
  | .bool b => .bool b
  | .int a b => .int a b
  | .str l => .str l
  | .nilp => .nilp
  | .nils => .nils
  | .nilf => .nilf
  | .nili => .nili
def nmL (k x : Nat) : List AV → List AV
  | [] => []
  | a :: l => nm k x a :: nmL k x l
end
theorem nmL_eq (k x : Nat) : ∀ l, nmL k x l = l.map (nm k x)
  | [] => rfl
  | a :: l => by simp only [nmL, List.map_cons, nmL_eq k x l]
/-- The two maps of memory. -/
structure NmOK (k x : Nat) (m2 m : Map) : Prop where
  mu : m2.mu = m.mu
  ro : ∀ i, m2.ro i = m.ro (nmI k x i) ∨ ((m2.ro i).vir = true ∧ (m.ro (nmI k x i)).vir = true)
theorem NmOK.sl {k x : Nat} {m2 m : Map} (h : NmOK k x m2 m) (i o l : Nat) (c : Cp) (v : Value) : SlDen (m2.ro i) o l c v ↔ SlDen (m.ro (nmI k x i)) o l c v := by
  rcases h.ro i with e | ⟨e1, e2⟩
  · rw [e]
  · simp only [SlDen, e1, e2, if_true]
mutual
theorem nm_den {k x : Nat} {m2 m : Map} (h : NmOK k x m2 m) (n : Nat) : ∀ (y : AV) (v : Value), Den m2 n y v ↔ Den m n (nm k x y) v
  | .ptr true i a b, v => by
    simp only [nm, Den, Map.loc, if_true]
    rcases h.ro i with e | ⟨e1, e2⟩
    · rw [e]; simp
    · rw [e1, e2]; simp
  | .sl true i a b c, v => by
    simp only [nm, Den, Map.loc, if_true]
    rw [h.sl]; simp
  | .ptr false i a b, v => by
    simp only [nm, Den, Map.loc, Bool.false_eq_true, if_false, h.mu]
  | .sl false i a b c, v => by
    simp only [nm, Den, Map.loc, Bool.false_eq_true, if_false, h.mu]
  | .fn f a c, v => by
    simp only [nm, Den]
    constructor
    · rintro ⟨us, vs, e, h1, h2⟩; exact ⟨us, vs, e, (nmL_den h n _ _).1 h1, (nmL_den h n _ _).1 h2⟩
    · rintro ⟨us, vs, e, h1, h2⟩; exact ⟨us, vs, e, (nmL_den h n _ _).2 h1, (nmL_den h n _ _).2 h2⟩
  | .ifc t a, v => by
    simp only [nm, Den]
    constructor
    · rintro ⟨u, e, h1⟩; exact ⟨u, e, (nm_den h n _ _).1 h1⟩
    · rintro ⟨u, e, h1⟩; exact ⟨u, e, (nm_den h n _ _).2 h1⟩
  | .agg cs, v => by
    simp only [nm, Den]
    constructor
    · rintro ⟨u, e, h1⟩; exact ⟨u, e, (nmL_den h n _ _).1 h1⟩
    · rintro ⟨u, e, h1⟩; exact ⟨u, e, (nmL_den h n _ _).2 h1⟩
  | .tup cs, v => by
    simp only [nm, Den]
    constructor
    · rintro ⟨u, e, h1⟩; exact ⟨u, e, (nmL_den h n _ _).1 h1⟩
    · rintro ⟨u, e, h1⟩; exact ⟨u, e, (nmL_den h n _ _).2 h1⟩
  | .any, v => by simp only [nm, Den]
  | .bool b, v => by simp only [nm, Den]
  | .int a b, v => by simp only [nm, Den]
  | .str l, v => by simp only [nm, Den]
  | .nilp, v => by simp only [nm, Den]
  | .nils, v => by simp only [nm, Den]
  | .nilf, v => by simp only [nm, Den]
  | .nili, v => by simp only [nm, Den]
theorem nmL_den {k x : Nat} {m2 m : Map} (h : NmOK k x m2 m) (n : Nat) : ∀ (y : List AV) (v : List Value), DenL m2 n y v ↔ DenL m n (nmL k x y) v
  | [], v => by simp only [nmL, DenL]
  | a :: l, v => by
    simp only [nmL, DenL]
    constructor
    · rintro ⟨u, us, e, h1, h2⟩; exact ⟨u, us, e, (nm_den h n _ _).1 h1, (nmL_den h n _ _).1 h2⟩
    · rintro ⟨u, us, e, h1, h2⟩; exact ⟨u, us, e, (nm_den h n _ _).2 h1, (nmL_den h n _ _).2 h2⟩
end
def nmRow (k x : Nat) : Row → Row
  | .lst t z l => .lst t z (l.map (nm k x))
  | .gen t z n G => .gen t z n fun i => nm k x (G i)
  | .byt t l => .byt t l
def nmRows (k x : Nat) (h : Rows) : Rows := h.map (Option.map (nmRow k x))
def nmSt (k x : Nat) (st : St) : St := ⟨st.tmps.map (nm k x), nmRows k x st.rows⟩
theorem nm_one (k x : Nat) (y : AV) : (nm k x y).one = y.one := by
  cases y with
  | ptr ro => cases ro <;> simp [nm, AV.one]
  | sl ro => cases ro <;> simp [nm, AV.one]
  | _ => simp [nm, AV.one]
theorem nm_cells (k x : Nat) (y : AV) : (nm k x y).cells = y.cells.map (nm k x) := by
  cases y with
  | ptr ro => cases ro <;> simp [nm, AV.cells]
  | sl ro => cases ro <;> simp [nm, AV.cells]
  | agg cs => simp [nm, AV.cells, nmL_eq]
  | _ => simp [nm, AV.cells]
theorem nmRow_ty (k x : Nat) (r : Row) : (nmRow k x r).ty = r.ty := by cases r <;> rfl
theorem nmRow_esz (k x : Nat) (r : Row) : (nmRow k x r).esz = r.esz := by cases r <;> rfl
theorem nmRow_len (k x : Nat) (r : Row) : (nmRow k x r).len = r.len := by cases r <;> simp [nmRow, Row.len]
theorem nmRow_get (k x : Nat) (r : Row) (i : Nat) : (nmRow k x r).get? i = (r.get? i).map (nm k x) := by
  cases r with
  | lst t z l => simp [nmRow, Row.get?]
  | gen t z n G =>
    simp only [nmRow, Row.get?]
    cases Nat.blt i n <;> rfl
  | byt t l =>
    simp only [nmRow, Row.get?, Option.map_map]
    congr 1
theorem nmRows_live (k x : Nat) (h : Rows) (c : Nat) : (nmRows k x h).live c = (h.live c).map (nmRow k x) := by
  unfold Rows.live nmRows
  rw [List.getElem?_map]
  cases h[c]? with
  | none => rfl
  | some o => cases o <;> rfl
theorem nmRows_length (k x : Nat) (h : Rows) : (nmRows k x h).length = h.length := by simp [nmRows]
theorem RowOK.nm {k x : Nat} {m2 m : Map} (hm : NmOK k x m2 m) {n : Nat} {l : Loc} {r : Row} {w : World} : RowOK m2 n l r w ↔ RowOK m n l (nmRow k x r) w := by
  unfold RowOK
  rw [nmRow_esz, nmRow_len, nmRow_ty]
  refine and_congr Iff.rfl (and_congr Iff.rfl ?_)
  split
  · exact Iff.rfl
  · constructor
    · rintro ⟨c, fz, h1, h2, h3, h4⟩
      refine ⟨c, fz, h1, h2, h3, fun i e he => ?_⟩
      rw [nmRow_get] at he
      obtain ⟨e', he', rfl⟩ := Option.map_eq_some_iff.1 he
      obtain ⟨h5, h6⟩ := h4 i e' he'
      refine ⟨by rw [nm_cells, List.length_map]; exact h5, fun o a ha => ?_⟩
      rw [nm_cells, List.getElem?_map] at ha
      obtain ⟨a', ha', rfl⟩ := Option.map_eq_some_iff.1 ha
      obtain ⟨h7, v, h8, h9⟩ := h6 o a' ha'
      exact ⟨by rw [nm_one]; exact h7, v, h8, (nm_den hm n _ _).1 h9⟩
    · rintro ⟨c, fz, h1, h2, h3, h4⟩
      refine ⟨c, fz, h1, h2, h3, fun i e he => ?_⟩
      obtain ⟨h5, h6⟩ := h4 i (Dc.nm k x e) (by rw [nmRow_get, he]; rfl)
      rw [nm_cells, List.length_map] at h5
      refine ⟨h5, fun o a ha => ?_⟩
      obtain ⟨h7, v, h8, h9⟩ := h6 o (Dc.nm k x a) (by rw [nm_cells, List.getElem?_map, ha]; rfl)
      exact ⟨by rw [nm_one] at h7; exact h7, v, h8, (nm_den hm n _ _).2 h9⟩
/-- Live rows alone. -/
structure WRl (m : Map) (h : Rows) (w : World) : Prop where
  row : ∀ b r, h.live b = some r → RowOK m h.length (m.mu b) r w
  apart : ∀ b b' r r', h.live b = some r → h.live b' = some r' → (m.mu b).vir = false → (m.mu b').vir = false → (m.mu b).blk = (m.mu b').blk → b = b'
theorem WRl.nm {k x : Nat} {m2 m : Map} (hm : NmOK k x m2 m) {h : Rows} {w : World} : WRl m2 h w ↔ WRl m (nmRows k x h) w := by
  constructor
  · intro hw
    refine ⟨fun b r hb => ?_, fun b b' r r' hb hb' => ?_⟩
    · rw [nmRows_live] at hb
      obtain ⟨r0, hb0, rfl⟩ := Option.map_eq_some_iff.1 hb
      rw [nmRows_length, ← hm.mu]
      exact (RowOK.nm hm).1 (hw.row b r0 hb0)
    · rw [nmRows_live] at hb hb'
      obtain ⟨r0, hb0, rfl⟩ := Option.map_eq_some_iff.1 hb
      obtain ⟨r1, hb1, rfl⟩ := Option.map_eq_some_iff.1 hb'
      rw [← hm.mu]
      exact hw.apart b b' _ _ hb0 hb1
  · intro hw
    refine ⟨fun b r hb => ?_, fun b b' r r' hb hb' => ?_⟩
    · have := hw.row b (nmRow k x r) (by rw [nmRows_live, hb]; rfl)
      rw [nmRows_length, ← hm.mu] at this
      exact (RowOK.nm hm).2 this
    · have := hw.apart b b' (nmRow k x r) (nmRow k x r') (by rw [nmRows_live, hb]; rfl) (by rw [nmRows_live, hb']; rfl)
      rw [← hm.mu] at this
      exact this

/-- The map inside. -/
noncomputable def inner (m : Map) (k x : Nat) (z : Nat) : Map := ⟨m.mu, fun i => bif Nat.beq i k then (match x with | 0 => ⟨0, 0, z, 0, true⟩ | x + 1 => tkLoc (x + 1)) else m.ro i⟩
theorem inner_nm {m : Map} (hm : Named m) (k x z : Nat) : NmOK k x (inner m k x z) m := by
  refine ⟨rfl, fun i => ?_⟩
  simp only [inner, nmI]
  cases hb : Nat.beq i k with
  | false => exact .inl rfl
  | true =>
    simp only [cond_true]
    rw [hm x]
    cases x with
    | zero => exact .inr ⟨rfl, rfl⟩
    | succ x => exact .inl rfl
theorem inner_named {m : Map} (hm : Named m) {k : Nat} (hk : k < 15) (x z : Nat) : Named (inner m k x z) := by
  intro i
  simp only [inner]
  have : Nat.beq (i + 15) k = false := by rw [Bool.eq_false_iff]; intro e; have := Nat.eq_of_beq_eq_true e; omega
  rw [this]
  exact hm i
theorem RoOK.same {m m' : Map} {l : Loc} {r : RoRow} {w : World} (h : RoOK m l r w) (hd : ∀ i, i < r.n → ∀ a ∈ (r.at_ i).cells, ∀ v, Den m 0 a v → Den m' 0 a v) : RoOK m' l r w := by
  obtain ⟨h1, h2, h3⟩ := h
  refine ⟨h1, h2, ?_⟩
  split
  · rename_i hv; rw [if_pos hv] at h3; exact h3
  · rename_i hv
    rw [if_neg hv] at h3
    intro hn
    obtain ⟨c, fz, hc, hel⟩ := h3 hn
    refine ⟨c, fz, hc, fun j hj => ?_⟩
    obtain ⟨hl, hcell⟩ := hel j hj
    refine ⟨hl, fun o a ha => ?_⟩
    obtain ⟨h4, v, h5, h6⟩ := hcell o a ha
    exact ⟨h4, v, h5, hd j hj a (List.mem_of_getElem? ha) v h6⟩
/-- No row that is read speaks of the number k. -/
def Quits (R : Nat → RoRow) (k : Nat) : Prop := ∀ i j, j < (R i).n → ∀ a ∈ ((R i).at_ j).cells, ∀ x, nm k x a = a

section
variable {P : Program} {R : Nat → RoRow} {ds : List Deferred} {k x : Nat} {ro : RoRow} {F : Fz} {m : Map} {w : World}
theorem WR.inward (hk : k < 15) (hfr : Frz F x ro) (h0 : (R k).n = 0) (hR : Quits R k) {h : Rows} (hW : WR R m (nmRows k x h) w) (hf : FzOK F m (nmRows k x h) w) :
    WR (updR R k ro) (inner m k x ro.esz) h w ∧ FzOK F (inner m k x ro.esz) h w := by
  have hm : Named m := hf.ro
  have hN := inner_nm hm k x ro.esz
  have hl : WRl (inner m k x ro.esz) h w := (WRl.nm hN).2 ⟨hW.row, hW.apart⟩
  have hap : ∀ b r, h.live b = some r → (m.mu b).vir = false → F (m.mu b).blk = none := fun b r hb hv => hf.apart b (nmRow k x r) (by rw [nmRows_live, hb]; rfl) hv
  refine ⟨⟨hl.row, hl.apart, ?_, ?_⟩, ⟨hf.blk, hap, inner_named hm hk x ro.esz⟩⟩
  · intro i
    cases hb : Nat.beq i k with
    | false =>
      have e1 : updR R k ro i = R i := by simp only [updR, hb, cond_false]
      have e2 : (inner m k x ro.esz).ro i = m.ro i := by simp only [inner, hb, cond_false]
      rw [e1, e2]
      refine (hW.ro i).same fun j hj a ha v hd => ?_
      rw [nm_den hN, hR i j hj a ha x]
      exact hd
    | true =>
      have e1 : updR R k ro i = ro := by simp only [updR, hb, cond_true]
      rw [e1]
      rcases hfr with ⟨rfl, hn⟩ | ⟨blk, off, ext, c, hx, hne, hF, hcell⟩
      · have e2 : (inner m k 0 ro.esz).ro i = ⟨0, 0, ro.esz, 0, true⟩ := by simp only [inner, hb, cond_true]
        rw [e2]
        exact ⟨rfl, by rw [hn]; exact Nat.zero_le _, by simp only [if_true]; exact hn⟩
      · obtain ⟨y, hy⟩ : ∃ y, x = y + 1 := ⟨_, hx⟩
        have e2 : (inner m k x ro.esz).ro i = ⟨blk, off, ro.esz, ext, false⟩ := by
          simp only [inner, hb, cond_true]
          rw [hy]
          show tkLoc (y + 1) = _
          rw [← hy, hx, tkLoc_name]
        rw [e2]
        refine ⟨rfl, hne, ?_⟩
        simp only [Bool.false_eq_true, if_false]
        intro _
        obtain ⟨fz, hh⟩ := hf.blk _ _ _ hF
        refine ⟨c, fz, hh, fun j hj => ?_⟩
        obtain ⟨h1, h2⟩ := hcell j hj
        refine ⟨h1, fun o a ha => ?_⟩
        obtain ⟨h3, v, h4, h5⟩ := h2 o a ha
        exact ⟨h3, v, h4, h5 _ _ (inner_named hm hk x ro.esz)⟩
  · intro i b r hb hv hv2 hn
    simp only [updR, inner] at hv2 hn ⊢
    cases hbk : Nat.beq i k with
    | false =>
      rw [hbk] at hv2 hn
      simp only [cond_false] at hv2 hn ⊢
      exact hW.roApart i b (nmRow k x r) (by rw [nmRows_live, hb]; rfl) hv hv2 hn
    | true =>
      rw [hbk] at hv2 hn
      simp only [cond_true] at hv2 hn ⊢
      rcases hfr with ⟨rfl, hn0⟩ | ⟨blk, off, ext, c, hx, hne, hF, hcell⟩
      · simp at hv2
      · obtain ⟨y, rfl⟩ : ∃ y, x = y + 1 := ⟨_, hx⟩
        simp only []
        rw [hx, tkLoc_name]
        simp only []
        intro e
        rw [e, hap b r hb hv] at hF
        cases hF
theorem WR.outward {h h' : Rows} {m' : Map} {w' : World} {F' : Fz} (hm : Named m) (h0 : (R k).n = 0) (hR : Quits R k) (hN : NmOK k x m' ⟨m'.mu, m.ro⟩) (hro : ∀ i, Nat.beq i k = false → m'.ro i = m.ro i) (hW0 : ∀ i, (R i).esz = (m.ro i).esz)
    (hW : WR (updR R k ro) m' h' w') (hf : FzOK F' m' h' w') (hh : nmRows k x h' = h') : WR R ⟨m'.mu, m.ro⟩ h' w' ∧ FzOK F' ⟨m'.mu, m.ro⟩ h' w' := by
  have hl : WRl ⟨m'.mu, m.ro⟩ h' w' := by have := (WRl.nm hN).1 ⟨hW.row, hW.apart⟩; rwa [hh] at this
  refine ⟨⟨hl.row, hl.apart, ?_, ?_⟩, ⟨hf.blk, hf.apart, hm⟩⟩
  · intro i
    cases hb : Nat.beq i k with
    | false =>
      have := hW.ro i
      simp only [updR, hb, cond_false] at this
      rw [hro i hb] at this
      refine this.same fun j hj a ha v hd => ?_
      rw [← hR i j hj a ha x, ← nm_den hN]
      exact hd
    | true =>
      have := Nat.eq_of_beq_eq_true hb
      subst this
      refine ⟨(hW0 i).symm, by rw [h0]; exact Nat.zero_le _, ?_⟩
      split
      · exact h0
      · rw [h0]; intro h; exact absurd h (Nat.lt_irrefl _)
  · intro i b r hb hv hv2 hn
    cases hbk : Nat.beq i k with
    | false =>
      have := hW.roApart i b r hb hv
      simp only [updR, hbk, cond_false] at this
      rw [hro i hbk] at this
      exact this hv2 hn
    | true =>
      have := Nat.eq_of_beq_eq_true hbk
      subst this
      rw [h0] at hn
      exact absurd hn (Nat.lt_irrefl _)
theorem Step.inward {h h' : Rows} {m2 m' : Map} {w' : World} (hmu : m2.mu = m.mu) (hs : Step m2 h w m' h' w') : Step m (nmRows k x h) w ⟨m'.mu, m.ro⟩ h' w' where
  os := hs.os
  tape := hs.tape
  output := hs.output
  size := hs.size
  block := fun j hj hn => hs.block j hj fun b r hb hv => by
    rw [hmu] at hv ⊢
    exact hn b (nmRow k x r) (by rw [nmRows_live, hb]; rfl) hv
  len := by rw [nmRows_length]; exact hs.len
  mu := fun b hb => by rw [nmRows_length] at hb; rw [← hmu]; exact hs.mu b hb
  ro := rfl
  new := fun b r hb hv => by
    rcases hs.new b r hb hv with h1 | ⟨c, r', hc, hcv, hce⟩
    · exact .inl h1
    · rw [hmu] at hcv hce
      exact .inr ⟨c, nmRow k x r', by rw [nmRows_live, hc]; rfl, hcv, hce⟩
theorem Fz.To.inward {h : Rows} {m2 : Map} {F' : Fz} (hmu : m2.mu = m.mu) (hl : F.To m2 h w F') : F.To m (nmRows k x h) w F' where
  le := hl.le
  new := fun b y hb => by
    rcases hl.new b y hb with h1 | h1 | ⟨c, r', hc, hcv, hce⟩
    · exact .inl h1
    · exact .inr (.inl h1)
    · rw [hmu] at hcv hce
      exact .inr (.inr ⟨c, nmRow k x r', by rw [nmRows_live, hc]; rfl, hcv, hce⟩)
theorem SafeX.swap {c : Code} {st : St} {Q Q1 : Exit → St → Fz → Prop} {HP HP1 : AV → Rows → Fz → Prop} (hk : k < 15) (hfr : Frz F x ro) (h0 : (R k).n = 0) (hR : Quits R k) (h : SafeX P (updR R k ro) ds c st F Q HP)
    (hq : ∀ e st' F', F.le F' → Q e st' F' → nmSt k x st' = st' ∧ Q1 e st' F') (hp : ∀ v h' F', F.le F' → HP v h' F' → nm k x v = v ∧ nmRows k x h' = h' ∧ HP1 v h' F') : SafeX P R ds c (nmSt k x st) F Q1 HP1 := by
  intro m a w m0 h1 w0 F0 hr hf hs hl
  have hm : Named m := hf.ro
  obtain ⟨hW2, hf2⟩ := WR.inward hk hfr h0 hR hr.wr hf
  have hN := inner_nm hm k x ro.esz
  have hr2 : RelX (updR R k ro) ds (inner m k x ro.esz) st a w := by
    refine ⟨by simpa [nmSt] using hr.size, ?_, hr.defers, hW2⟩
    intro i y hy
    obtain ⟨c, hc, hd⟩ := hr.tmps i (nm k x y) (by simp only [nmSt, List.getElem?_map, hy]; rfl)
    refine ⟨c, hc, ?_⟩
    simp only [nmSt, nmRows_length] at hd
    exact (nm_den hN _ _ _).2 hd
  have hesz : ∀ i, (R i).esz = (m.ro i).esz := fun i => (hr.wr.ro i).1.symm
  have key : ∀ {m' : Map} {w' : World} {h' : Rows}, Step (inner m k x ro.esz) st.rows w m' h' w' → NmOK k x m' ⟨m'.mu, m.ro⟩ ∧ ∀ i, Nat.beq i k = false → m'.ro i = m.ro i := by
    intro m' w' h' hS
    refine ⟨⟨rfl, fun i => ?_⟩, fun i hi => ?_⟩
    · rw [hS.ro]; exact hN.ro i
    · rw [hS.ro]; simp only [inner, hi, cond_false]
  refine wp_mono (h (inner m k x ro.esz) a w (inner m k x ro.esz) st.rows w F hr2 hf2 (Step.refl _ _ _) (.refl _ _ _ _)) ?_
  intro e a' w' hpost
  cases e with
  | panic ch =>
    obtain ⟨m', h', v, cv, F', h1, h2, h3, h4, h5, h6, h7, h8⟩ := hpost
    obtain ⟨e1, e2, e3⟩ := hp _ _ _ h7.le h2
    obtain ⟨hN', hro'⟩ := key h6
    obtain ⟨hW3, hf3⟩ := WR.outward hm h0 hR hN' hro' hesz h4 h5 e2 (h := st.rows)
    refine ⟨⟨m'.mu, m.ro⟩, h', v, cv, F', h1, e3, ?_, hW3, hf3, hs.trans (Step.inward (m := m) (m2 := inner m k x ro.esz) rfl h6), hl.trans hs (Fz.To.inward (m := m) (m2 := inner m k x ro.esz) rfl h7), h8⟩
    rw [← e1]; exact (nm_den hN' _ _ _).1 h3
  | goto l => obtain ⟨_, _, _, h, _⟩ := hpost; exact h.elim
  | outgrown => obtain ⟨_, _, _, h, _⟩ := hpost; exact h.elim
  | _ =>
    obtain ⟨m', st', F', hok, hqq, hr', hf', hs', hl'⟩ := hpost
    obtain ⟨e1, e2⟩ := hq _ _ _ hl'.le hqq
    obtain ⟨hN', hro'⟩ := key hs'
    have eT : st'.tmps.map (nm k x) = st'.tmps := congrArg St.tmps e1
    have eR : nmRows k x st'.rows = st'.rows := congrArg St.rows e1
    obtain ⟨hW3, hf3⟩ := WR.outward hm h0 hR hN' hro' hesz hr'.wr hf' eR (h := st.rows)
    refine ⟨⟨m'.mu, m.ro⟩, st', F', hok, e2, ⟨hr'.size, ?_, hr'.defers, hW3⟩, hf3, hs.trans (Step.inward (m := m) (m2 := inner m k x ro.esz) rfl hs'), hl.trans hs (Fz.To.inward (m := m) (m2 := inner m k x ro.esz) rfl hl')⟩
    intro i y hy
    obtain ⟨y0, hy0, hye⟩ : ∃ y0, st'.tmps[i]? = some y0 ∧ nm k x y0 = y := by
      rw [← eT, List.getElem?_map] at hy
      obtain ⟨y0, h1, h2⟩ := Option.map_eq_some_iff.1 hy
      exact ⟨y0, h1, h2⟩
    obtain ⟨c, hc, hd⟩ := hr'.tmps i y0 hy0
    exact ⟨c, hc, by rw [← hye]; exact (nm_den hN' _ _ _).1 hd⟩
theorem SafeCallX.swap {f : FuncId} {args : List AV} {h : Rows} {Q Q1 : AV → Rows → Fz → Prop} {HP HP1 : AV → Rows → Fz → Prop} (hk : k < 15) (hfr : Frz F x ro) (h0 : (R k).n = 0) (hR : Quits R k) (hs : SafeCallX P (updR R k ro) f args h F Q HP)
    (hq : ∀ v h' F', F.le F' → Q v h' F' → nm k x v = v ∧ nmRows k x h' = h' ∧ Q1 v h' F') (hp : ∀ v h' F', F.le F' → HP v h' F' → nm k x v = v ∧ nmRows k x h' = h' ∧ HP1 v h' F') : SafeCallX P R f (nmL k x args) (nmRows k x h) F Q1 HP1 := by
  intro m w m0 h1 w0 F0 as hd hW hf hst hl
  have hm : Named m := hf.ro
  obtain ⟨hW2, hf2⟩ := WR.inward hk hfr h0 hR hW hf
  have hN := inner_nm hm k x ro.esz
  have hesz : ∀ i, (R i).esz = (m.ro i).esz := fun i => (hW.ro i).1.symm
  rw [nmRows_length] at hd
  refine (hs (inner m k x ro.esz) w (inner m k x ro.esz) h w F as ((nmL_den hN _ _ _).2 hd) hW2 hf2 (Step.refl _ _ _) (.refl _ _ _ _)).mono ?_
  rintro e w' ⟨m', h', F', hW', hf', hl', hs', hcase⟩
  have hN' : NmOK k x m' ⟨m'.mu, m.ro⟩ := ⟨rfl, fun i => by rw [hs'.ro]; exact hN.ro i⟩
  have hro' : ∀ i, Nat.beq i k = false → m'.ro i = m.ro i := fun i hi => by rw [hs'.ro]; simp only [inner, hi, cond_false]
  rcases hcase with ⟨c, v, rfl, hqq, hd'⟩ | ⟨c, v, rfl, hqq, hd'⟩
  · obtain ⟨e1, e2, e3⟩ := hq _ _ _ hl'.le hqq
    obtain ⟨hW3, hf3⟩ := WR.outward hm h0 hR hN' hro' hesz hW' hf' e2 (h := h)
    refine ⟨⟨m'.mu, m.ro⟩, h', F', hW3, hf3, hl.trans hst (Fz.To.inward (m := m) (m2 := inner m k x ro.esz) rfl hl'), hst.trans (Step.inward (m := m) (m2 := inner m k x ro.esz) rfl hs'), .inl ⟨c, v, rfl, e3, ?_⟩⟩
    rw [← e1]; exact (nm_den hN' _ _ _).1 hd'
  · obtain ⟨e1, e2, e3⟩ := hp _ _ _ hl'.le hqq
    obtain ⟨hW3, hf3⟩ := WR.outward hm h0 hR hN' hro' hesz hW' hf' e2 (h := h)
    refine ⟨⟨m'.mu, m.ro⟩, h', F', hW3, hf3, hl.trans hst (Fz.To.inward (m := m) (m2 := inner m k x ro.esz) rfl hl'), hst.trans (Step.inward (m := m) (m2 := inner m k x ro.esz) rfl hs'), .inr ⟨c, v, rfl, e3, ?_⟩⟩
    rw [← e1]; exact (nm_den hN' _ _ _).1 hd'
end
end Go.Dc
end
section
set_option linter.unusedSimpArgs false
set_option linter.unusedVariables false
namespace Go.Dc
/-- A row that leads to no live rows. -/
structure RowG (r : Row) : Prop where
  vw : ∀ f n, RowV f n r r
  ren : ∀ g, renRow g r = r
theorem View.setSame {h : Rows} {b : Nat} {r' : Row} (hb : b < h.length) (hr : RowG r') (j : Rows) (hV : View some h h) (ho : ∃ r, h.live b = some r) : View some (h.set b (some r')) (h.set b (some r') ++ j) where
  lt := fun c d hc hd => by have := hV.lt c d (by simpa using hc) hd; simp; omega
  inj := fun c c' d hc hc' => hV.inj c c' d (by simpa using hc) (by simpa using hc')
  row := fun c q hc => by
    have hlt : c < h.length := by have := live_lt hc; simpa using this
    by_cases hcb : c = b
    · subst hcb
      have hq : q = r' := by
        unfold Rows.live at hc
        rw [List.getElem?_set_self hlt] at hc
        simpa using hc.symm
      subst hq
      refine .inl ⟨c, q, rfl, ?_, hr.vw _ _⟩
      rw [live_append (by simpa using hlt)]
      exact hc
    · have hc' : h.live c = some q := by
        unfold Rows.live at hc ⊢
        rw [List.getElem?_set_ne (fun e => hcb e.symm)] at hc
        exact hc
      rcases hV.row c q hc' with ⟨d, q', h1, h2, h3⟩ | ⟨h1, h2⟩
      · cases h1
        rw [hc'] at h2; cases h2
        refine .inl ⟨c, q, rfl, ?_, by simpa using h3⟩
        rw [live_append (by simpa using hlt)]
        exact hc
      · exact .inr ⟨h1, h2⟩

/-- What is known of one row alone holds wherever it lies. -/
theorem SafeCallX.at1 {P : Program} {R : Nat → RoRow} {fn : FuncId} {argsL args : List AV} {r : Row} {h : Rows} {b : Nat} {F : Fz} {Q HP : AV → Row → Fz → Prop}
    (hb : h.live b = some r) (hr : RowG r) (hA : VwL (oneV b) 1 argsL args)
    (hs : SafeCallX P R fn argsL [some r] F (fun v h' F' => ∃ r' tl, h' = some r' :: tl ∧ gnd v = true ∧ RowG r' ∧ Q v r' F') (fun v h' F' => ∃ r' tl, h' = some r' :: tl ∧ gnd v = true ∧ RowG r' ∧ HP v r' F')) :
    SafeCallX P R fn args h F (fun v h' F' => ∃ r', h' = h.set b (some r') ∧ Q v r' F') (fun v h' F' => ∃ r', h' = h.set b (some r') ∧ HP v r' F') := by
  have hlt : b < h.length := live_lt hb
  have hb' : h[b]? = some (some r) := by
    unfold Rows.live at hb
    rw [List.getElem?_eq_getElem hlt] at hb ⊢
    simpa using hb
  have hV : View (oneV b) [some r] h := View.of (fun c o ho => by
    cases c with
    | zero => cases ho; exact ViewL.at_ (b := b) rfl hb' (hr.vw _ _)
    | succ c => simp at ho) (fun c c' d hc hc' _ _ => by simp at hc hc'; omega)
  intro m w m0 h0 w0 F0 as hd hW hf hst hl
  have hV0 := hW.idView
  refine (SafeCallX.focus hV hA hs m w m h w F as hd hW hf (Step.refl _ _ _) (.refl _ _ _ _)).mono ?_
  have fin : ∀ {c v v' : AV} {cv : Value} {h' : Rows} {m' : Map} {F' : Fz} {w' : World} {r' : Row} {tl : Rows}, h' = some r' :: tl → gnd v' = true → RowG r' → v = ren (ext (oneV b) [some r].length h.length) v' → Den m' (merged (oneV b) [some r].length [some r].length h h').length v cv →
      WR R m' (merged (oneV b) [some r].length [some r].length h h') w' → FzOK F' m' (merged (oneV b) [some r].length [some r].length h h') w' → Step m h w m' (merged (oneV b) [some r].length [some r].length h h') w' →
      ∃ m2, WR R m2 (h.set b (some r')) w' ∧ FzOK F' m2 (h.set b (some r')) w' ∧ Step m h w m2 (h.set b (some r')) w' ∧ Den m2 (h.set b (some r')).length v' cv := by
    intro c v v' cv h' m' F' w' r' tl e1 hg hrg e2 hd' hW' hf' hS'
    subst e1
    have em : merged (oneV b) [some r].length [some r].length h (some r' :: tl) = h.set b (some r') ++ (Option.none :: tl.map (Option.map (renRow (g1 b h.length)))) := by
      have := merged_one hlt (some r') tl
      rw [Option.map_some, hrg.ren] at this
      exact this
    rw [em] at hd' hW' hf' hS'
    have hV2 := View.setSame hlt hrg (Option.none :: tl.map (Option.map (renRow (g1 b h.length)))) hV0 ⟨r, hb⟩
    rw [gnd_ren _ _ hg] at e2
    subst e2
    exact ⟨_, hW'.view hV2, hf'.view hV2, hS'.forget hV2 (fun c hc => rfl) (by simp), (gnd_vw some _ v hg).den _ _ _ hd'⟩
  rintro e w' ⟨m', h', F', hW', hf', hl', hs', ⟨c, v, rfl, ⟨v', h2, ⟨r', tl, e1, hg, hrg, hq⟩, e2, e3⟩, hd'⟩ | ⟨c, v, rfl, ⟨v', h2, ⟨r', tl, e1, hg, hrg, hq⟩, e2, e3⟩, hd'⟩⟩
  · subst e3
    obtain ⟨m2, q1, q2, q3, q4⟩ := fin (c := v) e1 hg hrg e2 hd' hW' hf' hs'
    exact ⟨m2, _, F', q1, q2, hl.trans hst hl', hst.trans q3, .inl ⟨c, v', rfl, ⟨r', rfl, hq⟩, q4⟩⟩
  · subst e3
    obtain ⟨m2, q1, q2, q3, q4⟩ := fin (c := v) e1 hg hrg e2 hd' hW' hf' hs'
    exact ⟨m2, _, F', q1, q2, hl.trans hst hl', hst.trans q3, .inr ⟨c, v', rfl, ⟨r', rfl, hq⟩, q4⟩⟩

/-! ### A region that ends in a panic -/
theorem upon_mono {P : Program} {o : Oper} {a : Act} {K K' : Act → World → Prop} {Q Q' : Exit → Act → World → Prop} (hk : ∀ a w, K a w → K' a w) (hp : ∀ e a w, e ≠ .normal → Q e a w → Q' e a w) : ∀ r, o.upon P a K Q r → o.upon P a K' Q' r := by
  intro r h
  unfold Oper.upon at h ⊢
  split at h
  · exact hk _ _ h
  · exact hk _ _ h
  · exact hk _ _ h
  · refine Calls.mono h ?_
    intro e w' he
    cases e with
    | returned v => exact hk _ _ he
    | panicked ch => exact hp _ _ _ (by simp) he
    | outgrown => obtain ⟨a', w2, h2⟩ := he; exact ⟨a', w2, hp _ _ _ (by simp) h2⟩
  · exact Rows.mono h fun v w' hh => hk _ _ hh
  · exact hp _ _ _ (by simp) h
  · exact h.elim
theorem wpList_append {P : Program} {ops : Array Oper} {Q : Exit → Act → World → Prop} {l2 : List Oper} : ∀ (l1 : List Oper) (a : Act) (w : World), wpList P ops (fun e a w => match e with | .normal => wpList P ops Q l2 a w | e => Q e a w) l1 a w → wpList P ops Q (l1 ++ l2) a w
  | [], a, w, h => h
  | o :: l1, a, w, h => by
    simp only [List.cons_append]
    unfold wpList at h ⊢
    split
    · rename_i hw
      rw [if_pos hw] at h
      rcases h with h | ⟨h1, a', w', h2⟩
      · refine .inl (upon_mono (fun a w h => wpList_append l1 a w h) ?_ _ h)
        intro e a w hne hq
        cases e with
        | normal => exact absurd rfl hne
        | _ => exact hq
      · exact .inr ⟨h1, a', w', h2⟩
    · rename_i hw
      rw [if_neg hw] at h
      exact wpList_append l1 _ _ h
theorem SafeX.panicEnd {P : Program} {E : EnvX} {HP : AV → Rows → Fz → Prop} {ds : List Deferred} (hT : TabOK P E.T) {id : Nat} {ops : Array Oper} {pre : List Oper} {o : Oper} {x : Operand} (ho : ops.toList = pre ++ [o]) (hop : o.op = .panic x) (hog : o.guard = none)
    {st : St} {F : Fz} {Q : Exit → St → Fz → Prop}
    (hk : runOpsB ansX E (fun _ _ _ _ _ => False) ops.toList pre st (fun st' F' => HP (st'.ev x) st'.rows F' ∧ ∃ t y, st'.ev x = .ifc t y) F) : SafeX P E.R ds (.region id ops false) st F Q HP := by
  intro m a w m0 h0 w0 F0 hr hf hs hl
  refine wp_region_list ?_
  rw [ho]
  refine wpList_append pre a w ?_
  refine runOps_okX (HP := HP) ansX_holds hT (call := fun _ _ _ _ _ => False) (fun f args h k F hh => hh.elim) ops pre st _ F hk hr hf hs hl _ ?_ ?_
  · intro a' c v m' h' w' F' hd h1 h2 h3 h4 h5 h6
    exact ⟨m', h', v, c, F', rfl, h1, h2, h3, h4, h5, h6, hd⟩
  · rintro F' m' st' a' w' ⟨hh, t, y, hy⟩ hr' hf' hs' hl'
    unfold wpList
    have hw : Region.wanted o (yielded ops a'.tmps) = true := by simp [Region.wanted, hog]
    rw [if_pos hw]
    refine .inl ?_
    unfold Oper.wp
    have hev := hr'.ev x
    rw [hy] at hev
    have hev2 := hev
    simp only [Den] at hev
    obtain ⟨u, hu, hdu⟩ := hev
    have hrun : (execOp a'.eval o).run P w' = .halt (.panic (a'.eval x)) w' := by
      obtain ⟨dst, op, type, pos, after, guard⟩ := o
      simp only at hop
      subst hop
      have h9 : (Instr.panic (a'.eval x)).run P w' = .halt (.panic (a'.eval x)) w' := by rw [hu]; rfl
      simp only [execOp, Sem.run_bind, h9, Result.andThen]
    rw [hrun]
    exact ⟨m', st'.rows, st'.ev x, a'.eval x, F', rfl, hh, by rw [hy]; exact hev2, hr'.wr, hf', hs', hl', hr'.defers⟩
end Go.Dc
end
section
set_option linter.unusedSimpArgs false
set_option linter.unusedVariables false
namespace Go.Dc
theorem SafeCall.by {P : Program} (hm : P.follows .mixedOrders = true) {E : Env Prop} (hE : EnvOK P E id) {f : FuncId} {fi : FI} (hF : E.F f = some fi) {args : List AV} {h : Rows} {Q : AV → Rows → Prop} (n : Nat) {C : Prop} (he : Dc.vcd E n f fi args h Q = C) (hc : C) : SafeCall P E.R f args h Q :=
  SafeCall.vcd hm hE hF n (he ▸ hc)
theorem Safe.by {P : Program} (hm : P.follows .mixedOrders = true) {E : Env Prop} (hE : EnvOK P E id) {f : FuncId} {fi : FI} (hF : E.F f = some fi) {i : Nat} {b c : Code} (hb : blockOf fi i = some b) (hcs : subs c = subs b) {st : St} {k : Exit → St → Prop} (n : Nat) {C : Prop} (he : Dc.rnd E n f c st k = C) (hc : C) : Safe P E.R c st k :=
  Safe.rnd hm hE hF hb hcs n (he ▸ hc)
theorem SafeCallX.by {P : Program} {E : EnvX} {HP : AV → Rows → Fz → Prop} (hm : P.follows .mixedOrders = true) (hE : OKX P E [] HP) {f : FuncId} {fi : FI} (hF : E.F f = some fi) {args : List AV} {h : Rows} {F : Fz} {Q : AV → Rows → Fz → Prop} (n : Nat) {C : Prop} (he : Dc.vcx E n f fi args h Q F = C) (hc : C) : SafeCallX P E.R f args h F Q HP :=
  SafeCallX.vcx hm hE hF n (he ▸ hc)
theorem SafeX.by {P : Program} {E : EnvX} {HP : AV → Rows → Fz → Prop} (hm : P.follows .mixedOrders = true) (hE : OKX P E [] HP) {f : FuncId} {fi : FI} (hF : E.F f = some fi) {i : Nat} {b c : Code} (hb : blockOf fi i = some b) (hcs : subs c = subs b) {st : St} {F : Fz} {k : Exit → St → Fz → Prop} (n : Nat) {C : Prop} (he : Dc.rnx E n f c st k F = C) (hc : C) : SafeX P E.R [] c st F k HP :=
  SafeX.round hm hE hF hb hcs n (he ▸ hc)
/-- The first rows stay as they are. -/
theorem View.preX {L tl : Rows} (hL : ∀ c r, L.live c = some r → RowV some L.length r r) : View some L (L ++ tl) where
  lt := fun c b hc hb => by simp at hb; simp; omega
  inj := fun c c' b _ _ h1 h2 => by simp at h1 h2; omega
  row := fun c r hc => .inl ⟨c, r, rfl, by rw [live_append (live_lt hc)]; exact hc, hL c r hc⟩
theorem Fit.pre {L tl : Rows} {T T' : List AV} (hL : ∀ c r, L.live c = some r → RowV some L.length r r) (hT : VwL some L.length T T') : Fit L.length ⟨T, L⟩ ⟨T', L ++ tl⟩ :=
  ⟨some, ⟨View.preX hL, hT⟩, fun _ _ => rfl, Nat.le_refl _⟩
theorem live1 {r q : Row} {c : Nat} (h : Rows.live [some r] c = some q) : q = r := by
  match c with
  | 0 => simp [Rows.live] at h; exact h.symm
  | c + 1 => simp [Rows.live] at h
theorem Fit.row1 {r : Row} {T T' : List AV} {tl : Rows} (hr : RowG r) (hT : VwL some 1 T T') : Fit 1 ⟨T, [some r]⟩ ⟨T', some r :: tl⟩ :=
  Fit.pre (L := [some r]) (fun c q h => by rw [live1 h]; exact hr.vw _ _) hT
theorem RowG.lst1 {t z : Nat} {e : AV} (h1 : ones e = true) (h2 : gnd e = true) (h3 : ∀ g, Go.Dc.ren g e = e) : RowG (.lst t z [e]) := ⟨fun f n => .gnd h1 h2, fun g => by simp only [renRow, List.map_cons, List.map_nil, h3]⟩
theorem RowG.lst1' {t z : Nat} {e : AV} (h1 : ones e = true) (h2 : gnd e = true) : RowG (.lst t z [e]) := .lst1 h1 h2 fun g => gnd_ren g e h2
theorem FitV.row1 {r : Row} {v : AV} {tl : Rows} (hr : RowG r) (hv : gnd v = true) : FitV 1 v [some r] v (some r :: tl) :=
  ⟨some, View.preX (L := [some r]) (fun c q h => by rw [live1 h]; exact hr.vw _ _), gnd_vw _ _ _ hv, fun _ _ => rfl, Nat.le_refl _⟩
/-- One row alone: what is known of a call there without panic. -/
theorem SafeCall.at1 {P : Program} {R : Nat → RoRow} {fn : FuncId} {argsL args : List AV} {r : Row} {h : Rows} {b : Nat} {Q : AV → Row → Prop}
    (hb : h.live b = some r) (hr : RowG r) (hA : VwL (oneV b) 1 argsL args)
    (hs : SafeCall P R fn argsL [some r] fun v h' => ∃ r' tl, h' = some r' :: tl ∧ gnd v = true ∧ RowG r' ∧ Q v r') :
    SafeCall P R fn args h fun v h' => ∃ r', h' = h.set b (some r') ∧ Q v r' := by
  have hlt : b < h.length := live_lt hb
  have hb' : h[b]? = some (some r) := by
    unfold Rows.live at hb
    rw [List.getElem?_eq_getElem hlt] at hb ⊢
    simpa using hb
  have hV : View (oneV b) [some r] h := View.of (fun c o ho => by
    cases c with
    | zero => cases ho; exact ViewL.at_ (b := b) rfl hb' (hr.vw _ _)
    | succ c => simp at ho) (fun c c' d hc hc' _ _ => by simp at hc hc'; omega)
  intro m w m0 h0 w0 as hd hW hst
  have hV0 := hW.idView
  refine (SafeCall.focus hV hA hs m w m h w as hd hW (Step.refl _ _ _)).mono ?_
  rintro e w' ⟨c, v, m', h', rfl, ⟨v', h2, ⟨r', tl, rfl, hg, hrg, hq⟩, e2, rfl⟩, hd', hW', hs'⟩
  have em : merged (oneV b) [some r].length [some r].length h (some r' :: tl) = h.set b (some r') ++ (Option.none :: tl.map (Option.map (renRow (g1 b h.length)))) := by
    have := merged_one hlt (some r') tl
    rw [Option.map_some, hrg.ren] at this
    exact this
  rw [em] at hd' hW' hs'
  have hV2 := View.setSame hlt hrg (Option.none :: tl.map (Option.map (renRow (g1 b h.length)))) hV0 ⟨r, hb⟩
  rw [gnd_ren _ _ hg] at e2
  subst e2
  exact ⟨c, v, _, _, rfl, ⟨r', rfl, hq⟩, (gnd_vw some _ v hg).den _ _ _ hd', hW'.view hV2, hst.trans (hs'.forget hV2 (fun c hc => rfl) (by simp))⟩
theorem live_set_self {h : Rows} {b : Nat} {r : Row} (hb : h.live b = some r) : h.set b (some r) = h := by
  have hlt : b < h.length := live_lt hb
  apply List.ext_getElem?
  intro i
  rw [List.getElem?_set]
  by_cases e : b = i
  · subst e
    rw [if_pos rfl, if_pos hlt]
    unfold Rows.live at hb
    rw [List.getElem?_eq_getElem hlt] at hb ⊢
    simp at hb
    rw [hb]
  · rw [if_neg e]
/-- A state seen otherwise, where a row may be told under a new number. -/
structure ViewW (f : Nat → Option Nat) (hL h : Rows) : Prop where
  inj : ∀ c c' b r r', hL.live c = some r → hL.live c' = some r' → f c = some b → f c' = some b → c = c'
  row : ∀ c r, hL.live c = some r → (∃ b r', f c = some b ∧ h.live b = some r' ∧ RowV f hL.length r r') ∨ (f c = none ∧ r.len = 0)
theorem ViewW.real {m : Map} {f : Nat → Option Nat} {hL h : Rows} (hV : ViewW f hL h) {c : Nat} {r : Row} (hc : hL.live c = some r) (hv : ((m.view f hL.es).mu c).vir = false) :
    ∃ b r', f c = some b ∧ h.live b = some r' ∧ RowV f hL.length r r' ∧ (m.view f hL.es).mu c = m.mu b := by
  rcases hV.row c r hc with ⟨b, r', h1, h2, h3⟩ | ⟨h1, h2⟩
  · exact ⟨b, r', h1, h2, h3, view_some h1⟩
  · rw [view_none h1] at hv; simp at hv
theorem WR.viewW {R : Nat → RoRow} {m : Map} {f : Nat → Option Nat} {hL h : Rows} {w : World} (hW : WR R m h w) (hV : ViewW f hL h) : WR R (m.view f hL.es) hL w where
  row := fun c r hc => by
    rcases hV.row c r hc with ⟨b, r', h1, h2, h3⟩ | ⟨h1, h2⟩
    · rw [view_some h1]; exact (hW.row _ _ h2).view h3
    · rw [view_none h1]
      refine ⟨?_, by rw [h2]; exact Nat.zero_le _, ?_⟩
      · show hL.es c = r.esz
        unfold Rows.es
        rw [hc]
      · rw [if_pos rfl]; exact ⟨h2, rfl⟩
  apart := fun b b' r r' hb hb' hv hv' he => by
    obtain ⟨d, r1, h1, h2, _, e1⟩ := hV.real hb hv
    obtain ⟨d', r2, h1', h2', _, e2⟩ := hV.real hb' hv'
    rw [e1] at hv he; rw [e2] at hv' he
    have := hW.apart _ _ _ _ h2 h2' hv hv' he
    subst this
    exact hV.inj b b' _ _ _ hb hb' h1 h1'
  ro := fun i => (hW.ro i).same fun _ _ _ _ _ hd => Den.ground (m := m) (m' := m.view f hL.es) rfl hd
  roApart := fun i b r hb hv hr hn => by
    obtain ⟨d, r1, h1, h2, _, e1⟩ := hV.real hb hv
    rw [e1] at hv ⊢
    exact hW.roApart i _ _ h2 hv hr hn
theorem ToX.fitW {R : Nat → RoRow} {ds : List Deferred} {nk : Nat} {st stE : St} {F : Fz} {S : St → Fz → Prop} (f : Nat → Option Nat) (hV : ViewW f stE.rows st.rows) (hT : VwL f stE.rows.length stE.tmps st.tmps) (hf : ∀ c, c < nk → f c = some c) (hl : nk ≤ stE.rows.length)
    (h : ToX R ds nk stE F S) : ToX R ds nk st F S := by
  intro m a w m0 h0 w0 F0 hn hr hF hs hl0
  refine h (m.view f stE.rows.es) a w m0 h0 w0 F0 hn ⟨hr.size.trans hT.length.symm, ?_, hr.defers, hr.wr.viewW hV⟩ ⟨hF.blk, ?_, hF.ro⟩ ⟨hs.os, hs.tape, hs.output, hs.size, hs.block, Nat.le_trans hn hl, ?_, hs.ro, ?_⟩ hl0
  · intro i x hx
    obtain ⟨y, hy, hxy⟩ := hT.get hx
    obtain ⟨c, hc, hd⟩ := hr.tmps i y hy
    exact ⟨c, hc, hxy.den _ _ _ hd⟩
  · intro c r hc hv
    obtain ⟨b, r', h1, h2, h3, h4⟩ := hV.real hc hv
    rw [h4] at hv ⊢
    exact hF.apart b r' h2 hv
  · intro b hb
    rw [view_some (hf b (Nat.lt_of_lt_of_le hb hn)), hs.mu b hb]
  · intro b r hb hv
    obtain ⟨d, r1, h1, h2, _, e1⟩ := hV.real hb hv
    rw [e1] at hv ⊢
    exact hs.new _ _ h2 hv
/-- The last row under a new number. -/
def dupR (b n : Nat) : Nat → Option Nat := fun c => bif Nat.beq c n then some b else some c
end Go.Dc
end
section
set_option linter.unusedSimpArgs false
set_option linter.unusedVariables false
namespace Go.Dc
section
variable {P : Program} {R : Nat → RoRow} {ds : List Deferred} {st : St} {F : Fz} {Q : Exit → St → Fz → Prop} {HP : AV → Rows → Fz → Prop}
theorem SafeX.seq {x y : Code} (h : SafeX P R ds x st F (fun e st' F' => match e with | .normal => SafeX P R ds y st' F' Q HP | e => Q e st' F') HP) : SafeX P R ds (.seq x y) st F Q HP := by
  intro m a w m0 h0 w0 F0 hr hf hs hl
  refine wp_seq (wp_mono (h m a w m0 h0 w0 F0 hr hf hs hl) ?_)
  intro e a' w' hp
  cases e with
  | panic ch => exact hp
  | goto l => obtain ⟨_, _, _, h, _⟩ := hp; exact h.elim
  | outgrown => obtain ⟨_, _, _, h, _⟩ := hp; exact h.elim
  | normal => obtain ⟨m', st', F', _, hq, hr', hf', hs', hl'⟩ := hp; exact hq m' a' w' m0 h0 w0 F0 hr' hf' hs' hl'
  | _ => exact hp
theorem SafeX.condB {x : Operand} {y z : Code} {b : Bool} (hx : st.ev x = .bool b) (h : SafeX P R ds (cond b y z) st F Q HP) : SafeX P R ds (.cond x y z) st F Q HP := by
  intro m a w m0 h0 w0 F0 hr hf hs hl
  have hev := hr.ev x
  rw [hx] at hev
  simp only [Den] at hev
  cases b with
  | true => exact wp_cond_true hev (h m a w m0 h0 w0 F0 hr hf hs hl)
  | false => exact wp_cond_false hev (h m a w m0 h0 w0 F0 hr hf hs hl)
theorem SafeX.skip (h : Q .normal st F) : SafeX P R ds .skip st F Q HP := fun m a w m0 h0 w0 F0 hr hf hs hl => wp_skip ⟨m, st, F, trivial, h, hr, hf, hs, hl⟩
/-- An operation shown by hand. -/
def HandOp (P : Program) (R : Nat → RoRow) (o : Oper) (st : St) (v : AV) : Prop := ∀ ds m a w, RelX R ds m st a w → ∃ c, (execOp a.eval o).run P w = .ok (.value c) w ∧ Den m st.rows.length v c
theorem SafeX.handOp {E : EnvX} (hT : TabOK P E.T) {id : Nat} {ops : Array Oper} {pre suf : List Oper} {o : Oper} (ho : ops.toList = pre ++ o :: suf) (hg : o.guard = none)
    {st : St} {F : Fz} {k : St → Fz → Prop} (hk : runOpsB ansX E (fun _ _ _ _ _ => False) ops.toList pre st (fun st1 F1 => ∃ v, HandOp P E.R o st1 v ∧ runOpsB ansX E (fun _ _ _ _ _ => False) ops.toList suf (st1.put o.dst v) k F1) F) :
    SafeX P E.R ds (.region id ops false) st F (fun e st' F' => e = .normal ∧ k st' F') HP := by
  intro m a w m0 h0 w0 F0 hr hf hs hl
  refine wp_region_list ?_
  rw [ho]
  refine wpList_append pre a w ?_
  refine runOps_okX (HP := HP) ansX_holds hT (call := fun _ _ _ _ _ => False) (fun f args h k F hh => hh.elim) ops pre st _ F hk hr hf hs hl _ ?_ ?_
  · intro a' c v m' h' w' F' hd h1 h2 h3 h4 h5 h6
    exact ⟨m', h', v, c, F', rfl, h1, h2, h3, h4, h5, h6, hd⟩
  · rintro F' m' st' a' w' ⟨v, hv, hsuf⟩ hr' hf' hs' hl'
    unfold wpList
    have hw : Region.wanted o (yielded ops a'.tmps) = true := by simp [Region.wanted, hg]
    rw [if_pos hw]
    refine .inl ?_
    unfold Oper.wp
    obtain ⟨c, hrun, hd⟩ := hv ds m' a' w' hr'
    rw [hrun]
    have hr2 := hr'.put (Step.refl _ _ _) hr'.wr o.dst hd
    refine runOps_okX (HP := HP) ansX_holds hT (call := fun _ _ _ _ _ => False) (fun f args h k F hh => hh.elim) ops suf _ _ F' hsuf hr2 hf' hs' hl' _ (postX_to _ _ _ _ _ _ _ _) ?_
    intro F2 m2 st2 a2 w2 hk2 hr3 hf3 hs3 hl3
    exact ⟨m2, st2, F2, trivial, ⟨rfl, hk2⟩, hr3, hf3, hs3, hl3⟩
end
/-! the operations -/
theorem HandOp.neqNil {P : Program} {R : Nat → RoRow} {dst : Option Tmp} {t : TypeId} {x : Operand} {ot : TypeId} {ty : TypeId} {pos : String} {after : Array Edge} {guard : Option (Nat × Bool)} {st : St}
    (ht : P.underlying t = some (.interface (P.methodsAt t))) {b : Bool} (hx : (b = true ∧ ∃ t y, st.ev x = .ifc t y) ∨ (b = false ∧ st.ev x = .nili)) : HandOp P R ⟨dst, .binOp .neq t x (.const .nilIface) ot, ty, pos, after, guard⟩ st (.bool b) := by
  intro ds m a w hr
  have hev := hr.ev x
  have hc : a.eval (.const .nilIface) = .nilIface := rfl
  refine ⟨.bool b, ?_, by simp [Den]⟩
  rcases hx with ⟨rfl, t', y, hx⟩ | ⟨rfl, hx⟩
  · rw [hx] at hev
    simp only [Den] at hev
    obtain ⟨u, hu, _⟩ := hev
    have h1 := run_equal_held_nil (P := P) w t t' u ht
    simp [execOp, hu, hc, eqGuard, binOp, Sem.run_bind, h1]
  · rw [hx] at hev
    simp only [Den] at hev
    have h1 := run_equal_nil_nil (P := P) w t ht
    simp [execOp, hev, hc, eqGuard, binOp, Sem.run_bind, h1]
theorem HandOp.assertIs {P : Program} {R : Nat → RoRow} {dst : Option Tmp} {t want : TypeId} {x : Operand} {ty : TypeId} {pos : String} {after : Array Edge} {guard : Option (Nat × Bool)} {st : St} {y : AV}
    {fs : Array Field} (hu : P.underlying want = some (.struct fs)) (hx : st.ev x = .ifc want y) : HandOp P R ⟨dst, .typeAssert x t want true, ty, pos, after, guard⟩ st (.tup [y, .bool true]) := by
  intro ds m a w hr
  have hev := hr.ev x
  rw [hx] at hev
  simp only [Den] at hev
  obtain ⟨u, he, hd⟩ := hev
  refine ⟨.tuple #[u, .bool true], ?_, by simp only [Den, DenL]; exact ⟨_, rfl, u, [.bool true], rfl, hd, .bool true, [], rfl, rfl, rfl⟩⟩
  have h1 : (underlying want).run P w = .ok (.struct fs) w := by simp [underlying, program, Sem.run, hu, pure]
  simp [execOp, he, Instr.typeAssert, Sem.run_bind, h1]
/-! ### Entering, answering, deferring -/
theorem enter_rel {R : Nat → RoRow} {m : Map} {args : List AV} {h : Rows} {w : World} {as : Array Value} (n : Nat) (has : DenL m h.length args as.toList) (hW : WR R m h w) :
    RelX R [] m ⟨enterT args n, h⟩ { tmps := as ++ Array.replicate (n - as.size) undef, defers := [] } w := by
  have hlen := has.length
  simp only [Array.length_toList] at hlen
  refine ⟨by simp [enterT, hlen], ?_, rfl, hW⟩
  intro i x hx
  simp only [enterT] at hx
  by_cases hi : i < args.length
  · rw [List.getElem?_append_left hi] at hx
    obtain ⟨c, hc, hd⟩ := has.get hx
    have hi2 : i < as.size := by omega
    refine ⟨c, ?_, hd⟩
    rw [Array.getElem?_append_left hi2]
    simpa using hc
  · rw [List.getElem?_append_right (by omega)] at hx
    have hx2 := List.getElem?_eq_some_iff.1 hx
    obtain ⟨hlt, hxe⟩ := hx2
    simp at hlt hxe
    subst hxe
    refine ⟨undef, ?_, by simp [Den, DenL, undef]⟩
    rw [Array.getElem?_append_right (by omega)]
    rw [Array.getElem?_replicate]
    rw [if_pos (by omega)]
theorem results_run {P : Program} {T : TypeId → Option TI} (hT : TabOK P T) {R : Nat → RoRow} {ds : List Deferred} {f : FuncId} {fi : FI} (hF : FnOK P f fi) {m : Map} {st : St} {a : Act} {w : World} (hr : RelX R ds m st a w) {vs : List AV} (hvs : ResOK T R st fi.results vs) :
    ∀ fn, P.funcs[f]? = some fn → ∃ c, (results fn a.tmps).run P w = .ok c w ∧ Den m st.rows.length (tupOf vs) c := by
  intro fn hfn0
  obtain ⟨fn', hfn, hbody, hnt, hres, hname⟩ := hF.fn
  rw [hfn] at hfn0; cases hfn0
  have hr' := hr.bare
  have hres' : ∃ F : ResultVar → Sem Value, (∀ t, F (.tmp t) = pure (a.tmps.getD t undef)) ∧ (∀ x t, F (.cell x t) = do loadVar t (← asAddr (a.tmps.getD x undef))) ∧
      results fn a.tmps = (do let vs ← fn.results.mapM F; pure (if h : vs.size = 1 then vs[0] else .tuple vs)) := ⟨_, fun _ => rfl, fun _ _ => rfl, rfl⟩
  obtain ⟨F, hF1, hF2, hres'⟩ := hres'
  rw [hres', hres]
  simp only [Sem.run_bind]
  rw [List.mapM_toArray]
  simp only [Sem.run_map]
  obtain ⟨cs, hcs, hd⟩ := res_run hT hr' F hF1 hF2 hvs
  rw [hcs]
  simp only [Result.andThen_ok, Sem.run_pure]
  refine ⟨_, rfl, ?_⟩
  cases vs with
  | nil =>
    simp only [DenL] at hd
    subst hd
    simp [tupOf, Den, DenL]
  | cons v vs =>
    simp only [DenL] at hd
    obtain ⟨u, us, rfl, h1, h2⟩ := hd
    cases vs with
    | nil =>
      simp only [DenL] at h2
      subst h2
      simpa [tupOf] using h1
    | cons v2 vs =>
      simp only [DenL] at h2
      obtain ⟨u2, us, rfl, h2, h3⟩ := h2
      simp only [tupOf, Den]
      refine ⟨(u :: u2 :: us).toArray, by simp, ?_⟩
      simp only [DenL]
      exact ⟨u, _, rfl, h1, u2, us, rfl, h2, h3⟩

theorem RelX.carry {R : Nat → RoRow} {ds : List Deferred} {m m' : Map} {st : St} {a : Act} {w w' : World} {h' : Rows} (hr : RelX R ds m st a w) (hs : Step m st.rows w m' h' w') (hW : WR R m' h' w') : RelX R ds m' ⟨st.tmps, h'⟩ a w' where
  size := hr.size
  tmps := fun i x hx => by
    obtain ⟨c, hc, hd⟩ := hr.tmps i x hx
    exact ⟨c, hc, Den.mono hs.len hs.mu hs.ro _ _ hd⟩
  defers := hr.defers
  wr := hW
abbrev nocall : FuncId → List AV → Rows → (AV → Rows → Fz → Prop) → Fz → Prop := fun _ _ _ _ _ => False
theorem denL_app {m : Map} {n : Nat} : ∀ {l1 l2 : List AV} {v1 v2 : List Value}, DenL m n l1 v1 → DenL m n l2 v2 → DenL m n (l1 ++ l2) (v1 ++ v2)
  | [], l2, v1, v2, h1, h2 => by simp only [DenL] at h1; subst h1; simpa using h2
  | x :: l1, l2, v1, v2, h1, h2 => by
    simp only [DenL] at h1
    obtain ⟨u, us, rfl, hd, hl⟩ := h1
    simp only [List.cons_append, DenL]
    exact ⟨u, _, rfl, hd, denL_app hl h2⟩
section
variable {P : Program} {E : EnvX} {ds : List Deferred}
/-- A region that calls once; what is known at the call is known where it panics. -/
theorem wp_callRegion (hT : TabOK P E.T) {id : Nat} {ops : Array Oper} {pre suf : List Oper} {o : Oper} (ho : ops.toList = pre ++ o :: suf) (hog : o.guard = none) {fop : Operand} {cargs : Array Operand} {atys : Array TypeId} (hop : o.op = .call ⟨.value fop, cargs, atys⟩)
    {st st1 : St} {F : Fz} (hpre : ∀ k : St → Fz → Prop, k st1 F → runOpsB ansX E nocall ops.toList pre st k F) {g : FuncId} {first cap : List AV} (hfn : st1.ev fop = .fn g first cap) {fi : FI} (hF : FnOK P g fi)
    {Qc HPc : AV → Rows → Fz → Prop} (hc : SafeCallX P E.R g (first ++ (cargs.toList.map st1.ev ++ cap)) st1.rows F Qc HPc) {Qf : Exit → Act → World → Prop}
    {m : Map} {a : Act} {w : World} {m0 : Map} {h0 : Rows} {w0 : World} {F0 : Fz} (hr : RelX E.R ds m st a w) (hf : FzOK F m st.rows w) (hs : Step m0 h0 w0 m st.rows w) (hl : F0.To m0 h0 w0 F)
    (hret : ∀ v h' F' m' a' w', Qc v h' F' → RelX E.R ds m' ⟨putT st1.tmps o.dst v, h'⟩ a' w' → FzOK F' m' h' w' → Step m0 h0 w0 m' h' w' → F0.To m0 h0 w0 F' → wpList P ops Qf suf a' w')
    (hpan : ∀ a' v h' F' m' c w', HPc v h' F' → RelX E.R ds m' ⟨st1.tmps, h'⟩ a' w' → Den m' h'.length v c → FzOK F' m' h' w' → Step m0 h0 w0 m' h' w' → F0.To m0 h0 w0 F' → Qf (.panic [{ v := c, recovered := false }]) a' w') :
    (Code.region id ops false).wp P Qf a w := by
  refine wp_region_list ?_
  rw [ho]
  refine wpList_append pre a w ?_
  refine runOps_okX (HP := fun _ _ _ => False) ansX_holds hT (call := nocall) (fun f args h k F hh => hh.elim) ops pre st (fun st' F' => st' = st1 ∧ F' = F) F (hpre _ ⟨rfl, rfl⟩) hr hf hs hl _ ?_ ?_
  · intro a' c v m' h' w' F' _ h1; exact h1.elim
  · rintro F' m1 st' a1 w1 ⟨rfl, rfl⟩ hr1 hf1 hs1 hl1
    unfold wpList
    have hw : Region.wanted o (yielded ops a1.tmps) = true := by simp [Region.wanted, hog]
    rw [if_pos hw]
    refine .inl ?_
    unfold Oper.wp
    have hev := hr1.ev fop
    rw [hfn] at hev
    simp only [Den] at hev
    obtain ⟨us, vs, hfe, hus, hvs⟩ := hev
    obtain ⟨fn, hfn1, hbody, _, _, hname⟩ := hF.fn
    have hrun : (execOp a1.eval o).run P w1 = .ok (.enter g (us ++ cargs.map a1.eval ++ vs)) w1 := by
      obtain ⟨dst, op, type, pos, after, guard⟩ := o
      simp only at hop
      subst hop
      simp only [execOp, resolve, Sem.run_bind, Deferred.ofValue, hfe, Sem.run_pure, Result.andThen_ok, invoke, callFunc]
      simp only [program, Sem.run, pure, Result.andThen_ok, hfn1, Sem.bind]
      have hb : fn.body.isNone = false := by rw [hbody]; rfl
      simp [hname, hb, Sem.run]
    rw [hrun]
    have hargs : DenL m1 st'.rows.length (first ++ (cargs.toList.map st'.ev ++ cap)) (us ++ cargs.map a1.eval ++ vs).toList := by
      have hm : DenL m1 st'.rows.length (cargs.toList.map st'.ev) (cargs.map a1.eval).toList := by simpa using DenL.map_op hr1.ev cargs.toList
      have := denL_app hus (denL_app hm hvs)
      simpa [List.append_assoc] using this
    refine (hc m1 w1 m1 st'.rows w1 F' _ hargs hr1.wr hf1 (Step.refl _ _ _) (.refl _ _ _ _)).mono ?_
    rintro e w' ⟨m', h', F2, hW, hf', hle, hS, ⟨c, v, rfl, hk, hd⟩ | ⟨c, v, rfl, hk, hd⟩⟩
    · exact hret v h' F2 m' _ w' hk (hr1.put hS hW o.dst hd) hf' (hs1.trans hS) (hl1.trans hs1 hle)
    · exact hpan a1 v h' F2 m' c w' hk (hr1.carry hS hW) hd hf' (hs1.trans hS) (hl1.trans hs1 hle)
/-- A region that defers a call without arguments. -/
theorem wp_deferRegion (hT : TabOK P E.T) {id : Nat} {ops : Array Oper} {pre : List Oper} {o : Oper} (ho : ops.toList = pre ++ [o]) (hog : o.guard = none) {fop : Operand} {atys : Array TypeId} (hop : o.op = .defer ⟨.value fop, #[], atys⟩) (hod : o.dst = none)
    {st st1 : St} {F : Fz} (hpre : ∀ k : St → Fz → Prop, k st1 F → runOpsB ansX E nocall ops.toList pre st k F) {g : FuncId} {cap : List AV} (hfn : st1.ev fop = .fn g [] cap)
    {Qf : Exit → Act → World → Prop} {m : Map} {a : Act} {w : World} {m0 : Map} {h0 : Rows} {w0 : World} {F0 : Fz} (hr : RelX E.R [] m st a w) (hf : FzOK F m st.rows w) (hs : Step m0 h0 w0 m st.rows w) (hl : F0.To m0 h0 w0 F)
    (hret : ∀ vs m' a' w', DenL m' st1.rows.length cap vs.toList → RelX E.R [{ target := .fn (.func g) vs, args := #[] }] m' st1 a' w' → FzOK F m' st1.rows w' → Step m0 h0 w0 m' st1.rows w' → F0.To m0 h0 w0 F → Qf .normal a' w') :
    (Code.region id ops false).wp P Qf a w := by
  refine wp_region_list ?_
  rw [ho]
  refine wpList_append pre a w ?_
  refine runOps_okX (HP := fun _ _ _ => False) ansX_holds hT (call := nocall) (fun f args h k F hh => hh.elim) ops pre st (fun st' F' => st' = st1 ∧ F' = F) F (hpre _ ⟨rfl, rfl⟩) hr hf hs hl _ ?_ ?_
  · intro a' c v m' h' w' F' _ h1; exact h1.elim
  · rintro F' m1 st' a1 w1 ⟨rfl, rfl⟩ hr1 hf1 hs1 hl1
    unfold wpList
    have hw : Region.wanted o (yielded ops a1.tmps) = true := by simp [Region.wanted, hog]
    rw [if_pos hw]
    refine .inl ?_
    unfold Oper.wp
    have hev := hr1.ev fop
    rw [hfn] at hev
    simp only [Den] at hev
    obtain ⟨us, vs, hfe, hus, hvs⟩ := hev
    simp only [DenL] at hus
    have hus : us = #[] := by cases us; simpa using hus
    subst hus
    have hrun : (execOp a1.eval o).run P w1 = .ok (.defer { target := .fn (.func g) vs, args := #[] }) w1 := by
      obtain ⟨dst, op, type, pos, after, guard⟩ := o
      simp only at hop
      subst hop
      simp [execOp, resolve, Sem.run_bind, Deferred.ofValue, hfe]
    rw [hrun]
    have e : ({ a1 with defers := { target := .fn (.func g) vs, args := #[] } :: a1.defers } : Act).put o.dst undef = { tmps := a1.tmps, defers := [{ target := .fn (.func g) vs, args := #[] }] } := by
      rw [hod, hr1.defers]; rfl
    show wpList P ops Qf [] (({ a1 with defers := { target := .fn (.func g) vs, args := #[] } :: a1.defers } : Act).put o.dst undef) w1
    rw [e]
    exact wpList_nil (hret vs m1 _ w1 hvs ⟨hr1.size, hr1.tmps, rfl, hr1.wr⟩ hf1 hs1 hl1)
end
theorem wpOpsS_recover {P : Program} {ops : Array Oper} {Q : Exit → Act → List Frame → World → Prop} {i : Nat} {rest : List Nat} {a : Act} {cs : List Frame} {w : World} {o : Oper} (ho : ops[i]? = some o) (hw : Region.wanted o (yielded ops a.tmps) = true) (hr : (execOp a.eval o).run P w = .ok .recover w)
    (h : match recoverD cs with | some (v, cs') => wpOpsS P ops Q rest (a.put o.dst v) cs' w | none => wpOpsS P ops Q rest (a.put o.dst .nilIface) cs w) : wpOpsS P ops Q (i :: rest) a cs w := by
  unfold wpOpsS
  rw [ho]
  simp only [hw, if_true, hr]
  exact h
theorem wpOpsS_value {P : Program} {ops : Array Oper} {Q : Exit → Act → List Frame → World → Prop} {i : Nat} {rest : List Nat} {a : Act} {cs : List Frame} {w : World} {o : Oper} {v : Value} (ho : ops[i]? = some o) (hw : Region.wanted o (yielded ops a.tmps) = true) (hr : (execOp a.eval o).run P w = .ok (.value v) w)
    (h : wpOpsS P ops Q rest (a.put o.dst v) cs w) : wpOpsS P ops Q (i :: rest) a cs w := by
  unfold wpOpsS
  rw [ho]
  simp only [hw, if_true, hr]
  exact h
end Go.Dc
end
section
set_option linter.unusedSimpArgs false
set_option linter.unusedVariables false
namespace Go.Dc
open Go.RowKit
/-- Without the number k. -/
noncomputable def lessR (m : Map) (k z : Nat) : Map := ⟨m.mu, fun i => bif Nat.beq i k then ⟨0, 0, z, 0, true⟩ else m.ro i⟩
theorem lessR_nm {m : Map} (hm : Named m) (k z : Nat) : NmOK k 0 (lessR m k z) m := by
  refine ⟨rfl, fun i => ?_⟩
  simp only [lessR, nmI]
  cases hb : Nat.beq i k with
  | false => exact .inl rfl
  | true =>
    simp only [cond_true]
    have := hm 0
    simp only [Nat.zero_add] at this ⊢
    rw [this]
    exact .inr (by simp [tkLoc])
theorem lessR_named {m : Map} (hm : Named m) {k : Nat} (hk : k < 15) (z : Nat) : Named (lessR m k z) := by
  intro i
  simp only [lessR]
  have : Nat.beq (i + 15) k = false := by rw [Bool.eq_false_iff]; intro e; have := Nat.eq_of_beq_eq_true e; omega
  rw [this]
  exact hm i
section
variable {P : Program} {R : Nat → RoRow} {k : Nat} {ro : RoRow} {F : Fz}
theorem WR.less {m : Map} {w : World} (hm : Named m) (h0 : (R k).n = 0) (hR : Quits R k) {h : Rows} (hW : WR (updR R k ro) m h w) (hh : nmRows k 0 h = h) : WR R (lessR m k (R k).esz) h w := by
  have hN := lessR_nm hm k (R k).esz
  have hl : WRl (lessR m k (R k).esz) h w := (WRl.nm hN).2 (by rw [hh]; exact ⟨hW.row, hW.apart⟩)
  refine ⟨hl.row, hl.apart, ?_, ?_⟩
  · intro i
    cases hb : Nat.beq i k with
    | false =>
      have h1 := hW.ro i
      have e1 : updR R k ro i = R i := by simp only [updR, hb, cond_false]
      have e2 : (lessR m k (R k).esz).ro i = m.ro i := by simp only [lessR, hb, cond_false]
      rw [e1] at h1
      rw [e2]
      refine h1.same fun j hj a ha v hd => ?_
      rw [nm_den hN, hR i j hj a ha 0]
      exact hd
    | true =>
      have := Nat.eq_of_beq_eq_true hb
      subst this
      have e2 : (lessR m i (R i).esz).ro i = ⟨0, 0, (R i).esz, 0, true⟩ := by simp only [lessR, Nat.beq_refl, cond_true]
      rw [e2]
      exact ⟨rfl, by rw [h0]; exact Nat.zero_le _, by simp only [if_true]; exact h0⟩
  · intro i b r hb hv hv2 hn
    cases hbk : Nat.beq i k with
    | false =>
      have h1 := hW.roApart i b r hb hv
      have e1 : updR R k ro i = R i := by simp only [updR, hbk, cond_false]
      have e2 : (lessR m k (R k).esz).ro i = m.ro i := by simp only [lessR, hbk, cond_false]
      rw [e1] at h1
      rw [e2] at hv2 ⊢
      exact h1 hv2 hn
    | true =>
      have := Nat.eq_of_beq_eq_true hbk
      subst this
      rw [h0] at hn
      exact absurd hn (Nat.lt_irrefl _)
theorem RoOK.step {m m3 : Map} {w w' : World} {h h' : Rows} {l : Loc} {r : RoRow} (h1 : RoOK m l r w) (ha : ∀ b q, h.live b = some q → (m.mu b).vir = false → l.vir = false → 0 < r.n → l.blk ≠ (m.mu b).blk)
    {m1 m2 : Map} (hmu : m1.mu = m.mu) (hs : Step m1 h w m2 h' w') (hro : m3.ro = m.ro) : RoOK m3 l r w' := by
  obtain ⟨h2, h3, h4⟩ := h1
  refine ⟨h2, h3, ?_⟩
  split
  · rename_i hv; rw [if_pos hv] at h4; exact h4
  · rename_i hv
    rw [if_neg hv] at h4
    intro hn
    obtain ⟨c, fz, hc, hel⟩ := h4 hn
    refine ⟨c, fz, ?_, fun j hj => ?_⟩
    · rw [hs.block l.blk (Array.getElem?_eq_some_iff.1 hc).1 (fun b q hb hbv => by rw [hmu] at hbv ⊢; exact fun e => ha b q hb hbv (by simpa using hv) hn e.symm)]
      exact hc
    · obtain ⟨hl, hcell⟩ := hel j hj
      refine ⟨hl, fun o a ha => ?_⟩
      obtain ⟨h5, v, h6, h7⟩ := hcell o a ha
      exact ⟨h5, v, h6, Den.ground (m := m) hro h7⟩
theorem SafeCallX.unread {f : FuncId} {args : List AV} {h : Rows} {Q Q1 HP HP1 : AV → Rows → Fz → Prop} (hk : k < 15) (h0 : (R k).n = 0) (hR : Quits R k) (hargs : nmL k 0 args = args) (hh : nmRows k 0 h = h) (hs : SafeCallX P R f args h F Q HP)
    (hq : ∀ v h' F', F.le F' → Q v h' F' → nm k 0 v = v ∧ nmRows k 0 h' = h' ∧ Q1 v h' F') (hp : ∀ v h' F', F.le F' → HP v h' F' → nm k 0 v = v ∧ nmRows k 0 h' = h' ∧ HP1 v h' F') : SafeCallX P (updR R k ro) f args h F Q1 HP1 := by
  intro m w m0 h1 w0 F0 vs hd hW hf hst hl
  have hm : Named m := hf.ro
  have hN := lessR_nm hm k (R k).esz
  have hW1 := WR.less hm h0 hR hW hh
  have hd1 : DenL (lessR m k (R k).esz) h.length args vs.toList := (nmL_den hN _ _ _).2 (by rw [hargs]; exact hd)
  have hf1 : FzOK F (lessR m k (R k).esz) h w := ⟨hf.blk, hf.apart, lessR_named hm hk _⟩
  have hst1 : Step (lessR m k (R k).esz) h w (lessR m k (R k).esz) h w := Step.refl _ _ _
  refine (hs (lessR m k (R k).esz) w (lessR m k (R k).esz) h w F vs hd1 hW1 hf1 hst1 (.refl _ _ _ _)).mono ?_
  have back : ∀ {m' : Map} {h' : Rows} {w' : World} {F' : Fz}, WR R m' h' w' → FzOK F' m' h' w' → Step (lessR m k (R k).esz) h w m' h' w' → F.To (lessR m k (R k).esz) h w F' → nmRows k 0 h' = h' →
      WR (updR R k ro) ⟨m'.mu, m.ro⟩ h' w' ∧ FzOK F' ⟨m'.mu, m.ro⟩ h' w' ∧ Step m h w ⟨m'.mu, m.ro⟩ h' w' ∧ F.To m h w F' ∧ NmOK k 0 m' ⟨m'.mu, m.ro⟩ := by
    intro m' h' w' F' hW' hf' hs' hl' hh'
    have hN' : NmOK k 0 m' ⟨m'.mu, m.ro⟩ := ⟨rfl, fun i => by rw [hs'.ro]; exact hN.ro i⟩
    have hl2 : WRl ⟨m'.mu, m.ro⟩ h' w' := by have := (WRl.nm hN').1 ⟨hW'.row, hW'.apart⟩; rwa [hh'] at this
    have hstep : Step m h w ⟨m'.mu, m.ro⟩ h' w' := ⟨hs'.os, hs'.tape, hs'.output, hs'.size, hs'.block, hs'.len, hs'.mu, rfl, hs'.new⟩
    refine ⟨⟨hl2.row, hl2.apart, ?_, ?_⟩, ⟨hf'.blk, hf'.apart, hm⟩, hstep, ⟨hl'.le, hl'.new⟩, hN'⟩
    · intro i
      exact RoOK.step (m1 := lessR m k (R k).esz) (hW.ro i) (fun b q hb hbv hv hn => hW.roApart i b q hb hbv hv hn) rfl hs' rfl
    · intro i b r hb hv hv2 hn
      rcases hstep.new b r hb hv with h2 | ⟨c, r', hc, hcv, hce⟩
      · have h3 := hW.ro i
        obtain ⟨_, _, h4⟩ := h3
        rw [if_neg (by rw [show (m.ro i).vir = false from hv2]; simp)] at h4
        obtain ⟨cc, fz, hcc, _⟩ := h4 hn
        have := (Array.getElem?_eq_some_iff.1 hcc).1
        show (m.ro i).blk ≠ _
        intro e
        rw [e] at this
        omega
      · show (m.ro i).blk ≠ _
        rw [← hce]
        exact hW.roApart i c r' hc hcv hv2 hn
  rintro e w' ⟨m', h', F', hW', hf', hl', hs', ⟨c, v, rfl, hqq, hd'⟩ | ⟨c, v, rfl, hqq, hd'⟩⟩
  · obtain ⟨e1, e2, e3⟩ := hq _ _ _ hl'.le hqq
    obtain ⟨b1, b2, b3, b4, b5⟩ := back hW' hf' hs' hl' e2
    refine ⟨⟨m'.mu, m.ro⟩, h', F', b1, b2, hl.trans hst b4, hst.trans b3, .inl ⟨c, v, rfl, e3, ?_⟩⟩
    rw [← e1]; exact (nm_den b5 _ _ _).1 hd'
  · obtain ⟨e1, e2, e3⟩ := hp _ _ _ hl'.le hqq
    obtain ⟨b1, b2, b3, b4, b5⟩ := back hW' hf' hs' hl' e2
    refine ⟨⟨m'.mu, m.ro⟩, h', F', b1, b2, hl.trans hst b4, hst.trans b3, .inr ⟨c, v, rfl, e3, ?_⟩⟩
    rw [← e1]; exact (nm_den b5 _ _ _).1 hd'
end
/-- The same, of a row that is told otherwise there. -/
theorem SafeCallX.at1v {P : Program} {R : Nat → RoRow} {fn : FuncId} {argsL args : List AV} {r r0 : Row} {h : Rows} {b : Nat} {F : Fz} {Q HP : AV → Row → Fz → Prop}
    (hb : h.live b = some r0) (hr : RowG r) (hrv : RowV (oneV b) 1 r r0) (hA : VwL (oneV b) 1 argsL args)
    (hs : SafeCallX P R fn argsL [some r] F (fun v h' F' => ∃ r' tl, h' = some r' :: tl ∧ gnd v = true ∧ RowG r' ∧ Q v r' F') (fun v h' F' => ∃ r' tl, h' = some r' :: tl ∧ gnd v = true ∧ RowG r' ∧ HP v r' F')) :
    SafeCallX P R fn args h F (fun v h' F' => ∃ r', h' = h.set b (some r') ∧ Q v r' F') (fun v h' F' => ∃ r', h' = h.set b (some r') ∧ HP v r' F') := by
  have hlt : b < h.length := live_lt hb
  have hb' : h[b]? = some (some r0) := by
    unfold Rows.live at hb
    rw [List.getElem?_eq_getElem hlt] at hb ⊢
    simpa using hb
  have hV : View (oneV b) [some r] h := View.of (fun c o ho => by
    cases c with
    | zero => cases ho; exact ViewL.at_ (b := b) rfl hb' hrv
    | succ c => simp at ho) (fun c c' d hc hc' _ _ => by simp at hc hc'; omega)
  intro m w m0 h0 w0 F0 as hd hW hf hst hl
  have hV0 := hW.idView
  refine (SafeCallX.focus hV hA hs m w m h w F as hd hW hf (Step.refl _ _ _) (.refl _ _ _ _)).mono ?_
  have fin : ∀ {c v v' : AV} {cv : Value} {h' : Rows} {m' : Map} {F' : Fz} {w' : World} {r' : Row} {tl : Rows}, h' = some r' :: tl → gnd v' = true → RowG r' → v = ren (ext (oneV b) [some r].length h.length) v' → Den m' (merged (oneV b) [some r].length [some r].length h h').length v cv →
      WR R m' (merged (oneV b) [some r].length [some r].length h h') w' → FzOK F' m' (merged (oneV b) [some r].length [some r].length h h') w' → Step m h w m' (merged (oneV b) [some r].length [some r].length h h') w' →
      ∃ m2, WR R m2 (h.set b (some r')) w' ∧ FzOK F' m2 (h.set b (some r')) w' ∧ Step m h w m2 (h.set b (some r')) w' ∧ Den m2 (h.set b (some r')).length v' cv := by
    intro c v v' cv h' m' F' w' r' tl e1 hg hrg e2 hd' hW' hf' hS'
    subst e1
    have em : merged (oneV b) [some r].length [some r].length h (some r' :: tl) = h.set b (some r') ++ (Option.none :: tl.map (Option.map (renRow (g1 b h.length)))) := by
      have := merged_one hlt (some r') tl
      rw [Option.map_some, hrg.ren] at this
      exact this
    rw [em] at hd' hW' hf' hS'
    have hV2 := View.setSame hlt hrg (Option.none :: tl.map (Option.map (renRow (g1 b h.length)))) hV0 ⟨r0, hb⟩
    rw [gnd_ren _ _ hg] at e2
    subst e2
    exact ⟨_, hW'.view hV2, hf'.view hV2, hS'.forget hV2 (fun c hc => rfl) (by simp), (gnd_vw some _ v hg).den _ _ _ hd'⟩
  rintro e w' ⟨m', h', F', hW', hf', hl', hs', ⟨c, v, rfl, ⟨v', h2, ⟨r', tl, e1, hg, hrg, hq⟩, e2, e3⟩, hd'⟩ | ⟨c, v, rfl, ⟨v', h2, ⟨r', tl, e1, hg, hrg, hq⟩, e2, e3⟩, hd'⟩⟩
  · subst e3
    obtain ⟨m2, q1, q2, q3, q4⟩ := fin (c := v) e1 hg hrg e2 hd' hW' hf' hs'
    exact ⟨m2, _, F', q1, q2, hl.trans hst hl', hst.trans q3, .inl ⟨c, v', rfl, ⟨r', rfl, hq⟩, q4⟩⟩
  · subst e3
    obtain ⟨m2, q1, q2, q3, q4⟩ := fin (c := v) e1 hg hrg e2 hd' hW' hf' hs'
    exact ⟨m2, _, F', q1, q2, hl.trans hst hl', hst.trans q3, .inr ⟨c, v', rfl, ⟨r', rfl, hq⟩, q4⟩⟩


/-- What needs no rows holds behind any. -/
theorem SafeCallX.at0 {P : Program} {R : Nat → RoRow} {fn : FuncId} {args : List AV} {h : Rows} {F : Fz} {Q HP : AV → Fz → Prop} (hA : gndL args = true)
    (hs : SafeCallX P R fn args [] F (fun v h' F' => gnd v = true ∧ Q v F') (fun v h' F' => gnd v = true ∧ HP v F')) :
    SafeCallX P R fn args h F (fun v h' F' => h' = h ∧ Q v F') (fun v h' F' => h' = h ∧ HP v F') := by
  intro m w m0 h0 w0 F0 vs hd hW hf hst hl
  have hV0 := hW.idView
  have hV : View noView [] h := ⟨fun c b hc => absurd hc (Nat.not_lt_zero _), fun c c' b hc => absurd hc (Nat.not_lt_zero _), fun c r hc => by simp [Rows.live] at hc⟩
  refine (SafeCallX.focus (hL := []) hV (gndL_vw _ _ _ hA) hs m w m h w F vs hd hW hf (Step.refl _ _ _) (.refl _ _ _ _)).mono ?_
  have fin : ∀ {v v' : AV} {cv : Value} {h' : Rows} {m' : Map} {F' : Fz} {w' : World}, gnd v' = true → v = ren (ext noView ([] : Rows).length h.length) v' → Den m' (merged noView ([] : Rows).length ([] : Rows).length h h').length v cv →
      WR R m' (merged noView ([] : Rows).length ([] : Rows).length h h') w' → FzOK F' m' (merged noView ([] : Rows).length ([] : Rows).length h h') w' → Step m h w m' (merged noView ([] : Rows).length ([] : Rows).length h h') w' →
      ∃ m2, WR R m2 h w' ∧ FzOK F' m2 h w' ∧ Step m h w m2 h w' ∧ Den m2 h.length v' cv := by
    intro v v' cv h' m' F' w' hg e2 hd' hW' hf' hS'
    have em : merged noView ([] : Rows).length ([] : Rows).length h h' = h ++ shiftRows h.length h' := merged_nil h h'
    rw [em] at hd' hW' hf' hS'
    have hV2 : View some h (h ++ shiftRows h.length h') := hW.prefixView _
    rw [gnd_ren _ _ hg] at e2
    subst e2
    exact ⟨_, hW'.view hV2, hf'.view hV2, hS'.forget hV2 (fun c hc => rfl) (Nat.le_refl _), (gnd_vw some _ v hg).den _ _ _ hd'⟩
  rintro e w' ⟨m', h', F', hW', hf', hl', hs', ⟨c, v, rfl, ⟨v', h2, ⟨hg, hq⟩, e2, e3⟩, hd'⟩ | ⟨c, v, rfl, ⟨v', h2, ⟨hg, hq⟩, e2, e3⟩, hd'⟩⟩
  · subst e3
    obtain ⟨m2, q1, q2, q3, q4⟩ := fin hg e2 hd' hW' hf' hs'
    exact ⟨m2, _, F', q1, q2, hl.trans hst hl', hst.trans q3, .inl ⟨c, v', rfl, ⟨rfl, hq⟩, q4⟩⟩
  · subst e3
    obtain ⟨m2, q1, q2, q3, q4⟩ := fin hg e2 hd' hW' hf' hs'
    exact ⟨m2, _, F', q1, q2, hl.trans hst hl', hst.trans q3, .inr ⟨c, v', rfl, ⟨rfl, hq⟩, q4⟩⟩
/-! ### The law -/
noncomputable def mapX : Map := ⟨fun _ => ⟨0, 0, 0, 0, true⟩, fun i => if i < 15 then ⟨0, 0, 0, 0, true⟩ else tkLoc (i - 15)⟩
noncomputable def RX : Nat → RoRow := fun i => ⟨0, (mapX.ro i).esz, 0, fun _ => .any⟩
theorem mapX_named : Named mapX := by
  intro i
  simp only [mapX]
  rw [if_neg (by omega)]
  congr 1
theorem RX_ok (w : World) (i : Nat) : RoOK mapX (mapX.ro i) (RX i) w := by
  refine ⟨rfl, Nat.zero_le _, ?_⟩
  split
  · rfl
  · intro h; exact absurd h (Nat.lt_irrefl _)
theorem RX_quits (k : Nat) : Quits RX k := fun i j hj => absurd hj (Nat.not_lt_zero _)
theorem SafeCallX.law {P : Program} {f : FuncId} {args : List AV} (hs : SafeCallX P RX f args [] Fz.empty (fun v _ _ => v = .bool true) (fun _ _ _ => False)) (vs : Array Value) (w : World)
    (has : DenL mapX 0 args vs.toList) : Calls P f vs w fun e w' => e = .returned (.bool true) ∧ Below w.heap.size w w' := by
  have hW : WR RX mapX [] w := ⟨fun b r hb => by simp [Rows.live] at hb, fun b b' r r' hb => by simp [Rows.live] at hb, RX_ok w, fun i b r hb => by simp [Rows.live] at hb⟩
  have hf : FzOK Fz.empty mapX [] w := { blk := fun b ty c h => (by simp [Fz.empty] at h), apart := fun b r hb => (by simp [Rows.live] at hb), ro := mapX_named }
  refine (hs mapX w mapX [] w Fz.empty vs has hW hf (Step.refl _ _ _) (.refl _ _ _ _)).mono ?_
  rintro e w' ⟨m', h', F', hW', hf', hl', hS, ⟨c, v, rfl, rfl, hd⟩ | ⟨c, v, rfl, h, _⟩⟩
  · simp only [Den] at hd
    subst hd
    exact ⟨rfl, hS.os, hS.tape, hS.output, hS.size, fun k hk => hS.block k hk (fun b r hb => by simp [Rows.live] at hb)⟩
  · exact h.elim
end Go.Dc
end
section
set_option linter.unusedSimpArgs false
set_option linter.unusedVariables false
namespace Go.Dc
/-- Rows laid at some places. -/
def layAt : Rows → List Nat → Rows → Rows
  | h, b :: bs, o :: os => layAt (h.set b o) bs os
  | h, _, _ => h
theorem layAt_length : ∀ (bs : List Nat) (os : Rows) (h : Rows), (layAt h bs os).length = h.length
  | [], os, h => by cases os <;> rfl
  | b :: bs, [], h => rfl
  | b :: bs, o :: os, h => by rw [layAt, layAt_length bs os, List.length_set]
theorem layAt_out : ∀ (bs : List Nat) (os : Rows) (h : Rows) (i : Nat), i ∉ bs → (layAt h bs os)[i]? = h[i]?
  | [], os, h, i, _ => by cases os <;> rfl
  | b :: bs, [], h, i, _ => rfl
  | b :: bs, o :: os, h, i, hi => by
    rw [layAt, layAt_out bs os _ i (fun h => hi (List.mem_cons_of_mem _ h)), List.getElem?_set_ne (fun e => hi (by rw [e]; exact List.mem_cons_self))]
theorem layAt_in : ∀ (bs : List Nat) (os : Rows) (h : Rows) (c i : Nat), bs.Nodup → os.length = bs.length → i < h.length → bs[c]? = some i → (layAt h bs os)[i]? = os[c]?
  | [], os, h, c, i, _, _, _, hc => by simp at hc
  | b :: bs, [], h, c, i, _, ho, _, _ => by simp at ho
  | b :: bs, o :: os, h, 0, i, hd, ho, hi, hc => by
    simp only [List.getElem?_cons_zero, Option.some.injEq] at hc
    subst hc
    rw [layAt, layAt_out bs os _ b (List.nodup_cons.1 hd).1, List.getElem?_set_self hi]; rfl
  | b :: bs, o :: os, h, c + 1, i, hd, ho, hi, hc => by
    rw [layAt, layAt_in bs os _ c i (List.nodup_cons.1 hd).2 (by simpa using ho) (by rw [List.length_set]; exact hi) (by simpa using hc)]; rfl
theorem nodup_inj : ∀ {l : List Nat} (_ : l.Nodup) (i j b : Nat), l[i]? = some b → l[j]? = some b → i = j
  | [], _, i, j, b, h, _ => by simp at h
  | a :: l, hd, 0, 0, b, _, _ => rfl
  | a :: l, hd, 0, j + 1, b, h1, h2 => by
    simp only [List.getElem?_cons_zero, Option.some.injEq] at h1
    subst h1
    exact absurd (List.mem_of_getElem? (by simpa using h2)) (List.nodup_cons.1 hd).1
  | a :: l, hd, i + 1, 0, b, h1, h2 => by
    simp only [List.getElem?_cons_zero, Option.some.injEq] at h2
    subst h2
    exact absurd (List.mem_of_getElem? (by simpa using h1)) (List.nodup_cons.1 hd).1
  | a :: l, hd, i + 1, j + 1, b, h1, h2 => by rw [nodup_inj (List.nodup_cons.1 hd).2 i j b (by simpa using h1) (by simpa using h2)]
def posV (bs : List Nat) : Nat → Option Nat := fun c => bs[c]?
def gP (bs : List Nat) (N : Nat) : Nat → Nat := fun c => match bs[c]? with | some b => b | none => N + c
theorem ext_pos (bs : List Nat) (N : Nat) : ext (posV bs) bs.length N = gP bs N := by
  funext c
  unfold ext gP posV
  cases h : Nat.blt c bs.length with
  | true => rfl
  | false =>
    have : bs.length ≤ c := by
      rcases Nat.lt_or_ge c bs.length with h1 | h1
      · rw [blt_t h1] at h; cases h
      · exact h1
    rw [List.getElem?_eq_none this]; rfl
theorem seen_pos {bs : List Nat} {i : Nat} (hi : i ∉ bs) : ∀ n, seen (posV bs) i n = false
  | 0 => rfl
  | n + 1 => by
    unfold seen posV
    cases h : bs[n]? with
    | none => exact seen_pos hi n
    | some b =>
      have hb : b ∈ bs := List.mem_of_getElem? h
      have : Nat.beq b i = false := by rw [Bool.eq_false_iff]; exact fun e => hi (by rw [← Nat.eq_of_beq_eq_true e]; exact hb)
      show (bif Nat.beq b i then true else seen (posV bs) i n) = false
      rw [this]
      exact seen_pos hi n
theorem gP_in {bs : List Nat} {N c b : Nat} (h : bs[c]? = some b) : gP bs N c = b := by unfold gP; rw [h]
theorem gP_out {bs : List Nat} {N c : Nat} (h : bs.length ≤ c) : gP bs N c = N + c := by unfold gP; rw [List.getElem?_eq_none h]
theorem merged_pos {bs : List Nat} {h : Rows} (hd : bs.Nodup) (hb : ∀ b ∈ bs, b < h.length) (os tl : Rows) (ho : os.length = bs.length) :
    merged (posV bs) bs.length bs.length h (os ++ tl) = layAt h bs (os.map (Option.map (renRow (gP bs h.length)))) ++ (List.replicate bs.length none ++ tl.map (Option.map (renRow (gP bs h.length)))) := by
  unfold merged
  rw [ext_pos]
  refine List.ext_getElem? fun i => ?_
  rw [List.getElem?_map]
  have hinj : ∀ c c', gP bs h.length c' = gP bs h.length c → c' = c := by
    intro c c' e
    rcases Nat.lt_or_ge c bs.length with h1 | h1 <;> rcases Nat.lt_or_ge c' bs.length with h2 | h2
    · rw [gP_in (List.getElem?_eq_getElem h1), gP_in (List.getElem?_eq_getElem h2)] at e
      exact nodup_inj hd c' c _ (List.getElem?_eq_getElem h2) (by rw [e]; exact List.getElem?_eq_getElem h1)
    · rw [gP_in (List.getElem?_eq_getElem h1), gP_out h2] at e
      have := hb _ (List.getElem_mem h1); omega
    · rw [gP_out h1, gP_in (List.getElem?_eq_getElem h2)] at e
      have := hb _ (List.getElem_mem h2); omega
    · rw [gP_out h1, gP_out h2] at e; omega
  have hfind : ∀ c, c < (os ++ tl).length → findC (gP bs h.length) (gP bs h.length c) (os ++ tl).length = some c := fun c hc => findC_inj hc (fun c' _ e => hinj c c' e)
  rcases Nat.lt_or_ge i (h.length + (os ++ tl).length) with hlt | hge
  · rw [List.getElem?_range hlt]
    simp only [Option.map_some]
    rcases Nat.lt_or_ge i h.length with h1 | h1
    · rw [List.getElem?_append_left (by rw [layAt_length]; exact h1)]
      by_cases hi : i ∈ bs
      · obtain ⟨c, hc, e⟩ := List.getElem_of_mem hi
        have hc' : bs[c]? = some i := by rw [List.getElem?_eq_getElem hc, e]
        have hf := hfind c (by rw [List.length_append]; omega)
        rw [gP_in hc'] at hf
        rw [hf, layAt_in bs _ h c i hd (by rw [List.length_map]; exact ho) h1 hc', List.getElem?_map]
        simp only [Rows.live]
        rw [List.getElem?_append_left (by omega), List.getElem?_eq_getElem (by omega)]
        rfl
      · have hf : findC (gP bs h.length) i (os ++ tl).length = none := by
          cases hf : findC (gP bs h.length) i (os ++ tl).length with
          | none => rfl
          | some c =>
            have := (findC_some hf).2
            rcases Nat.lt_or_ge c bs.length with h2 | h2
            · rw [gP_in (List.getElem?_eq_getElem h2)] at this
              exact absurd (by rw [← this]; exact List.getElem_mem h2) hi
            · rw [gP_out h2] at this; omega
        rw [hf, layAt_out bs _ h i hi]
        simp only [seen_pos hi, cond_false, Rows.live, List.getElem?_eq_getElem h1, Option.join_some]
    · rw [List.getElem?_append_right (by rw [layAt_length]; exact h1), layAt_length]
      obtain ⟨d, rfl⟩ : ∃ d, i = h.length + d := ⟨i - h.length, by omega⟩
      rw [show h.length + d - h.length = d by omega]
      have hni : h.length + d ∉ bs := fun hm => by have := hb _ hm; omega
      rcases Nat.lt_or_ge d bs.length with h2 | h2
      · have hf : findC (gP bs h.length) (h.length + d) (os ++ tl).length = none := by
          cases hf : findC (gP bs h.length) (h.length + d) (os ++ tl).length with
          | none => rfl
          | some c =>
            have := (findC_some hf).2
            rcases Nat.lt_or_ge c bs.length with h3 | h3
            · rw [gP_in (List.getElem?_eq_getElem h3)] at this
              exact absurd (by rw [← this]; exact List.getElem_mem h3) hni
            · rw [gP_out h3] at this; omega
        rw [hf, List.getElem?_append_left (by rw [List.length_replicate]; exact h2), List.getElem?_replicate, if_pos h2]
        simp only [seen_pos hni, cond_false, Rows.live]
        rw [List.getElem?_eq_none (by omega)]; rfl
      · have hf := hfind d (by omega)
        rw [gP_out h2] at hf
        rw [hf, List.getElem?_append_right (by rw [List.length_replicate]; exact h2), List.length_replicate, List.getElem?_map]
        simp only [Rows.live]
        have hd' : d < os.length + tl.length := by rw [List.length_append] at hlt; omega
        rw [List.getElem?_append_right (by omega), ho, List.getElem?_eq_getElem (by omega)]
        rfl
  · rw [List.getElem?_eq_none (by simp; rw [List.length_append] at hge; omega), List.getElem?_eq_none]
    · rfl
    · simp only [List.length_append, layAt_length, List.length_replicate, List.length_map]
      rw [List.length_append] at hge; omega
/-- What a call does to some rows, wherever they lie: the first ones are theirs, the others come behind. -/
theorem SafeCallX.atN {P : Program} {R : Nat → RoRow} {fn : FuncId} {argsL args : List AV} {hL h : Rows} {F : Fz} {Q HP : AV → Rows → Rows → Fz → Prop} (bs : List Nat) (hn : hL.length = bs.length) (hd : bs.Nodup) (hb : ∀ b ∈ bs, b < h.length)
    (hr : ∀ c r, hL.live c = some r → ∃ b r', bs[c]? = some b ∧ h.live b = some r' ∧ RowV (posV bs) bs.length r r') (hA : VwL (posV bs) bs.length argsL args)
    (hs : SafeCallX P R fn argsL hL F (fun v h' F' => ∃ os tl, h' = os ++ tl ∧ os.length = bs.length ∧ Q v os tl F') (fun v h' F' => ∃ os tl, h' = os ++ tl ∧ os.length = bs.length ∧ HP v os tl F')) :
    SafeCallX P R fn args h F (fun v h' F' => ∃ v0 os tl, v = ren (gP bs h.length) v0 ∧ h' = layAt h bs (os.map (Option.map (renRow (gP bs h.length)))) ++ (List.replicate bs.length none ++ tl.map (Option.map (renRow (gP bs h.length)))) ∧ Q v0 os tl F')
      (fun v h' F' => ∃ v0 os tl, v = ren (gP bs h.length) v0 ∧ h' = layAt h bs (os.map (Option.map (renRow (gP bs h.length)))) ++ (List.replicate bs.length none ++ tl.map (Option.map (renRow (gP bs h.length)))) ∧ HP v0 os tl F') := by
  have hV : View (posV bs) hL h := ⟨fun c b _ he => hb b (List.mem_of_getElem? he), fun c c' b h1 h2 e1 e2 => by
      exact nodup_inj hd c c' b e1 e2, fun c r hc => by
      obtain ⟨b, r', e1, e2, e3⟩ := hr c r hc
      exact .inl ⟨b, r', e1, e2, by rw [hn]; exact e3⟩⟩
  refine (SafeCallX.focus hV (by rw [hn]; exact hA) hs).mono ?_ ?_
  · rintro v h' F' _ ⟨v0, h0, ⟨os, tl, rfl, ho, hq⟩, rfl, rfl⟩
    rw [hn, ext_pos, merged_pos hd hb os tl ho]
    exact ⟨v0, os, tl, rfl, rfl, hq⟩
  · rintro v h' F' _ ⟨v0, h0, ⟨os, tl, rfl, ho, hq⟩, rfl, rfl⟩
    rw [hn, ext_pos, merged_pos hd hb os tl ho]
    exact ⟨v0, os, tl, rfl, rfl, hq⟩
/-- What a call answers, where a row may be told under a new number. -/
theorem ToV.fitW {R : Nat → RoRow} {nk : Nat} {v vE : AV} {h hE : Rows} {F : Fz} {S : AV → Rows → Fz → Prop} (f : Nat → Option Nat) (hV : ViewW f hE h) (hv : Vw f hE.length vE v) (hf : ∀ c, c < nk → f c = some c) (hl : nk ≤ hE.length)
    (hh : ToV R nk vE hE F S) : ToV R nk v h F S := by
  intro m c w m0 h0 w0 F0 hn hd hW hF hs hl0
  refine hh (m.view f hE.es) c w m0 h0 w0 F0 hn (hv.den _ _ _ hd) (hW.viewW hV) ⟨hF.blk, ?_, hF.ro⟩ ⟨hs.os, hs.tape, hs.output, hs.size, hs.block, Nat.le_trans hn hl, ?_, hs.ro, ?_⟩ hl0
  · intro c r hc hv
    obtain ⟨b, r', h1, h2, h3, h4⟩ := hV.real hc hv
    rw [h4] at hv ⊢
    exact hF.apart b r' h2 hv
  · intro b hb
    rw [view_some (hf b (Nat.lt_of_lt_of_le hb hn)), hs.mu b hb]
  · intro b r hb hv
    obtain ⟨d, r1, h1, h2, _, e1⟩ := hV.real hb hv
    rw [e1] at hv ⊢
    exact hs.new _ _ h2 hv
end Go.Dc
end
section
set_option linter.unusedSimpArgs false
set_option linter.unusedVariables false
namespace Go.Dc
theorem wpList_mono {P : Program} {ops : Array Oper} {Q Q' : Exit → Act → World → Prop} (hq : ∀ e a w, Q e a w → Q' e a w) : ∀ (l : List Oper) (a : Act) (w : World), wpList P ops Q l a w → wpList P ops Q' l a w
  | [], a, w, h => hq _ _ _ h
  | o :: l, a, w, h => by
    unfold wpList at h ⊢
    split
    · rename_i hw
      rw [if_pos hw] at h
      rcases h with h | ⟨h1, a', w', h2⟩
      · exact .inl (upon_mono (fun a w h => wpList_mono hq l a w h) (fun e a w _ h => hq e a w h) _ h)
      · exact .inr ⟨h1, a', w', hq _ _ _ h2⟩
    · rename_i hw
      rw [if_neg hw] at h
      exact wpList_mono hq l _ _ h
/-- Some operations of a region, from an abstract state on. -/
def SafeO (P : Program) (R : Nat → RoRow) (ds : List Deferred) (ops : Array Oper) (l : List Oper) (st : St) (F : Fz) (Q : Exit → St → Fz → Prop) (HP : AV → Rows → Fz → Prop) : Prop :=
  ∀ m a w m0 h0 w0 F0, RelX R ds m st a w → FzOK F m st.rows w → Step m0 h0 w0 m st.rows w → F0.To m0 h0 w0 F → wpList P ops (PostX R ds Q HP m0 h0 w0 F0) l a w
theorem SafeX.ofO {P : Program} {R : Nat → RoRow} {ds : List Deferred} {id : Nat} {ops : Array Oper} {st : St} {F : Fz} {Q : Exit → St → Fz → Prop} {HP : AV → Rows → Fz → Prop} (h : SafeO P R ds ops ops.toList st F Q HP) : SafeX P R ds (.region id ops false) st F Q HP :=
  fun m a w m0 h0 w0 F0 hr hf hs hl => wp_region_list (h m a w m0 h0 w0 F0 hr hf hs hl)
/-- The calls that have a contract. -/
def callE (E : EnvX) : FuncId → List AV → Rows → (AV → Rows → Fz → Prop) → Fz → Prop := fun g args rows k => match E.calls g with | some spec => spec args rows k | none => fun _ => False
theorem callE_ok {P : Program} {E : EnvX} {ds : List Deferred} {HP : AV → Rows → Fz → Prop} (hE : OKX P E ds HP) : CallOKX P E.R atF HP (callE E) := by
  intro f args h k F hk
  unfold callE at hk
  cases hc : E.calls f with
  | none => rw [hc] at hk; exact hk.elim
  | some spec => rw [hc] at hk; exact hE.calls f spec hc args h k F hk
theorem SafeO.pre {P : Program} {E : EnvX} {ds : List Deferred} {ops : Array Oper} {pre suf : List Oper} {st : St} {F : Fz} {K : St → Fz → Prop} {Q : Exit → St → Fz → Prop} {HP : AV → Rows → Fz → Prop} (hE : OKX P E ds HP)
    (hk : runOpsB ansX E (callE E) ops.toList pre st K F) (hs : ∀ st1 F1, K st1 F1 → SafeO P E.R ds ops suf st1 F1 Q HP) : SafeO P E.R ds ops (pre ++ suf) st F Q HP := by
  intro m a w m0 h0 w0 F0 hr hf hst hl
  refine wpList_append pre a w ?_
  refine runOps_okX (HP := HP) ansX_holds hE.T (callE_ok hE) ops pre st _ F hk hr hf hst hl _ ?_ ?_
  · intro a' c v m' h' w' F' hd h1 h2 h3 h4 h5 h6
    exact ⟨m', h', v, c, F', rfl, h1, h2, h3, h4, h5, h6, hd⟩
  · intro F' m' st' a' w' hk' hr' hf' hs' hl'
    exact hs st' F' hk' m' a' w' m0 h0 w0 F0 hr' hf' hs' hl'
theorem SafeO.run {P : Program} {E : EnvX} {ds : List Deferred} {ops : Array Oper} {l : List Oper} {st : St} {F : Fz} {k : St → Fz → Prop} {HP : AV → Rows → Fz → Prop} (hE : OKX P E ds HP)
    (hk : runOpsB ansX E (callE E) ops.toList l st k F) : SafeO P E.R ds ops l st F (fun e st' F' => e = .normal ∧ k st' F') HP := by
  intro m a w m0 h0 w0 F0 hr hf hst hl
  refine runOps_okX (HP := HP) ansX_holds hE.T (callE_ok hE) ops l st k F hk hr hf hst hl _ (postX_to _ _ _ _ _ _ _ _) ?_
  intro F' m' st' a' w' hk' hr' hf' hs' hl'
  exact ⟨m', st', F', trivial, ⟨rfl, hk'⟩, hr', hf', hs', hl'⟩
theorem SafeO.to {P : Program} {R : Nat → RoRow} {ds : List Deferred} {ops : Array Oper} {l : List Oper} {st : St} {F : Fz} {Q : Exit → St → Fz → Prop} {HP : AV → Rows → Fz → Prop} (h : ToX R ds st.rows.length st F fun st' F' => SafeO P R ds ops l st' F' Q HP) : SafeO P R ds ops l st F Q HP := by
  intro m a w m0 h0 w0 F0 hr hf hs hl
  obtain ⟨m', st', F', h1, hr', hF', hs', hl'⟩ := h m a w m0 h0 w0 F0 hs.len hr hf hs hl
  exact h1 m' a w m0 h0 w0 F0 hr' hF' hs' hl'
theorem SafeO.post {P : Program} {R : Nat → RoRow} {ds : List Deferred} {ops : Array Oper} {l : List Oper} {st : St} {F : Fz} {Q Q' : Exit → St → Fz → Prop} {HP : AV → Rows → Fz → Prop} (h : SafeO P R ds ops l st F Q HP) (hq : ∀ e st' F', F.le F' → Q e st' F' → ToX R ds st.rows.length st' F' (Q' e)) : SafeO P R ds ops l st F Q' HP := by
  intro m a w m0 h0 w0 F0 hr hf hs hl
  refine wpList_mono ?_ l _ _ (h m a w m st.rows w F hr hf (Step.refl _ _ _) (.refl _ _ _ _))
  intro e a' w' hp
  cases e with
  | panic ch => obtain ⟨m', h', v, c, F', h1, h2, h3, h4, h5, h6, h7, h8⟩ := hp; exact ⟨m', h', v, c, F', h1, h2, h3, h4, h5, hs.trans h6, hl.trans hs h7, h8⟩
  | goto l => obtain ⟨_, _, _, h, _⟩ := hp; exact h.elim
  | outgrown => obtain ⟨_, _, _, h, _⟩ := hp; exact h.elim
  | _ =>
    obtain ⟨m', st', F', h1, h2, h3, h4, h5, h6⟩ := hp
    obtain ⟨m2, st2, F2, q1, q2, q3, q4, q5⟩ := hq _ _ _ h6.le h2 m' a' w' m st.rows w F (Nat.le_refl _) h3 h4 h5 h6
    exact ⟨m2, st2, F2, h1, q1, q2, q3, hs.trans q4, hl.trans hs q5⟩
theorem SafeO.mono {P : Program} {R : Nat → RoRow} {ds : List Deferred} {ops : Array Oper} {l : List Oper} {st : St} {F : Fz} {Q Q' : Exit → St → Fz → Prop} {HP HP' : AV → Rows → Fz → Prop} (h : SafeO P R ds ops l st F Q HP) (hq : ∀ e st' F', Q e st' F' → Q' e st' F') (hp : ∀ v h F', HP v h F' → HP' v h F') : SafeO P R ds ops l st F Q' HP' :=
  fun m a w m0 h0 w0 F0 hr hf hs hl => wpList_mono (fun e a' w' h => h.mono (fun e st F _ => hq e st F) (fun v h F _ => hp v h F)) l _ _ (h m a w m0 h0 w0 F0 hr hf hs hl)
theorem SafeX.blockN {P : Program} {R : Nat → RoRow} {ds : List Deferred} {c : Code} {id : Nat} {st : St} {F : Fz} {Q : Exit → St → Fz → Prop} {HP : AV → Rows → Fz → Prop} (hs : SafeX P R ds c st F (fun e st' F' => e = .normal ∧ Q .normal st' F') HP) : SafeX P R ds (.block id c) st F Q HP := by
  intro m a w m0 h0 w0 F0 hr hf hst hl
  refine wp_block (wp_mono (hs m a w m0 h0 w0 F0 hr hf hst hl) ?_)
  intro e a' w' hp
  cases e with
  | panic ch => exact hp
  | goto l => obtain ⟨_, _, _, h, _⟩ := hp; exact h.elim
  | outgrown => obtain ⟨_, _, _, h, _⟩ := hp; exact h.elim
  | normal => obtain ⟨m', st', F', h0, ⟨_, h1⟩, h2⟩ := hp; exact ⟨m', st', F', h0, h1, h2⟩
  | ret => obtain ⟨m', st', F', h0, ⟨h1, _⟩, h2⟩ := hp; cases h1
  | exit i => obtain ⟨m', st', F', h0, ⟨h1, _⟩, h2⟩ := hp; cases h1
section
variable {P : Program} {R : Nat → RoRow} {ds : List Deferred} {k x : Nat} {ro : RoRow} {F : Fz} {m : Map} {w : World}
theorem SafeO.swap {ops : Array Oper} {l : List Oper} {st : St} {Q Q1 : Exit → St → Fz → Prop} {HP HP1 : AV → Rows → Fz → Prop} (hk : k < 15) (hfr : Frz F x ro) (h0 : (R k).n = 0) (hR : Quits R k) (h : SafeO P (updR R k ro) ds ops l st F Q HP)
    (hq : ∀ e st' F', F.le F' → Q e st' F' → nmSt k x st' = st' ∧ Q1 e st' F') (hp : ∀ v h' F', F.le F' → HP v h' F' → nm k x v = v ∧ nmRows k x h' = h' ∧ HP1 v h' F') : SafeO P R ds ops l (nmSt k x st) F Q1 HP1 := by
  intro m a w m0 h1 w0 F0 hr hf hs hl
  have hm : Named m := hf.ro
  obtain ⟨hW2, hf2⟩ := WR.inward hk hfr h0 hR hr.wr hf
  have hN := inner_nm hm k x ro.esz
  have hr2 : RelX (updR R k ro) ds (inner m k x ro.esz) st a w := by
    refine ⟨by simpa [nmSt] using hr.size, ?_, hr.defers, hW2⟩
    intro i y hy
    obtain ⟨c, hc, hd⟩ := hr.tmps i (nm k x y) (by simp only [nmSt, List.getElem?_map, hy]; rfl)
    refine ⟨c, hc, ?_⟩
    simp only [nmSt, nmRows_length] at hd
    exact (nm_den hN _ _ _).2 hd
  have hesz : ∀ i, (R i).esz = (m.ro i).esz := fun i => (hr.wr.ro i).1.symm
  have key : ∀ {m' : Map} {w' : World} {h' : Rows}, Step (inner m k x ro.esz) st.rows w m' h' w' → NmOK k x m' ⟨m'.mu, m.ro⟩ ∧ ∀ i, Nat.beq i k = false → m'.ro i = m.ro i := by
    intro m' w' h' hS
    refine ⟨⟨rfl, fun i => ?_⟩, fun i hi => ?_⟩
    · rw [hS.ro]; exact hN.ro i
    · rw [hS.ro]; simp only [inner, hi, cond_false]
  refine wpList_mono ?_ l _ _ (h (inner m k x ro.esz) a w (inner m k x ro.esz) st.rows w F hr2 hf2 (Step.refl _ _ _) (.refl _ _ _ _))
  intro e a' w' hpost
  cases e with
  | panic ch =>
    obtain ⟨m', h', v, cv, F', h1, h2, h3, h4, h5, h6, h7, h8⟩ := hpost
    obtain ⟨e1, e2, e3⟩ := hp _ _ _ h7.le h2
    obtain ⟨hN', hro'⟩ := key h6
    obtain ⟨hW3, hf3⟩ := WR.outward hm h0 hR hN' hro' hesz h4 h5 e2 (h := st.rows)
    refine ⟨⟨m'.mu, m.ro⟩, h', v, cv, F', h1, e3, ?_, hW3, hf3, hs.trans (Step.inward (m := m) (m2 := inner m k x ro.esz) rfl h6), hl.trans hs (Fz.To.inward (m := m) (m2 := inner m k x ro.esz) rfl h7), h8⟩
    rw [← e1]; exact (nm_den hN' _ _ _).1 h3
  | goto l => obtain ⟨_, _, _, h, _⟩ := hpost; exact h.elim
  | outgrown => obtain ⟨_, _, _, h, _⟩ := hpost; exact h.elim
  | _ =>
    obtain ⟨m', st', F', hok, hqq, hr', hf', hs', hl'⟩ := hpost
    obtain ⟨e1, e2⟩ := hq _ _ _ hl'.le hqq
    obtain ⟨hN', hro'⟩ := key hs'
    have eT : st'.tmps.map (nm k x) = st'.tmps := congrArg St.tmps e1
    have eR : nmRows k x st'.rows = st'.rows := congrArg St.rows e1
    obtain ⟨hW3, hf3⟩ := WR.outward hm h0 hR hN' hro' hesz hr'.wr hf' eR (h := st.rows)
    refine ⟨⟨m'.mu, m.ro⟩, st', F', hok, e2, ⟨hr'.size, ?_, hr'.defers, hW3⟩, hf3, hs.trans (Step.inward (m := m) (m2 := inner m k x ro.esz) rfl hs'), hl.trans hs (Fz.To.inward (m := m) (m2 := inner m k x ro.esz) rfl hl')⟩
    intro i y hy
    obtain ⟨y0, hy0, hye⟩ : ∃ y0, st'.tmps[i]? = some y0 ∧ nm k x y0 = y := by
      rw [← eT, List.getElem?_map] at hy
      obtain ⟨y0, h1, h2⟩ := Option.map_eq_some_iff.1 hy
      exact ⟨y0, h1, h2⟩
    obtain ⟨c, hc, hd⟩ := hr'.tmps i y0 hy0
    exact ⟨c, hc, by rw [← hye]; exact (nm_den hN' _ _ _).1 hd⟩
end
end Go.Dc
end
section
set_option linter.unusedSimpArgs false
set_option linter.unusedVariables false
namespace Go.Dc
structure RowS (f : Nat → Option Nat) (n : Nat) (r r' : Row) : Prop where
  ty : r.ty = r'.ty
  esz : r.esz = r'.esz
  len : r.len ≤ r'.len
  get : ∀ i e, r.get? i = some e → (∀ a ∈ e.cells, a.one = true) ∧ ∃ e', r'.get? i = some e' ∧ Vw f n e e'
theorem RowV.s {f : Nat → Option Nat} {n : Nat} {r r' : Row} (h : RowV f n r r') : RowS f n r r' := ⟨h.ty, h.esz, Nat.le_of_eq h.len, h.get⟩
theorem RowS.gen {f : Nat → Option Nat} {n : Nat} {t z : Nat} {k k' : Nat} {g g' : Nat → AV} (hk : k ≤ k') (h : ∀ i, i < k → ones (g i) = true ∧ Vw f n (g i) (g' i)) : RowS f n (.gen t z k g) (.gen t z k' g') where
  ty := rfl
  esz := rfl
  len := hk
  get := fun i e he => by
    have hi : i < k := by
      rcases Nat.lt_or_ge i k with hi | hi
      · exact hi
      · have : i.blt k = false := by rw [Bool.eq_false_iff]; simp [Nat.blt_eq]; omega
        simp only [Row.get?, this, cond_false] at he; cases he
    rw [Row.get_gen hi] at he
    simp only [Option.some.injEq] at he
    subst he
    exact ⟨ones_mem (h i hi).1, g' i, Row.get_gen (by omega), (h i hi).2⟩
/-- A row told element by element by a function. -/
theorem RowS.lstgen {f : Nat → Option Nat} {n : Nat} {t z : Nat} {k : Nat} {g : Nat → AV} {l : List AV} (hk : k ≤ l.length) (h : ∀ i, i < k → ones (g i) = true ∧ ∃ e', l[i]? = some e' ∧ Vw f n (g i) e') : RowS f n (.gen t z k g) (.lst t z l) where
  ty := rfl
  esz := rfl
  len := hk
  get := fun i e he => by
    have hi : i < k := by
      rcases Nat.lt_or_ge i k with hi | hi
      · exact hi
      · have : i.blt k = false := by rw [Bool.eq_false_iff]; simp [Nat.blt_eq]; omega
        simp only [Row.get?, this, cond_false] at he; cases he
    rw [Row.get_gen hi] at he
    simp only [Option.some.injEq] at he
    subst he
    obtain ⟨h1, e', h2, h3⟩ := h i hi
    exact ⟨ones_mem h1, e', h2, h3⟩
theorem RowOK.viewS {m : Map} {f : Nat → Option Nat} {es : Nat → Nat} {n N : Nat} {l : Loc} {r r' : Row} {w : World} (h : RowOK m N l r' w) (hv : RowS f n r r') : RowOK (m.view f es) n l r w := by
  obtain ⟨h1, h2, h3⟩ := h
  refine ⟨h1.trans hv.esz.symm, Nat.le_trans hv.len h2, ?_⟩
  split
  · rename_i hvir
    rw [if_pos hvir] at h3
    exact ⟨Nat.le_zero.1 (by have := hv.len; rw [h3.1] at this; exact this), h3.2⟩
  · rename_i hvir
    rw [if_neg hvir] at h3
    obtain ⟨c, fz, hc, hsz, hfz, hel⟩ := h3
    refine ⟨c, fz, by rw [hv.ty]; exact hc, hsz, hfz, ?_⟩
    intro i e he
    obtain ⟨hone, e', he', hvw⟩ := hv.get i e he
    obtain ⟨hlen, hcell⟩ := hel i e' he'
    have hcs := hvw.cells (one_ne_any hone)
    refine ⟨hcs.length.trans hlen, ?_⟩
    intro o a ha
    obtain ⟨b, hb, hab⟩ := hcs.get ha
    obtain ⟨_, v, hv1, hv2⟩ := hcell o b hb
    exact ⟨hone a (List.mem_of_getElem? ha), v, hv1, hab.den _ _ _ hv2⟩
structure ViewS (f : Nat → Option Nat) (hL h : Rows) : Prop where
  inj : ∀ c c' b r r', hL.live c = some r → hL.live c' = some r' → f c = some b → f c' = some b → c = c'
  row : ∀ c r, hL.live c = some r → (∃ b r', f c = some b ∧ h.live b = some r' ∧ RowS f hL.length r r') ∨ (f c = none ∧ r.len = 0)
theorem ViewS.real {m : Map} {f : Nat → Option Nat} {hL h : Rows} (hV : ViewS f hL h) {c : Nat} {r : Row} (hc : hL.live c = some r) (hv : ((m.view f hL.es).mu c).vir = false) :
    ∃ b r', f c = some b ∧ h.live b = some r' ∧ RowS f hL.length r r' ∧ (m.view f hL.es).mu c = m.mu b := by
  rcases hV.row c r hc with ⟨b, r', h1, h2, h3⟩ | ⟨h1, h2⟩
  · exact ⟨b, r', h1, h2, h3, view_some h1⟩
  · rw [view_none h1] at hv; simp at hv
theorem WR.viewS {R : Nat → RoRow} {m : Map} {f : Nat → Option Nat} {hL h : Rows} {w : World} (hW : WR R m h w) (hV : ViewS f hL h) : WR R (m.view f hL.es) hL w where
  row := fun c r hc => by
    rcases hV.row c r hc with ⟨b, r', h1, h2, h3⟩ | ⟨h1, h2⟩
    · rw [view_some h1]; exact (hW.row _ _ h2).viewS h3
    · rw [view_none h1]
      refine ⟨?_, by rw [h2]; exact Nat.zero_le _, ?_⟩
      · show hL.es c = r.esz
        unfold Rows.es
        rw [hc]
      · rw [if_pos rfl]; exact ⟨h2, rfl⟩
  apart := fun b b' r r' hb hb' hv hv' he => by
    obtain ⟨d, r1, h1, h2, _, e1⟩ := hV.real hb hv
    obtain ⟨d', r2, h1', h2', _, e2⟩ := hV.real hb' hv'
    rw [e1] at hv he; rw [e2] at hv' he
    have := hW.apart _ _ _ _ h2 h2' hv hv' he
    subst this
    exact hV.inj b b' _ _ _ hb hb' h1 h1'
  ro := fun i => (hW.ro i).same fun _ _ _ _ _ hd => Den.ground (m := m) (m' := m.view f hL.es) rfl hd
  roApart := fun i b r hb hv hr hn => by
    obtain ⟨d, r1, h1, h2, _, e1⟩ := hV.real hb hv
    rw [e1] at hv ⊢
    exact hW.roApart i _ _ h2 hv hr hn
theorem ToX.fitS {R : Nat → RoRow} {ds : List Deferred} {nk : Nat} {st stE : St} {F : Fz} {S : St → Fz → Prop} (f : Nat → Option Nat) (hV : ViewS f stE.rows st.rows) (hT : VwL f stE.rows.length stE.tmps st.tmps) (hf : ∀ c, c < nk → f c = some c) (hl : nk ≤ stE.rows.length)
    (h : ToX R ds nk stE F S) : ToX R ds nk st F S := by
  intro m a w m0 h0 w0 F0 hn hr hF hs hl0
  refine h (m.view f stE.rows.es) a w m0 h0 w0 F0 hn ⟨hr.size.trans hT.length.symm, ?_, hr.defers, hr.wr.viewS hV⟩ ⟨hF.blk, ?_, hF.ro⟩ ⟨hs.os, hs.tape, hs.output, hs.size, hs.block, Nat.le_trans hn hl, ?_, hs.ro, ?_⟩ hl0
  · intro i x hx
    obtain ⟨y, hy, hxy⟩ := hT.get hx
    obtain ⟨c, hc, hd⟩ := hr.tmps i y hy
    exact ⟨c, hc, hxy.den _ _ _ hd⟩
  · intro c r hc hv
    obtain ⟨b, r', h1, h2, h3, h4⟩ := hV.real hc hv
    rw [h4] at hv ⊢
    exact hF.apart b r' h2 hv
  · intro b hb
    rw [view_some (hf b (Nat.lt_of_lt_of_le hb hn)), hs.mu b hb]
  · intro b r hb hv
    obtain ⟨d, r1, h1, h2, _, e1⟩ := hV.real hb hv
    rw [e1] at hv ⊢
    exact hs.new _ _ h2 hv
theorem ToV.fitS {R : Nat → RoRow} {nk : Nat} {v vE : AV} {h hE : Rows} {F : Fz} {S : AV → Rows → Fz → Prop} (f : Nat → Option Nat) (hV : ViewS f hE h) (hv : Vw f hE.length vE v) (hf : ∀ c, c < nk → f c = some c) (hl : nk ≤ hE.length)
    (hh : ToV R nk vE hE F S) : ToV R nk v h F S := by
  intro m c w m0 h0 w0 F0 hn hd hW hF hs hl0
  refine hh (m.view f hE.es) c w m0 h0 w0 F0 hn (hv.den _ _ _ hd) (hW.viewS hV) ⟨hF.blk, ?_, hF.ro⟩ ⟨hs.os, hs.tape, hs.output, hs.size, hs.block, Nat.le_trans hn hl, ?_, hs.ro, ?_⟩ hl0
  · intro c r hc hv
    obtain ⟨b, r', h1, h2, h3, h4⟩ := hV.real hc hv
    rw [h4] at hv ⊢
    exact hF.apart b r' h2 hv
  · intro b hb
    rw [view_some (hf b (Nat.lt_of_lt_of_le hb hn)), hs.mu b hb]
  · intro b r hb hv
    obtain ⟨d, r1, h1, h2, _, e1⟩ := hV.real hb hv
    rw [e1] at hv ⊢
    exact hs.new _ _ h2 hv
/-- The rows one by one. -/
structure ViewT (f : Nat → Option Nat) (N : Nat) (h : Rows) (c : Nat) (o : Option Row) : Prop where
  row : ∀ r, o = some r → (∃ b r', f c = some b ∧ h.live b = some r' ∧ RowS f N r r') ∨ (f c = none ∧ r.len = 0)
theorem ViewT.at_ {f : Nat → Option Nat} {N : Nat} {h : Rows} {c b : Nat} {r r' : Row} (hf : f c = some b) (hb : h.live b = some r') (hr : RowS f N r r') : ViewT f N h c (some r) :=
  ⟨fun q hq => by cases hq; exact .inl ⟨b, r', hf, hb, hr⟩⟩
theorem ViewT.void {f : Nat → Option Nat} {N : Nat} {h : Rows} {c : Nat} {r : Row} (hf : f c = none) (hr : r.len = 0) : ViewT f N h c (some r) := ⟨fun q hq => by cases hq; exact .inr ⟨hf, hr⟩⟩
theorem ViewT.none {f : Nat → Option Nat} {N : Nat} {h : Rows} {c : Nat} : ViewT f N h c none := ⟨fun q hq => by cases hq⟩
theorem ViewS.of {f : Nat → Option Nat} {hE h : Rows} (hl : ∀ c o, hE[c]? = some o → ViewT f hE.length h c o) (hi : ∀ c c' b, c < hE.length → c' < hE.length → f c = some b → f c' = some b → c = c') : ViewS f hE h where
  inj := fun c c' b r r' hc hc' => hi c c' b (live_lt hc) (live_lt hc')
  row := fun c r hc => by
    have hlt := live_lt hc
    refine (hl c (hE[c]) (List.getElem?_eq_getElem hlt)).row r ?_
    unfold Rows.live at hc
    rw [List.getElem?_eq_getElem hlt] at hc
    simpa using hc
end Go.Dc
end
section
set_option linter.unusedSimpArgs false
set_option linter.unusedVariables false
namespace Go.Dc
open Go.RowKit
theorem SafeCallX.ofRead {P : Program} {R R2 : Nat → RoRow} {fn : FuncId} {argsL args : List AV} {h : Rows} {F : Fz} {Q : AV → Prop} {HP HP' : AV → Rows → Fz → Prop} (hs : SafeCallX P R2 fn argsL [] F (fun v _ _ => Q v) HP) (hp : ∀ v h F, ¬ HP v h F) (hg : ∀ v, Q v → flat v = true)
    (hmap : ∀ m w, WR R m h w → FzOK F m h w → ∃ m2 : Map, Named m2 ∧ (∀ i, RoOK m2 (m2.ro i) (R2 i) w) ∧ ∀ as, DenL m h.length args as → DenL m2 0 argsL as) :
    SafeCallX P R fn args h F (fun v h' F' => Q v ∧ h' = h ∧ F' = F) HP' := by
  intro m w m0 h0 w0 F0 aa has hW hf hS hl
  obtain ⟨m2, hn2, hro, hden⟩ := hmap m w hW hf
  have hW2 : WR R2 m2 [] w := ⟨fun b r hb => by simp [Rows.live] at hb, fun b b' r r' hb => by simp [Rows.live] at hb, hro, fun i b r hb => by simp [Rows.live] at hb⟩
  have hf2 : FzOK F m2 [] w := ⟨hf.blk, fun b r hb => by simp [Rows.live] at hb, hn2⟩
  refine (hs m2 w m2 [] w F aa (hden _ has) hW2 hf2 (Step.refl _ _ _) (.refl _ _ _ _)).mono ?_
  rintro e w' ⟨m', h', F', _, _, _, hS', ⟨c, v, rfl, hq, hd⟩ | ⟨c, v, _, hq, _⟩⟩
  · have hbelow : ∀ k, k < w.heap.size → w'.heap[k]? = w.heap[k]? := fun k hk => hS'.block k hk (fun b r hb => by simp [Rows.live] at hb)
    have ho : Others w w' := ⟨hS'.size, fun k c t fz hk => by rw [hbelow k (Array.getElem?_eq_some_iff.1 hk).1]; exact hk⟩
    have ht : Turned w0.heap.size w w' := ⟨hS'.os, hS'.tape, hS'.output, ho, fun k hk => hbelow k (Nat.lt_of_lt_of_le hk hS.size)⟩
    refine ⟨m, h, F, hW.others ho, ⟨fun b ty cc hb => ?_, hf.apart, hf.ro⟩, hl, hS.turned ht, .inl ⟨c, v, rfl, ⟨hq, rfl, rfl⟩, flat_den (hg v hq) hd⟩⟩
    obtain ⟨fz, hh⟩ := hf.blk b ty cc hb
    exact ⟨fz, ho.2 _ _ _ _ hh⟩
  · exact (hp _ _ _ hq).elim

/-- A value's places told as memory that is only read; what is frozen stays what it is. -/
def RkVw1 (f : Nat → Option Nat) : AV → AV → Prop
  | .ptr false b i o, y => ∃ c, f b = some c ∧ y = .ptr true c i o
  | .sl false b i len _, y => ∃ c, f b = some c ∧ y = .sl true c i len .no
  | .sl true x i len c, y => 15 ≤ x ∧ y = .sl true x i len c
  | .any, y => y = .any
  | x, y => flat1 x = true ∧ y = x
def RkVw (f : Nat → Option Nat) (x y : AV) : Prop := match x with
  | .agg cs => ∃ ds, y = .agg ds ∧ All2 (RkVw1 f) cs ds
  | x => RkVw1 f x y
section
variable {m m2 : Map} {n : Nat} {f : Nat → Option Nat}
theorem RkVw1.den (hf : ∀ b c, f b = some c → m2.ro c = m.mu b) (hk : ∀ x, 15 ≤ x → m2.ro x = m.ro x) {x y : AV} {v : Value} (h : RkVw1 f x y) (hd : Den m n x v) : Den m2 0 y v := by
  cases x
  case ptr ro b i o =>
    cases ro with
    | true => simp [RkVw1, flat1] at h
    | false =>
      obtain ⟨c, hc, rfl⟩ := h
      simp only [Den, Map.loc, if_true, Bool.false_eq_true, if_false] at hd ⊢
      rw [hf b c hc]
      exact ⟨by simp, hd.2⟩
  case sl ro b i len u =>
    cases ro with
    | true =>
      obtain ⟨hb, rfl⟩ := h
      simp only [Den, Map.loc, if_true] at hd ⊢
      rw [hk b hb]
      exact hd.imp (fun _ e => by cases e) id
    | false =>
      obtain ⟨c, hc, rfl⟩ := h
      simp only [Den, Map.loc, if_true, Bool.false_eq_true, if_false] at hd ⊢
      rw [hf b c hc]
      refine ⟨by simp, ?_⟩
      have h2 := hd.2
      unfold SlDen at h2 ⊢
      split
      · rename_i hv; rw [if_pos hv] at h2; obtain ⟨h1, ao, h3, _⟩ := h2; exact ⟨h1, ao, h3, trivial⟩
      · rename_i hv; rw [if_neg hv] at h2; obtain ⟨a, cap, h1, h3, h4, _, h6⟩ := h2; exact ⟨a, cap, h1, h3, h4, trivial, h6⟩
  case any => simp only [RkVw1] at h; subst h; simp [Den]
  all_goals
    simp only [RkVw1] at h
    obtain ⟨h1, rfl⟩ := h
    exact flat1_den h1 hd
theorem RkVwL.den (hf : ∀ b c, f b = some c → m2.ro c = m.mu b) (hk : ∀ x, 15 ≤ x → m2.ro x = m.ro x) : ∀ {xs ys : List AV} {vs : List Value}, All2 (RkVw1 f) xs ys → DenL m n xs vs → DenL m2 0 ys vs
  | [], [], vs, _, hd => by simpa [DenL] using hd
  | [], _ :: _, vs, h, _ => h.elim
  | _ :: _, [], vs, h, _ => h.elim
  | x :: xs, y :: ys, vs, h, hd => by
    simp only [DenL] at hd ⊢
    obtain ⟨v, vs', rfl, d1, d2⟩ := hd
    exact ⟨v, vs', rfl, h.1.den hf hk d1, RkVwL.den hf hk h.2 d2⟩
theorem RkVw.to1 {x y : AV} (hn : ∀ cs, x ≠ .agg cs) (h : RkVw f x y) : RkVw1 f x y := by
  unfold RkVw at h
  split at h
  · exact absurd rfl (hn _)
  · exact h
theorem RkVw.den (hf : ∀ b c, f b = some c → m2.ro c = m.mu b) (hk : ∀ x, 15 ≤ x → m2.ro x = m.ro x) {x y : AV} {v : Value} (h : RkVw f x y) (hd : Den m n x v) : Den m2 0 y v := by
  cases x
  case agg cs =>
    obtain ⟨ds, rfl, h⟩ := h
    simp only [Den] at hd ⊢
    obtain ⟨vs, e, hd⟩ := hd
    exact ⟨vs, e, RkVwL.den hf hk h hd⟩
  all_goals exact RkVw1.den hf hk (RkVw.to1 (fun _ e => by cases e) h) hd
theorem RkVwA.den (hf : ∀ b c, f b = some c → m2.ro c = m.mu b) (hk : ∀ x, 15 ≤ x → m2.ro x = m.ro x) : ∀ {xs ys : List AV} {vs : List Value}, All2 (RkVw f) xs ys → DenL m n xs vs → DenL m2 0 ys vs
  | [], [], vs, _, hd => by simpa [DenL] using hd
  | [], _ :: _, vs, h, _ => h.elim
  | _ :: _, [], vs, h, _ => h.elim
  | x :: xs, y :: ys, vs, h, hd => by
    simp only [DenL] at hd ⊢
    obtain ⟨v, vs', rfl, d1, d2⟩ := hd
    exact ⟨v, vs', rfl, h.1.den hf hk d1, RkVwA.den hf hk h.2 d2⟩
theorem RkVw1.one {x y : AV} (h : RkVw1 f x y) (hx : x.one = true) : y.one = true := by
  cases x
  case ptr ro b i o =>
    cases ro with
    | true => simp [RkVw1, flat1] at h
    | false => obtain ⟨c, _, rfl⟩ := h; rfl
  case sl ro b i len u =>
    cases ro with
    | true => obtain ⟨_, rfl⟩ := h; rfl
    | false => obtain ⟨c, _, rfl⟩ := h; rfl
  case any => simp [AV.one] at hx
  all_goals
    simp only [RkVw1] at h
    obtain ⟨_, rfl⟩ := h
    exact hx
theorem RkVw1.cells {x y : AV} (h : RkVw1 f x y) (hx : x.one = true) : x.cells = [x] ∧ y.cells = [y] := by
  have hy := h.one hx
  constructor
  · cases x <;> simp [AV.one] at hx <;> rfl
  · cases y <;> simp [AV.one] at hy <;> rfl
theorem all2_length {α β : Type} {r : α → β → Prop} : ∀ {xs : List α} {ys : List β}, All2 r xs ys → xs.length = ys.length
  | [], [], _ => rfl
  | [], _ :: _, h => h.elim
  | _ :: _, [], h => h.elim
  | x :: xs, y :: ys, h => by simp [all2_length h.2]
theorem RkVw.cells {x y : AV} (h : RkVw f x y) (h1 : ∀ (o : Nat) (a : AV), x.cells[o]? = some a → a.one = true) : y.cells.length = x.cells.length ∧ ∀ (o : Nat) (b : AV), y.cells[o]? = some b → ∃ a, x.cells[o]? = some a ∧ RkVw1 f a b := by
  by_cases hx : ∃ cs, x = .agg cs
  · obtain ⟨cs, rfl⟩ := hx
    obtain ⟨ds, rfl, h⟩ := h
    exact ⟨(all2_length h).symm, fun o b hb => forall2_get h hb⟩
  · have hx' : ∀ cs, x ≠ .agg cs := fun cs e => hx ⟨cs, e⟩
    have k := RkVw.to1 hx' h
    have hc : x.cells = [x] := by cases x <;> first | rfl | exact absurd rfl (hx' _)
    have hone : x.one = true := h1 0 x (by rw [hc]; rfl)
    obtain ⟨e1, e2⟩ := k.cells hone
    rw [e1, e2]
    refine ⟨rfl, fun o b hb => ?_⟩
    cases o with
    | zero => cases hb; exact ⟨x, rfl, k⟩
    | succ o => simp at hb
end
structure RkRowV (f : Nat → Option Nat) (r : Row) (q : RoRow) : Prop where
  ty : q.ty = r.ty
  esz : q.esz = r.esz
  n : q.n ≤ r.len
  at_ : ∀ (j : Nat) (e : AV), j < q.n → r.get? j = some e → RkVw f e (q.at_ j)
theorem RowOK.rk {m m2 : Map} {n : Nat} {l : Loc} {r : Row} {q : RoRow} {w : World} {f : Nat → Option Nat} (hf : ∀ b c, f b = some c → m2.ro c = m.mu b) (hk : ∀ x, 15 ≤ x → m2.ro x = m.ro x) (h : RowOK m n l r w) (hv : RkRowV f r q) : RoOK m2 l q w := by
  obtain ⟨h1, h2, h3⟩ := h
  refine ⟨h1.trans hv.esz.symm, Nat.le_trans hv.n h2, ?_⟩
  cases hvir : l.vir with
  | true =>
    rw [hvir] at h3
    simp only [if_true] at h3 ⊢
    have := hv.n
    omega
  | false =>
    rw [hvir] at h3
    simp only [Bool.false_eq_true, if_false] at h3 ⊢
    intro hn
    obtain ⟨c, fz, hc, hs, hfz, hd⟩ := h3
    refine ⟨c, fz, by rw [hv.ty]; exact hc, fun i hi => ?_⟩
    obtain ⟨e, he⟩ := Row.get?_some (r := r) (i := i) (by have := hv.n; omega)
    obtain ⟨hl, hcell⟩ := hd i e he
    obtain ⟨k1, k2⟩ := (RkVw.cells (hv.at_ i e hi he)) (fun o a ha => (hcell o a ha).1)
    refine ⟨k1.trans hl, fun o b hb => ?_⟩
    obtain ⟨a, ha, hr⟩ := k2 o b hb
    obtain ⟨ho, v, hv2, hden⟩ := hcell o a ha
    exact ⟨hr.one ho, v, hv2, hr.den hf hk hden⟩

/-- What a name stands for, of frozen memory; nothing need be known of it. -/
def FrzC (F : Fz) (x : Nat) (r : RoRow) : Prop := (x ≠ 0 ∧ Frz F x r) ∨ (r.n = 0 ∧ r.esz = (tkLoc x).esz)
theorem FrzC.ok {R : Nat → RoRow} {F : Fz} {m m2 : Map} {h : Rows} {w : World} (hf : FzOK F m h w) (hn : Named m2) {x : Nat} {r : RoRow} (hc : FrzC F x r) : RoOK m2 (m2.ro (x + 15)) r w := by
  rw [hn x]
  rcases hc with ⟨h0, hfr⟩ | ⟨h1, h2⟩
  · rcases hfr with ⟨rfl, hz⟩ | ⟨blk, off, ext, c, hx, hne, hF, hcell⟩
    · exact absurd rfl h0
    · rw [hx, tkLoc_name]
      refine ⟨rfl, hne, ?_⟩
      simp only [Bool.false_eq_true, if_false]
      intro _
      obtain ⟨fz, hh⟩ := hf.blk _ _ _ hF
      refine ⟨c, fz, hh, fun j hj => ?_⟩
      obtain ⟨h1, h2⟩ := hcell j hj
      refine ⟨h1, fun o a ha => ?_⟩
      obtain ⟨h3, v, h4, h5⟩ := h2 o a ha
      exact ⟨h3, v, h4, h5 _ _ hn⟩
  · refine ⟨h2.symm, by rw [h1]; exact Nat.zero_le _, ?_⟩
    split
    · exact h1
    · intro hh; omega
/-- What only reads some rows, and frozen memory, wherever they lie. -/
theorem SafeCallX.reads {P : Program} {R R2 : Nat → RoRow} {fn : FuncId} {argsL args : List AV} {h : Rows} {F : Fz} {Q : AV → Prop} {HP HP' : AV → Rows → Fz → Prop} (f g : Nat → Option Nat) (hfg : ∀ b i, f b = some i → i < 15 ∧ g i = some b)
    (hrow : ∀ i, i < 15 → match g i with | some b => ∃ r, h.live b = some r ∧ RkRowV f r (R2 i) | .none => (R2 i).n = 0) (hfz : ∀ x, FrzC F x (R2 (x + 15))) (hA : All2 (RkVw f) args argsL)
    (hs : SafeCallX P R2 fn argsL [] F (fun v _ _ => Q v) HP) (hp : ∀ v h F, ¬ HP v h F) (hg : ∀ v, Q v → flat v = true) : SafeCallX P R fn args h F (fun v h' F' => Q v ∧ h' = h ∧ F' = F) HP' := by
  refine hs.ofRead hp hg ?_
  intro m w hW hfo
  let m2 : Map := ⟨fun _ => ⟨0, 0, 0, 0, true⟩, fun i => if i < 15 then (match g i with | some b => m.mu b | .none => ⟨0, 0, (R2 i).esz, 0, true⟩) else m.ro i⟩
  have hf : ∀ b c, f b = some c → m2.ro c = m.mu b := by
    intro b c hc
    obtain ⟨h1, h2⟩ := hfg b c hc
    show (if c < 15 then (match g c with | some b => m.mu b | .none => _) else _) = _
    rw [if_pos h1, h2]
  have hk : ∀ x, 15 ≤ x → m2.ro x = m.ro x := by
    intro x hx
    show (if x < 15 then _ else _) = _
    rw [if_neg (by omega)]
  have hn2 : Named m2 := fun i => by rw [hk _ (by omega)]; exact hfo.ro i
  refine ⟨m2, hn2, ?_, fun aa hh => RkVwA.den hf hk hA hh⟩
  intro i
  by_cases hi : i < 15
  · have h1 := hrow i hi
    show RoOK m2 (if i < 15 then (match g i with | some b => m.mu b | .none => ⟨0, 0, (R2 i).esz, 0, true⟩) else m.ro i) (R2 i) w
    rw [if_pos hi]
    cases hgi : g i with
    | some b =>
      rw [hgi] at h1
      obtain ⟨r, hb, hv⟩ := h1
      exact (hW.row b r hb).rk hf hk hv
    | none =>
      rw [hgi] at h1
      exact ⟨rfl, by simp at h1; omega, by simpa using h1⟩
  · obtain ⟨x, rfl⟩ : ∃ x, i = x + 15 := ⟨i - 15, by omega⟩
    exact (hfz x).ok (R := R) hfo hn2
end Go.Dc
namespace Go.Dc
open Go.RowKit
/-- A copy of no elements: it answers with a slice of none. -/
theorem SafeCall.cloneNil {P : Program} {R : Nat → RoRow} {f : FuncId} {t z : TypeId} (hc : ∀ (base : Option Addr) (c : Nat) (w : World), Calls P f #[.slice base 0 c] w fun e w' => ∃ ao, e = .returned (.slice ao 0 0) ∧ (w' = w ∨ w' = w.alloc (.cells #[] t)))
    {ro : Bool} {q : Nat} {cp : Cp} {h : Rows} (H : Nat → AV) : SafeCall P R f [.sl ro q 0 0 cp] h fun v h' => v = .sl false h.length 0 0 .no ∧ h' = h ++ [some (.gen t z 0 H)] := by
  intro m w m0 h0 w0 aa has hW hS
  simp only [DenL] at has
  obtain ⟨a1, l1, e1, d1, rfl⟩ := has
  obtain rfl : aa = #[a1] := by rw [← Array.toList_inj]; simpa using e1
  have hv : ∃ base c, a1 = .slice base 0 c := by
    simp only [Den] at d1
    have d2 := d1.2
    unfold SlDen at d2
    split at d2
    · obtain ⟨_, ao, rfl, _⟩ := d2; exact ⟨_, _, rfl⟩
    · obtain ⟨ad, cap, rfl, _⟩ := d2; exact ⟨_, _, rfl⟩
  obtain ⟨base, c, rfl⟩ := hv
  refine (hc base c w).mono ?_
  rintro e w' ⟨ao, rfl, hw⟩
  have key : Others w w' ∧ w'.os = w.os ∧ w'.tape = w.tape ∧ w'.output = w.output ∧ ∀ k, k < w.heap.size → w'.heap[k]? = w.heap[k]? := by
    rcases hw with rfl | rfl
    · exact ⟨⟨Nat.le_refl _, fun _ _ _ _ h => h⟩, rfl, rfl, rfl, fun _ _ => rfl⟩
    · have hb : ∀ k, k < w.heap.size → (w.alloc (.cells #[] t)).heap[k]? = w.heap[k]? := fun k hk => by
        show (w.heap.push _)[k]? = _
        rw [Array.getElem?_push, if_neg (by omega)]
      refine ⟨⟨by show w.heap.size ≤ (w.heap.push _).size; simp, fun k c t fz hk => by rw [hb k (Array.getElem?_eq_some_iff.1 hk).1]; exact hk⟩, rfl, rfl, rfl, hb⟩
  obtain ⟨ho, k1, k2, k3, hbelow⟩ := key
  have ht : Turned w0.heap.size w w' := ⟨k1, k2, k3, ho, fun k hk => hbelow k (Nat.lt_of_lt_of_le hk hS.size)⟩
  obtain ⟨vW, vS⟩ := (hW.others ho).pushVir (.gen t z 0 H) rfl
  refine ⟨_, .sl false h.length 0 0 .no, _, _, rfl, ⟨rfl, rfl⟩, ?_, vW, (hS.turned ht).trans vS⟩
  simp only [Den]
  refine ⟨fun _ => by simp, ?_⟩
  simp only [Map.loc, Bool.false_eq_true, if_false, Map.setMu_same, SlDen]
  exact ⟨trivial, ao, rfl, trivial⟩
end Go.Dc
end
