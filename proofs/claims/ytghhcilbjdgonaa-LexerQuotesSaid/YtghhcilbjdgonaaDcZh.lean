/- Rows told in other words; calls of the library that read rows; tools for loops. -/
import Derived.Test.YtghhcilbjdgonaaDcZg
set_option linter.unusedSimpArgs false
set_option linter.unusedVariables false
namespace Go.Dc
open Go.RowKit

theorem RowOK.retell {m : Map} {n : Nat} {l : Loc} {r r' : Row} {w : World} (h : RowOK m n l r w) (ht : r'.ty = r.ty) (he : r'.esz = r.esz) (hl : r'.len = r.len) (hg : ∀ i e, r'.get? i = some e → r.get? i = some e) : RowOK m n l r' w := by
  obtain ⟨h1, h2, h3⟩ := h
  refine ⟨h1.trans he.symm, by rw [hl]; exact h2, ?_⟩
  cases hv : l.vir with
  | true =>
    rw [hv] at h3
    simp only [if_true] at h3 ⊢
    rw [hl]
    exact h3
  | false =>
    rw [hv] at h3
    simp only [Bool.false_eq_true, if_false] at h3 ⊢
    obtain ⟨c, fz, hc, hs, hf, hd⟩ := h3
    exact ⟨c, fz, by rw [ht]; exact hc, hs, hf, fun i e hi => hd i e (hg i e hi)⟩

theorem live_last (h : Rows) (r : Row) : Rows.live (h ++ [some r]) h.length = some r := by simp [Rows.live]

/-- The last row told otherwise. -/
theorem SafeCall.retell {P : Program} {R : Nat → RoRow} {fn : FuncId} {args : List AV} {h : Rows} {v v0 : AV} {r r0 : Row} (hs : SafeCall P R fn args h fun v' h' => v' = v ∧ h' = h ++ [some r]) (ht : r0.ty = r.ty) (he : r0.esz = r.esz) (hl : r0.len = r.len)
    (hg : ∀ i e, r0.get? i = some e → r.get? i = some e) (hv : ∀ m n c, Den m n v c → Den m n v0 c) : SafeCall P R fn args h fun v' h' => v' = v0 ∧ h' = h ++ [some r0] := by
  intro m w m0 h0 w0 as has hW hS
  refine (hs m w m0 h0 w0 as has hW hS).mono ?_
  rintro e w' ⟨c, v', m', h', rfl, ⟨rfl, rfl⟩, hd, hW', hS'⟩
  have up : ∀ b q, Rows.live (h ++ [some r0]) b = some q → ∃ q', Rows.live (h ++ [some r]) b = some q' ∧ (q' = q ∨ (q' = r ∧ q = r0)) := by
    intro b q hb
    rcases live_push hb with ⟨hlt, hl⟩ | ⟨rfl, rfl⟩
    · exact ⟨q, by rw [live_append hlt]; exact hl, .inl rfl⟩
    · exact ⟨r, live_last h r, .inr ⟨rfl, rfl⟩⟩
  refine ⟨c, v0, m', _, rfl, ⟨rfl, rfl⟩, by simpa using hv _ _ _ hd, ⟨?_, ?_, hW'.ro, ?_⟩, ⟨hS'.os, hS'.tape, hS'.output, hS'.size, hS'.block, by simpa using hS'.len, hS'.mu, hS'.ro, ?_⟩⟩
  · intro b q hb
    obtain ⟨q', hb', rfl | ⟨rfl, rfl⟩⟩ := up b q hb
    · simpa using hW'.row b q' hb'
    · simpa using (hW'.row b q' hb').retell ht he hl hg
  · intro b b' q q' hb hb'
    obtain ⟨_, k1, _⟩ := up b q hb
    obtain ⟨_, k2, _⟩ := up b' q' hb'
    exact hW'.apart b b' _ _ k1 k2
  · intro i b q hb
    obtain ⟨_, k1, _⟩ := up b q hb
    exact hW'.roApart i b _ k1
  · intro b q hb
    obtain ⟨_, k1, _⟩ := up b q hb
    exact hS'.new b _ k1

/-- A call of the library that reads rows and answers with a plain value. -/
theorem SafeCall.knownRead {P : Program} {R : Nat → RoRow} {fn : FuncId} {args : List AV} {h : Rows} {v : AV}
    (hs : ∀ m w (as : Array Value), WR R m h w → DenL m h.length args as.toList → Calls P fn as w fun e w' => ∃ c, e = .returned c ∧ (∀ m n, Den m n v c) ∧ Below w.heap.size w w') :
    SafeCall P R fn args h fun v' h' => v' = v ∧ h' = h := by
  intro m w m0 h0 w0 as has hW hS
  refine (hs m w as hW has).mono ?_
  rintro e w' ⟨c, rfl, hd, hb⟩
  have ho : Others w w' := ⟨hb.size, fun k c t fz hk => by rw [hb.block k (Array.getElem?_eq_some_iff.1 hk).1]; exact hk⟩
  have ht : Turned w0.heap.size w w' := ⟨hb.os, hb.tape, hb.output, ho, fun k hk => hb.block k (Nat.lt_of_lt_of_le hk hS.size)⟩
  exact ⟨c, v, m, h, rfl, ⟨rfl, rfl⟩, hd _ _, hW.others ho, hS.turned ht⟩

/-- A row of texts, as the world bears it. -/
def strsRow (ty : TypeId) (l : List (List UInt8)) : Row := .gen ty 1 l.length fun j => .str (l.getD j [])

theorem strs_cells {R : Nat → RoRow} {m : Map} {h : Rows} {w : World} (hW : WR R m h w) {q : Nat} {ty : TypeId} {l : List (List UInt8)} {at_ : Nat → AV} (hq : h.live q = some (.gen ty 1 l.length at_)) (hat : ∀ j, j < l.length → at_ j = .str (l.getD j [])) {u : Value} {c : Cp} (hd : Den m h.length (.sl false q 0 l.length c) u) :
    (l = [] ∧ ∃ a cap, u = .slice a 0 cap) ∨ ∃ bk o cap, u = .slice (some ⟨bk, o, none⟩) l.length cap ∧ l.length ≤ cap ∧ bk < w.heap.size ∧ ∀ j s, l[j]? = some s → w.cell? ⟨bk, o + j, none⟩ = some (.string ⟨⟨s⟩⟩) := by
  simp only [Den, Map.loc, Bool.false_eq_true, if_false] at hd
  obtain ⟨_, hsl⟩ := hd
  cases l with
  | nil =>
    refine .inl ⟨rfl, ?_⟩
    unfold SlDen at hsl
    split at hsl
    · obtain ⟨_, ao, rfl, _⟩ := hsl; exact ⟨ao, 0, rfl⟩
    · obtain ⟨a, cap, rfl, _⟩ := hsl; exact ⟨_, cap, rfl⟩
  | cons s0 l =>
    refine .inr ?_
    unfold SlDen at hsl
    split at hsl
    · obtain ⟨h0, _⟩ := hsl; simp at h0
    · rename_i hv
      have hv : (m.mu q).vir = false := by simpa using hv
      obtain ⟨a, cap, rfl, h1, _, _, h4⟩ := hsl
      obtain ⟨rfl, _⟩ := h4 (by simp at h1; omega)
      obtain ⟨e1, e2, h3⟩ := hW.row q _ hq
      rw [hv] at h3
      simp only [Bool.false_eq_true, if_false] at h3
      obtain ⟨cs, fz, hc, _, _, hel⟩ := h3
      have hesz : (m.mu q).esz = 1 := e1
      refine ⟨_, _, cap, rfl, h1, (Array.getElem?_eq_some_iff.1 hc).1, fun j s hj => ?_⟩
      have hjl : j < (s0 :: l).length := (List.getElem?_eq_some_iff.1 hj).1
      have hg : (Row.gen ty 1 (s0 :: l).length at_).get? j = some (.str s) := by
        rw [Row.get_gen hjl, hat j hjl]
        simp only [List.getD, hj, Option.getD_some]
      obtain ⟨_, hcell⟩ := hel j _ hg
      obtain ⟨_, v, hv2, hden⟩ := hcell 0 (.str s) (by simp [AV.cells])
      simp only [Den] at hden
      subst hden
      rw [hesz] at hv2
      simp only [World.cell?, hc, hesz]
      simpa using hv2

theorem View.nil : View (fun _ => Option.none) [] [] := ⟨fun c b hc => absurd hc (Nat.not_lt_zero _), fun c c' b hc => absurd hc (Nat.not_lt_zero _), fun c r hc => by simp [Rows.live] at hc⟩
theorem Fit.nil {T T' : List AV} (h : VwL (fun _ => Option.none) 0 T T') : Fit 0 ⟨T, []⟩ ⟨T', []⟩ := ⟨fun _ => Option.none, ⟨View.nil, h⟩, fun c hc => absurd hc (Nat.not_lt_zero _), Nat.le_refl _⟩
theorem subs_loop (b : Code) : subs b = subs (.loop b) := rfl

def strOf : AV → List UInt8
  | .str s => s
  | _ => []
/-- The texts of a row. -/
def strsOf (n : Nat) (at_ : Nat → AV) : List (List UInt8) := (List.range n).map fun j => strOf (at_ j)
theorem strsOf_length (n : Nat) (at_ : Nat → AV) : (strsOf n at_).length = n := by simp [strsOf]
theorem strsOf_getD {n : Nat} {at_ : Nat → AV} {j : Nat} (hj : j < n) : (strsOf n at_).getD j [] = strOf (at_ j) := by
  simp [strsOf, List.getD, hj]
theorem strsOf_row (l : List (List UInt8)) : strsOf l.length (fun j => .str (l.getD j [])) = l := by
  apply List.ext_getElem
  · simp [strsOf]
  · intro i h1 h2
    simp [strsOf, strOf, List.getD, h2]

/-- A call that is known for one row alone, with what it leaves told by a condition. -/
theorem SafeCall.focus1Q {P : Program} {R : Nat → RoRow} {fn : FuncId} {argsL args : List AV} {r r0 : Row} {h : Rows} {b : Nat} {Q : AV → Option Row → Rows → Prop}
    (hb : h[b]? = some (some r0)) (hr : RowV (oneV b) 1 r r0) (hA : VwL (oneV b) 1 argsL args) (hs : SafeCall P R fn argsL [some r] fun v h' => ∃ o tl, Q v o tl ∧ h' = o :: tl) :
    SafeCall P R fn args h fun v'' h'' => ∃ V o tl, Q V o tl ∧ v'' = ren (g1 b h.length) V ∧ h'' = h.set b (o.map (renRow (g1 b h.length))) ++ Option.none :: tl.map (Option.map (renRow (g1 b h.length))) := by
  have hlt : b < h.length := (List.getElem?_eq_some_iff.1 hb).1
  have hV : View (oneV b) [some r] h := View.of (fun c o ho => by
    cases c with
    | zero => cases ho; exact ViewL.at_ (b := b) rfl hb hr
    | succ c => simp at ho) (fun c c' d hc hc' _ _ => by simp at hc hc'; omega)
  refine (hs.focus hV hA).mono ?_
  rintro v'' h'' ⟨v', h', ⟨o, tl, hq, rfl⟩, rfl, rfl⟩
  refine ⟨v', o, tl, hq, ?_, merged_one hlt o tl⟩
  show ren (ext (oneV b) 1 h.length) _ = _
  rw [ext_one]
/-- A list of scratch slots of which few are known. -/
def spr (l : List (Nat × AV)) : Nat → Nat → List AV
  | _, 0 => []
  | k, n + 1 => (match l.lookup k with | some a => a | none => .any) :: spr l (k + 1) n
theorem VwL.spr {f : Nat → Option Nat} {N : Nat} {l : List (Nat × AV)} : ∀ {n k : Nat} {T : List AV}, T.length = n → (∀ i a, l.lookup (k + i) = some a → i < n → Vw f N a (nthV T i)) → VwL f N (Dc.spr l k n) T
  | 0, k, T, h, _ => by
    cases T with
    | nil => exact VwL.nil
    | cons x T => simp at h
  | n + 1, k, T, h, hp => by
    cases T with
    | nil => simp at h
    | cons x T =>
      refine VwL.cons ?_ (VwL.spr (by simpa using h) fun i a hl hi => ?_)
      · cases hl : l.lookup k with
        | none => exact Vw.anyI
        | some a =>
          have := hp 0 a (by simpa using hl) (by omega)
          simpa only [nthV_eq, List.getD_cons_zero] using this
      · have := hp (i + 1) a (by rw [show k + (i + 1) = k + 1 + i by omega]; exact hl) (by omega)
        simpa only [nthV_eq, List.getD_cons_succ] using this
/-- The known slots, one by one. -/
def known (f : Nat → Option Nat) (N : Nat) (T : List AV) : List (Nat × AV) → Prop
  | [] => True
  | (i, a) :: l => Vw f N a (nthV T i) ∧ known f N T l
theorem known.at_ {f : Nat → Option Nat} {N : Nat} {T : List AV} : ∀ {l : List (Nat × AV)}, known f N T l → ∀ i a, l.lookup i = some a → Vw f N a (nthV T i)
  | [], _, i, a, h => by simp at h
  | (j, b) :: l, hk, i, a, h => by
    rw [List.lookup_cons] at h
    by_cases e : i = j
    · subst e
      simp at h
      exact h ▸ hk.1
    · rw [show (i == j) = false by simpa using e] at h
      exact hk.2.at_ i a h
theorem VwL.ofKnown {f : Nat → Option Nat} {N n : Nat} {l : List (Nat × AV)} {T : List AV} (h : T.length = n) (hk : known f N T l) : VwL f N (Dc.spr l 0 n) T :=
  VwL.spr h fun i a hl _ => hk.at_ i a (by rw [Nat.zero_add] at hl; exact hl)
end Go.Dc
