/- A range over slices.Backward in its block, told by what stands between its rounds. -/
import Derived.Test.YtfajmjhijanggaaDcZf
import Derived.Test.YtfajmjhijanggaaDcYi
import Derived.Recover
import Derived.WideLaws
import Derived.Below
section
set_option linter.unusedSimpArgs false
set_option linter.unusedVariables false
namespace Go.Dc

theorem subs_trans : ∀ (c : Code) (p : Nat × Code), p ∈ subs c → ∀ q ∈ subs p.2, q ∈ subs c := by
  intro c
  induction c with
  | block id b ih =>
    intro p hp q hq
    simp only [subs, List.mem_cons] at hp ⊢
    rcases hp with rfl | hp
    · exact .inr hq
    · exact .inr (ih p hp q hq)
  | seq x y ihx ihy =>
    intro p hp q hq
    simp only [subs, List.mem_append] at hp ⊢
    rcases hp with hp | hp
    · exact .inl (ihx p hp q hq)
    · exact .inr (ihy p hp q hq)
  | cond x y z ihx ihy =>
    intro p hp q hq
    simp only [subs, List.mem_append] at hp ⊢
    rcases hp with hp | hp
    · exact .inl (ihx p hp q hq)
    · exact .inr (ihy p hp q hq)
  | loop b ih => exact ih
  | rangeFunc g ps x y ihx ihy =>
    intro p hp q hq
    simp only [subs, List.mem_append] at hp ⊢
    rcases hp with hp | hp
    · exact .inl (ihx p hp q hq)
    · exact .inr (ihy p hp q hq)
  | _ => intro p hp; simp [subs] at hp

theorem blockOf_mem {fi : FI} {i : Nat} {b : Code} (hb : blockOf fi i = some b) : (i, b) ∈ subs fi.body := by
  unfold blockOf at hb
  split at hb
  · rename_i j' b' he
    simp only [Option.some.injEq] at hb
    subst hb
    have : (j', b') ∈ (subs fi.body).filter fun p => Nat.beq p.1 i := by rw [he]; simp
    simp only [List.mem_filter] at this
    obtain ⟨h1, h2⟩ := this
    have := Nat.eq_of_beq_eq_true h2
    subst this
    exact h1
  · exact absurd hb (by simp)

theorem blockOf_uniq {fi : FI} {i : Nat} {b b' : Code} (hb : blockOf fi i = some b) (h : (i, b') ∈ subs fi.body) : b' = b := by
  unfold blockOf at hb
  split at hb
  · rename_i j' b2 he
    simp only [Option.some.injEq] at hb
    subst hb
    have : (i, b') ∈ (subs fi.body).filter fun p => Nat.beq p.1 i := List.mem_filter.2 ⟨h, by simp⟩
    rw [he] at this
    simp only [List.mem_singleton, Prod.mk.injEq] at this
    exact this.2
  · exact absurd hb (by simp)

/-- One round: the left sides, then the body. -/
noncomputable def rndR (E : Env Prop) (n : Nat) (f : FuncId) (as body : Code) (st : St) (k : Exit → St → Prop) : Prop :=
  code propAns E (drawAll propAns E) n f as st fun e st1 => match e with
    | .normal => code propAns E (drawAll propAns E) n f body st1 k
    | _ => False

/-- The code of a range in its block. -/
def rgA (fi : FI) (id : Nat) : Code := match blockOf fi id with | some (.rangeFunc _ _ a _) => a | _ => .skip
def rgB (fi : FI) (id : Nat) : Code := match blockOf fi id with | some (.rangeFunc _ _ _ b) => b | _ => .skip

theorem rangeLoop {P : Program} {E : Env Prop} (hm : P.follows .mixedOrders = true) (hE : EnvOK P E id) {f : FuncId} (hl : ∀ i, E.loops f i = Option.none) {gf esz : Nat} (hB : BackOK P gf esz)
    (hent : ∀ args w, (callFunc gf args).run P w = .ok (.enter gf args) w) {fi : FI} (hF : E.F f = some fi) {i : Nat} {g : Operand} {p0 p1 : Tmp} {as body : Code} (hb : blockOf fi i = some (.rangeFunc g #[p0, p1] as body))
    (hnd : (codeND as && codeND body) = true) {st : St} {bx : Nat} (hg : st.ev g = .fn gf [] [.ptr false bx 0 0]) {rb : Row} (hbx : st.rows.live bx = some rb) {sv : AV} (hsv0 : rb.get? 0 = some sv)
    {ds : List Nat} {len : Nat} {els : Nat → AV} (hbd : bx ∈ ds)
    (hsv : (sv = .nils ∧ len = 0) ∨ (∃ b i full r, sv = .sl false b i len full ∧ st.rows.live b = some r ∧ r.esz = esz ∧ b ∈ ds ∧ ∀ j, j < len → r.get? (i + j) = some (els j)) ∨
      (∃ b i full, sv = .sl true b i len full ∧ (E.R b).esz = esz ∧ i + len ≤ (E.R b).n ∧ ∀ j, j < len → els j = (E.R b).at_ (i + j)))
    {I : Nat → Rows → Prop} {X : Exit → Rows → Prop} (h0 : I 0 (dead ds st.rows)) (n : Nat)
    (hround : ∀ k rows, k < len → I k rows → rndR E n f as body ⟨(st.tmps.set p0 (.int .i64 ((len - 1 - k : Nat) : Int))).set p1 (els (len - 1 - k)), rows⟩ fun e st2 =>
      ∃ rowsE, (rowsE = st2.rows ∨ FitR st.rows.length rowsE st2.rows) ∧ match e with | .normal => I (k + 1) rowsE | e => X e rowsE)
    {Q : Exit → St → Prop} (hdone : ∀ rows, I len rows → Q .normal ⟨st.tmps, revive ds st.rows rows⟩)
    (hexit : ∀ e rows, X e rows → match e with
      | .exit id' => bif Nat.beq id' i then Q .normal ⟨st.tmps, revive ds st.rows rows⟩ else Q (.exit id') ⟨st.tmps, revive ds st.rows rows⟩
      | e => Q e ⟨st.tmps, revive ds st.rows rows⟩) :
    SafeM P E.R (.block i (.rangeFunc g #[p0, p1] as body)) st Q := by
  have hm1 := blockOf_mem hb
  have hsa : ∀ p ∈ subs as, p ∈ E.subsOf f := fun p hp => by unfold Env.subsOf; rw [hF]; exact subs_trans _ _ hm1 p (by simp [subs, hp])
  have hsb : ∀ p ∈ subs body, p ∈ E.subsOf f := fun p hp => by unfold Env.subsOf; rw [hF]; exact subs_trans _ _ hm1 p (by simp [subs, hp])
  simp only [Bool.and_eq_true] at hnd
  refine SafeM.block (range_ok hB hent hg hbx hsv0 hbd hsv (I := I) (X := X) h0 ?_ hdone ?_)
  · intro l k rows hk hI
    have ok := fun c st k => code_okR (rd := some l) (ds := []) propHolds hE hm f (fun id spec e => by rw [hl id] at e; cases e) n c st k
    refine SafeR.mono (ok as _ _ hnd.1 hsa (hround k rows hk hI)) ?_
    intro e1 st1 hq1
    cases e1 with
    | normal => exact ⟨rfl, ok body _ _ hnd.2 hsb hq1⟩
    | _ => exact hq1.elim
  · intro e rows hx
    exact hexit e rows hx
/-! ### Rows of plain values, with rows behind -/
def lstGnd : Option Row → Bool
  | some (.lst _ _ l) => l.all fun e => ones e && Go.Dc.gnd e
  | none => true
  | _ => false

theorem RowV.lstG {f : Nat → Option Nat} {n : Nat} {t z : Nat} {l : List AV} (h : (l.all fun e => ones e && Go.Dc.gnd e) = true) : RowV f n (.lst t z l) (.lst t z l) where
  ty := rfl
  esz := rfl
  len := rfl
  get := fun i x hx => by
    simp only [Row.get?] at hx ⊢
    have hm := List.mem_of_getElem? hx
    have := List.all_eq_true.1 h x hm
    simp only [Bool.and_eq_true] at this
    exact ⟨ones_mem this.1, x, hx, gnd_vw f n x this.2⟩

theorem View.pre (h tl : Rows) (hg : h.all lstGnd = true) : View some h (h ++ tl) :=
  View.of (fun c o ho => by
    have hm := List.mem_of_getElem? ho
    have hlt := (List.getElem?_eq_some_iff.1 ho).1
    have hgo := List.all_eq_true.1 hg o hm
    cases o with
    | none =>
      refine ⟨(fun r hr => by cases hr), fun b hb => ?_⟩
      simp only [Option.some.injEq] at hb
      subst hb
      simp; omega
    | some r =>
      cases r with
      | lst t z l => exact ViewL.at_ (b := c) rfl (by rw [List.getElem?_append_left hlt]; exact ho) (RowV.lstG hgo)
      | gen t z n a => simp [lstGnd] at hgo
      | byt t l => simp [lstGnd] at hgo)
    (fun c c' b _ _ h1 h2 => by simp only [Option.some.injEq] at h1 h2; omega)

theorem FitR.pre {nk : Nat} (h tl : Rows) (hg : h.all lstGnd = true) (hn : nk ≤ h.length) : FitR nk h (h ++ tl) := ⟨some, View.pre h tl hg, fun _ _ => rfl, hn⟩

end Go.Dc
end
section
set_option linter.unusedSimpArgs false
set_option linter.unusedVariables false
namespace Go.Dc
open Go.RowKit

theorem RowOK.retell {m : Map} {n : Nat} {l : Loc} {r r' : Row} {w : World} (h : RowOK m n l r w) (ht : r'.ty = r.ty) (he : r'.esz = r.esz) (hl : r'.len = r.len) (hg : ∀ i e, r'.get? i = some e → r.get? i = some e) : RowOK m n l r' w := by
  obtain ⟨h1, h2, h3⟩ := h
  refine ⟨h1.trans he.symm, by rw [hl]; exact h2, ?_⟩
  cases hv : l.vir with
  | true =>
    rw [hv] at h3
    simp only [if_true] at h3 ⊢
    rw [hl]
    exact h3
  | false =>
    rw [hv] at h3
    simp only [Bool.false_eq_true, if_false] at h3 ⊢
    obtain ⟨c, fz, hc, hs, hf, hd⟩ := h3
    exact ⟨c, fz, by rw [ht]; exact hc, hs, hf, fun i e hi => hd i e (hg i e hi)⟩

theorem live_last (h : Rows) (r : Row) : Rows.live (h ++ [some r]) h.length = some r := by simp [Rows.live]

/-- The last row told otherwise. -/
theorem SafeCall.retell {P : Program} {R : Nat → RoRow} {fn : FuncId} {args : List AV} {h : Rows} {v v0 : AV} {r r0 : Row} (hs : SafeCall P R fn args h fun v' h' => v' = v ∧ h' = h ++ [some r]) (ht : r0.ty = r.ty) (he : r0.esz = r.esz) (hl : r0.len = r.len)
    (hg : ∀ i e, r0.get? i = some e → r.get? i = some e) (hv : ∀ m n c, Den m n v c → Den m n v0 c) : SafeCall P R fn args h fun v' h' => v' = v0 ∧ h' = h ++ [some r0] := by
  intro m w m0 h0 w0 as has hW hS
  refine (hs m w m0 h0 w0 as has hW hS).mono ?_
  rintro e w' ⟨c, v', m', h', rfl, ⟨rfl, rfl⟩, hd, hW', hS'⟩
  have up : ∀ b q, Rows.live (h ++ [some r0]) b = some q → ∃ q', Rows.live (h ++ [some r]) b = some q' ∧ (q' = q ∨ (q' = r ∧ q = r0)) := by
    intro b q hb
    rcases live_push hb with ⟨hlt, hl⟩ | ⟨rfl, rfl⟩
    · exact ⟨q, by rw [live_append hlt]; exact hl, .inl rfl⟩
    · exact ⟨r, live_last h r, .inr ⟨rfl, rfl⟩⟩
  refine ⟨c, v0, m', _, rfl, ⟨rfl, rfl⟩, by simpa using hv _ _ _ hd, ⟨?_, ?_, hW'.ro, ?_⟩, ⟨hS'.os, hS'.tape, hS'.output, hS'.size, hS'.block, by simpa using hS'.len, hS'.mu, hS'.ro, ?_⟩⟩
  · intro b q hb
    obtain ⟨q', hb', rfl | ⟨rfl, rfl⟩⟩ := up b q hb
    · simpa using hW'.row b q' hb'
    · simpa using (hW'.row b q' hb').retell ht he hl hg
  · intro b b' q q' hb hb'
    obtain ⟨_, k1, _⟩ := up b q hb
    obtain ⟨_, k2, _⟩ := up b' q' hb'
    exact hW'.apart b b' _ _ k1 k2
  · intro i b q hb
    obtain ⟨_, k1, _⟩ := up b q hb
    exact hW'.roApart i b _ k1
  · intro b q hb
    obtain ⟨_, k1, _⟩ := up b q hb
    exact hS'.new b _ k1

/-- A call of the library that reads rows and answers with a plain value. -/
theorem SafeCall.knownRead {P : Program} {R : Nat → RoRow} {fn : FuncId} {args : List AV} {h : Rows} {v : AV}
    (hs : ∀ m w (as : Array Value), WR R m h w → DenL m h.length args as.toList → Calls P fn as w fun e w' => ∃ c, e = .returned c ∧ (∀ m n, Den m n v c) ∧ Below w.heap.size w w') :
    SafeCall P R fn args h fun v' h' => v' = v ∧ h' = h := by
  intro m w m0 h0 w0 as has hW hS
  refine (hs m w as hW has).mono ?_
  rintro e w' ⟨c, rfl, hd, hb⟩
  have ho : Others w w' := ⟨hb.size, fun k c t fz hk => by rw [hb.block k (Array.getElem?_eq_some_iff.1 hk).1]; exact hk⟩
  have ht : Turned w0.heap.size w w' := ⟨hb.os, hb.tape, hb.output, ho, fun k hk => hb.block k (Nat.lt_of_lt_of_le hk hS.size)⟩
  exact ⟨c, v, m, h, rfl, ⟨rfl, rfl⟩, hd _ _, hW.others ho, hS.turned ht⟩

/-- A row of texts, as the world bears it. -/
def strsRow (ty : TypeId) (l : List (List UInt8)) : Row := .gen ty 1 l.length fun j => .str (l.getD j [])

theorem strs_cells {R : Nat → RoRow} {m : Map} {h : Rows} {w : World} (hW : WR R m h w) {q : Nat} {ty : TypeId} {l : List (List UInt8)} {at_ : Nat → AV} (hq : h.live q = some (.gen ty 1 l.length at_)) (hat : ∀ j, j < l.length → at_ j = .str (l.getD j [])) {u : Value} {c : Cp} (hd : Den m h.length (.sl false q 0 l.length c) u) :
    (l = [] ∧ ∃ a cap, u = .slice a 0 cap) ∨ ∃ bk o cap, u = .slice (some ⟨bk, o, none⟩) l.length cap ∧ l.length ≤ cap ∧ bk < w.heap.size ∧ ∀ j s, l[j]? = some s → w.cell? ⟨bk, o + j, none⟩ = some (.string ⟨⟨s⟩⟩) := by
  simp only [Den, Map.loc, Bool.false_eq_true, if_false] at hd
  obtain ⟨_, hsl⟩ := hd
  cases l with
  | nil =>
    refine .inl ⟨rfl, ?_⟩
    unfold SlDen at hsl
    split at hsl
    · obtain ⟨_, ao, rfl, _⟩ := hsl; exact ⟨ao, 0, rfl⟩
    · obtain ⟨a, cap, rfl, _⟩ := hsl; exact ⟨_, cap, rfl⟩
  | cons s0 l =>
    refine .inr ?_
    unfold SlDen at hsl
    split at hsl
    · obtain ⟨h0, _⟩ := hsl; simp at h0
    · rename_i hv
      have hv : (m.mu q).vir = false := by simpa using hv
      obtain ⟨a, cap, rfl, h1, _, _, h4⟩ := hsl
      obtain ⟨rfl, _⟩ := h4 (by simp at h1; omega)
      obtain ⟨e1, e2, h3⟩ := hW.row q _ hq
      rw [hv] at h3
      simp only [Bool.false_eq_true, if_false] at h3
      obtain ⟨cs, fz, hc, _, _, hel⟩ := h3
      have hesz : (m.mu q).esz = 1 := e1
      refine ⟨_, _, cap, rfl, h1, (Array.getElem?_eq_some_iff.1 hc).1, fun j s hj => ?_⟩
      have hjl : j < (s0 :: l).length := (List.getElem?_eq_some_iff.1 hj).1
      have hg : (Row.gen ty 1 (s0 :: l).length at_).get? j = some (.str s) := by
        rw [Row.get_gen hjl, hat j hjl]
        simp only [List.getD, hj, Option.getD_some]
      obtain ⟨_, hcell⟩ := hel j _ hg
      obtain ⟨_, v, hv2, hden⟩ := hcell 0 (.str s) (by simp [AV.cells])
      simp only [Den] at hden
      subst hden
      rw [hesz] at hv2
      simp only [World.cell?, hc, hesz]
      simpa using hv2

theorem View.nil : View (fun _ => Option.none) [] [] := ⟨fun c b hc => absurd hc (Nat.not_lt_zero _), fun c c' b hc => absurd hc (Nat.not_lt_zero _), fun c r hc => by simp [Rows.live] at hc⟩
theorem Fit.nil {T T' : List AV} (h : VwL (fun _ => Option.none) 0 T T') : Fit 0 ⟨T, []⟩ ⟨T', []⟩ := ⟨fun _ => Option.none, ⟨View.nil, h⟩, fun c hc => absurd hc (Nat.not_lt_zero _), Nat.le_refl _⟩
theorem subs_loop (b : Code) : subs b = subs (.loop b) := rfl

def strOf : AV → List UInt8
  | .str s => s
  | _ => []
/-- The texts of a row. -/
def strsOf (n : Nat) (at_ : Nat → AV) : List (List UInt8) := (List.range n).map fun j => strOf (at_ j)
theorem strsOf_length (n : Nat) (at_ : Nat → AV) : (strsOf n at_).length = n := by simp [strsOf]
theorem strsOf_getD {n : Nat} {at_ : Nat → AV} {j : Nat} (hj : j < n) : (strsOf n at_).getD j [] = strOf (at_ j) := by
  simp [strsOf, List.getD, hj]
theorem strsOf_row (l : List (List UInt8)) : strsOf l.length (fun j => .str (l.getD j [])) = l := by
  apply List.ext_getElem
  · simp [strsOf]
  · intro i h1 h2
    simp [strsOf, strOf, List.getD, h2]

/-- A call that is known for one row alone, with what it leaves told by a condition. -/
theorem SafeCall.focus1Q {P : Program} {R : Nat → RoRow} {fn : FuncId} {argsL args : List AV} {r r0 : Row} {h : Rows} {b : Nat} {Q : AV → Option Row → Rows → Prop}
    (hb : h[b]? = some (some r0)) (hr : RowV (oneV b) 1 r r0) (hA : VwL (oneV b) 1 argsL args) (hs : SafeCall P R fn argsL [some r] fun v h' => ∃ o tl, Q v o tl ∧ h' = o :: tl) :
    SafeCall P R fn args h fun v'' h'' => ∃ V o tl, Q V o tl ∧ v'' = ren (g1 b h.length) V ∧ h'' = h.set b (o.map (renRow (g1 b h.length))) ++ Option.none :: tl.map (Option.map (renRow (g1 b h.length))) := by
  have hlt : b < h.length := (List.getElem?_eq_some_iff.1 hb).1
  have hV : View (oneV b) [some r] h := View.of (fun c o ho => by
    cases c with
    | zero => cases ho; exact ViewL.at_ (b := b) rfl hb hr
    | succ c => simp at ho) (fun c c' d hc hc' _ _ => by simp at hc hc'; omega)
  refine (hs.focus hV hA).mono ?_
  rintro v'' h'' ⟨v', h', ⟨o, tl, hq, rfl⟩, rfl, rfl⟩
  refine ⟨v', o, tl, hq, ?_, merged_one hlt o tl⟩
  show ren (ext (oneV b) 1 h.length) _ = _
  rw [ext_one]
/-- A list of scratch slots of which few are known. -/
def spr (l : List (Nat × AV)) : Nat → Nat → List AV
  | _, 0 => []
  | k, n + 1 => (match l.lookup k with | some a => a | none => .any) :: spr l (k + 1) n
theorem VwL.spr {f : Nat → Option Nat} {N : Nat} {l : List (Nat × AV)} : ∀ {n k : Nat} {T : List AV}, T.length = n → (∀ i a, l.lookup (k + i) = some a → i < n → Vw f N a (nthV T i)) → VwL f N (Dc.spr l k n) T
  | 0, k, T, h, _ => by
    cases T with
    | nil => exact VwL.nil
    | cons x T => simp at h
  | n + 1, k, T, h, hp => by
    cases T with
    | nil => simp at h
    | cons x T =>
      refine VwL.cons ?_ (VwL.spr (by simpa using h) fun i a hl hi => ?_)
      · cases hl : l.lookup k with
        | none => exact Vw.anyI
        | some a =>
          have := hp 0 a (by simpa using hl) (by omega)
          simpa only [nthV_eq, List.getD_cons_zero] using this
      · have := hp (i + 1) a (by rw [show k + (i + 1) = k + 1 + i by omega]; exact hl) (by omega)
        simpa only [nthV_eq, List.getD_cons_succ] using this
/-- The known slots, one by one. -/
def known (f : Nat → Option Nat) (N : Nat) (T : List AV) : List (Nat × AV) → Prop
  | [] => True
  | (i, a) :: l => Vw f N a (nthV T i) ∧ known f N T l
theorem known.at_ {f : Nat → Option Nat} {N : Nat} {T : List AV} : ∀ {l : List (Nat × AV)}, known f N T l → ∀ i a, l.lookup i = some a → Vw f N a (nthV T i)
  | [], _, i, a, h => by simp at h
  | (j, b) :: l, hk, i, a, h => by
    rw [List.lookup_cons] at h
    by_cases e : i = j
    · subst e
      simp at h
      exact h ▸ hk.1
    · rw [show (i == j) = false by simpa using e] at h
      exact hk.2.at_ i a h
theorem VwL.ofKnown {f : Nat → Option Nat} {N n : Nat} {l : List (Nat × AV)} {T : List AV} (h : T.length = n) (hk : known f N T l) : VwL f N (Dc.spr l 0 n) T :=
  VwL.spr h fun i a hl _ => hk.at_ i a (by rw [Nat.zero_add] at hl; exact hl)
end Go.Dc
end
section
set_option linter.unusedSimpArgs false
set_option linter.unusedVariables false
namespace Go.Dc
noncomputable def loopOf (fi : FI) (id : Nat) : Code := match blockOf fi id with | some (.loop b) => b | _ => .skip
theorem hcT {b : Bool} {X Y : Prop} (h : b = true) (hx : X) : cond b X Y := by subst h; exact hx
theorem hcF {b : Bool} {X Y : Prop} (h : b = false) (hy : Y) : cond b X Y := by subst h; exact hy
theorem hcB {b : Bool} {X Y : Prop} (h1 : b = true → X) (h2 : b = false → Y) : cond b X Y := by
  cases b
  · exact h2 rfl
  · exact h1 rfl
theorem hcB2 {b : Bool} {X Y : Prop} (h2 : b = false → Y) (h1 : b = true → X) : cond b X Y := hcB h1 h2
theorem wrapI64 (x : Int) (h0 : -9223372036854775808 ≤ x) (h1 : x ≤ 9223372036854775807) : IntKind.i64.wrap x = x := by
  have e : IntKind.i64.wrap x = if (decide (x % 18446744073709551616 ≥ 9223372036854775808)) = true then x % 18446744073709551616 - 18446744073709551616 else x % 18446744073709551616 := rfl
  rw [e]
  simp only [decide_eq_true_eq]
  split <;> omega
theorem wrapSucc (i : Nat) (h : i ≤ 4611686018427387904) : IntKind.i64.wrap ((i : Int) + 1) = ((i + 1 : Nat) : Int) := by rw [wrapI64 _ (by omega) (by omega)]; omega
/-- One row moved. -/
def mvR (c0 b0 : Nat) : Nat → Option Nat := fun c => bif Nat.beq c c0 then some b0 else some c
theorem mvR_lt {c0 b0 n : Nat} (hn : n ≤ c0) (c : Nat) (hc : c < n) : mvR c0 b0 c = some c := by
  unfold mvR
  rw [show Nat.beq c c0 = false by rw [Bool.eq_false_iff]; exact fun e => by have := Nat.eq_of_beq_eq_true e; omega]
  rfl
theorem mvR_at (c0 b0 c : Nat) : mvR c0 b0 c = some (if c = c0 then b0 else c) := by
  unfold mvR
  by_cases h : c = c0
  · subst h; rw [Nat.beq_refl, if_pos rfl]; rfl
  · rw [show Nat.beq c c0 = false by rw [Bool.eq_false_iff]; exact fun e => h (Nat.eq_of_beq_eq_true e), if_neg h]; rfl
theorem mvR_inj {c0 b0 N : Nat} (hb : N ≤ b0 + 1) (hN : N ≤ c0 + 1) (c c' b : Nat) (hc : c < N) (hc' : c' < N) (h1 : mvR c0 b0 c = some b) (h2 : mvR c0 b0 c' = some b) : c = c' := by
  rw [mvR_at] at h1 h2
  injection h1 with h1
  injection h2 with h2
  split at h1 <;> split at h2 <;> omega
theorem inj_of {N : Nat} {f : Nat → Option Nat} (h : ∀ c c' : Fin N, f c.1 = f c'.1 → f c.1 ≠ none → c = c') (c c' b : Nat) (hc : c < N) (hc' : c' < N) (h1 : f c = some b) (h2 : f c' = some b) : c = c' := by
  have := h ⟨c, hc⟩ ⟨c', hc'⟩ (h1.trans h2.symm) (by show f c ≠ none; rw [h1]; simp)
  exact congrArg Fin.val this
theorem some_inj (N c c' b : Nat) (_ : c < N) (_ : c' < N) (h1 : some c = some b) (h2 : some c' = some b) : c = c' := by cases h1; cases h2; rfl
/-- The first n rows stay, the others weren't there. -/
def upR (n : Nat) : Nat → Option Nat := fun c => bif Nat.blt c n then some c else none
theorem upR_lt {n c : Nat} (h : c < n) : upR n c = some c := by unfold upR; rw [show c.blt n = true by simpa [Nat.blt_eq] using h]; rfl
theorem upR_ge {n c : Nat} (h : n ≤ c) : upR n c = none := by unfold upR; rw [show c.blt n = false by rw [Bool.eq_false_iff]; simp [Nat.blt_eq]; omega]; rfl
theorem upR_inj {n N : Nat} (c c' b : Nat) (_ : c < N) (_ : c' < N) (h1 : upR n c = some b) (h2 : upR n c' = some b) : c = c' := by
  rcases Nat.lt_or_ge c n with h | h
  · rw [upR_lt h] at h1
    rcases Nat.lt_or_ge c' n with h' | h'
    · rw [upR_lt h'] at h2; cases h1; cases h2; rfl
    · rw [upR_ge h'] at h2; cases h2
  · rw [upR_ge h] at h1; cases h1
theorem ViewL.goneR {f : Nat → Option Nat} {N : Nat} {h : Rows} {c b : Nat} (hf : f c = some b) (hb : b < h.length) : ViewL f N h c none where
  row := fun r hr => by cases hr
  lt := fun b' hb' => by rw [hf] at hb'; cases hb'; exact hb
theorem ViewL.noneR {f : Nat → Option Nat} {N : Nat} {h : Rows} {c : Nat} (hf : f c = none) : ViewL f N h c none where
  row := fun r hr => by cases hr
  lt := fun b' hb' => by rw [hf] at hb'; cases hb'
theorem fitVK {n : Nat} {hE h : Rows} {v : AV} {Q : AV → Rows → Prop} (f : Nat → Option Nat) (hV : View f hE h) (hg : gnd v = true) (hf : ∀ c, c < n → f c = some c) (hl : n ≤ hE.length) (hq : Q v hE) : ∃ vE hE, FitV n vE hE v h ∧ Q vE hE :=
  ⟨v, hE, ⟨f, hV, Vw.gndI hg, hf, hl⟩, hq⟩
/-- The very same rows. -/
structure RowsAre (h h0 : Rows) : Prop where
  h : h = h0
theorem capOK {m z : Nat} (h : (m + 1) * z ≤ 140737488355328) : (decide (0 + m ≤ m) && (true && (true && decide ((m + 1) * z ≤ 140737488355328)))) = true := by simp; exact h
/-- An element more, behind a row that is told by a function. -/
theorem app_gen {n : Nat} {F G : Nat → AV} {e : AV} (hF : ∀ j, j < n → F (0 + j) = G j) (he : e = G n) (j : Nat) (hj : j < n + 1) : (bif j.blt n then F (0 + j) else (Src.lst [e]).at_ (j - n)) = G j := by
  by_cases h : j < n
  · rw [show j.blt n = true by simpa [Nat.blt_eq] using h]; exact hF j h
  · have : j = n := by omega
    subst this
    rw [show j.blt j = false by rw [Bool.eq_false_iff]; simp [Nat.blt_eq], Nat.sub_self, he.symm]
    rfl
end Go.Dc
end
section
set_option linter.unusedSimpArgs false
set_option linter.unusedVariables false
namespace Go.Dc
theorem SafeCall.by {P : Program} (hm : P.follows .mixedOrders = true) {E : Env Prop} (hE : EnvOK P E id) {f : FuncId} {fi : FI} (hF : E.F f = some fi) {args : List AV} {h : Rows} {Q : AV → Rows → Prop} (n : Nat) {C : Prop} (he : Dc.vcd E n f fi args h Q = C) (hc : C) : SafeCall P E.R f args h Q :=
  SafeCall.vcd hm hE hF n (he ▸ hc)
theorem Safe.by {P : Program} (hm : P.follows .mixedOrders = true) {E : Env Prop} (hE : EnvOK P E id) {f : FuncId} {fi : FI} (hF : E.F f = some fi) {i : Nat} {b c : Code} (hb : blockOf fi i = some b) (hcs : subs c = subs b) {st : St} {k : Exit → St → Prop} (n : Nat) {C : Prop} (he : Dc.rnd E n f c st k = C) (hc : C) : Safe P E.R c st k :=
  Safe.rnd hm hE hF hb hcs n (he ▸ hc)
theorem SafeCallX.by {P : Program} {E : EnvX} {HP : AV → Rows → Fz → Prop} (hm : P.follows .mixedOrders = true) (hE : OKX P E [] HP) {f : FuncId} {fi : FI} (hF : E.F f = some fi) {args : List AV} {h : Rows} {F : Fz} {Q : AV → Rows → Fz → Prop} (n : Nat) {C : Prop} (he : Dc.vcx E n f fi args h Q F = C) (hc : C) : SafeCallX P E.R f args h F Q HP :=
  SafeCallX.vcx hm hE hF n (he ▸ hc)
theorem SafeX.by {P : Program} {E : EnvX} {HP : AV → Rows → Fz → Prop} (hm : P.follows .mixedOrders = true) (hE : OKX P E [] HP) {f : FuncId} {fi : FI} (hF : E.F f = some fi) {i : Nat} {b c : Code} (hb : blockOf fi i = some b) (hcs : subs c = subs b) {st : St} {F : Fz} {k : Exit → St → Fz → Prop} (n : Nat) {C : Prop} (he : Dc.rnx E n f c st k F = C) (hc : C) : SafeX P E.R [] c st F k HP :=
  SafeX.round hm hE hF hb hcs n (he ▸ hc)
/-- The first rows stay as they are. -/
theorem View.preX {L tl : Rows} (hL : ∀ c r, L.live c = some r → RowV some L.length r r) : View some L (L ++ tl) where
  lt := fun c b hc hb => by simp at hb; simp; omega
  inj := fun c c' b _ _ h1 h2 => by simp at h1 h2; omega
  row := fun c r hc => .inl ⟨c, r, rfl, by rw [live_append (live_lt hc)]; exact hc, hL c r hc⟩
theorem Fit.pre {L tl : Rows} {T T' : List AV} (hL : ∀ c r, L.live c = some r → RowV some L.length r r) (hT : VwL some L.length T T') : Fit L.length ⟨T, L⟩ ⟨T', L ++ tl⟩ :=
  ⟨some, ⟨View.preX hL, hT⟩, fun _ _ => rfl, Nat.le_refl _⟩
theorem live1 {r q : Row} {c : Nat} (h : Rows.live [some r] c = some q) : q = r := by
  match c with
  | 0 => simp [Rows.live] at h; exact h.symm
  | c + 1 => simp [Rows.live] at h
theorem Fit.row1 {r : Row} {T T' : List AV} {tl : Rows} (hr : RowG r) (hT : VwL some 1 T T') : Fit 1 ⟨T, [some r]⟩ ⟨T', some r :: tl⟩ :=
  Fit.pre (L := [some r]) (fun c q h => by rw [live1 h]; exact hr.vw _ _) hT
theorem RowG.lst1 {t z : Nat} {e : AV} (h1 : ones e = true) (h2 : gnd e = true) (h3 : ∀ g, Go.Dc.ren g e = e) : RowG (.lst t z [e]) := ⟨fun f n => .gnd h1 h2, fun g => by simp only [renRow, List.map_cons, List.map_nil, h3]⟩
theorem RowG.lst1' {t z : Nat} {e : AV} (h1 : ones e = true) (h2 : gnd e = true) : RowG (.lst t z [e]) := .lst1 h1 h2 fun g => gnd_ren g e h2
theorem FitV.row1 {r : Row} {v : AV} {tl : Rows} (hr : RowG r) (hv : gnd v = true) : FitV 1 v [some r] v (some r :: tl) :=
  ⟨some, View.preX (L := [some r]) (fun c q h => by rw [live1 h]; exact hr.vw _ _), gnd_vw _ _ _ hv, fun _ _ => rfl, Nat.le_refl _⟩
/-- One row alone: what is known of a call there without panic. -/
theorem SafeCall.at1 {P : Program} {R : Nat → RoRow} {fn : FuncId} {argsL args : List AV} {r : Row} {h : Rows} {b : Nat} {Q : AV → Row → Prop}
    (hb : h.live b = some r) (hr : RowG r) (hA : VwL (oneV b) 1 argsL args)
    (hs : SafeCall P R fn argsL [some r] fun v h' => ∃ r' tl, h' = some r' :: tl ∧ gnd v = true ∧ RowG r' ∧ Q v r') :
    SafeCall P R fn args h fun v h' => ∃ r', h' = h.set b (some r') ∧ Q v r' := by
  have hlt : b < h.length := live_lt hb
  have hb' : h[b]? = some (some r) := by
    unfold Rows.live at hb
    rw [List.getElem?_eq_getElem hlt] at hb ⊢
    simpa using hb
  have hV : View (oneV b) [some r] h := View.of (fun c o ho => by
    cases c with
    | zero => cases ho; exact ViewL.at_ (b := b) rfl hb' (hr.vw _ _)
    | succ c => simp at ho) (fun c c' d hc hc' _ _ => by simp at hc hc'; omega)
  intro m w m0 h0 w0 as hd hW hst
  have hV0 := hW.idView
  refine (SafeCall.focus hV hA hs m w m h w as hd hW (Step.refl _ _ _)).mono ?_
  rintro e w' ⟨c, v, m', h', rfl, ⟨v', h2, ⟨r', tl, rfl, hg, hrg, hq⟩, e2, rfl⟩, hd', hW', hs'⟩
  have em : merged (oneV b) [some r].length [some r].length h (some r' :: tl) = h.set b (some r') ++ (Option.none :: tl.map (Option.map (renRow (g1 b h.length)))) := by
    have := merged_one hlt (some r') tl
    rw [Option.map_some, hrg.ren] at this
    exact this
  rw [em] at hd' hW' hs'
  have hV2 := View.setSame hlt hrg (Option.none :: tl.map (Option.map (renRow (g1 b h.length)))) hV0 ⟨r, hb⟩
  rw [gnd_ren _ _ hg] at e2
  subst e2
  exact ⟨c, v, _, _, rfl, ⟨r', rfl, hq⟩, (gnd_vw some _ v hg).den _ _ _ hd', hW'.view hV2, hst.trans (hs'.forget hV2 (fun c hc => rfl) (by simp))⟩
theorem live_set_self {h : Rows} {b : Nat} {r : Row} (hb : h.live b = some r) : h.set b (some r) = h := by
  have hlt : b < h.length := live_lt hb
  apply List.ext_getElem?
  intro i
  rw [List.getElem?_set]
  by_cases e : b = i
  · subst e
    rw [if_pos rfl, if_pos hlt]
    unfold Rows.live at hb
    rw [List.getElem?_eq_getElem hlt] at hb ⊢
    simp at hb
    rw [hb]
  · rw [if_neg e]
/-- A state seen otherwise, where a row may be told under a new number. -/
structure ViewW (f : Nat → Option Nat) (hL h : Rows) : Prop where
  inj : ∀ c c' b r r', hL.live c = some r → hL.live c' = some r' → f c = some b → f c' = some b → c = c'
  row : ∀ c r, hL.live c = some r → (∃ b r', f c = some b ∧ h.live b = some r' ∧ RowV f hL.length r r') ∨ (f c = none ∧ r.len = 0)
theorem ViewW.real {m : Map} {f : Nat → Option Nat} {hL h : Rows} (hV : ViewW f hL h) {c : Nat} {r : Row} (hc : hL.live c = some r) (hv : ((m.view f hL.es).mu c).vir = false) :
    ∃ b r', f c = some b ∧ h.live b = some r' ∧ RowV f hL.length r r' ∧ (m.view f hL.es).mu c = m.mu b := by
  rcases hV.row c r hc with ⟨b, r', h1, h2, h3⟩ | ⟨h1, h2⟩
  · exact ⟨b, r', h1, h2, h3, view_some h1⟩
  · rw [view_none h1] at hv; simp at hv
theorem WR.viewW {R : Nat → RoRow} {m : Map} {f : Nat → Option Nat} {hL h : Rows} {w : World} (hW : WR R m h w) (hV : ViewW f hL h) : WR R (m.view f hL.es) hL w where
  row := fun c r hc => by
    rcases hV.row c r hc with ⟨b, r', h1, h2, h3⟩ | ⟨h1, h2⟩
    · rw [view_some h1]; exact (hW.row _ _ h2).view h3
    · rw [view_none h1]
      refine ⟨?_, by rw [h2]; exact Nat.zero_le _, ?_⟩
      · show hL.es c = r.esz
        unfold Rows.es
        rw [hc]
      · rw [if_pos rfl]; exact ⟨h2, rfl⟩
  apart := fun b b' r r' hb hb' hv hv' he => by
    obtain ⟨d, r1, h1, h2, _, e1⟩ := hV.real hb hv
    obtain ⟨d', r2, h1', h2', _, e2⟩ := hV.real hb' hv'
    rw [e1] at hv he; rw [e2] at hv' he
    have := hW.apart _ _ _ _ h2 h2' hv hv' he
    subst this
    exact hV.inj b b' _ _ _ hb hb' h1 h1'
  ro := fun i => (hW.ro i).same fun _ _ _ _ _ hd => Den.ground (m := m) (m' := m.view f hL.es) rfl hd
  roApart := fun i b r hb hv hr hn => by
    obtain ⟨d, r1, h1, h2, _, e1⟩ := hV.real hb hv
    rw [e1] at hv ⊢
    exact hW.roApart i _ _ h2 hv hr hn
theorem ToX.fitW {R : Nat → RoRow} {ds : List Deferred} {nk : Nat} {st stE : St} {F : Fz} {S : St → Fz → Prop} (f : Nat → Option Nat) (hV : ViewW f stE.rows st.rows) (hT : VwL f stE.rows.length stE.tmps st.tmps) (hf : ∀ c, c < nk → f c = some c) (hl : nk ≤ stE.rows.length)
    (h : ToX R ds nk stE F S) : ToX R ds nk st F S := by
  intro m a w m0 h0 w0 F0 hn hr hF hs hl0
  refine h (m.view f stE.rows.es) a w m0 h0 w0 F0 hn ⟨hr.size.trans hT.length.symm, ?_, hr.defers, hr.wr.viewW hV⟩ ⟨hF.blk, ?_, hF.ro⟩ ⟨hs.os, hs.tape, hs.output, hs.size, hs.block, Nat.le_trans hn hl, ?_, hs.ro, ?_⟩ hl0
  · intro i x hx
    obtain ⟨y, hy, hxy⟩ := hT.get hx
    obtain ⟨c, hc, hd⟩ := hr.tmps i y hy
    exact ⟨c, hc, hxy.den _ _ _ hd⟩
  · intro c r hc hv
    obtain ⟨b, r', h1, h2, h3, h4⟩ := hV.real hc hv
    rw [h4] at hv ⊢
    exact hF.apart b r' h2 hv
  · intro b hb
    rw [view_some (hf b (Nat.lt_of_lt_of_le hb hn)), hs.mu b hb]
  · intro b r hb hv
    obtain ⟨d, r1, h1, h2, _, e1⟩ := hV.real hb hv
    rw [e1] at hv ⊢
    exact hs.new _ _ h2 hv
/-- The last row under a new number. -/
def dupR (b n : Nat) : Nat → Option Nat := fun c => bif Nat.beq c n then some b else some c
end Go.Dc
end
section
set_option linter.unusedSimpArgs false
set_option linter.unusedVariables false
namespace Go.Dc
section
variable {P : Program} {R : Nat → RoRow} {ds : List Deferred} {st : St} {F : Fz} {Q : Exit → St → Fz → Prop} {HP : AV → Rows → Fz → Prop}
theorem SafeX.seq {x y : Code} (h : SafeX P R ds x st F (fun e st' F' => match e with | .normal => SafeX P R ds y st' F' Q HP | e => Q e st' F') HP) : SafeX P R ds (.seq x y) st F Q HP := by
  intro m a w m0 h0 w0 F0 hr hf hs hl
  refine wp_seq (wp_mono (h m a w m0 h0 w0 F0 hr hf hs hl) ?_)
  intro e a' w' hp
  cases e with
  | panic ch => exact hp
  | goto l => obtain ⟨_, _, _, h, _⟩ := hp; exact h.elim
  | outgrown => obtain ⟨_, _, _, h, _⟩ := hp; exact h.elim
  | normal => obtain ⟨m', st', F', _, hq, hr', hf', hs', hl'⟩ := hp; exact hq m' a' w' m0 h0 w0 F0 hr' hf' hs' hl'
  | _ => exact hp
theorem SafeX.condB {x : Operand} {y z : Code} {b : Bool} (hx : st.ev x = .bool b) (h : SafeX P R ds (cond b y z) st F Q HP) : SafeX P R ds (.cond x y z) st F Q HP := by
  intro m a w m0 h0 w0 F0 hr hf hs hl
  have hev := hr.ev x
  rw [hx] at hev
  simp only [Den] at hev
  cases b with
  | true => exact wp_cond_true hev (h m a w m0 h0 w0 F0 hr hf hs hl)
  | false => exact wp_cond_false hev (h m a w m0 h0 w0 F0 hr hf hs hl)
theorem SafeX.skip (h : Q .normal st F) : SafeX P R ds .skip st F Q HP := fun m a w m0 h0 w0 F0 hr hf hs hl => wp_skip ⟨m, st, F, trivial, h, hr, hf, hs, hl⟩
/-- An operation shown by hand. -/
def HandOp (P : Program) (R : Nat → RoRow) (o : Oper) (st : St) (v : AV) : Prop := ∀ ds m a w, RelX R ds m st a w → ∃ c, (execOp a.eval o).run P w = .ok (.value c) w ∧ Den m st.rows.length v c
theorem SafeX.handOp {E : EnvX} (hT : TabOK P E.T) {id : Nat} {ops : Array Oper} {pre suf : List Oper} {o : Oper} (ho : ops.toList = pre ++ o :: suf) (hg : o.guard = none)
    {st : St} {F : Fz} {k : St → Fz → Prop} (hk : runOpsB ansX E (fun _ _ _ _ _ => False) ops.toList pre st (fun st1 F1 => ∃ v, HandOp P E.R o st1 v ∧ runOpsB ansX E (fun _ _ _ _ _ => False) ops.toList suf (st1.put o.dst v) k F1) F) :
    SafeX P E.R ds (.region id ops false) st F (fun e st' F' => e = .normal ∧ k st' F') HP := by
  intro m a w m0 h0 w0 F0 hr hf hs hl
  refine wp_region_list ?_
  rw [ho]
  refine wpList_append pre a w ?_
  refine runOps_okX (HP := HP) ansX_holds hT (call := fun _ _ _ _ _ => False) (fun f args h k F hh => hh.elim) ops pre st _ F hk hr hf hs hl _ ?_ ?_
  · intro a' c v m' h' w' F' hd h1 h2 h3 h4 h5 h6
    exact ⟨m', h', v, c, F', rfl, h1, h2, h3, h4, h5, h6, hd⟩
  · rintro F' m' st' a' w' ⟨v, hv, hsuf⟩ hr' hf' hs' hl'
    unfold wpList
    have hw : Region.wanted o (yielded ops a'.tmps) = true := by simp [Region.wanted, hg]
    rw [if_pos hw]
    refine .inl ?_
    unfold Oper.wp
    obtain ⟨c, hrun, hd⟩ := hv ds m' a' w' hr'
    rw [hrun]
    have hr2 := hr'.put (Step.refl _ _ _) hr'.wr o.dst hd
    refine runOps_okX (HP := HP) ansX_holds hT (call := fun _ _ _ _ _ => False) (fun f args h k F hh => hh.elim) ops suf _ _ F' hsuf hr2 hf' hs' hl' _ (postX_to _ _ _ _ _ _ _ _) ?_
    intro F2 m2 st2 a2 w2 hk2 hr3 hf3 hs3 hl3
    exact ⟨m2, st2, F2, trivial, ⟨rfl, hk2⟩, hr3, hf3, hs3, hl3⟩
end
/-! the operations -/
theorem HandOp.neqNil {P : Program} {R : Nat → RoRow} {dst : Option Tmp} {t : TypeId} {x : Operand} {ot : TypeId} {ty : TypeId} {pos : String} {after : Array Edge} {guard : Option (Nat × Bool)} {st : St}
    (ht : P.underlying t = some (.interface (P.methodsAt t))) {b : Bool} (hx : (b = true ∧ ∃ t y, st.ev x = .ifc t y) ∨ (b = false ∧ st.ev x = .nili)) : HandOp P R ⟨dst, .binOp .neq t x (.const .nilIface) ot, ty, pos, after, guard⟩ st (.bool b) := by
  intro ds m a w hr
  have hev := hr.ev x
  have hc : a.eval (.const .nilIface) = .nilIface := rfl
  refine ⟨.bool b, ?_, by simp [Den]⟩
  rcases hx with ⟨rfl, t', y, hx⟩ | ⟨rfl, hx⟩
  · rw [hx] at hev
    simp only [Den] at hev
    obtain ⟨u, hu, _⟩ := hev
    have h1 := run_equal_held_nil (P := P) w t t' u ht
    simp [execOp, hu, hc, eqGuard, binOp, Sem.run_bind, h1]
  · rw [hx] at hev
    simp only [Den] at hev
    have h1 := run_equal_nil_nil (P := P) w t ht
    simp [execOp, hev, hc, eqGuard, binOp, Sem.run_bind, h1]
theorem HandOp.assertIs {P : Program} {R : Nat → RoRow} {dst : Option Tmp} {t want : TypeId} {x : Operand} {ty : TypeId} {pos : String} {after : Array Edge} {guard : Option (Nat × Bool)} {st : St} {y : AV}
    {fs : Array Field} (hu : P.underlying want = some (.struct fs)) (hx : st.ev x = .ifc want y) : HandOp P R ⟨dst, .typeAssert x t want true, ty, pos, after, guard⟩ st (.tup [y, .bool true]) := by
  intro ds m a w hr
  have hev := hr.ev x
  rw [hx] at hev
  simp only [Den] at hev
  obtain ⟨u, he, hd⟩ := hev
  refine ⟨.tuple #[u, .bool true], ?_, by simp only [Den, DenL]; exact ⟨_, rfl, u, [.bool true], rfl, hd, .bool true, [], rfl, rfl, rfl⟩⟩
  have h1 : (underlying want).run P w = .ok (.struct fs) w := by simp [underlying, program, Sem.run, hu, pure]
  simp [execOp, he, Instr.typeAssert, Sem.run_bind, h1]
/-! ### Entering, answering, deferring -/
theorem enter_rel {R : Nat → RoRow} {m : Map} {args : List AV} {h : Rows} {w : World} {as : Array Value} (n : Nat) (has : DenL m h.length args as.toList) (hW : WR R m h w) :
    RelX R [] m ⟨enterT args n, h⟩ { tmps := as ++ Array.replicate (n - as.size) undef, defers := [] } w := by
  have hlen := has.length
  simp only [Array.length_toList] at hlen
  refine ⟨by simp [enterT, hlen], ?_, rfl, hW⟩
  intro i x hx
  simp only [enterT] at hx
  by_cases hi : i < args.length
  · rw [List.getElem?_append_left hi] at hx
    obtain ⟨c, hc, hd⟩ := has.get hx
    have hi2 : i < as.size := by omega
    refine ⟨c, ?_, hd⟩
    rw [Array.getElem?_append_left hi2]
    simpa using hc
  · rw [List.getElem?_append_right (by omega)] at hx
    have hx2 := List.getElem?_eq_some_iff.1 hx
    obtain ⟨hlt, hxe⟩ := hx2
    simp at hlt hxe
    subst hxe
    refine ⟨undef, ?_, by simp [Den, DenL, undef]⟩
    rw [Array.getElem?_append_right (by omega)]
    rw [Array.getElem?_replicate]
    rw [if_pos (by omega)]
theorem results_run {P : Program} {T : TypeId → Option TI} (hT : TabOK P T) {R : Nat → RoRow} {ds : List Deferred} {f : FuncId} {fi : FI} (hF : FnOK P f fi) {m : Map} {st : St} {a : Act} {w : World} (hr : RelX R ds m st a w) {vs : List AV} (hvs : ResOK T R st fi.results vs) :
    ∀ fn, P.funcs[f]? = some fn → ∃ c, (results fn a.tmps).run P w = .ok c w ∧ Den m st.rows.length (tupOf vs) c := by
  intro fn hfn0
  obtain ⟨fn', hfn, hbody, hnt, hres, hname⟩ := hF.fn
  rw [hfn] at hfn0; cases hfn0
  have hr' := hr.bare
  have hres' : ∃ F : ResultVar → Sem Value, (∀ t, F (.tmp t) = pure (a.tmps.getD t undef)) ∧ (∀ x t, F (.cell x t) = do loadVar t (← asAddr (a.tmps.getD x undef))) ∧
      results fn a.tmps = (do let vs ← fn.results.mapM F; pure (if h : vs.size = 1 then vs[0] else .tuple vs)) := ⟨_, fun _ => rfl, fun _ _ => rfl, rfl⟩
  obtain ⟨F, hF1, hF2, hres'⟩ := hres'
  rw [hres', hres]
  simp only [Sem.run_bind]
  rw [List.mapM_toArray]
  simp only [Sem.run_map]
  obtain ⟨cs, hcs, hd⟩ := res_run hT hr' F hF1 hF2 hvs
  rw [hcs]
  simp only [Result.andThen_ok, Sem.run_pure]
  refine ⟨_, rfl, ?_⟩
  cases vs with
  | nil =>
    simp only [DenL] at hd
    subst hd
    simp [tupOf, Den, DenL]
  | cons v vs =>
    simp only [DenL] at hd
    obtain ⟨u, us, rfl, h1, h2⟩ := hd
    cases vs with
    | nil =>
      simp only [DenL] at h2
      subst h2
      simpa [tupOf] using h1
    | cons v2 vs =>
      simp only [DenL] at h2
      obtain ⟨u2, us, rfl, h2, h3⟩ := h2
      simp only [tupOf, Den]
      refine ⟨(u :: u2 :: us).toArray, by simp, ?_⟩
      simp only [DenL]
      exact ⟨u, _, rfl, h1, u2, us, rfl, h2, h3⟩

theorem RelX.carry {R : Nat → RoRow} {ds : List Deferred} {m m' : Map} {st : St} {a : Act} {w w' : World} {h' : Rows} (hr : RelX R ds m st a w) (hs : Step m st.rows w m' h' w') (hW : WR R m' h' w') : RelX R ds m' ⟨st.tmps, h'⟩ a w' where
  size := hr.size
  tmps := fun i x hx => by
    obtain ⟨c, hc, hd⟩ := hr.tmps i x hx
    exact ⟨c, hc, Den.mono hs.len hs.mu hs.ro _ _ hd⟩
  defers := hr.defers
  wr := hW
abbrev nocall : FuncId → List AV → Rows → (AV → Rows → Fz → Prop) → Fz → Prop := fun _ _ _ _ _ => False
theorem denL_app {m : Map} {n : Nat} : ∀ {l1 l2 : List AV} {v1 v2 : List Value}, DenL m n l1 v1 → DenL m n l2 v2 → DenL m n (l1 ++ l2) (v1 ++ v2)
  | [], l2, v1, v2, h1, h2 => by simp only [DenL] at h1; subst h1; simpa using h2
  | x :: l1, l2, v1, v2, h1, h2 => by
    simp only [DenL] at h1
    obtain ⟨u, us, rfl, hd, hl⟩ := h1
    simp only [List.cons_append, DenL]
    exact ⟨u, _, rfl, hd, denL_app hl h2⟩
section
variable {P : Program} {E : EnvX} {ds : List Deferred}
/-- A region that calls once; what is known at the call is known where it panics. -/
theorem wp_callRegion (hT : TabOK P E.T) {id : Nat} {ops : Array Oper} {pre suf : List Oper} {o : Oper} (ho : ops.toList = pre ++ o :: suf) (hog : o.guard = none) {fop : Operand} {cargs : Array Operand} {atys : Array TypeId} (hop : o.op = .call ⟨.value fop, cargs, atys⟩)
    {st st1 : St} {F : Fz} (hpre : ∀ k : St → Fz → Prop, k st1 F → runOpsB ansX E nocall ops.toList pre st k F) {g : FuncId} {first cap : List AV} (hfn : st1.ev fop = .fn g first cap) {fi : FI} (hF : FnOK P g fi)
    {Qc HPc : AV → Rows → Fz → Prop} (hc : SafeCallX P E.R g (first ++ (cargs.toList.map st1.ev ++ cap)) st1.rows F Qc HPc) {Qf : Exit → Act → World → Prop}
    {m : Map} {a : Act} {w : World} {m0 : Map} {h0 : Rows} {w0 : World} {F0 : Fz} (hr : RelX E.R ds m st a w) (hf : FzOK F m st.rows w) (hs : Step m0 h0 w0 m st.rows w) (hl : F0.To m0 h0 w0 F)
    (hret : ∀ v h' F' m' a' w', Qc v h' F' → RelX E.R ds m' ⟨putT st1.tmps o.dst v, h'⟩ a' w' → FzOK F' m' h' w' → Step m0 h0 w0 m' h' w' → F0.To m0 h0 w0 F' → wpList P ops Qf suf a' w')
    (hpan : ∀ a' v h' F' m' c w', HPc v h' F' → RelX E.R ds m' ⟨st1.tmps, h'⟩ a' w' → Den m' h'.length v c → FzOK F' m' h' w' → Step m0 h0 w0 m' h' w' → F0.To m0 h0 w0 F' → Qf (.panic [{ v := c, recovered := false }]) a' w') :
    (Code.region id ops false).wp P Qf a w := by
  refine wp_region_list ?_
  rw [ho]
  refine wpList_append pre a w ?_
  refine runOps_okX (HP := fun _ _ _ => False) ansX_holds hT (call := nocall) (fun f args h k F hh => hh.elim) ops pre st (fun st' F' => st' = st1 ∧ F' = F) F (hpre _ ⟨rfl, rfl⟩) hr hf hs hl _ ?_ ?_
  · intro a' c v m' h' w' F' _ h1; exact h1.elim
  · rintro F' m1 st' a1 w1 ⟨rfl, rfl⟩ hr1 hf1 hs1 hl1
    unfold wpList
    have hw : Region.wanted o (yielded ops a1.tmps) = true := by simp [Region.wanted, hog]
    rw [if_pos hw]
    refine .inl ?_
    unfold Oper.wp
    have hev := hr1.ev fop
    rw [hfn] at hev
    simp only [Den] at hev
    obtain ⟨us, vs, hfe, hus, hvs⟩ := hev
    obtain ⟨fn, hfn1, hbody, _, _, hname⟩ := hF.fn
    have hrun : (execOp a1.eval o).run P w1 = .ok (.enter g (us ++ cargs.map a1.eval ++ vs)) w1 := by
      obtain ⟨dst, op, type, pos, after, guard⟩ := o
      simp only at hop
      subst hop
      simp only [execOp, resolve, Sem.run_bind, Deferred.ofValue, hfe, Sem.run_pure, Result.andThen_ok, invoke, callFunc]
      simp only [program, Sem.run, pure, Result.andThen_ok, hfn1, Sem.bind]
      have hb : fn.body.isNone = false := by rw [hbody]; rfl
      simp [hname, hb, Sem.run]
    rw [hrun]
    have hargs : DenL m1 st'.rows.length (first ++ (cargs.toList.map st'.ev ++ cap)) (us ++ cargs.map a1.eval ++ vs).toList := by
      have hm : DenL m1 st'.rows.length (cargs.toList.map st'.ev) (cargs.map a1.eval).toList := by simpa using DenL.map_op hr1.ev cargs.toList
      have := denL_app hus (denL_app hm hvs)
      simpa [List.append_assoc] using this
    refine (hc m1 w1 m1 st'.rows w1 F' _ hargs hr1.wr hf1 (Step.refl _ _ _) (.refl _ _ _ _)).mono ?_
    rintro e w' ⟨m', h', F2, hW, hf', hle, hS, ⟨c, v, rfl, hk, hd⟩ | ⟨c, v, rfl, hk, hd⟩⟩
    · exact hret v h' F2 m' _ w' hk (hr1.put hS hW o.dst hd) hf' (hs1.trans hS) (hl1.trans hs1 hle)
    · exact hpan a1 v h' F2 m' c w' hk (hr1.carry hS hW) hd hf' (hs1.trans hS) (hl1.trans hs1 hle)
/-- A region that defers a call without arguments. -/
theorem wp_deferRegion (hT : TabOK P E.T) {id : Nat} {ops : Array Oper} {pre : List Oper} {o : Oper} (ho : ops.toList = pre ++ [o]) (hog : o.guard = none) {fop : Operand} {atys : Array TypeId} (hop : o.op = .defer ⟨.value fop, #[], atys⟩) (hod : o.dst = none)
    {st st1 : St} {F : Fz} (hpre : ∀ k : St → Fz → Prop, k st1 F → runOpsB ansX E nocall ops.toList pre st k F) {g : FuncId} {cap : List AV} (hfn : st1.ev fop = .fn g [] cap)
    {Qf : Exit → Act → World → Prop} {m : Map} {a : Act} {w : World} {m0 : Map} {h0 : Rows} {w0 : World} {F0 : Fz} (hr : RelX E.R [] m st a w) (hf : FzOK F m st.rows w) (hs : Step m0 h0 w0 m st.rows w) (hl : F0.To m0 h0 w0 F)
    (hret : ∀ vs m' a' w', DenL m' st1.rows.length cap vs.toList → RelX E.R [{ target := .fn (.func g) vs, args := #[] }] m' st1 a' w' → FzOK F m' st1.rows w' → Step m0 h0 w0 m' st1.rows w' → F0.To m0 h0 w0 F → Qf .normal a' w') :
    (Code.region id ops false).wp P Qf a w := by
  refine wp_region_list ?_
  rw [ho]
  refine wpList_append pre a w ?_
  refine runOps_okX (HP := fun _ _ _ => False) ansX_holds hT (call := nocall) (fun f args h k F hh => hh.elim) ops pre st (fun st' F' => st' = st1 ∧ F' = F) F (hpre _ ⟨rfl, rfl⟩) hr hf hs hl _ ?_ ?_
  · intro a' c v m' h' w' F' _ h1; exact h1.elim
  · rintro F' m1 st' a1 w1 ⟨rfl, rfl⟩ hr1 hf1 hs1 hl1
    unfold wpList
    have hw : Region.wanted o (yielded ops a1.tmps) = true := by simp [Region.wanted, hog]
    rw [if_pos hw]
    refine .inl ?_
    unfold Oper.wp
    have hev := hr1.ev fop
    rw [hfn] at hev
    simp only [Den] at hev
    obtain ⟨us, vs, hfe, hus, hvs⟩ := hev
    simp only [DenL] at hus
    have hus : us = #[] := by cases us; simpa using hus
    subst hus
    have hrun : (execOp a1.eval o).run P w1 = .ok (.defer { target := .fn (.func g) vs, args := #[] }) w1 := by
      obtain ⟨dst, op, type, pos, after, guard⟩ := o
      simp only at hop
      subst hop
      simp [execOp, resolve, Sem.run_bind, Deferred.ofValue, hfe]
    rw [hrun]
    have e : ({ a1 with defers := { target := .fn (.func g) vs, args := #[] } :: a1.defers } : Act).put o.dst undef = { tmps := a1.tmps, defers := [{ target := .fn (.func g) vs, args := #[] }] } := by
      rw [hod, hr1.defers]; rfl
    show wpList P ops Qf [] (({ a1 with defers := { target := .fn (.func g) vs, args := #[] } :: a1.defers } : Act).put o.dst undef) w1
    rw [e]
    exact wpList_nil (hret vs m1 _ w1 hvs ⟨hr1.size, hr1.tmps, rfl, hr1.wr⟩ hf1 hs1 hl1)
end
theorem wpOpsS_recover {P : Program} {ops : Array Oper} {Q : Exit → Act → List Frame → World → Prop} {i : Nat} {rest : List Nat} {a : Act} {cs : List Frame} {w : World} {o : Oper} (ho : ops[i]? = some o) (hw : Region.wanted o (yielded ops a.tmps) = true) (hr : (execOp a.eval o).run P w = .ok .recover w)
    (h : match recoverD cs with | some (v, cs') => wpOpsS P ops Q rest (a.put o.dst v) cs' w | none => wpOpsS P ops Q rest (a.put o.dst .nilIface) cs w) : wpOpsS P ops Q (i :: rest) a cs w := by
  unfold wpOpsS
  rw [ho]
  simp only [hw, if_true, hr]
  exact h
theorem wpOpsS_value {P : Program} {ops : Array Oper} {Q : Exit → Act → List Frame → World → Prop} {i : Nat} {rest : List Nat} {a : Act} {cs : List Frame} {w : World} {o : Oper} {v : Value} (ho : ops[i]? = some o) (hw : Region.wanted o (yielded ops a.tmps) = true) (hr : (execOp a.eval o).run P w = .ok (.value v) w)
    (h : wpOpsS P ops Q rest (a.put o.dst v) cs w) : wpOpsS P ops Q (i :: rest) a cs w := by
  unfold wpOpsS
  rw [ho]
  simp only [hw, if_true, hr]
  exact h
end Go.Dc
end
section
set_option linter.unusedSimpArgs false
set_option linter.unusedVariables false
namespace Go.Dc
open Go.RowKit
/-- Without the number k. -/
noncomputable def lessR (m : Map) (k z : Nat) : Map := ⟨m.mu, fun i => bif Nat.beq i k then ⟨0, 0, z, 0, true⟩ else m.ro i⟩
theorem lessR_nm {m : Map} (hm : Named m) (k z : Nat) : NmOK k 0 (lessR m k z) m := by
  refine ⟨rfl, fun i => ?_⟩
  simp only [lessR, nmI]
  cases hb : Nat.beq i k with
  | false => exact .inl rfl
  | true =>
    simp only [cond_true]
    have := hm 0
    simp only [Nat.zero_add] at this ⊢
    rw [this]
    exact .inr (by simp [tkLoc])
theorem lessR_named {m : Map} (hm : Named m) {k : Nat} (hk : k < 15) (z : Nat) : Named (lessR m k z) := by
  intro i
  simp only [lessR]
  have : Nat.beq (i + 15) k = false := by rw [Bool.eq_false_iff]; intro e; have := Nat.eq_of_beq_eq_true e; omega
  rw [this]
  exact hm i
section
variable {P : Program} {R : Nat → RoRow} {k : Nat} {ro : RoRow} {F : Fz}
theorem WR.less {m : Map} {w : World} (hm : Named m) (h0 : (R k).n = 0) (hR : Quits R k) {h : Rows} (hW : WR (updR R k ro) m h w) (hh : nmRows k 0 h = h) : WR R (lessR m k (R k).esz) h w := by
  have hN := lessR_nm hm k (R k).esz
  have hl : WRl (lessR m k (R k).esz) h w := (WRl.nm hN).2 (by rw [hh]; exact ⟨hW.row, hW.apart⟩)
  refine ⟨hl.row, hl.apart, ?_, ?_⟩
  · intro i
    cases hb : Nat.beq i k with
    | false =>
      have h1 := hW.ro i
      have e1 : updR R k ro i = R i := by simp only [updR, hb, cond_false]
      have e2 : (lessR m k (R k).esz).ro i = m.ro i := by simp only [lessR, hb, cond_false]
      rw [e1] at h1
      rw [e2]
      refine h1.same fun j hj a ha v hd => ?_
      rw [nm_den hN, hR i j hj a ha 0]
      exact hd
    | true =>
      have := Nat.eq_of_beq_eq_true hb
      subst this
      have e2 : (lessR m i (R i).esz).ro i = ⟨0, 0, (R i).esz, 0, true⟩ := by simp only [lessR, Nat.beq_refl, cond_true]
      rw [e2]
      exact ⟨rfl, by rw [h0]; exact Nat.zero_le _, by simp only [if_true]; exact h0⟩
  · intro i b r hb hv hv2 hn
    cases hbk : Nat.beq i k with
    | false =>
      have h1 := hW.roApart i b r hb hv
      have e1 : updR R k ro i = R i := by simp only [updR, hbk, cond_false]
      have e2 : (lessR m k (R k).esz).ro i = m.ro i := by simp only [lessR, hbk, cond_false]
      rw [e1] at h1
      rw [e2] at hv2 ⊢
      exact h1 hv2 hn
    | true =>
      have := Nat.eq_of_beq_eq_true hbk
      subst this
      rw [h0] at hn
      exact absurd hn (Nat.lt_irrefl _)
theorem RoOK.step {m m3 : Map} {w w' : World} {h h' : Rows} {l : Loc} {r : RoRow} (h1 : RoOK m l r w) (ha : ∀ b q, h.live b = some q → (m.mu b).vir = false → l.vir = false → 0 < r.n → l.blk ≠ (m.mu b).blk)
    {m1 m2 : Map} (hmu : m1.mu = m.mu) (hs : Step m1 h w m2 h' w') (hro : m3.ro = m.ro) : RoOK m3 l r w' := by
  obtain ⟨h2, h3, h4⟩ := h1
  refine ⟨h2, h3, ?_⟩
  split
  · rename_i hv; rw [if_pos hv] at h4; exact h4
  · rename_i hv
    rw [if_neg hv] at h4
    intro hn
    obtain ⟨c, fz, hc, hel⟩ := h4 hn
    refine ⟨c, fz, ?_, fun j hj => ?_⟩
    · rw [hs.block l.blk (Array.getElem?_eq_some_iff.1 hc).1 (fun b q hb hbv => by rw [hmu] at hbv ⊢; exact fun e => ha b q hb hbv (by simpa using hv) hn e.symm)]
      exact hc
    · obtain ⟨hl, hcell⟩ := hel j hj
      refine ⟨hl, fun o a ha => ?_⟩
      obtain ⟨h5, v, h6, h7⟩ := hcell o a ha
      exact ⟨h5, v, h6, Den.ground (m := m) hro h7⟩
theorem SafeCallX.unread {f : FuncId} {args : List AV} {h : Rows} {Q Q1 HP HP1 : AV → Rows → Fz → Prop} (hk : k < 15) (h0 : (R k).n = 0) (hR : Quits R k) (hargs : nmL k 0 args = args) (hh : nmRows k 0 h = h) (hs : SafeCallX P R f args h F Q HP)
    (hq : ∀ v h' F', F.le F' → Q v h' F' → nm k 0 v = v ∧ nmRows k 0 h' = h' ∧ Q1 v h' F') (hp : ∀ v h' F', F.le F' → HP v h' F' → nm k 0 v = v ∧ nmRows k 0 h' = h' ∧ HP1 v h' F') : SafeCallX P (updR R k ro) f args h F Q1 HP1 := by
  intro m w m0 h1 w0 F0 vs hd hW hf hst hl
  have hm : Named m := hf.ro
  have hN := lessR_nm hm k (R k).esz
  have hW1 := WR.less hm h0 hR hW hh
  have hd1 : DenL (lessR m k (R k).esz) h.length args vs.toList := (nmL_den hN _ _ _).2 (by rw [hargs]; exact hd)
  have hf1 : FzOK F (lessR m k (R k).esz) h w := ⟨hf.blk, hf.apart, lessR_named hm hk _⟩
  have hst1 : Step (lessR m k (R k).esz) h w (lessR m k (R k).esz) h w := Step.refl _ _ _
  refine (hs (lessR m k (R k).esz) w (lessR m k (R k).esz) h w F vs hd1 hW1 hf1 hst1 (.refl _ _ _ _)).mono ?_
  have back : ∀ {m' : Map} {h' : Rows} {w' : World} {F' : Fz}, WR R m' h' w' → FzOK F' m' h' w' → Step (lessR m k (R k).esz) h w m' h' w' → F.To (lessR m k (R k).esz) h w F' → nmRows k 0 h' = h' →
      WR (updR R k ro) ⟨m'.mu, m.ro⟩ h' w' ∧ FzOK F' ⟨m'.mu, m.ro⟩ h' w' ∧ Step m h w ⟨m'.mu, m.ro⟩ h' w' ∧ F.To m h w F' ∧ NmOK k 0 m' ⟨m'.mu, m.ro⟩ := by
    intro m' h' w' F' hW' hf' hs' hl' hh'
    have hN' : NmOK k 0 m' ⟨m'.mu, m.ro⟩ := ⟨rfl, fun i => by rw [hs'.ro]; exact hN.ro i⟩
    have hl2 : WRl ⟨m'.mu, m.ro⟩ h' w' := by have := (WRl.nm hN').1 ⟨hW'.row, hW'.apart⟩; rwa [hh'] at this
    have hstep : Step m h w ⟨m'.mu, m.ro⟩ h' w' := ⟨hs'.os, hs'.tape, hs'.output, hs'.size, hs'.block, hs'.len, hs'.mu, rfl, hs'.new⟩
    refine ⟨⟨hl2.row, hl2.apart, ?_, ?_⟩, ⟨hf'.blk, hf'.apart, hm⟩, hstep, ⟨hl'.le, hl'.new⟩, hN'⟩
    · intro i
      exact RoOK.step (m1 := lessR m k (R k).esz) (hW.ro i) (fun b q hb hbv hv hn => hW.roApart i b q hb hbv hv hn) rfl hs' rfl
    · intro i b r hb hv hv2 hn
      rcases hstep.new b r hb hv with h2 | ⟨c, r', hc, hcv, hce⟩
      · have h3 := hW.ro i
        obtain ⟨_, _, h4⟩ := h3
        rw [if_neg (by rw [show (m.ro i).vir = false from hv2]; simp)] at h4
        obtain ⟨cc, fz, hcc, _⟩ := h4 hn
        have := (Array.getElem?_eq_some_iff.1 hcc).1
        show (m.ro i).blk ≠ _
        intro e
        rw [e] at this
        omega
      · show (m.ro i).blk ≠ _
        rw [← hce]
        exact hW.roApart i c r' hc hcv hv2 hn
  rintro e w' ⟨m', h', F', hW', hf', hl', hs', ⟨c, v, rfl, hqq, hd'⟩ | ⟨c, v, rfl, hqq, hd'⟩⟩
  · obtain ⟨e1, e2, e3⟩ := hq _ _ _ hl'.le hqq
    obtain ⟨b1, b2, b3, b4, b5⟩ := back hW' hf' hs' hl' e2
    refine ⟨⟨m'.mu, m.ro⟩, h', F', b1, b2, hl.trans hst b4, hst.trans b3, .inl ⟨c, v, rfl, e3, ?_⟩⟩
    rw [← e1]; exact (nm_den b5 _ _ _).1 hd'
  · obtain ⟨e1, e2, e3⟩ := hp _ _ _ hl'.le hqq
    obtain ⟨b1, b2, b3, b4, b5⟩ := back hW' hf' hs' hl' e2
    refine ⟨⟨m'.mu, m.ro⟩, h', F', b1, b2, hl.trans hst b4, hst.trans b3, .inr ⟨c, v, rfl, e3, ?_⟩⟩
    rw [← e1]; exact (nm_den b5 _ _ _).1 hd'
end
/-- The same, of a row that is told otherwise there. -/
theorem SafeCallX.at1v {P : Program} {R : Nat → RoRow} {fn : FuncId} {argsL args : List AV} {r r0 : Row} {h : Rows} {b : Nat} {F : Fz} {Q HP : AV → Row → Fz → Prop}
    (hb : h.live b = some r0) (hr : RowG r) (hrv : RowV (oneV b) 1 r r0) (hA : VwL (oneV b) 1 argsL args)
    (hs : SafeCallX P R fn argsL [some r] F (fun v h' F' => ∃ r' tl, h' = some r' :: tl ∧ gnd v = true ∧ RowG r' ∧ Q v r' F') (fun v h' F' => ∃ r' tl, h' = some r' :: tl ∧ gnd v = true ∧ RowG r' ∧ HP v r' F')) :
    SafeCallX P R fn args h F (fun v h' F' => ∃ r', h' = h.set b (some r') ∧ Q v r' F') (fun v h' F' => ∃ r', h' = h.set b (some r') ∧ HP v r' F') := by
  have hlt : b < h.length := live_lt hb
  have hb' : h[b]? = some (some r0) := by
    unfold Rows.live at hb
    rw [List.getElem?_eq_getElem hlt] at hb ⊢
    simpa using hb
  have hV : View (oneV b) [some r] h := View.of (fun c o ho => by
    cases c with
    | zero => cases ho; exact ViewL.at_ (b := b) rfl hb' hrv
    | succ c => simp at ho) (fun c c' d hc hc' _ _ => by simp at hc hc'; omega)
  intro m w m0 h0 w0 F0 as hd hW hf hst hl
  have hV0 := hW.idView
  refine (SafeCallX.focus hV hA hs m w m h w F as hd hW hf (Step.refl _ _ _) (.refl _ _ _ _)).mono ?_
  have fin : ∀ {c v v' : AV} {cv : Value} {h' : Rows} {m' : Map} {F' : Fz} {w' : World} {r' : Row} {tl : Rows}, h' = some r' :: tl → gnd v' = true → RowG r' → v = ren (ext (oneV b) [some r].length h.length) v' → Den m' (merged (oneV b) [some r].length [some r].length h h').length v cv →
      WR R m' (merged (oneV b) [some r].length [some r].length h h') w' → FzOK F' m' (merged (oneV b) [some r].length [some r].length h h') w' → Step m h w m' (merged (oneV b) [some r].length [some r].length h h') w' →
      ∃ m2, WR R m2 (h.set b (some r')) w' ∧ FzOK F' m2 (h.set b (some r')) w' ∧ Step m h w m2 (h.set b (some r')) w' ∧ Den m2 (h.set b (some r')).length v' cv := by
    intro c v v' cv h' m' F' w' r' tl e1 hg hrg e2 hd' hW' hf' hS'
    subst e1
    have em : merged (oneV b) [some r].length [some r].length h (some r' :: tl) = h.set b (some r') ++ (Option.none :: tl.map (Option.map (renRow (g1 b h.length)))) := by
      have := merged_one hlt (some r') tl
      rw [Option.map_some, hrg.ren] at this
      exact this
    rw [em] at hd' hW' hf' hS'
    have hV2 := View.setSame hlt hrg (Option.none :: tl.map (Option.map (renRow (g1 b h.length)))) hV0 ⟨r0, hb⟩
    rw [gnd_ren _ _ hg] at e2
    subst e2
    exact ⟨_, hW'.view hV2, hf'.view hV2, hS'.forget hV2 (fun c hc => rfl) (by simp), (gnd_vw some _ v hg).den _ _ _ hd'⟩
  rintro e w' ⟨m', h', F', hW', hf', hl', hs', ⟨c, v, rfl, ⟨v', h2, ⟨r', tl, e1, hg, hrg, hq⟩, e2, e3⟩, hd'⟩ | ⟨c, v, rfl, ⟨v', h2, ⟨r', tl, e1, hg, hrg, hq⟩, e2, e3⟩, hd'⟩⟩
  · subst e3
    obtain ⟨m2, q1, q2, q3, q4⟩ := fin (c := v) e1 hg hrg e2 hd' hW' hf' hs'
    exact ⟨m2, _, F', q1, q2, hl.trans hst hl', hst.trans q3, .inl ⟨c, v', rfl, ⟨r', rfl, hq⟩, q4⟩⟩
  · subst e3
    obtain ⟨m2, q1, q2, q3, q4⟩ := fin (c := v) e1 hg hrg e2 hd' hW' hf' hs'
    exact ⟨m2, _, F', q1, q2, hl.trans hst hl', hst.trans q3, .inr ⟨c, v', rfl, ⟨r', rfl, hq⟩, q4⟩⟩


/-- What needs no rows holds behind any. -/
theorem SafeCallX.at0 {P : Program} {R : Nat → RoRow} {fn : FuncId} {args : List AV} {h : Rows} {F : Fz} {Q HP : AV → Fz → Prop} (hA : gndL args = true)
    (hs : SafeCallX P R fn args [] F (fun v h' F' => gnd v = true ∧ Q v F') (fun v h' F' => gnd v = true ∧ HP v F')) :
    SafeCallX P R fn args h F (fun v h' F' => h' = h ∧ Q v F') (fun v h' F' => h' = h ∧ HP v F') := by
  intro m w m0 h0 w0 F0 vs hd hW hf hst hl
  have hV0 := hW.idView
  have hV : View noView [] h := ⟨fun c b hc => absurd hc (Nat.not_lt_zero _), fun c c' b hc => absurd hc (Nat.not_lt_zero _), fun c r hc => by simp [Rows.live] at hc⟩
  refine (SafeCallX.focus (hL := []) hV (gndL_vw _ _ _ hA) hs m w m h w F vs hd hW hf (Step.refl _ _ _) (.refl _ _ _ _)).mono ?_
  have fin : ∀ {v v' : AV} {cv : Value} {h' : Rows} {m' : Map} {F' : Fz} {w' : World}, gnd v' = true → v = ren (ext noView ([] : Rows).length h.length) v' → Den m' (merged noView ([] : Rows).length ([] : Rows).length h h').length v cv →
      WR R m' (merged noView ([] : Rows).length ([] : Rows).length h h') w' → FzOK F' m' (merged noView ([] : Rows).length ([] : Rows).length h h') w' → Step m h w m' (merged noView ([] : Rows).length ([] : Rows).length h h') w' →
      ∃ m2, WR R m2 h w' ∧ FzOK F' m2 h w' ∧ Step m h w m2 h w' ∧ Den m2 h.length v' cv := by
    intro v v' cv h' m' F' w' hg e2 hd' hW' hf' hS'
    have em : merged noView ([] : Rows).length ([] : Rows).length h h' = h ++ shiftRows h.length h' := merged_nil h h'
    rw [em] at hd' hW' hf' hS'
    have hV2 : View some h (h ++ shiftRows h.length h') := hW.prefixView _
    rw [gnd_ren _ _ hg] at e2
    subst e2
    exact ⟨_, hW'.view hV2, hf'.view hV2, hS'.forget hV2 (fun c hc => rfl) (Nat.le_refl _), (gnd_vw some _ v hg).den _ _ _ hd'⟩
  rintro e w' ⟨m', h', F', hW', hf', hl', hs', ⟨c, v, rfl, ⟨v', h2, ⟨hg, hq⟩, e2, e3⟩, hd'⟩ | ⟨c, v, rfl, ⟨v', h2, ⟨hg, hq⟩, e2, e3⟩, hd'⟩⟩
  · subst e3
    obtain ⟨m2, q1, q2, q3, q4⟩ := fin hg e2 hd' hW' hf' hs'
    exact ⟨m2, _, F', q1, q2, hl.trans hst hl', hst.trans q3, .inl ⟨c, v', rfl, ⟨rfl, hq⟩, q4⟩⟩
  · subst e3
    obtain ⟨m2, q1, q2, q3, q4⟩ := fin hg e2 hd' hW' hf' hs'
    exact ⟨m2, _, F', q1, q2, hl.trans hst hl', hst.trans q3, .inr ⟨c, v', rfl, ⟨rfl, hq⟩, q4⟩⟩
/-! ### The law -/
noncomputable def mapX : Map := ⟨fun _ => ⟨0, 0, 0, 0, true⟩, fun i => if i < 15 then ⟨0, 0, 0, 0, true⟩ else tkLoc (i - 15)⟩
noncomputable def RX : Nat → RoRow := fun i => ⟨0, (mapX.ro i).esz, 0, fun _ => .any⟩
theorem mapX_named : Named mapX := by
  intro i
  simp only [mapX]
  rw [if_neg (by omega)]
  congr 1
theorem RX_ok (w : World) (i : Nat) : RoOK mapX (mapX.ro i) (RX i) w := by
  refine ⟨rfl, Nat.zero_le _, ?_⟩
  split
  · rfl
  · intro h; exact absurd h (Nat.lt_irrefl _)
theorem RX_quits (k : Nat) : Quits RX k := fun i j hj => absurd hj (Nat.not_lt_zero _)
theorem SafeCallX.law {P : Program} {f : FuncId} {args : List AV} (hs : SafeCallX P RX f args [] Fz.empty (fun v _ _ => v = .bool true) (fun _ _ _ => False)) (vs : Array Value) (w : World)
    (has : DenL mapX 0 args vs.toList) : Calls P f vs w fun e w' => e = .returned (.bool true) ∧ Below w.heap.size w w' := by
  have hW : WR RX mapX [] w := ⟨fun b r hb => by simp [Rows.live] at hb, fun b b' r r' hb => by simp [Rows.live] at hb, RX_ok w, fun i b r hb => by simp [Rows.live] at hb⟩
  have hf : FzOK Fz.empty mapX [] w := { blk := fun b ty c h => (by simp [Fz.empty] at h), apart := fun b r hb => (by simp [Rows.live] at hb), ro := mapX_named }
  refine (hs mapX w mapX [] w Fz.empty vs has hW hf (Step.refl _ _ _) (.refl _ _ _ _)).mono ?_
  rintro e w' ⟨m', h', F', hW', hf', hl', hS, ⟨c, v, rfl, rfl, hd⟩ | ⟨c, v, rfl, h, _⟩⟩
  · simp only [Den] at hd
    subst hd
    exact ⟨rfl, hS.os, hS.tape, hS.output, hS.size, fun k hk => hS.block k hk (fun b r hb => by simp [Rows.live] at hb)⟩
  · exact h.elim
end Go.Dc
end
section
set_option linter.unusedSimpArgs false
set_option linter.unusedVariables false
namespace Go.Dc
/-- Rows laid at some places. -/
def layAt : Rows → List Nat → Rows → Rows
  | h, b :: bs, o :: os => layAt (h.set b o) bs os
  | h, _, _ => h
theorem layAt_length : ∀ (bs : List Nat) (os : Rows) (h : Rows), (layAt h bs os).length = h.length
  | [], os, h => by cases os <;> rfl
  | b :: bs, [], h => rfl
  | b :: bs, o :: os, h => by rw [layAt, layAt_length bs os, List.length_set]
theorem layAt_out : ∀ (bs : List Nat) (os : Rows) (h : Rows) (i : Nat), i ∉ bs → (layAt h bs os)[i]? = h[i]?
  | [], os, h, i, _ => by cases os <;> rfl
  | b :: bs, [], h, i, _ => rfl
  | b :: bs, o :: os, h, i, hi => by
    rw [layAt, layAt_out bs os _ i (fun h => hi (List.mem_cons_of_mem _ h)), List.getElem?_set_ne (fun e => hi (by rw [e]; exact List.mem_cons_self))]
theorem layAt_in : ∀ (bs : List Nat) (os : Rows) (h : Rows) (c i : Nat), bs.Nodup → os.length = bs.length → i < h.length → bs[c]? = some i → (layAt h bs os)[i]? = os[c]?
  | [], os, h, c, i, _, _, _, hc => by simp at hc
  | b :: bs, [], h, c, i, _, ho, _, _ => by simp at ho
  | b :: bs, o :: os, h, 0, i, hd, ho, hi, hc => by
    simp only [List.getElem?_cons_zero, Option.some.injEq] at hc
    subst hc
    rw [layAt, layAt_out bs os _ b (List.nodup_cons.1 hd).1, List.getElem?_set_self hi]; rfl
  | b :: bs, o :: os, h, c + 1, i, hd, ho, hi, hc => by
    rw [layAt, layAt_in bs os _ c i (List.nodup_cons.1 hd).2 (by simpa using ho) (by rw [List.length_set]; exact hi) (by simpa using hc)]; rfl
theorem nodup_inj : ∀ {l : List Nat} (_ : l.Nodup) (i j b : Nat), l[i]? = some b → l[j]? = some b → i = j
  | [], _, i, j, b, h, _ => by simp at h
  | a :: l, hd, 0, 0, b, _, _ => rfl
  | a :: l, hd, 0, j + 1, b, h1, h2 => by
    simp only [List.getElem?_cons_zero, Option.some.injEq] at h1
    subst h1
    exact absurd (List.mem_of_getElem? (by simpa using h2)) (List.nodup_cons.1 hd).1
  | a :: l, hd, i + 1, 0, b, h1, h2 => by
    simp only [List.getElem?_cons_zero, Option.some.injEq] at h2
    subst h2
    exact absurd (List.mem_of_getElem? (by simpa using h1)) (List.nodup_cons.1 hd).1
  | a :: l, hd, i + 1, j + 1, b, h1, h2 => by rw [nodup_inj (List.nodup_cons.1 hd).2 i j b (by simpa using h1) (by simpa using h2)]
def posV (bs : List Nat) : Nat → Option Nat := fun c => bs[c]?
def gP (bs : List Nat) (N : Nat) : Nat → Nat := fun c => match bs[c]? with | some b => b | none => N + c
theorem ext_pos (bs : List Nat) (N : Nat) : ext (posV bs) bs.length N = gP bs N := by
  funext c
  unfold ext gP posV
  cases h : Nat.blt c bs.length with
  | true => rfl
  | false =>
    have : bs.length ≤ c := by
      rcases Nat.lt_or_ge c bs.length with h1 | h1
      · rw [blt_t h1] at h; cases h
      · exact h1
    rw [List.getElem?_eq_none this]; rfl
theorem seen_pos {bs : List Nat} {i : Nat} (hi : i ∉ bs) : ∀ n, seen (posV bs) i n = false
  | 0 => rfl
  | n + 1 => by
    unfold seen posV
    cases h : bs[n]? with
    | none => exact seen_pos hi n
    | some b =>
      have hb : b ∈ bs := List.mem_of_getElem? h
      have : Nat.beq b i = false := by rw [Bool.eq_false_iff]; exact fun e => hi (by rw [← Nat.eq_of_beq_eq_true e]; exact hb)
      show (bif Nat.beq b i then true else seen (posV bs) i n) = false
      rw [this]
      exact seen_pos hi n
theorem gP_in {bs : List Nat} {N c b : Nat} (h : bs[c]? = some b) : gP bs N c = b := by unfold gP; rw [h]
theorem gP_out {bs : List Nat} {N c : Nat} (h : bs.length ≤ c) : gP bs N c = N + c := by unfold gP; rw [List.getElem?_eq_none h]
theorem merged_pos {bs : List Nat} {h : Rows} (hd : bs.Nodup) (hb : ∀ b ∈ bs, b < h.length) (os tl : Rows) (ho : os.length = bs.length) :
    merged (posV bs) bs.length bs.length h (os ++ tl) = layAt h bs (os.map (Option.map (renRow (gP bs h.length)))) ++ (List.replicate bs.length none ++ tl.map (Option.map (renRow (gP bs h.length)))) := by
  unfold merged
  rw [ext_pos]
  refine List.ext_getElem? fun i => ?_
  rw [List.getElem?_map]
  have hinj : ∀ c c', gP bs h.length c' = gP bs h.length c → c' = c := by
    intro c c' e
    rcases Nat.lt_or_ge c bs.length with h1 | h1 <;> rcases Nat.lt_or_ge c' bs.length with h2 | h2
    · rw [gP_in (List.getElem?_eq_getElem h1), gP_in (List.getElem?_eq_getElem h2)] at e
      exact nodup_inj hd c' c _ (List.getElem?_eq_getElem h2) (by rw [e]; exact List.getElem?_eq_getElem h1)
    · rw [gP_in (List.getElem?_eq_getElem h1), gP_out h2] at e
      have := hb _ (List.getElem_mem h1); omega
    · rw [gP_out h1, gP_in (List.getElem?_eq_getElem h2)] at e
      have := hb _ (List.getElem_mem h2); omega
    · rw [gP_out h1, gP_out h2] at e; omega
  have hfind : ∀ c, c < (os ++ tl).length → findC (gP bs h.length) (gP bs h.length c) (os ++ tl).length = some c := fun c hc => findC_inj hc (fun c' _ e => hinj c c' e)
  rcases Nat.lt_or_ge i (h.length + (os ++ tl).length) with hlt | hge
  · rw [List.getElem?_range hlt]
    simp only [Option.map_some]
    rcases Nat.lt_or_ge i h.length with h1 | h1
    · rw [List.getElem?_append_left (by rw [layAt_length]; exact h1)]
      by_cases hi : i ∈ bs
      · obtain ⟨c, hc, e⟩ := List.getElem_of_mem hi
        have hc' : bs[c]? = some i := by rw [List.getElem?_eq_getElem hc, e]
        have hf := hfind c (by rw [List.length_append]; omega)
        rw [gP_in hc'] at hf
        rw [hf, layAt_in bs _ h c i hd (by rw [List.length_map]; exact ho) h1 hc', List.getElem?_map]
        simp only [Rows.live]
        rw [List.getElem?_append_left (by omega), List.getElem?_eq_getElem (by omega)]
        rfl
      · have hf : findC (gP bs h.length) i (os ++ tl).length = none := by
          cases hf : findC (gP bs h.length) i (os ++ tl).length with
          | none => rfl
          | some c =>
            have := (findC_some hf).2
            rcases Nat.lt_or_ge c bs.length with h2 | h2
            · rw [gP_in (List.getElem?_eq_getElem h2)] at this
              exact absurd (by rw [← this]; exact List.getElem_mem h2) hi
            · rw [gP_out h2] at this; omega
        rw [hf, layAt_out bs _ h i hi]
        simp only [seen_pos hi, cond_false, Rows.live, List.getElem?_eq_getElem h1, Option.join_some]
    · rw [List.getElem?_append_right (by rw [layAt_length]; exact h1), layAt_length]
      obtain ⟨d, rfl⟩ : ∃ d, i = h.length + d := ⟨i - h.length, by omega⟩
      rw [show h.length + d - h.length = d by omega]
      have hni : h.length + d ∉ bs := fun hm => by have := hb _ hm; omega
      rcases Nat.lt_or_ge d bs.length with h2 | h2
      · have hf : findC (gP bs h.length) (h.length + d) (os ++ tl).length = none := by
          cases hf : findC (gP bs h.length) (h.length + d) (os ++ tl).length with
          | none => rfl
          | some c =>
            have := (findC_some hf).2
            rcases Nat.lt_or_ge c bs.length with h3 | h3
            · rw [gP_in (List.getElem?_eq_getElem h3)] at this
              exact absurd (by rw [← this]; exact List.getElem_mem h3) hni
            · rw [gP_out h3] at this; omega
        rw [hf, List.getElem?_append_left (by rw [List.length_replicate]; exact h2), List.getElem?_replicate, if_pos h2]
        simp only [seen_pos hni, cond_false, Rows.live]
        rw [List.getElem?_eq_none (by omega)]; rfl
      · have hf := hfind d (by omega)
        rw [gP_out h2] at hf
        rw [hf, List.getElem?_append_right (by rw [List.length_replicate]; exact h2), List.length_replicate, List.getElem?_map]
        simp only [Rows.live]
        have hd' : d < os.length + tl.length := by rw [List.length_append] at hlt; omega
        rw [List.getElem?_append_right (by omega), ho, List.getElem?_eq_getElem (by omega)]
        rfl
  · rw [List.getElem?_eq_none (by simp; rw [List.length_append] at hge; omega), List.getElem?_eq_none]
    · rfl
    · simp only [List.length_append, layAt_length, List.length_replicate, List.length_map]
      rw [List.length_append] at hge; omega
/-- What a call does to some rows, wherever they lie: the first ones are theirs, the others come behind. -/
theorem SafeCallX.atN {P : Program} {R : Nat → RoRow} {fn : FuncId} {argsL args : List AV} {hL h : Rows} {F : Fz} {Q HP : AV → Rows → Rows → Fz → Prop} (bs : List Nat) (hn : hL.length = bs.length) (hd : bs.Nodup) (hb : ∀ b ∈ bs, b < h.length)
    (hr : ∀ c r, hL.live c = some r → ∃ b r', bs[c]? = some b ∧ h.live b = some r' ∧ RowV (posV bs) bs.length r r') (hA : VwL (posV bs) bs.length argsL args)
    (hs : SafeCallX P R fn argsL hL F (fun v h' F' => ∃ os tl, h' = os ++ tl ∧ os.length = bs.length ∧ Q v os tl F') (fun v h' F' => ∃ os tl, h' = os ++ tl ∧ os.length = bs.length ∧ HP v os tl F')) :
    SafeCallX P R fn args h F (fun v h' F' => ∃ v0 os tl, v = ren (gP bs h.length) v0 ∧ h' = layAt h bs (os.map (Option.map (renRow (gP bs h.length)))) ++ (List.replicate bs.length none ++ tl.map (Option.map (renRow (gP bs h.length)))) ∧ Q v0 os tl F')
      (fun v h' F' => ∃ v0 os tl, v = ren (gP bs h.length) v0 ∧ h' = layAt h bs (os.map (Option.map (renRow (gP bs h.length)))) ++ (List.replicate bs.length none ++ tl.map (Option.map (renRow (gP bs h.length)))) ∧ HP v0 os tl F') := by
  have hV : View (posV bs) hL h := ⟨fun c b _ he => hb b (List.mem_of_getElem? he), fun c c' b h1 h2 e1 e2 => by
      exact nodup_inj hd c c' b e1 e2, fun c r hc => by
      obtain ⟨b, r', e1, e2, e3⟩ := hr c r hc
      exact .inl ⟨b, r', e1, e2, by rw [hn]; exact e3⟩⟩
  refine (SafeCallX.focus hV (by rw [hn]; exact hA) hs).mono ?_ ?_
  · rintro v h' F' _ ⟨v0, h0, ⟨os, tl, rfl, ho, hq⟩, rfl, rfl⟩
    rw [hn, ext_pos, merged_pos hd hb os tl ho]
    exact ⟨v0, os, tl, rfl, rfl, hq⟩
  · rintro v h' F' _ ⟨v0, h0, ⟨os, tl, rfl, ho, hq⟩, rfl, rfl⟩
    rw [hn, ext_pos, merged_pos hd hb os tl ho]
    exact ⟨v0, os, tl, rfl, rfl, hq⟩
/-- What a call answers, where a row may be told under a new number. -/
theorem ToV.fitW {R : Nat → RoRow} {nk : Nat} {v vE : AV} {h hE : Rows} {F : Fz} {S : AV → Rows → Fz → Prop} (f : Nat → Option Nat) (hV : ViewW f hE h) (hv : Vw f hE.length vE v) (hf : ∀ c, c < nk → f c = some c) (hl : nk ≤ hE.length)
    (hh : ToV R nk vE hE F S) : ToV R nk v h F S := by
  intro m c w m0 h0 w0 F0 hn hd hW hF hs hl0
  refine hh (m.view f hE.es) c w m0 h0 w0 F0 hn (hv.den _ _ _ hd) (hW.viewW hV) ⟨hF.blk, ?_, hF.ro⟩ ⟨hs.os, hs.tape, hs.output, hs.size, hs.block, Nat.le_trans hn hl, ?_, hs.ro, ?_⟩ hl0
  · intro c r hc hv
    obtain ⟨b, r', h1, h2, h3, h4⟩ := hV.real hc hv
    rw [h4] at hv ⊢
    exact hF.apart b r' h2 hv
  · intro b hb
    rw [view_some (hf b (Nat.lt_of_lt_of_le hb hn)), hs.mu b hb]
  · intro b r hb hv
    obtain ⟨d, r1, h1, h2, _, e1⟩ := hV.real hb hv
    rw [e1] at hv ⊢
    exact hs.new _ _ h2 hv
end Go.Dc
end
