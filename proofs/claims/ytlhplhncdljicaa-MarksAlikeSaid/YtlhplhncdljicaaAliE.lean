/- Are two entries alike: the contracts where the rows lie. -/
import Derived.Test.YtlhplhncdljicaaAliD
set_option linter.unusedVariables false
set_option linter.unusedSimpArgs false
namespace Go.Dc.Kb
open Go.Proofs Go.RowKit
set_option maxRecDepth 100000
structure AtRow (n : Nat) (F : Nat → AV) : Prop where
  h : ∃ D : List At, n = D.length ∧ F = atL D ∧ n ≤ 1000000
structure AtIs (n : Nat) (F : Nat → AV) (D : List At) : Prop where
  n : n = D.length
  F : F = atL D
theorem AtIs.eq {D D' : List At} (h : AtIs D.length (atL D) D') : D' = D := by
  obtain ⟨h1, h2⟩ := h
  apply List.ext_getElem h1.symm
  intro i h3 h4
  have := congrFun h2 i
  unfold atL at this
  injection this with this
  injection this with e1 e2
  injection e2 with e2 _
  injection e1 with e1
  injection e2 with e2
  rw [List.getD, List.getElem?_eq_getElem h4, List.getD, List.getElem?_eq_getElem h3] at e1 e2
  exact (Prod.ext e1 e2).symm
theorem reads2 {R : Nat → RoRow} {fn : FuncId} {t : TypeId} {h : Rows} {b b' : Nat} {D D' : List At} {nd nd' : Int} {nm nm' : Tx} {x : Bool} (hb : h.live b = some (.gen t 2 D.length (atL D))) (hb' : h.live b' = some (.gen t 2 D'.length (atL D')))
    (hs : SafeCall Try.prog (ro2D t D t D') fn [entA nd nm (.sl true 0 0 D.length .no), entA nd' nm' (.sl true 1 0 D'.length .no)] [] fun v _ => v = .bool x) :
    SafeCall Try.prog R fn [entA nd nm (.sl false b 0 D.length .no), entA nd' nm' (.sl false b' 0 D'.length .no)] h fun v h' => v = .bool x ∧ h' = h := by
  refine hs.ofRead (fun v hv => by rw [hv]; rfl) ?_
  intro m w hW
  refine ⟨⟨fun _ => ⟨0, 0, 0, 0, true⟩, fun i => match i with | 0 => m.mu b | 1 => m.mu b' | _ + 2 => ⟨0, 0, 0, 0, true⟩⟩, ?_, ?_⟩
  · have key : ∀ (c : Nat) (E : List At) (m2 : Map), h.live c = some (.gen t 2 E.length (atL E)) → RoOK m2 (m.mu c) ⟨t, 2, E.length, atL E⟩ w := by
      intro c E m2 hc
      refine (hW.row c _ hc).ro (f := fun _ => none) (fun b c h => by cases h) ⟨rfl, rfl, Nat.le_refl _, ?_⟩
      intro j e hj he
      rw [Row.get_gen hj] at he
      simp only [Option.some.injEq] at he
      subst he
      exact ⟨_, rfl, ⟨rfl, rfl⟩, ⟨rfl, rfl⟩, trivial⟩
    intro i
    match i with
    | 0 => exact key b D _ hb
    | 1 => exact key b' D' _ hb'
    | i + 2 => exact ⟨rfl, Nat.le_refl _, by simp [ro2D]⟩
  · intro vs0 has
    simp only [DenL, Den, Map.loc, Bool.false_eq_true, if_false, if_true] at has ⊢
    obtain ⟨v, vs, rfl, ⟨us, rfl, x1, y1, e1, g1, x2, y2, e2, g2, x3, y3, e3, g3, g3'⟩, v', vs', rfl, ⟨us', rfl, x1', y1', e1', g1', x2', y2', e2', g2', x3', y3', e3', g4, g4'⟩, rfl⟩ := has
    refine ⟨_, _, rfl, ⟨us, rfl, x1, y1, e1, g1, x2, y2, e2, g2, x3, y3, e3, ⟨by simp, g3.2⟩, g3'⟩, _, _, rfl, ⟨us', rfl, x1', y1', e1', g1', x2', y2', e2', g2', x3', y3', e3', ⟨by simp, g4.2⟩, g4'⟩, rfl⟩
/-- Alike, wherever the attributes lie. -/
def specAl (t : TypeId) : CallSpec := fun args h k => match args with
  | [.agg [.int .i64 nd, .str nm, .sl false b 0 n .no], .agg [.int .i64 nd', .str nm', .sl false b' 0 n' .no]] => match h.live b, h.live b' with
    | some (.gen u 2 m F), some (.gen u' 2 m' F') => (u = t ∧ u' = t ∧ n = m ∧ n' = m' ∧ AtRow m F ∧ AtRow m' F') ∧ ∀ D D', AtIs m F D → AtIs m' F' D' → k (.bool (alikeB nm nm' D D')) h
    | _, _ => False
  | _ => False
theorem specAl_ok (R : Nat → RoRow) {fn : FuncId} (t : TypeId) (hs : ∀ (D D' : List At) (nd nd' : Int) (nm nm' : Tx), D.length ≤ 1000000 → D'.length ≤ 1000000 → SafeCall Try.prog (ro2D t D t D') fn [entA nd nm (.sl true 0 0 D.length .no), entA nd' nm' (.sl true 1 0 D'.length .no)] [] fun v _ => v = .bool (alikeB nm nm' D D')) :
    ∀ args h k, specAl t args h k → SafeCall Try.prog R fn args h k := by
  intro args h k hk
  unfold specAl at hk
  split at hk
  · rename_i nd nm b n nd' nm' b' n'
    split at hk
    · rename_i u m F u' m' F' hb hb'
      obtain ⟨⟨rfl, rfl, rfl, rfl, ⟨D, rfl, rfl, hD⟩, ⟨D', rfl, rfl, hD'⟩⟩, hk⟩ := hk
      refine (reads2 hb hb' (hs D D' nd nd' nm nm' hD hD')).mono ?_
      rintro v h' ⟨rfl, rfl⟩
      exact hk D D' ⟨rfl, rfl⟩ ⟨rfl, rfl⟩
    · exact hk.elim
  · exact hk.elim
structure IsD (D0 D : List At) : Prop where
  h : D = D0
/-- pair, behind any rows. -/
def spec14C (n : Nat) (N V : Nat → Tx) (m : Nat) (N' V' : Nat → Tx) : CallSpec := fun args h k => match args with
  | [.agg [.int .i64 wh, .int .i64 at_, .int .i64 nd, .str nm, .sl true 0 0 n' .no]] => n' = n ∧ ∀ D, IsD (dd N V (min n 20)) D → k (.tup [entA nd nm (.sl false h.length 0 D.length .no), entA nd nm (.sl false (h.length + 1) 0 D.length .no)]) (h ++ twoR D)
  | [.agg [.int .i64 wh, .int .i64 at_, .int .i64 nd, .str nm, .sl true 1 0 n' .no]] => n' = m ∧ ∀ D, IsD (dd N' V' (min m 20)) D → k (.tup [entA nd nm (.sl false h.length 0 D.length .no), entA nd nm (.sl false (h.length + 1) 0 D.length .no)]) (h ++ twoR D)
  | _ => False
theorem spec14C_ok (t n : Nat) (N V : Nat → Tx) (t' m : Nat) (N' V' : Nat → Tx) : ∀ args h k, spec14C n N V m N' V' args h k → SafeCall Try.prog (ro2A t n N V t' m N' V') 14 args h k := by
  intro args h k hk
  unfold spec14C at hk
  split at hk
  · rename_i wh at_ nd nm n'
    obtain ⟨rfl, hk⟩ := hk
    refine ((safe140 t n' N V t' m N' V' wh at_ nd nm).fresh ?_ h).mono ?_
    · exact VwL.cons (Vw.gndI rfl) VwL.nil
    · rintro v'' h'' ⟨v', h', ⟨rfl, rfl⟩, rfl, rfl⟩
      exact hk _ ⟨rfl⟩
  · rename_i wh at_ nd nm n'
    obtain ⟨rfl, hk⟩ := hk
    refine ((safe141 t n N V t' n' N' V' wh at_ nd nm).fresh ?_ h).mono ?_
    · exact VwL.cons (Vw.gndI rfl) VwL.nil
    · rintro v'' h'' ⟨v', h', ⟨rfl, rfl⟩, rfl, rfl⟩
      exact hk _ ⟨rfl⟩
  · exact hk.elim
noncomputable abbrev env4 (t n : Nat) (N V : Nat → Tx) (t' m : Nat) (N' V' : Nat → Tx) : Env Prop := ((((base (ro2A t n N V t' m N' V')).addCall 13 isTrue).addCall 14 (spec14C n N V m N' V')).addCall 15 (specAl 90)).addCall 16 (specAl 88)
theorem env4_ok (t n : Nat) (N V : Nat → Tx) (t' m : Nat) (N' V' : Nat → Tx) : EnvOK Try.prog (env4 t n N V t' m N' V') id :=
  ((((base_ok _).addCall (f := 13) (fi := fi13) (by kernel_rfl) (isTrue_ok (safe13 _))).addCall (f := 14) (fi := fi14) (by kernel_rfl) (spec14C_ok t n N V t' m N' V')).addCall (f := 15) (fi := fi15) (by kernel_rfl) (specAl_ok _ 90 fun D D' nd nd' nm nm' h h' => safe15 90 D 90 D' nd nd' nm nm' h h')).addCall
    (f := 16) (fi := fi16) (by kernel_rfl) (specAl_ok _ 88 fun D D' nd nd' nm nm' h h' => safe16 88 D 88 D' nd nd' nm nm' h h')
end Go.Dc.Kb
