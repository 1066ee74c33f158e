/- The decoder in UTF-8, one byte at a time: a byte. -/
import Derived.Test.YtebgogcdndmaaaaUtfN
set_option linter.unusedVariables false
set_option linter.unusedSimpArgs false
namespace Go.Dc.Ka
open Go.Proofs Go.RowKit
set_option maxRecDepth 100000
def one1 (d : Nat) : Nat → Option Nat := fun c => match c with | 0 => some d | _ + 1 => none
def tri (d p q : Nat) : Nat → Option Nat := fun c => match c with | 0 => some d | 1 => some p | 2 => some q | _ + 3 => none
theorem tri_inj {d p q : Nat} (h1 : d ≠ p) (h2 : d ≠ q) (h3 : p ≠ q) (c c' b : Nat) (hc : c < 3) (hc' : c' < 3) (e : tri d p q c = some b) (e' : tri d p q c' = some b) : c = c' := by
  match c, c' with
  | 0, 0 => rfl
  | 1, 1 => rfl
  | 2, 2 => rfl
  | 0, 1 => simp [tri] at e e'; omega
  | 0, 2 => simp [tri] at e e'; omega
  | 1, 0 => simp [tri] at e e'; omega
  | 1, 2 => simp [tri] at e e'; omega
  | 2, 0 => simp [tri] at e e'; omega
  | 2, 1 => simp [tri] at e e'; omega
  | c + 3, _ => omega
  | _, c' + 3 => omega
/-- start, wherever its rows lie: with nothing told, or behind one that was wrong. -/
def spec47 : CallSpec := fun args h k => match args with
  | [.ptr false d 0 0, .int .u8 x] => match h[d]? with
    | some (some (.lst 62 9 [.agg [.bool true, .int .i64 a, .int .i64 b, .int .i64 l0, .int .i64 v, .int .u8 lo, .int .u8 hi, .nils, .nils]])) =>
      l0 = 0 ∧ NQ a fun h' => k (.tup []) (merged (one1 d) 1 1 h h')
    | some (some (.lst 62 9 [.agg [.bool true, .int .i64 a, .int .i64 b, .int .i64 l0, .int .i64 v, .int .u8 lo, .int .u8 hi, .sl false p 0 1 c1, .sl false q 0 1 c2]])) =>
      match h[p]?, h[q]? with
      | some (some (.lst 38 2 [.agg [.int .i64 r0, .int .i64 r1]])), some (some (.lst 75 3 [.agg [.int .i64 2, .int .i64 d0, .str []]])) =>
        l0 = 0 ∧ d ≠ p ∧ d ≠ q ∧ p ≠ q ∧ WQ a r0 r1 d0 fun h' => k (.tup []) (merged (tri d p q) 3 3 h h')
      | _, _ => False
    | _ => False
  | _ => False
theorem spec47_ok (R : Nat → RoRow) : ∀ args h k, spec47 args h k → SafeCall Try.prog R 47 args h k := by
  intro args h k hk
  unfold spec47 at hk
  split at hk
  · rename_i d x
    split at hk
    · rename_i a b l0 v lo hi hd
      obtain ⟨rfl, hQ⟩ := hk
      have hs := safe47n R x a b v lo hi _ hQ
      have hV : View (one1 d) [decU a b 0 v lo hi .nils .nils] h := by
        refine View.of ?_ ?_
        · intro c o ho
          match c with
          | 0 => cases ho; exact ViewL.at_ (b := d) rfl hd (RowV.lst1 rfl (by (repeat' (first | with_reducible exact VwL.nil | with_reducible refine VwL.cons ?_ ?_ | with_reducible exact Vw.strI | with_reducible exact Vw.boolI | with_reducible exact Vw.intI | with_reducible exact Vw.nilsI | with_reducible refine Vw.aggI ?_ | exact Vw.gndI rfl | exact Vw.slI (by simp) rfl))))
          | c + 1 => simp at ho
        · intro c c' b hc hc' e e'
          have hc : c < 1 := hc
          have hc' : c' < 1 := hc'
          omega
      refine (SafeCall.focus (f := one1 d) hV (argsL := [.ptr false 0 0 0, .int .u8 x]) ?_ hs).mono ?_
      · exact VwL.cons (Vw.ptrI (by simp) rfl) (VwL.cons Vw.intI VwL.nil)
      · rintro v'' h'' ⟨v', h', ⟨rfl, hq'⟩, rfl, rfl⟩
        exact hq'
    · rename_i a b l0 v lo hi p c1 q c2 hd
      split at hk
      · rename_i r0 r1 d0 hp hq
        obtain ⟨rfl, h1, h2, h3, hQ⟩ := hk
        have hs := safe47w R x a b v lo hi r0 r1 d0 _ hQ
        have hV : View (tri d p q) [decU a b 0 v lo hi (.sl false 1 0 1 .no) (.sl false 2 0 1 .no), some (.lst 38 2 [rune r0 r1]), some (.lst 75 3 [diag d0])] h := by
          refine View.of ?_ ?_
          · intro c o ho
            match c with
            | 0 =>
              cases ho
              refine ViewL.at_ (b := d) rfl hd (RowV.lst1 rfl (Vw.aggI ?_))
              repeat' (first | with_reducible exact VwL.nil | with_reducible refine VwL.cons ?_ ?_ | with_reducible exact Vw.intI | with_reducible exact Vw.boolI | exact Vw.slE (by simp) rfl)
            | 1 => cases ho; exact ViewL.at_ (b := p) rfl hp (RowV.lst1 rfl (by (repeat' (first | with_reducible exact VwL.nil | with_reducible refine VwL.cons ?_ ?_ | with_reducible exact Vw.strI | with_reducible exact Vw.boolI | with_reducible exact Vw.intI | with_reducible exact Vw.nilsI | with_reducible refine Vw.aggI ?_ | exact Vw.gndI rfl | exact Vw.slI (by simp) rfl))))
            | 2 => cases ho; exact ViewL.at_ (b := q) rfl hq (RowV.lst1 rfl (by (repeat' (first | with_reducible exact VwL.nil | with_reducible refine VwL.cons ?_ ?_ | with_reducible exact Vw.strI | with_reducible exact Vw.boolI | with_reducible exact Vw.intI | with_reducible exact Vw.nilsI | with_reducible refine Vw.aggI ?_ | exact Vw.gndI rfl | exact Vw.slI (by simp) rfl))))
            | c + 3 => simp at ho
          · intro c c' b hc hc' e e'
            exact tri_inj h1 h2 h3 c c' b hc hc' e e'
        refine (SafeCall.focus (f := tri d p q) hV (argsL := [.ptr false 0 0 0, .int .u8 x]) ?_ hs).mono ?_
        · exact VwL.cons (Vw.ptrI (by simp) rfl) (VwL.cons Vw.intI VwL.nil)
        · rintro v'' h'' ⟨v', h', ⟨rfl, hq'⟩, rfl, rfl⟩
          exact hq'
      · exact hk.elim
    · exact hk.elim
  · exact hk.elim
noncomputable abbrev env38 (R : Nat → RoRow) : Env Prop := (base R).addCall 47 spec47
theorem env38_ok (R : Nat → RoRow) : EnvOK Try.prog (env38 R) id := (base_ok R).addCall (f := 47) (fi := fi47) (by kernel_rfl) (spec47_ok R)
end Go.Dc.Ka
