/- The decoder in UTF-8, told exactly: the first byte of a scalar, of a text that is well written. -/
import Derived.Test.YtebgogcdndmaaaaBackB
set_option linter.unusedVariables false
set_option linter.unusedSimpArgs false
namespace Go.Dc.Ka
open Go.Proofs Go.RowKit
set_option maxRecDepth 100000
def rowsS1 (x a v : Int) (n : Nat) (F : Nat → AV) : Rows := [decU a a 0 v (lowF x) (highF x) (.sl false 2 0 (n + 1) .no) .nils, none, some (.gen 38 2 (n + 1) (snoc n F (rune x a)))]
def rowsS2 (x a : Int) (n : Nat) (F : Nat → AV) : Rows := [decG a a (leftF x) (valF x) (lowF x) (highF x) n, some (.gen 38 2 n F)]
theorem safeS47 (R : Nat → RoRow) (x a b v lo hi : Int) (n : Nat) (F : Nat → AV) (hx0 : 0 ≤ x) (hx1 : x ≤ 255) (hn : n ≤ 1000000) (hF : Plain n F) (hgood : x < 128 ∨ leftF x ≠ 0) (Q : Rows → Prop)
    (hQ1 : x < 128 → Q (rowsS1 x a v n F)) (hQ2 : ¬ x < 128 → Q (rowsS2 x a n F)) :
    SafeCall Try.prog R 47 [.ptr false 0 0 0, .int .u8 x] [decG a b 0 v lo hi n, some (.gen 38 2 n F)] fun r h => r = .tup [] ∧ Q h := by
  refine SafeCall.fit (Q := fun r h => ∃ vE hE, FitV 2 vE hE r h ∧ (vE = .tup [] ∧ Q hE)) ?_ (fun _ _ h => h)
  refine byVcd (base_ok R) (f := 47) (fi := fi47) (by kernel_rfl) 10000 (vc47g R x a b v lo hi n F _) ?_
  have cn : capN n 16 = true := by unfold capN; simp; omega
  have e : IntKind.i64.wrap x = x := wrap64 x (by omega) (by omega)
  rw [cn, cond_true, e]
  refine hcond (fun hA => tree2_of ?_) (fun hA => ?_)
  · refine fitN (mv2 2 3 2 3) ?_ ?_ (by simp [rowsS1]) (hQ1 (of_decide_eq_true hA))
    · refine View.of ?_ ?_
      · intro c o ho
        match c with
        | 0 =>
          cases ho
          refine ViewL.at_ (b := 0) rfl rfl (RowV.lst1 rfl (Vw.aggI ?_))
          repeat' (first | with_reducible exact VwL.nil | with_reducible refine VwL.cons ?_ ?_ | with_reducible exact Vw.intI | with_reducible exact Vw.boolI | with_reducible exact Vw.nilsI | exact Vw.intI | exact Vw.slI (by simp [rowsS1]) rfl)
        | 1 => cases ho; exact ViewL.gone' (b := 1) rfl (by simp)
        | 2 => cases ho; exact ViewL.at_ (b := 3) rfl rfl (genApp hF rfl rfl)
        | c + 3 => simp [rowsS1] at ho
      · exact injOf (N := 3) (by decide)
    · intro c hc
      match c with
      | 0 => rfl
      | 1 => rfl
      | c + 2 => omega
  · have hA' : ¬ x < 128 := of_decide_eq_false hA
    have hQ := hQ2 hA'
    have lead : ∀ l y : Int, leftF x = l → valF x = y → tree2 x fun lo hi => ∃ vE hE, FitV 2 vE hE (.tup []) [decG a a l y lo hi n, some (.gen 38 2 n F)] ∧ (vE = .tup [] ∧ Q hE) := by
      intro l y hl hy
      refine tree2_of (fitN some ?_ (fun _ _ => rfl) (by simp [rowsS2]) hQ)
      unfold rowsS2
      rw [hl, hy]
      refine View.of ?_ ?_
      · intro c o ho
        match c with
        | 0 =>
          cases ho
          refine ViewL.at_ (b := 0) rfl rfl (RowV.lst1 rfl (Vw.aggI ?_))
          repeat' (first | with_reducible exact VwL.nil | with_reducible refine VwL.cons ?_ ?_ | with_reducible exact Vw.intI | with_reducible exact Vw.boolI | with_reducible exact Vw.nilsI | exact Vw.intI | exact Vw.slI (by simp) rfl)
        | 1 => cases ho; exact ViewL.at_ (b := 1) rfl rfl (genPlain hF)
        | c + 2 => simp at ho
      · exact fun c c' b _ _ h1 h2 => by cases h1; cases h2; rfl
    refine cond2_of (fun g1 g2 => ?_) (fun g => ?_)
    · have g1 := of_decide_eq_true g1; have g2 := of_decide_eq_true g2
      exact lead 1 _ (by unfold leftF; rw [if_pos ⟨by omega, by omega⟩]) (by unfold valF; rw [if_pos (by omega)])
    · refine cond2_of (fun g1 g2 => ?_) (fun g' => ?_)
      · have g1 := of_decide_eq_true g1; have g2 := of_decide_eq_true g2
        exact lead 2 _ (by unfold leftF; rw [if_neg (by omega), if_pos ⟨by omega, by omega⟩]) (by unfold valF; rw [if_neg (by omega), if_pos (by omega)])
      · refine cond2_of (fun g1 g2 => ?_) (fun g'' => ?_)
        · have g1 := of_decide_eq_true g1; have g2 := of_decide_eq_true g2
          exact lead 3 _ (by unfold leftF; rw [if_neg (by omega), if_neg (by omega), if_pos ⟨by omega, by omega⟩]) (by unfold valF; rw [if_neg (by omega), if_neg (by omega)])
        · exfalso
          simp at g g' g''
          rcases hgood with h | h
          · exact hA' h
          · refine h ?_
            unfold leftF
            rw [if_neg (by omega), if_neg (by omega), if_neg (by omega)]
end Go.Dc.Ka
