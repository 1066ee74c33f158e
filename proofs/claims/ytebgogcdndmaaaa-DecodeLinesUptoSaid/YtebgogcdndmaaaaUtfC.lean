/- The decoder in UTF-8: the first byte of a scalar, its contract. -/
import Derived.Test.YtebgogcdndmaaaaUtfB
set_option linter.unusedVariables false
set_option linter.unusedSimpArgs false
namespace Go.Dc.Ka
open Go.Proofs Go.RowKit
set_option maxRecDepth 100000
def startQ (x a v : Int) (n m : Nat) (F G : Nat → AV) (Q : Rows → Prop) : Prop :=
  bif decide (x < 128) then Q (rowsA x a v n m F G) else bif leftF x == 0 then Q (rowsB x a v n m F G) else Q (rowsL x a v n m F G)
theorem cond2_of {c d : Bool} {A B : Prop} (h1 : c = true → d = true → A) (h2 : (c && d) = false → B) : cond2 c d A B := by
  unfold cond2
  cases c <;> cases d <;> simp_all
theorem safe47 (R : Nat → RoRow) (x a b v lo hi : Int) (n m : Nat) (F G : Nat → AV) (hx0 : 0 ≤ x) (hx1 : x ≤ 255) (hn : (n + 1) * 16 ≤ 140737488355328) (hm : (m + 1) * 32 ≤ 140737488355328)
    (hF : Plain n F) (hG : Plain m G) (Q : Rows → Prop) (hQ : startQ x a v n m F G Q) :
    SafeCall Try.prog R 47 [.ptr false 0 0 0, .int .u8 x] [decU a b 0 v lo hi (.sl false 1 0 n .no) (.sl false 2 0 m .no), some (.gen 38 2 n F), some (.gen 75 3 m G)] fun r h => r = .tup [] ∧ Q h := by
  have h1 : SafeCall Try.prog (base R).R 47 [.ptr false 0 0 0, .int .u8 x] [decU a b 0 v lo hi (.sl false 1 0 n .no) (.sl false 2 0 m .no), some (.gen 38 2 n F), some (.gen 75 3 m G)]
      fun r h => r = .tup [] ∧ ∃ hE, (∃ f, View f hE h ∧ (∀ c, c < 3 → f c = some c) ∧ 3 ≤ hE.length) ∧ Q hE := by
    refine byVcd (base_ok R) (f := 47) (fi := fi47) (by kernel_rfl) 10000 (vc47 R x a b v lo hi n m F G _) ?_
    unfold startQ at hQ
    have cn : capN n 16 = true := by unfold capN; simp; omega
    have cm : capN m 32 = true := by unfold capN; simp; omega
    refine hcond (fun hA => ?_) (fun hA => ?_)
    · rw [hA] at hQ
      rw [cn, cond_true]
      refine tree2_of ?_
      have e : IntKind.i64.wrap x = x := wrap64 x (by omega) (by omega)
      exact ⟨rfl, _, ⟨fA, viewA hF hG _ e, fun c hc => if_pos hc, by simp [rowsA]⟩, hQ⟩
    · rw [hA] at hQ
      have hA' := of_decide_eq_false hA
      simp only [cond_false] at hQ
      have lead : ∀ l y : Int, leftF x = l → l ≠ 0 → valF x = y → tree2 x fun lo hi => AV.tup [] = AV.tup [] ∧ ∃ hE, (∃ f, View f hE [decU a a l y lo hi (.sl false 1 0 n .no) (.sl false 2 0 m .no), some (.gen 38 2 n F), some (.gen 75 3 m G)] ∧ (∀ c, c < 3 → f c = some c) ∧ 3 ≤ hE.length) ∧ Q hE := by
        intro l y hl hl0 hy
        refine tree2_of ?_
        rw [hl, show (l == 0) = false by simpa using hl0] at hQ
        refine ⟨rfl, rowsL x a v n m F G, ⟨some, ?_, fun c hc => rfl, by simp [rowsL]⟩, hQ⟩
        have := viewL_ (x := x) (a := a) (v := v) hF hG
        unfold rowsL at this ⊢
        rw [hl, hy] at this ⊢
        exact this
      refine cond2_of (fun g1 g2 => ?_) (fun g => ?_)
      · have g1 := of_decide_eq_true g1; have g2 := of_decide_eq_true g2
        exact lead 1 _ (by unfold leftF; rw [if_pos ⟨by omega, by omega⟩]) (by decide) (by unfold valF; rw [if_pos (by omega)])
      · refine cond2_of (fun g1 g2 => ?_) (fun g' => ?_)
        · have g1 := of_decide_eq_true g1; have g2 := of_decide_eq_true g2
          exact lead 2 _ (by unfold leftF; rw [if_neg (by omega), if_pos ⟨by omega, by omega⟩]) (by decide) (by unfold valF; rw [if_neg (by omega), if_pos (by omega)])
        · refine cond2_of (fun g1 g2 => ?_) (fun g'' => ?_)
          · have g1 := of_decide_eq_true g1; have g2 := of_decide_eq_true g2
            exact lead 3 _ (by unfold leftF; rw [if_neg (by omega), if_neg (by omega), if_pos ⟨by omega, by omega⟩]) (by decide) (by unfold valF; rw [if_neg (by omega), if_neg (by omega)])
          · have hl : leftF x = 0 := by
              simp at g g' g''
              unfold leftF
              rw [if_neg (by omega), if_neg (by omega), if_neg (by omega)]
            rw [hl] at hQ
            rw [cn, cm, cond_true]
            refine ⟨rfl, ?_⟩
            rw [cond_true]
            refine tree2_of ?_
            exact ⟨rfl, _, ⟨fB, viewB hF hG, fun c hc => if_pos hc, by simp [rowsB]⟩, hQ⟩
  refine h1.fit ?_
  rintro v' h' ⟨rfl, hE, ⟨f, hV, hf, hl⟩, hq⟩
  exact ⟨.tup [], hE, ⟨f, hV, Vw.tupI VwL.nil, hf, hl⟩, rfl, hq⟩
end Go.Dc.Ka
