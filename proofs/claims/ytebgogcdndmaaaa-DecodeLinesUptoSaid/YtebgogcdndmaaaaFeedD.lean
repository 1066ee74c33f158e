/- Feed, where each byte is one scalar: a call of it. -/
import Derived.Test.YtebgogcdndmaaaaFeedC
set_option linter.unusedVariables false
set_option linter.unusedSimpArgs false
namespace Go.Dc.Ka
open Go.Proofs Go.RowKit
set_option maxRecDepth 100000
noncomputable def feedStart (a : Int) (s : List UInt8) : St :=
  ⟨[.ptr false 0 0 0, .str s, .tup [], .tup [], .nils, .nils, .ptr false 2 0 0, .tup [], .tup [], .ptr false 0 0 0, .bool false, .agg (winL.map (AV.int .i64)), .str s, .sl false 3 0 s.length .no, .int .i64 s.length, .int .i64 0,
   .tup [], .tup [], .tup [], .tup [], .tup [], .tup [], .tup [], .tup [], .tup [], .tup [], .tup [], .tup [], .tup [], .tup [], .tup [], .tup [], .tup [], .tup [], .tup [], .tup [], .tup [], .tup [], .tup [], .tup [], .tup [], .tup [], .tup [], .tup [], .tup [], .tup [], .tup [], .tup [],
   .tup [], .tup [], .tup [], .tup [], .tup [], .tup [], .tup [], .tup [], .tup [], .tup [], .tup [], .tup [], .tup [], .tup [], .tup [], .tup []],
   [decRow a .nils, winRow, winRow, some (.byt 5 s)]⟩
def feedV0 : Nat → Option Nat := fun c => if c < 4 then some c else none
theorem startFit (a : Int) (s : List UInt8) : StV feedV0 (feedS a s 0) (feedStart a s) := by
  refine ⟨View.of ?_ ?_, ?_⟩
  · intro c o ho
    have hc : c < 5 := (List.getElem?_eq_some_iff.1 ho).1
    have hN : (feedS a s 0).rows.length = 5 := rfl
    rw [hN]
    rcases (by omega : c = 0 ∨ c = 1 ∨ c = 2 ∨ c = 3 ∨ c = 4) with rfl | rfl | rfl | rfl | rfl
    · simp only [feedS, decRow, List.getElem?_cons_zero, Option.some.injEq] at ho
      subst ho
      refine ViewL.at_ (b := 0) rfl rfl (.lst1 rfl ?_)
      refine .aggI (.cons .boolI (.cons (.intE (by simp)) (.cons .intI (.cons .intI (.cons .intI (.cons .intI (.cons .intI (.cons (.slN (by decide) rfl) (.cons .nilsI .nil)))))))))
    · cases ho
      exact ViewL.at_ (b := 1) rfl rfl (.gnd rfl rfl)
    · cases ho
      exact ViewL.at_ (b := 2) rfl rfl (.gnd rfl rfl)
    · cases ho
      exact ViewL.at_ (b := 3) rfl rfl .byt
    · cases ho
      exact ViewL.void rfl rfl
  · intro c c' b hc hc' e e'
    simp only [feedV0] at e e'
    repeat' split at e
    all_goals repeat' split at e'
    all_goals simp at e e'
    all_goals omega
  · show VwL feedV0 5 (feedT s 0) _
    iterate 64 refine VwL.cons (by first | exact Vw.anyI | exact Vw.intI | exact Vw.strI | exact Vw.nilsI | exact Vw.ptrI (by decide) rfl | exact Vw.slI (by decide) rfl) ?_
    exact VwL.nil
theorem feedLoop (R : Nat → RoRow) (a : Int) (s : List UInt8) (h0 : 0 ≤ a) (h1 : a + s.length ≤ 1099511627776) :
    Safe Try.prog R (.block 0 (.loop (loopOf fi24 0))) (feedStart a s) fun e st => e = .normal ∧ st = feedS a s s.length := by
  have h := loop_block (P := Try.prog) (R := R) (I := {i : Nat // i ≤ s.length}) (fam := fun i => feedS a s i.1) (fun i => s.length - i.1) (X := fun e stE => e = .exit 0 ∧ stE = feedS a s s.length) (id := 0)
    (i0 := ⟨0, Nat.zero_le _⟩) (st := feedStart a s) (f := feedV0) (startFit a s) (fun c hc => if_pos hc) (fun i => by simp [feedS, feedStart]) (feedRound R a s h0 h1)
  refine h.mono ?_
  rintro e st ⟨e0, rfl, rfl, rfl⟩
  exact ⟨rfl, rfl⟩
noncomputable def loop24 : LoopSp := fun st k => match nthV st.tmps 1, st.rows with
  | .str s, some (.lst _ _ [.agg (_ :: .int _ a :: _)]) :: _ => (0 ≤ a ∧ a + s.length ≤ 1099511627776 ∧ st = feedStart a s) ∧ k .normal (feedS a s s.length)
  | _, _ => False
theorem loop24_ok (R : Nat → RoRow) : ∀ st k, loop24 st k → Safe Try.prog R (.block 0 (.loop (loopOf fi24 0))) st k := by
  intro st k hk
  unfold loop24 at hk
  split at hk
  · rename_i s _ _ _ a _ _ _ _
    obtain ⟨⟨h0, h1, h2⟩, h3⟩ := hk
    subst h2
    refine (feedLoop R _ _ h0 h1).mono ?_
    rintro e st' ⟨rfl, rfl⟩
    exact h3
  · exact hk.elim
noncomputable abbrev env24 (R : Nat → RoRow) : Env Prop := (base R).addLoop 24 0 loop24
theorem env24_ok (R : Nat → RoRow) : EnvOK Try.prog (env24 R) id := (base_ok R).addLoop (f := 24) (fi := fi24) (by kernel_rfl) (body := .loop (loopOf fi24 0)) (by kernel_rfl) (loop24_ok R)
end Go.Dc.Ka
