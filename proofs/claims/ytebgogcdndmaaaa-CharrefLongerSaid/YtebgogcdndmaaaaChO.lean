/- Longest: a call of it. -/
import Derived.Test.YtebgogcdndmaaaaChN
set_option linter.unusedVariables false
set_option linter.unusedSimpArgs false
namespace Go.Dc.Ka
open Go.Proofs Go.RowKit
set_option maxRecDepth 100000
def minI (s : List UInt8) : Int := if false = true then if (s.length : Int) > 14 then (s.length : Int) else 14 else if (s.length : Int) < 14 then (s.length : Int) else 14
theorem minI_eq (s : List UInt8) : minI s = ((min 14 s.length : Nat) : Int) := by
  unfold minI
  rw [if_neg (by simp)]
  split <;> omega
noncomputable def start2 (s : List UInt8) : St := ⟨[.str s, .any, .str [], .nils, .sl false 109 0 109 true, .int .i64 14, .any, .any, .int .i64 (minI s)] ++ List.replicate 15 .any ++ [.int .i64 14, .str s, .int .i64 s.length, .int .i64 (minI s)] ++ List.replicate 23 .any, tabRowsG 0⟩
theorem safeLoop2 (R : Nat → RoRow) (s : List UInt8) : Safe Try.prog R (.block 2 (.loop (loopOf fi21 2))) (start2 s) fun e st => (e = .normal ∧ lf s = none ∧ st = fam2 s 0) ∨ (e = .ret ∧ ∃ i, lf s = some i ∧ st = retS i) := by
  have hG : (tabRowsG 0).length = 110 := by kernel_rfl
  have h := loop_block (P := Try.prog) (R := R) (I := {n : Nat // n ≤ 14 ∧ n ≤ s.length ∧ lfrom s n = lf s}) (fam := fun n => fam2 s n.1) (fun n => n.1)
    (X := fun e stE => (e = .exit 2 ∧ lf s = none ∧ stE = fam2 s 0) ∨ (e = .ret ∧ ∃ i, lf s = some i ∧ stE = retS i)) (id := 2)
    (i0 := ⟨min 14 s.length, Nat.min_le_left _ _, Nat.min_le_right _ _, rfl⟩) (st := start2 s) (f := some)
    ⟨viewG, by
      show VwL some (tabRowsG 0).length (fam2 s (min 14 s.length)).tmps _
      rw [hG]
      iterate 51 refine VwL.cons (by first | exact Vw.anyI | exact Vw.intI | exact Vw.strI | exact Vw.nilsI | exact Vw.slI (by omega) rfl | exact Vw.intE (minI_eq s)) ?_
      exact VwL.nil⟩ (fun c hc => rfl) (fun n => Nat.le_refl _) (by
      intro n
      show Safe Try.prog R (loopOf fi21 2) (fam2 s n.1) _
      have hN : (start2 s).rows.length = 110 := hG
      rw [hN]
      exact loopRound R s n)
  refine h.mono ?_
  rintro e st ⟨e0, rfl, ⟨rfl, h1, rfl⟩ | ⟨rfl, h1⟩⟩
  · exact .inl ⟨rfl, h1, rfl⟩
  · exact .inr ⟨rfl, h1⟩
noncomputable def loop2 : LoopSp := fun st k => match nthV st.tmps 0 with
  | .str s => st = start2 s ∧ bif (lf s).isSome then k .ret (retS ((lf s).getD 0)) else k .normal (fam2 s 0)
  | _ => False
theorem loop2_ok (R : Nat → RoRow) : ∀ st k, loop2 st k → Safe Try.prog R (.block 2 (.loop (loopOf fi21 2))) st k := by
  intro st k hk
  unfold loop2 at hk
  split at hk
  · rename_i s _
    obtain ⟨rfl, hk⟩ := hk
    refine (safeLoop2 R s).mono ?_
    rintro e st' (⟨rfl, h1, rfl⟩ | ⟨rfl, i, h1, rfl⟩)
    · rw [h1] at hk; exact hk
    · rw [h1] at hk; exact hk
  · exact hk.elim
noncomputable abbrev env21b (R : Nat → RoRow) : Env Prop := (env21 R).addLoop 21 2 loop2
theorem env21b_ok (R : Nat → RoRow) : EnvOK Try.prog (env21b R) id := (env21_ok R).addLoop (f := 21) (fi := fi21) (by kernel_rfl) (body := .loop (loopOf fi21 2)) (by kernel_rfl) (loop2_ok R)
theorem vc21 (R : Nat → RoRow) (s : List UInt8) (Q : AV → Rows → Prop) : vcd (env21b R) 10000 21 fi21 [.str s] [] Q =
    (start1 s = start1 s ∧ start2 s = start2 s ∧ bif (lf s).isSome then Q (.tup [.str (nameAt ((lf s).getD 0)), .sl false ((lf s).getD 0) 0 (scAt ((lf s).getD 0)).length true]) (tabRowsG 0) else Q (.tup [.str [], .nils]) (tabRowsG 0)) := by kernel_rfl
end Go.Dc.Ka
