/- Longest: its second loop. -/
import Derived.Test.YtebgogcdndmaaaaChK
set_option linter.unusedVariables false
set_option linter.unusedSimpArgs false
namespace Go.Dc.Ka
open Go.Proofs Go.RowKit
set_option maxRecDepth 100000
noncomputable def spec36 : CallSpec := fun args h k => match args with
  | [.sl false 109 0 109 true, .str s] => h = tabRowsG 0 ∧ k (.tup [.int .i64 (findI s), .bool (findB s)]) h
  | _ => False
theorem spec36_ok (R : Nat → RoRow) : ∀ args h k, spec36 args h k → SafeCall Try.prog R 36 args h k := by
  intro args h k hk
  unfold spec36 at hk
  split at hk
  · rename_i s
    obtain ⟨rfl, hk⟩ := hk
    refine byVcd (envJ_ok R) (f := 36) (fi := fi36) (by kernel_rfl) 1000 (vc36 R s k) ?_
    rw [bsQ_eq]
    exact hk
  · exact hk.elim
theorem safeLoop1 (R : Nat → RoRow) (s : List UInt8) : Safe Try.prog R (.block 0 (.loop (loopOf fi21 0))) (start1 s) fun e st => e = .normal ∧ st = end1 s := by
  have h1 : Safe Try.prog R (.loop (loopOf fi21 0)) (start1 s) fun e st => e = .exit 0 ∧ st = ⟨T1 s, tabRowsG 0 ++ junk1⟩ := by
    refine Safe.rnd mixed (envJ_ok R) (f := 21) (fi := fi21) (i := 0) (b := .loop (loopOf fi21 0)) (by kernel_rfl) (by kernel_rfl) rfl 10000 ?_
    rw [run1]
    exact ⟨rfl, rfl⟩
  have h2 : Safe Try.prog R (.loop (loopOf fi21 0)) (start1 s) fun e st => (e = .exit 0 ∧ st.tmps = (end1 s).tmps) ∧ st.rows = (start1 s).rows := by
    refine Safe.trim (X := fun e T => e = .exit 0 ∧ T = (end1 s).tmps) (h1.mono ?_)
    rintro e st ⟨rfl, rfl⟩
    refine ⟨(end1 s).tmps, ⟨rfl, rfl⟩, ⟨junk1, rfl⟩, ?_⟩
    show VwL some (tabRowsG 0).length _ (T1 s)
    rw [show (tabRowsG 0).length = 110 by kernel_rfl]
    iterate 51 refine VwL.cons (by first | exact Vw.anyI | exact Vw.intI | exact Vw.strI | exact Vw.nilsI | exact Vw.slI (by decide) rfl) ?_
    exact VwL.nil
  refine Safe.block (h2.mono ?_)
  rintro e ⟨T, h⟩ ⟨⟨rfl, h3⟩, h4⟩
  simp only at h3 h4
  subst h3 h4
  exact ⟨rfl, rfl⟩
noncomputable def loop1 : LoopSp := fun st k => match nthV st.tmps 0 with
  | .str s => st = start1 s ∧ k .normal (end1 s)
  | _ => False
theorem loop1_ok (R : Nat → RoRow) : ∀ st k, loop1 st k → Safe Try.prog R (.block 0 (.loop (loopOf fi21 0))) st k := by
  intro st k hk
  unfold loop1 at hk
  split at hk
  · rename_i s _
    obtain ⟨rfl, hk⟩ := hk
    refine (safeLoop1 R s).mono ?_
    rintro e st' ⟨rfl, rfl⟩
    exact hk
  · exact hk.elim
noncomputable abbrev env21 (R : Nat → RoRow) : Env Prop := ((envJ R).addCall 36 spec36).addLoop 21 0 loop1
theorem env21_ok (R : Nat → RoRow) : EnvOK Try.prog (env21 R) id := ((envJ_ok R).addCall (f := 36) (fi := fi36) (by kernel_rfl) (spec36_ok R)).addLoop (f := 21) (fi := fi21) (by kernel_rfl) (body := .loop (loopOf fi21 0)) (by kernel_rfl) (loop1_ok R)
noncomputable def fam2 (s : List UInt8) (n : Nat) : St := ⟨[.str s, .any, .str [], .nils, .sl false 109 0 109 true, .any, .any, .any, .int .i64 n] ++ List.replicate 42 .any, tabRowsG 0⟩
end Go.Dc.Ka
