/- Names: its contract. -/
import Derived.Test.YtebgogcdndmaaaaChP
set_option linter.unusedVariables false
set_option linter.unusedSimpArgs false
namespace Go.Dc.Ka
open Go.Proofs Go.RowKit
set_option maxRecDepth 100000
def atRow (P : AV → Option Row → Prop) (v : AV) (h : Rows) : Prop := match v with
  | .sl _ b _ _ _ => P v (h.live b)
  | _ => False
theorem vc20 (R : Nat → RoRow) (P : AV → Option Row → Prop) : vcd (envT R) 10000 20 fi20 [] [] (atRow P) = P (.sl false 436 0 109 false) (some (.lst 9 1 (tab.map fun e => .str e.1))) := by kernel_rfl
noncomputable def nrow : Option Row := some (.gen 9 1 109 fun i => .str (nameAt i))
theorem safe20 (R : Nat → RoRow) : SafeCall Try.prog R 20 [] [] fun v h => v = .sl false 0 0 109 false ∧ h = [nrow] := by
  have h0 : SafeCall Try.prog (envT R).R 20 [] [] (atRow fun v o => v = .sl false 436 0 109 false ∧ o = some (.lst 9 1 (tab.map fun e => .str e.1))) :=
    byVcd (envT_ok R) (f := 20) (fi := fi20) (by kernel_rfl) 10000 (vc20 R _) ⟨rfl, rfl⟩
  refine h0.fit ?_
  intro v h hq
  unfold atRow at hq
  split at hq
  · obtain ⟨hv, hl⟩ := hq
    cases hv
    have hb : h[436]? = some (some (.lst 9 1 (tab.map fun e => .str e.1))) := by
      unfold Rows.live at hl
      cases e : h[436]? with
      | none => rw [e] at hl; simp at hl
      | some o => rw [e] at hl; simp only [Option.join_some] at hl; rw [hl]
    refine ⟨_, _, ⟨fun c => some 436, View.of ?_ ?_, ?_, fun c hc => absurd hc (Nat.not_lt_zero c), Nat.zero_le _⟩, rfl, rfl⟩
    · intro c o ho
      cases c with
      | zero =>
        simp only [List.getElem?_cons_zero, Option.some.injEq, nrow] at ho
        subst ho
        refine ViewL.at_ (b := 436) rfl hb ⟨rfl, rfl, by simp [Row.len, tab_len], ?_⟩
        intro i e he
        simp only [Row.get?] at he ⊢
        cases hlt : Nat.blt i 109 with
        | false => rw [hlt] at he; simp at he
        | true =>
          rw [hlt] at he
          simp only [cond_true, Option.some.injEq] at he
          subst he
          have hi : i < 109 := by simpa [Nat.blt_eq] using hlt
          refine ⟨by simp [AV.cells, AV.one], .str (nameAt i), ?_, .strI⟩
          have h : tab[i]? = some (tab.getD i ([], [])) := by
            rw [List.getD, List.getElem?_eq_getElem (by rw [tab_len]; exact hi)]
            rfl
          rw [List.getElem?_map, h]
          rfl
      | succ c => simp at ho
    · intro c c' b hc hc' _ _
      simp at hc hc'
      omega
    · exact .slI (by simp) rfl
  · exact hq.elim
noncomputable def spec20 : CallSpec := fun args h k => match args with
  | [] => k (.sl false h.length 0 109 false) (h ++ [nrow])
  | _ => False
theorem spec20_ok (R : Nat → RoRow) : ∀ args h k, spec20 args h k → SafeCall Try.prog R 20 args h k := by
  intro args h k hk
  unfold spec20 at hk
  split at hk
  · refine ((safe20 R).fresh .nil h).mono ?_
    rintro v'' h'' ⟨v', h', ⟨rfl, rfl⟩, rfl, rfl⟩
    exact hk
  · exact hk.elim
noncomputable abbrev env6 (R : Nat → RoRow) : Env Prop := ((base R).addCall 20 spec20).addCall 21 spec21
theorem env6_ok (R : Nat → RoRow) : EnvOK Try.prog (env6 R) id :=
  ((base_ok R).addCall (f := 20) (fi := fi20) (by kernel_rfl) (spec20_ok R)).addCall (f := 21) (fi := fi21) (by kernel_rfl) (spec21_ok R)
end Go.Dc.Ka
