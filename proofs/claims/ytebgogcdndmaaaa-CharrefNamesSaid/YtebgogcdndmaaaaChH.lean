/- The table of names, told by its places. -/
import Derived.Test.YtebgogcdndmaaaaChB
set_option linter.unusedVariables false
set_option linter.unusedSimpArgs false
namespace Go.Dc.Ka
open Go.Proofs Go.RowKit
set_option maxRecDepth 100000
noncomputable def nameAt (i : Nat) : List UInt8 := (tab.getD i ([], [])).1
noncomputable def scAt (i : Nat) : List Int := (tab.getD i ([], [])).2
noncomputable def tabG (N i : Nat) : AV := .agg [.str (nameAt i), .sl false (N + i) 0 (scAt i).length true]
noncomputable def tabRowsG (N : Nat) : Rows := (tab.map fun e => some (Row.lst 3 1 (e.2.map (AV.int .i64)))) ++ [some (.gen 58 2 109 (tabG N))]
theorem tab_len : tab.length = 109 := by kernel_rfl
theorem tabGo_get (N : Nat) : ∀ (l : List (List UInt8 × List Int)) (k i : Nat), (tabGo N k l)[i]? = (l[i]?).map fun e => AV.agg [.str e.1, .sl false (N + (k + i)) 0 e.2.length true]
  | [], k, i => by simp [tabGo]
  | e :: l, k, 0 => by simp [tabGo]
  | e :: l, k, i + 1 => by
    simp only [tabGo, List.getElem?_cons_succ]
    rw [tabGo_get N l (k + 1) i]
    rw [show k + 1 + i = k + (i + 1) by omega]
theorem tabGo_at (N i : Nat) (hi : i < 109) : (tabGo N 0 tab)[i]? = some (tabG N i) := by
  rw [tabGo_get]
  have h : tab[i]? = some (tab.getD i ([], [])) := by
    rw [List.getD, List.getElem?_eq_getElem (by rw [tab_len]; exact hi)]
    rfl
  rw [h]
  simp only [Option.map_some, Nat.zero_add]
  rfl
theorem tabGo_len (N : Nat) : ∀ (l : List (List UInt8 × List Int)) (k : Nat), (tabGo N k l).length = l.length
  | [], k => rfl
  | e :: l, k => by simp only [tabGo, List.length_cons]; rw [tabGo_len N l]
theorem gndInts (f : Nat → Option Nat) (n : Nat) (l : List Int) : RowV f n (.lst 3 1 (l.map (AV.int .i64))) (.lst 3 1 (l.map (AV.int .i64))) where
  ty := rfl
  esz := rfl
  len := rfl
  get := fun i e he => by
    simp only [Row.get?, List.getElem?_map] at he ⊢
    obtain ⟨x, hx, rfl⟩ := Option.map_eq_some_iff.1 he
    rw [hx]
    exact ⟨by simp [AV.cells, AV.one], _, rfl, .intI⟩
theorem tabView : View some (tabRowsG 0) (tabRows 0) := by
  have hG : (tabRowsG 0).length = 110 := by kernel_rfl
  have hL : (tabRows 0).length = 110 := by kernel_rfl
  have hm : (tab.map fun e => some (Row.lst 3 1 (e.2.map (AV.int .i64)))).length = 109 := by rw [List.length_map, tab_len]
  refine View.of ?_ (fun c c' b _ _ h1 h2 => by simp at h1 h2; omega)
  intro c o ho
  have hc : c < 110 := by rw [← hG]; exact (List.getElem?_eq_some_iff.1 ho).1
  rw [hG]
  rcases (by omega : c < 109 ∨ c = 109) with h | rfl
  · unfold tabRowsG at ho
    rw [List.getElem?_append_left (by rw [hm]; exact h), List.getElem?_map] at ho
    obtain ⟨e, he, rfl⟩ := Option.map_eq_some_iff.1 ho
    refine ViewL.at_ (b := c) rfl ?_ (gndInts _ _ _)
    unfold tabRows
    rw [List.getElem?_append_left (by rw [hm]; exact h), List.getElem?_map, he]
    rfl
  · unfold tabRowsG at ho
    rw [List.getElem?_append_right (by rw [hm]; exact Nat.le_refl _), hm] at ho
    cases ho
    refine ViewL.at_ (b := 109) (r' := .lst 58 2 (tabGo 0 0 tab)) rfl ?_ ⟨rfl, rfl, ?_, ?_⟩
    · unfold tabRows
      rw [List.getElem?_append_right (by rw [hm]; exact Nat.le_refl _), hm]
      rfl
    · simp only [Row.len]; rw [tabGo_len, tab_len]
    · intro i e he
      simp only [Row.get?] at he ⊢
      cases hb : Nat.blt i 109 with
      | false => rw [hb] at he; simp at he
      | true =>
        rw [hb] at he
        simp only [cond_true, Option.some.injEq] at he
        subst he
        have hi : i < 109 := by simpa [Nat.blt_eq] using hb
        refine ⟨by simp [tabG, AV.cells, AV.one], tabG 0 i, tabGo_at 0 i hi, ?_⟩
        exact .aggI (.cons .strI (.cons (.slI (by omega) rfl) .nil))
noncomputable def spec35g : CallSpec := fun args h k => match args with
  | [] => k (.sl false (h.length + 109) 0 109 true) (h ++ tabRowsG h.length)
  | _ => False
theorem shift_tabG (N : Nat) : shiftRows N (tabRowsG 0) = tabRowsG N := by
  unfold shiftRows tabRowsG
  rw [List.map_append, List.map_map]
  refine congr (congrArg _ ?_) ?_
  · refine List.map_congr_left fun e _ => ?_
    simp only [Function.comp, renRow, List.map_map]
    rfl
  · show [some (Row.gen 58 2 109 fun i => ren (fun c => N + c) (tabG 0 i))] = [some (Row.gen 58 2 109 (tabG N))]
    have : (fun i => ren (fun c => N + c) (tabG 0 i)) = tabG N := by
      funext i
      simp only [tabG, ren, renL, cond_false, Nat.zero_add]
    rw [this]
theorem spec35g_ok (R : Nat → RoRow) : ∀ args h k, spec35g args h k → SafeCall Try.prog R 35 args h k := by
  intro args h k hk
  cases args with
  | cons a l => exact hk.elim
  | nil =>
    have h0 : SafeCall Try.prog R 35 [] [] fun v h' => v = .sl false 109 0 109 true ∧ h' = tabRows 0 := by
      refine SafeCall.vcd mixed (base_ok R) (f := 35) (fi := fi35) rfl 1000 ?_
      rw [vc35]
      exact ⟨rfl, rfl⟩
    have h1 : SafeCall Try.prog R 35 [] [] fun v h' => v = .sl false 109 0 109 true ∧ h' = tabRowsG 0 := by
      refine h0.fit ?_
      rintro v h' ⟨rfl, rfl⟩
      refine ⟨_, _, ⟨some, tabView, ?_, fun c hc => rfl, Nat.zero_le _⟩, rfl, rfl⟩
      exact .slI (by rw [show (tabRowsG 0).length = 110 by kernel_rfl]; omega) rfl
    refine (h1.fresh (by simp [VwL]) h).mono ?_
    rintro v'' h'' ⟨v', h', ⟨rfl, rfl⟩, rfl, rfl⟩
    rw [shift_tabG]
    exact hk
noncomputable abbrev envT (R : Nat → RoRow) : Env Prop := ((base R).addCall 35 spec35g).addCall 49 spec49
theorem envT_ok (R : Nat → RoRow) : EnvOK Try.prog (envT R) id :=
  ((base_ok R).addCall (f := 35) (fi := fi35) (by kernel_rfl) (spec35g_ok R)).addCall (f := 49) (fi := fi49) (by kernel_rfl) (spec49_ok R)
end Go.Dc.Ka
