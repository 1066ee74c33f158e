/- Longest: its contract. -/
import Derived.Test.YtebgogcdndmaaaaChO
set_option linter.unusedVariables false
set_option linter.unusedSimpArgs false
namespace Go.Dc.Ka
open Go.Proofs Go.RowKit
set_option maxRecDepth 100000
theorem lfrom_lt {s : List UInt8} : ∀ {n i : Nat}, lfrom s n = some i → i < 109
  | 0, i, h => by simp [lfrom] at h
  | n + 1, i, h => by
    have h' : (bif findB (s.take (n + 1)) then some (findI (s.take (n + 1))) else lfrom s n) = some i := h
    cases hb : findB (s.take (n + 1)) with
    | true => rw [hb] at h'; simp only [cond_true, Option.some.injEq] at h'; rw [← h']; exact findI_lt hb
    | false => rw [hb] at h'; exact lfrom_lt h'
noncomputable def lname (s : List UInt8) : List UInt8 := match lf s with | some i => nameAt i | none => []
noncomputable def lsca (s : List UInt8) : List Int := match lf s with | some i => scAt i | none => []
noncomputable def lrow (s : List UInt8) : Option Row := some (.gen 3 1 (lsca s).length fun j => .int .i64 ((lsca s).getD j 0))
theorem tab_row (i : Nat) (hi : i < 109) : (tabRowsG 0)[i]? = some (some (.lst 3 1 ((scAt i).map (AV.int .i64)))) := by
  have hm : (tab.map fun e => some (Row.lst 3 1 (e.2.map (AV.int .i64)))).length = 109 := by rw [List.length_map, tab_len]
  unfold tabRowsG
  rw [List.getElem?_append_left (by rw [hm]; exact hi), List.getElem?_map]
  have h : tab[i]? = some (tab.getD i ([], [])) := by
    rw [List.getD, List.getElem?_eq_getElem (by rw [tab_len]; exact hi)]
    rfl
  rw [h]
  rfl
theorem safe21 (R : Nat → RoRow) (s : List UInt8) : SafeCall Try.prog R 21 [.str s] [] fun v h => v = .tup [.str (lname s), .sl false 0 0 (lsca s).length false] ∧ h = [lrow s] := by
  have h0 : SafeCall Try.prog (env21b R).R 21 [.str s] [] fun v h => (∃ i, lf s = some i ∧ v = .tup [.str (nameAt i), .sl false i 0 (scAt i).length true] ∧ h = tabRowsG 0) ∨ (lf s = none ∧ v = .tup [.str [], .nils] ∧ h = tabRowsG 0) := by
    refine byVcd (env21b_ok R) (f := 21) (fi := fi21) (by kernel_rfl) 10000 (vc21 R s _) ⟨rfl, rfl, ?_⟩
    cases h : lf s with
    | some i => exact .inl ⟨i, rfl, rfl, rfl⟩
    | none => exact .inr ⟨rfl, rfl, rfl⟩
  refine h0.fit ?_
  rintro v h (⟨i, hi, rfl, rfl⟩ | ⟨hi, rfl, rfl⟩)
  · have hlt := lfrom_lt hi
    have e1 : lname s = nameAt i := by unfold lname; rw [hi]
    have e2 : lsca s = scAt i := by unfold lsca; rw [hi]
    refine ⟨_, _, ⟨fun c => some i, View.of ?_ ?_, ?_, fun c hc => absurd hc (Nat.not_lt_zero c), Nat.zero_le _⟩, rfl, rfl⟩
    · intro c o ho
      cases c with
      | zero =>
        simp only [List.getElem?_cons_zero, Option.some.injEq, lrow, e2] at ho
        subst ho
        exact ViewL.at_ (b := i) rfl (tab_row i hlt) (genInts _ _ _)
      | succ c => simp at ho
    · intro c c' b hc hc' _ _
      simp at hc hc'
      omega
    · rw [e1, e2]
      exact .tupI (.cons .strI (.cons (.slE (by simp) rfl) .nil))
  · have e1 : lname s = [] := by unfold lname; rw [hi]
    have e2 : lsca s = [] := by unfold lsca; rw [hi]
    refine ⟨_, _, ⟨fun c => Option.none, View.of ?_ ?_, ?_, fun c hc => absurd hc (Nat.not_lt_zero c), Nat.zero_le _⟩, rfl, rfl⟩
    · intro c o ho
      cases c with
      | zero =>
        simp only [List.getElem?_cons_zero, Option.some.injEq, lrow, e2] at ho
        subst ho
        exact ViewL.void rfl rfl
      | succ c => simp at ho
    · intro c c' b hc hc' h1 _
      simp at h1
    · rw [e1, e2]
      exact .tupI (.cons .strI (.cons (.slV (by simp) rfl) .nil))
noncomputable def spec21 : CallSpec := fun args h k => match args with
  | [.str s] => k (.tup [.str (lname s), .sl false h.length 0 (lsca s).length false]) (h ++ [lrow s])
  | _ => False
theorem spec21_ok (R : Nat → RoRow) : ∀ args h k, spec21 args h k → SafeCall Try.prog R 21 args h k := by
  intro args h k hk
  unfold spec21 at hk
  split at hk
  · rename_i s
    refine ((safe21 R s).fresh (.cons .strI .nil) h).mono ?_
    rintro v'' h'' ⟨v', h', ⟨rfl, rfl⟩, rfl, rfl⟩
    exact hk
  · exact hk.elim
end Go.Dc.Ka
