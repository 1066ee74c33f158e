/- Begins, and what the statements of charref ask first. -/
import Derived.Test.YtebgogcdndmaaaaChQ
set_option linter.unusedVariables false
set_option linter.unusedSimpArgs false
namespace Go.Dc.Ka
open Go.Proofs Go.RowKit
set_option maxRecDepth 100000
theorem vc26 (R : Nat → RoRow) (Q : AV → Prop) : vcd (env6 R) 10000 26 fi26 [] [] (fun v _ => Q v) = Q (AV.bool true) := by kernel_rfl
theorem safe26 (R : Nat → RoRow) : SafeCall Try.prog R 26 [] [] fun v _ => v = .bool true :=
  byVcd (env6_ok R) (f := 26) (fi := fi26) (by kernel_rfl) 10000 (vc26 R (fun v => v = .bool true)) rfl
noncomputable def begJ (j : Nat) (s : List UInt8) : Bool := Nat.blt j 109 && (Nat.ble s.length (nameAt j).length && ((nameAt j).take s.length == s))
noncomputable def begF (s : List UInt8) : Bool := begJ (findI s + bif findB s then 1 else 0) s
noncomputable abbrev env29 (R : Nat → RoRow) : Env Prop := (envT R).addCall 36 spec36
theorem env29_ok (R : Nat → RoRow) : EnvOK Try.prog (env29 R) id := (envT_ok R).addCall (f := 36) (fi := fi36) (by kernel_rfl) (spec36_ok R)
theorem vc29 (R : Nat → RoRow) (s : List UInt8) (Q : AV → Prop) : vcd (env29 R) 10000 29 fi29 [.str s] [] (fun v _ => Q v) =
  (tabRowsG 0 = tabRowsG 0 ∧ bif findB s then
    bif decide (IntKind.i64.wrap ((findI s : Int) + 1) < 109) then
      bif decide (0 ≤ IntKind.i64.wrap ((findI s : Int) + 1)) && decide (IntKind.i64.wrap ((findI s : Int) + 1) < 109) then
        bif decide (0 + (IntKind.i64.wrap ((findI s : Int) + 1)).toNat < 109) then
          bif decide (((nameAt (0 + (IntKind.i64.wrap ((findI s : Int) + 1)).toNat)).length : Int) ≥ (s.length : Int)) then
            bif slCond none (some (s.length : Int)) (nameAt (0 + (IntKind.i64.wrap ((findI s : Int) + 1)).toNat)).length then
              Q (AV.bool (List.take (slHi (nameAt (0 + (IntKind.i64.wrap ((findI s : Int) + 1)).toNat)).length (some (s.length : Int)) - 0) (List.drop 0 (nameAt (0 + (IntKind.i64.wrap ((findI s : Int) + 1)).toNat))) == s))
            else False
          else Q (AV.bool false)
        else False
      else False
    else Q (AV.bool false)
  else
    bif decide ((findI s : Int) < 109) then
      bif decide (0 ≤ (findI s : Int)) && decide ((findI s : Int) < 109) then
        bif decide (0 + (findI s : Int).toNat < 109) then
          bif decide (((nameAt (0 + (findI s : Int).toNat)).length : Int) ≥ (s.length : Int)) then
            bif slCond none (some (s.length : Int)) (nameAt (0 + (findI s : Int).toNat)).length then
              Q (AV.bool (List.take (slHi (nameAt (0 + (findI s : Int).toNat)).length (some (s.length : Int)) - 0) (List.drop 0 (nameAt (0 + (findI s : Int).toNat))) == s))
            else False
          else Q (AV.bool false)
        else False
      else False
    else Q (AV.bool false)) := by kernel_rfl
theorem begTree (j : Nat) (x : Int) (hx : x = (j : Int)) (s : List UInt8) (Q : AV → Prop) (hQ : Q (.bool (begJ j s))) :
    bif decide (x < 109) then
      bif decide (0 ≤ x) && decide (x < 109) then
        bif decide (0 + x.toNat < 109) then
          bif decide (((nameAt (0 + x.toNat)).length : Int) ≥ (s.length : Int)) then
            bif slCond none (some (s.length : Int)) (nameAt (0 + x.toNat)).length then
              Q (AV.bool (List.take (slHi (nameAt (0 + x.toNat)).length (some (s.length : Int)) - 0) (List.drop 0 (nameAt (0 + x.toNat))) == s))
            else False
          else Q (AV.bool false)
        else False
      else False
    else Q (AV.bool false) := by
  subst hx
  have e0 : 0 + (j : Int).toNat = j := by simp
  rw [e0]
  unfold begJ at hQ
  refine hcond (fun h1 => ?_) (fun h1 => ?_)
  · have h1 := of_decide_eq_true h1
    rw [show Nat.blt j 109 = true by simp [Nat.blt_eq]; omega, Bool.true_and] at hQ
    refine hcond (fun _ => ?_) (fun h => by exfalso; simp at h; omega)
    refine hcond (fun _ => ?_) (fun h => by exfalso; simp at h; omega)
    refine hcond (fun h2 => ?_) (fun h2 => ?_)
    · have h2 := of_decide_eq_true h2
      rw [show Nat.ble s.length (nameAt j).length = true by simp [Nat.ble_eq]; omega, Bool.true_and] at hQ
      refine hcond (fun _ => ?_) (fun h => by exfalso; simp [slCond] at h; omega)
      simpa [slHi] using hQ
    · have h2 := of_decide_eq_false h2
      rw [show Nat.ble s.length (nameAt j).length = false by rw [Bool.eq_false_iff]; simp [Nat.ble_eq]; omega, Bool.false_and] at hQ
      exact hQ
  · have h1 := of_decide_eq_false h1
    rw [show Nat.blt j 109 = false by rw [Bool.eq_false_iff]; simp [Nat.blt_eq]; omega, Bool.false_and] at hQ
    exact hQ
theorem bsI_le (s : List UInt8) : ∀ f lo hi, lo ≤ hi → bsI s f lo hi ≤ hi
  | 0, lo, hi, h => h
  | f + 1, lo, hi, h => by
    show (bif Nat.blt lo hi then bif decide (Lib.compareBytes (nameAt ((lo + hi) / 2)) s < 0) then bsI s f ((lo + hi) / 2 + 1) hi else bsI s f lo ((lo + hi) / 2) else lo) ≤ hi
    cases hb : Nat.blt lo hi with
    | false => exact h
    | true =>
      have hlt : lo < hi := by simpa [Nat.blt_eq] using hb
      cases decide (Lib.compareBytes (nameAt ((lo + hi) / 2)) s < 0) with
      | true => exact bsI_le s f _ _ (by omega)
      | false => exact Nat.le_trans (bsI_le s f lo _ (by omega)) (by omega)
theorem findI_le (s : List UInt8) : findI s ≤ 109 := bsI_le s 8 0 109 (by omega)
theorem safe29 (R : Nat → RoRow) (s : List UInt8) : SafeCall Try.prog R 29 [.str s] [] fun v _ => v = .bool (begF s) := by
  refine byVcd (env29_ok R) (f := 29) (fi := fi29) (by kernel_rfl) 10000 (vc29 R s (fun v => v = .bool (begF s))) ⟨rfl, ?_⟩
  have hle := findI_le s
  unfold begF
  cases hB : findB s with
  | true => exact begTree (findI s + 1) _ (by rw [wrap64 ((findI s : Int) + 1) (by omega) (by omega)]; omega) s (fun v => v = .bool (begJ (findI s + 1) s)) rfl
  | false => exact begTree (findI s) _ rfl s (fun v => v = .bool (begJ (findI s + 0) s)) rfl
noncomputable def spec29 : CallSpec := fun args h k => match args with
  | [.str s] => k (.bool (begF s)) h
  | _ => False
theorem spec29_ok (R : Nat → RoRow) : ∀ args h k, spec29 args h k → SafeCall Try.prog R 29 args h k := by
  intro args h k hk
  unfold spec29 at hk
  split at hk
  · rename_i s
    refine ((safe29 R s).alone (by kernel_rfl) (fun v hv => by rw [hv]; rfl) h).mono ?_
    rintro v' h' ⟨rfl, rfl⟩
    exact hk
  · exact hk.elim
noncomputable abbrev env11 (R : Nat → RoRow) : Env Prop := (((base R).addCall 21 spec21).addCall 26 isTrue).addCall 29 spec29
theorem env11_ok (R : Nat → RoRow) : EnvOK Try.prog (env11 R) id :=
  (((base_ok R).addCall (f := 21) (fi := fi21) (by kernel_rfl) (spec21_ok R)).addCall (f := 26) (fi := fi26) (by kernel_rfl) (isTrue_ok (safe26 R))).addCall (f := 29) (fi := fi29) (by kernel_rfl) (spec29_ok R)
end Go.Dc.Ka
