/- What the statements of charref ask first is true; the scalars of numbers. -/
import Derived.Test.YtebgogcdndmaaaaChF
namespace Go.Dc.YtebgogcdndmaaaaE
set_option linter.unusedSimpArgs false
set_option linter.unusedVariables false
open Go.Proofs Go.RowKit
set_option maxRecDepth 100000
theorem vc26 (R : Nat → RoRow) (Q : AV → Prop) : vcd (env1 R) 10000 26 fi26 [] [] (fun v _ => Q v) = (AV.sl false 70 0 1 true = AV.sl false 70 0 1 true ∧ AV.ptr false 109 70 0 = AV.ptr false 109 70 0 ∧ Q (AV.bool true)) := by kernel_rfl
theorem hf26 (R : Nat → RoRow) : (env1 R).F 26 = some fi26 := by kernel_rfl
def spec26 : CallSpec := fun args h k => match args with
  | [] => k (.bool true) h
  | _ => False
theorem spec26_ok (R : Nat → RoRow) : ∀ args h k, spec26 args h k → SafeCall Try.prog (base R).R 26 args h k := by
  intro args h k hk
  unfold spec26 at hk
  split at hk
  · have h1 : SafeCall Try.prog (env1 R).R 26 [] [] fun v _ => v = .bool true := byVcd (env1_ok R) (hf26 R) 10000 (vc26 R (fun v => v = .bool true)) ⟨rfl, rfl, rfl⟩
    refine (h1.alone (by kernel_rfl) (fun v hv => by rw [hv]; rfl) h).mono ?_
    rintro v' h' ⟨rfl, rfl⟩
    exact hk
  · exact hk.elim
noncomputable abbrev env14 (R : Nat → RoRow) : Env Prop := (env12 R).addCall 26 spec26
theorem env14_ok (R : Nat → RoRow) : EnvOK Try.prog (env14 R) id := (env12_ok R).addCall (f := 26) (fi := fi26) (by kernel_rfl) (spec26_ok R)
theorem vc14 (R : Nat → RoRow) (n : Int) (Q : AV → Prop) : vcd (env14 R) 10000 14 fi14 [.int .i64 n] [] (fun v _ => Q v) =
  bif decide (n < 0) then
    bif decide ((numF (IntKind.i64.wrap (0 - IntKind.i64.wrap (n + 1)))).fst > 0) then
      bif decide ((numF (IntKind.i64.wrap (0 - IntKind.i64.wrap (n + 1)))).fst ≤ 1114111) then
        bif decide ((numF (IntKind.i64.wrap (0 - IntKind.i64.wrap (n + 1)))).fst < 55296) then
          bif
              (numF (IntKind.i64.wrap (0 - IntKind.i64.wrap (n + 1)))).fst ==
                IntKind.i64.wrap (0 - IntKind.i64.wrap (n + 1)) then
            Q (AV.bool true)
          else Q (AV.bool ((numF (IntKind.i64.wrap (0 - IntKind.i64.wrap (n + 1)))).snd != 0))
        else
          bif decide ((numF (IntKind.i64.wrap (0 - IntKind.i64.wrap (n + 1)))).fst > 57343) then
            bif
                (numF (IntKind.i64.wrap (0 - IntKind.i64.wrap (n + 1)))).fst ==
                  IntKind.i64.wrap (0 - IntKind.i64.wrap (n + 1)) then
              Q (AV.bool true)
            else Q (AV.bool ((numF (IntKind.i64.wrap (0 - IntKind.i64.wrap (n + 1)))).snd != 0))
          else Q (AV.bool false)
      else Q (AV.bool false)
    else Q (AV.bool false)
  else
    bif decide ((numF n).fst > 0) then
      bif decide ((numF n).fst ≤ 1114111) then
        bif decide ((numF n).fst < 55296) then
          bif (numF n).fst == n then Q (AV.bool true) else Q (AV.bool ((numF n).snd != 0))
        else
          bif decide ((numF n).fst > 57343) then
            bif (numF n).fst == n then Q (AV.bool true) else Q (AV.bool ((numF n).snd != 0))
          else Q (AV.bool false)
      else Q (AV.bool false)
    else Q (AV.bool false) := by kernel_rfl
theorem tree14 (m : Int) (h : 0 ≤ m) (Q : AV → Prop) (hQ : Q (.bool true)) : bif decide ((numF m).fst > 0) then
      bif decide ((numF m).fst ≤ 1114111) then
        bif decide ((numF m).fst < 55296) then
          bif (numF m).fst == m then Q (AV.bool true) else Q (AV.bool ((numF m).snd != 0))
        else
          bif decide ((numF m).fst > 57343) then
            bif (numF m).fst == m then Q (AV.bool true) else Q (AV.bool ((numF m).snd != 0))
          else Q (AV.bool false)
      else Q (AV.bool false)
    else Q (AV.bool false) := by
  obtain ⟨h1, h2, h3, h4⟩ := numF_scalar m h
  have h5 : (numF m).fst ≠ m → ((numF m).snd != 0) = true := by
    intro hne
    rcases h4 with h | h
    · exact absurd h hne
    · simpa using h
  rw [decide_eq_true h1, decide_eq_true h2]
  refine hcond (fun _ => ?_) (fun h => by cases h)
  refine hcond (fun _ => ?_) (fun h => by cases h)
  refine hcond (fun _ => ?_) (fun h => ?_)
  · refine hcond (fun _ => hQ) (fun h => ?_)
    rw [h5 (by simpa using h)]
    exact hQ
  · have h6 : (numF m).fst > 57343 := by have := of_decide_eq_false h; omega
    rw [decide_eq_true h6]
    refine hcond (fun _ => ?_) (fun h => by cases h)
    refine hcond (fun _ => hQ) (fun h => ?_)
    rw [h5 (by simpa using h)]
    exact hQ
theorem safe14 (R : Nat → RoRow) (n : Int) (h0 : -9223372036854775808 ≤ n) (h1 : n ≤ 9223372036854775807) : SafeCall Try.prog (env14 R).R 14 [.int .i64 n] [] fun v _ => v = .bool true := by
  refine byVcd (env14_ok R) (f := 14) (fi := fi14) (by kernel_rfl) 10000 (vc14 R n (fun v => v = .bool true)) ?_
  refine hcond (fun h => ?_) (fun h => ?_)
  · have hn := of_decide_eq_true h
    have e : IntKind.i64.wrap (0 - IntKind.i64.wrap (n + 1)) = -(n + 1) := by
      rw [wrap64 (n + 1) (by omega) (by omega), wrap64 _ (by omega) (by omega)]
      omega
    rw [e]
    exact tree14 _ (by omega) (fun v => v = .bool true) rfl
  · exact tree14 n (by have := of_decide_eq_false h; omega) (fun v => v = .bool true) rfl
theorem scalars_walk (n : Int) (hn : (Lit.int .i64 n).wf = true) (w : World) : Calls Try.prog 14 #[.int .i64 n] w fun e w' => e = .returned (.bool true) ∧ Go.RowKit.Below w.heap.size w w' := by
  have hb : -9223372036854775808 ≤ n ∧ n ≤ 9223372036854775807 := by
    have h2 : (decide (IntKind.min .i64 ≤ n) && decide (n ≤ IntKind.max .i64)) = true := hn
    simp only [Bool.and_eq_true, decide_eq_true_eq] at h2
    exact h2
  exact (show SafeCall Try.prog roNone 14 [.int .i64 n] [] fun v _ => v = .bool true from safe14 roNone n hb.1 hb.2).law mapNone _ w (by simp [DenL, Den]) (roNone_ok w)
end Go.Dc.YtebgogcdndmaaaaE
