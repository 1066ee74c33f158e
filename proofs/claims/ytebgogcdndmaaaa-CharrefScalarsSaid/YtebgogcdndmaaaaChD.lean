import Derived.Test.YtebgogcdndmaaaaChC
namespace Go.Dc.YtebgogcdndmaaaaE
set_option linter.unusedSimpArgs false
set_option linter.unusedVariables false
open Go.Proofs Go.RowKit
set_option maxRecDepth 100000
def winL : List Int := [8364, 129, 8218, 402, 8222, 8230, 8224, 8225, 710, 8240, 352, 8249, 338, 141, 381, 143, 144, 8216, 8217, 8220, 8221, 8226, 8211, 8212, 732, 8482, 353, 8250, 339, 157, 382, 376]
def winF (n : Int) : Int := winL.getD (n - 128).toNat 0
def numG (n w : Int) : Int × Int :=
  if n = 0 then (65533, 31) else if n < 0 then (65533, 32) else if n > 1114111 then (65533, 32)
  else if 55296 ≤ n ∧ n ≤ 57343 then (65533, 33)
  else if (64976 ≤ n ∧ n ≤ 65007) ∨ w = 65534 then (n, 34)
  else if 128 ≤ n ∧ n ≤ 159 then (winF n, 35)
  else if n = 127 then (n, 35)
  else if n < 32 ∧ n ≠ 9 ∧ n ≠ 10 ∧ n ≠ 12 then (n, 35) else (n, 0)
def low (n : Int) : Int := IntKind.i64.wrap ↑(BitVec.ofInt IntKind.i64.bits n &&& BitVec.ofInt IntKind.i64.bits 65534).toNat
def numF (n : Int) : Int × Int := numG n (low n)
def refF (n : Int) : Int × Int :=
  if n = 0 then (65533, 1) else if n < 0 then (65533, 2) else if n > 1114111 then (65533, 2)
  else if 55295 < n ∧ n < 57344 then (65533, 3)
  else if (64975 < n ∧ n < 65008) ∨ n.tmod 65536 > 65533 then (n, 4)
  else if 127 < n ∧ n < 160 then (winF n, 5)
  else if n = 127 then (n, 5)
  else if n < 32 ∧ n ≠ 9 ∧ n ≠ 10 ∧ n ≠ 12 then (n, 5) else (n, 0)
theorem hcond {b : Bool} {X Y : Prop} (h1 : b = true → X) (h2 : b = false → Y) : cond b X Y := by
  cases b
  · exact h2 rfl
  · exact h1 rfl
theorem leaf {Q : AV → Prop} {p : Int × Int} {a b : Int} (hQ : Q (num p.1 p.2)) (h : p = (a, b)) : Q (.tup [.int .i64 a, .int .i64 b]) := by
  subst h; exact hQ
set_option maxHeartbeats 4000000 in
theorem out31 (R : Nat → RoRow) (n : Int) (hn : ¬ (128 ≤ n ∧ n ≤ 159)) (Q : AV → Prop) (hQ : Q (num (numF n).1 (numF n).2)) : vcd (env31 R) 10000 31 fi31 [.int .i64 n] [] (fun v _ => Q v) := by
  rw [vc31]
  unfold numF low at hQ
  generalize IntKind.i64.wrap ↑(BitVec.ofInt IntKind.i64.bits n &&& BitVec.ofInt IntKind.i64.bits 65534).toNat = w at *
  repeat' (refine hcond (fun h => ?_) (fun h => ?_))
  all_goals simp only [decide_eq_true_eq, decide_eq_false_iff_not, beq_iff_eq, beq_eq_false_iff_ne, bne_iff_ne, bne_eq_false_iff_eq, ne_eq, Decidable.not_not] at *
  all_goals first
    | (refine leaf hQ ?_
       unfold numG
       repeat' split
       all_goals first
         | rfl
         | (exfalso; omega))
    | (exfalso; omega)
set_option maxHeartbeats 4000000 in
theorem out32 (R : Nat → RoRow) (n : Int) (hn : ¬ (127 ≤ n ∧ n ≤ 159)) (Q : AV → Prop) (hQ : Q (num (refF n).1 (refF n).2)) : vcd (env32 R) 10000 32 fi32 [.int .i64 n] [] (fun v _ => Q v) := by
  rw [vc32]
  unfold refF at hQ
  generalize n.tmod 65536 = w at *
  repeat' (refine hcond (fun h => ?_) (fun h => ?_))
  all_goals simp only [decide_eq_true_eq, decide_eq_false_iff_not, beq_iff_eq, beq_eq_false_iff_ne, bne_iff_ne, bne_eq_false_iff_eq, ne_eq, Decidable.not_not] at *
  all_goals first
    | (refine leaf hQ ?_
       repeat' split
       all_goals first
         | rfl
         | (exfalso; omega))
    | (exfalso; omega)
end Go.Dc.YtebgogcdndmaaaaE
