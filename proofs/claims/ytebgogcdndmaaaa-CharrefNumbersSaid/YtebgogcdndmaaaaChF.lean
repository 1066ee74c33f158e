/- The plain laws of Number and its reference: they agree; what Number tells is a scalar. -/
import Derived.Test.YtebgogcdndmaaaaChE
namespace Go.Dc.YtebgogcdndmaaaaE
set_option linter.unusedSimpArgs false
set_option linter.unusedVariables false
open Go.Proofs Go.RowKit
theorem and_low (m : Nat) : (m &&& 65534 = 65534) ↔ m % 65536 > 65533 := by
  have h1 : (m &&& 65534) / 2 = m / 2 % 32768 := by
    rw [Nat.and_div_two]
    exact Nat.and_two_pow_sub_one_eq_mod (m / 2) 15
  have h2 : (m &&& 65534) % 2 = 0 := by
    have := @Nat.and_mod_two_pow m 65534 1
    rw [Nat.pow_one] at this
    rw [this]
    simp
  omega
theorem wrap64 (x : Int) (h0 : -9223372036854775808 ≤ x) (h1 : x ≤ 9223372036854775807) : IntKind.i64.wrap x = x := by
  have e : IntKind.i64.wrap x = if (decide (x % 18446744073709551616 ≥ 9223372036854775808)) = true then x % 18446744073709551616 - 18446744073709551616 else x % 18446744073709551616 := rfl
  rw [e]
  simp only [decide_eq_true_eq]
  split <;> omega
theorem low_eq (n : Int) (h0 : 0 < n) (h1 : n ≤ 1114111) : low n = 65534 ↔ n.tmod 65536 > 65533 := by
  obtain ⟨m, rfl⟩ : ∃ m : Nat, n = m := ⟨n.toNat, by omega⟩
  have hm : m < 2 ^ 64 := by omega
  have hbv : (BitVec.ofInt IntKind.i64.bits (m : Int) &&& BitVec.ofInt IntKind.i64.bits 65534).toNat = m &&& 65534 := by
    show (BitVec.ofInt 64 (m : Int) &&& BitVec.ofInt 64 65534).toNat = _
    rw [BitVec.toNat_and]
    have e1 : (BitVec.ofInt 64 (m : Int)).toNat = m := by
      rw [BitVec.toNat_ofInt]
      omega
    have e2 : (BitVec.ofInt 64 65534).toNat = 65534 := by decide +kernel
    rw [e1, e2]
  have hle : m &&& 65534 ≤ 65534 := Nat.and_le_right
  have hlow : low (m : Int) = ((m &&& 65534 : Nat) : Int) := by
    unfold low
    rw [hbv]
    generalize m &&& 65534 = x at hle
    exact wrap64 _ (by omega) (by omega)
  rw [hlow]
  have := and_low m
  have ht : ((m : Int).tmod 65536) = ((m % 65536 : Nat) : Int) := by
    rw [Int.tmod_eq_emod_of_nonneg (by omega)]
    rfl
  rw [ht]
  omega
def codeOf (c : Int) : Int := if c = 0 then 0 else if c = 1 then 31 else if c = 2 then 32 else if c = 3 then 33 else if c = 4 then 34 else 35
theorem numF_refF (n : Int) : (numF n).1 = (refF n).1 ∧ (numF n).2 = codeOf (refF n).2 := by
  have key : 0 < n → n ≤ 1114111 → (low n = 65534 ↔ n.tmod 65536 > 65533) := low_eq n
  unfold numF numG refF
  generalize low n = w at *
  generalize n.tmod 65536 = u at *
  generalize winF n = z at *
  repeat' split
  all_goals first
    | (exfalso; omega)
    | (exfalso; have := key (by omega) (by omega); omega)
    | (exact ⟨rfl, by simp [codeOf]⟩)
theorem winF_scalar (n : Int) (h : 128 ≤ n ∧ n ≤ 159) : 0 < winF n ∧ winF n < 55296 := by
  have hall : ∀ i : Fin 32, 0 < winL.getD i.val 0 ∧ winL.getD i.val 0 < 55296 := by decide +kernel
  exact hall ⟨(n - 128).toNat, by omega⟩
theorem numF_scalar (n : Int) (h : 0 ≤ n) : 0 < (numF n).1 ∧ (numF n).1 ≤ 1114111 ∧ ((numF n).1 < 55296 ∨ (numF n).1 > 57343) ∧ ((numF n).1 = n ∨ (numF n).2 ≠ 0) := by
  unfold numF numG
  generalize low n = w at *
  have := winF_scalar n
  generalize winF n = z at *
  repeat' split
  all_goals (refine ⟨?_, ?_, ?_, ?_⟩ <;> first | omega | simp_all)
theorem vc12 (R : Nat → RoRow) (n : Int) (Q : AV → Prop) : vcd (env12 R) 10000 12 fi12 [.int .i64 n] [] (fun v _ => Q v) =
  bif (refF n).snd == 0 then
    bif (numF n).fst == (refF n).fst then Q (AV.bool ((numF n).snd == 0)) else Q (AV.bool false)
  else
    bif (refF n).snd == 1 then
      bif (numF n).fst == (refF n).fst then Q (AV.bool ((numF n).snd == 31)) else Q (AV.bool false)
    else
      bif (refF n).snd == 2 then
        bif (numF n).fst == (refF n).fst then Q (AV.bool ((numF n).snd == 32)) else Q (AV.bool false)
      else
        bif (refF n).snd == 3 then
          bif (numF n).fst == (refF n).fst then Q (AV.bool ((numF n).snd == 33)) else Q (AV.bool false)
        else
          bif (refF n).snd == 4 then
            bif (numF n).fst == (refF n).fst then Q (AV.bool ((numF n).snd == 34)) else Q (AV.bool false)
          else bif (numF n).fst == (refF n).fst then Q (AV.bool ((numF n).snd == 35)) else Q (AV.bool false) := by kernel_rfl
theorem safe12 (R : Nat → RoRow) (n : Int) : SafeCall Try.prog (env12 R).R 12 [.int .i64 n] [] fun v _ => v = .bool true := by
  refine byVcd (env12_ok R) (f := 12) (fi := fi12) (by kernel_rfl) 10000 (vc12 R n (fun v => v = .bool true)) ?_
  obtain ⟨h1, h2⟩ := numF_refF n
  rw [h1, h2]
  rcases refF_codes n with e | e | e | e | e | e <;> rw [e] <;> simp [codeOf]
theorem numbers_walk (n : Int) (w : World) : Calls Try.prog 12 #[.int .i64 n] w fun e w' => e = .returned (.bool true) ∧ Go.RowKit.Below w.heap.size w w' :=
  (show SafeCall Try.prog roNone 12 [.int .i64 n] [] fun v _ => v = .bool true from safe12 roNone n).law mapNone _ w (by simp [DenL, Den]) (roNone_ok w)
end Go.Dc.YtebgogcdndmaaaaE
