/- The decoder in UTF-8, told exactly: a byte that goes on. -/
import Derived.Test.YtebgogcdndmaaaaBackA
set_option linter.unusedVariables false
set_option linter.unusedSimpArgs false
namespace Go.Dc.Ka
open Go.Proofs Go.RowKit
set_option maxRecDepth 100000
theorem vc38C (R : Nat → RoRow) (x a b l v lo hi : Int) (n : Nat) (F : Nat → AV) (Q : AV → Rows → Prop) : vcd (envC R) 10000 38 fi38 [.ptr false 0 0 0, .int .u8 x] [decG a b l v lo hi n, some (.gen 38 2 n F)] Q = (bif decide (l > 0) then bif decide (x < lo) then bif decide (0 + n ≤ n) && (true && (true && decide (((Src.gen n fun j => F (0 + j)).len + 1) * 16 ≤ 140737488355328))) then AV.nils = AV.nils ∧ False else False else bif decide (x > hi) then bif decide (0 + n ≤ n) && (true && (true && decide (((Src.gen n fun j => F (0 + j)).len + 1) * 16 ≤ 140737488355328))) then AV.nils = AV.nils ∧ False else False else bif l == 0 then False else bif IntKind.i64.wrap (l - 1) == 0 then bif decide (0 + n ≤ n) && (true && (true && decide (((Src.gen n fun j => F (0 + j)).len + 1) * 16 ≤ 140737488355328))) then Q (AV.tup []) [some (Row.lst 62 9 [AV.agg [AV.bool true, AV.int IntKind.i64 a, AV.int IntKind.i64 b, AV.int IntKind.i64 (IntKind.i64.wrap (l - 1)), AV.int IntKind.i64 (IntKind.i64.wrap (↑(BitVec.ofInt IntKind.i64.bits (IntKind.i64.wrap (v * 2 ^ min (Int.toNat 6) IntKind.i64.bits)) ||| BitVec.ofInt IntKind.i64.bits (IntKind.i64.wrap (IntKind.u8.wrap (↑(BitVec.ofInt IntKind.u8.bits x &&& BitVec.ofInt IntKind.u8.bits 63).toNat : Int)))).toNat : Int)), AV.int IntKind.u8 128, AV.int IntKind.u8 191, AV.sl false 3 0 ((Src.gen n fun j => F (0 + j)).len + 1) Cp.no, AV.nils]]), none, some (Row.lst 38 2 [AV.agg [AV.int IntKind.i64 (IntKind.i64.wrap (↑(BitVec.ofInt IntKind.i64.bits (IntKind.i64.wrap (v * 2 ^ min (Int.toNat 6) IntKind.i64.bits)) ||| BitVec.ofInt IntKind.i64.bits (IntKind.i64.wrap (IntKind.u8.wrap (↑(BitVec.ofInt IntKind.u8.bits x &&& BitVec.ofInt IntKind.u8.bits 63).toNat : Int)))).toNat : Int)), AV.int IntKind.i64 b]]), some (Row.gen 38 2 ((Src.gen n fun j => F (0 + j)).len + 1) fun j => bif j.blt (Src.gen n fun j => F (0 + j)).len then (Src.gen n fun j => F (0 + j)).at_ j else (Src.lst [AV.agg [AV.int IntKind.i64 (IntKind.i64.wrap (↑(BitVec.ofInt IntKind.i64.bits (IntKind.i64.wrap (v * 2 ^ min (Int.toNat 6) IntKind.i64.bits)) ||| BitVec.ofInt IntKind.i64.bits (IntKind.i64.wrap (IntKind.u8.wrap (↑(BitVec.ofInt IntKind.u8.bits x &&& BitVec.ofInt IntKind.u8.bits 63).toNat : Int)))).toNat : Int)), AV.int IntKind.i64 b]]).at_ (j - (Src.gen n fun j => F (0 + j)).len))] else False else Q (AV.tup []) [some (Row.lst 62 9 [AV.agg [AV.bool true, AV.int IntKind.i64 a, AV.int IntKind.i64 b, AV.int IntKind.i64 (IntKind.i64.wrap (l - 1)), AV.int IntKind.i64 (IntKind.i64.wrap (↑(BitVec.ofInt IntKind.i64.bits (IntKind.i64.wrap (v * 2 ^ min (Int.toNat 6) IntKind.i64.bits)) ||| BitVec.ofInt IntKind.i64.bits (IntKind.i64.wrap (IntKind.u8.wrap (↑(BitVec.ofInt IntKind.u8.bits x &&& BitVec.ofInt IntKind.u8.bits 63).toNat : Int)))).toNat : Int)), AV.int IntKind.u8 128, AV.int IntKind.u8 191, AV.sl false 1 0 n Cp.no, AV.nils]]), some (Row.gen 38 2 n F)] else bif l == 0 then False else bif IntKind.i64.wrap (l - 1) == 0 then bif decide (0 + n ≤ n) && (true && (true && decide (((Src.gen n fun j => F (0 + j)).len + 1) * 16 ≤ 140737488355328))) then Q (AV.tup []) [some (Row.lst 62 9 [AV.agg [AV.bool true, AV.int IntKind.i64 a, AV.int IntKind.i64 b, AV.int IntKind.i64 (IntKind.i64.wrap (l - 1)), AV.int IntKind.i64 (IntKind.i64.wrap (↑(BitVec.ofInt IntKind.i64.bits (IntKind.i64.wrap (v * 2 ^ min (Int.toNat 6) IntKind.i64.bits)) ||| BitVec.ofInt IntKind.i64.bits (IntKind.i64.wrap (IntKind.u8.wrap (↑(BitVec.ofInt IntKind.u8.bits x &&& BitVec.ofInt IntKind.u8.bits 63).toNat : Int)))).toNat : Int)), AV.int IntKind.u8 128, AV.int IntKind.u8 191, AV.sl false 3 0 ((Src.gen n fun j => F (0 + j)).len + 1) Cp.no, AV.nils]]), none, some (Row.lst 38 2 [AV.agg [AV.int IntKind.i64 (IntKind.i64.wrap (↑(BitVec.ofInt IntKind.i64.bits (IntKind.i64.wrap (v * 2 ^ min (Int.toNat 6) IntKind.i64.bits)) ||| BitVec.ofInt IntKind.i64.bits (IntKind.i64.wrap (IntKind.u8.wrap (↑(BitVec.ofInt IntKind.u8.bits x &&& BitVec.ofInt IntKind.u8.bits 63).toNat : Int)))).toNat : Int)), AV.int IntKind.i64 b]]), some (Row.gen 38 2 ((Src.gen n fun j => F (0 + j)).len + 1) fun j => bif j.blt (Src.gen n fun j => F (0 + j)).len then (Src.gen n fun j => F (0 + j)).at_ j else (Src.lst [AV.agg [AV.int IntKind.i64 (IntKind.i64.wrap (↑(BitVec.ofInt IntKind.i64.bits (IntKind.i64.wrap (v * 2 ^ min (Int.toNat 6) IntKind.i64.bits)) ||| BitVec.ofInt IntKind.i64.bits (IntKind.i64.wrap (IntKind.u8.wrap (↑(BitVec.ofInt IntKind.u8.bits x &&& BitVec.ofInt IntKind.u8.bits 63).toNat : Int)))).toNat : Int)), AV.int IntKind.i64 b]]).at_ (j - (Src.gen n fun j => F (0 + j)).len))] else False else Q (AV.tup []) [some (Row.lst 62 9 [AV.agg [AV.bool true, AV.int IntKind.i64 a, AV.int IntKind.i64 b, AV.int IntKind.i64 (IntKind.i64.wrap (l - 1)), AV.int IntKind.i64 (IntKind.i64.wrap (↑(BitVec.ofInt IntKind.i64.bits (IntKind.i64.wrap (v * 2 ^ min (Int.toNat 6) IntKind.i64.bits)) ||| BitVec.ofInt IntKind.i64.bits (IntKind.i64.wrap (IntKind.u8.wrap (↑(BitVec.ofInt IntKind.u8.bits x &&& BitVec.ofInt IntKind.u8.bits 63).toNat : Int)))).toNat : Int)), AV.int IntKind.u8 128, AV.int IntKind.u8 191, AV.sl false 1 0 n Cp.no, AV.nils]]), some (Row.gen 38 2 n F)]) := by kernel_rfl
/-- Six bits more. -/
def nxt (v x : Int) : Int := IntKind.i64.wrap ((BitVec.ofInt IntKind.i64.bits (IntKind.i64.wrap (v * 2 ^ min (Int.toNat 6) IntKind.i64.bits)) ||| BitVec.ofInt IntKind.i64.bits (IntKind.i64.wrap (IntKind.u8.wrap ((BitVec.ofInt IntKind.u8.bits x &&& BitVec.ofInt IntKind.u8.bits 63).toNat : Int)))).toNat : Int)
def rowsC1 (a b v' : Int) (n : Nat) (F : Nat → AV) : Rows := [decU a b 0 v' 128 191 (.sl false 2 0 (n + 1) .no) .nils, none, some (.gen 38 2 (n + 1) (snoc n F (rune v' b)))]
def rowsC2 (a b l' v' : Int) (n : Nat) (F : Nat → AV) : Rows := [decG a b l' v' 128 191 n, some (.gen 38 2 n F)]
theorem safeC38 (R : Nat → RoRow) (x a b l v lo hi : Int) (n : Nat) (F : Nat → AV) (h0 : 0 < l) (h1 : l ≤ 3) (x0 : lo ≤ x) (x1 : x ≤ hi) (hn : n ≤ 1000000) (hF : Plain n F) (Q : Rows → Prop)
    (hQ1 : l = 1 → Q (rowsC1 a b (nxt v x) n F)) (hQ2 : l ≠ 1 → Q (rowsC2 a b (l - 1) (nxt v x) n F)) :
    SafeCall Try.prog R 38 [.ptr false 0 0 0, .int .u8 x] [decG a b l v lo hi n, some (.gen 38 2 n F)] fun r h => r = .tup [] ∧ Q h := by
  refine SafeCall.fit (Q := fun r h => ∃ vE hE, FitV 2 vE hE r h ∧ (vE = .tup [] ∧ Q hE)) ?_ (fun _ _ h => h)
  refine byVcd (envC_ok R) (f := 38) (fi := fi38) (by kernel_rfl) 10000 (vc38C R x a b l v lo hi n F _) ?_
  have hl : IntKind.i64.wrap (l - 1) = l - 1 := wrap64 _ (by omega) (by omega)
  rw [hl]
  refine hcond (fun _ => ?_) (fun c => absurd h0 (of_decide_eq_false c))
  refine hcond (fun c => by exfalso; have := of_decide_eq_true c; omega) (fun _ => ?_)
  refine hcond (fun c => by exfalso; have := of_decide_eq_true c; omega) (fun _ => ?_)
  have hl0 : (l == 0) = false := by
    rw [beq_eq_false_iff_ne]
    intro e
    rw [e] at h0
    exact absurd h0 (by decide)
  refine hcond (fun c => absurd (hl0.symm.trans c) (by simp)) (fun _ => ?_)
  refine hcond (fun c => ?_) (fun c => ?_)
  · have e1 : l = 1 := by
      have : l - 1 = 0 := by simpa using c
      omega
    have cn : capN n 16 = true := by unfold capN; simp; omega
    refine hcond (fun _ => ?_) (fun c => absurd (cn.symm.trans c) (by simp))
    refine fitN (mv2 2 3 2 3) ?_ ?_ (by simp [rowsC1]) (hQ1 e1)
    · refine View.of ?_ ?_
      · intro c o ho
        match c with
        | 0 =>
          cases ho
          refine ViewL.at_ (b := 0) rfl rfl (RowV.lst1 rfl (Vw.aggI ?_))
          have e2 : l - 1 = 0 := by omega
          repeat' (first | with_reducible exact VwL.nil | with_reducible refine VwL.cons ?_ ?_ | with_reducible exact Vw.intI | with_reducible exact Vw.intE e2 | with_reducible exact Vw.boolI | with_reducible exact Vw.nilsI | exact Vw.intI | exact Vw.slI (by simp [rowsC1]) rfl)
        | 1 => cases ho; exact ViewL.gone' (b := 1) rfl (by simp)
        | 2 => cases ho; exact ViewL.at_ (b := 3) rfl rfl (genApp hF rfl rfl)
        | c + 3 => simp [rowsC1] at ho
      · exact injOf (N := 3) (by decide)
    · intro c hc
      match c with
      | 0 => rfl
      | 1 => rfl
      | c + 2 => omega
  · have e1 : l ≠ 1 := by
      intro e
      subst e
      cases c
    refine fitN some ?_ (fun _ _ => rfl) (by simp [rowsC2]) (hQ2 e1)
    refine View.of ?_ ?_
    · intro c o ho
      match c with
      | 0 =>
        cases ho
        refine ViewL.at_ (b := 0) rfl rfl (RowV.lst1 rfl (Vw.aggI ?_))
        repeat' (first | with_reducible exact VwL.nil | with_reducible refine VwL.cons ?_ ?_ | with_reducible exact Vw.intI | with_reducible exact Vw.boolI | with_reducible exact Vw.nilsI | exact Vw.intI | exact Vw.slI (by simp [rowsC2]) rfl)
      | 1 => cases ho; exact ViewL.at_ (b := 1) rfl rfl (genPlain hF)
      | c + 2 => simp [rowsC2] at ho
    · exact fun c c' b _ _ h1 h2 => by cases h1; cases h2; rfl
end Go.Dc.Ka
