/- Bytes without signs are text: the tokens, the states. -/
import Derived.Test.YtghhcilbjdgonaaTxtE
set_option linter.unusedVariables false
set_option linter.unusedSimpArgs false
namespace Go.Dc.Kl
open Go.Proofs Go.RowKit
set_option maxRecDepth 100000
def tkF (s : List UInt8) : Nat → AV := fun j => tokA (byteI s j) (j : Int)
abbrev rowK (s : List UInt8) (j : Nat) : Option Row := some (.gen 34 8 j (tkF s))
def r15a (s : List UInt8) (n : Nat) : Rows := [decI n .nils, linR, lexR (.sl false 6 0 n .no) false 0 .nils 0 [], none, none, none, rowA s n, none, rowK s 0]
def r15b (s : List UInt8) (n j : Nat) (v b : Int) : Rows := [decI n .nils, linR, lexR (.sl false 6 j (n - j) .no) false 0 (.sl false 7 1 0 .no) 0 [], none, none, none, rowA s n, rowT v b, rowK s j]
def q15a (s : List UInt8) (n : Nat) : Rows := r15a s n ++ [tok0]
def q15b (s : List UInt8) (n j : Nat) (v b : Int) : Rows := r15b s n j v b ++ [tok0]
def tm15 (j : Nat) : List AV := [.any, .nils, .any, .any, .nils, .nils, .ptr false 0 0 0, .ptr false 1 0 0, .ptr false 2 0 0, .sl false 8 0 j .no, .nils, .int .i64 0, .any, .any, .any, .any, .any, .any, .any, .any, .any, .any, .any, .any, .any, .any, .any, .any, .any, .any, .any, .any, .any, .any, .any, .any, .any, .any, .any, .any, .any, .any, .any, .any, .any, .any, .any, .any, .any, .any, .any, .any, .any, .any, .any, .any, .any, .any, .any, .any, .any, .any, .any, .any, .any, .any, .any, .any, .any, .any, .any, .any, .any, .any, .any, .any, .any, .any, .any, .any, .any, .any, .any, .any, .any, .any, .any, .any, .any, .any, .any, .any, .any, .any, .any, .any]
theorem tm15_spr (j : Nat) : tm15 j = spr [(1, .nils), (4, .nils), (5, .nils), (6, .ptr false 0 0 0), (7, .ptr false 1 0 0), (8, .ptr false 2 0 0), (9, .sl false 8 0 j .no), (10, .nils), (11, .int .i64 0)] 0 96 := by kernel_rfl
noncomputable def lp15 : Code := loopOf fi15 2
theorem blk15 : blockOf fi15 2 = some (.loop lp15) := by kernel_rfl
/-- A function that reads, at these rows, at the argument 0; the lexer is row 2. -/
def specAt2 (h0 : Rows) (c : Int) : CallSpec := fun args h k => match args with
  | [.ptr false 2 0 0, .int .i64 0] => SameR h h0 ∧ k (.int .i64 c) h0
  | _ => False
noncomputable abbrev env18t (R : Nat → RoRow) (h0 : Rows) (c a : Int) : Env Prop := ((base R).addCall 26 (specAt2 h0 c)).addCall 27 (specAt2 h0 a)
end Go.Dc.Kl
