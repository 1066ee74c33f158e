/- A value in quotes: the scalars of a text, the states. -/
import Derived.Test.YtghhcilbjdgonaaQuoI
set_option linter.unusedVariables false
set_option linter.unusedSimpArgs false
namespace Go.Dc.Kl
open Go.Proofs Go.RowKit
set_option maxRecDepth 100000
def tm3d (v w : List UInt8) (i : Nat) (b : Int) : List AV := [.any, .any, .any, .str v, .any, .any, .any, .str w, .ptr false 1 0 0, .sl false 2 0 i .no, .int .i64 i, .any, .any, .any, .any, .any, .any, .any, .any, .any, .any, .any, .any, .any, .any, .any, .any, .any, .any, .any, .any, .any, .any, .any, .any, .any, .any, .any, .any, .any, .any, .any, .any, .any, .any, .any, .any, .any, .any, .any, .any, .any, .any, .any, .any, .any, .any, .any, .any, .any, .any, .any, .any, .any, .any, .any, .any, .any, .any, .any, .any, .any, .any, .any, .any, .any, .any, .sl false 0 0 3 .tight, .int .i64 3, .int .i64 b, .any, .any, .any, .any, .any, .any, .any, .any, .any, .any, .any, .any, .any, .any, .any, .any, .any, .any, .any, .any, .any, .any, .any, .any, .any, .any, .any, .any, .any, .any, .any, .any, .any, .any, .any, .any, .any, .any, .any, .any, .any, .any, .any, .any, .any, .any, .any, .any, .any, .any, .any, .any, .any, .any, .any, .any, .any, .any, .any, .any, .any, .any, .any, .any, .any, .any, .any, .any, .any, .any]
theorem tm3d_spr (v w : List UInt8) (i : Nat) (b : Int) : tm3d v w i b = spr [(3, .str v), (7, .str w), (8, .ptr false 1 0 0), (9, .sl false 2 0 i .no), (10, .int .i64 i), (77, .sl false 0 0 3 .tight), (78, .int .i64 3), (79, .int .i64 b)] 0 150 := by kernel_rfl
def strs (a b c : List UInt8) : Option Row := some (.lst 9 1 [.str a, .str b, .str c])
def rows3d (a b c w : List UInt8) (i : Nat) : Rows := [strs a b c, lexR .nils false 0 .nils 0 [], rowA w i]
def tm3c (v : List UInt8) (b : Int) : List AV := [.any, .any, .any, .str v, .any, .any, .any, .any, .any, .any, .any, .any, .any, .any, .any, .any, .any, .any, .any, .any, .any, .any, .any, .any, .any, .any, .any, .any, .any, .any, .any, .any, .any, .any, .any, .any, .any, .any, .any, .any, .any, .any, .any, .any, .any, .any, .any, .any, .any, .any, .any, .any, .any, .any, .any, .any, .any, .any, .any, .any, .any, .any, .any, .any, .any, .any, .any, .any, .any, .any, .any, .any, .any, .any, .any, .any, .any, .sl false 0 0 3 .tight, .int .i64 3, .int .i64 b, .any, .any, .any, .any, .any, .any, .any, .any, .any, .any, .any, .any, .any, .any, .any, .any, .any, .any, .any, .any, .any, .any, .any, .any, .any, .any, .any, .any, .any, .any, .any, .any, .any, .any, .any, .any, .any, .any, .any, .any, .any, .any, .any, .any, .any, .any, .any, .any, .any, .any, .any, .any, .any, .any, .any, .any, .any, .any, .any, .any, .any, .any, .any, .any, .any, .any, .any, .any, .any, .any]
theorem tm3c_spr (v : List UInt8) (b : Int) : tm3c v b = spr [(3, .str v), (77, .sl false 0 0 3 .tight), (78, .int .i64 3), (79, .int .i64 b)] 0 150 := by kernel_rfl
/-- The beginning of the loop of the scalars. -/
structure Start3d (a b c : List UInt8) (h : Rows) : Prop where
  hh : h = [strs a b c, lexR .nils false 0 .nils 0 []]
structure LenOK (w : List UInt8) : Prop where
  hw : w.length ≤ 5000
def spec3d (a b c : List UInt8) : LoopSp := fun st k => match nthV st.tmps 7, nthV st.tmps 3, nthV st.tmps 79 with
  | .str w, .str v, .int .i64 i => (nthV st.tmps 8 = .ptr false 1 0 0 ∧ nthV st.tmps 9 = .nils ∧ nthV st.tmps 10 = .int .i64 0 ∧ nthV st.tmps 77 = .sl false 0 0 3 .tight ∧ nthV st.tmps 78 = .int .i64 3 ∧ st.tmps.length = 150 ∧ Start3d a b c st.rows ∧ LenOK w) ∧ k .normal ⟨tm3d v w w.length i, rows3d a b c w w.length⟩
  | _, _, _ => False
end Go.Dc.Kl
