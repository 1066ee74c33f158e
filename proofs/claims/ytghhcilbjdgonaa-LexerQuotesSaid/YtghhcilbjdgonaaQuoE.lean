/- A value in quotes: the states behind the value. -/
import Derived.Test.YtghhcilbjdgonaaQuoD
set_option linter.unusedVariables false
set_option linter.unusedSimpArgs false
namespace Go.Dc.Kl
open Go.Proofs Go.RowKit
set_option maxRecDepth 100000
abbrev lexE2 (lo len : Nat) (e : Int) (fn : Nat) (vl : Nat) (q : Int) : Option Row := some (.lst 61 25 [.agg [.sl false 1 lo len .no, .bool true, .int .i64 e, .fn fn [] [], .nils, .nils, .int .i64 0, .str [], .int .i64 0, .int .i64 2, .int .i64 0, .int .i64 0, .str [112], .str [], .sl false 5 0 1 .no, .bool false, .bool false, .sl false 3 0 1 .no, .int .i64 3, .sl false 4 0 vl .no, .int .i64 q, .int .i64 0, .nilf, .bool false, .bool false]])
abbrev attR (x : List UInt8) : Option Row := some (.lst 38 2 [.agg [.str [97], .str x]])
def qeQ (q : Int) (u x : List UInt8) (fn j : Nat) : Rows := [lexE2 (j + 6) 1 (u.length + 6 : Nat) fn x.length q, some (.gen 29 2 (u.length + 6) (FQ q u)), tok0, none, none, attR x]
def qeU (u x : List UInt8) (fn j : Nat) : Rows := [lexE2 (j + 5) 1 (u.length + 5 : Nat) fn x.length 0, some (.gen 29 2 (u.length + 5) (FU u)), tok0, none, none, attR x]
def specE (h91 h46 : Rows) : CallSpec := fun args h k => match args, h with
  | [.ptr false 0 0 0, .int .i64 0], some (.lst _ _ [.agg (_ :: _ :: _ :: .fn 91 _ _ :: _)]) :: _ => SameR h h91 ∧ k (.int .i64 62) h91
  | [.ptr false 0 0 0, .int .i64 0], some (.lst _ _ [.agg (_ :: _ :: _ :: .fn 46 _ _ :: _)]) :: _ => SameR h h46 ∧ k (.int .i64 62) h46
  | _, _ => Miss h
noncomputable abbrev envE (R : Nat → RoRow) (h91 h46 : Rows) : Env Prop := (base R).addCall 26 (specE h91 h46)
end Go.Dc.Kl
