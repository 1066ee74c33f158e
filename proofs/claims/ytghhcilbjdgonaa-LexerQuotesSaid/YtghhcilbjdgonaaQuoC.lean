/- A value in quotes: the states within the value. -/
import Derived.Test.YtghhcilbjdgonaaQuoA
set_option linter.unusedVariables false
set_option linter.unusedSimpArgs false
namespace Go.Dc.Kl
open Go.Proofs Go.RowKit
set_option maxRecDepth 100000
abbrev lexV (lo len : Nat) (e : Int) (fn : Nat) (name : AV) (na : Int) (value : AV) (q : Int) : Option Row := some (.lst 61 25 [.agg [.sl false 1 lo len .no, .bool true, .int .i64 e, .fn fn [] [], .nils, .nils, .int .i64 0, .str [], .int .i64 0, .int .i64 2, .int .i64 0, .int .i64 0, .str [112], .str [], .nils, .bool false, .bool false, name, .int .i64 na, value, .int .i64 q, .int .i64 0, .nilf, .bool false, .bool false]])
abbrev nameR : Option Row := some (.lst 5 1 [.int .u8 97])
def q85 (q : Int) (u x : List UInt8) (i : Nat) : Rows := [lexV (i + 6) (u.length - i) (u.length + 6 : Nat) 85 (.sl false 3 0 1 .no) 3 (.sl false 4 0 x.length .no) q, some (.gen 29 2 (u.length + 6) (FQ q u)), tok0, nameR, some (.byt 5 x)]
def specAt1 (h0 : Rows) (c : Int) : CallSpec := fun args h k => match args with
  | [.ptr false 0 0 0, .int .i64 0] => SameR h h0 ∧ k (.int .i64 c) h0
  | _ => Miss h
def q85U (u x : List UInt8) (fn i : Nat) : Rows := [lexV (i + 5) (u.length - i) (u.length + 5 : Nat) fn (.sl false 3 0 1 .no) 3 (.sl false 4 0 x.length .no) 0, some (.gen 29 2 (u.length + 5) (FU u)), tok0, nameR, some (.byt 5 x)]
def q85n (q : Int) (u x : List UInt8) (i : Nat) : Rows := [lexV (i + 6 + 1) (u.length - i - 1) (u.length + 6 : Nat) 85 (.sl false 3 0 1 .no) 3 (.sl false 4 0 x.length .no) q, some (.gen 29 2 (u.length + 6) (FQ q u)), tok0, nameR, some (.byt 5 x)]
def q85Un (u x : List UInt8) (fn i : Nat) : Rows := [lexV (i + 5 + 1) (u.length - i - 1) (u.length + 5 : Nat) fn (.sl false 3 0 1 .no) 3 (.sl false 4 0 x.length .no) 0, some (.gen 29 2 (u.length + 5) (FU u)), tok0, nameR, some (.byt 5 x)]
def spec35At (h0 hT : Rows) (c : Int) : CallSpec := fun args h k => match args, h with
  | [.ptr false 0 0 0], some (.lst _ _ [.agg (_ :: _ :: _ :: _ :: _ :: .nils :: _)]) :: _ => SameR h h0 ∧ k (.int .i64 c) hT
  | _, _ => Miss h
noncomputable abbrev envT (R : Nat → RoRow) (h0 hT : Rows) (c : Int) : Env Prop := ((base R).addCall 26 (specAt1 h0 c)).addCall 35 (spec35At h0 hT c)
noncomputable abbrev envA (R : Nat → RoRow) (h0 : Rows) (c : Int) : Env Prop := (base R).addCall 26 (specAt1 h0 c)
noncomputable abbrev envV (R : Nat → RoRow) (h0 : Rows) (c : Int) (a : Int) : Env Prop := ((base R).addCall 26 (specAt1 h0 c)).addCall 27 (specAt1 h0 a)
end Go.Dc.Kl
