/- Are two entries alike: the comparisons. -/
import Derived.Test.YtlhplhncdljicaaAliC
set_option linter.unusedVariables false
set_option linter.unusedSimpArgs false
namespace Go.Dc.Kb
open Go.Proofs Go.RowKit
set_option maxRecDepth 100000
theorem vr64 (t : Nat) (D : List At) (t' : Nat) (D' : List At) (a b : Tx) (i : Nat) (K : Exit → St → Prop) : rnd (base (ro2D t D t' D')) 1000 64 lp64 ⟨tm64 D'.length (i : Nat), rB a b⟩ K = (bif decide ((↑i : Int) < (↑D'.length : Int)) then bif true && decide ((↑i : Int) < (↑D'.length : Int)) then bif decide (0 + (↑i : Int).toNat < ((base (ro2D t D t' D')).R 1).n) then bif a == (D'.getD (0 + (↑i : Int).toNat) ([], [])).fst && (b == (D'.getD (0 + (↑i : Int).toNat) ([], [])).snd && true) then K Exit.ret (St.mk [AV.sl true 1 0 D'.length Cp.no, AV.any, AV.any, AV.ptr false 0 0 0, AV.int IntKind.i64 (↑i : Int), AV.int IntKind.i64 (↑i : Int), AV.any, AV.int IntKind.i64 (↑D'.length : Int), AV.int IntKind.i64 (↑i : Int), AV.bool true, AV.int IntKind.i64 (↑i : Int), AV.agg [AV.str a, AV.str b], AV.sl true 1 0 D'.length Cp.no, AV.int IntKind.i64 (↑i : Int), AV.ptr true 1 (0 + (↑i : Int).toNat) 0, AV.agg [AV.str (D'.getD (0 + (↑i : Int).toNat) ([], [])).fst, AV.str (D'.getD (0 + (↑i : Int).toNat) ([], [])).snd], AV.bool true, AV.int IntKind.i64 (↑i : Int), AV.any] [some (Row.lst 90 2 [AV.agg [AV.str a, AV.str b]])]) else K Exit.normal (St.mk [AV.sl true 1 0 D'.length Cp.no, AV.any, AV.any, AV.ptr false 0 0 0, AV.any, AV.int IntKind.i64 (↑i : Int), AV.any, AV.int IntKind.i64 (↑D'.length : Int), AV.int IntKind.i64 (IntKind.i64.wrap ((↑i : Int) + 1)), AV.bool true, AV.int IntKind.i64 (↑i : Int), AV.agg [AV.str a, AV.str b], AV.sl true 1 0 D'.length Cp.no, AV.int IntKind.i64 (↑i : Int), AV.ptr true 1 (0 + (↑i : Int).toNat) 0, AV.agg [AV.str (D'.getD (0 + (↑i : Int).toNat) ([], [])).fst, AV.str (D'.getD (0 + (↑i : Int).toNat) ([], [])).snd], AV.bool false, AV.any, AV.int IntKind.i64 (IntKind.i64.wrap ((↑i : Int) + 1))] [some (Row.lst 90 2 [AV.agg [AV.str a, AV.str b]])]) else False else False else K (Exit.exit 0) (St.mk [AV.sl true 1 0 D'.length Cp.no, AV.any, AV.any, AV.ptr false 0 0 0, AV.any, AV.any, AV.any, AV.int IntKind.i64 (↑D'.length : Int), AV.int IntKind.i64 (↑i : Int), AV.bool false, AV.any, AV.any, AV.any, AV.any, AV.any, AV.any, AV.any, AV.any, AV.any] [some (Row.lst 90 2 [AV.agg [AV.str a, AV.str b]])])) := by kernel_rfl
theorem vr15 (t : Nat) (D : List At) (t' : Nat) (D' : List At) (nd nd' : Int) (nm nm' : Tx) (i : Nat) (K : Exit → St → Prop) : rnd ((base (ro2D t D t' D')).addCall 48 (spec48 D')) 1000 15 lp15 ⟨tm15 D.length (i : Nat), r15 nd nd' nm nm' D.length D'.length⟩ K = (bif decide ((↑i : Int) < (↑D.length : Int)) then bif true && decide ((↑i : Int) < (↑D.length : Int)) then bif decide (0 + (↑i : Int).toNat < (((base (ro2D t D t' D')).addCall 48 (spec48 D')).R 0).n) then D'.length = D'.length ∧ bif !isIn D' (D.getD (0 + (↑i : Int).toNat) ([], [])).fst (D.getD (0 + (↑i : Int).toNat) ([], [])).snd then K Exit.ret (St.mk [AV.any, AV.any, AV.ptr false 0 0 0, AV.ptr false 1 0 0, AV.bool false, AV.any, AV.ptr false 2 0 0, AV.any, AV.any, AV.any, AV.any, AV.any, AV.any, AV.any, AV.any, AV.any, AV.any, AV.any, AV.any, AV.any, AV.any, AV.any, AV.sl true 0 0 D.length Cp.no, AV.int IntKind.i64 (↑D.length : Int), AV.int IntKind.i64 (↑i : Int), AV.bool true, AV.ptr true 0 (0 + (↑i : Int).toNat) 0, AV.agg [AV.str (D.getD (0 + (↑i : Int).toNat) ([], [])).fst, AV.str (D.getD (0 + (↑i : Int).toNat) ([], [])).snd], AV.ptr false 1 0 2, AV.sl true 1 0 D'.length Cp.no, AV.agg [AV.str (D.getD (0 + (↑i : Int).toNat) ([], [])).fst, AV.str (D.getD (0 + (↑i : Int).toNat) ([], [])).snd], AV.bool (isIn D' (D.getD (0 + (↑i : Int).toNat) ([], [])).fst (D.getD (0 + (↑i : Int).toNat) ([], [])).snd), AV.bool true, AV.any] [some (Row.lst 37 3 [AV.agg [AV.int IntKind.i64 nd, AV.str nm, AV.sl true 0 0 D.length Cp.no]]), some (Row.lst 37 3 [AV.agg [AV.int IntKind.i64 nd', AV.str nm', AV.sl true 1 0 D'.length Cp.no]]), some (Row.lst 90 2 [AV.agg [AV.str (D.getD (0 + (↑i : Int).toNat) ([], [])).fst, AV.str (D.getD (0 + (↑i : Int).toNat) ([], [])).snd]])]) else K Exit.normal (St.mk [AV.any, AV.any, AV.ptr false 0 0 0, AV.ptr false 1 0 0, AV.any, AV.any, AV.ptr false 2 0 0, AV.any, AV.any, AV.any, AV.any, AV.any, AV.any, AV.any, AV.any, AV.any, AV.any, AV.any, AV.any, AV.any, AV.any, AV.any, AV.sl true 0 0 D.length Cp.no, AV.int IntKind.i64 (↑D.length : Int), AV.int IntKind.i64 (IntKind.i64.wrap ((↑i : Int) + 1)), AV.bool true, AV.ptr true 0 (0 + (↑i : Int).toNat) 0, AV.agg [AV.str (D.getD (0 + (↑i : Int).toNat) ([], [])).fst, AV.str (D.getD (0 + (↑i : Int).toNat) ([], [])).snd], AV.ptr false 1 0 2, AV.sl true 1 0 D'.length Cp.no, AV.agg [AV.str (D.getD (0 + (↑i : Int).toNat) ([], [])).fst, AV.str (D.getD (0 + (↑i : Int).toNat) ([], [])).snd], AV.bool (isIn D' (D.getD (0 + (↑i : Int).toNat) ([], [])).fst (D.getD (0 + (↑i : Int).toNat) ([], [])).snd), AV.bool false, AV.int IntKind.i64 (IntKind.i64.wrap ((↑i : Int) + 1))] [some (Row.lst 37 3 [AV.agg [AV.int IntKind.i64 nd, AV.str nm, AV.sl true 0 0 D.length Cp.no]]), some (Row.lst 37 3 [AV.agg [AV.int IntKind.i64 nd', AV.str nm', AV.sl true 1 0 D'.length Cp.no]]), some (Row.lst 90 2 [AV.agg [AV.str (D.getD (0 + (↑i : Int).toNat) ([], [])).fst, AV.str (D.getD (0 + (↑i : Int).toNat) ([], [])).snd]])]) else False else False else K (Exit.exit 0) (St.mk [AV.any, AV.any, AV.ptr false 0 0 0, AV.ptr false 1 0 0, AV.any, AV.any, AV.any, AV.any, AV.any, AV.any, AV.any, AV.any, AV.any, AV.any, AV.any, AV.any, AV.any, AV.any, AV.any, AV.any, AV.any, AV.any, AV.sl true 0 0 D.length Cp.no, AV.int IntKind.i64 (↑D.length : Int), AV.int IntKind.i64 (↑i : Int), AV.bool false, AV.any, AV.any, AV.any, AV.any, AV.any, AV.any, AV.any, AV.any] [some (Row.lst 37 3 [AV.agg [AV.int IntKind.i64 nd, AV.str nm, AV.sl true 0 0 D.length Cp.no]]), some (Row.lst 37 3 [AV.agg [AV.int IntKind.i64 nd', AV.str nm', AV.sl true 1 0 D'.length Cp.no]])])) := by kernel_rfl
theorem vr16i (t : Nat) (D : List At) (t' : Nat) (D' : List At) (nd nd' : Int) (nm nm' : Tx) (c : Int) (i k : Nat) (K : Exit → St → Prop) : rnd (base (ro2D t D t' D')) 1000 16 lp16i ⟨tm16i c (i : Nat) (k : Nat), r16 nd nd' nm nm' D.length D'.length⟩ K = (bif decide ((↑k : Int) < (↑D'.length : Int)) then bif true && decide ((↑i : Int) < (↑D.length : Int)) then bif decide (0 + (↑i : Int).toNat < ((base (ro2D t D t' D')).R 0).n) then bif true && decide ((↑k : Int) < (↑D'.length : Int)) then bif decide (0 + (↑k : Int).toNat < ((base (ro2D t D t' D')).R 1).n) then bif (D.getD (0 + (↑i : Int).toNat) ([], [])).fst == (D'.getD (0 + (↑k : Int).toNat) ([], [])).fst && ((D.getD (0 + (↑i : Int).toNat) ([], [])).snd == (D'.getD (0 + (↑k : Int).toNat) ([], [])).snd && true) then K (Exit.exit 2) (St.mk [AV.any, AV.any, AV.ptr false 0 0 0, AV.ptr false 1 0 0, AV.any, AV.int IntKind.i64 (IntKind.i64.wrap (c + 1)), AV.int IntKind.i64 (↑i : Int), AV.int IntKind.i64 (↑k : Int), AV.any, AV.any, AV.any, AV.any, AV.any, AV.any, AV.any, AV.int IntKind.i64 (↑k : Int), AV.ptr false 1 0 2, AV.sl true 1 0 D'.length Cp.no, AV.int IntKind.i64 (↑D'.length : Int), AV.bool true, AV.any, AV.any, AV.ptr false 0 0 2, AV.sl true 0 0 D.length Cp.no, AV.int IntKind.i64 (↑i : Int), AV.ptr true 0 (0 + (↑i : Int).toNat) 0, AV.agg [AV.str (D.getD (0 + (↑i : Int).toNat) ([], [])).fst, AV.str (D.getD (0 + (↑i : Int).toNat) ([], [])).snd], AV.ptr false 1 0 2, AV.sl true 1 0 D'.length Cp.no, AV.int IntKind.i64 (↑k : Int), AV.ptr true 1 (0 + (↑k : Int).toNat) 0, AV.agg [AV.str (D'.getD (0 + (↑k : Int).toNat) ([], [])).fst, AV.str (D'.getD (0 + (↑k : Int).toNat) ([], [])).snd], AV.bool true, AV.int IntKind.i64 c, AV.int IntKind.i64 (IntKind.i64.wrap (c + 1)), AV.any, AV.any, AV.any, AV.any, AV.any, AV.any, AV.any, AV.any, AV.any, AV.any, AV.any, AV.any, AV.any, AV.any, AV.any, AV.any, AV.any, AV.any, AV.any] [some (Row.lst 40 3 [AV.agg [AV.int IntKind.i64 nd, AV.str nm, AV.sl true 0 0 D.length Cp.no]]), some (Row.lst 40 3 [AV.agg [AV.int IntKind.i64 nd', AV.str nm', AV.sl true 1 0 D'.length Cp.no]])]) else K Exit.normal (St.mk [AV.any, AV.any, AV.ptr false 0 0 0, AV.ptr false 1 0 0, AV.any, AV.int IntKind.i64 c, AV.int IntKind.i64 (↑i : Int), AV.int IntKind.i64 (IntKind.i64.wrap ((↑k : Int) + 1)), AV.any, AV.any, AV.any, AV.any, AV.any, AV.any, AV.any, AV.int IntKind.i64 (↑k : Int), AV.ptr false 1 0 2, AV.sl true 1 0 D'.length Cp.no, AV.int IntKind.i64 (↑D'.length : Int), AV.bool true, AV.int IntKind.i64 (↑k : Int), AV.int IntKind.i64 (IntKind.i64.wrap ((↑k : Int) + 1)), AV.ptr false 0 0 2, AV.sl true 0 0 D.length Cp.no, AV.int IntKind.i64 (↑i : Int), AV.ptr true 0 (0 + (↑i : Int).toNat) 0, AV.agg [AV.str (D.getD (0 + (↑i : Int).toNat) ([], [])).fst, AV.str (D.getD (0 + (↑i : Int).toNat) ([], [])).snd], AV.ptr false 1 0 2, AV.sl true 1 0 D'.length Cp.no, AV.int IntKind.i64 (↑k : Int), AV.ptr true 1 (0 + (↑k : Int).toNat) 0, AV.agg [AV.str (D'.getD (0 + (↑k : Int).toNat) ([], [])).fst, AV.str (D'.getD (0 + (↑k : Int).toNat) ([], [])).snd], AV.bool false, AV.any, AV.any, AV.any, AV.any, AV.any, AV.any, AV.any, AV.any, AV.any, AV.any, AV.any, AV.any, AV.any, AV.any, AV.any, AV.any, AV.any, AV.any, AV.any, AV.any, AV.any] [some (Row.lst 40 3 [AV.agg [AV.int IntKind.i64 nd, AV.str nm, AV.sl true 0 0 D.length Cp.no]]), some (Row.lst 40 3 [AV.agg [AV.int IntKind.i64 nd', AV.str nm', AV.sl true 1 0 D'.length Cp.no]])]) else False else False else False else False else K (Exit.exit 2) (St.mk [AV.any, AV.any, AV.ptr false 0 0 0, AV.ptr false 1 0 0, AV.any, AV.int IntKind.i64 c, AV.int IntKind.i64 (↑i : Int), AV.int IntKind.i64 (↑k : Int), AV.any, AV.any, AV.any, AV.any, AV.any, AV.any, AV.any, AV.int IntKind.i64 (↑k : Int), AV.ptr false 1 0 2, AV.sl true 1 0 D'.length Cp.no, AV.int IntKind.i64 (↑D'.length : Int), AV.bool false, AV.any, AV.any, AV.any, AV.any, AV.any, AV.any, AV.any, AV.any, AV.any, AV.any, AV.any, AV.any, AV.any, AV.any, AV.any, AV.any, AV.any, AV.any, AV.any, AV.any, AV.any, AV.any, AV.any, AV.any, AV.any, AV.any, AV.any, AV.any, AV.any, AV.any, AV.any, AV.any, AV.any, AV.any] [some (Row.lst 40 3 [AV.agg [AV.int IntKind.i64 nd, AV.str nm, AV.sl true 0 0 D.length Cp.no]]), some (Row.lst 40 3 [AV.agg [AV.int IntKind.i64 nd', AV.str nm', AV.sl true 1 0 D'.length Cp.no]])])) := by kernel_rfl
theorem vr16o (t : Nat) (D : List At) (t' : Nat) (D' : List At) (nd nd' : Int) (nm nm' : Tx) (c c' : Int) (i : Nat) (P : Prop) (K : Exit → St → Prop) : rnd ((base (ro2D t D t' D')).addLoop 16 2 (spec16i P (r16 nd nd' nm nm' D.length D'.length) c i c')) 1000 16 lp16o ⟨tm16o c (i : Nat), r16 nd nd' nm nm' D.length D'.length⟩ K = (bif decide ((↑i : Int) < (↑D.length : Int)) then (P ∧ AV.ptr false 0 0 0 = AV.ptr false 0 0 0 ∧ AV.ptr false 1 0 0 = AV.ptr false 1 0 0 ∧ AV.int IntKind.i64 c = AV.int IntKind.i64 c ∧ AV.int IntKind.i64 (↑i : Int) = AV.int IntKind.i64 (↑i : Int) ∧ AV.int IntKind.i64 0 = AV.int IntKind.i64 0 ∧ 54 = 54 ∧ RowsAre [some (Row.lst 40 3 [AV.agg [AV.int IntKind.i64 nd, AV.str nm, AV.sl true 0 0 D.length Cp.no]]), some (Row.lst 40 3 [AV.agg [AV.int IntKind.i64 nd', AV.str nm', AV.sl true 1 0 D'.length Cp.no]])] [some (Row.lst 40 3 [AV.agg [AV.int IntKind.i64 nd, AV.str nm, AV.sl true 0 0 D.length Cp.no]]), some (Row.lst 40 3 [AV.agg [AV.int IntKind.i64 nd', AV.str nm', AV.sl true 1 0 D'.length Cp.no]])]) ∧ K Exit.normal (St.mk [AV.any, AV.any, AV.ptr false 0 0 0, AV.ptr false 1 0 0, AV.any, AV.int IntKind.i64 c', AV.int IntKind.i64 (IntKind.i64.wrap ((↑i : Int) + 1)), AV.any, AV.any, AV.any, AV.any, AV.any, AV.any, AV.int IntKind.i64 (↑i : Int), AV.int IntKind.i64 (IntKind.i64.wrap ((↑i : Int) + 1)), AV.any, AV.any, AV.any, AV.any, AV.any, AV.any, AV.any, AV.any, AV.any, AV.any, AV.any, AV.any, AV.any, AV.any, AV.any, AV.any, AV.any, AV.any, AV.any, AV.any, AV.any, AV.any, AV.any, AV.any, AV.any, AV.any, AV.any, AV.any, AV.any, AV.any, AV.any, AV.any, AV.any, AV.any, AV.any, AV.any, AV.any, AV.any, AV.any] [some (Row.lst 40 3 [AV.agg [AV.int IntKind.i64 nd, AV.str nm, AV.sl true 0 0 D.length Cp.no]]), some (Row.lst 40 3 [AV.agg [AV.int IntKind.i64 nd', AV.str nm', AV.sl true 1 0 D'.length Cp.no]])]) else K (Exit.exit 0) (St.mk [AV.any, AV.any, AV.ptr false 0 0 0, AV.ptr false 1 0 0, AV.any, AV.int IntKind.i64 c, AV.int IntKind.i64 (↑i : Int), AV.any, AV.int IntKind.i64 (↑i : Int), AV.ptr false 0 0 2, AV.sl true 0 0 D.length Cp.no, AV.int IntKind.i64 (↑D.length : Int), AV.bool false, AV.any, AV.any, AV.any, AV.any, AV.any, AV.any, AV.any, AV.any, AV.any, AV.any, AV.any, AV.any, AV.any, AV.any, AV.any, AV.any, AV.any, AV.any, AV.any, AV.any, AV.any, AV.any, AV.any, AV.any, AV.any, AV.any, AV.any, AV.any, AV.any, AV.any, AV.any, AV.any, AV.any, AV.any, AV.any, AV.any, AV.any, AV.any, AV.any, AV.any, AV.any] [some (Row.lst 40 3 [AV.agg [AV.int IntKind.i64 nd, AV.str nm, AV.sl true 0 0 D.length Cp.no]]), some (Row.lst 40 3 [AV.agg [AV.int IntKind.i64 nd', AV.str nm', AV.sl true 1 0 D'.length Cp.no]])])) := by kernel_rfl
theorem vc64 (t : Nat) (D : List At) (t' : Nat) (D' : List At) (a b : Tx) (Q : AV → Prop) : vcd ((base (ro2D t D t' D')).addLoop 64 0 (spec64 D' a b)) 1000 64 fi64 [.sl true 1 0 D'.length .no, .agg [.str a, .str b]] [] (fun v _ => Q v) = ((AV.sl true 1 0 D'.length Cp.no = AV.sl true 1 0 D'.length Cp.no ∧ AV.ptr false 0 0 0 = AV.ptr false 0 0 0 ∧ AV.int IntKind.i64 (↑D'.length : Int) = AV.int IntKind.i64 (↑D'.length : Int) ∧ AV.int IntKind.i64 0 = AV.int IntKind.i64 0 ∧ 19 = 19 ∧ RowsAre [some (Row.lst 90 2 [AV.agg [AV.str a, AV.str b]])] [some (Row.lst 90 2 [AV.agg [AV.str a, AV.str b]])]) ∧ (isIn D' a b = true → ∀ (j : Nat), Q (AV.int IntKind.i64 (↑j : Int))) ∧ (isIn D' a b = false → Q (AV.int IntKind.i64 (-1)))) := by kernel_rfl
theorem vc48 (t : Nat) (D : List At) (t' : Nat) (D' : List At) (a b : Tx) (Q : AV → Prop) : vcd ((base (ro2D t D t' D')).addCall 64 (spec64C D')) 1000 48 fi48 [.sl true 1 0 D'.length .no, .agg [.str a, .str b]] [] (fun v _ => Q v) = (D'.length = D'.length ∧ (isIn D' a b = true → ∀ (j : Nat), Q (AV.bool true)) ∧ (isIn D' a b = false → Q (AV.bool false))) := by kernel_rfl
theorem vc15 (t : Nat) (D : List At) (t' : Nat) (D' : List At) (nd nd' : Int) (nm nm' : Tx) (Q : AV → Prop) : vcd (((base (ro2D t D t' D')).addCall 48 (spec48 D')).addLoop 15 0 (spec15L D D' (r15 nd nd' nm nm' D.length D'.length))) 1000 15 fi15 [entA nd nm (.sl true 0 0 D.length .no), entA nd' nm' (.sl true 1 0 D'.length .no)] [] (fun v _ => Q v) = (bif !nm == nm' then Q (AV.bool false) else bif (↑D.length : Int) != (↑D'.length : Int) then Q (AV.bool false) else (AV.ptr false 0 0 0 = AV.ptr false 0 0 0 ∧ AV.ptr false 1 0 0 = AV.ptr false 1 0 0 ∧ AV.sl true 0 0 D.length Cp.no = AV.sl true 0 0 D.length Cp.no ∧ AV.int IntKind.i64 (↑D.length : Int) = AV.int IntKind.i64 (↑D.length : Int) ∧ AV.int IntKind.i64 0 = AV.int IntKind.i64 0 ∧ 34 = 34 ∧ RowsAre [some (Row.lst 37 3 [AV.agg [AV.int IntKind.i64 nd, AV.str nm, AV.sl true 0 0 D.length Cp.no]]), some (Row.lst 37 3 [AV.agg [AV.int IntKind.i64 nd', AV.str nm', AV.sl true 1 0 D'.length Cp.no]])] [some (Row.lst 37 3 [AV.agg [AV.int IntKind.i64 nd, AV.str nm, AV.sl true 0 0 D.length Cp.no]]), some (Row.lst 37 3 [AV.agg [AV.int IntKind.i64 nd', AV.str nm', AV.sl true 1 0 D'.length Cp.no]])]) ∧ (allIn D D' = false → Q (AV.bool false)) ∧ (allIn D D' = true → Q (AV.bool true))) := by kernel_rfl
theorem vc16 (t : Nat) (D : List At) (t' : Nat) (D' : List At) (nd nd' : Int) (nm nm' : Tx) (c : Int) (Q : AV → Prop) : vcd ((base (ro2D t D t' D')).addLoop 16 0 (spec16o (r16 nd nd' nm nm' D.length D'.length) c D.length)) 1000 16 fi16 [entA nd nm (.sl true 0 0 D.length .no), entA nd' nm' (.sl true 1 0 D'.length .no)] [] (fun v _ => Q v) = ((AV.ptr false 0 0 0 = AV.ptr false 0 0 0 ∧ AV.ptr false 1 0 0 = AV.ptr false 1 0 0 ∧ AV.int IntKind.i64 0 = AV.int IntKind.i64 0 ∧ AV.int IntKind.i64 0 = AV.int IntKind.i64 0 ∧ 54 = 54 ∧ RowsAre [some (Row.lst 40 3 [AV.agg [AV.int IntKind.i64 nd, AV.str nm, AV.sl true 0 0 D.length Cp.no]]), some (Row.lst 40 3 [AV.agg [AV.int IntKind.i64 nd', AV.str nm', AV.sl true 1 0 D'.length Cp.no]])] [some (Row.lst 40 3 [AV.agg [AV.int IntKind.i64 nd, AV.str nm, AV.sl true 0 0 D.length Cp.no]]), some (Row.lst 40 3 [AV.agg [AV.int IntKind.i64 nd', AV.str nm', AV.sl true 1 0 D'.length Cp.no]])]) ∧ bif nm == nm' then bif c == (↑D.length : Int) then Q (AV.bool (c == (↑D'.length : Int))) else Q (AV.bool false) else Q (AV.bool false)) := by kernel_rfl
theorem gnd2_view {r r' : Option Row} (h : Rows) (h0 : h[0]? = some r) (h1 : h[1]? = some r') (g0 : ∀ x, r = some x → RowV some 2 x x) (g1 : ∀ x, r' = some x → RowV some 2 x x) (hr : r.isSome = true) (hr' : r'.isSome = true) : View some [r, r'] h := by
  refine View.of ?_ (fun c c' b h1 h2 h3 h4 => some_inj _ c c' b h1 h2 h3 h4)
  intro c o ho
  match c with
  | 0 =>
    cases ho
    obtain ⟨x, rfl⟩ := Option.isSome_iff_exists.1 hr
    exact ViewL.at_ (b := 0) rfl h0 (g0 x rfl)
  | 1 =>
    cases ho
    obtain ⟨x, rfl⟩ := Option.isSome_iff_exists.1 hr'
    exact ViewL.at_ (b := 1) rfl h1 (g1 x rfl)
  | c + 2 => simp at ho
def eqAt (D' : List At) (a b : Tx) (j : Nat) : Bool := a == (D'.getD j ([], [])).1 && b == (D'.getD j ([], [])).2
theorem isIn_at {D' : List At} {a b : Tx} {j : Nat} (hj : j < D'.length) (h : eqAt D' a b j = true) : isIn D' a b = true := by
  unfold isIn
  rw [List.any_eq_true]
  refine ⟨D'[j], List.getElem_mem hj, ?_⟩
  unfold eqAt at h
  rwa [show D'.getD j ([], []) = D'[j] by simp [List.getD, List.getElem?_eq_getElem hj]] at h
theorem isIn_none {D' : List At} {a b : Tx} (h : ∀ j, j < D'.length → eqAt D' a b j = false) : isIn D' a b = false := by
  unfold isIn
  rw [List.any_eq_false]
  intro p hp
  obtain ⟨j, hj, rfl⟩ := List.mem_iff_getElem.1 hp
  have := h j hj
  unfold eqAt at this
  rw [show D'.getD j ([], []) = D'[j] by simp [List.getD, List.getElem?_eq_getElem hj]] at this
  rw [this]; simp
/-! Index -/
theorem loop64 (t : Nat) (D : List At) (t' : Nat) (D' : List At) (a b : Tx) (hD : D'.length ≤ 1000000) (st0 : St) (hT : VwL some 1 (tm64 D'.length ((0 : Nat) : Int)) st0.tmps) (hr : st0.rows = rB a b) {Q : Exit → St → Prop}
    (h1 : isIn D' a b = true → ∀ j : Nat, Q .ret ⟨tm64r j, rB a b⟩) (h2 : isIn D' a b = false → Q .normal ⟨tm64 D'.length (D'.length : Nat), rB a b⟩) : Safe Try.prog (base (ro2D t D t' D')).R (.block 0 (.loop lp64)) st0 Q := by
  have hlen : st0.rows.length = 1 := by rw [hr]; rfl
  have vR : View some (rB a b) (rB a b) := by
    refine View.of ?_ (fun c c' b h1 h2 h3 h4 => some_inj _ c c' b h1 h2 h3 h4)
    intro c o ho
    match c with
    | 0 => cases ho; exact ViewL.at_ (b := 0) rfl rfl (.gnd rfl rfl)
    | c + 1 => simp [rB] at ho
  refine (loop_block (I := {i : Nat // i ≤ D'.length ∧ ∀ j, j < i → eqAt D' a b j = false}) (fam := fun i => ⟨tm64 D'.length (i.1 : Nat), rB a b⟩) (fun i => D'.length - i.1)
    (X := fun e stE => (e = .ret ∧ isIn D' a b = true ∧ ∃ j : Nat, stE = ⟨tm64r j, rB a b⟩) ∨ (e = .exit 0 ∧ isIn D' a b = false ∧ stE = ⟨tm64 D'.length (D'.length : Nat), rB a b⟩)) (id := 0) (i0 := ⟨0, Nat.zero_le _, fun j hj => absurd hj (Nat.not_lt_zero _)⟩) (st := st0) (f := some) ?_ ?_ ?_ ?_).mono ?_
  · exact ⟨by rw [hr]; exact vR, hT⟩
  · intro c hc; rfl
  · intro k; rw [hlen]; exact Nat.le_refl _
  · rintro ⟨i, hi, hno⟩
    rw [hlen]
    refine byRndL (base_ok _) (f := 64) (fi := fi64) (by kernel_rfl) blk64 1000 (vr64 t D t' D' a b i _) ?_
    rw [wrapSucc i (by omega)]
    have hi0 : 0 + (i : Int).toNat = i := by simp
    rw [hi0]
    refine hcB (fun c1 => ?_) (fun c1 => ?_)
    · have c1 : i < D'.length := by have := of_decide_eq_true c1; omega
      refine hcT (by simp; omega) (hcT (decide_eq_true (show i < D'.length from c1)) ?_)
      refine hcB (fun c2 => ?_) (fun c2 => ?_)
      · refine ⟨_, ⟨some, ⟨vR, ?_⟩, fun _ _ => rfl, Nat.le_refl _⟩, .inl ⟨rfl, isIn_at c1 (by unfold eqAt; simpa using c2), i, rfl⟩⟩
        ((simp only [tm64, tm64r, tm15, tm15r, tm16o, tm16i]; repeat' (first | with_reducible exact VwL.nil | with_reducible refine VwL.cons ?_ ?_ | with_reducible exact Vw.anyI | with_reducible exact Vw.boolI | with_reducible exact Vw.intI | with_reducible exact Vw.intE rfl | exact Vw.ptrI (by decide) rfl | exact Vw.ptrI (by simp [r15]) rfl | exact Vw.ptrI (by simp [r16]) rfl | exact Vw.ptrI (by simp [rB]) rfl | exact Vw.gndI rfl)))
      · refine ⟨⟨i + 1, by omega, ?_⟩, by show D'.length - (i + 1) < D'.length - i; omega, some, ⟨vR, by ((simp only [tm64, tm64r, tm15, tm15r, tm16o, tm16i]; repeat' (first | with_reducible exact VwL.nil | with_reducible refine VwL.cons ?_ ?_ | with_reducible exact Vw.anyI | with_reducible exact Vw.boolI | with_reducible exact Vw.intI | with_reducible exact Vw.intE rfl | exact Vw.ptrI (by decide) rfl | exact Vw.ptrI (by simp [r15]) rfl | exact Vw.ptrI (by simp [r16]) rfl | exact Vw.ptrI (by simp [rB]) rfl | exact Vw.gndI rfl)))⟩, fun _ _ => rfl, Nat.le_refl _⟩
        intro j hj
        by_cases e : j < i
        · exact hno j e
        · have : j = i := by omega
          subst this
          unfold eqAt
          simpa using c2
    · have c1 : i = D'.length := by have := of_decide_eq_false c1; omega
      subst c1
      exact ⟨_, ⟨some, ⟨vR, by ((simp only [tm64, tm64r, tm15, tm15r, tm16o, tm16i]; repeat' (first | with_reducible exact VwL.nil | with_reducible refine VwL.cons ?_ ?_ | with_reducible exact Vw.anyI | with_reducible exact Vw.boolI | with_reducible exact Vw.intI | with_reducible exact Vw.intE rfl | exact Vw.ptrI (by decide) rfl | exact Vw.ptrI (by simp [r15]) rfl | exact Vw.ptrI (by simp [r16]) rfl | exact Vw.ptrI (by simp [rB]) rfl | exact Vw.gndI rfl)))⟩, fun _ _ => rfl, Nat.le_refl _⟩, .inr ⟨rfl, isIn_none hno, rfl⟩⟩
  · rintro e stE ⟨e0, rfl, ⟨rfl, hi, j, rfl⟩ | ⟨rfl, hi, rfl⟩⟩
    · exact h1 hi j
    · exact h2 hi
theorem spec64_ok (t : Nat) (D : List At) (t' : Nat) (D' : List At) (a b : Tx) (hD : D'.length ≤ 1000000) : ∀ st k, spec64 D' a b st k → Safe Try.prog (base (ro2D t D t' D')).R (.block 0 (.loop lp64)) st k := by
  rintro st k ⟨⟨t0, t3, t7, t8, hl, ⟨hr⟩⟩, hk1, hk2⟩
  refine loop64 t D t' D' a b hD st ?_ hr hk1 hk2
  rw [tm64_spr]
  refine VwL.ofKnown hl ⟨?_, ?_, ?_, ?_, trivial⟩
  · rw [t0]; exact Vw.gndI rfl
  · rw [t3]; exact Vw.ptrI (by decide) rfl
  · rw [t7]; exact Vw.intI
  · rw [t8]; exact Vw.intI
theorem safe64 (t : Nat) (D : List At) (t' : Nat) (D' : List At) (a b : Tx) (hD : D'.length ≤ 1000000) : SafeCall Try.prog (ro2D t D t' D') 64 [.sl true 1 0 D'.length .no, .agg [.str a, .str b]] [] fun v _ => (isIn D' a b = true ∧ ∃ j : Nat, v = .int .i64 j) ∨ (isIn D' a b = false ∧ v = .int .i64 (-1)) := by
  refine byVcd ((base_ok _).addLoop (f := 64) (fi := fi64) (by kernel_rfl) (body := .loop lp64) blk64 (spec64_ok t D t' D' a b hD)) (f := 64) (fi := fi64) (by kernel_rfl) 1000 (vc64 t D t' D' a b (fun v => (isIn D' a b = true ∧ ∃ j : Nat, v = .int .i64 j) ∨ (isIn D' a b = false ∧ v = .int .i64 (-1)))) ?_
  exact ⟨⟨rfl, rfl, rfl, rfl, rfl, ⟨rfl⟩⟩, fun h j => .inl ⟨h, j, rfl⟩, fun h => .inr ⟨h, rfl⟩⟩
theorem spec64C_ok (t : Nat) (D : List At) (t' : Nat) (D' : List At) (hD : D'.length ≤ 1000000) : ∀ args h k, spec64C D' args h k → SafeCall Try.prog (ro2D t D t' D') 64 args h k := by
  intro args h k hk
  unfold spec64C at hk
  split at hk
  · obtain ⟨rfl, hk1, hk2⟩ := hk
    refine ((safe64 t D t' D' _ _ hD).alone (by kernel_rfl) ?_ h).mono ?_
    · rintro v (⟨_, j, rfl⟩ | ⟨_, rfl⟩) <;> rfl
    · rintro v' h' ⟨⟨hi, j, rfl⟩ | ⟨hi, rfl⟩, rfl⟩
      · exact hk1 hi j
      · exact hk2 hi
  · exact hk.elim
theorem safe48 (t : Nat) (D : List At) (t' : Nat) (D' : List At) (a b : Tx) (hD : D'.length ≤ 1000000) : SafeCall Try.prog (ro2D t D t' D') 48 [.sl true 1 0 D'.length .no, .agg [.str a, .str b]] [] fun v _ => v = .bool (isIn D' a b) := by
  refine byVcd ((base_ok _).addCall (f := 64) (fi := fi64) (by kernel_rfl) (spec64C_ok t D t' D' hD)) (f := 48) (fi := fi48) (by kernel_rfl) 1000 (vc48 t D t' D' a b (fun v => v = .bool (isIn D' a b))) ?_
  refine ⟨rfl, fun h j => ?_, fun h => ?_⟩
  · rw [h]
  · rw [h]
theorem spec48_ok (t : Nat) (D : List At) (t' : Nat) (D' : List At) (hD : D'.length ≤ 1000000) : ∀ args h k, spec48 D' args h k → SafeCall Try.prog (ro2D t D t' D') 48 args h k := by
  intro args h k hk
  unfold spec48 at hk
  split at hk
  · obtain ⟨rfl, hk⟩ := hk
    refine ((safe48 t D t' D' _ _ hD).alone (by kernel_rfl) (fun v hv => by rw [hv]; rfl) h).mono ?_
    rintro v' h' ⟨rfl, rfl⟩
    exact hk
  · exact hk.elim

/-! Alike -/
theorem v15 (nd nd' : Int) (nm nm' : Tx) (n m : Nat) {h : Rows} (h0 : h[0]? = some (some (.lst 37 3 [entA nd nm (.sl true 0 0 n .no)]))) (h1 : h[1]? = some (some (.lst 37 3 [entA nd' nm' (.sl true 1 0 m .no)]))) : View some (r15 nd nd' nm nm' n m) h :=
  gnd2_view h h0 h1 (fun x hx => by cases hx; exact .gnd rfl rfl) (fun x hx => by cases hx; exact .gnd rfl rfl) rfl rfl
theorem v16 (nd nd' : Int) (nm nm' : Tx) (n m : Nat) {h : Rows} (h0 : h[0]? = some (some (.lst 40 3 [entA nd nm (.sl true 0 0 n .no)]))) (h1 : h[1]? = some (some (.lst 40 3 [entA nd' nm' (.sl true 1 0 m .no)]))) : View some (r16 nd nd' nm nm' n m) h :=
  gnd2_view h h0 h1 (fun x hx => by cases hx; exact .gnd rfl rfl) (fun x hx => by cases hx; exact .gnd rfl rfl) rfl rfl
theorem allIn_at {D D' : List At} {j : Nat} (hj : j < D.length) (h : isIn D' (D.getD j ([], [])).1 (D.getD j ([], [])).2 = false) : allIn D D' = false := by
  unfold allIn
  rw [List.all_eq_false]
  refine ⟨D[j], List.getElem_mem hj, ?_⟩
  rw [show D.getD j ([], []) = D[j] by simp [List.getD, List.getElem?_eq_getElem hj]] at h
  rw [h]; simp
theorem allIn_of {D D' : List At} (h : ∀ j, j < D.length → isIn D' (D.getD j ([], [])).1 (D.getD j ([], [])).2 = true) : allIn D D' = true := by
  unfold allIn
  rw [List.all_eq_true]
  intro p hp
  obtain ⟨j, hj, rfl⟩ := List.mem_iff_getElem.1 hp
  have := h j hj
  rwa [show D.getD j ([], []) = D[j] by simp [List.getD, List.getElem?_eq_getElem hj]] at this
theorem loop15 (t : Nat) (D : List At) (t' : Nat) (D' : List At) (nd nd' : Int) (nm nm' : Tx) (hD : D.length ≤ 1000000) (hD' : D'.length ≤ 1000000) (st0 : St) (hT : VwL some 2 (tm15 D.length ((0 : Nat) : Int)) st0.tmps) (hr : st0.rows = r15 nd nd' nm nm' D.length D'.length) {Q : Exit → St → Prop}
    (h1 : allIn D D' = false → Q .ret ⟨tm15r, r15 nd nd' nm nm' D.length D'.length⟩) (h2 : allIn D D' = true → Q .normal ⟨tm15 D.length (D.length : Nat), r15 nd nd' nm nm' D.length D'.length⟩) : Safe Try.prog ((base (ro2D t D t' D')).addCall 48 (spec48 D')).R (.block 0 (.loop lp15)) st0 Q := by
  have hlen : st0.rows.length = 2 := by rw [hr]; rfl
  refine (loop_block (I := {i : Nat // i ≤ D.length ∧ ∀ j, j < i → isIn D' (D.getD j ([], [])).1 (D.getD j ([], [])).2 = true}) (fam := fun i => ⟨tm15 D.length (i.1 : Nat), r15 nd nd' nm nm' D.length D'.length⟩) (fun i => D.length - i.1)
    (X := fun e stE => (e = .ret ∧ allIn D D' = false ∧ stE = ⟨tm15r, r15 nd nd' nm nm' D.length D'.length⟩) ∨ (e = .exit 0 ∧ allIn D D' = true ∧ stE = ⟨tm15 D.length (D.length : Nat), r15 nd nd' nm nm' D.length D'.length⟩)) (id := 0) (i0 := ⟨0, Nat.zero_le _, fun j hj => absurd hj (Nat.not_lt_zero _)⟩) (st := st0) (f := some) ?_ ?_ ?_ ?_).mono ?_
  · exact ⟨by rw [hr]; exact v15 _ _ _ _ _ _ rfl rfl, hT⟩
  · intro c hc; rfl
  · intro k; rw [hlen]; exact Nat.le_refl _
  · rintro ⟨i, hi, hno⟩
    rw [hlen]
    refine byRndL ((base_ok _).addCall (f := 48) (fi := fi48) (by kernel_rfl) (spec48_ok t D t' D' hD')) (f := 15) (fi := fi15) (by kernel_rfl) blk15 1000 (vr15 t D t' D' nd nd' nm nm' i _) ?_
    rw [wrapSucc i (by omega)]
    have hi0 : 0 + (i : Int).toNat = i := by simp
    rw [hi0]
    refine hcB (fun c1 => ?_) (fun c1 => ?_)
    · have c1 : i < D.length := by have := of_decide_eq_true c1; omega
      refine hcT (by simp; omega) (hcT (decide_eq_true (show i < D.length from c1)) ⟨rfl, ?_⟩)
      refine hcB (fun c2 => ?_) (fun c2 => ?_)
      · exact ⟨_, ⟨some, ⟨v15 _ _ _ _ _ _ rfl rfl, by ((simp only [tm64, tm64r, tm15, tm15r, tm16o, tm16i]; repeat' (first | with_reducible exact VwL.nil | with_reducible refine VwL.cons ?_ ?_ | with_reducible exact Vw.anyI | with_reducible exact Vw.boolI | with_reducible exact Vw.intI | with_reducible exact Vw.intE rfl | exact Vw.ptrI (by decide) rfl | exact Vw.ptrI (by simp [r15]) rfl | exact Vw.ptrI (by simp [r16]) rfl | exact Vw.ptrI (by simp [rB]) rfl | exact Vw.gndI rfl)))⟩, fun _ _ => rfl, Nat.le_refl _⟩, .inl ⟨rfl, allIn_at c1 (by simpa using c2), rfl⟩⟩
      · refine ⟨⟨i + 1, by omega, ?_⟩, by show D.length - (i + 1) < D.length - i; omega, some, ⟨v15 _ _ _ _ _ _ rfl rfl, by ((simp only [tm64, tm64r, tm15, tm15r, tm16o, tm16i]; repeat' (first | with_reducible exact VwL.nil | with_reducible refine VwL.cons ?_ ?_ | with_reducible exact Vw.anyI | with_reducible exact Vw.boolI | with_reducible exact Vw.intI | with_reducible exact Vw.intE rfl | exact Vw.ptrI (by decide) rfl | exact Vw.ptrI (by simp [r15]) rfl | exact Vw.ptrI (by simp [r16]) rfl | exact Vw.ptrI (by simp [rB]) rfl | exact Vw.gndI rfl)))⟩, fun _ _ => rfl, Nat.le_refl _⟩
        intro j hj
        by_cases e : j < i
        · exact hno j e
        · have : j = i := by omega
          subst this
          simpa using c2
    · have c1 : i = D.length := by have := of_decide_eq_false c1; omega
      subst c1
      exact ⟨_, ⟨some, ⟨v15 _ _ _ _ _ _ rfl rfl, by ((simp only [tm64, tm64r, tm15, tm15r, tm16o, tm16i]; repeat' (first | with_reducible exact VwL.nil | with_reducible refine VwL.cons ?_ ?_ | with_reducible exact Vw.anyI | with_reducible exact Vw.boolI | with_reducible exact Vw.intI | with_reducible exact Vw.intE rfl | exact Vw.ptrI (by decide) rfl | exact Vw.ptrI (by simp [r15]) rfl | exact Vw.ptrI (by simp [r16]) rfl | exact Vw.ptrI (by simp [rB]) rfl | exact Vw.gndI rfl)))⟩, fun _ _ => rfl, Nat.le_refl _⟩, .inr ⟨rfl, allIn_of hno, rfl⟩⟩
  · rintro e stE ⟨e0, rfl, ⟨rfl, hi, rfl⟩ | ⟨rfl, hi, rfl⟩⟩
    · exact h1 hi
    · exact h2 hi
theorem spec15L_ok (t : Nat) (D : List At) (t' : Nat) (D' : List At) (nd nd' : Int) (nm nm' : Tx) (hD : D.length ≤ 1000000) (hD' : D'.length ≤ 1000000) :
    ∀ st k, spec15L D D' (r15 nd nd' nm nm' D.length D'.length) st k → Safe Try.prog ((base (ro2D t D t' D')).addCall 48 (spec48 D')).R (.block 0 (.loop lp15)) st k := by
  rintro st k ⟨⟨t2, t3, t22, t23, t24, hl, ⟨hr⟩⟩, hk1, hk2⟩
  refine loop15 t D t' D' nd nd' nm nm' hD hD' st ?_ hr hk1 hk2
  rw [tm15_spr]
  refine VwL.ofKnown hl ⟨?_, ?_, ?_, ?_, ?_, trivial⟩
  · rw [t2]; exact Vw.ptrI (by decide) rfl
  · rw [t3]; exact Vw.ptrI (by decide) rfl
  · rw [t22]; exact Vw.gndI rfl
  · rw [t23]; exact Vw.intI
  · rw [t24]; exact Vw.intI
def alikeB (nm nm' : Tx) (D D' : List At) : Bool := nm == nm' && (D.length == D'.length && allIn D D')
theorem safe15 (t : Nat) (D : List At) (t' : Nat) (D' : List At) (nd nd' : Int) (nm nm' : Tx) (hD : D.length ≤ 1000000) (hD' : D'.length ≤ 1000000) :
    SafeCall Try.prog (ro2D t D t' D') 15 [entA nd nm (.sl true 0 0 D.length .no), entA nd' nm' (.sl true 1 0 D'.length .no)] [] fun v _ => v = .bool (alikeB nm nm' D D') := by
  refine byVcd (((base_ok _).addCall (f := 48) (fi := fi48) (by kernel_rfl) (spec48_ok t D t' D' hD')).addLoop (f := 15) (fi := fi15) (by kernel_rfl) (body := .loop lp15) blk15 (spec15L_ok t D t' D' nd nd' nm nm' hD hD')) (f := 15) (fi := fi15) (by kernel_rfl) 1000
    (vc15 t D t' D' nd nd' nm nm' (fun v => v = .bool (alikeB nm nm' D D'))) ?_
  unfold alikeB
  refine hcB (fun c1 => ?_) (fun c1 => ?_)
  · have c1 : (nm == nm') = false := by simpa using c1
    rw [c1]; rfl
  · have c1 : (nm == nm') = true := by simpa using c1
    refine hcB (fun c2 => ?_) (fun c2 => ?_)
    · have c2 : (D.length == D'.length) = false := by rw [beq_eq_false_iff_ne]; intro e; rw [e] at c2; simp at c2
      rw [c1, c2]; rfl
    · have c2 : (D.length == D'.length) = true := by
        rw [beq_iff_eq]
        have : ((D.length : Nat) : Int) = (D'.length : Nat) := by simpa using c2
        omega
      refine ⟨⟨rfl, rfl, rfl, rfl, rfl, rfl, ⟨rfl⟩⟩, fun h => ?_, fun h => ?_⟩
      · rw [c1, c2, h]; rfl
      · rw [c1, c2, h]; rfl
/-! the document's Alike -/
theorem loop16i (t : Nat) (D : List At) (t' : Nat) (D' : List At) (nd nd' : Int) (nm nm' : Tx) (c i : Nat) (hi : i < D.length) (hc : c ≤ 2000000) (hD : D.length ≤ 1000000) (hD' : D'.length ≤ 1000000) (st0 : St) (hT : VwL some 2 (tm16i (c : Nat) (i : Nat) ((0 : Nat) : Int)) st0.tmps) (hr : st0.rows = r16 nd nd' nm nm' D.length D'.length) {Q : Exit → St → Prop}
    (h : Q .normal ⟨tm16o ((bif isIn D' (D.getD i ([], [])).1 (D.getD i ([], [])).2 then c + 1 else c : Nat) : Int) (i : Nat), r16 nd nd' nm nm' D.length D'.length⟩) : Safe Try.prog (base (ro2D t D t' D')).R (.block 2 (.loop lp16i)) st0 Q := by
  have hlen : st0.rows.length = 2 := by rw [hr]; rfl
  refine (loop_block (I := {k : Nat // k ≤ D'.length ∧ ∀ j, j < k → eqAt D' (D.getD i ([], [])).1 (D.getD i ([], [])).2 j = false}) (fam := fun k => ⟨tm16i (c : Nat) (i : Nat) (k.1 : Nat), r16 nd nd' nm nm' D.length D'.length⟩) (fun k => D'.length - k.1)
    (X := fun e stE => e = .exit 2 ∧ stE = ⟨tm16o ((bif isIn D' (D.getD i ([], [])).1 (D.getD i ([], [])).2 then c + 1 else c : Nat) : Int) (i : Nat), r16 nd nd' nm nm' D.length D'.length⟩) (id := 2) (i0 := ⟨0, Nat.zero_le _, fun j hj => absurd hj (Nat.not_lt_zero _)⟩) (st := st0) (f := some) ?_ ?_ ?_ ?_).mono ?_
  · exact ⟨by rw [hr]; exact v16 _ _ _ _ _ _ rfl rfl, hT⟩
  · intro c hc; rfl
  · intro k; rw [hlen]; exact Nat.le_refl _
  · rintro ⟨k, hk, hno⟩
    rw [hlen]
    refine byRndL (base_ok _) (f := 16) (fi := fi16) (by kernel_rfl) blk16i 1000 (vr16i t D t' D' nd nd' nm nm' c i k _) ?_
    rw [wrapSucc k (by omega), wrapSucc c (by omega)]
    have hk0 : 0 + (k : Int).toNat = k := by simp
    have hi0 : 0 + (i : Int).toNat = i := by simp
    rw [hk0, hi0]
    refine hcB (fun c1 => ?_) (fun c1 => ?_)
    · have c1 : k < D'.length := by have := of_decide_eq_true c1; omega
      refine hcT (by simp; omega) (hcT (decide_eq_true (show i < D.length from hi)) (hcT (by simp; omega) (hcT (decide_eq_true (show k < D'.length from c1)) ?_)))
      refine hcB (fun c2 => ?_) (fun c2 => ?_)
      · have hin : isIn D' (D.getD i ([], [])).1 (D.getD i ([], [])).2 = true := isIn_at c1 (by unfold eqAt; simpa using c2)
        refine ⟨_, ⟨some, ⟨v16 _ _ _ _ _ _ rfl rfl, ?_⟩, fun _ _ => rfl, Nat.le_refl _⟩, rfl, rfl⟩
        rw [hin]
        simp only [cond_true]
        ((simp only [tm64, tm64r, tm15, tm15r, tm16o, tm16i]; repeat' (first | with_reducible exact VwL.nil | with_reducible refine VwL.cons ?_ ?_ | with_reducible exact Vw.anyI | with_reducible exact Vw.boolI | with_reducible exact Vw.intI | with_reducible exact Vw.intE rfl | exact Vw.ptrI (by decide) rfl | exact Vw.ptrI (by simp [r15]) rfl | exact Vw.ptrI (by simp [r16]) rfl | exact Vw.ptrI (by simp [rB]) rfl | exact Vw.gndI rfl)))
      · refine ⟨⟨k + 1, by omega, ?_⟩, by show D'.length - (k + 1) < D'.length - k; omega, some, ⟨v16 _ _ _ _ _ _ rfl rfl, by ((simp only [tm64, tm64r, tm15, tm15r, tm16o, tm16i]; repeat' (first | with_reducible exact VwL.nil | with_reducible refine VwL.cons ?_ ?_ | with_reducible exact Vw.anyI | with_reducible exact Vw.boolI | with_reducible exact Vw.intI | with_reducible exact Vw.intE rfl | exact Vw.ptrI (by decide) rfl | exact Vw.ptrI (by simp [r15]) rfl | exact Vw.ptrI (by simp [r16]) rfl | exact Vw.ptrI (by simp [rB]) rfl | exact Vw.gndI rfl)))⟩, fun _ _ => rfl, Nat.le_refl _⟩
        intro j hj
        by_cases e : j < k
        · exact hno j e
        · have : j = k := by omega
          subst this
          unfold eqAt
          simpa using c2
    · have c1 : k = D'.length := by have := of_decide_eq_false c1; omega
      subst c1
      have hin := isIn_none hno
      refine ⟨_, ⟨some, ⟨v16 _ _ _ _ _ _ rfl rfl, ?_⟩, fun _ _ => rfl, Nat.le_refl _⟩, rfl, rfl⟩
      rw [hin]
      simp only [cond_false]
      ((simp only [tm64, tm64r, tm15, tm15r, tm16o, tm16i]; repeat' (first | with_reducible exact VwL.nil | with_reducible refine VwL.cons ?_ ?_ | with_reducible exact Vw.anyI | with_reducible exact Vw.boolI | with_reducible exact Vw.intI | with_reducible exact Vw.intE rfl | exact Vw.ptrI (by decide) rfl | exact Vw.ptrI (by simp [r15]) rfl | exact Vw.ptrI (by simp [r16]) rfl | exact Vw.ptrI (by simp [rB]) rfl | exact Vw.gndI rfl)))
  · rintro e stE ⟨e0, rfl, rfl, rfl⟩
    exact h
theorem cnt_le (D D' : List At) : ∀ i, cnt D D' i ≤ i := by
  intro i
  induction i with
  | zero => exact Nat.le_refl _
  | succ i ih =>
    simp only [cnt]
    cases isIn D' (D.getD i ([], [])).1 (D.getD i ([], [])).2 <;> simp <;> omega
theorem spec16i_ok (t : Nat) (D : List At) (t' : Nat) (D' : List At) (nd nd' : Int) (nm nm' : Tx) (i : Nat) (hi0 : i ≤ D.length) (hD : D.length ≤ 1000000) (hD' : D'.length ≤ 1000000) :
    ∀ st k, spec16i (i < D.length) (r16 nd nd' nm nm' D.length D'.length) (cnt D D' i : Nat) (i : Nat) (cnt D D' (i + 1) : Nat) st k → Safe Try.prog (base (ro2D t D t' D')).R (.block 2 (.loop lp16i)) st k := by
  rintro st k ⟨⟨hi, t2, t3, t5, t6, t7, hl, ⟨hr⟩⟩, hk⟩
  refine loop16i t D t' D' nd nd' nm nm' (cnt D D' i) i hi (by have := cnt_le D D' i; omega) hD hD' st ?_ hr hk
  rw [tm16i_spr]
  refine VwL.ofKnown hl ⟨?_, ?_, ?_, ?_, ?_, trivial⟩
  · rw [t2]; exact Vw.ptrI (by decide) rfl
  · rw [t3]; exact Vw.ptrI (by decide) rfl
  · rw [t5]; exact Vw.intI
  · rw [t6]; exact Vw.intI
  · rw [t7]; exact Vw.intI
theorem loop16o (t : Nat) (D : List At) (t' : Nat) (D' : List At) (nd nd' : Int) (nm nm' : Tx) (hD : D.length ≤ 1000000) (hD' : D'.length ≤ 1000000) (st0 : St) (hT : VwL some 2 (tm16o ((0 : Nat) : Int) ((0 : Nat) : Int)) st0.tmps) (hr : st0.rows = r16 nd nd' nm nm' D.length D'.length) {Q : Exit → St → Prop}
    (h : Q .normal ⟨tm16o (cnt D D' D.length : Nat) (D.length : Nat), r16 nd nd' nm nm' D.length D'.length⟩) : Safe Try.prog (base (ro2D t D t' D')).R (.block 0 (.loop lp16o)) st0 Q := by
  have hlen : st0.rows.length = 2 := by rw [hr]; rfl
  refine (loop_block (I := {i : Nat // i ≤ D.length}) (fam := fun i => ⟨tm16o (cnt D D' i.1 : Nat) (i.1 : Nat), r16 nd nd' nm nm' D.length D'.length⟩) (fun i => D.length - i.1)
    (X := fun e stE => e = .exit 0 ∧ stE = ⟨tm16o (cnt D D' D.length : Nat) (D.length : Nat), r16 nd nd' nm nm' D.length D'.length⟩) (id := 0) (i0 := ⟨0, Nat.zero_le _⟩) (st := st0) (f := some) ?_ ?_ ?_ ?_).mono ?_
  · exact ⟨by rw [hr]; exact v16 _ _ _ _ _ _ rfl rfl, hT⟩
  · intro c hc; rfl
  · intro k; rw [hlen]; exact Nat.le_refl _
  · rintro ⟨i, hi⟩
    rw [hlen]
    refine byRndL ((base_ok _).addLoop (f := 16) (fi := fi16) (by kernel_rfl) (body := .loop lp16i) blk16i (spec16i_ok t D t' D' nd nd' nm nm' i hi hD hD')) (f := 16) (fi := fi16) (by kernel_rfl) blk16o 1000 (vr16o t D t' D' nd nd' nm nm' (cnt D D' i : Nat) (cnt D D' (i + 1) : Nat) i _ _) ?_
    rw [wrapSucc i (by omega)]
    refine hcB (fun c1 => ?_) (fun c1 => ?_)
    · have c1 : i < D.length := by have := of_decide_eq_true c1; omega
      refine ⟨⟨c1, rfl, rfl, rfl, rfl, rfl, rfl, ⟨rfl⟩⟩, ?_⟩
      exact ⟨⟨i + 1, by omega⟩, by show D.length - (i + 1) < D.length - i; omega, some, ⟨v16 _ _ _ _ _ _ rfl rfl, by ((simp only [tm64, tm64r, tm15, tm15r, tm16o, tm16i]; repeat' (first | with_reducible exact VwL.nil | with_reducible refine VwL.cons ?_ ?_ | with_reducible exact Vw.anyI | with_reducible exact Vw.boolI | with_reducible exact Vw.intI | with_reducible exact Vw.intE rfl | exact Vw.ptrI (by decide) rfl | exact Vw.ptrI (by simp [r15]) rfl | exact Vw.ptrI (by simp [r16]) rfl | exact Vw.ptrI (by simp [rB]) rfl | exact Vw.gndI rfl)))⟩, fun _ _ => rfl, Nat.le_refl _⟩
    · have c1 : i = D.length := by have := of_decide_eq_false c1; omega
      subst c1
      exact ⟨_, ⟨some, ⟨v16 _ _ _ _ _ _ rfl rfl, by ((simp only [tm64, tm64r, tm15, tm15r, tm16o, tm16i]; repeat' (first | with_reducible exact VwL.nil | with_reducible refine VwL.cons ?_ ?_ | with_reducible exact Vw.anyI | with_reducible exact Vw.boolI | with_reducible exact Vw.intI | with_reducible exact Vw.intE rfl | exact Vw.ptrI (by decide) rfl | exact Vw.ptrI (by simp [r15]) rfl | exact Vw.ptrI (by simp [r16]) rfl | exact Vw.ptrI (by simp [rB]) rfl | exact Vw.gndI rfl)))⟩, fun _ _ => rfl, Nat.le_refl _⟩, rfl, rfl⟩
  · rintro e stE ⟨e0, rfl, rfl, rfl⟩
    exact h
theorem spec16o_ok (t : Nat) (D : List At) (t' : Nat) (D' : List At) (nd nd' : Int) (nm nm' : Tx) (hD : D.length ≤ 1000000) (hD' : D'.length ≤ 1000000) :
    ∀ st k, spec16o (r16 nd nd' nm nm' D.length D'.length) (cnt D D' D.length : Nat) (D.length : Nat) st k → Safe Try.prog (base (ro2D t D t' D')).R (.block 0 (.loop lp16o)) st k := by
  rintro st k ⟨⟨t2, t3, t5, t6, hl, ⟨hr⟩⟩, hk⟩
  refine loop16o t D t' D' nd nd' nm nm' hD hD' st ?_ hr hk
  rw [tm16o_spr]
  refine VwL.ofKnown hl ⟨?_, ?_, ?_, ?_, trivial⟩
  · rw [t2]; exact Vw.ptrI (by decide) rfl
  · rw [t3]; exact Vw.ptrI (by decide) rfl
  · rw [t5]; exact Vw.intI
  · rw [t6]; exact Vw.intI
theorem cnt_all (D D' : List At) : ∀ i, i ≤ D.length → (cnt D D' i = i ↔ ∀ j, j < i → isIn D' (D.getD j ([], [])).1 (D.getD j ([], [])).2 = true) := by
  intro i
  induction i with
  | zero => intro _; exact ⟨fun _ j hj => absurd hj (Nat.not_lt_zero _), fun _ => rfl⟩
  | succ i ih =>
    intro hi
    have ih := ih (by omega)
    have hle := cnt_le D D' i
    simp only [cnt]
    cases hx : isIn D' (D.getD i ([], [])).1 (D.getD i ([], [])).2 with
    | true =>
      simp only [cond_true]
      constructor
      · intro h j hj
        by_cases e : j < i
        · exact ih.1 (by omega) j e
        · have : j = i := by omega
          subst this; exact hx
      · intro h
        have := ih.2 fun j hj => h j (by omega)
        omega
    | false =>
      simp only [cond_false]
      constructor
      · intro h; omega
      · intro h
        have := h i (by omega)
        rw [hx] at this; cases this
theorem cnt_alike (D D' : List At) : (cnt D D' D.length == D.length) = allIn D D' := by
  have h := cnt_all D D' D.length (Nat.le_refl _)
  cases ha : allIn D D' with
  | true =>
    rw [beq_iff_eq, h]
    intro j hj
    unfold allIn at ha
    rw [List.all_eq_true] at ha
    have := ha D[j] (List.getElem_mem hj)
    rwa [show D.getD j ([], []) = D[j] by simp [List.getD, List.getElem?_eq_getElem hj]]
  | false =>
    rw [beq_eq_false_iff_ne]
    intro e
    rw [allIn_of (h.1 e)] at ha
    cases ha
theorem safe16 (t : Nat) (D : List At) (t' : Nat) (D' : List At) (nd nd' : Int) (nm nm' : Tx) (hD : D.length ≤ 1000000) (hD' : D'.length ≤ 1000000) :
    SafeCall Try.prog (ro2D t D t' D') 16 [entA nd nm (.sl true 0 0 D.length .no), entA nd' nm' (.sl true 1 0 D'.length .no)] [] fun v _ => v = .bool (alikeB nm nm' D D') := by
  refine byVcd ((base_ok _).addLoop (f := 16) (fi := fi16) (by kernel_rfl) (body := .loop lp16o) blk16o (spec16o_ok t D t' D' nd nd' nm nm' hD hD')) (f := 16) (fi := fi16) (by kernel_rfl) 1000 (vc16 t D t' D' nd nd' nm nm' (cnt D D' D.length : Nat) (fun v => v = .bool (alikeB nm nm' D D'))) ?_
  have hca := cnt_alike D D'
  refine ⟨⟨rfl, rfl, rfl, rfl, rfl, ⟨rfl⟩⟩, ?_⟩
  unfold alikeB
  refine hcB (fun c1 => ?_) (fun c1 => ?_)
  · rw [c1]
    refine hcB (fun c2 => ?_) (fun c2 => ?_)
    · have e : cnt D D' D.length = D.length := by
        have : ((cnt D D' D.length : Nat) : Int) = (D.length : Nat) := by simpa using c2
        omega
      rw [← hca, e]
      congr 1
      simp
      rw [Bool.eq_iff_iff]
      simp
      omega
    · have : allIn D D' = false := by
        rw [← hca, beq_eq_false_iff_ne]
        intro e
        rw [e] at c2
        simp at c2
      rw [this]
      simp
  · rw [c1]; rfl
end Go.Dc.Kb
