/- Expressions: the document's parser: the loops of the levels. -/
import Derived.Test.YtfajmjhijanggaaZh0
section
set_option linter.unusedVariables false
set_option linter.unusedSimpArgs false
namespace Go.Dc.Ke
open Go.Proofs Go.RowKit Go.Shelf
set_option maxRecDepth 100000
theorem vr23_2 (R : Nat → RoRow) (s : List UInt8) (p n : Nat) (root : Int) (N : List NE) (l : List Nat) (part : Nat → PR) (k : Exit → St → Fz → Prop) (F : Fz) : rnx (env23 R s n 3 part) 1000 23 (loopOf fi23 0) (fam23 2 s p n 0 0 root N l) k F = ((3 : Int) = 3 ∧ n ≤ 16 ∧ ∃ (N_1 : List NE), ∃ (a : Nat), s = s ∧ (↑p : Int) = (↑a : Int) ∧ (↑n : Int) = (↑n : Int) ∧ (0 : Int) = 0 ∧ (0 : Int) = 0 ∧ N.length = N_1.length ∧ some (Row.gen 62 3 N.length fun (i : Nat) => neV (N.getD i dN)) = some (Row.gen 62 3 N_1.length fun (i : Nat) => neV (N_1.getD i dN)) ∧ RIn s a N_1 F ∧ (∀ (t : Tr) (a1 : Nat), part a = PR.ok t a1 → ∀ (N' : List NE) (i : Nat) (F' : Fz), ROk s a N_1 F t a1 N' i F' → bif decide (0 + l.length ≤ l.length) && (true && (true && decide (((Src.gen l.length fun (j : Nat) => AV.int IntKind.i64 (↑(l.getD (0 + j) 0) : Int)).len + 1) * 8 ≤ 140737488355328))) then ((↑a1 : Int) - 0).NonNeg ∧ bif wordly (hbI s (↑a1 : Int)) then k Exit.normal (St.mk [AV.ptr false 0 0 0, AV.ptr false 1 0 0, AV.int IntKind.i64 2, AV.any, AV.any, AV.any, AV.any, AV.sl false 10 0 ((Src.gen l.length fun (j : Nat) => AV.int IntKind.i64 (↑(l.getD (0 + j) 0) : Int)).len + 1) Cp.no, AV.int IntKind.i64 (↑i : Int), AV.int IntKind.u8 (hbI s (↑a1 : Int)), AV.any, AV.any, AV.any, AV.any, AV.any, AV.any, AV.any, AV.any, AV.any, AV.any, AV.any, AV.any, AV.any, AV.any, AV.ptr false 0 0 0, AV.ptr false 0 0 0, AV.ptr false 0 0 4, AV.int IntKind.i64 0, AV.bool true, AV.ptr false 0 0 0, AV.ptr false 1 0 0, AV.int IntKind.i64 2, AV.int IntKind.i64 3, AV.int IntKind.i64 (↑i : Int), AV.sl false 4 0 l.length Cp.no, AV.int IntKind.i64 (↑i : Int), AV.sl false 9 0 1 Cp.tight, AV.sl false 10 0 ((Src.gen l.length fun (j : Nat) => AV.int IntKind.i64 (↑(l.getD (0 + j) 0) : Int)).len + 1) Cp.no, AV.ptr false 0 0 0, AV.int IntKind.u8 (hbI s (↑a1 : Int)), AV.int IntKind.i64 2, AV.bool false, AV.bool false, AV.tup [], AV.tup [], AV.bool false, AV.bool false, AV.int IntKind.i64 2, AV.bool false, AV.bool false, AV.tup [], AV.tup [], AV.bool false, AV.bool false, AV.any, AV.any, AV.any, AV.any, AV.any, AV.any, AV.any, AV.int IntKind.i64 2, AV.bool true, AV.bool true, AV.int IntKind.u8 (hbI s (↑a1 : Int)), AV.bool (wordly (hbI s (↑a1 : Int))), AV.bool true, AV.tup [], AV.tup [], AV.bool true, AV.bool true, AV.tup [], AV.tup [], AV.bool true, AV.bool true, AV.tup [], AV.tup [], AV.bool true, AV.bool true, AV.any, AV.any, AV.any, AV.any, AV.any, AV.any, AV.any, AV.any, AV.any, AV.any, AV.any, AV.any, AV.any, AV.any, AV.any, AV.any, AV.any, AV.any, AV.any] [some (Row.lst 57 5 [AV.agg [AV.str s, AV.int IntKind.i64 (↑a1 : Int), AV.int IntKind.i64 (↑n : Int), AV.int IntKind.i64 0, AV.int IntKind.i64 0]]), some (Row.lst 35 2 [AV.agg [AV.sl false 8 0 N'.length Cp.no, AV.int IntKind.i64 root]]), none, none, none, none, none, none, some (Row.gen 62 3 N'.length fun (i : Nat) => neV (N'.getD i dN)), some (Row.lst 3 1 [AV.int IntKind.i64 (↑i : Int)]), some (Row.gen 3 1 ((Src.gen l.length fun (j : Nat) => AV.int IntKind.i64 (↑(l.getD (0 + j) 0) : Int)).len + 1) fun (j : Nat) => bif j.blt (Src.gen l.length fun (j : Nat) => AV.int IntKind.i64 (↑(l.getD (0 + j) 0) : Int)).len then AV.int IntKind.i64 (↑(l.getD (0 + j) 0) : Int) else (Src.lst [AV.int IntKind.i64 (↑i : Int)]).at_ (j - (Src.gen l.length fun (j : Nat) => AV.int IntKind.i64 (↑(l.getD (0 + j) 0) : Int)).len))]) F' else bif hbI s (↑a1 : Int) == 64 then k Exit.normal (St.mk [AV.ptr false 0 0 0, AV.ptr false 1 0 0, AV.int IntKind.i64 2, AV.any, AV.any, AV.any, AV.any, AV.sl false 10 0 ((Src.gen l.length fun (j : Nat) => AV.int IntKind.i64 (↑(l.getD (0 + j) 0) : Int)).len + 1) Cp.no, AV.int IntKind.i64 (↑i : Int), AV.int IntKind.u8 (hbI s (↑a1 : Int)), AV.any, AV.any, AV.any, AV.any, AV.any, AV.any, AV.any, AV.any, AV.any, AV.any, AV.any, AV.any, AV.any, AV.any, AV.ptr false 0 0 0, AV.ptr false 0 0 0, AV.ptr false 0 0 4, AV.int IntKind.i64 0, AV.bool true, AV.ptr false 0 0 0, AV.ptr false 1 0 0, AV.int IntKind.i64 2, AV.int IntKind.i64 3, AV.int IntKind.i64 (↑i : Int), AV.sl false 4 0 l.length Cp.no, AV.int IntKind.i64 (↑i : Int), AV.sl false 9 0 1 Cp.tight, AV.sl false 10 0 ((Src.gen l.length fun (j : Nat) => AV.int IntKind.i64 (↑(l.getD (0 + j) 0) : Int)).len + 1) Cp.no, AV.ptr false 0 0 0, AV.int IntKind.u8 (hbI s (↑a1 : Int)), AV.int IntKind.i64 2, AV.bool false, AV.bool false, AV.tup [], AV.tup [], AV.bool false, AV.bool false, AV.int IntKind.i64 2, AV.bool false, AV.bool false, AV.tup [], AV.tup [], AV.bool false, AV.bool false, AV.any, AV.any, AV.any, AV.any, AV.any, AV.any, AV.any, AV.int IntKind.i64 2, AV.bool true, AV.bool true, AV.int IntKind.u8 (hbI s (↑a1 : Int)), AV.bool (wordly (hbI s (↑a1 : Int))), AV.bool false, AV.int IntKind.u8 (hbI s (↑a1 : Int)), AV.bool (hbI s (↑a1 : Int) == 64), AV.bool (hbI s (↑a1 : Int) == 64), AV.bool true, AV.tup [], AV.tup [], AV.bool true, AV.bool true, AV.tup [], AV.tup [], AV.bool true, AV.bool true, AV.any, AV.any, AV.any, AV.any, AV.any, AV.any, AV.any, AV.any, AV.any, AV.any, AV.any, AV.any, AV.any, AV.any, AV.any, AV.any, AV.any, AV.any, AV.any] [some (Row.lst 57 5 [AV.agg [AV.str s, AV.int IntKind.i64 (↑a1 : Int), AV.int IntKind.i64 (↑n : Int), AV.int IntKind.i64 0, AV.int IntKind.i64 0]]), some (Row.lst 35 2 [AV.agg [AV.sl false 8 0 N'.length Cp.no, AV.int IntKind.i64 root]]), none, none, none, none, none, none, some (Row.gen 62 3 N'.length fun (i : Nat) => neV (N'.getD i dN)), some (Row.lst 3 1 [AV.int IntKind.i64 (↑i : Int)]), some (Row.gen 3 1 ((Src.gen l.length fun (j : Nat) => AV.int IntKind.i64 (↑(l.getD (0 + j) 0) : Int)).len + 1) fun (j : Nat) => bif j.blt (Src.gen l.length fun (j : Nat) => AV.int IntKind.i64 (↑(l.getD (0 + j) 0) : Int)).len then AV.int IntKind.i64 (↑(l.getD (0 + j) 0) : Int) else (Src.lst [AV.int IntKind.i64 (↑i : Int)]).at_ (j - (Src.gen l.length fun (j : Nat) => AV.int IntKind.i64 (↑(l.getD (0 + j) 0) : Int)).len))]) F' else bif hbI s (↑a1 : Int) == 35 then k Exit.normal (St.mk [AV.ptr false 0 0 0, AV.ptr false 1 0 0, AV.int IntKind.i64 2, AV.any, AV.any, AV.any, AV.any, AV.sl false 10 0 ((Src.gen l.length fun (j : Nat) => AV.int IntKind.i64 (↑(l.getD (0 + j) 0) : Int)).len + 1) Cp.no, AV.int IntKind.i64 (↑i : Int), AV.int IntKind.u8 (hbI s (↑a1 : Int)), AV.any, AV.any, AV.any, AV.any, AV.any, AV.any, AV.any, AV.any, AV.any, AV.any, AV.any, AV.any, AV.any, AV.any, AV.ptr false 0 0 0, AV.ptr false 0 0 0, AV.ptr false 0 0 4, AV.int IntKind.i64 0, AV.bool true, AV.ptr false 0 0 0, AV.ptr false 1 0 0, AV.int IntKind.i64 2, AV.int IntKind.i64 3, AV.int IntKind.i64 (↑i : Int), AV.sl false 4 0 l.length Cp.no, AV.int IntKind.i64 (↑i : Int), AV.sl false 9 0 1 Cp.tight, AV.sl false 10 0 ((Src.gen l.length fun (j : Nat) => AV.int IntKind.i64 (↑(l.getD (0 + j) 0) : Int)).len + 1) Cp.no, AV.ptr false 0 0 0, AV.int IntKind.u8 (hbI s (↑a1 : Int)), AV.int IntKind.i64 2, AV.bool false, AV.bool false, AV.tup [], AV.tup [], AV.bool false, AV.bool false, AV.int IntKind.i64 2, AV.bool false, AV.bool false, AV.tup [], AV.tup [], AV.bool false, AV.bool false, AV.any, AV.any, AV.any, AV.any, AV.any, AV.any, AV.any, AV.int IntKind.i64 2, AV.bool true, AV.bool true, AV.int IntKind.u8 (hbI s (↑a1 : Int)), AV.bool (wordly (hbI s (↑a1 : Int))), AV.bool false, AV.int IntKind.u8 (hbI s (↑a1 : Int)), AV.bool (hbI s (↑a1 : Int) == 64), AV.bool (hbI s (↑a1 : Int) == 64), AV.bool false, AV.int IntKind.u8 (hbI s (↑a1 : Int)), AV.bool (hbI s (↑a1 : Int) == 35), AV.bool (hbI s (↑a1 : Int) == 35), AV.bool true, AV.tup [], AV.tup [], AV.bool true, AV.bool true, AV.any, AV.any, AV.any, AV.any, AV.any, AV.any, AV.any, AV.any, AV.any, AV.any, AV.any, AV.any, AV.any, AV.any, AV.any, AV.any, AV.any, AV.any, AV.any] [some (Row.lst 57 5 [AV.agg [AV.str s, AV.int IntKind.i64 (↑a1 : Int), AV.int IntKind.i64 (↑n : Int), AV.int IntKind.i64 0, AV.int IntKind.i64 0]]), some (Row.lst 35 2 [AV.agg [AV.sl false 8 0 N'.length Cp.no, AV.int IntKind.i64 root]]), none, none, none, none, none, none, some (Row.gen 62 3 N'.length fun (i : Nat) => neV (N'.getD i dN)), some (Row.lst 3 1 [AV.int IntKind.i64 (↑i : Int)]), some (Row.gen 3 1 ((Src.gen l.length fun (j : Nat) => AV.int IntKind.i64 (↑(l.getD (0 + j) 0) : Int)).len + 1) fun (j : Nat) => bif j.blt (Src.gen l.length fun (j : Nat) => AV.int IntKind.i64 (↑(l.getD (0 + j) 0) : Int)).len then AV.int IntKind.i64 (↑(l.getD (0 + j) 0) : Int) else (Src.lst [AV.int IntKind.i64 (↑i : Int)]).at_ (j - (Src.gen l.length fun (j : Nat) => AV.int IntKind.i64 (↑(l.getD (0 + j) 0) : Int)).len))]) F' else bif hbI s (↑a1 : Int) == 40 then k Exit.normal (St.mk [AV.ptr false 0 0 0, AV.ptr false 1 0 0, AV.int IntKind.i64 2, AV.any, AV.any, AV.any, AV.any, AV.sl false 10 0 ((Src.gen l.length fun (j : Nat) => AV.int IntKind.i64 (↑(l.getD (0 + j) 0) : Int)).len + 1) Cp.no, AV.int IntKind.i64 (↑i : Int), AV.int IntKind.u8 (hbI s (↑a1 : Int)), AV.any, AV.any, AV.any, AV.any, AV.any, AV.any, AV.any, AV.any, AV.any, AV.any, AV.any, AV.any, AV.any, AV.any, AV.ptr false 0 0 0, AV.ptr false 0 0 0, AV.ptr false 0 0 4, AV.int IntKind.i64 0, AV.bool true, AV.ptr false 0 0 0, AV.ptr false 1 0 0, AV.int IntKind.i64 2, AV.int IntKind.i64 3, AV.int IntKind.i64 (↑i : Int), AV.sl false 4 0 l.length Cp.no, AV.int IntKind.i64 (↑i : Int), AV.sl false 9 0 1 Cp.tight, AV.sl false 10 0 ((Src.gen l.length fun (j : Nat) => AV.int IntKind.i64 (↑(l.getD (0 + j) 0) : Int)).len + 1) Cp.no, AV.ptr false 0 0 0, AV.int IntKind.u8 (hbI s (↑a1 : Int)), AV.int IntKind.i64 2, AV.bool false, AV.bool false, AV.tup [], AV.tup [], AV.bool false, AV.bool false, AV.int IntKind.i64 2, AV.bool false, AV.bool false, AV.tup [], AV.tup [], AV.bool false, AV.bool false, AV.any, AV.any, AV.any, AV.any, AV.any, AV.any, AV.any, AV.int IntKind.i64 2, AV.bool true, AV.bool true, AV.int IntKind.u8 (hbI s (↑a1 : Int)), AV.bool (wordly (hbI s (↑a1 : Int))), AV.bool false, AV.int IntKind.u8 (hbI s (↑a1 : Int)), AV.bool (hbI s (↑a1 : Int) == 64), AV.bool (hbI s (↑a1 : Int) == 64), AV.bool false, AV.int IntKind.u8 (hbI s (↑a1 : Int)), AV.bool (hbI s (↑a1 : Int) == 35), AV.bool (hbI s (↑a1 : Int) == 35), AV.bool false, AV.int IntKind.u8 (hbI s (↑a1 : Int)), AV.bool (hbI s (↑a1 : Int) == 40), AV.bool (hbI s (↑a1 : Int) == 40), AV.bool true, AV.any, AV.any, AV.any, AV.any, AV.any, AV.any, AV.any, AV.any, AV.any, AV.any, AV.any, AV.any, AV.any, AV.any, AV.any, AV.any, AV.any, AV.any, AV.any] [some (Row.lst 57 5 [AV.agg [AV.str s, AV.int IntKind.i64 (↑a1 : Int), AV.int IntKind.i64 (↑n : Int), AV.int IntKind.i64 0, AV.int IntKind.i64 0]]), some (Row.lst 35 2 [AV.agg [AV.sl false 8 0 N'.length Cp.no, AV.int IntKind.i64 root]]), none, none, none, none, none, none, some (Row.gen 62 3 N'.length fun (i : Nat) => neV (N'.getD i dN)), some (Row.lst 3 1 [AV.int IntKind.i64 (↑i : Int)]), some (Row.gen 3 1 ((Src.gen l.length fun (j : Nat) => AV.int IntKind.i64 (↑(l.getD (0 + j) 0) : Int)).len + 1) fun (j : Nat) => bif j.blt (Src.gen l.length fun (j : Nat) => AV.int IntKind.i64 (↑(l.getD (0 + j) 0) : Int)).len then AV.int IntKind.i64 (↑(l.getD (0 + j) 0) : Int) else (Src.lst [AV.int IntKind.i64 (↑i : Int)]).at_ (j - (Src.gen l.length fun (j : Nat) => AV.int IntKind.i64 (↑(l.getD (0 + j) 0) : Int)).len))]) F' else k (Exit.exit 0) (St.mk [AV.ptr false 0 0 0, AV.ptr false 1 0 0, AV.int IntKind.i64 2, AV.any, AV.any, AV.any, AV.any, AV.sl false 10 0 ((Src.gen l.length fun (j : Nat) => AV.int IntKind.i64 (↑(l.getD (0 + j) 0) : Int)).len + 1) Cp.no, AV.int IntKind.i64 (↑i : Int), AV.int IntKind.u8 (hbI s (↑a1 : Int)), AV.any, AV.any, AV.any, AV.any, AV.any, AV.any, AV.any, AV.any, AV.any, AV.any, AV.any, AV.any, AV.any, AV.any, AV.ptr false 0 0 0, AV.ptr false 0 0 0, AV.ptr false 0 0 4, AV.int IntKind.i64 0, AV.bool true, AV.ptr false 0 0 0, AV.ptr false 1 0 0, AV.int IntKind.i64 2, AV.int IntKind.i64 3, AV.int IntKind.i64 (↑i : Int), AV.sl false 4 0 l.length Cp.no, AV.int IntKind.i64 (↑i : Int), AV.sl false 9 0 1 Cp.tight, AV.sl false 10 0 ((Src.gen l.length fun (j : Nat) => AV.int IntKind.i64 (↑(l.getD (0 + j) 0) : Int)).len + 1) Cp.no, AV.ptr false 0 0 0, AV.int IntKind.u8 (hbI s (↑a1 : Int)), AV.int IntKind.i64 2, AV.bool false, AV.bool false, AV.tup [], AV.tup [], AV.bool false, AV.bool false, AV.int IntKind.i64 2, AV.bool false, AV.bool false, AV.tup [], AV.tup [], AV.bool false, AV.bool false, AV.any, AV.any, AV.any, AV.any, AV.any, AV.any, AV.any, AV.int IntKind.i64 2, AV.bool true, AV.bool true, AV.int IntKind.u8 (hbI s (↑a1 : Int)), AV.bool (wordly (hbI s (↑a1 : Int))), AV.bool false, AV.int IntKind.u8 (hbI s (↑a1 : Int)), AV.bool (hbI s (↑a1 : Int) == 64), AV.bool (hbI s (↑a1 : Int) == 64), AV.bool false, AV.int IntKind.u8 (hbI s (↑a1 : Int)), AV.bool (hbI s (↑a1 : Int) == 35), AV.bool (hbI s (↑a1 : Int) == 35), AV.bool false, AV.int IntKind.u8 (hbI s (↑a1 : Int)), AV.bool (hbI s (↑a1 : Int) == 40), AV.bool (hbI s (↑a1 : Int) == 40), AV.bool false, AV.any, AV.any, AV.any, AV.any, AV.any, AV.any, AV.any, AV.any, AV.any, AV.any, AV.any, AV.any, AV.any, AV.any, AV.any, AV.any, AV.any, AV.any, AV.any] [some (Row.lst 57 5 [AV.agg [AV.str s, AV.int IntKind.i64 (↑a1 : Int), AV.int IntKind.i64 (↑n : Int), AV.int IntKind.i64 0, AV.int IntKind.i64 0]]), some (Row.lst 35 2 [AV.agg [AV.sl false 8 0 N'.length Cp.no, AV.int IntKind.i64 root]]), none, none, none, none, none, none, some (Row.gen 62 3 N'.length fun (i : Nat) => neV (N'.getD i dN)), some (Row.lst 3 1 [AV.int IntKind.i64 (↑i : Int)]), some (Row.gen 3 1 ((Src.gen l.length fun (j : Nat) => AV.int IntKind.i64 (↑(l.getD (0 + j) 0) : Int)).len + 1) fun (j : Nat) => bif j.blt (Src.gen l.length fun (j : Nat) => AV.int IntKind.i64 (↑(l.getD (0 + j) 0) : Int)).len then AV.int IntKind.i64 (↑(l.getD (0 + j) 0) : Int) else (Src.lst [AV.int IntKind.i64 (↑i : Int)]).at_ (j - (Src.gen l.length fun (j : Nat) => AV.int IntKind.i64 (↑(l.getD (0 + j) 0) : Int)).len))]) F' else False) ∧ ∀ (a' e : Nat), part a = PR.err a' e → ∀ (p' : Nat) (N' : List NE) (v : Int) (F' : Fz), p'.le 200000 → RErr s a N_1 F N' F' → bif decide (0 + l.length ≤ l.length) && (true && (true && decide (((Src.gen l.length fun (j : Nat) => AV.int IntKind.i64 (↑(l.getD (0 + j) 0) : Int)).len + 1) * 8 ≤ 140737488355328))) then ((↑p' : Int) - 0).NonNeg ∧ bif wordly (hbI s (↑p' : Int)) then k Exit.normal (St.mk [AV.ptr false 0 0 0, AV.ptr false 1 0 0, AV.int IntKind.i64 2, AV.any, AV.any, AV.any, AV.any, AV.sl false 10 0 ((Src.gen l.length fun (j : Nat) => AV.int IntKind.i64 (↑(l.getD (0 + j) 0) : Int)).len + 1) Cp.no, AV.int IntKind.i64 v, AV.int IntKind.u8 (hbI s (↑p' : Int)), AV.any, AV.any, AV.any, AV.any, AV.any, AV.any, AV.any, AV.any, AV.any, AV.any, AV.any, AV.any, AV.any, AV.any, AV.ptr false 0 0 0, AV.ptr false 0 0 0, AV.ptr false 0 0 4, AV.int IntKind.i64 0, AV.bool true, AV.ptr false 0 0 0, AV.ptr false 1 0 0, AV.int IntKind.i64 2, AV.int IntKind.i64 3, AV.int IntKind.i64 v, AV.sl false 4 0 l.length Cp.no, AV.int IntKind.i64 v, AV.sl false 9 0 1 Cp.tight, AV.sl false 10 0 ((Src.gen l.length fun (j : Nat) => AV.int IntKind.i64 (↑(l.getD (0 + j) 0) : Int)).len + 1) Cp.no, AV.ptr false 0 0 0, AV.int IntKind.u8 (hbI s (↑p' : Int)), AV.int IntKind.i64 2, AV.bool false, AV.bool false, AV.tup [], AV.tup [], AV.bool false, AV.bool false, AV.int IntKind.i64 2, AV.bool false, AV.bool false, AV.tup [], AV.tup [], AV.bool false, AV.bool false, AV.any, AV.any, AV.any, AV.any, AV.any, AV.any, AV.any, AV.int IntKind.i64 2, AV.bool true, AV.bool true, AV.int IntKind.u8 (hbI s (↑p' : Int)), AV.bool (wordly (hbI s (↑p' : Int))), AV.bool true, AV.tup [], AV.tup [], AV.bool true, AV.bool true, AV.tup [], AV.tup [], AV.bool true, AV.bool true, AV.tup [], AV.tup [], AV.bool true, AV.bool true, AV.any, AV.any, AV.any, AV.any, AV.any, AV.any, AV.any, AV.any, AV.any, AV.any, AV.any, AV.any, AV.any, AV.any, AV.any, AV.any, AV.any, AV.any, AV.any] [some (Row.lst 57 5 [AV.agg [AV.str s, AV.int IntKind.i64 (↑p' : Int), AV.int IntKind.i64 (↑n : Int), AV.int IntKind.i64 (↑a' : Int), AV.int IntKind.i64 (↑e : Int)]]), some (Row.lst 35 2 [AV.agg [AV.sl false 8 0 N'.length Cp.no, AV.int IntKind.i64 root]]), none, none, none, none, none, none, some (Row.gen 62 3 N'.length fun (i : Nat) => neV (N'.getD i dN)), some (Row.lst 3 1 [AV.int IntKind.i64 v]), some (Row.gen 3 1 ((Src.gen l.length fun (j : Nat) => AV.int IntKind.i64 (↑(l.getD (0 + j) 0) : Int)).len + 1) fun (j : Nat) => bif j.blt (Src.gen l.length fun (j : Nat) => AV.int IntKind.i64 (↑(l.getD (0 + j) 0) : Int)).len then AV.int IntKind.i64 (↑(l.getD (0 + j) 0) : Int) else (Src.lst [AV.int IntKind.i64 v]).at_ (j - (Src.gen l.length fun (j : Nat) => AV.int IntKind.i64 (↑(l.getD (0 + j) 0) : Int)).len))]) F' else bif hbI s (↑p' : Int) == 64 then k Exit.normal (St.mk [AV.ptr false 0 0 0, AV.ptr false 1 0 0, AV.int IntKind.i64 2, AV.any, AV.any, AV.any, AV.any, AV.sl false 10 0 ((Src.gen l.length fun (j : Nat) => AV.int IntKind.i64 (↑(l.getD (0 + j) 0) : Int)).len + 1) Cp.no, AV.int IntKind.i64 v, AV.int IntKind.u8 (hbI s (↑p' : Int)), AV.any, AV.any, AV.any, AV.any, AV.any, AV.any, AV.any, AV.any, AV.any, AV.any, AV.any, AV.any, AV.any, AV.any, AV.ptr false 0 0 0, AV.ptr false 0 0 0, AV.ptr false 0 0 4, AV.int IntKind.i64 0, AV.bool true, AV.ptr false 0 0 0, AV.ptr false 1 0 0, AV.int IntKind.i64 2, AV.int IntKind.i64 3, AV.int IntKind.i64 v, AV.sl false 4 0 l.length Cp.no, AV.int IntKind.i64 v, AV.sl false 9 0 1 Cp.tight, AV.sl false 10 0 ((Src.gen l.length fun (j : Nat) => AV.int IntKind.i64 (↑(l.getD (0 + j) 0) : Int)).len + 1) Cp.no, AV.ptr false 0 0 0, AV.int IntKind.u8 (hbI s (↑p' : Int)), AV.int IntKind.i64 2, AV.bool false, AV.bool false, AV.tup [], AV.tup [], AV.bool false, AV.bool false, AV.int IntKind.i64 2, AV.bool false, AV.bool false, AV.tup [], AV.tup [], AV.bool false, AV.bool false, AV.any, AV.any, AV.any, AV.any, AV.any, AV.any, AV.any, AV.int IntKind.i64 2, AV.bool true, AV.bool true, AV.int IntKind.u8 (hbI s (↑p' : Int)), AV.bool (wordly (hbI s (↑p' : Int))), AV.bool false, AV.int IntKind.u8 (hbI s (↑p' : Int)), AV.bool (hbI s (↑p' : Int) == 64), AV.bool (hbI s (↑p' : Int) == 64), AV.bool true, AV.tup [], AV.tup [], AV.bool true, AV.bool true, AV.tup [], AV.tup [], AV.bool true, AV.bool true, AV.any, AV.any, AV.any, AV.any, AV.any, AV.any, AV.any, AV.any, AV.any, AV.any, AV.any, AV.any, AV.any, AV.any, AV.any, AV.any, AV.any, AV.any, AV.any] [some (Row.lst 57 5 [AV.agg [AV.str s, AV.int IntKind.i64 (↑p' : Int), AV.int IntKind.i64 (↑n : Int), AV.int IntKind.i64 (↑a' : Int), AV.int IntKind.i64 (↑e : Int)]]), some (Row.lst 35 2 [AV.agg [AV.sl false 8 0 N'.length Cp.no, AV.int IntKind.i64 root]]), none, none, none, none, none, none, some (Row.gen 62 3 N'.length fun (i : Nat) => neV (N'.getD i dN)), some (Row.lst 3 1 [AV.int IntKind.i64 v]), some (Row.gen 3 1 ((Src.gen l.length fun (j : Nat) => AV.int IntKind.i64 (↑(l.getD (0 + j) 0) : Int)).len + 1) fun (j : Nat) => bif j.blt (Src.gen l.length fun (j : Nat) => AV.int IntKind.i64 (↑(l.getD (0 + j) 0) : Int)).len then AV.int IntKind.i64 (↑(l.getD (0 + j) 0) : Int) else (Src.lst [AV.int IntKind.i64 v]).at_ (j - (Src.gen l.length fun (j : Nat) => AV.int IntKind.i64 (↑(l.getD (0 + j) 0) : Int)).len))]) F' else bif hbI s (↑p' : Int) == 35 then k Exit.normal (St.mk [AV.ptr false 0 0 0, AV.ptr false 1 0 0, AV.int IntKind.i64 2, AV.any, AV.any, AV.any, AV.any, AV.sl false 10 0 ((Src.gen l.length fun (j : Nat) => AV.int IntKind.i64 (↑(l.getD (0 + j) 0) : Int)).len + 1) Cp.no, AV.int IntKind.i64 v, AV.int IntKind.u8 (hbI s (↑p' : Int)), AV.any, AV.any, AV.any, AV.any, AV.any, AV.any, AV.any, AV.any, AV.any, AV.any, AV.any, AV.any, AV.any, AV.any, AV.ptr false 0 0 0, AV.ptr false 0 0 0, AV.ptr false 0 0 4, AV.int IntKind.i64 0, AV.bool true, AV.ptr false 0 0 0, AV.ptr false 1 0 0, AV.int IntKind.i64 2, AV.int IntKind.i64 3, AV.int IntKind.i64 v, AV.sl false 4 0 l.length Cp.no, AV.int IntKind.i64 v, AV.sl false 9 0 1 Cp.tight, AV.sl false 10 0 ((Src.gen l.length fun (j : Nat) => AV.int IntKind.i64 (↑(l.getD (0 + j) 0) : Int)).len + 1) Cp.no, AV.ptr false 0 0 0, AV.int IntKind.u8 (hbI s (↑p' : Int)), AV.int IntKind.i64 2, AV.bool false, AV.bool false, AV.tup [], AV.tup [], AV.bool false, AV.bool false, AV.int IntKind.i64 2, AV.bool false, AV.bool false, AV.tup [], AV.tup [], AV.bool false, AV.bool false, AV.any, AV.any, AV.any, AV.any, AV.any, AV.any, AV.any, AV.int IntKind.i64 2, AV.bool true, AV.bool true, AV.int IntKind.u8 (hbI s (↑p' : Int)), AV.bool (wordly (hbI s (↑p' : Int))), AV.bool false, AV.int IntKind.u8 (hbI s (↑p' : Int)), AV.bool (hbI s (↑p' : Int) == 64), AV.bool (hbI s (↑p' : Int) == 64), AV.bool false, AV.int IntKind.u8 (hbI s (↑p' : Int)), AV.bool (hbI s (↑p' : Int) == 35), AV.bool (hbI s (↑p' : Int) == 35), AV.bool true, AV.tup [], AV.tup [], AV.bool true, AV.bool true, AV.any, AV.any, AV.any, AV.any, AV.any, AV.any, AV.any, AV.any, AV.any, AV.any, AV.any, AV.any, AV.any, AV.any, AV.any, AV.any, AV.any, AV.any, AV.any] [some (Row.lst 57 5 [AV.agg [AV.str s, AV.int IntKind.i64 (↑p' : Int), AV.int IntKind.i64 (↑n : Int), AV.int IntKind.i64 (↑a' : Int), AV.int IntKind.i64 (↑e : Int)]]), some (Row.lst 35 2 [AV.agg [AV.sl false 8 0 N'.length Cp.no, AV.int IntKind.i64 root]]), none, none, none, none, none, none, some (Row.gen 62 3 N'.length fun (i : Nat) => neV (N'.getD i dN)), some (Row.lst 3 1 [AV.int IntKind.i64 v]), some (Row.gen 3 1 ((Src.gen l.length fun (j : Nat) => AV.int IntKind.i64 (↑(l.getD (0 + j) 0) : Int)).len + 1) fun (j : Nat) => bif j.blt (Src.gen l.length fun (j : Nat) => AV.int IntKind.i64 (↑(l.getD (0 + j) 0) : Int)).len then AV.int IntKind.i64 (↑(l.getD (0 + j) 0) : Int) else (Src.lst [AV.int IntKind.i64 v]).at_ (j - (Src.gen l.length fun (j : Nat) => AV.int IntKind.i64 (↑(l.getD (0 + j) 0) : Int)).len))]) F' else bif hbI s (↑p' : Int) == 40 then k Exit.normal (St.mk [AV.ptr false 0 0 0, AV.ptr false 1 0 0, AV.int IntKind.i64 2, AV.any, AV.any, AV.any, AV.any, AV.sl false 10 0 ((Src.gen l.length fun (j : Nat) => AV.int IntKind.i64 (↑(l.getD (0 + j) 0) : Int)).len + 1) Cp.no, AV.int IntKind.i64 v, AV.int IntKind.u8 (hbI s (↑p' : Int)), AV.any, AV.any, AV.any, AV.any, AV.any, AV.any, AV.any, AV.any, AV.any, AV.any, AV.any, AV.any, AV.any, AV.any, AV.ptr false 0 0 0, AV.ptr false 0 0 0, AV.ptr false 0 0 4, AV.int IntKind.i64 0, AV.bool true, AV.ptr false 0 0 0, AV.ptr false 1 0 0, AV.int IntKind.i64 2, AV.int IntKind.i64 3, AV.int IntKind.i64 v, AV.sl false 4 0 l.length Cp.no, AV.int IntKind.i64 v, AV.sl false 9 0 1 Cp.tight, AV.sl false 10 0 ((Src.gen l.length fun (j : Nat) => AV.int IntKind.i64 (↑(l.getD (0 + j) 0) : Int)).len + 1) Cp.no, AV.ptr false 0 0 0, AV.int IntKind.u8 (hbI s (↑p' : Int)), AV.int IntKind.i64 2, AV.bool false, AV.bool false, AV.tup [], AV.tup [], AV.bool false, AV.bool false, AV.int IntKind.i64 2, AV.bool false, AV.bool false, AV.tup [], AV.tup [], AV.bool false, AV.bool false, AV.any, AV.any, AV.any, AV.any, AV.any, AV.any, AV.any, AV.int IntKind.i64 2, AV.bool true, AV.bool true, AV.int IntKind.u8 (hbI s (↑p' : Int)), AV.bool (wordly (hbI s (↑p' : Int))), AV.bool false, AV.int IntKind.u8 (hbI s (↑p' : Int)), AV.bool (hbI s (↑p' : Int) == 64), AV.bool (hbI s (↑p' : Int) == 64), AV.bool false, AV.int IntKind.u8 (hbI s (↑p' : Int)), AV.bool (hbI s (↑p' : Int) == 35), AV.bool (hbI s (↑p' : Int) == 35), AV.bool false, AV.int IntKind.u8 (hbI s (↑p' : Int)), AV.bool (hbI s (↑p' : Int) == 40), AV.bool (hbI s (↑p' : Int) == 40), AV.bool true, AV.any, AV.any, AV.any, AV.any, AV.any, AV.any, AV.any, AV.any, AV.any, AV.any, AV.any, AV.any, AV.any, AV.any, AV.any, AV.any, AV.any, AV.any, AV.any] [some (Row.lst 57 5 [AV.agg [AV.str s, AV.int IntKind.i64 (↑p' : Int), AV.int IntKind.i64 (↑n : Int), AV.int IntKind.i64 (↑a' : Int), AV.int IntKind.i64 (↑e : Int)]]), some (Row.lst 35 2 [AV.agg [AV.sl false 8 0 N'.length Cp.no, AV.int IntKind.i64 root]]), none, none, none, none, none, none, some (Row.gen 62 3 N'.length fun (i : Nat) => neV (N'.getD i dN)), some (Row.lst 3 1 [AV.int IntKind.i64 v]), some (Row.gen 3 1 ((Src.gen l.length fun (j : Nat) => AV.int IntKind.i64 (↑(l.getD (0 + j) 0) : Int)).len + 1) fun (j : Nat) => bif j.blt (Src.gen l.length fun (j : Nat) => AV.int IntKind.i64 (↑(l.getD (0 + j) 0) : Int)).len then AV.int IntKind.i64 (↑(l.getD (0 + j) 0) : Int) else (Src.lst [AV.int IntKind.i64 v]).at_ (j - (Src.gen l.length fun (j : Nat) => AV.int IntKind.i64 (↑(l.getD (0 + j) 0) : Int)).len))]) F' else k (Exit.exit 0) (St.mk [AV.ptr false 0 0 0, AV.ptr false 1 0 0, AV.int IntKind.i64 2, AV.any, AV.any, AV.any, AV.any, AV.sl false 10 0 ((Src.gen l.length fun (j : Nat) => AV.int IntKind.i64 (↑(l.getD (0 + j) 0) : Int)).len + 1) Cp.no, AV.int IntKind.i64 v, AV.int IntKind.u8 (hbI s (↑p' : Int)), AV.any, AV.any, AV.any, AV.any, AV.any, AV.any, AV.any, AV.any, AV.any, AV.any, AV.any, AV.any, AV.any, AV.any, AV.ptr false 0 0 0, AV.ptr false 0 0 0, AV.ptr false 0 0 4, AV.int IntKind.i64 0, AV.bool true, AV.ptr false 0 0 0, AV.ptr false 1 0 0, AV.int IntKind.i64 2, AV.int IntKind.i64 3, AV.int IntKind.i64 v, AV.sl false 4 0 l.length Cp.no, AV.int IntKind.i64 v, AV.sl false 9 0 1 Cp.tight, AV.sl false 10 0 ((Src.gen l.length fun (j : Nat) => AV.int IntKind.i64 (↑(l.getD (0 + j) 0) : Int)).len + 1) Cp.no, AV.ptr false 0 0 0, AV.int IntKind.u8 (hbI s (↑p' : Int)), AV.int IntKind.i64 2, AV.bool false, AV.bool false, AV.tup [], AV.tup [], AV.bool false, AV.bool false, AV.int IntKind.i64 2, AV.bool false, AV.bool false, AV.tup [], AV.tup [], AV.bool false, AV.bool false, AV.any, AV.any, AV.any, AV.any, AV.any, AV.any, AV.any, AV.int IntKind.i64 2, AV.bool true, AV.bool true, AV.int IntKind.u8 (hbI s (↑p' : Int)), AV.bool (wordly (hbI s (↑p' : Int))), AV.bool false, AV.int IntKind.u8 (hbI s (↑p' : Int)), AV.bool (hbI s (↑p' : Int) == 64), AV.bool (hbI s (↑p' : Int) == 64), AV.bool false, AV.int IntKind.u8 (hbI s (↑p' : Int)), AV.bool (hbI s (↑p' : Int) == 35), AV.bool (hbI s (↑p' : Int) == 35), AV.bool false, AV.int IntKind.u8 (hbI s (↑p' : Int)), AV.bool (hbI s (↑p' : Int) == 40), AV.bool (hbI s (↑p' : Int) == 40), AV.bool false, AV.any, AV.any, AV.any, AV.any, AV.any, AV.any, AV.any, AV.any, AV.any, AV.any, AV.any, AV.any, AV.any, AV.any, AV.any, AV.any, AV.any, AV.any, AV.any] [some (Row.lst 57 5 [AV.agg [AV.str s, AV.int IntKind.i64 (↑p' : Int), AV.int IntKind.i64 (↑n : Int), AV.int IntKind.i64 (↑a' : Int), AV.int IntKind.i64 (↑e : Int)]]), some (Row.lst 35 2 [AV.agg [AV.sl false 8 0 N'.length Cp.no, AV.int IntKind.i64 root]]), none, none, none, none, none, none, some (Row.gen 62 3 N'.length fun (i : Nat) => neV (N'.getD i dN)), some (Row.lst 3 1 [AV.int IntKind.i64 v]), some (Row.gen 3 1 ((Src.gen l.length fun (j : Nat) => AV.int IntKind.i64 (↑(l.getD (0 + j) 0) : Int)).len + 1) fun (j : Nat) => bif j.blt (Src.gen l.length fun (j : Nat) => AV.int IntKind.i64 (↑(l.getD (0 + j) 0) : Int)).len then AV.int IntKind.i64 (↑(l.getD (0 + j) 0) : Int) else (Src.lst [AV.int IntKind.i64 v]).at_ (j - (Src.gen l.length fun (j : Nat) => AV.int IntKind.i64 (↑(l.getD (0 + j) 0) : Int)).len))]) F' else False) := by kernel_rfl
theorem vr23b_2 (R : Nat → RoRow) (s : List UInt8) (p n e : Nat) (bd root : Int) (N : List NE) (part : Nat → PR) (k : Exit → St → Fz → Prop) (F : Fz) : rnx (env23 R s n 3 part) 1000 23 (loopOf fi23 0) (famB 2 s p n bd ((e + 1 : Nat) : Int) root N) k F = (k (Exit.exit 0) (St.mk [AV.ptr false 0 0 0, AV.ptr false 1 0 0, AV.int IntKind.i64 2, AV.any, AV.any, AV.any, AV.any, AV.any, AV.any, AV.any, AV.any, AV.any, AV.any, AV.any, AV.any, AV.any, AV.any, AV.any, AV.any, AV.any, AV.any, AV.any, AV.any, AV.any, AV.ptr false 0 0 0, AV.ptr false 0 0 0, AV.ptr false 0 0 4, AV.int IntKind.i64 (↑(e + 1) : Int), AV.bool false, AV.any, AV.any, AV.any, AV.any, AV.any, AV.any, AV.any, AV.any, AV.any, AV.any, AV.any, AV.any, AV.any, AV.any, AV.any, AV.any, AV.any, AV.any, AV.any, AV.any, AV.any, AV.any, AV.any, AV.any, AV.any, AV.any, AV.any, AV.any, AV.any, AV.any, AV.any, AV.any, AV.any, AV.any, AV.any, AV.any, AV.any, AV.any, AV.any, AV.any, AV.any, AV.any, AV.any, AV.any, AV.any, AV.any, AV.any, AV.any, AV.any, AV.any, AV.any, AV.any, AV.any, AV.any, AV.any, AV.any, AV.any, AV.any, AV.any, AV.any, AV.any, AV.any, AV.any, AV.any, AV.any, AV.any, AV.any, AV.any, AV.any] [some (Row.lst 57 5 [AV.agg [AV.str s, AV.int IntKind.i64 (↑p : Int), AV.int IntKind.i64 (↑n : Int), AV.int IntKind.i64 bd, AV.int IntKind.i64 (↑(e + 1) : Int)]]), some (Row.lst 35 2 [AV.agg [AV.sl false 3 0 N.length Cp.no, AV.int IntKind.i64 root]]), none, some (Row.gen 62 3 N.length fun (i : Nat) => neV (N.getD i dN))]) F) := by kernel_rfl
theorem vr23_1 (R : Nat → RoRow) (s : List UInt8) (p n : Nat) (root : Int) (N : List NE) (l : List Nat) (part : Nat → PR) (k : Exit → St → Fz → Prop) (F : Fz) : rnx (env23 R s n 2 part) 1000 23 (loopOf fi23 0) (fam23 1 s p n 0 0 root N l) k F = ((2 : Int) = 2 ∧ n ≤ 16 ∧ ∃ (N_1 : List NE), ∃ (a : Nat), s = s ∧ (↑p : Int) = (↑a : Int) ∧ (↑n : Int) = (↑n : Int) ∧ (0 : Int) = 0 ∧ (0 : Int) = 0 ∧ N.length = N_1.length ∧ some (Row.gen 62 3 N.length fun (i : Nat) => neV (N.getD i dN)) = some (Row.gen 62 3 N_1.length fun (i : Nat) => neV (N_1.getD i dN)) ∧ RIn s a N_1 F ∧ (∀ (t : Tr) (a1 : Nat), part a = PR.ok t a1 → ∀ (N' : List NE) (i : Nat) (F' : Fz), ROk s a N_1 F t a1 N' i F' → bif decide (0 + l.length ≤ l.length) && (true && (true && decide (((Src.gen l.length fun (j : Nat) => AV.int IntKind.i64 (↑(l.getD (0 + j) 0) : Int)).len + 1) * 8 ≤ 140737488355328))) then ((↑a1 : Int) - 0).NonNeg ∧ bif hbI s (↑a1 : Int) == 38 then k Exit.normal (St.mk [AV.ptr false 0 0 0, AV.ptr false 1 0 0, AV.int IntKind.i64 1, AV.any, AV.any, AV.any, AV.any, AV.sl false 10 0 ((Src.gen l.length fun (j : Nat) => AV.int IntKind.i64 (↑(l.getD (0 + j) 0) : Int)).len + 1) Cp.no, AV.int IntKind.i64 (↑i : Int), AV.int IntKind.u8 (hbI s (↑a1 : Int)), AV.any, AV.any, AV.any, AV.any, AV.any, AV.any, AV.any, AV.any, AV.any, AV.any, AV.any, AV.any, AV.any, AV.any, AV.ptr false 0 0 0, AV.ptr false 0 0 0, AV.ptr false 0 0 4, AV.int IntKind.i64 0, AV.bool true, AV.ptr false 0 0 0, AV.ptr false 1 0 0, AV.int IntKind.i64 1, AV.int IntKind.i64 2, AV.int IntKind.i64 (↑i : Int), AV.sl false 4 0 l.length Cp.no, AV.int IntKind.i64 (↑i : Int), AV.sl false 9 0 1 Cp.tight, AV.sl false 10 0 ((Src.gen l.length fun (j : Nat) => AV.int IntKind.i64 (↑(l.getD (0 + j) 0) : Int)).len + 1) Cp.no, AV.ptr false 0 0 0, AV.int IntKind.u8 (hbI s (↑a1 : Int)), AV.int IntKind.i64 1, AV.bool false, AV.bool false, AV.tup [], AV.tup [], AV.bool false, AV.bool false, AV.int IntKind.i64 1, AV.bool true, AV.bool true, AV.int IntKind.u8 (hbI s (↑a1 : Int)), AV.bool (hbI s (↑a1 : Int) == 38), AV.bool (hbI s (↑a1 : Int) == 38), AV.bool true, AV.ptr false 0 0 0, AV.ptr false 0 0 0, AV.ptr false 0 0 1, AV.int IntKind.i64 (↑a1 : Int), AV.int IntKind.i64 (IntKind.i64.wrap ((↑a1 : Int) + 1)), AV.ptr false 0 0 0, AV.ptr false 0 0 1, AV.any, AV.any, AV.any, AV.any, AV.any, AV.any, AV.any, AV.any, AV.any, AV.any, AV.any, AV.any, AV.any, AV.any, AV.any, AV.any, AV.any, AV.any, AV.any, AV.any, AV.any, AV.any, AV.any, AV.any, AV.any, AV.any, AV.any, AV.any, AV.any, AV.any, AV.any, AV.any, AV.any, AV.any, AV.any, AV.any, AV.any] [some (Row.lst 57 5 [AV.agg [AV.str s, AV.int IntKind.i64 (IntKind.i64.wrap ((↑a1 : Int) + 1)), AV.int IntKind.i64 (↑n : Int), AV.int IntKind.i64 0, AV.int IntKind.i64 0]]), some (Row.lst 35 2 [AV.agg [AV.sl false 8 0 N'.length Cp.no, AV.int IntKind.i64 root]]), none, none, none, none, none, none, some (Row.gen 62 3 N'.length fun (i : Nat) => neV (N'.getD i dN)), some (Row.lst 3 1 [AV.int IntKind.i64 (↑i : Int)]), some (Row.gen 3 1 ((Src.gen l.length fun (j : Nat) => AV.int IntKind.i64 (↑(l.getD (0 + j) 0) : Int)).len + 1) fun (j : Nat) => bif j.blt (Src.gen l.length fun (j : Nat) => AV.int IntKind.i64 (↑(l.getD (0 + j) 0) : Int)).len then AV.int IntKind.i64 (↑(l.getD (0 + j) 0) : Int) else (Src.lst [AV.int IntKind.i64 (↑i : Int)]).at_ (j - (Src.gen l.length fun (j : Nat) => AV.int IntKind.i64 (↑(l.getD (0 + j) 0) : Int)).len))]) F' else k (Exit.exit 0) (St.mk [AV.ptr false 0 0 0, AV.ptr false 1 0 0, AV.int IntKind.i64 1, AV.any, AV.any, AV.any, AV.any, AV.sl false 10 0 ((Src.gen l.length fun (j : Nat) => AV.int IntKind.i64 (↑(l.getD (0 + j) 0) : Int)).len + 1) Cp.no, AV.int IntKind.i64 (↑i : Int), AV.int IntKind.u8 (hbI s (↑a1 : Int)), AV.any, AV.any, AV.any, AV.any, AV.any, AV.any, AV.any, AV.any, AV.any, AV.any, AV.any, AV.any, AV.any, AV.any, AV.ptr false 0 0 0, AV.ptr false 0 0 0, AV.ptr false 0 0 4, AV.int IntKind.i64 0, AV.bool true, AV.ptr false 0 0 0, AV.ptr false 1 0 0, AV.int IntKind.i64 1, AV.int IntKind.i64 2, AV.int IntKind.i64 (↑i : Int), AV.sl false 4 0 l.length Cp.no, AV.int IntKind.i64 (↑i : Int), AV.sl false 9 0 1 Cp.tight, AV.sl false 10 0 ((Src.gen l.length fun (j : Nat) => AV.int IntKind.i64 (↑(l.getD (0 + j) 0) : Int)).len + 1) Cp.no, AV.ptr false 0 0 0, AV.int IntKind.u8 (hbI s (↑a1 : Int)), AV.int IntKind.i64 1, AV.bool false, AV.bool false, AV.tup [], AV.tup [], AV.bool false, AV.bool false, AV.int IntKind.i64 1, AV.bool true, AV.bool true, AV.int IntKind.u8 (hbI s (↑a1 : Int)), AV.bool (hbI s (↑a1 : Int) == 38), AV.bool (hbI s (↑a1 : Int) == 38), AV.bool false, AV.any, AV.any, AV.any, AV.any, AV.any, AV.any, AV.any, AV.int IntKind.i64 1, AV.bool false, AV.bool false, AV.tup [], AV.tup [], AV.tup [], AV.tup [], AV.tup [], AV.tup [], AV.tup [], AV.tup [], AV.tup [], AV.tup [], AV.tup [], AV.tup [], AV.tup [], AV.tup [], AV.bool false, AV.any, AV.any, AV.any, AV.any, AV.any, AV.any, AV.any, AV.any, AV.any, AV.any, AV.any, AV.any, AV.any, AV.any, AV.any, AV.any, AV.any, AV.any, AV.any] [some (Row.lst 57 5 [AV.agg [AV.str s, AV.int IntKind.i64 (↑a1 : Int), AV.int IntKind.i64 (↑n : Int), AV.int IntKind.i64 0, AV.int IntKind.i64 0]]), some (Row.lst 35 2 [AV.agg [AV.sl false 8 0 N'.length Cp.no, AV.int IntKind.i64 root]]), none, none, none, none, none, none, some (Row.gen 62 3 N'.length fun (i : Nat) => neV (N'.getD i dN)), some (Row.lst 3 1 [AV.int IntKind.i64 (↑i : Int)]), some (Row.gen 3 1 ((Src.gen l.length fun (j : Nat) => AV.int IntKind.i64 (↑(l.getD (0 + j) 0) : Int)).len + 1) fun (j : Nat) => bif j.blt (Src.gen l.length fun (j : Nat) => AV.int IntKind.i64 (↑(l.getD (0 + j) 0) : Int)).len then AV.int IntKind.i64 (↑(l.getD (0 + j) 0) : Int) else (Src.lst [AV.int IntKind.i64 (↑i : Int)]).at_ (j - (Src.gen l.length fun (j : Nat) => AV.int IntKind.i64 (↑(l.getD (0 + j) 0) : Int)).len))]) F' else False) ∧ ∀ (a' e : Nat), part a = PR.err a' e → ∀ (p' : Nat) (N' : List NE) (v : Int) (F' : Fz), p'.le 200000 → RErr s a N_1 F N' F' → bif decide (0 + l.length ≤ l.length) && (true && (true && decide (((Src.gen l.length fun (j : Nat) => AV.int IntKind.i64 (↑(l.getD (0 + j) 0) : Int)).len + 1) * 8 ≤ 140737488355328))) then ((↑p' : Int) - 0).NonNeg ∧ bif hbI s (↑p' : Int) == 38 then k Exit.normal (St.mk [AV.ptr false 0 0 0, AV.ptr false 1 0 0, AV.int IntKind.i64 1, AV.any, AV.any, AV.any, AV.any, AV.sl false 10 0 ((Src.gen l.length fun (j : Nat) => AV.int IntKind.i64 (↑(l.getD (0 + j) 0) : Int)).len + 1) Cp.no, AV.int IntKind.i64 v, AV.int IntKind.u8 (hbI s (↑p' : Int)), AV.any, AV.any, AV.any, AV.any, AV.any, AV.any, AV.any, AV.any, AV.any, AV.any, AV.any, AV.any, AV.any, AV.any, AV.ptr false 0 0 0, AV.ptr false 0 0 0, AV.ptr false 0 0 4, AV.int IntKind.i64 0, AV.bool true, AV.ptr false 0 0 0, AV.ptr false 1 0 0, AV.int IntKind.i64 1, AV.int IntKind.i64 2, AV.int IntKind.i64 v, AV.sl false 4 0 l.length Cp.no, AV.int IntKind.i64 v, AV.sl false 9 0 1 Cp.tight, AV.sl false 10 0 ((Src.gen l.length fun (j : Nat) => AV.int IntKind.i64 (↑(l.getD (0 + j) 0) : Int)).len + 1) Cp.no, AV.ptr false 0 0 0, AV.int IntKind.u8 (hbI s (↑p' : Int)), AV.int IntKind.i64 1, AV.bool false, AV.bool false, AV.tup [], AV.tup [], AV.bool false, AV.bool false, AV.int IntKind.i64 1, AV.bool true, AV.bool true, AV.int IntKind.u8 (hbI s (↑p' : Int)), AV.bool (hbI s (↑p' : Int) == 38), AV.bool (hbI s (↑p' : Int) == 38), AV.bool true, AV.ptr false 0 0 0, AV.ptr false 0 0 0, AV.ptr false 0 0 1, AV.int IntKind.i64 (↑p' : Int), AV.int IntKind.i64 (IntKind.i64.wrap ((↑p' : Int) + 1)), AV.ptr false 0 0 0, AV.ptr false 0 0 1, AV.any, AV.any, AV.any, AV.any, AV.any, AV.any, AV.any, AV.any, AV.any, AV.any, AV.any, AV.any, AV.any, AV.any, AV.any, AV.any, AV.any, AV.any, AV.any, AV.any, AV.any, AV.any, AV.any, AV.any, AV.any, AV.any, AV.any, AV.any, AV.any, AV.any, AV.any, AV.any, AV.any, AV.any, AV.any, AV.any, AV.any] [some (Row.lst 57 5 [AV.agg [AV.str s, AV.int IntKind.i64 (IntKind.i64.wrap ((↑p' : Int) + 1)), AV.int IntKind.i64 (↑n : Int), AV.int IntKind.i64 (↑a' : Int), AV.int IntKind.i64 (↑e : Int)]]), some (Row.lst 35 2 [AV.agg [AV.sl false 8 0 N'.length Cp.no, AV.int IntKind.i64 root]]), none, none, none, none, none, none, some (Row.gen 62 3 N'.length fun (i : Nat) => neV (N'.getD i dN)), some (Row.lst 3 1 [AV.int IntKind.i64 v]), some (Row.gen 3 1 ((Src.gen l.length fun (j : Nat) => AV.int IntKind.i64 (↑(l.getD (0 + j) 0) : Int)).len + 1) fun (j : Nat) => bif j.blt (Src.gen l.length fun (j : Nat) => AV.int IntKind.i64 (↑(l.getD (0 + j) 0) : Int)).len then AV.int IntKind.i64 (↑(l.getD (0 + j) 0) : Int) else (Src.lst [AV.int IntKind.i64 v]).at_ (j - (Src.gen l.length fun (j : Nat) => AV.int IntKind.i64 (↑(l.getD (0 + j) 0) : Int)).len))]) F' else k (Exit.exit 0) (St.mk [AV.ptr false 0 0 0, AV.ptr false 1 0 0, AV.int IntKind.i64 1, AV.any, AV.any, AV.any, AV.any, AV.sl false 10 0 ((Src.gen l.length fun (j : Nat) => AV.int IntKind.i64 (↑(l.getD (0 + j) 0) : Int)).len + 1) Cp.no, AV.int IntKind.i64 v, AV.int IntKind.u8 (hbI s (↑p' : Int)), AV.any, AV.any, AV.any, AV.any, AV.any, AV.any, AV.any, AV.any, AV.any, AV.any, AV.any, AV.any, AV.any, AV.any, AV.ptr false 0 0 0, AV.ptr false 0 0 0, AV.ptr false 0 0 4, AV.int IntKind.i64 0, AV.bool true, AV.ptr false 0 0 0, AV.ptr false 1 0 0, AV.int IntKind.i64 1, AV.int IntKind.i64 2, AV.int IntKind.i64 v, AV.sl false 4 0 l.length Cp.no, AV.int IntKind.i64 v, AV.sl false 9 0 1 Cp.tight, AV.sl false 10 0 ((Src.gen l.length fun (j : Nat) => AV.int IntKind.i64 (↑(l.getD (0 + j) 0) : Int)).len + 1) Cp.no, AV.ptr false 0 0 0, AV.int IntKind.u8 (hbI s (↑p' : Int)), AV.int IntKind.i64 1, AV.bool false, AV.bool false, AV.tup [], AV.tup [], AV.bool false, AV.bool false, AV.int IntKind.i64 1, AV.bool true, AV.bool true, AV.int IntKind.u8 (hbI s (↑p' : Int)), AV.bool (hbI s (↑p' : Int) == 38), AV.bool (hbI s (↑p' : Int) == 38), AV.bool false, AV.any, AV.any, AV.any, AV.any, AV.any, AV.any, AV.any, AV.int IntKind.i64 1, AV.bool false, AV.bool false, AV.tup [], AV.tup [], AV.tup [], AV.tup [], AV.tup [], AV.tup [], AV.tup [], AV.tup [], AV.tup [], AV.tup [], AV.tup [], AV.tup [], AV.tup [], AV.tup [], AV.bool false, AV.any, AV.any, AV.any, AV.any, AV.any, AV.any, AV.any, AV.any, AV.any, AV.any, AV.any, AV.any, AV.any, AV.any, AV.any, AV.any, AV.any, AV.any, AV.any] [some (Row.lst 57 5 [AV.agg [AV.str s, AV.int IntKind.i64 (↑p' : Int), AV.int IntKind.i64 (↑n : Int), AV.int IntKind.i64 (↑a' : Int), AV.int IntKind.i64 (↑e : Int)]]), some (Row.lst 35 2 [AV.agg [AV.sl false 8 0 N'.length Cp.no, AV.int IntKind.i64 root]]), none, none, none, none, none, none, some (Row.gen 62 3 N'.length fun (i : Nat) => neV (N'.getD i dN)), some (Row.lst 3 1 [AV.int IntKind.i64 v]), some (Row.gen 3 1 ((Src.gen l.length fun (j : Nat) => AV.int IntKind.i64 (↑(l.getD (0 + j) 0) : Int)).len + 1) fun (j : Nat) => bif j.blt (Src.gen l.length fun (j : Nat) => AV.int IntKind.i64 (↑(l.getD (0 + j) 0) : Int)).len then AV.int IntKind.i64 (↑(l.getD (0 + j) 0) : Int) else (Src.lst [AV.int IntKind.i64 v]).at_ (j - (Src.gen l.length fun (j : Nat) => AV.int IntKind.i64 (↑(l.getD (0 + j) 0) : Int)).len))]) F' else False) := by kernel_rfl
theorem vr23b_1 (R : Nat → RoRow) (s : List UInt8) (p n e : Nat) (bd root : Int) (N : List NE) (part : Nat → PR) (k : Exit → St → Fz → Prop) (F : Fz) : rnx (env23 R s n 2 part) 1000 23 (loopOf fi23 0) (famB 1 s p n bd ((e + 1 : Nat) : Int) root N) k F = (k (Exit.exit 0) (St.mk [AV.ptr false 0 0 0, AV.ptr false 1 0 0, AV.int IntKind.i64 1, AV.any, AV.any, AV.any, AV.any, AV.any, AV.any, AV.any, AV.any, AV.any, AV.any, AV.any, AV.any, AV.any, AV.any, AV.any, AV.any, AV.any, AV.any, AV.any, AV.any, AV.any, AV.ptr false 0 0 0, AV.ptr false 0 0 0, AV.ptr false 0 0 4, AV.int IntKind.i64 (↑(e + 1) : Int), AV.bool false, AV.any, AV.any, AV.any, AV.any, AV.any, AV.any, AV.any, AV.any, AV.any, AV.any, AV.any, AV.any, AV.any, AV.any, AV.any, AV.any, AV.any, AV.any, AV.any, AV.any, AV.any, AV.any, AV.any, AV.any, AV.any, AV.any, AV.any, AV.any, AV.any, AV.any, AV.any, AV.any, AV.any, AV.any, AV.any, AV.any, AV.any, AV.any, AV.any, AV.any, AV.any, AV.any, AV.any, AV.any, AV.any, AV.any, AV.any, AV.any, AV.any, AV.any, AV.any, AV.any, AV.any, AV.any, AV.any, AV.any, AV.any, AV.any, AV.any, AV.any, AV.any, AV.any, AV.any, AV.any, AV.any, AV.any, AV.any, AV.any, AV.any] [some (Row.lst 57 5 [AV.agg [AV.str s, AV.int IntKind.i64 (↑p : Int), AV.int IntKind.i64 (↑n : Int), AV.int IntKind.i64 bd, AV.int IntKind.i64 (↑(e + 1) : Int)]]), some (Row.lst 35 2 [AV.agg [AV.sl false 3 0 N.length Cp.no, AV.int IntKind.i64 root]]), none, some (Row.gen 62 3 N.length fun (i : Nat) => neV (N.getD i dN))]) F) := by kernel_rfl
theorem vr23_0 (R : Nat → RoRow) (s : List UInt8) (p n : Nat) (root : Int) (N : List NE) (l : List Nat) (part : Nat → PR) (k : Exit → St → Fz → Prop) (F : Fz) : rnx (env23 R s n 1 part) 1000 23 (loopOf fi23 0) (fam23 0 s p n 0 0 root N l) k F = ((1 : Int) = 1 ∧ n ≤ 16 ∧ ∃ (N_1 : List NE), ∃ (a : Nat), s = s ∧ (↑p : Int) = (↑a : Int) ∧ (↑n : Int) = (↑n : Int) ∧ (0 : Int) = 0 ∧ (0 : Int) = 0 ∧ N.length = N_1.length ∧ some (Row.gen 62 3 N.length fun (i : Nat) => neV (N.getD i dN)) = some (Row.gen 62 3 N_1.length fun (i : Nat) => neV (N_1.getD i dN)) ∧ RIn s a N_1 F ∧ (∀ (t : Tr) (a1 : Nat), part a = PR.ok t a1 → ∀ (N' : List NE) (i : Nat) (F' : Fz), ROk s a N_1 F t a1 N' i F' → bif decide (0 + l.length ≤ l.length) && (true && (true && decide (((Src.gen l.length fun (j : Nat) => AV.int IntKind.i64 (↑(l.getD (0 + j) 0) : Int)).len + 1) * 8 ≤ 140737488355328))) then ((↑a1 : Int) - 0).NonNeg ∧ bif hbI s (↑a1 : Int) == 124 then k Exit.normal (St.mk [AV.ptr false 0 0 0, AV.ptr false 1 0 0, AV.int IntKind.i64 0, AV.any, AV.any, AV.any, AV.any, AV.sl false 10 0 ((Src.gen l.length fun (j : Nat) => AV.int IntKind.i64 (↑(l.getD (0 + j) 0) : Int)).len + 1) Cp.no, AV.int IntKind.i64 (↑i : Int), AV.int IntKind.u8 (hbI s (↑a1 : Int)), AV.any, AV.any, AV.any, AV.any, AV.any, AV.any, AV.any, AV.any, AV.any, AV.any, AV.any, AV.any, AV.any, AV.any, AV.ptr false 0 0 0, AV.ptr false 0 0 0, AV.ptr false 0 0 4, AV.int IntKind.i64 0, AV.bool true, AV.ptr false 0 0 0, AV.ptr false 1 0 0, AV.int IntKind.i64 0, AV.int IntKind.i64 1, AV.int IntKind.i64 (↑i : Int), AV.sl false 4 0 l.length Cp.no, AV.int IntKind.i64 (↑i : Int), AV.sl false 9 0 1 Cp.tight, AV.sl false 10 0 ((Src.gen l.length fun (j : Nat) => AV.int IntKind.i64 (↑(l.getD (0 + j) 0) : Int)).len + 1) Cp.no, AV.ptr false 0 0 0, AV.int IntKind.u8 (hbI s (↑a1 : Int)), AV.int IntKind.i64 0, AV.bool true, AV.bool true, AV.int IntKind.u8 (hbI s (↑a1 : Int)), AV.bool (hbI s (↑a1 : Int) == 124), AV.bool (hbI s (↑a1 : Int) == 124), AV.bool true, AV.tup [], AV.tup [], AV.tup [], AV.tup [], AV.tup [], AV.tup [], AV.bool true, AV.ptr false 0 0 0, AV.ptr false 0 0 0, AV.ptr false 0 0 1, AV.int IntKind.i64 (↑a1 : Int), AV.int IntKind.i64 (IntKind.i64.wrap ((↑a1 : Int) + 1)), AV.ptr false 0 0 0, AV.ptr false 0 0 1, AV.any, AV.any, AV.any, AV.any, AV.any, AV.any, AV.any, AV.any, AV.any, AV.any, AV.any, AV.any, AV.any, AV.any, AV.any, AV.any, AV.any, AV.any, AV.any, AV.any, AV.any, AV.any, AV.any, AV.any, AV.any, AV.any, AV.any, AV.any, AV.any, AV.any, AV.any, AV.any, AV.any, AV.any, AV.any, AV.any, AV.any] [some (Row.lst 57 5 [AV.agg [AV.str s, AV.int IntKind.i64 (IntKind.i64.wrap ((↑a1 : Int) + 1)), AV.int IntKind.i64 (↑n : Int), AV.int IntKind.i64 0, AV.int IntKind.i64 0]]), some (Row.lst 35 2 [AV.agg [AV.sl false 8 0 N'.length Cp.no, AV.int IntKind.i64 root]]), none, none, none, none, none, none, some (Row.gen 62 3 N'.length fun (i : Nat) => neV (N'.getD i dN)), some (Row.lst 3 1 [AV.int IntKind.i64 (↑i : Int)]), some (Row.gen 3 1 ((Src.gen l.length fun (j : Nat) => AV.int IntKind.i64 (↑(l.getD (0 + j) 0) : Int)).len + 1) fun (j : Nat) => bif j.blt (Src.gen l.length fun (j : Nat) => AV.int IntKind.i64 (↑(l.getD (0 + j) 0) : Int)).len then AV.int IntKind.i64 (↑(l.getD (0 + j) 0) : Int) else (Src.lst [AV.int IntKind.i64 (↑i : Int)]).at_ (j - (Src.gen l.length fun (j : Nat) => AV.int IntKind.i64 (↑(l.getD (0 + j) 0) : Int)).len))]) F' else k (Exit.exit 0) (St.mk [AV.ptr false 0 0 0, AV.ptr false 1 0 0, AV.int IntKind.i64 0, AV.any, AV.any, AV.any, AV.any, AV.sl false 10 0 ((Src.gen l.length fun (j : Nat) => AV.int IntKind.i64 (↑(l.getD (0 + j) 0) : Int)).len + 1) Cp.no, AV.int IntKind.i64 (↑i : Int), AV.int IntKind.u8 (hbI s (↑a1 : Int)), AV.any, AV.any, AV.any, AV.any, AV.any, AV.any, AV.any, AV.any, AV.any, AV.any, AV.any, AV.any, AV.any, AV.any, AV.ptr false 0 0 0, AV.ptr false 0 0 0, AV.ptr false 0 0 4, AV.int IntKind.i64 0, AV.bool true, AV.ptr false 0 0 0, AV.ptr false 1 0 0, AV.int IntKind.i64 0, AV.int IntKind.i64 1, AV.int IntKind.i64 (↑i : Int), AV.sl false 4 0 l.length Cp.no, AV.int IntKind.i64 (↑i : Int), AV.sl false 9 0 1 Cp.tight, AV.sl false 10 0 ((Src.gen l.length fun (j : Nat) => AV.int IntKind.i64 (↑(l.getD (0 + j) 0) : Int)).len + 1) Cp.no, AV.ptr false 0 0 0, AV.int IntKind.u8 (hbI s (↑a1 : Int)), AV.int IntKind.i64 0, AV.bool true, AV.bool true, AV.int IntKind.u8 (hbI s (↑a1 : Int)), AV.bool (hbI s (↑a1 : Int) == 124), AV.bool (hbI s (↑a1 : Int) == 124), AV.bool false, AV.int IntKind.i64 0, AV.bool false, AV.bool false, AV.tup [], AV.tup [], AV.bool false, AV.bool false, AV.any, AV.any, AV.any, AV.any, AV.any, AV.any, AV.any, AV.int IntKind.i64 0, AV.bool false, AV.bool false, AV.tup [], AV.tup [], AV.tup [], AV.tup [], AV.tup [], AV.tup [], AV.tup [], AV.tup [], AV.tup [], AV.tup [], AV.tup [], AV.tup [], AV.tup [], AV.tup [], AV.bool false, AV.any, AV.any, AV.any, AV.any, AV.any, AV.any, AV.any, AV.any, AV.any, AV.any, AV.any, AV.any, AV.any, AV.any, AV.any, AV.any, AV.any, AV.any, AV.any] [some (Row.lst 57 5 [AV.agg [AV.str s, AV.int IntKind.i64 (↑a1 : Int), AV.int IntKind.i64 (↑n : Int), AV.int IntKind.i64 0, AV.int IntKind.i64 0]]), some (Row.lst 35 2 [AV.agg [AV.sl false 8 0 N'.length Cp.no, AV.int IntKind.i64 root]]), none, none, none, none, none, none, some (Row.gen 62 3 N'.length fun (i : Nat) => neV (N'.getD i dN)), some (Row.lst 3 1 [AV.int IntKind.i64 (↑i : Int)]), some (Row.gen 3 1 ((Src.gen l.length fun (j : Nat) => AV.int IntKind.i64 (↑(l.getD (0 + j) 0) : Int)).len + 1) fun (j : Nat) => bif j.blt (Src.gen l.length fun (j : Nat) => AV.int IntKind.i64 (↑(l.getD (0 + j) 0) : Int)).len then AV.int IntKind.i64 (↑(l.getD (0 + j) 0) : Int) else (Src.lst [AV.int IntKind.i64 (↑i : Int)]).at_ (j - (Src.gen l.length fun (j : Nat) => AV.int IntKind.i64 (↑(l.getD (0 + j) 0) : Int)).len))]) F' else False) ∧ ∀ (a' e : Nat), part a = PR.err a' e → ∀ (p' : Nat) (N' : List NE) (v : Int) (F' : Fz), p'.le 200000 → RErr s a N_1 F N' F' → bif decide (0 + l.length ≤ l.length) && (true && (true && decide (((Src.gen l.length fun (j : Nat) => AV.int IntKind.i64 (↑(l.getD (0 + j) 0) : Int)).len + 1) * 8 ≤ 140737488355328))) then ((↑p' : Int) - 0).NonNeg ∧ bif hbI s (↑p' : Int) == 124 then k Exit.normal (St.mk [AV.ptr false 0 0 0, AV.ptr false 1 0 0, AV.int IntKind.i64 0, AV.any, AV.any, AV.any, AV.any, AV.sl false 10 0 ((Src.gen l.length fun (j : Nat) => AV.int IntKind.i64 (↑(l.getD (0 + j) 0) : Int)).len + 1) Cp.no, AV.int IntKind.i64 v, AV.int IntKind.u8 (hbI s (↑p' : Int)), AV.any, AV.any, AV.any, AV.any, AV.any, AV.any, AV.any, AV.any, AV.any, AV.any, AV.any, AV.any, AV.any, AV.any, AV.ptr false 0 0 0, AV.ptr false 0 0 0, AV.ptr false 0 0 4, AV.int IntKind.i64 0, AV.bool true, AV.ptr false 0 0 0, AV.ptr false 1 0 0, AV.int IntKind.i64 0, AV.int IntKind.i64 1, AV.int IntKind.i64 v, AV.sl false 4 0 l.length Cp.no, AV.int IntKind.i64 v, AV.sl false 9 0 1 Cp.tight, AV.sl false 10 0 ((Src.gen l.length fun (j : Nat) => AV.int IntKind.i64 (↑(l.getD (0 + j) 0) : Int)).len + 1) Cp.no, AV.ptr false 0 0 0, AV.int IntKind.u8 (hbI s (↑p' : Int)), AV.int IntKind.i64 0, AV.bool true, AV.bool true, AV.int IntKind.u8 (hbI s (↑p' : Int)), AV.bool (hbI s (↑p' : Int) == 124), AV.bool (hbI s (↑p' : Int) == 124), AV.bool true, AV.tup [], AV.tup [], AV.tup [], AV.tup [], AV.tup [], AV.tup [], AV.bool true, AV.ptr false 0 0 0, AV.ptr false 0 0 0, AV.ptr false 0 0 1, AV.int IntKind.i64 (↑p' : Int), AV.int IntKind.i64 (IntKind.i64.wrap ((↑p' : Int) + 1)), AV.ptr false 0 0 0, AV.ptr false 0 0 1, AV.any, AV.any, AV.any, AV.any, AV.any, AV.any, AV.any, AV.any, AV.any, AV.any, AV.any, AV.any, AV.any, AV.any, AV.any, AV.any, AV.any, AV.any, AV.any, AV.any, AV.any, AV.any, AV.any, AV.any, AV.any, AV.any, AV.any, AV.any, AV.any, AV.any, AV.any, AV.any, AV.any, AV.any, AV.any, AV.any, AV.any] [some (Row.lst 57 5 [AV.agg [AV.str s, AV.int IntKind.i64 (IntKind.i64.wrap ((↑p' : Int) + 1)), AV.int IntKind.i64 (↑n : Int), AV.int IntKind.i64 (↑a' : Int), AV.int IntKind.i64 (↑e : Int)]]), some (Row.lst 35 2 [AV.agg [AV.sl false 8 0 N'.length Cp.no, AV.int IntKind.i64 root]]), none, none, none, none, none, none, some (Row.gen 62 3 N'.length fun (i : Nat) => neV (N'.getD i dN)), some (Row.lst 3 1 [AV.int IntKind.i64 v]), some (Row.gen 3 1 ((Src.gen l.length fun (j : Nat) => AV.int IntKind.i64 (↑(l.getD (0 + j) 0) : Int)).len + 1) fun (j : Nat) => bif j.blt (Src.gen l.length fun (j : Nat) => AV.int IntKind.i64 (↑(l.getD (0 + j) 0) : Int)).len then AV.int IntKind.i64 (↑(l.getD (0 + j) 0) : Int) else (Src.lst [AV.int IntKind.i64 v]).at_ (j - (Src.gen l.length fun (j : Nat) => AV.int IntKind.i64 (↑(l.getD (0 + j) 0) : Int)).len))]) F' else k (Exit.exit 0) (St.mk [AV.ptr false 0 0 0, AV.ptr false 1 0 0, AV.int IntKind.i64 0, AV.any, AV.any, AV.any, AV.any, AV.sl false 10 0 ((Src.gen l.length fun (j : Nat) => AV.int IntKind.i64 (↑(l.getD (0 + j) 0) : Int)).len + 1) Cp.no, AV.int IntKind.i64 v, AV.int IntKind.u8 (hbI s (↑p' : Int)), AV.any, AV.any, AV.any, AV.any, AV.any, AV.any, AV.any, AV.any, AV.any, AV.any, AV.any, AV.any, AV.any, AV.any, AV.ptr false 0 0 0, AV.ptr false 0 0 0, AV.ptr false 0 0 4, AV.int IntKind.i64 0, AV.bool true, AV.ptr false 0 0 0, AV.ptr false 1 0 0, AV.int IntKind.i64 0, AV.int IntKind.i64 1, AV.int IntKind.i64 v, AV.sl false 4 0 l.length Cp.no, AV.int IntKind.i64 v, AV.sl false 9 0 1 Cp.tight, AV.sl false 10 0 ((Src.gen l.length fun (j : Nat) => AV.int IntKind.i64 (↑(l.getD (0 + j) 0) : Int)).len + 1) Cp.no, AV.ptr false 0 0 0, AV.int IntKind.u8 (hbI s (↑p' : Int)), AV.int IntKind.i64 0, AV.bool true, AV.bool true, AV.int IntKind.u8 (hbI s (↑p' : Int)), AV.bool (hbI s (↑p' : Int) == 124), AV.bool (hbI s (↑p' : Int) == 124), AV.bool false, AV.int IntKind.i64 0, AV.bool false, AV.bool false, AV.tup [], AV.tup [], AV.bool false, AV.bool false, AV.any, AV.any, AV.any, AV.any, AV.any, AV.any, AV.any, AV.int IntKind.i64 0, AV.bool false, AV.bool false, AV.tup [], AV.tup [], AV.tup [], AV.tup [], AV.tup [], AV.tup [], AV.tup [], AV.tup [], AV.tup [], AV.tup [], AV.tup [], AV.tup [], AV.tup [], AV.tup [], AV.bool false, AV.any, AV.any, AV.any, AV.any, AV.any, AV.any, AV.any, AV.any, AV.any, AV.any, AV.any, AV.any, AV.any, AV.any, AV.any, AV.any, AV.any, AV.any, AV.any] [some (Row.lst 57 5 [AV.agg [AV.str s, AV.int IntKind.i64 (↑p' : Int), AV.int IntKind.i64 (↑n : Int), AV.int IntKind.i64 (↑a' : Int), AV.int IntKind.i64 (↑e : Int)]]), some (Row.lst 35 2 [AV.agg [AV.sl false 8 0 N'.length Cp.no, AV.int IntKind.i64 root]]), none, none, none, none, none, none, some (Row.gen 62 3 N'.length fun (i : Nat) => neV (N'.getD i dN)), some (Row.lst 3 1 [AV.int IntKind.i64 v]), some (Row.gen 3 1 ((Src.gen l.length fun (j : Nat) => AV.int IntKind.i64 (↑(l.getD (0 + j) 0) : Int)).len + 1) fun (j : Nat) => bif j.blt (Src.gen l.length fun (j : Nat) => AV.int IntKind.i64 (↑(l.getD (0 + j) 0) : Int)).len then AV.int IntKind.i64 (↑(l.getD (0 + j) 0) : Int) else (Src.lst [AV.int IntKind.i64 v]).at_ (j - (Src.gen l.length fun (j : Nat) => AV.int IntKind.i64 (↑(l.getD (0 + j) 0) : Int)).len))]) F' else False) := by kernel_rfl
theorem vr23b_0 (R : Nat → RoRow) (s : List UInt8) (p n e : Nat) (bd root : Int) (N : List NE) (part : Nat → PR) (k : Exit → St → Fz → Prop) (F : Fz) : rnx (env23 R s n 1 part) 1000 23 (loopOf fi23 0) (famB 0 s p n bd ((e + 1 : Nat) : Int) root N) k F = (k (Exit.exit 0) (St.mk [AV.ptr false 0 0 0, AV.ptr false 1 0 0, AV.int IntKind.i64 0, AV.any, AV.any, AV.any, AV.any, AV.any, AV.any, AV.any, AV.any, AV.any, AV.any, AV.any, AV.any, AV.any, AV.any, AV.any, AV.any, AV.any, AV.any, AV.any, AV.any, AV.any, AV.ptr false 0 0 0, AV.ptr false 0 0 0, AV.ptr false 0 0 4, AV.int IntKind.i64 (↑(e + 1) : Int), AV.bool false, AV.any, AV.any, AV.any, AV.any, AV.any, AV.any, AV.any, AV.any, AV.any, AV.any, AV.any, AV.any, AV.any, AV.any, AV.any, AV.any, AV.any, AV.any, AV.any, AV.any, AV.any, AV.any, AV.any, AV.any, AV.any, AV.any, AV.any, AV.any, AV.any, AV.any, AV.any, AV.any, AV.any, AV.any, AV.any, AV.any, AV.any, AV.any, AV.any, AV.any, AV.any, AV.any, AV.any, AV.any, AV.any, AV.any, AV.any, AV.any, AV.any, AV.any, AV.any, AV.any, AV.any, AV.any, AV.any, AV.any, AV.any, AV.any, AV.any, AV.any, AV.any, AV.any, AV.any, AV.any, AV.any, AV.any, AV.any, AV.any, AV.any] [some (Row.lst 57 5 [AV.agg [AV.str s, AV.int IntKind.i64 (↑p : Int), AV.int IntKind.i64 (↑n : Int), AV.int IntKind.i64 bd, AV.int IntKind.i64 (↑(e + 1) : Int)]]), some (Row.lst 35 2 [AV.agg [AV.sl false 3 0 N.length Cp.no, AV.int IntKind.i64 root]]), none, some (Row.gen 62 3 N.length fun (i : Nat) => neV (N.getD i dN))]) F) := by kernel_rfl
end Go.Dc.Ke
end
section
set_option linter.unusedVariables false
set_option linter.unusedSimpArgs false
namespace Go.Dc.Ke
open Go.Proofs Go.RowKit Go.Shelf
set_option maxRecDepth 100000
abbrev pad5 (rr : Row) (n : Nat) (root : Int) (N : List NE) (l : List Nat) : Rows := [some rr, some (trow 3 n root), none, some (arow N), some (nrow l)]
theorem pad5_live {rr : Row} {n : Nat} {root : Int} {N : List NE} {l : List Nat} {c : Nat} {r : Row} (h : Rows.live (pad5 rr n root N l) c = some r) : (c = 0 ∧ r = rr) ∨ (c = 1 ∧ r = trow 3 n root) ∨ (c = 3 ∧ r = arow N) ∨ (c = 4 ∧ r = nrow l) := by
  match c, h with
  | 0, h => cases h; exact .inl ⟨rfl, rfl⟩
  | 1, h => cases h; exact .inr (.inl ⟨rfl, rfl⟩)
  | 3, h => cases h; exact .inr (.inr (.inl ⟨rfl, rfl⟩))
  | 4, h => cases h; exact .inr (.inr (.inr ⟨rfl, rfl⟩))
  | 2, h => cases h
  | c + 5, h => simp [Rows.live] at h
/-- The list's row under the number 3, the kids' under 4. -/
def fiveR (d : Nat) (o : Option Nat) : Nat → Option Nat := fun c => bif Nat.beq c 3 then some d else bif Nat.beq c 4 then o else some c
theorem five_lt {d : Nat} {o : Option Nat} {nk : Nat} (h : nk ≤ 3) (c : Nat) (hc : c < nk) : fiveR d o c = some c := by
  match c with
  | 0 => rfl
  | 1 => rfl
  | 2 => rfl
  | c + 3 => omega
theorem pad5_view {s : List UInt8} {p n bd er root : Int} {N : List NE} {l : List Nat} {h : Rows} {d : Nat} {o : Option Nat} (h0 : h.live 0 = some (rrow s p n bd er)) (h1 : h.live 1 = some (trow d N.length root)) (h2 : h.live d = some (arow N))
    (h3 : (o = none ∧ l = []) ∨ ∃ q g, o = some q ∧ h.live q = some (.gen 3 1 l.length g) ∧ ∀ i, i < l.length → g i = .int .i64 ((l.getD i 0 : Nat) : Int)) : ViewW (fiveR d o) (pad5 (rrow s p n bd er) N.length root N l) h where
  inj := fun c c' b r r' hc hc' e e' => by
    have n0 : d ≠ 0 := fun e => by rw [e, h0] at h2; cases h2
    have n1 : d ≠ 1 := fun e => by rw [e, h1] at h2; cases h2
    have q0 : o ≠ some 0 := fun e => by
      rcases h3 with ⟨h, _⟩ | ⟨q, g, h, hq, _⟩
      · rw [h] at e; cases e
      · rw [h] at e; cases e; rw [h0] at hq; cases hq
    have q1 : o ≠ some 1 := fun e => by
      rcases h3 with ⟨h, _⟩ | ⟨q, g, h, hq, _⟩
      · rw [h] at e; cases e
      · rw [h] at e; cases e; rw [h1] at hq; cases hq
    have qd : o ≠ some d := fun e => by
      rcases h3 with ⟨h, _⟩ | ⟨q, g, h, hq, _⟩
      · rw [h] at e; cases e
      · rw [h] at e; cases e; rw [h2] at hq; cases hq
    have f0 : fiveR d o 0 = some 0 := rfl
    have f1 : fiveR d o 1 = some 1 := rfl
    have f3 : fiveR d o 3 = some d := rfl
    have f4 : fiveR d o 4 = o := rfl
    rcases pad5_live hc with ⟨rfl, _⟩ | ⟨rfl, _⟩ | ⟨rfl, _⟩ | ⟨rfl, _⟩ <;> rcases pad5_live hc' with ⟨rfl, _⟩ | ⟨rfl, _⟩ | ⟨rfl, _⟩ | ⟨rfl, _⟩ <;>
      first
        | rfl
        | (exfalso; simp only [f0, f1, f3, f4] at e e'; rw [← e'] at e; first | exact q0 e | exact q1 e | exact qd e | exact q0 e.symm | exact q1 e.symm | exact qd e.symm | exact n0 (Option.some.inj e) | exact n1 (Option.some.inj e) | exact n0 (Option.some.inj e).symm | exact n1 (Option.some.inj e).symm | (cases e))
  row := fun c r hc => by
    rcases pad5_live hc with ⟨rfl, rfl⟩ | ⟨rfl, rfl⟩ | ⟨rfl, rfl⟩ | ⟨rfl, rfl⟩
    · exact .inl ⟨0, _, rfl, h0, (rrow_g _ _ _ _ _).vw _ _⟩
    · exact .inl ⟨1, _, rfl, h1, trow_v rfl (by simp)⟩
    · exact .inl ⟨d, _, rfl, h2, (arow_g N).vw _ _⟩
    · rcases h3 with ⟨h, rfl⟩ | ⟨q, g, h, hq, hg⟩
      · exact .inr ⟨h, rfl⟩
      · exact .inl ⟨q, _, h, hq, .gen rfl fun i hi => ⟨rfl, by rw [hg i hi]; exact Vw.intI⟩⟩
theorem toFive {R : Nat → RoRow} {nk : Nat} {T TM : List AV} {h : Rows} {s : List UInt8} {p n bd er root : Int} {N : List NE} {l : List Nat} {d : Nat} {o : Option Nat} {F : Fz} {S : St → Fz → Prop} (hnk : nk ≤ 3) (h0 : h.live 0 = some (rrow s p n bd er)) (h1 : h.live 1 = some (trow d N.length root)) (h2 : h.live d = some (arow N))
    (h3 : (o = none ∧ l = []) ∨ ∃ q g, o = some q ∧ h.live q = some (.gen 3 1 l.length g) ∧ ∀ i, i < l.length → g i = .int .i64 ((l.getD i 0 : Nat) : Int))
    (hT : VwL (fiveR d o) 5 T TM) (hS : S ⟨T, pad5 (rrow s p n bd er) N.length root N l⟩ F) : ToX R [] nk ⟨TM, h⟩ F S :=
  ToX.fitW (stE := ⟨T, pad5 (rrow s p n bd er) N.length root N l⟩) (fiveR d o) (pad5_view h0 h1 h2 h3) hT (five_lt hnk) (by simp; omega) (ToX.here hS)
theorem toBad {R : Nat → RoRow} {nk : Nat} {T TM : List AV} {h : Rows} {s : List UInt8} {p n bd er root : Int} {N : List NE} {d : Nat} {F : Fz} {S : St → Fz → Prop} (hnk : nk ≤ 3) (h0 : h.live 0 = some (rrow s p n bd er)) (h1 : h.live 1 = some (trow d N.length root)) (h2 : h.live d = some (arow N))
    (hT : VwL (mvR 3 d) 4 T TM) (hS : S ⟨T, out4 (rrow s p n bd er) N.length root N⟩ F) : ToX R [] nk ⟨TM, h⟩ F S :=
  ToX.fitW (stE := ⟨T, out4 (rrow s p n bd er) N.length root N⟩) (mvR 3 d) (out4_view h0 h1 h2) hT (mvR_lt hnk) (by simp; omega) (ToX.here hS)
theorem RLs.snoc {s : List UInt8} {a a1 a2 : Nat} {N N1 N2 : List NE} {F F1 F2 : Fz} {ts : List Tr} {l : List Nat} {t : Tr} {i : Nat} (h : RLs s a N F ts a1 N1 l F1) (g : ROk s a1 N1 F1 t a2 N2 i F2) (hle : a2 ≤ s.length) : RLs s a N F (ts ++ [t]) a2 N2 (l ++ [i]) F2 where
  mo := h.mo.trans g.mo
  nf := g.nf
  up := h.up.trans g.up
  tr := TrNs.snoc g.tr ts l (g.mo.trs h.tr)
  le := hle
  room := by
    have := h.room; have := g.room
    simp only [List.length_append, List.length_cons, List.length_nil]
    omega
theorem ROk.far {s : List UInt8} {a a1 : Nat} {N N' : List NE} {F F' : Fz} {t : Tr} {i : Nat} (h : ROk s a N F t a1 N' i F') (ha : a ≤ s.length) : a < a1 := by
  obtain ⟨l, rfl⟩ := h.mo.pre
  have := h.room
  rw [List.length_append] at this
  omega
theorem RLs.step {s : List UInt8} {a a1 a2 : Nat} {N N1 : List NE} {F F1 : Fz} {ts : List Tr} {l : List Nat} (h : RLs s a N F ts a1 N1 l F1) (h1 : a1 ≤ a2) (h2 : a2 ≤ s.length) : RLs s a N F ts a2 N1 l F1 :=
  ⟨h.mo, h.nf, h.up, h.tr, h2, by have := h.room; omega⟩
end Go.Dc.Ke
end
section
set_option linter.unusedVariables false
set_option linter.unusedSimpArgs false
namespace Go.Dc.Ke
open Go.Proofs Go.RowKit Go.Shelf
set_option maxRecDepth 100000
theorem env23_ok {R : Nat → RoRow} {s : List UInt8} {n : Nat} {kk : Int} {part : Nat → PR} {HP : HPt} (hP : ∀ args h k F, spec23 s n kk part args h k F → SafeCallX Try.prog R 23 args h F k HP) : OKX Try.prog (env23 R s n kk part) [] HP :=
  (envQ_ok R HP).addCall (f := 23) (fi := fi23) (by kernel_rfl) hP
theorem tm23_spr (kk : Int) (m : Nat) : tm23 kk m = spr [(0, .ptr false 0 0 0), (1, .ptr false 1 0 0), (2, .int .i64 kk), (7, .sl false 4 0 m .no)] 0 98 := by kernel_rfl
theorem nrow_app (l : List Nat) (i j : Nat) (hj : j < (l ++ [i]).length) : (bif j.blt l.length then AV.int .i64 ((l.getD (0 + j) 0 : Nat) : Int) else (Src.lst [.int .i64 (i : Nat)]).at_ (j - l.length)) = .int .i64 (((l ++ [i]).getD j 0 : Nat) : Int) := by
  have hj : j < l.length + 1 := by simpa using hj
  exact app_gen (F := fun j => .int .i64 ((l.getD j 0 : Nat) : Int)) (G := fun j => .int .i64 (((l ++ [i]).getD j 0 : Nat) : Int)) (n := l.length) (e := .int .i64 (i : Nat)) (fun j hj => by
    simp only [Nat.zero_add]
    rw [List.getD_eq_getElem?_getD, List.getD_eq_getElem?_getD, List.getElem?_append_left hj]) (by simp) j hj
theorem capN {l : List Nat} (h : l.length ≤ 100000) : (decide (0 + l.length ≤ l.length) && (true && (true && decide (((Src.gen l.length fun (j : Nat) => AV.int .i64 ((l.getD (0 + j) 0 : Nat) : Int)).len + 1) * 8 ≤ 140737488355328)))) = true := by
  have h1 : (Src.gen l.length fun (j : Nat) => AV.int .i64 ((l.getD (0 + j) 0 : Nat) : Int)).len = l.length := rfl
  rw [h1]
  simp only [Bool.and_eq_true, decide_eq_true_eq]
  exact ⟨by omega, trivial, trivial, by omega⟩
theorem loop23_2 {R : Nat → RoRow} {s : List UInt8} {n : Nat} {part : Nat → PR} (HP : HPt) (hP : ∀ args h k F, spec23 s n 3 part args h k F → SafeCallX Try.prog R 23 args h F k HP) (hnz : ∀ a, NZ (part a)) (hG : Goes s part) (hn : n ≤ 16) :
    ∀ st k F, lp23 2 s n 4 (LpI s begins 0 4 part) st k F → SafeX Try.prog R [] (.block 0 (.loop (loopOf fi23 0))) st F k HP := by
  rintro ⟨TM, rows⟩ k F ⟨h0, h1, h2, h3, h4, root, N, a, hr, hin, hok, herr⟩
  simp only at h0 h1 h2 h3 h4 hr
  subst hr
  have hs := hin.sm
  have hle := hin.le
  have hR := hin.room
  refine SafeX.loop_block (Inv := fun m st F' => (∃ a1 N1 l ts, s.length + 1 ≤ m + a1 ∧ RLs s a N F ts a1 N1 l F' ∧ LpI s begins 0 4 part a = ((part a1).bind fun t a2 => (Lp s begins 0 4 part m (ts ++ [t]) a2)) ∧ st = fam23 2 s a1 n 0 0 root N1 l) ∨ (∃ a' e p' N1, LpI s begins 0 4 part a = .err a' (e + 1) ∧ p' ≤ 200000 ∧ RErr s a N F N1 F' ∧ st = famB 2 s p' n (a' : Nat) ((e + 1 : Nat) : Int) root N1)) ?_ ?_
  · refine toFive (o := none) (d := 2) (l := []) (Nat.le_refl 3) rfl rfl rfl (.inl ⟨rfl, rfl⟩) (T := tm23 2 0) ?_ ?_
    · rw [tm23_spr]
      exact VwL.ofKnown h0 ⟨by rw [h1]; exact Vw.ptrI (by simp) rfl, by rw [h2]; exact Vw.ptrI (by simp) rfl, by rw [h3]; exact Vw.intI, by rw [h4]; simp only [Vw]; exact ⟨by simp, .inr ⟨rfl, trivial, by simp [CpOK], trivial⟩⟩, trivial⟩
    · exact ⟨s.length + 1, .inl ⟨a, N, [], [], by omega, ⟨Mo.refl N, hin.nf, Up.refl F, by simp only [TrNs], hle, by simp⟩, rfl, rfl⟩⟩
  · rintro m st' F1 (⟨a1, N1, l, ts, hm, hI, hW, rfl⟩ | ⟨a', e, p', N1, hW, hp', hE, rfl⟩)
    · have ha1 := hI.le
      have hrm := hI.room
      have hl1 : l.length = ts.length := (hI.tr.len).symm
      obtain ⟨g, rfl⟩ : ∃ g, m = g + 1 := ⟨m - 1, by omega⟩
      refine SafeX.by mixed (env23_ok hP) (f := 23) (fi := fi23) (i := 0) (by kernel_rfl) (b := .loop (loopOf fi23 0)) (by kernel_rfl) (subs_loop _) 1000 (vr23_2 R s a1 n root N1 l part _ F1) ?_
      refine ⟨rfl, hn, N1, a1, rfl, rfl, rfl, rfl, rfl, rfl, rfl, ⟨hI.nf, ha1, hs, by omega⟩, ?_, ?_⟩
      · intro t a2 hpt N2 i F2 ho
        have hg := (hG _ ha1 _ _ hpt).2
        have hfar := ho.far ha1
        have hS := hI.snoc ho hg
        rw [capN (by omega)]
        have hW2 : LpI s begins 0 4 part a = (Lp s begins 0 4 part (g + 1) (ts ++ [t]) a2) := by rw [hW, hpt]; rfl
        refine ⟨show (0 : Int) ≤ (a2 : Int) - 0 by omega, hcB (fun h1 => ?_) fun h1 => hcB (fun h2 => ?_) fun h2 => hcB (fun h3 => ?_) fun h3 => hcB (fun h4 => ?_) fun h4 => ?_⟩
        · have hb : begins (hbI s a2) = true := by simp [begins, h1]
          refine toFive (o := some 10) (d := 8) (l := l ++ [i]) (Nat.le_refl 3) rfl rfl rfl (.inr ⟨10, _, rfl, by rw [List.length_append]; rfl, nrow_app l i⟩) (T := tm23 2 (l ++ [i]).length) ?_ ?_
          · rw [List.length_append]; (repeat' (first | with_reducible exact VwL.nil | with_reducible refine VwL.cons ?_ ?_ | with_reducible exact Vw.anyI | with_reducible exact Vw.strI | with_reducible exact Vw.boolI | with_reducible exact Vw.intI | with_reducible exact Vw.nilsI | exact Vw.ptrI (by simp) rfl | exact Vw.slI (by simp) rfl | with_reducible refine Vw.aggI ?_ | exact Vw.gndI rfl))
          · refine ⟨g, Nat.lt_succ_self g, .inl ⟨a2, N2, l ++ [i], ts ++ [t], by omega, hS, ?_, rfl⟩⟩
            rw [hW2]
            show (bif begins (hbI s a2) then _ else _) = _
            rw [hb]; rfl
        · have hb : begins (hbI s a2) = true := by simp [begins, h1, h2]
          refine toFive (o := some 10) (d := 8) (l := l ++ [i]) (Nat.le_refl 3) rfl rfl rfl (.inr ⟨10, _, rfl, by rw [List.length_append]; rfl, nrow_app l i⟩) (T := tm23 2 (l ++ [i]).length) ?_ ?_
          · rw [List.length_append]; (repeat' (first | with_reducible exact VwL.nil | with_reducible refine VwL.cons ?_ ?_ | with_reducible exact Vw.anyI | with_reducible exact Vw.strI | with_reducible exact Vw.boolI | with_reducible exact Vw.intI | with_reducible exact Vw.nilsI | exact Vw.ptrI (by simp) rfl | exact Vw.slI (by simp) rfl | with_reducible refine Vw.aggI ?_ | exact Vw.gndI rfl))
          · refine ⟨g, Nat.lt_succ_self g, .inl ⟨a2, N2, l ++ [i], ts ++ [t], by omega, hS, ?_, rfl⟩⟩
            rw [hW2]
            show (bif begins (hbI s a2) then _ else _) = _
            rw [hb]; rfl
        · have hb : begins (hbI s a2) = true := by simp [begins, h1, h2, h3]
          refine toFive (o := some 10) (d := 8) (l := l ++ [i]) (Nat.le_refl 3) rfl rfl rfl (.inr ⟨10, _, rfl, by rw [List.length_append]; rfl, nrow_app l i⟩) (T := tm23 2 (l ++ [i]).length) ?_ ?_
          · rw [List.length_append]; (repeat' (first | with_reducible exact VwL.nil | with_reducible refine VwL.cons ?_ ?_ | with_reducible exact Vw.anyI | with_reducible exact Vw.strI | with_reducible exact Vw.boolI | with_reducible exact Vw.intI | with_reducible exact Vw.nilsI | exact Vw.ptrI (by simp) rfl | exact Vw.slI (by simp) rfl | with_reducible refine Vw.aggI ?_ | exact Vw.gndI rfl))
          · refine ⟨g, Nat.lt_succ_self g, .inl ⟨a2, N2, l ++ [i], ts ++ [t], by omega, hS, ?_, rfl⟩⟩
            rw [hW2]
            show (bif begins (hbI s a2) then _ else _) = _
            rw [hb]; rfl
        · have hb : begins (hbI s a2) = true := by simp [begins, h1, h2, h3, h4]
          refine toFive (o := some 10) (d := 8) (l := l ++ [i]) (Nat.le_refl 3) rfl rfl rfl (.inr ⟨10, _, rfl, by rw [List.length_append]; rfl, nrow_app l i⟩) (T := tm23 2 (l ++ [i]).length) ?_ ?_
          · rw [List.length_append]; (repeat' (first | with_reducible exact VwL.nil | with_reducible refine VwL.cons ?_ ?_ | with_reducible exact Vw.anyI | with_reducible exact Vw.strI | with_reducible exact Vw.boolI | with_reducible exact Vw.intI | with_reducible exact Vw.nilsI | exact Vw.ptrI (by simp) rfl | exact Vw.slI (by simp) rfl | with_reducible refine Vw.aggI ?_ | exact Vw.gndI rfl))
          · refine ⟨g, Nat.lt_succ_self g, .inl ⟨a2, N2, l ++ [i], ts ++ [t], by omega, hS, ?_, rfl⟩⟩
            rw [hW2]
            show (bif begins (hbI s a2) then _ else _) = _
            rw [hb]; rfl
        · have hb : begins (hbI s a2) = false := by simp [begins, h1, h2, h3, h4]
          refine toFive (o := some 10) (d := 8) (l := l ++ [i]) (Nat.le_refl 3) rfl rfl rfl (.inr ⟨10, _, rfl, by rw [List.length_append]; rfl, nrow_app l i⟩) (T := tm23 2 (l ++ [i]).length) ?_ ?_
          · rw [List.length_append]; (repeat' (first | with_reducible exact VwL.nil | with_reducible refine VwL.cons ?_ ?_ | with_reducible exact Vw.anyI | with_reducible exact Vw.strI | with_reducible exact Vw.boolI | with_reducible exact Vw.intI | with_reducible exact Vw.nilsI | exact Vw.ptrI (by simp) rfl | exact Vw.slI (by simp) rfl | with_reducible refine Vw.aggI ?_ | exact Vw.gndI rfl))
          · refine hok (ts ++ [t]) (l ++ [i]) a2 N2 F2 ?_ (by simp) hS
            rw [hW2]
            show (bif begins (hbI s a2) then _ else _) = _
            rw [hb]; rfl
      · intro a' e hpt p' N2 v F2 hp' ho
        have hp' : p' ≤ 200000 := hp'
        have hz := hnz a1 a' e hpt
        obtain ⟨e0, rfl⟩ : ∃ e0, e = e0 + 1 := ⟨e - 1, by omega⟩
        have hrE := ho.room
        have hE : RErr s a N F N2 F2 := ⟨hI.mo.trans ho.mo, ho.nf, hI.up.trans ho.up, by omega⟩
        rw [capN (by omega)]
        have hW2 : LpI s begins 0 4 part a = .err a' (e0 + 1) := by rw [hW, hpt]; rfl
        refine ⟨show (0 : Int) ≤ (p' : Int) - 0 by omega, hcB (fun h1 => ?_) fun h1 => hcB (fun h2 => ?_) fun h2 => hcB (fun h3 => ?_) fun h3 => hcB (fun h4 => ?_) fun h4 => ?_⟩
        · refine toBad (d := 8) (Nat.le_refl 3) rfl rfl rfl (T := tm23b 2) ?_ ?_
          · (repeat' (first | with_reducible exact VwL.nil | with_reducible refine VwL.cons ?_ ?_ | with_reducible exact Vw.anyI | with_reducible exact Vw.strI | with_reducible exact Vw.boolI | with_reducible exact Vw.intI | with_reducible exact Vw.nilsI | exact Vw.ptrI (by simp) rfl | exact Vw.slI (by simp) rfl | with_reducible refine Vw.aggI ?_ | exact Vw.gndI rfl))
          · exact ⟨g, Nat.lt_succ_self g, .inr ⟨a', e0, p', N2, hW2, by omega, hE, rfl⟩⟩
        · refine toBad (d := 8) (Nat.le_refl 3) rfl rfl rfl (T := tm23b 2) ?_ ?_
          · (repeat' (first | with_reducible exact VwL.nil | with_reducible refine VwL.cons ?_ ?_ | with_reducible exact Vw.anyI | with_reducible exact Vw.strI | with_reducible exact Vw.boolI | with_reducible exact Vw.intI | with_reducible exact Vw.nilsI | exact Vw.ptrI (by simp) rfl | exact Vw.slI (by simp) rfl | with_reducible refine Vw.aggI ?_ | exact Vw.gndI rfl))
          · exact ⟨g, Nat.lt_succ_self g, .inr ⟨a', e0, p', N2, hW2, by omega, hE, rfl⟩⟩
        · refine toBad (d := 8) (Nat.le_refl 3) rfl rfl rfl (T := tm23b 2) ?_ ?_
          · (repeat' (first | with_reducible exact VwL.nil | with_reducible refine VwL.cons ?_ ?_ | with_reducible exact Vw.anyI | with_reducible exact Vw.strI | with_reducible exact Vw.boolI | with_reducible exact Vw.intI | with_reducible exact Vw.nilsI | exact Vw.ptrI (by simp) rfl | exact Vw.slI (by simp) rfl | with_reducible refine Vw.aggI ?_ | exact Vw.gndI rfl))
          · exact ⟨g, Nat.lt_succ_self g, .inr ⟨a', e0, p', N2, hW2, by omega, hE, rfl⟩⟩
        · refine toBad (d := 8) (Nat.le_refl 3) rfl rfl rfl (T := tm23b 2) ?_ ?_
          · (repeat' (first | with_reducible exact VwL.nil | with_reducible refine VwL.cons ?_ ?_ | with_reducible exact Vw.anyI | with_reducible exact Vw.strI | with_reducible exact Vw.boolI | with_reducible exact Vw.intI | with_reducible exact Vw.nilsI | exact Vw.ptrI (by simp) rfl | exact Vw.slI (by simp) rfl | with_reducible refine Vw.aggI ?_ | exact Vw.gndI rfl))
          · exact ⟨g, Nat.lt_succ_self g, .inr ⟨a', e0, p', N2, hW2, by omega, hE, rfl⟩⟩
        · refine toBad (d := 8) (Nat.le_refl 3) rfl rfl rfl (T := tm23b 2) ?_ ?_
          · (repeat' (first | with_reducible exact VwL.nil | with_reducible refine VwL.cons ?_ ?_ | with_reducible exact Vw.anyI | with_reducible exact Vw.strI | with_reducible exact Vw.boolI | with_reducible exact Vw.intI | with_reducible exact Vw.nilsI | exact Vw.ptrI (by simp) rfl | exact Vw.slI (by simp) rfl | with_reducible refine Vw.aggI ?_ | exact Vw.gndI rfl))
          · exact herr a' (e0 + 1) p' N2 F2 hW2 (by omega) hp' hE
    · refine SafeX.by mixed (env23_ok hP) (f := 23) (fi := fi23) (i := 0) (by kernel_rfl) (b := .loop (loopOf fi23 0)) (by kernel_rfl) (subs_loop _) 1000 (vr23b_2 R s p' n e (a' : Nat) root N1 part _ F1) ?_
      refine toBad (d := 3) (Nat.le_refl 3) rfl rfl rfl (T := tm23b 2) ?_ ?_
      · (repeat' (first | with_reducible exact VwL.nil | with_reducible refine VwL.cons ?_ ?_ | with_reducible exact Vw.anyI | with_reducible exact Vw.strI | with_reducible exact Vw.boolI | with_reducible exact Vw.intI | with_reducible exact Vw.nilsI | exact Vw.ptrI (by simp) rfl | exact Vw.slI (by simp) rfl | with_reducible refine Vw.aggI ?_ | exact Vw.gndI rfl))
      · exact herr a' (e + 1) p' N1 F1 hW (by omega) hp' hE
theorem loop23_1 {R : Nat → RoRow} {s : List UInt8} {n : Nat} {part : Nat → PR} (HP : HPt) (hP : ∀ args h k F, spec23 s n 2 part args h k F → SafeCallX Try.prog R 23 args h F k HP) (hnz : ∀ a, NZ (part a)) (hG : Goes s part) (hn : n ≤ 16) :
    ∀ st k F, lp23 1 s n 6 (LpI s (fun c => c == 38) 1 6 part) st k F → SafeX Try.prog R [] (.block 0 (.loop (loopOf fi23 0))) st F k HP := by
  rintro ⟨TM, rows⟩ k F ⟨h0, h1, h2, h3, h4, root, N, a, hr, hin, hok, herr⟩
  simp only at h0 h1 h2 h3 h4 hr
  subst hr
  have hs := hin.sm
  have hle := hin.le
  have hR := hin.room
  refine SafeX.loop_block (Inv := fun m st F' => (∃ a1 N1 l ts, s.length + 1 ≤ m + a1 ∧ RLs s a N F ts a1 N1 l F' ∧ LpI s (fun c => c == 38) 1 6 part a = ((part a1).bind fun t a2 => (Lp s (fun c => c == 38) 1 6 part m (ts ++ [t]) a2)) ∧ st = fam23 1 s a1 n 0 0 root N1 l) ∨ (∃ a' e p' N1, LpI s (fun c => c == 38) 1 6 part a = .err a' (e + 1) ∧ p' ≤ 200000 ∧ RErr s a N F N1 F' ∧ st = famB 1 s p' n (a' : Nat) ((e + 1 : Nat) : Int) root N1)) ?_ ?_
  · refine toFive (o := none) (d := 2) (l := []) (Nat.le_refl 3) rfl rfl rfl (.inl ⟨rfl, rfl⟩) (T := tm23 1 0) ?_ ?_
    · rw [tm23_spr]
      exact VwL.ofKnown h0 ⟨by rw [h1]; exact Vw.ptrI (by simp) rfl, by rw [h2]; exact Vw.ptrI (by simp) rfl, by rw [h3]; exact Vw.intI, by rw [h4]; simp only [Vw]; exact ⟨by simp, .inr ⟨rfl, trivial, by simp [CpOK], trivial⟩⟩, trivial⟩
    · exact ⟨s.length + 1, .inl ⟨a, N, [], [], by omega, ⟨Mo.refl N, hin.nf, Up.refl F, by simp only [TrNs], hle, by simp⟩, rfl, rfl⟩⟩
  · rintro m st' F1 (⟨a1, N1, l, ts, hm, hI, hW, rfl⟩ | ⟨a', e, p', N1, hW, hp', hE, rfl⟩)
    · have ha1 := hI.le
      have hrm := hI.room
      have hl1 : l.length = ts.length := (hI.tr.len).symm
      obtain ⟨g, rfl⟩ : ∃ g, m = g + 1 := ⟨m - 1, by omega⟩
      refine SafeX.by mixed (env23_ok hP) (f := 23) (fi := fi23) (i := 0) (by kernel_rfl) (b := .loop (loopOf fi23 0)) (by kernel_rfl) (subs_loop _) 1000 (vr23_1 R s a1 n root N1 l part _ F1) ?_
      refine ⟨rfl, hn, N1, a1, rfl, rfl, rfl, rfl, rfl, rfl, rfl, ⟨hI.nf, ha1, hs, by omega⟩, ?_, ?_⟩
      · intro t a2 hpt N2 i F2 ho
        have hg := (hG _ ha1 _ _ hpt).2
        have hfar := ho.far ha1
        have hS := hI.snoc ho hg
        rw [capN (by omega)]
        have hW2 : LpI s (fun c => c == 38) 1 6 part a = (Lp s (fun c => c == 38) 1 6 part (g + 1) (ts ++ [t]) a2) := by rw [hW, hpt]; rfl
        refine ⟨show (0 : Int) ≤ (a2 : Int) - 0 by omega, hcB (fun hc => ?_) fun hc => ?_⟩
        · have hlt := hb_lt hc (by decide)
          rw [wrapSucc a2 (by omega)]
          refine toFive (o := some 10) (d := 8) (l := l ++ [i]) (Nat.le_refl 3) rfl rfl rfl (.inr ⟨10, _, rfl, by rw [List.length_append]; rfl, nrow_app l i⟩) (T := tm23 1 (l ++ [i]).length) ?_ ?_
          · rw [List.length_append]; (repeat' (first | with_reducible exact VwL.nil | with_reducible refine VwL.cons ?_ ?_ | with_reducible exact Vw.anyI | with_reducible exact Vw.strI | with_reducible exact Vw.boolI | with_reducible exact Vw.intI | with_reducible exact Vw.nilsI | exact Vw.ptrI (by simp) rfl | exact Vw.slI (by simp) rfl | with_reducible refine Vw.aggI ?_ | exact Vw.gndI rfl))
          · refine ⟨g, Nat.lt_succ_self g, .inl ⟨a2 + 1, N2, l ++ [i], ts ++ [t], by omega, hS.step (by omega) hlt, ?_, rfl⟩⟩
            rw [hW2]
            show (bif hbI s a2 == 38 then _ else _) = _
            rw [hc]; rfl
        · refine toFive (o := some 10) (d := 8) (l := l ++ [i]) (Nat.le_refl 3) rfl rfl rfl (.inr ⟨10, _, rfl, by rw [List.length_append]; rfl, nrow_app l i⟩) (T := tm23 1 (l ++ [i]).length) ?_ ?_
          · rw [List.length_append]; (repeat' (first | with_reducible exact VwL.nil | with_reducible refine VwL.cons ?_ ?_ | with_reducible exact Vw.anyI | with_reducible exact Vw.strI | with_reducible exact Vw.boolI | with_reducible exact Vw.intI | with_reducible exact Vw.nilsI | exact Vw.ptrI (by simp) rfl | exact Vw.slI (by simp) rfl | with_reducible refine Vw.aggI ?_ | exact Vw.gndI rfl))
          · refine hok (ts ++ [t]) (l ++ [i]) a2 N2 F2 ?_ (by simp) hS
            rw [hW2]
            show (bif hbI s a2 == 38 then _ else _) = _
            rw [hc]; rfl
      · intro a' e hpt p' N2 v F2 hp' ho
        have hp' : p' ≤ 200000 := hp'
        have hz := hnz a1 a' e hpt
        obtain ⟨e0, rfl⟩ : ∃ e0, e = e0 + 1 := ⟨e - 1, by omega⟩
        have hrE := ho.room
        have hE : RErr s a N F N2 F2 := ⟨hI.mo.trans ho.mo, ho.nf, hI.up.trans ho.up, by omega⟩
        rw [capN (by omega)]
        have hW2 : LpI s (fun c => c == 38) 1 6 part a = .err a' (e0 + 1) := by rw [hW, hpt]; rfl
        refine ⟨show (0 : Int) ≤ (p' : Int) - 0 by omega, hcB (fun hc => ?_) fun hc => ?_⟩
        · have hlt := hb_lt hc (by decide)
          rw [wrapSucc p' (by omega)]
          refine toBad (d := 8) (Nat.le_refl 3) rfl rfl rfl (T := tm23b 1) ?_ ?_
          · (repeat' (first | with_reducible exact VwL.nil | with_reducible refine VwL.cons ?_ ?_ | with_reducible exact Vw.anyI | with_reducible exact Vw.strI | with_reducible exact Vw.boolI | with_reducible exact Vw.intI | with_reducible exact Vw.nilsI | exact Vw.ptrI (by simp) rfl | exact Vw.slI (by simp) rfl | with_reducible refine Vw.aggI ?_ | exact Vw.gndI rfl))
          · exact ⟨g, Nat.lt_succ_self g, .inr ⟨a', e0, p' + 1, N2, hW2, by omega, hE, rfl⟩⟩
        · refine toBad (d := 8) (Nat.le_refl 3) rfl rfl rfl (T := tm23b 1) ?_ ?_
          · (repeat' (first | with_reducible exact VwL.nil | with_reducible refine VwL.cons ?_ ?_ | with_reducible exact Vw.anyI | with_reducible exact Vw.strI | with_reducible exact Vw.boolI | with_reducible exact Vw.intI | with_reducible exact Vw.nilsI | exact Vw.ptrI (by simp) rfl | exact Vw.slI (by simp) rfl | with_reducible refine Vw.aggI ?_ | exact Vw.gndI rfl))
          · exact herr a' (e0 + 1) p' N2 F2 hW2 (by omega) hp' hE
    · refine SafeX.by mixed (env23_ok hP) (f := 23) (fi := fi23) (i := 0) (by kernel_rfl) (b := .loop (loopOf fi23 0)) (by kernel_rfl) (subs_loop _) 1000 (vr23b_1 R s p' n e (a' : Nat) root N1 part _ F1) ?_
      refine toBad (d := 3) (Nat.le_refl 3) rfl rfl rfl (T := tm23b 1) ?_ ?_
      · (repeat' (first | with_reducible exact VwL.nil | with_reducible refine VwL.cons ?_ ?_ | with_reducible exact Vw.anyI | with_reducible exact Vw.strI | with_reducible exact Vw.boolI | with_reducible exact Vw.intI | with_reducible exact Vw.nilsI | exact Vw.ptrI (by simp) rfl | exact Vw.slI (by simp) rfl | with_reducible refine Vw.aggI ?_ | exact Vw.gndI rfl))
      · exact herr a' (e + 1) p' N1 F1 hW (by omega) hp' hE
theorem loop23_0 {R : Nat → RoRow} {s : List UInt8} {n : Nat} {part : Nat → PR} (HP : HPt) (hP : ∀ args h k F, spec23 s n 1 part args h k F → SafeCallX Try.prog R 23 args h F k HP) (hnz : ∀ a, NZ (part a)) (hG : Goes s part) (hn : n ≤ 16) :
    ∀ st k F, lp23 0 s n 5 (LpI s (fun c => c == 124) 1 5 part) st k F → SafeX Try.prog R [] (.block 0 (.loop (loopOf fi23 0))) st F k HP := by
  rintro ⟨TM, rows⟩ k F ⟨h0, h1, h2, h3, h4, root, N, a, hr, hin, hok, herr⟩
  simp only at h0 h1 h2 h3 h4 hr
  subst hr
  have hs := hin.sm
  have hle := hin.le
  have hR := hin.room
  refine SafeX.loop_block (Inv := fun m st F' => (∃ a1 N1 l ts, s.length + 1 ≤ m + a1 ∧ RLs s a N F ts a1 N1 l F' ∧ LpI s (fun c => c == 124) 1 5 part a = ((part a1).bind fun t a2 => (Lp s (fun c => c == 124) 1 5 part m (ts ++ [t]) a2)) ∧ st = fam23 0 s a1 n 0 0 root N1 l) ∨ (∃ a' e p' N1, LpI s (fun c => c == 124) 1 5 part a = .err a' (e + 1) ∧ p' ≤ 200000 ∧ RErr s a N F N1 F' ∧ st = famB 0 s p' n (a' : Nat) ((e + 1 : Nat) : Int) root N1)) ?_ ?_
  · refine toFive (o := none) (d := 2) (l := []) (Nat.le_refl 3) rfl rfl rfl (.inl ⟨rfl, rfl⟩) (T := tm23 0 0) ?_ ?_
    · rw [tm23_spr]
      exact VwL.ofKnown h0 ⟨by rw [h1]; exact Vw.ptrI (by simp) rfl, by rw [h2]; exact Vw.ptrI (by simp) rfl, by rw [h3]; exact Vw.intI, by rw [h4]; simp only [Vw]; exact ⟨by simp, .inr ⟨rfl, trivial, by simp [CpOK], trivial⟩⟩, trivial⟩
    · exact ⟨s.length + 1, .inl ⟨a, N, [], [], by omega, ⟨Mo.refl N, hin.nf, Up.refl F, by simp only [TrNs], hle, by simp⟩, rfl, rfl⟩⟩
  · rintro m st' F1 (⟨a1, N1, l, ts, hm, hI, hW, rfl⟩ | ⟨a', e, p', N1, hW, hp', hE, rfl⟩)
    · have ha1 := hI.le
      have hrm := hI.room
      have hl1 : l.length = ts.length := (hI.tr.len).symm
      obtain ⟨g, rfl⟩ : ∃ g, m = g + 1 := ⟨m - 1, by omega⟩
      refine SafeX.by mixed (env23_ok hP) (f := 23) (fi := fi23) (i := 0) (by kernel_rfl) (b := .loop (loopOf fi23 0)) (by kernel_rfl) (subs_loop _) 1000 (vr23_0 R s a1 n root N1 l part _ F1) ?_
      refine ⟨rfl, hn, N1, a1, rfl, rfl, rfl, rfl, rfl, rfl, rfl, ⟨hI.nf, ha1, hs, by omega⟩, ?_, ?_⟩
      · intro t a2 hpt N2 i F2 ho
        have hg := (hG _ ha1 _ _ hpt).2
        have hfar := ho.far ha1
        have hS := hI.snoc ho hg
        rw [capN (by omega)]
        have hW2 : LpI s (fun c => c == 124) 1 5 part a = (Lp s (fun c => c == 124) 1 5 part (g + 1) (ts ++ [t]) a2) := by rw [hW, hpt]; rfl
        refine ⟨show (0 : Int) ≤ (a2 : Int) - 0 by omega, hcB (fun hc => ?_) fun hc => ?_⟩
        · have hlt := hb_lt hc (by decide)
          rw [wrapSucc a2 (by omega)]
          refine toFive (o := some 10) (d := 8) (l := l ++ [i]) (Nat.le_refl 3) rfl rfl rfl (.inr ⟨10, _, rfl, by rw [List.length_append]; rfl, nrow_app l i⟩) (T := tm23 0 (l ++ [i]).length) ?_ ?_
          · rw [List.length_append]; (repeat' (first | with_reducible exact VwL.nil | with_reducible refine VwL.cons ?_ ?_ | with_reducible exact Vw.anyI | with_reducible exact Vw.strI | with_reducible exact Vw.boolI | with_reducible exact Vw.intI | with_reducible exact Vw.nilsI | exact Vw.ptrI (by simp) rfl | exact Vw.slI (by simp) rfl | with_reducible refine Vw.aggI ?_ | exact Vw.gndI rfl))
          · refine ⟨g, Nat.lt_succ_self g, .inl ⟨a2 + 1, N2, l ++ [i], ts ++ [t], by omega, hS.step (by omega) hlt, ?_, rfl⟩⟩
            rw [hW2]
            show (bif hbI s a2 == 124 then _ else _) = _
            rw [hc]; rfl
        · refine toFive (o := some 10) (d := 8) (l := l ++ [i]) (Nat.le_refl 3) rfl rfl rfl (.inr ⟨10, _, rfl, by rw [List.length_append]; rfl, nrow_app l i⟩) (T := tm23 0 (l ++ [i]).length) ?_ ?_
          · rw [List.length_append]; (repeat' (first | with_reducible exact VwL.nil | with_reducible refine VwL.cons ?_ ?_ | with_reducible exact Vw.anyI | with_reducible exact Vw.strI | with_reducible exact Vw.boolI | with_reducible exact Vw.intI | with_reducible exact Vw.nilsI | exact Vw.ptrI (by simp) rfl | exact Vw.slI (by simp) rfl | with_reducible refine Vw.aggI ?_ | exact Vw.gndI rfl))
          · refine hok (ts ++ [t]) (l ++ [i]) a2 N2 F2 ?_ (by simp) hS
            rw [hW2]
            show (bif hbI s a2 == 124 then _ else _) = _
            rw [hc]; rfl
      · intro a' e hpt p' N2 v F2 hp' ho
        have hp' : p' ≤ 200000 := hp'
        have hz := hnz a1 a' e hpt
        obtain ⟨e0, rfl⟩ : ∃ e0, e = e0 + 1 := ⟨e - 1, by omega⟩
        have hrE := ho.room
        have hE : RErr s a N F N2 F2 := ⟨hI.mo.trans ho.mo, ho.nf, hI.up.trans ho.up, by omega⟩
        rw [capN (by omega)]
        have hW2 : LpI s (fun c => c == 124) 1 5 part a = .err a' (e0 + 1) := by rw [hW, hpt]; rfl
        refine ⟨show (0 : Int) ≤ (p' : Int) - 0 by omega, hcB (fun hc => ?_) fun hc => ?_⟩
        · have hlt := hb_lt hc (by decide)
          rw [wrapSucc p' (by omega)]
          refine toBad (d := 8) (Nat.le_refl 3) rfl rfl rfl (T := tm23b 0) ?_ ?_
          · (repeat' (first | with_reducible exact VwL.nil | with_reducible refine VwL.cons ?_ ?_ | with_reducible exact Vw.anyI | with_reducible exact Vw.strI | with_reducible exact Vw.boolI | with_reducible exact Vw.intI | with_reducible exact Vw.nilsI | exact Vw.ptrI (by simp) rfl | exact Vw.slI (by simp) rfl | with_reducible refine Vw.aggI ?_ | exact Vw.gndI rfl))
          · exact ⟨g, Nat.lt_succ_self g, .inr ⟨a', e0, p' + 1, N2, hW2, by omega, hE, rfl⟩⟩
        · refine toBad (d := 8) (Nat.le_refl 3) rfl rfl rfl (T := tm23b 0) ?_ ?_
          · (repeat' (first | with_reducible exact VwL.nil | with_reducible refine VwL.cons ?_ ?_ | with_reducible exact Vw.anyI | with_reducible exact Vw.strI | with_reducible exact Vw.boolI | with_reducible exact Vw.intI | with_reducible exact Vw.nilsI | exact Vw.ptrI (by simp) rfl | exact Vw.slI (by simp) rfl | with_reducible refine Vw.aggI ?_ | exact Vw.gndI rfl))
          · exact herr a' (e0 + 1) p' N2 F2 hW2 (by omega) hp' hE
    · refine SafeX.by mixed (env23_ok hP) (f := 23) (fi := fi23) (i := 0) (by kernel_rfl) (b := .loop (loopOf fi23 0)) (by kernel_rfl) (subs_loop _) 1000 (vr23b_0 R s p' n e (a' : Nat) root N1 part _ F1) ?_
      refine toBad (d := 3) (Nat.le_refl 3) rfl rfl rfl (T := tm23b 0) ?_ ?_
      · (repeat' (first | with_reducible exact VwL.nil | with_reducible refine VwL.cons ?_ ?_ | with_reducible exact Vw.anyI | with_reducible exact Vw.strI | with_reducible exact Vw.boolI | with_reducible exact Vw.intI | with_reducible exact Vw.nilsI | exact Vw.ptrI (by simp) rfl | exact Vw.slI (by simp) rfl | with_reducible refine Vw.aggI ?_ | exact Vw.gndI rfl))
      · exact herr a' (e + 1) p' N1 F1 hW (by omega) hp' hE
end Go.Dc.Ke
end
section
set_option linter.unusedVariables false
set_option linter.unusedSimpArgs false
namespace Go.Dc.Ke
open Go.Proofs Go.RowKit Go.Shelf
set_option maxRecDepth 100000
theorem vc23_2 (R : Nat → RoRow) (s : List UInt8) (a n : Nat) (root : Int) (N : List NE) (part : Nat → PR) (k : AV → Rows → Fz → Prop) (F : Fz) : vcx ((env23 R s n 3 part).addLoop 23 0 (lp23 2 s n 4 (LpI s begins 0 4 part))) 1000 23 fi23 [.ptr false 0 0 0, .ptr false 1 0 0, .int .i64 2] [some (rrow s (a : Nat) (n : Nat) 0 0), some (trow 2 N.length root), some (arow N)] k F = (∃ (a_1 : Nat), (↑a : Int) = (↑a_1 : Int) ∧ s.length.le 100000 ∧ 98 = 98 ∧ AV.ptr false 0 0 0 = AV.ptr false 0 0 0 ∧ AV.ptr false 1 0 0 = AV.ptr false 1 0 0 ∧ AV.int IntKind.i64 (2 : Int) = AV.int IntKind.i64 2 ∧ AV.nils = AV.nils ∧ ∃ (root_1 : Int), ∃ (N_1 : List NE), ∃ (a : Nat), [some (Row.lst 57 5 [AV.agg [AV.str s, AV.int IntKind.i64 (↑(blk s a_1) : Int), AV.int IntKind.i64 (↑n : Int), AV.int IntKind.i64 0, AV.int IntKind.i64 0]]), some (Row.lst 35 2 [AV.agg [AV.sl false 2 0 N.length Cp.no, AV.int IntKind.i64 root]]), some (Row.gen 62 3 N.length fun (i : Nat) => neV (N.getD i dN))] = [some (Row.lst 57 5 [AV.agg [AV.str s, AV.int IntKind.i64 (↑a : Int), AV.int IntKind.i64 (↑n : Int), AV.int IntKind.i64 0, AV.int IntKind.i64 0]]), some (Row.lst 35 2 [AV.agg [AV.sl false 2 0 N_1.length Cp.no, AV.int IntKind.i64 root_1]]), some (Row.gen 62 3 N_1.length fun (i : Nat) => neV (N_1.getD i dN))] ∧ RIn s a N_1 F ∧ (∀ (ts : List Tr) (l : List Nat) (a1 : Nat) (N' : List NE) (F' : Fz), LpI s begins 0 4 part a = PR.ok (rowT 4 ts) a1 → (ts = [] → False) → RLs s a N_1 F ts a1 N' l F' → bif (↑l.length : Int) == 1 then bif true && decide (0 < (↑l.length : Int)) then bif decide (0 < l.length) then k (AV.int IntKind.i64 (↑(l.getD 0 0) : Int)) [some (Row.lst 57 5 [AV.agg [AV.str s, AV.int IntKind.i64 (↑a1 : Int), AV.int IntKind.i64 (↑n : Int), AV.int IntKind.i64 0, AV.int IntKind.i64 0]]), some (Row.lst 35 2 [AV.agg [AV.sl false 3 0 N'.length Cp.no, AV.int IntKind.i64 root_1]]), none, some (Row.gen 62 3 N'.length fun (i : Nat) => neV (N'.getD i dN)), some (Row.gen 3 1 l.length fun (i : Nat) => AV.int IntKind.i64 (↑(l.getD i 0) : Int))] F' else False else False else ∃ (r : Row), ∃ (kids : List Nat), some (Row.gen 3 1 l.length fun (i : Nat) => AV.int IntKind.i64 (↑(l.getD i 0) : Int)) = some r ∧ RoOf r (RoRow.mk 3 1 kids.length fun (i : Nat) => AV.int IntKind.i64 (↑(kids.getD i 0) : Int)) ∧ l.length = kids.length ∧ ∀ (F'_1 : Fz) (x : Nat), Up F' F'_1 → FrK F'_1 x kids → ∃ (N : List NE), N'.length = N.length ∧ some (Row.gen 62 3 N'.length fun (i : Nat) => tkE 4 x (AV.agg [AV.int IntKind.i64 (N'.getD i dN).kd, AV.str (N'.getD i dN).w, AV.sl true ((N'.getD i dN).x + 15) 0 (N'.getD i dN).kids.length Cp.no])) = some (Row.gen 62 3 N.length fun (i : Nat) => neV (N.getD i dN)) ∧ N.length.le 100000 ∧ k (AV.int IntKind.i64 (↑N.length : Int)) [some (Row.lst 57 5 [AV.agg [AV.str s, AV.int IntKind.i64 (↑a1 : Int), AV.int IntKind.i64 (↑n : Int), AV.int IntKind.i64 0, AV.int IntKind.i64 0]]), some (Row.lst 35 2 [AV.agg [AV.sl false 8 0 (N ++ [NE.mk 4 [] kids x]).length Cp.no, AV.int IntKind.i64 root_1]]), none, none, none, some (Row.lst 3 1 [AV.int IntKind.i64 5, AV.int IntKind.i64 6, AV.int IntKind.i64 4]), none, none, some (Row.gen 62 3 (N ++ [NE.mk 4 [] kids x]).length fun (i : Nat) => neV ((N ++ [NE.mk 4 [] kids x]).getD i dN))] F'_1) ∧ ∀ (a' e p' : Nat) (N' : List NE) (F' : Fz), LpI s begins 0 4 part a = PR.err a' e → (e = 0 → False) → p'.le 200000 → RErr s a N_1 F N' F' → bif (↑e : Int) != 0 then k (AV.int IntKind.i64 (-1)) [some (Row.lst 57 5 [AV.agg [AV.str s, AV.int IntKind.i64 (↑p' : Int), AV.int IntKind.i64 (↑n : Int), AV.int IntKind.i64 (↑a' : Int), AV.int IntKind.i64 (↑e : Int)]]), some (Row.lst 35 2 [AV.agg [AV.sl false 3 0 N'.length Cp.no, AV.int IntKind.i64 root_1]]), none, some (Row.gen 62 3 N'.length fun (i : Nat) => neV (N'.getD i dN))] F' else False) := by kernel_rfl
theorem vc23_1 (R : Nat → RoRow) (s : List UInt8) (a n : Nat) (root : Int) (N : List NE) (part : Nat → PR) (k : AV → Rows → Fz → Prop) (F : Fz) : vcx ((env23 R s n 2 part).addLoop 23 0 (lp23 1 s n 6 (LpI s (fun c => c == 38) 1 6 part))) 1000 23 fi23 [.ptr false 0 0 0, .ptr false 1 0 0, .int .i64 1] [some (rrow s (a : Nat) (n : Nat) 0 0), some (trow 2 N.length root), some (arow N)] k F = (98 = 98 ∧ AV.ptr false 0 0 0 = AV.ptr false 0 0 0 ∧ AV.ptr false 1 0 0 = AV.ptr false 1 0 0 ∧ AV.int IntKind.i64 (1 : Int) = AV.int IntKind.i64 1 ∧ AV.nils = AV.nils ∧ ∃ (root_1 : Int), ∃ (N_1 : List NE), ∃ (a_1 : Nat), [some (Row.lst 57 5 [AV.agg [AV.str s, AV.int IntKind.i64 (↑a : Int), AV.int IntKind.i64 (↑n : Int), AV.int IntKind.i64 0, AV.int IntKind.i64 0]]), some (Row.lst 35 2 [AV.agg [AV.sl false 2 0 N.length Cp.no, AV.int IntKind.i64 root]]), some (Row.gen 62 3 N.length fun (i : Nat) => neV (N.getD i dN))] = [some (Row.lst 57 5 [AV.agg [AV.str s, AV.int IntKind.i64 (↑a_1 : Int), AV.int IntKind.i64 (↑n : Int), AV.int IntKind.i64 0, AV.int IntKind.i64 0]]), some (Row.lst 35 2 [AV.agg [AV.sl false 2 0 N_1.length Cp.no, AV.int IntKind.i64 root_1]]), some (Row.gen 62 3 N_1.length fun (i : Nat) => neV (N_1.getD i dN))] ∧ RIn s a_1 N_1 F ∧ (∀ (ts : List Tr) (l : List Nat) (a1 : Nat) (N' : List NE) (F' : Fz), LpI s (fun (c : Int) => c == 38) 1 6 part a_1 = PR.ok (rowT 6 ts) a1 → (ts = [] → False) → RLs s a_1 N_1 F ts a1 N' l F' → bif (↑l.length : Int) == 1 then bif true && decide (0 < (↑l.length : Int)) then bif decide (0 < l.length) then k (AV.int IntKind.i64 (↑(l.getD 0 0) : Int)) [some (Row.lst 57 5 [AV.agg [AV.str s, AV.int IntKind.i64 (↑a1 : Int), AV.int IntKind.i64 (↑n : Int), AV.int IntKind.i64 0, AV.int IntKind.i64 0]]), some (Row.lst 35 2 [AV.agg [AV.sl false 3 0 N'.length Cp.no, AV.int IntKind.i64 root_1]]), none, some (Row.gen 62 3 N'.length fun (i : Nat) => neV (N'.getD i dN)), some (Row.gen 3 1 l.length fun (i : Nat) => AV.int IntKind.i64 (↑(l.getD i 0) : Int))] F' else False else False else ∃ (r : Row), ∃ (kids : List Nat), some (Row.gen 3 1 l.length fun (i : Nat) => AV.int IntKind.i64 (↑(l.getD i 0) : Int)) = some r ∧ RoOf r (RoRow.mk 3 1 kids.length fun (i : Nat) => AV.int IntKind.i64 (↑(kids.getD i 0) : Int)) ∧ l.length = kids.length ∧ ∀ (F'_1 : Fz) (x : Nat), Up F' F'_1 → FrK F'_1 x kids → ∃ (N : List NE), N'.length = N.length ∧ some (Row.gen 62 3 N'.length fun (i : Nat) => tkE 4 x (AV.agg [AV.int IntKind.i64 (N'.getD i dN).kd, AV.str (N'.getD i dN).w, AV.sl true ((N'.getD i dN).x + 15) 0 (N'.getD i dN).kids.length Cp.no])) = some (Row.gen 62 3 N.length fun (i : Nat) => neV (N.getD i dN)) ∧ N.length.le 100000 ∧ k (AV.int IntKind.i64 (↑N.length : Int)) [some (Row.lst 57 5 [AV.agg [AV.str s, AV.int IntKind.i64 (↑a1 : Int), AV.int IntKind.i64 (↑n : Int), AV.int IntKind.i64 0, AV.int IntKind.i64 0]]), some (Row.lst 35 2 [AV.agg [AV.sl false 8 0 (N ++ [NE.mk 6 [] kids x]).length Cp.no, AV.int IntKind.i64 root_1]]), none, none, none, some (Row.lst 3 1 [AV.int IntKind.i64 5, AV.int IntKind.i64 6, AV.int IntKind.i64 4]), none, none, some (Row.gen 62 3 (N ++ [NE.mk 6 [] kids x]).length fun (i : Nat) => neV ((N ++ [NE.mk 6 [] kids x]).getD i dN))] F'_1) ∧ ∀ (a' e p' : Nat) (N' : List NE) (F' : Fz), LpI s (fun (c : Int) => c == 38) 1 6 part a_1 = PR.err a' e → (e = 0 → False) → p'.le 200000 → RErr s a_1 N_1 F N' F' → bif (↑e : Int) != 0 then k (AV.int IntKind.i64 (-1)) [some (Row.lst 57 5 [AV.agg [AV.str s, AV.int IntKind.i64 (↑p' : Int), AV.int IntKind.i64 (↑n : Int), AV.int IntKind.i64 (↑a' : Int), AV.int IntKind.i64 (↑e : Int)]]), some (Row.lst 35 2 [AV.agg [AV.sl false 3 0 N'.length Cp.no, AV.int IntKind.i64 root_1]]), none, some (Row.gen 62 3 N'.length fun (i : Nat) => neV (N'.getD i dN))] F' else False) := by kernel_rfl
theorem vc23_0 (R : Nat → RoRow) (s : List UInt8) (a n : Nat) (root : Int) (N : List NE) (part : Nat → PR) (k : AV → Rows → Fz → Prop) (F : Fz) : vcx ((env23 R s n 1 part).addLoop 23 0 (lp23 0 s n 5 (LpI s (fun c => c == 124) 1 5 part))) 1000 23 fi23 [.ptr false 0 0 0, .ptr false 1 0 0, .int .i64 0] [some (rrow s (a : Nat) (n : Nat) 0 0), some (trow 2 N.length root), some (arow N)] k F = (98 = 98 ∧ AV.ptr false 0 0 0 = AV.ptr false 0 0 0 ∧ AV.ptr false 1 0 0 = AV.ptr false 1 0 0 ∧ AV.int IntKind.i64 (0 : Int) = AV.int IntKind.i64 0 ∧ AV.nils = AV.nils ∧ ∃ (root_1 : Int), ∃ (N_1 : List NE), ∃ (a_1 : Nat), [some (Row.lst 57 5 [AV.agg [AV.str s, AV.int IntKind.i64 (↑a : Int), AV.int IntKind.i64 (↑n : Int), AV.int IntKind.i64 0, AV.int IntKind.i64 0]]), some (Row.lst 35 2 [AV.agg [AV.sl false 2 0 N.length Cp.no, AV.int IntKind.i64 root]]), some (Row.gen 62 3 N.length fun (i : Nat) => neV (N.getD i dN))] = [some (Row.lst 57 5 [AV.agg [AV.str s, AV.int IntKind.i64 (↑a_1 : Int), AV.int IntKind.i64 (↑n : Int), AV.int IntKind.i64 0, AV.int IntKind.i64 0]]), some (Row.lst 35 2 [AV.agg [AV.sl false 2 0 N_1.length Cp.no, AV.int IntKind.i64 root_1]]), some (Row.gen 62 3 N_1.length fun (i : Nat) => neV (N_1.getD i dN))] ∧ RIn s a_1 N_1 F ∧ (∀ (ts : List Tr) (l : List Nat) (a1 : Nat) (N' : List NE) (F' : Fz), LpI s (fun (c : Int) => c == 124) 1 5 part a_1 = PR.ok (rowT 5 ts) a1 → (ts = [] → False) → RLs s a_1 N_1 F ts a1 N' l F' → bif (↑l.length : Int) == 1 then bif true && decide (0 < (↑l.length : Int)) then bif decide (0 < l.length) then k (AV.int IntKind.i64 (↑(l.getD 0 0) : Int)) [some (Row.lst 57 5 [AV.agg [AV.str s, AV.int IntKind.i64 (↑a1 : Int), AV.int IntKind.i64 (↑n : Int), AV.int IntKind.i64 0, AV.int IntKind.i64 0]]), some (Row.lst 35 2 [AV.agg [AV.sl false 3 0 N'.length Cp.no, AV.int IntKind.i64 root_1]]), none, some (Row.gen 62 3 N'.length fun (i : Nat) => neV (N'.getD i dN)), some (Row.gen 3 1 l.length fun (i : Nat) => AV.int IntKind.i64 (↑(l.getD i 0) : Int))] F' else False else False else ∃ (r : Row), ∃ (kids : List Nat), some (Row.gen 3 1 l.length fun (i : Nat) => AV.int IntKind.i64 (↑(l.getD i 0) : Int)) = some r ∧ RoOf r (RoRow.mk 3 1 kids.length fun (i : Nat) => AV.int IntKind.i64 (↑(kids.getD i 0) : Int)) ∧ l.length = kids.length ∧ ∀ (F'_1 : Fz) (x : Nat), Up F' F'_1 → FrK F'_1 x kids → ∃ (N : List NE), N'.length = N.length ∧ some (Row.gen 62 3 N'.length fun (i : Nat) => tkE 4 x (AV.agg [AV.int IntKind.i64 (N'.getD i dN).kd, AV.str (N'.getD i dN).w, AV.sl true ((N'.getD i dN).x + 15) 0 (N'.getD i dN).kids.length Cp.no])) = some (Row.gen 62 3 N.length fun (i : Nat) => neV (N.getD i dN)) ∧ N.length.le 100000 ∧ k (AV.int IntKind.i64 (↑N.length : Int)) [some (Row.lst 57 5 [AV.agg [AV.str s, AV.int IntKind.i64 (↑a1 : Int), AV.int IntKind.i64 (↑n : Int), AV.int IntKind.i64 0, AV.int IntKind.i64 0]]), some (Row.lst 35 2 [AV.agg [AV.sl false 8 0 (N ++ [NE.mk 5 [] kids x]).length Cp.no, AV.int IntKind.i64 root_1]]), none, none, none, some (Row.lst 3 1 [AV.int IntKind.i64 5, AV.int IntKind.i64 6, AV.int IntKind.i64 4]), none, none, some (Row.gen 62 3 (N ++ [NE.mk 5 [] kids x]).length fun (i : Nat) => neV ((N ++ [NE.mk 5 [] kids x]).getD i dN))] F'_1) ∧ ∀ (a' e p' : Nat) (N' : List NE) (F' : Fz), LpI s (fun (c : Int) => c == 124) 1 5 part a_1 = PR.err a' e → (e = 0 → False) → p'.le 200000 → RErr s a_1 N_1 F N' F' → bif (↑e : Int) != 0 then k (AV.int IntKind.i64 (-1)) [some (Row.lst 57 5 [AV.agg [AV.str s, AV.int IntKind.i64 (↑p' : Int), AV.int IntKind.i64 (↑n : Int), AV.int IntKind.i64 (↑a' : Int), AV.int IntKind.i64 (↑e : Int)]]), some (Row.lst 35 2 [AV.agg [AV.sl false 3 0 N'.length Cp.no, AV.int IntKind.i64 root_1]]), none, some (Row.gen 62 3 N'.length fun (i : Nat) => neV (N'.getD i dN))] F' else False) := by kernel_rfl
theorem vc23_3 (R : Nat → RoRow) (s : List UInt8) (a n : Nat) (root : Int) (N : List NE) (part : Nat → PR) (k : AV → Rows → Fz → Prop) (F : Fz) : vcx (env23i R s n part) 1000 23 fi23 [.ptr false 0 0 0, .ptr false 1 0 0, .int .i64 3] [some (rrow s (a : Nat) (n : Nat) 0 0), some (trow 2 N.length root), some (arow N)] k F = (∃ (N_1 : List NE), ∃ (a_1 : Nat), s = s ∧ (↑a : Int) = (↑a_1 : Int) ∧ (↑n : Int) = (↑n : Int) ∧ (0 : Int) = 0 ∧ (0 : Int) = 0 ∧ N.length = N_1.length ∧ some (Row.gen 62 3 N.length fun (i : Nat) => neV (N.getD i dN)) = some (Row.gen 62 3 N_1.length fun (i : Nat) => neV (N_1.getD i dN)) ∧ RIn s a_1 N_1 F ∧ (∀ (t : Tr) (a1 : Nat), part a_1 = PR.ok t a1 → ∀ (N' : List NE) (i : Nat) (F' : Fz), ROk s a_1 N_1 F t a1 N' i F' → k (AV.int IntKind.i64 (↑i : Int)) [some (Row.lst 57 5 [AV.agg [AV.str s, AV.int IntKind.i64 (↑a1 : Int), AV.int IntKind.i64 (↑n : Int), AV.int IntKind.i64 0, AV.int IntKind.i64 0]]), some (Row.lst 35 2 [AV.agg [AV.sl false 6 0 N'.length Cp.no, AV.int IntKind.i64 root]]), none, none, none, none, some (Row.gen 62 3 N'.length fun (i : Nat) => neV (N'.getD i dN))] F') ∧ ∀ (a' e : Nat), part a_1 = PR.err a' e → ∀ (p' : Nat) (N' : List NE) (v : Int) (F' : Fz), p'.le 200000 → RErr s a_1 N_1 F N' F' → k (AV.int IntKind.i64 v) [some (Row.lst 57 5 [AV.agg [AV.str s, AV.int IntKind.i64 (↑p' : Int), AV.int IntKind.i64 (↑n : Int), AV.int IntKind.i64 (↑a' : Int), AV.int IntKind.i64 (↑e : Int)]]), some (Row.lst 35 2 [AV.agg [AV.sl false 6 0 N'.length Cp.no, AV.int IntKind.i64 root]]), none, none, none, none, some (Row.gen 62 3 N'.length fun (i : Nat) => neV (N'.getD i dN))] F') := by kernel_rfl
end Go.Dc.Ke
end
section
set_option linter.unusedVariables false
set_option linter.unusedSimpArgs false
namespace Go.Dc.Ke
open Go.Proofs Go.RowKit Go.Shelf
set_option maxRecDepth 100000
theorem lvl_one {s : List UInt8} {a a2 a1 kd : Nat} {N N' : List NE} {F F' : Fz} {ts : List Tr} {l : List Nat} {r : PR} (h : RLs s a2 N F ts a1 N' l F') (ha : a ≤ a2) (hr : r = .ok (rowT kd ts) a1) (h1 : l.length = 1) : Out s a N F r (.int .i64 ((l.getD 0 0 : Nat) : Int)) (a1 : Nat) 0 0 N' F' := by
  have hl := h.tr.len
  have hm := h.room
  obtain ⟨i, rfl⟩ := List.length_eq_one_iff.1 h1
  obtain ⟨t, rfl⟩ := List.length_eq_one_iff.1 hl
  have ht := h.tr
  simp only [TrNs, and_true] at ht
  exact .ok t a1 i N' F' hr ⟨h.mo, h.nf, h.up, ht, by simp only [List.length_cons, List.length_nil] at hm; omega⟩
theorem rowT_more {kd : Nat} {ts : List Tr} (h : ts.length ≠ 1) : rowT kd ts = .mk kd [] ts := by
  match ts, h with
  | [], _ => rfl
  | [t], h => exact absurd rfl h
  | t :: u :: ts, _ => rfl
theorem lvl_more {s : List UInt8} {a a2 a1 kd x : Nat} {N N' : List NE} {F F' F2 : Fz} {ts : List Tr} {l : List Nat} {r : PR} (h : RLs s a2 N F ts a1 N' l F') (ha : a ≤ a2) (hr : r = .ok (rowT kd ts) a1) (hne : ts = [] → False) (h1 : l.length ≠ 1) (hu : Up F' F2) (hf : FrK F2 x l) : Out s a N F r (.int .i64 (N'.length : Nat)) (a1 : Nat) 0 0 (N' ++ [⟨(kd : Nat), [], l, x⟩]) F2 := by
  have hl := h.tr.len
  have hm := h.room
  rw [rowT_more (by omega)] at hr
  have h2 : 2 ≤ ts.length := by
    match ts, hne with
    | [], hne => exact absurd rfl hne
    | [t], _ => exact absurd (by simpa using hl.symm) h1
    | t :: u :: ts, _ => simp
  exact .ok _ a1 N'.length _ F2 hr ⟨h.mo.trans (Mo.snoc _ _), (h.nf.le hu).snoc hf.fr, h.up.trans hu, trn_new h.tr, by simp only [List.length_append, List.length_cons, List.length_nil]; omega⟩
theorem nrow_ro (l : List Nat) : RoOf (nrow l) (kidN l) := RoOf.gen fun i hi e he => by
  simp only [AV.cells, List.mem_cons, List.not_mem_nil, or_false] at he
  rw [he]; trivial
theorem rin_blk {s : List UInt8} {a : Nat} {N : List NE} {F : Fz} (h : RIn s a N F) : RIn s (blk s a) N F :=
  ⟨h.nf, blk_le h.le, h.sm, by have := h.room; have := blk_ge (s := s) a; omega⟩
theorem lvl23_2 {R : Nat → RoRow} {s : List UInt8} {n : Nat} {part : Nat → PR} (hP : ∀ HP args h k F, spec23 s n 3 part args h k F → SafeCallX Try.prog R 23 args h F k HP) (hnz : ∀ a, NZ (part a)) (hG : Goes s part) (hn : n ≤ 16) {a : Nat} {root : Int} {N : List NE} {F : Fz} (hin : RIn s a N F) (HP : HPt) :
    SafeCallX Try.prog R 23 [.ptr false 0 0 0, .ptr false 1 0 0, .int .i64 2] [some (rrow s (a : Nat) (n : Nat) 0 0), some (trow 2 N.length root), some (arow N)] F (Ans s a n root N F (LpI s begins 0 4 part (blk s a))) HP := by
  have hs := hin.sm
  have hsl : s.length ≤ 100000 := by omega
  have hle := hin.le
  have hR := hin.room
  refine SafeCallX.by mixed ((env23_ok (hP HP)).addLoop (f := 23) (fi := fi23) (by kernel_rfl) (i := 0) (body := .loop (loopOf fi23 0)) (by kernel_rfl) (loop23_2 HP (hP HP) hnz hG hn)) (f := 23) (fi := fi23) (by kernel_rfl) 1000 (vc23_2 R s a n root N part _ F) ?_
  refine ⟨a, rfl, hsl, rfl, rfl, rfl, rfl, rfl, root, N, (blk s a), rfl, (rin_blk hin), ?_, ?_⟩
  · intro ts l a1 N' F' hr hne hI
    have hl := hI.tr.len
    have hrm := hI.room
    refine hcB (fun h1 => ?_) fun h1 => ?_
    · have h1 : l.length = 1 := by have := eq_of_beq h1; omega
      refine hcT (by rw [h1]; rfl) (hcT (by rw [h1]; rfl) ?_)
      exact ⟨_, _, _, 3, N', lvl_one hI (blk_ge a) hr h1, rfl, rfl, rfl⟩
    · have h1 : l.length ≠ 1 := by
        rw [beq_eq_false_iff_ne] at h1; omega
      refine ⟨_, l, rfl, nrow_ro l, rfl, fun F2 x hu hf => ⟨N', rfl, rfl, show N'.length ≤ 100000 by omega, ?_⟩⟩
      exact ⟨_, _, _, 8, _, lvl_more (kd := 4) hI (blk_ge a) hr hne h1 hu hf, rfl, rfl, rfl⟩
  · intro a' e p' N' F' hr hz hp' hE
    have hz : e ≠ 0 := hz
    refine hcT (by rw [bne_iff_ne]; omega) ?_
    have hrE := hE.room
    exact ⟨_, _, _, 3, N', .err a' e p' _ N' F' hr hp' ⟨hE.mo, hE.nf, hE.up, by have : a ≤ (blk s a) := (blk_ge a); omega⟩, rfl, rfl, rfl⟩
theorem lvl23_1 {R : Nat → RoRow} {s : List UInt8} {n : Nat} {part : Nat → PR} (hP : ∀ HP args h k F, spec23 s n 2 part args h k F → SafeCallX Try.prog R 23 args h F k HP) (hnz : ∀ a, NZ (part a)) (hG : Goes s part) (hn : n ≤ 16) {a : Nat} {root : Int} {N : List NE} {F : Fz} (hin : RIn s a N F) (HP : HPt) :
    SafeCallX Try.prog R 23 [.ptr false 0 0 0, .ptr false 1 0 0, .int .i64 1] [some (rrow s (a : Nat) (n : Nat) 0 0), some (trow 2 N.length root), some (arow N)] F (Ans s a n root N F (LpI s (fun c => c == 38) 1 6 part a)) HP := by
  have hs := hin.sm
  have hsl : s.length ≤ 100000 := by omega
  have hle := hin.le
  have hR := hin.room
  refine SafeCallX.by mixed ((env23_ok (hP HP)).addLoop (f := 23) (fi := fi23) (by kernel_rfl) (i := 0) (body := .loop (loopOf fi23 0)) (by kernel_rfl) (loop23_1 HP (hP HP) hnz hG hn)) (f := 23) (fi := fi23) (by kernel_rfl) 1000 (vc23_1 R s a n root N part _ F) ?_
  refine ⟨rfl, rfl, rfl, rfl, rfl, root, N, a, rfl, hin, ?_, ?_⟩
  · intro ts l a1 N' F' hr hne hI
    have hl := hI.tr.len
    have hrm := hI.room
    refine hcB (fun h1 => ?_) fun h1 => ?_
    · have h1 : l.length = 1 := by have := eq_of_beq h1; omega
      refine hcT (by rw [h1]; rfl) (hcT (by rw [h1]; rfl) ?_)
      exact ⟨_, _, _, 3, N', lvl_one hI (Nat.le_refl a) hr h1, rfl, rfl, rfl⟩
    · have h1 : l.length ≠ 1 := by
        rw [beq_eq_false_iff_ne] at h1; omega
      refine ⟨_, l, rfl, nrow_ro l, rfl, fun F2 x hu hf => ⟨N', rfl, rfl, show N'.length ≤ 100000 by omega, ?_⟩⟩
      exact ⟨_, _, _, 8, _, lvl_more (kd := 6) hI (Nat.le_refl a) hr hne h1 hu hf, rfl, rfl, rfl⟩
  · intro a' e p' N' F' hr hz hp' hE
    have hz : e ≠ 0 := hz
    refine hcT (by rw [bne_iff_ne]; omega) ?_
    have hrE := hE.room
    exact ⟨_, _, _, 3, N', .err a' e p' _ N' F' hr hp' ⟨hE.mo, hE.nf, hE.up, by have : a ≤ a := (Nat.le_refl a); omega⟩, rfl, rfl, rfl⟩
theorem lvl23_0 {R : Nat → RoRow} {s : List UInt8} {n : Nat} {part : Nat → PR} (hP : ∀ HP args h k F, spec23 s n 1 part args h k F → SafeCallX Try.prog R 23 args h F k HP) (hnz : ∀ a, NZ (part a)) (hG : Goes s part) (hn : n ≤ 16) {a : Nat} {root : Int} {N : List NE} {F : Fz} (hin : RIn s a N F) (HP : HPt) :
    SafeCallX Try.prog R 23 [.ptr false 0 0 0, .ptr false 1 0 0, .int .i64 0] [some (rrow s (a : Nat) (n : Nat) 0 0), some (trow 2 N.length root), some (arow N)] F (Ans s a n root N F (LpI s (fun c => c == 124) 1 5 part a)) HP := by
  have hs := hin.sm
  have hsl : s.length ≤ 100000 := by omega
  have hle := hin.le
  have hR := hin.room
  refine SafeCallX.by mixed ((env23_ok (hP HP)).addLoop (f := 23) (fi := fi23) (by kernel_rfl) (i := 0) (body := .loop (loopOf fi23 0)) (by kernel_rfl) (loop23_0 HP (hP HP) hnz hG hn)) (f := 23) (fi := fi23) (by kernel_rfl) 1000 (vc23_0 R s a n root N part _ F) ?_
  refine ⟨rfl, rfl, rfl, rfl, rfl, root, N, a, rfl, hin, ?_, ?_⟩
  · intro ts l a1 N' F' hr hne hI
    have hl := hI.tr.len
    have hrm := hI.room
    refine hcB (fun h1 => ?_) fun h1 => ?_
    · have h1 : l.length = 1 := by have := eq_of_beq h1; omega
      refine hcT (by rw [h1]; rfl) (hcT (by rw [h1]; rfl) ?_)
      exact ⟨_, _, _, 3, N', lvl_one hI (Nat.le_refl a) hr h1, rfl, rfl, rfl⟩
    · have h1 : l.length ≠ 1 := by
        rw [beq_eq_false_iff_ne] at h1; omega
      refine ⟨_, l, rfl, nrow_ro l, rfl, fun F2 x hu hf => ⟨N', rfl, rfl, show N'.length ≤ 100000 by omega, ?_⟩⟩
      exact ⟨_, _, _, 8, _, lvl_more (kd := 5) hI (Nat.le_refl a) hr hne h1 hu hf, rfl, rfl, rfl⟩
  · intro a' e p' N' F' hr hz hp' hE
    have hz : e ≠ 0 := hz
    refine hcT (by rw [bne_iff_ne]; omega) ?_
    have hrE := hE.room
    exact ⟨_, _, _, 3, N', .err a' e p' _ N' F' hr hp' ⟨hE.mo, hE.nf, hE.up, by have : a ≤ a := (Nat.le_refl a); omega⟩, rfl, rfl, rfl⟩
theorem lvl23_3 {R : Nat → RoRow} {s : List UInt8} {n : Nat} {part : Nat → PR} (hP : ∀ HP args h k F, spec31 s n part args h k F → SafeCallX Try.prog R 31 args h F k HP) {a : Nat} {root : Int} {N : List NE} {F : Fz} (hin : RIn s a N F) (HP : HPt) :
    SafeCallX Try.prog R 23 [.ptr false 0 0 0, .ptr false 1 0 0, .int .i64 3] [some (rrow s (a : Nat) (n : Nat) 0 0), some (trow 2 N.length root), some (arow N)] F (Ans s a n root N F (part a)) HP := by
  refine SafeCallX.by mixed ((envQ_ok R HP).addCall (f := 31) (fi := fi31) (by kernel_rfl) (hP HP)) (f := 23) (fi := fi23) (by kernel_rfl) 1000 (vc23_3 R s a n root N part _ F) ?_
  refine ⟨N, a, rfl, rfl, rfl, rfl, rfl, rfl, rfl, hin, ?_, ?_⟩
  · intro t a1 hr N' i F' ho
    exact ⟨_, _, _, 6, N', .ok t a1 i N' F' hr ho, rfl, rfl, rfl⟩
  · intro a' e hr p' N' v F' hp' hE
    exact ⟨_, _, _, 6, N', .err a' e p' v N' F' hr hp' hE, rfl, rfl, rfl⟩
theorem at23 {R : Nat → RoRow} {s : List UInt8} {n : Nat} {kk : Int} {r : Nat → PR} (hs : n ≤ 16 → ∀ a root N F, RIn s a N F → SafeCallX Try.prog R 23 [.ptr false 0 0 0, .ptr false 1 0 0, .int .i64 kk] [some (rrow s (a : Nat) (n : Nat) 0 0), some (trow 2 N.length root), some (arow N)] F (Ans s a n root N F (r a)) (fun _ _ _ => False)) (HP : HPt) :
    ∀ args h k F, spec23 s n kk r args h k F → SafeCallX Try.prog R 23 args h F k HP := by
  intro args h k F hk
  unfold spec23 at hk
  split at hk
  · rename_i b c j
    obtain ⟨rfl, hn, hk⟩ := hk
    exact ref_at (argsL := [.ptr false 0 0 0, .ptr false 1 0 0, .int .i64 j]) (fun d => VwL.cons (Vw.ptrI (by decide) rfl) (VwL.cons (Vw.ptrI (by decide) rfl) (VwL.cons Vw.intI VwL.nil))) (fun a root N hin => hs hn a root N F hin) hk
  · exact hk.elim
/-- The levels, with so many brackets left. -/
theorem all23 (R : Nat → RoRow) (s : List UInt8) : ∀ (d : Nat), d ≤ 17 → ∀ HP args h k F, spec23 s (17 - d) 0 (pAltD s d) args h k F → SafeCallX Try.prog R 23 args h F k HP
  | 0, _ => fun HP args h k F hk => by
    unfold spec23 at hk
    split at hk
    · have := hk.2.1; omega
    · exact hk.elim
  | d + 1, hd => fun HP => at23 (r := pAltD s (d + 1)) (fun hn a root N F hin => by
    have ih := all23 R s d (by omega)
    have hA := pAltD_nz (s := s) d
    have hG := pAltD_goes (s := s) d
    have e : 17 - (d + 1) + 1 = 17 - d := by omega
    have h31 : ∀ HP args h k F, spec31 s (17 - (d + 1)) (pItem s (17 - (d + 1)) (pAltD s d)) args h k F → SafeCallX Try.prog R 31 args h F k HP := spec31_ok (by rw [e]; exact ih) hA hG hn
    have h3 : ∀ HP args h k F, spec23 s (17 - (d + 1)) 3 (pItem s (17 - (d + 1)) (pAltD s d)) args h k F → SafeCallX Try.prog R 23 args h F k HP := fun HP => at23 (fun _ a root N F hin => lvl23_3 h31 hin _) HP
    have n3 : ∀ a, NZ (pItem s (17 - (d + 1)) (pAltD s d) a) := pItem_nz hA
    have g3 : Goes s (pItem s (17 - (d + 1)) (pAltD s d)) := fun a ha t a1 h => by have := pItem_goes hG ha h; omega
    have h2 : ∀ HP args h k F, spec23 s (17 - (d + 1)) 2 (pSeq s (17 - (d + 1)) (pAltD s d)) args h k F → SafeCallX Try.prog R 23 args h F k HP := fun HP => at23 (fun _ a root N F hin => by rw [pSeq_lp]; exact lvl23_2 h3 n3 g3 hn hin _) HP
    have n2 : ∀ a, NZ (pSeq s (17 - (d + 1)) (pAltD s d) a) := pSeq_nz hA
    have g2 : Goes s (pSeq s (17 - (d + 1)) (pAltD s d)) := pSeq_goes hG
    have h1 : ∀ HP args h k F, spec23 s (17 - (d + 1)) 1 (pAll s (17 - (d + 1)) (pAltD s d)) args h k F → SafeCallX Try.prog R 23 args h F k HP := fun HP => at23 (fun _ a root N F hin => by
      show SafeCallX _ _ _ _ _ _ (Ans s a _ root N F (pJoin s 38 6 (pSeq s (17 - (d + 1)) (pAltD s d)) a)) _
      rw [pJoin_lp]; exact lvl23_1 h2 n2 g2 hn hin _) HP
    have n1 : ∀ a, NZ (pAll s (17 - (d + 1)) (pAltD s d) a) := pJoin_nz n2
    have g1 : Goes s (pAll s (17 - (d + 1)) (pAltD s d)) := pAll_goes hG
    have e0 : pAltD s (d + 1) a = LpI s (fun c => c == 124) 1 5 (pAll s (17 - (d + 1)) (pAltD s d)) a := by
      have e1 : 17 - (d + 1) = 16 - d := by omega
      rw [e1]
      show pJoin s 124 5 (pAll s (16 - d) (pAltD s d)) a = _
      rw [pJoin_lp]
    rw [e0]
    exact lvl23_0 h1 n1 g1 hn hin _) HP
end Go.Dc.Ke
end
section
set_option linter.unusedVariables false
set_option linter.unusedSimpArgs false
namespace Go.Dc.Ke
open Go.Proofs Go.RowKit Go.Shelf
set_option maxRecDepth 100000
abbrev tree0 : Row := .lst 35 2 [.agg [.nils, .int .i64 0]]
/-- The reader's row ahead, the tree behind it: told otherwise. -/
def preF : Nat → Option Nat := fun c => bif Nat.beq c 0 then some 1 else bif Nat.beq c 1 then some 0 else none
abbrev five11 (s : List UInt8) (p bd er : Int) (N : List NE) : Rows := [some (trow 5 N.length 0), some (rrow s p 0 bd er), none, none, none, some (arow N)]
def spec23t (s : List UInt8) : CallSpecX := fun args h k => match args with
  | [.ptr false 1 0 0, .ptr false 0 0 0, .int .i64 0] => fun F => h = [some tree0, some (rrow s 0 0 0 0)] ∧ s.length ≤ 256 ∧
      (∀ t a1, pAltD s 17 0 = .ok t a1 → ∀ N' i F', ROk s 0 [] F t a1 N' i F' → k (.int .i64 (i : Nat)) (five11 s (a1 : Nat) 0 0 N') F') ∧
      (∀ a' e, pAltD s 17 0 = .err a' e → ∀ (p' : Nat) (N' : List NE) (v : Int) F', p' ≤ 200000 → RErr s 0 [] F N' F' → k (.int .i64 v) (five11 s (p' : Nat) (a' : Nat) (e : Nat) N') F')
  | _ => botX
theorem nf_nil (F : Fz) : NF F [] := ⟨fun e he => by cases he⟩
theorem preV (s : List UInt8) : View preF [some (rrow s 0 0 0 0), some (trow 2 0 0), some (arow [])] [some tree0, some (rrow s 0 0 0 0)] where
  lt := fun c b hc hb => by
    match c with
    | 0 => cases hb; show 1 < 2; decide
    | 1 => cases hb; show 0 < 2; decide
    | c + 2 => cases hb
  inj := fun c c' b hc hc' h h' => by
    match c, c' with
    | 0, 0 => rfl
    | 1, 1 => rfl
    | 0, 1 => cases h; cases h'
    | 1, 0 => cases h; cases h'
    | c + 2, _ => cases h
    | 0, c + 2 => cases h'
    | 1, c + 2 => cases h'
  row := fun c r hc => by
    match c with
    | 0 => cases hc; exact .inl ⟨1, _, rfl, rfl, (rrow_g _ _ _ _ _).vw _ _⟩
    | 1 => cases hc; exact .inl ⟨0, _, rfl, rfl, .lst1 rfl (Vw.aggI (VwL.cons (by simp only [Vw]; exact ⟨by simp, .inr ⟨rfl, trivial, by simp [CpOK], trivial⟩⟩) (VwL.cons Vw.intI VwL.nil)))⟩
    | 2 => cases hc; exact .inr ⟨rfl, rfl⟩
    | c + 3 => simp [Rows.live] at hc
theorem spec23t_ok (R : Nat → RoRow) (s : List UInt8) (HP : HPt) : ∀ args h k F, spec23t s args h k F → SafeCallX Try.prog R 23 args h F k HP := by
  intro args h k F hk
  unfold spec23t at hk
  split at hk
  · obtain ⟨rfl, hs, hok, herr⟩ := hk
    have h0 : SafeCallX Try.prog R 23 [.ptr false 0 0 0, .ptr false 1 0 0, .int .i64 0] [some (rrow s 0 0 0 0), some (trow 2 0 0), some (arow [])] F (Ans s 0 0 0 [] F (pAltD s 17 0)) (fun _ _ _ => False) := by
      refine all23 R s 17 (Nat.le_refl _) _ _ _ _ _ ?_
      refine ⟨rfl, Nat.zero_le _, [], 0, rfl, rfl, rfl, rfl, rfl, rfl, rfl, ⟨nf_nil F, Nat.zero_le _, hs, by simp only [List.length_nil]; omega⟩, ?_, ?_⟩
      · intro t a1 hr N' i F' ho
        exact ⟨_, _, _, 6, N', .ok t a1 i N' F' hr ho, rfl, rfl, rfl⟩
      · intro a' e hr p' N' v F' hp hE
        exact ⟨_, _, _, 6, N', .err a' e p' v N' F' hr hp hE, rfl, rfl, rfl⟩
    refine (SafeCallX.focus (preV s) (argsL := [.ptr false 0 0 0, .ptr false 1 0 0, .int .i64 0]) (VwL.cons (Vw.ptrI (by simp) rfl) (VwL.cons (Vw.ptrI (by simp) rfl) (VwL.cons Vw.intI VwL.nil))) (ref_out (n := 0) (a := 0) (N := []) h0)).mono ?_ ?_
    · rintro v h' F' _ ⟨v0, h1, ⟨p, bd, er, N', ho, rfl⟩, rfl, rfl⟩
      have e : merged preF 3 3 [some tree0, some (rrow s 0 0 0 0)] (out4 (rrow s p 0 bd er) N'.length 0 N') = five11 s p bd er N' := by kernel_rfl
      show k _ (merged preF 3 3 [some tree0, some (rrow s 0 0 0 0)] (out4 (rrow s p 0 bd er) N'.length 0 N')) F'
      rw [e]
      cases ho with
      | ok t a1 i _ _ hr hh => exact hok t a1 hr N' i F' hh
      | err a' e1 p' w _ _ hr hp hh => exact herr a' e1 hr p' N' w F' hp hh
    · rintro v h' F' _ ⟨_, _, h, _⟩; exact h.elim
  · exact hk.elim
noncomputable abbrev env11 (R : Nat → RoRow) (s : List UInt8) : EnvX := (envP R).addCall 23 (spec23t s)
theorem env11_ok (R : Nat → RoRow) (s : List UInt8) (HP : HPt) : OKX Try.prog (env11 R s) [] HP := (envP_ok R HP).addCall (f := 23) (fi := fi23) (by kernel_rfl) (spec23t_ok R s HP)
end Go.Dc.Ke
end
section
set_option linter.unusedVariables false
set_option linter.unusedSimpArgs false
namespace Go.Dc.Ke
open Go.Proofs Go.RowKit Go.Shelf
set_option maxRecDepth 100000
theorem vc11 (R : Nat → RoRow) (s : List UInt8) (k : AV → Rows → Fz → Prop) (F : Fz) : vcx (env11 R s) 1000 11 fi11 [.str s] [] k F = (bif decide ((↑s.length : Int) > 256) then k (AV.tup [AV.ptr false 0 0 0, AV.int IntKind.i64 0, AV.int IntKind.i64 2]) [some (Row.lst 35 2 [AV.agg [AV.nils, AV.int IntKind.i64 0]])] F else [some (Row.lst 35 2 [AV.agg [AV.nils, AV.int IntKind.i64 0]]), some (Row.lst 57 5 [AV.agg [AV.str s, AV.int IntKind.i64 0, AV.int IntKind.i64 0, AV.int IntKind.i64 0, AV.int IntKind.i64 0]])] = [some (Row.lst 35 2 [AV.agg [AV.nils, AV.int IntKind.i64 0]]), some (Row.lst 57 5 [AV.agg [AV.str s, AV.int IntKind.i64 0, AV.int IntKind.i64 0, AV.int IntKind.i64 0, AV.int IntKind.i64 0]])] ∧ s.length.le 256 ∧ (∀ (t : Tr) (a1 : Nat), pAltD s 17 0 = PR.ok t a1 → ∀ (N' : List NE) (i : Nat) (F' : Fz), ROk s 0 [] F t a1 N' i F' → bif decide ((↑a1 : Int) < (↑s.length : Int)) then AV.int IntKind.i64 (3 : Int) = AV.int IntKind.i64 3 ∧ AV.int IntKind.i64 (↑a1 : Int) = AV.int IntKind.i64 (↑a1 : Int) ∧ AV.int IntKind.i64 (3 : Int) = AV.int IntKind.i64 3 ∧ AV.int IntKind.i64 (↑a1 : Int) = AV.int IntKind.i64 (↑a1 : Int) ∧ AV.int IntKind.i64 (3 : Int) = AV.int IntKind.i64 3 ∧ k (AV.tup [AV.ptr false 6 0 0, AV.int IntKind.i64 (↑a1 : Int), AV.int IntKind.i64 3]) [some (Row.lst 35 2 [AV.agg [AV.sl false 5 0 N'.length Cp.no, AV.int IntKind.i64 0]]), some (Row.lst 57 5 [AV.agg [AV.str s, AV.int IntKind.i64 (↑a1 : Int), AV.int IntKind.i64 0, AV.int IntKind.i64 (↑a1 : Int), AV.int IntKind.i64 3]]), none, none, none, some (Row.gen 62 3 N'.length fun (i : Nat) => neV (N'.getD i dN)), some (Row.lst 35 2 [AV.agg [AV.nils, AV.int IntKind.i64 0]])] F' else k (AV.tup [AV.ptr false 0 0 0, AV.int IntKind.i64 0, AV.int IntKind.i64 0]) [some (Row.lst 35 2 [AV.agg [AV.sl false 5 0 N'.length Cp.no, AV.int IntKind.i64 (↑i : Int)]]), some (Row.lst 57 5 [AV.agg [AV.str s, AV.int IntKind.i64 (↑a1 : Int), AV.int IntKind.i64 0, AV.int IntKind.i64 0, AV.int IntKind.i64 0]]), none, none, none, some (Row.gen 62 3 N'.length fun (i : Nat) => neV (N'.getD i dN))] F') ∧ ∀ (a' e : Nat), pAltD s 17 0 = PR.err a' e → ∀ (p' : Nat) (N' : List NE) (v : Int) (F' : Fz), p'.le 200000 → RErr s 0 [] F N' F' → bif (↑e : Int) == 0 then bif decide ((↑p' : Int) < (↑s.length : Int)) then bif (↑e : Int) == 0 then AV.int IntKind.i64 (3 : Int) = AV.int IntKind.i64 3 ∧ AV.int IntKind.i64 (↑p' : Int) = AV.int IntKind.i64 (↑p' : Int) ∧ AV.int IntKind.i64 (3 : Int) = AV.int IntKind.i64 3 ∧ AV.int IntKind.i64 (↑p' : Int) = AV.int IntKind.i64 (↑p' : Int) ∧ AV.int IntKind.i64 (3 : Int) = AV.int IntKind.i64 3 ∧ k (AV.tup [AV.ptr false 6 0 0, AV.int IntKind.i64 (↑p' : Int), AV.int IntKind.i64 3]) [some (Row.lst 35 2 [AV.agg [AV.sl false 5 0 N'.length Cp.no, AV.int IntKind.i64 0]]), some (Row.lst 57 5 [AV.agg [AV.str s, AV.int IntKind.i64 (↑p' : Int), AV.int IntKind.i64 0, AV.int IntKind.i64 (↑p' : Int), AV.int IntKind.i64 3]]), none, none, none, some (Row.gen 62 3 N'.length fun (i : Nat) => neV (N'.getD i dN)), some (Row.lst 35 2 [AV.agg [AV.nils, AV.int IntKind.i64 0]])] F' else bif (↑e : Int) != 0 then AV.int IntKind.i64 (↑e : Int) = AV.int IntKind.i64 (↑e : Int) ∧ AV.int IntKind.i64 (↑a' : Int) = AV.int IntKind.i64 (↑a' : Int) ∧ AV.int IntKind.i64 (↑e : Int) = AV.int IntKind.i64 (↑e : Int) ∧ AV.int IntKind.i64 (↑a' : Int) = AV.int IntKind.i64 (↑a' : Int) ∧ AV.int IntKind.i64 (↑e : Int) = AV.int IntKind.i64 (↑e : Int) ∧ k (AV.tup [AV.ptr false 6 0 0, AV.int IntKind.i64 (↑a' : Int), AV.int IntKind.i64 (↑e : Int)]) [some (Row.lst 35 2 [AV.agg [AV.sl false 5 0 N'.length Cp.no, AV.int IntKind.i64 0]]), some (Row.lst 57 5 [AV.agg [AV.str s, AV.int IntKind.i64 (↑p' : Int), AV.int IntKind.i64 0, AV.int IntKind.i64 (↑a' : Int), AV.int IntKind.i64 (↑e : Int)]]), none, none, none, some (Row.gen 62 3 N'.length fun (i : Nat) => neV (N'.getD i dN)), some (Row.lst 35 2 [AV.agg [AV.nils, AV.int IntKind.i64 0]])] F' else k (AV.tup [AV.ptr false 0 0 0, AV.int IntKind.i64 0, AV.int IntKind.i64 0]) [some (Row.lst 35 2 [AV.agg [AV.sl false 5 0 N'.length Cp.no, AV.int IntKind.i64 v]]), some (Row.lst 57 5 [AV.agg [AV.str s, AV.int IntKind.i64 (↑p' : Int), AV.int IntKind.i64 0, AV.int IntKind.i64 (↑a' : Int), AV.int IntKind.i64 (↑e : Int)]]), none, none, none, some (Row.gen 62 3 N'.length fun (i : Nat) => neV (N'.getD i dN))] F' else bif (↑e : Int) != 0 then AV.int IntKind.i64 (↑e : Int) = AV.int IntKind.i64 (↑e : Int) ∧ AV.int IntKind.i64 (↑a' : Int) = AV.int IntKind.i64 (↑a' : Int) ∧ AV.int IntKind.i64 (↑e : Int) = AV.int IntKind.i64 (↑e : Int) ∧ AV.int IntKind.i64 (↑a' : Int) = AV.int IntKind.i64 (↑a' : Int) ∧ AV.int IntKind.i64 (↑e : Int) = AV.int IntKind.i64 (↑e : Int) ∧ k (AV.tup [AV.ptr false 6 0 0, AV.int IntKind.i64 (↑a' : Int), AV.int IntKind.i64 (↑e : Int)]) [some (Row.lst 35 2 [AV.agg [AV.sl false 5 0 N'.length Cp.no, AV.int IntKind.i64 0]]), some (Row.lst 57 5 [AV.agg [AV.str s, AV.int IntKind.i64 (↑p' : Int), AV.int IntKind.i64 0, AV.int IntKind.i64 (↑a' : Int), AV.int IntKind.i64 (↑e : Int)]]), none, none, none, some (Row.gen 62 3 N'.length fun (i : Nat) => neV (N'.getD i dN)), some (Row.lst 35 2 [AV.agg [AV.nils, AV.int IntKind.i64 0]])] F' else k (AV.tup [AV.ptr false 0 0 0, AV.int IntKind.i64 0, AV.int IntKind.i64 0]) [some (Row.lst 35 2 [AV.agg [AV.sl false 5 0 N'.length Cp.no, AV.int IntKind.i64 v]]), some (Row.lst 57 5 [AV.agg [AV.str s, AV.int IntKind.i64 (↑p' : Int), AV.int IntKind.i64 0, AV.int IntKind.i64 (↑a' : Int), AV.int IntKind.i64 (↑e : Int)]]), none, none, none, some (Row.gen 62 3 N'.length fun (i : Nat) => neV (N'.getD i dN))] F' else bif (↑e : Int) != 0 then AV.int IntKind.i64 (↑e : Int) = AV.int IntKind.i64 (↑e : Int) ∧ AV.int IntKind.i64 (↑a' : Int) = AV.int IntKind.i64 (↑a' : Int) ∧ AV.int IntKind.i64 (↑e : Int) = AV.int IntKind.i64 (↑e : Int) ∧ AV.int IntKind.i64 (↑a' : Int) = AV.int IntKind.i64 (↑a' : Int) ∧ AV.int IntKind.i64 (↑e : Int) = AV.int IntKind.i64 (↑e : Int) ∧ k (AV.tup [AV.ptr false 6 0 0, AV.int IntKind.i64 (↑a' : Int), AV.int IntKind.i64 (↑e : Int)]) [some (Row.lst 35 2 [AV.agg [AV.sl false 5 0 N'.length Cp.no, AV.int IntKind.i64 0]]), some (Row.lst 57 5 [AV.agg [AV.str s, AV.int IntKind.i64 (↑p' : Int), AV.int IntKind.i64 0, AV.int IntKind.i64 (↑a' : Int), AV.int IntKind.i64 (↑e : Int)]]), none, none, none, some (Row.gen 62 3 N'.length fun (i : Nat) => neV (N'.getD i dN)), some (Row.lst 35 2 [AV.agg [AV.nils, AV.int IntKind.i64 0]])] F' else k (AV.tup [AV.ptr false 0 0 0, AV.int IntKind.i64 0, AV.int IntKind.i64 0]) [some (Row.lst 35 2 [AV.agg [AV.sl false 5 0 N'.length Cp.no, AV.int IntKind.i64 v]]), some (Row.lst 57 5 [AV.agg [AV.str s, AV.int IntKind.i64 (↑p' : Int), AV.int IntKind.i64 0, AV.int IntKind.i64 (↑a' : Int), AV.int IntKind.i64 (↑e : Int)]]), none, none, none, some (Row.gen 62 3 N'.length fun (i : Nat) => neV (N'.getD i dN))] F') := by kernel_rfl
/-- What the document's parser answers of a whole text. -/
inductive Out11 (s : List UInt8) (F : Fz) : AV → Rows → Fz → Prop
  | ok (t : Tr) (i : Nat) (N : List NE) (F' : Fz) (hr : parse s = .ok t 0) (ht : TrN N t i) (hn : NF F' N) (hu : Up F F') (hl : N.length ≤ 2000) : Out11 s F (.tup [.ptr false 0 0 0, .int .i64 0, .int .i64 0]) [some (trow 1 N.length (i : Nat)), some (arow N)] F'
  | err (a e : Nat) (F' : Fz) (hr : parse s = .err a e) (hu : Up F F') : Out11 s F (.tup [.any, .int .i64 (a : Nat), .int .i64 (e : Nat)]) [] F'
theorem out_err {R : Nat → RoRow} {s : List UInt8} {F F' : Fz} {p : AV} {h : Rows} {a e : Nat} (hr : parse s = .err a e) (hu : Up F F') : ToV R 0 (.tup [p, .int .i64 (a : Nat), .int .i64 (e : Nat)]) h F' (Out11 s F) :=
  ToV.fitW (vE := .tup [.any, .int .i64 (a : Nat), .int .i64 (e : Nat)]) (hE := []) noView ⟨fun c c' b r r' hc => by simp [Rows.live] at hc, fun c r hc => by simp [Rows.live] at hc⟩ (Vw.tupI (VwL.cons Vw.anyI (VwL.cons Vw.intI (VwL.cons Vw.intI VwL.nil)))) (fun c hc => absurd hc (Nat.not_lt_zero _)) (Nat.le_refl _) (ToV.here (.err a e F' hr hu))
def okF : Nat → Option Nat := fun c => bif Nat.beq c 0 then some 0 else some 5
theorem out_ok {R : Nat → RoRow} {s : List UInt8} {F F' : Fz} {N : List NE} {t : Tr} {i : Nat} {r1 : Row} (hr : parse s = .ok t 0) (ht : TrN N t i) (hn : NF F' N) (hu : Up F F') (hl : N.length ≤ 2000) :
    ToV R 0 (.tup [.ptr false 0 0 0, .int .i64 0, .int .i64 0]) [some (trow 5 N.length (i : Nat)), some r1, none, none, none, some (arow N)] F' (Out11 s F) :=
  ToV.fitW (vE := .tup [.ptr false 0 0 0, .int .i64 0, .int .i64 0]) (hE := [some (trow 1 N.length (i : Nat)), some (arow N)]) okF ⟨fun c c' b q q' hc hc' e e' => by
      match c, c' with
      | 0, 0 => rfl
      | 1, 1 => rfl
      | 0, 1 => cases e; cases e'
      | 1, 0 => cases e; cases e'
      | c + 2, _ => simp [Rows.live] at hc
      | 0, c + 2 => simp [Rows.live] at hc'
      | 1, c + 2 => simp [Rows.live] at hc', fun c q hc => by
      match c with
      | 0 => cases hc; exact .inl ⟨0, _, rfl, rfl, trow_v rfl (by simp)⟩
      | 1 => cases hc; exact .inl ⟨5, _, rfl, rfl, (arow_g N).vw _ _⟩
      | c + 2 => simp [Rows.live] at hc⟩ (Vw.tupI (VwL.cons (Vw.ptrI (by simp) rfl) (VwL.cons Vw.intI (VwL.cons Vw.intI VwL.nil)))) (fun c hc => absurd hc (Nat.not_lt_zero _)) (Nat.zero_le _) (ToV.here (.ok t i N F' hr ht hn hu hl))
theorem safe11 (R : Nat → RoRow) (s : List UInt8) (F : Fz) : SafeCallX Try.prog R 11 [.str s] [] F (Out11 s F) (fun _ _ _ => False) := by
  refine SafeCallX.post (Q := fun v h F' => ∃ p a e r1, (parse s = .err a e ∧ Up F F' ∧ v = .tup [p, .int .i64 (a : Nat), .int .i64 (e : Nat)]) ∨ ∃ t i N, parse s = .ok t 0 ∧ TrN N t i ∧ NF F' N ∧ Up F F' ∧ N.length ≤ 2000 ∧ v = .tup [.ptr false 0 0 0, .int .i64 0, .int .i64 0] ∧ h = [some (trow 5 N.length (i : Nat)), some r1, none, none, none, some (arow N)]) (HP := fun _ _ _ => False) ?_ ?_ (fun v h' F' _ h => h.elim)
  · refine SafeCallX.by mixed (env11_ok R s _) (f := 11) (fi := fi11) (by kernel_rfl) 1000 (vc11 R s _ F) ?_
    refine hcB (fun h1 => ?_) fun h1 => ?_
    · have h1 : s.length > 256 := by have := of_decide_eq_true h1; omega
      exact ⟨.ptr false 0 0 0, 0, 2, tree0, .inl ⟨by unfold parse; rw [decide_eq_true h1]; rfl, Up.refl F, rfl⟩⟩
    · have h1 : ¬ s.length > 256 := by have := of_decide_eq_false h1; omega
      have hp : parse s = (pAltD s 17 0).bind fun t a => bif decide (a < s.length) then .err a 3 else .ok t 0 := by unfold parse; rw [decide_eq_false h1]; rfl
      refine ⟨rfl, show s.length ≤ 256 by omega, ?_, ?_⟩
      · intro t a1 hr N' i F' ho
        have hroom := ho.room
        refine hcB (fun h2 => ?_) fun h2 => ?_
        · have h2 : a1 < s.length := by have := of_decide_eq_true h2; omega
          refine ⟨rfl, rfl, rfl, rfl, rfl, .ptr false 6 0 0, a1, 3, tree0, .inl ⟨?_, ho.up, rfl⟩⟩
          rw [hp, hr]; show (bif decide (a1 < s.length) then PR.err a1 3 else _) = _; rw [decide_eq_true h2]; rfl
        · have h2 : ¬ a1 < s.length := by have := of_decide_eq_false h2; omega
          refine ⟨.any, 0, 0, _, .inr ⟨t, i, N', ?_, ho.tr, ho.nf, ho.up, by simp only [List.length_nil] at hroom; omega, rfl, rfl⟩⟩
          rw [hp, hr]; show (bif decide (a1 < s.length) then PR.err a1 3 else _) = _; rw [decide_eq_false h2]; rfl
      · intro a' e hr p' N' v F' hp' hE
        have hz := pAltD_nz 17 0 a' e hr
        have e0 : ((e : Int) == 0) = false := by rw [beq_eq_false_iff_ne]; omega
        have pe : parse s = .err a' e := by rw [hp, hr]; rfl
        have e1 : ((e : Int) != 0) = true := by rw [bne_iff_ne]; omega
        refine hcF e0 (hcT e1 ⟨rfl, rfl, rfl, rfl, rfl, .ptr false 6 0 0, a', e, tree0, .inl ⟨pe, hE.up, rfl⟩⟩)
  · rintro v h' F' _ ⟨p, a, e, r1, ⟨hr, hu, rfl⟩ | ⟨t, i, N, hr, ht, hn, hu, hl, rfl, rfl⟩⟩
    · exact out_err hr hu
    · exact out_ok hr ht hn hu hl
structure TrA (N : List NE) (t : Tr) (i : Nat) : Prop where
  is : TrN N t i
def spec11 : CallSpecX := fun args h k => match args with
  | [.str s] => fun F => (∀ t, parse s = .ok t 0 → ∀ N i F', TrA N t i → NF F' N → Up F F' → N.length ≤ 2000 → k (.tup [.ptr false h.length 0 0, .int .i64 0, .int .i64 0]) (h ++ [some (trow (h.length + 1) N.length (i : Nat)), some (arow N)]) F') ∧
      (∀ a e, parse s = .err a e → ∀ F', Up F F' → k (.tup [.any, .int .i64 (a : Nat), .int .i64 (e : Nat)]) h F')
  | _ => botX
theorem spec11_ok (R : Nat → RoRow) (HP : HPt) : ∀ args h k F, spec11 args h k F → SafeCallX Try.prog R 11 args h F k HP := by
  intro args h k F hk
  unfold spec11 at hk
  split at hk
  · rename_i s
    obtain ⟨hok, herr⟩ := hk
    have hV : View noView [] h := ⟨fun c b hc => absurd hc (Nat.not_lt_zero _), fun c c' b hc => absurd hc (Nat.not_lt_zero _), fun c r hc => by simp [Rows.live] at hc⟩
    refine (SafeCallX.focus hV (argsL := [.str s]) (VwL.cons Vw.strI VwL.nil) (safe11 R s F)).mono ?_ ?_
    · rintro v h' F' _ ⟨v0, h1, ho, rfl, rfl⟩
      show k (ren (ext noView 0 h.length) v0) (merged noView 0 0 h h1) F'
      rw [merged_nil, ext_nil]
      cases ho with
      | ok t i N _ hr ht hn hu hl => exact hok t hr N i F' ⟨ht⟩ hn hu hl
      | err a e _ hr hu =>
        have := herr a e hr F' hu
        show k _ (h ++ []) F'
        rw [List.append_nil]; exact this
    · rintro v h' F' _ ⟨_, _, h, _⟩; exact h.elim
  · exact hk.elim
end Go.Dc.Ke
end
section
set_option linter.unusedVariables false
set_option linter.unusedSimpArgs false
namespace Go.Dc.Ke
open Go.Proofs Go.RowKit Go.Shelf
set_option maxRecDepth 100000
theorem TrNs.get {N : List NE} : ∀ (l : List (Tr × Nat)) (is : List Nat), TrNs N (l.map Prod.fst) is → ∀ j, j < l.length → TrN N (l.getD j dT).1 (is.getD j 0)
  | [], _, _, j, hj => by cases hj
  | p :: l, [], h, j, hj => by simp only [List.map_cons, TrNs] at h
  | p :: l, i :: is, h, 0, hj => by simp only [List.map_cons, TrNs] at h; exact h.1
  | p :: l, i :: is, h, j + 1, hj => by
    simp only [List.map_cons, TrNs] at h
    exact TrNs.get l is h.2 j (Nat.lt_of_succ_lt_succ hj)
structure Free6 (R : Nat → RoRow) : Prop where
  f : Free R
  n : (R 6).n = 0
  q : Quits R 6
noncomputable abbrev R12 (R : Nat → RoRow) (l : List (Tr × Nat)) (is : List Nat) : Nat → RoRow := updR (updR R 5 (kidR l)) 6 (kidN is)
def spec12k (l : List (Tr × Nat)) (is : List Nat) (N : List NE) : CallSpecX := fun args h k => match args with
  | [a, .ptr false 0 0 0, .int .i64 i] => fun F => ∃ (j : Nat) (root : Int), j < l.length ∧ a = exprV (l.getD j dT).1 (l.getD j dT).2 ∧ i = (is.getD j 0 : Nat) ∧ TAts F l ∧ NF F N ∧ h.live 0 = some (trow 1 N.length root) ∧ h.live 1 = some (arow N) ∧ ∀ F', Up F F' → k (.bool true) (h ++ [none, none]) F'
  | _ => botX
noncomputable abbrev env12 (R : Nat → RoRow) (l : List (Tr × Nat)) (is : List Nat) (N : List NE) : EnvX := (bx (R12 R l is)).addCall 12 (spec12k l is N)
noncomputable abbrev tm12 (j : Int) : List AV := [.any, .ptr false 0 0 0, .any, .ptr false 2 0 0, .any, .any, .any, .ptr false 3 0 0, .int .i64 j, .any, .any, .any, .any, .any, .any, .any, .any, .any, .any, .any, .any, .any, .any, .any, .any, .any, .any, .any, .any, .any, .any, .any, .any, .any, .any, .any, .any, .any, .any, .any, .any, .any, .any, .any, .any, .any, .any, .any, .any, .any, .any, .any, .any, .any, .any, .any, .any]
noncomputable abbrev tm12s : List AV := [.any, .ptr false 0 0 0, .any, .ptr false 2 0 0, .any, .any, .any, .ptr false 3 0 0, .any, .any, .any, .any, .any, .any, .any, .any, .any, .any, .any, .any, .any, .any, .any, .any, .any, .any, .any, .any, .any, .any, .any, .any, .any, .any, .any, .any, .any, .any, .any, .any, .any, .any, .any, .any, .any, .any, .any, .any, .any, .any, .any, .any, .any, .any, .any, .any, .any]
noncomputable abbrev st12 (kd : Int) (w : List UInt8) (n : Nat) (root : Int) (N : List NE) : St := ⟨tm12s, [some (trow 1 N.length root), some (arow N), some (.lst 25 3 [.agg [.int .i64 kd, .str w, .sl true 5 0 n .no]]), some (.lst 62 3 [.agg [.int .i64 kd, .str w, .sl true 6 0 n .no]])]⟩
noncomputable abbrev fam12 (kd : Int) (w : List UInt8) (n : Nat) (root : Int) (N : List NE) (j : Int) : St := ⟨tm12 j, [some (trow 1 N.length root), some (arow N), some (.lst 25 3 [.agg [.int .i64 kd, .str w, .sl true 5 0 n .no]]), some (.lst 62 3 [.agg [.int .i64 kd, .str w, .sl true 6 0 n .no]])]⟩
def lp12 (kd : Int) (w : List UInt8) (l : List (Tr × Nat)) (root : Int) (N : List NE) : LoopSpX := fun st k F => st.tmps.length = 57 ∧ nthV st.tmps 1 = .ptr false 0 0 0 ∧ nthV st.tmps 3 = .ptr false 2 0 0 ∧ nthV st.tmps 7 = .ptr false 3 0 0 ∧ nthV st.tmps 8 = .int .i64 0 ∧
  st.rows = (st12 kd w l.length root N).rows ∧ TAts F l ∧ NF F N ∧ ∀ F', Up F F' → k .normal (fam12 kd w l.length root N (l.length : Nat)) F'
end Go.Dc.Ke
end
section
set_option linter.unusedVariables false
set_option linter.unusedSimpArgs false
namespace Go.Dc.Ke
open Go.Proofs Go.RowKit Go.Shelf
set_option maxRecDepth 100000
theorem vr12 (R : Nat → RoRow) (kd : Int) (w : List UInt8) (l : List (Tr × Nat)) (is : List Nat) (root : Int) (N : List NE) (j : Nat) (k : Exit → St → Fz → Prop) (F : Fz) : rnx (env12 R l is N) 1000 12 (loopOf fi12 0) (fam12 kd w l.length root N (j : Nat)) k F = (bif decide ((↑j : Int) < (↑l.length : Int)) then bif true && decide ((↑j : Int) < (↑l.length : Int)) then bif decide (0 + (↑j : Int).toNat < ((env12 R l is N).R 5).n) then bif true && decide ((↑j : Int) < (↑l.length : Int)) then bif decide (0 + (↑j : Int).toNat < ((env12 R l is N).R 6).n) then ∃ (j_1 : Nat), ∃ (root_1 : Int), j_1.succ.le l.length ∧ AV.agg [AV.int IntKind.i64 (↑(l.getD (0 + (↑j : Int).toNat) dT).fst.kind : Int), AV.str (l.getD (0 + (↑j : Int).toNat) dT).fst.word, AV.sl true ((l.getD (0 + (↑j : Int).toNat) dT).snd + 15) 0 (l.getD (0 + (↑j : Int).toNat) dT).fst.kids.length Cp.no] = AV.agg [AV.int IntKind.i64 (↑(l.getD j_1 dT).fst.kind : Int), AV.str (l.getD j_1 dT).fst.word, AV.sl true ((l.getD j_1 dT).snd + 15) 0 (l.getD j_1 dT).fst.kids.length Cp.no] ∧ (↑(is.getD (0 + (↑j : Int).toNat) 0) : Int) = (↑(is.getD j_1 0) : Int) ∧ TAts F l ∧ NF F N ∧ some (Row.lst 35 2 [AV.agg [AV.sl false 1 0 N.length Cp.no, AV.int IntKind.i64 root]]) = some (Row.lst 35 2 [AV.agg [AV.sl false 1 0 N.length Cp.no, AV.int IntKind.i64 root_1]]) ∧ some (Row.gen 62 3 N.length fun (i : Nat) => neV (N.getD i dN)) = some (Row.gen 62 3 N.length fun (i : Nat) => neV (N.getD i dN)) ∧ ∀ (F' : Fz), Up F F' → k Exit.normal (St.mk [AV.any, AV.ptr false 0 0 0, AV.any, AV.ptr false 2 0 0, AV.any, AV.any, AV.any, AV.ptr false 3 0 0, AV.int IntKind.i64 (IntKind.i64.wrap ((↑j : Int) + 1)), AV.any, AV.any, AV.any, AV.any, AV.any, AV.any, AV.any, AV.any, AV.any, AV.any, AV.any, AV.any, AV.any, AV.any, AV.any, AV.any, AV.any, AV.any, AV.any, AV.any, AV.any, AV.any, AV.any, AV.any, AV.any, AV.any, AV.any, AV.any, AV.int IntKind.i64 (↑j : Int), AV.ptr false 3 0 2, AV.sl true 6 0 l.length Cp.no, AV.int IntKind.i64 (↑l.length : Int), AV.bool true, AV.int IntKind.i64 (↑j : Int), AV.int IntKind.i64 (IntKind.i64.wrap ((↑j : Int) + 1)), AV.ptr false 2 0 2, AV.sl true 5 0 l.length Cp.no, AV.int IntKind.i64 (↑j : Int), AV.ptr true 5 (0 + (↑j : Int).toNat) 0, AV.agg [AV.int IntKind.i64 (↑(l.getD (0 + (↑j : Int).toNat) dT).fst.kind : Int), AV.str (l.getD (0 + (↑j : Int).toNat) dT).fst.word, AV.sl true ((l.getD (0 + (↑j : Int).toNat) dT).snd + 15) 0 (l.getD (0 + (↑j : Int).toNat) dT).fst.kids.length Cp.no], AV.ptr false 0 0 0, AV.ptr false 3 0 2, AV.sl true 6 0 l.length Cp.no, AV.int IntKind.i64 (↑j : Int), AV.ptr true 6 (0 + (↑j : Int).toNat) 0, AV.int IntKind.i64 (↑(is.getD (0 + (↑j : Int).toNat) 0) : Int), AV.bool true, AV.bool false] [some (Row.lst 35 2 [AV.agg [AV.sl false 1 0 N.length Cp.no, AV.int IntKind.i64 root]]), some (Row.gen 62 3 N.length fun (i : Nat) => neV (N.getD i dN)), some (Row.lst 25 3 [AV.agg [AV.int IntKind.i64 kd, AV.str w, AV.sl true 5 0 l.length Cp.no]]), some (Row.lst 62 3 [AV.agg [AV.int IntKind.i64 kd, AV.str w, AV.sl true 6 0 l.length Cp.no]]), none, none]) F' else False else False else False else False else k (Exit.exit 0) (St.mk [AV.any, AV.ptr false 0 0 0, AV.any, AV.ptr false 2 0 0, AV.any, AV.any, AV.any, AV.ptr false 3 0 0, AV.int IntKind.i64 (↑j : Int), AV.any, AV.any, AV.any, AV.any, AV.any, AV.any, AV.any, AV.any, AV.any, AV.any, AV.any, AV.any, AV.any, AV.any, AV.any, AV.any, AV.any, AV.any, AV.any, AV.any, AV.any, AV.any, AV.any, AV.any, AV.any, AV.any, AV.any, AV.any, AV.int IntKind.i64 (↑j : Int), AV.ptr false 3 0 2, AV.sl true 6 0 l.length Cp.no, AV.int IntKind.i64 (↑l.length : Int), AV.bool false, AV.any, AV.any, AV.any, AV.any, AV.any, AV.any, AV.any, AV.any, AV.any, AV.any, AV.any, AV.any, AV.any, AV.any, AV.any] [some (Row.lst 35 2 [AV.agg [AV.sl false 1 0 N.length Cp.no, AV.int IntKind.i64 root]]), some (Row.gen 62 3 N.length fun (i : Nat) => neV (N.getD i dN)), some (Row.lst 25 3 [AV.agg [AV.int IntKind.i64 kd, AV.str w, AV.sl true 5 0 l.length Cp.no]]), some (Row.lst 62 3 [AV.agg [AV.int IntKind.i64 kd, AV.str w, AV.sl true 6 0 l.length Cp.no]])]) F) := by kernel_rfl
theorem vt12 (R : Nat → RoRow) (kd : Int) (w : List UInt8) (l : List (Tr × Nat)) (is : List Nat) (root : Int) (N : List NE) (q : Exit → Nat → AV → Option Row → Option Row → Nat → Fz → Prop) (F : Fz) : rnx ((env12 R l is N).addLoop 12 0 (lp12 kd w l root N)) 1000 12 (tailC 2 fi12.body) (st12 kd w l.length root N) (fun e st => q e st.tmps.length (nthV st.tmps 6) (st.rows.live 0) (st.rows.live 1) st.rows.length) F = (bif kd != kd then q Exit.ret 57 (AV.bool false) (some (Row.lst 35 2 [AV.agg [AV.sl false 1 0 N.length Cp.no, AV.int IntKind.i64 root]])) (some (Row.gen 62 3 N.length fun (i : Nat) => neV (N.getD i dN))) 4 F else bif !w == w then q Exit.ret 57 (AV.bool false) (some (Row.lst 35 2 [AV.agg [AV.sl false 1 0 N.length Cp.no, AV.int IntKind.i64 root]])) (some (Row.gen 62 3 N.length fun (i : Nat) => neV (N.getD i dN))) 4 F else bif (↑l.length : Int) != (↑l.length : Int) then q Exit.ret 57 (AV.bool false) (some (Row.lst 35 2 [AV.agg [AV.sl false 1 0 N.length Cp.no, AV.int IntKind.i64 root]])) (some (Row.gen 62 3 N.length fun (i : Nat) => neV (N.getD i dN))) 4 F else 57 = 57 ∧ AV.ptr false 0 0 0 = AV.ptr false 0 0 0 ∧ AV.ptr false 2 0 0 = AV.ptr false 2 0 0 ∧ AV.ptr false 3 0 0 = AV.ptr false 3 0 0 ∧ AV.int IntKind.i64 (0 : Int) = AV.int IntKind.i64 0 ∧ [some (Row.lst 35 2 [AV.agg [AV.sl false 1 0 N.length Cp.no, AV.int IntKind.i64 root]]), some (Row.gen 62 3 N.length fun (i : Nat) => neV (N.getD i dN)), some (Row.lst 25 3 [AV.agg [AV.int IntKind.i64 kd, AV.str w, AV.sl true 5 0 l.length Cp.no]]), some (Row.lst 62 3 [AV.agg [AV.int IntKind.i64 kd, AV.str w, AV.sl true 6 0 l.length Cp.no]])] = [some (Row.lst 35 2 [AV.agg [AV.sl false 1 0 N.length Cp.no, AV.int IntKind.i64 root]]), some (Row.gen 62 3 N.length fun (i : Nat) => neV (N.getD i dN)), some (Row.lst 25 3 [AV.agg [AV.int IntKind.i64 kd, AV.str w, AV.sl true 5 0 l.length Cp.no]]), some (Row.lst 62 3 [AV.agg [AV.int IntKind.i64 kd, AV.str w, AV.sl true 6 0 l.length Cp.no]])] ∧ TAts F l ∧ NF F N ∧ ∀ (F' : Fz), Up F F' → q Exit.ret 57 (AV.bool true) (some (Row.lst 35 2 [AV.agg [AV.sl false 1 0 N.length Cp.no, AV.int IntKind.i64 root]])) (some (Row.gen 62 3 N.length fun (i : Nat) => neV (N.getD i dN))) 4 F') := by kernel_rfl
theorem vs12 (R : Nat → RoRow) (t : Tr) (x i : Nat) (root : Int) (N : List NE) (q : Exit → St → Fz → Prop) (K : Nat → AV → AV → AV → Rows → Fz → Prop) (F : Fz) : chain (bx R) 1000 12 q (fun st F => K st.tmps.length (nthV st.tmps 1) (nthV st.tmps 3) (nthV st.tmps 7) st.rows F) 2 fi12.body ⟨enterT [exprV t x, .ptr false 0 0 0, .int .i64 (i : Nat)] fi12.ntmps, [some (trow 1 N.length root), some (arow N)]⟩ F = (bif true && decide ((↑i : Int) < (↑N.length : Int)) then bif decide (0 + (↑i : Int).toNat < N.length) then K 57 (AV.ptr false 0 0 0) (AV.ptr false 2 0 0) (AV.ptr false 3 0 0) [some (Row.lst 35 2 [AV.agg [AV.sl false 1 0 N.length Cp.no, AV.int IntKind.i64 root]]), some (Row.gen 62 3 N.length fun (i : Nat) => neV (N.getD i dN)), some (Row.lst 25 3 [AV.agg [AV.int IntKind.i64 (↑t.kind : Int), AV.str t.word, AV.sl true (x + 15) 0 t.kids.length Cp.no]]), some (Row.lst 62 3 [AV.agg [AV.int IntKind.i64 (N.getD (0 + (↑i : Int).toNat) dN).kd, AV.str (N.getD (0 + (↑i : Int).toNat) dN).w, AV.sl true ((N.getD (0 + (↑i : Int).toNat) dN).x + 15) 0 (N.getD (0 + (↑i : Int).toNat) dN).kids.length Cp.no]])] F else False else False) := by kernel_rfl
end Go.Dc.Ke
end
section
set_option linter.unusedVariables false
set_option linter.unusedSimpArgs false
namespace Go.Dc.Ke
open Go.Proofs Go.RowKit Go.Shelf
set_option maxRecDepth 100000
def SameOK (t : Tr) : Prop := ∀ (R : Nat → RoRow), Free6 R → ∀ (x i : Nat) (root : Int) (N : List NE) (F : Fz) (k HP : AV → Rows → Fz → Prop), IsT F t x → NF F N → TrN N t i → (∀ F', Up F F' → k (.bool true) [some (trow 1 N.length root), some (arow N)] F') → SafeCallX Try.prog R 12 [exprV t x, .ptr false 0 0 0, .int .i64 (i : Nat)] [some (trow 1 N.length root), some (arow N)] F k HP
theorem at12 {R : Nat → RoRow} {a : AV} {i root : Int} {N : List NE} {F : Fz} {h : Rows} {b c : Nat} {k HP : AV → Rows → Fz → Prop} (ha : gnd a = true) (hb : h.live b = some (trow c N.length root)) (hc : h.live c = some (arow N))
    (hs : SafeCallX Try.prog R 12 [a, .ptr false 0 0 0, .int .i64 i] [some (trow 1 N.length root), some (arow N)] F (fun v h' F' => v = .bool true ∧ h' = [some (trow 1 N.length root), some (arow N)] ∧ Up F F') (fun _ _ _ => False)) (hk : ∀ F', Up F F' → k (.bool true) (h ++ [none, none]) F') : SafeCallX Try.prog R 12 [a, .ptr false b 0 0, .int .i64 i] h F k HP := by
  have ne : b ≠ c := fun e => by rw [e, hc] at hb; cases hb
  refine (SafeCallX.atN (Q := fun v os tl F' => v = .bool true ∧ os = [some (trow 1 N.length root), some (arow N)] ∧ tl = [] ∧ Up F F') (HP := fun _ _ _ _ => False) [b, c] (hL := [some (trow 1 N.length root), some (arow N)]) (argsL := [a, .ptr false 0 0 0, .int .i64 i]) rfl (by simp [ne]) (fun e he => by
      simp only [List.mem_cons, List.not_mem_nil, or_false] at he
      rcases he with rfl | rfl
      · exact live_lt hb
      · exact live_lt hc) (fun e q he => by
      match e with
      | 0 => cases he; exact ⟨b, _, rfl, hb, trow_v rfl (by simp)⟩
      | 1 => cases he; exact ⟨c, _, rfl, hc, (arow_g N).vw _ _⟩
      | e + 2 => simp [Rows.live] at he) (VwL.cons (gnd_vw _ _ _ ha) (VwL.cons (Vw.ptrI (by simp) rfl) (VwL.cons Vw.intI VwL.nil))) (hs.mono ?_ ?_)).mono ?_ ?_
  · rintro v h' F' _ ⟨rfl, rfl, hu⟩
    exact ⟨[some (trow 1 N.length root), some (arow N)], [], rfl, rfl, rfl, rfl, rfl, hu⟩
  · rintro v h' F' _ h; exact h.elim
  · rintro v h' F' _ ⟨v0, os, tl, rfl, rfl, rfl, rfl, rfl, hu⟩
    show k (.bool true) ((h.set b (some (trow c N.length root))).set c (some (arow N)) ++ [none, none]) F'
    rw [live_set_self hb, live_set_self hc]
    exact hk F' hu
  · rintro v h' F' _ ⟨v0, os, tl, _, _, h⟩; exact h.elim
theorem kid_q {R : Nat → RoRow} (hR : Free6 R) (l : List (Tr × Nat)) : Quits (updR R 5 (kidR l)) 6 := fun i j hj a ha x => by
  cases hi : Nat.beq i 5 with
  | true =>
    simp only [updR, hi, cond_true, AV.cells, List.mem_cons, List.not_mem_nil, or_false] at ha
    rcases ha with rfl | rfl | rfl <;> rfl
  | false =>
    simp only [updR, hi, cond_false] at hj ha
    exact hR.q i j hj a ha x
theorem same_un {t : Tr} (hs : SameOK t) {R : Nat → RoRow} (hR : Free6 R) (l : List (Tr × Nat)) (is : List Nat) {x i : Nat} {root : Int} {N : List NE} {F : Fz} (hx : IsT F t x) (hN : NF F N) (ht : TrN N t i) :
    SafeCallX Try.prog (R12 R l is) 12 [exprV t x, .ptr false 0 0 0, .int .i64 (i : Nat)] [some (trow 1 N.length root), some (arow N)] F (fun v h' F' => v = .bool true ∧ h' = [some (trow 1 N.length root), some (arow N)] ∧ Up F F') (fun _ _ _ => False) := by
  refine SafeCallX.unread (k := 6) (R := updR R 5 (kidR l)) (Q := fun v h' F' => v = .bool true ∧ h' = [some (trow 1 N.length root), some (arow N)] ∧ Up F F') (HP := fun _ _ _ => False) (by decide) hR.n (kid_q hR l) (by kernel_rfl) (by kernel_rfl) ?_ ?_ ?_
  · refine SafeCallX.unread (k := 5) (R := R) (Q := fun v h' F' => v = .bool true ∧ h' = [some (trow 1 N.length root), some (arow N)] ∧ Up F F') (HP := fun _ _ _ => False) (by decide) hR.f.n hR.f.q (by kernel_rfl) (by kernel_rfl) (hs R hR x i root N F _ _ hx hN ht fun F' hu => ⟨rfl, rfl, hu⟩) ?_ ?_
    · rintro v h' F' _ ⟨rfl, rfl, hu⟩; exact ⟨rfl, by kernel_rfl, rfl, rfl, hu⟩
    · rintro v h' F' _ h; exact h.elim
  · rintro v h' F' _ ⟨rfl, rfl, hu⟩; exact ⟨rfl, by kernel_rfl, rfl, rfl, hu⟩
  · rintro v h' F' _ h; exact h.elim
theorem spec12k_ok {R : Nat → RoRow} (hR : Free6 R) {l : List (Tr × Nat)} {is : List Nat} {N : List NE} (hs : ∀ p ∈ l, SameOK p.1) (hT : TrNs N (l.map Prod.fst) is) (HP : HPt) : ∀ args h k F, spec12k l is N args h k F → SafeCallX Try.prog (R12 R l is) 12 args h F k HP := by
  intro args h k F hk
  unfold spec12k at hk
  split at hk
  · obtain ⟨j, root, hj, rfl, rfl, hts, hN, hb, hc, hk⟩ := hk
    have hm := getD_mem hj
    exact at12 rfl hb hc (same_un (hs _ hm) hR l is (hts.is _ hm) hN (hT.get l is j hj)) hk
  · exact hk.elim
theorem env12_ok {R : Nat → RoRow} (hR : Free6 R) {l : List (Tr × Nat)} {is : List Nat} {N : List NE} (hs : ∀ p ∈ l, SameOK p.1) (hT : TrNs N (l.map Prod.fst) is) (HP : HPt) : OKX Try.prog (env12 R l is N) [] HP :=
  (bx_ok _ [] HP).addCall (f := 12) (fi := fi12) (by kernel_rfl) (spec12k_ok hR hs hT HP)
theorem tm12_spr (j : Int) : tm12 j = spr [(1, .ptr false 0 0 0), (3, .ptr false 2 0 0), (7, .ptr false 3 0 0), (8, .int .i64 j)] 0 57 := by kernel_rfl
theorem tm12s_spr : tm12s = spr [(1, .ptr false 0 0 0), (3, .ptr false 2 0 0), (7, .ptr false 3 0 0)] 0 57 := by kernel_rfl
theorem e6_g (kd : Int) (w : List UInt8) (n : Nat) : RowG (.lst 62 3 [.agg [.int .i64 kd, .str w, .sl true 6 0 n .no]]) := .lst1' rfl rfl
theorem rows12_v {N : List NE} {root : Int} {r2 r3 : Row} (h2 : RowG r2) (h3 : RowG r3) : ∀ c r, Rows.live [some (trow 1 N.length root), some (arow N), some r2, some r3] c = some r → RowV some 4 r r := by
  intro c r h
  match c with
  | 0 => cases h; exact trow_v rfl (by simp)
  | 1 => cases h; exact (arow_g N).vw _ _
  | 2 => cases h; exact h2.vw _ _
  | 3 => cases h; exact h3.vw _ _
  | c + 4 => simp [Rows.live] at h
theorem fit12 {R : Nat → RoRow} {T TM : List AV} {N : List NE} {root : Int} {r2 r3 : Row} {tl : Rows} {F : Fz} {S : St → Fz → Prop} (h2 : RowG r2) (h3 : RowG r3) (hT : VwL some 4 T TM) (hS : S ⟨T, [some (trow 1 N.length root), some (arow N), some r2, some r3]⟩ F) : ToX R [] 4 ⟨TM, [some (trow 1 N.length root), some (arow N), some r2, some r3] ++ tl⟩ F S :=
  ToX.fit (stE := ⟨T, [some (trow 1 N.length root), some (arow N), some r2, some r3]⟩) (Fit.pre (L := [some (trow 1 N.length root), some (arow N), some r2, some r3]) (rows12_v h2 h3) hT) (ToX.here hS)
theorem loop12 {R : Nat → RoRow} (hR : Free6 R) (kd : Int) (w : List UInt8) {l : List (Tr × Nat)} {is : List Nat} {N : List NE} (root : Int) (hs : ∀ p ∈ l, SameOK p.1) (hT : TrNs N (l.map Prod.fst) is) (hn : l.length ≤ 100000) (HP : HPt) :
    ∀ st k F, lp12 kd w l root N st k F → SafeX Try.prog (R12 R l is) [] (.block 0 (.loop (loopOf fi12 0))) st F k HP := by
  rintro ⟨TM, rows⟩ k F ⟨h0, h1, h2, h3, h4, h5, hts, hN, hk⟩
  simp only at h0 h1 h2 h3 h4 h5
  subst h5
  have hlen : l.length = is.length := by have := hT.len; simpa using this
  refine SafeX.loop_block (Inv := fun m st F' => Up F F' ∧ ∃ j, j ≤ l.length ∧ m = l.length - j ∧ st = fam12 kd w l.length root N (j : Nat)) ?_ ?_
  · refine fit12 (tl := []) (e5row_g _ _ _) (e6_g _ _ _) (T := tm12 0) ?_ ⟨_, Up.refl F, 0, Nat.zero_le _, rfl, rfl⟩
    rw [tm12_spr]
    exact VwL.ofKnown h0 ⟨by rw [h1]; exact Vw.ptrI (by simp) rfl, by rw [h2]; exact Vw.ptrI (by simp) rfl, by rw [h3]; exact Vw.ptrI (by simp) rfl, by rw [h4]; exact Vw.intI, trivial⟩
  · rintro m st' F' ⟨hu, j, hj, rfl, rfl⟩
    refine SafeX.by mixed (env12_ok hR hs hT HP) (f := 12) (fi := fi12) (i := 0) (by kernel_rfl) (b := .loop (loopOf fi12 0)) (by kernel_rfl) (subs_loop _) 1000 (vr12 R kd w l is root N j _ F') ?_
    have hi2 : (0 + ((j : Nat) : Int).toNat) = j := by simp
    refine hcB (fun h => hcT h (hcT ?_ (hcT h (hcT ?_ ?_)))) fun h => ?_
    · have hlt : j < l.length := by have := of_decide_eq_true h; omega
      rw [hi2]; exact decide_eq_true hlt
    · have hlt : j < l.length := by have := of_decide_eq_true h; omega
      rw [hi2]; exact decide_eq_true (show j < is.length by omega)
    · have hlt : j < l.length := by have := of_decide_eq_true h; omega
      refine ⟨j, root, hlt, by rw [hi2], by rw [hi2], hts.le hu, hN.le hu, rfl, rfl, fun F2 hu2 => ?_⟩
      rw [wrapSucc j (by omega)]
      refine fit12 (tl := [none, none]) (e5row_g _ _ _) (e6_g _ _ _) (T := tm12 ((j + 1 : Nat) : Int)) (by (repeat' (first | with_reducible exact VwL.nil | with_reducible refine VwL.cons ?_ ?_ | with_reducible exact Vw.anyI | with_reducible exact Vw.strI | with_reducible exact Vw.boolI | with_reducible exact Vw.intI | with_reducible exact Vw.nilsI | exact Vw.ptrI (by simp) rfl | exact Vw.slI (by simp) rfl | with_reducible refine Vw.aggI ?_ | exact Vw.gndI rfl))) ⟨l.length - (j + 1), by omega, hu.trans hu2, j + 1, hlt, rfl, rfl⟩
    · have hge : j = l.length := by have := of_decide_eq_false h; omega
      subst hge
      exact fit12 (tl := []) (e5row_g _ _ _) (e6_g _ _ _) (T := tm12 ((l.length : Nat) : Int)) (by (repeat' (first | with_reducible exact VwL.nil | with_reducible refine VwL.cons ?_ ?_ | with_reducible exact Vw.anyI | with_reducible exact Vw.strI | with_reducible exact Vw.boolI | with_reducible exact Vw.intI | with_reducible exact Vw.nilsI | exact Vw.ptrI (by simp) rfl | exact Vw.slI (by simp) rfl | with_reducible refine Vw.aggI ?_ | exact Vw.gndI rfl))) (hk F' hu)
end Go.Dc.Ke
end
section
set_option linter.unusedVariables false
set_option linter.unusedSimpArgs false
namespace Go.Dc.Ke
open Go.Proofs Go.RowKit Go.Shelf
set_option maxRecDepth 100000
theorem subs_tail : ∀ (n : Nat) (c : Code) (p : _), p ∈ subs (tailC n c) → p ∈ subs c
  | 0, _, _, h => h
  | n + 1, .seq x y, p, h => by
    simp only [subs]
    exact List.mem_append_right _ (subs_tail n y p h)
  | n + 1, .skip, _, h => h
  | n + 1, .region _ _ _, _, h => h
  | n + 1, .cond _ _ _, _, h => h
  | n + 1, .block _ _, _, h => h
  | n + 1, .loop _, _, h => h
  | n + 1, .exit _, _, h => h
  | n + 1, .goto _, _, h => h
  | n + 1, .label _, _, h => h
  | n + 1, .ret, _, h => h
  | n + 1, .rangeFunc _ _ _ _, _, h => h
noncomputable abbrev stE12 (root : Int) (N : List NE) : St := ⟨spr [(6, .bool true)] 0 57, [some (trow 1 N.length root), some (arow N), none, none]⟩
theorem tail12 {R : Nat → RoRow} (hR : Free6 R) (kd : Int) (w : List UInt8) {l : List (Tr × Nat)} {is : List Nat} {N : List NE} (root : Int) (hs : ∀ p ∈ l, SameOK p.1) (hT : TrNs N (l.map Prod.fst) is) (hn : l.length ≤ 100000) (F : Fz) (hts : TAts F l) (hN : NF F N) (HP : HPt) :
    SafeX Try.prog (R12 R l is) [] (tailC 2 fi12.body) (st12 kd w l.length root N) F (fun e st' F' => e = .ret ∧ st' = stE12 root N ∧ Up F F') HP := by
  have h1 : SafeX Try.prog (R12 R l is) [] (tailC 2 fi12.body) (st12 kd w l.length root N) F (fun e st' F' => e = .ret ∧ st'.tmps.length = 57 ∧ nthV st'.tmps 6 = .bool true ∧ st'.rows.live 0 = some (trow 1 N.length root) ∧ st'.rows.live 1 = some (arow N) ∧ 4 ≤ st'.rows.length ∧ Up F F') HP := by
    refine SafeX.rnx mixed ((env12_ok hR hs hT HP).addLoop (f := 12) (fi := fi12) (by kernel_rfl) (i := 0) (body := .loop (loopOf fi12 0)) (by kernel_rfl) (loop12 hR kd w root hs hT hn HP)) (f := 12) (fun p hp => by
      unfold Env.subsOf; rw [show ((env12 R l is N).addLoop 12 0 (lp12 kd w l root N)).F 12 = some fi12 by kernel_rfl]; exact subs_tail 2 _ p hp) 1000 ?_
    refine Eq.mpr (vt12 R kd w l is root N (fun e n a r0 r1 m F' => e = .ret ∧ n = 57 ∧ a = .bool true ∧ r0 = some (trow 1 N.length root) ∧ r1 = some (arow N) ∧ 4 ≤ m ∧ Up F F') F) ?_
    refine hcF (by simp) (hcF (by simp) (hcF (by simp) ⟨rfl, rfl, rfl, rfl, rfl, rfl, hts, hN, fun F' hu => ⟨rfl, rfl, rfl, rfl, rfl, by decide, hu⟩⟩))
  refine SafeX.post h1 ?_
  rintro e ⟨TM, rows⟩ F' _ ⟨rfl, h2, h3, h4, h5, h6, hu⟩
  simp only at h2 h3 h4 h5 h6
  refine ToX.fit (stE := stE12 root N) ⟨some, ⟨⟨fun c b hc hb => by cases hb; have : c < 4 := hc; simp only; omega, fun c c' b _ _ h h' => by cases h; cases h'; rfl, fun c r hc => ?_⟩, ?_⟩, fun _ _ => rfl, Nat.le_refl _⟩ (ToX.here ⟨rfl, rfl, hu⟩)
  · match c with
    | 0 => cases hc; exact .inl ⟨0, _, rfl, h4, trow_v rfl (by simp)⟩
    | 1 => cases hc; exact .inl ⟨1, _, rfl, h5, (arow_g N).vw _ _⟩
    | 2 => cases hc
    | 3 => cases hc
    | c + 4 => simp [Rows.live] at hc
  · exact VwL.ofKnown h2 ⟨by rw [h3]; exact Vw.gndI rfl, trivial⟩
theorem res12 : fi12.results = [.tmp 6] := by kernel_rfl
theorem same_step (kd : Nat) (w : List UInt8) (kids : List Tr) (hn : kids.length ≤ 100000) (hs : ∀ u ∈ kids, SameOK u) : SameOK (.mk kd w kids) := by
  intro R hR x i root N F k0 HP hx hN ht hk
  obtain ⟨l, hl, hfr, hts⟩ := hx.kids
  subst hl
  simp only [TrN] at ht
  obtain ⟨e, he, hkd, hw, hT⟩ := ht
  have hi : i < N.length := (List.getElem?_eq_some_iff.1 he).1
  have hem : e ∈ N := List.mem_of_getElem? he
  have heD : N.getD (0 + ((i : Nat) : Int).toNat) dN = e := by
    rw [show 0 + ((i : Nat) : Int).toNat = i by simp, List.getD_eq_getElem?_getD, he]; rfl
  have hfrN := hN.is e hem
  have hlen : l.length = e.kids.length := by have := hT.len; simpa using this
  have tl := tail12 hR (kd : Int) w root (fun p hp => hs p.1 (List.mem_map_of_mem hp)) hT (by simpa using hn) F hts hN (fun _ _ _ => False)
  have s6 := SafeX.swap (R := updR R 5 (kidR l)) (k := 6) (x := e.x) (by decide) hfrN hR.n (kid_q hR l) tl (Q1 := fun e st' F' => e = .ret ∧ st' = stE12 root N ∧ Up F F') (HP1 := fun _ _ _ => False) (by rintro e st' F' _ ⟨rfl, rfl, hu⟩; exact ⟨by kernel_rfl, rfl, rfl, hu⟩) (fun v h' F' _ h => h.elim)
  have s5 := SafeX.swap (R := R) (k := 5) (x := x) (by decide) hfr hR.f.n hR.f.q s6 (Q1 := fun e st' F' => e = .ret ∧ st' = stE12 root N ∧ Up F F') (HP1 := fun _ _ _ => False) (by rintro e st' F' _ ⟨rfl, rfl, hu⟩; exact ⟨by kernel_rfl, rfl, rfl, hu⟩) (fun v h' F' _ h => h.elim)
  have e0 : nmSt 5 x (nmSt 6 e.x (st12 (kd : Int) w l.length root N)) = ⟨tm12s, [some (trow 1 N.length root), some (arow N), some (.lst 25 3 [.agg [.int .i64 (kd : Int), .str w, .sl true (x + 15) 0 l.length .no]]), some (.lst 62 3 [.agg [.int .i64 (kd : Int), .str w, .sl true (e.x + 15) 0 l.length .no]])]⟩ := by kernel_rfl
  rw [e0] at s5
  refine SafeCallX.post (Q := fun v h' F' => v = .bool true ∧ h' = (stE12 root N).rows ∧ Up F F') (HP := fun _ _ _ => False) ?_ ?_ (fun v h' F' _ h => h.elim)
  · refine SafeCallX.of_body (fi := fi12) (bx_ok R [] (fun _ _ _ => False)).T ((bx_ok R [] (fun _ _ _ => False)).F 12 fi12 (by kernel_rfl)) ?_
    have main : SafeX Try.prog R [] fi12.body ⟨enterT [exprV (.mk kd w (l.map Prod.fst)) x, .ptr false 0 0 0, .int .i64 (i : Nat)] fi12.ntmps, [some (trow 1 N.length root), some (arow N)]⟩ F (fun e st' F' => e = .ret ∧ st' = stE12 root N ∧ Up F F') (fun _ _ _ => False) := by
      refine chain_ok (bx_ok R [] _) (f := 12) (K := fun st F1 => F1 = F ∧ st.tmps.length = 57 ∧ nthV st.tmps 1 = .ptr false 0 0 0 ∧ nthV st.tmps 3 = .ptr false 2 0 0 ∧ nthV st.tmps 7 = .ptr false 3 0 0 ∧ st.rows = [some (trow 1 N.length root), some (arow N), some (.lst 25 3 [.agg [.int .i64 (kd : Int), .str w, .sl true (x + 15) 0 l.length .no]]), some (.lst 62 3 [.agg [.int .i64 (kd : Int), .str w, .sl true (e.x + 15) 0 l.length .no]])]) 1000 2 fi12.body _ _ (fun p hp => by unfold Env.subsOf; rw [show (bx R).F 12 = some fi12 by kernel_rfl]; exact hp) ?_ ?_
      · rintro ⟨TM, rows⟩ F1 ⟨rfl, h1, h2, h3, h4, h5⟩
        simp only at h1 h2 h3 h4 h5
        subst h5
        refine SafeX.pre (fit12 (tl := []) (.lst1' rfl rfl) (.lst1' rfl rfl) (T := tm12s) ?_ s5)
        rw [tm12s_spr]
        exact VwL.ofKnown h1 ⟨by rw [h2]; exact Vw.ptrI (by simp) rfl, by rw [h3]; exact Vw.ptrI (by simp) rfl, by rw [h4]; exact Vw.ptrI (by simp) rfl, trivial⟩
      · refine Eq.mpr (vs12 R (.mk kd w (l.map Prod.fst)) x i root N (fun e st' F' => e = .ret ∧ st' = stE12 root N ∧ Up F F') (fun n a b c rows F1 => F1 = F ∧ n = 57 ∧ a = .ptr false 0 0 0 ∧ b = .ptr false 2 0 0 ∧ c = .ptr false 3 0 0 ∧ rows = [some (trow 1 N.length root), some (arow N), some (.lst 25 3 [.agg [.int .i64 (kd : Int), .str w, .sl true (x + 15) 0 l.length .no]]), some (.lst 62 3 [.agg [.int .i64 (kd : Int), .str w, .sl true (e.x + 15) 0 l.length .no]])]) F) ?_
        have e1 : ((i : Nat) : Int) < (N.length : Int) := by omega
        refine hcT (by rw [decide_eq_true e1]; rfl) (hcT (decide_eq_true (by simpa using hi)) ⟨rfl, rfl, rfl, rfl, rfl, ?_⟩)
        rw [heD, hkd, hw, ← hlen]
        simp only [Tr.kids, Tr.kind, Tr.word, List.length_map]
    refine main.mono ?_ fun _ _ _ h => h
    rintro e st' F' ⟨rfl, rfl, hu⟩
    refine ⟨.inr rfl, [.bool true], ?_, rfl, rfl, hu⟩
    rw [res12]
    exact ⟨_, [], rfl, rfl, rfl⟩
  · rintro v h' F' _ ⟨rfl, rfl, hu⟩
    refine ToV.fitW (vE := .bool true) (hE := [some (trow 1 N.length root), some (arow N)]) some ⟨fun c c' b r r' _ _ h h' => by cases h; cases h'; rfl, fun c r hc => ?_⟩ Vw.boolI (fun _ _ => rfl) (Nat.le_refl _) (ToV.here (hk F' hu))
    match c with
    | 0 => cases hc; exact .inl ⟨0, _, rfl, rfl, trow_v rfl (by simp)⟩
    | 1 => cases hc; exact .inl ⟨1, _, rfl, rfl, (arow_g N).vw _ _⟩
    | c + 2 => simp [Rows.live] at hc
mutual
theorem sameOK : ∀ (t : Tr), size t ≤ 100000 → SameOK t
  | .mk k w kids, h => same_step k w kids (by have := sizes_len kids; simp only [size] at h; omega) (sameOKs kids (by simp only [size] at h; omega))
theorem sameOKs : ∀ (ts : List Tr), sizes ts ≤ 100000 → ∀ u ∈ ts, SameOK u
  | [], _, u, h => by cases h
  | t :: ts, hl, u, h => by
    simp only [sizes] at hl
    rcases List.mem_cons.1 h with e | h
    · rw [e]; exact sameOK t (by omega)
    · exact sameOKs ts (by omega) u h
end
def spec12 : CallSpecX := fun args h k => match args with
  | [a, .ptr false b 0 0, .int .i64 i] => atT botX h b fun c n root => fun F => ∃ t x N i0, a = exprV t x ∧ n = N.length ∧ h.live c = some (arow N) ∧ i = (i0 : Nat) ∧ TAt F t x ∧ NF F N ∧ TrA N t i0 ∧ size t ≤ 100000 ∧ ∀ F', Up F F' → k (.bool true) (h ++ [none, none]) F'
  | _ => botX
theorem spec12_ok {R : Nat → RoRow} (hR : Free6 R) (HP : HPt) : ∀ args h k F, spec12 args h k F → SafeCallX Try.prog R 12 args h F k HP := by
  intro args h k F hk
  unfold spec12 at hk
  split at hk
  · obtain ⟨c, n, root, hb, t, x, N, i0, rfl, rfl, hc, rfl, hx, hN, ht, hz, hk⟩ := atT_ofX hk
    exact at12 rfl hb hc (sameOK t hz R hR x i0 root N F _ _ hx.is hN ht.is fun F' hu => ⟨rfl, rfl, hu⟩) hk
  · exact hk.elim
end Go.Dc.Ke
end
