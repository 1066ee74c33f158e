/- Newlines in one form have no 0D left: the loops. -/
import Derived.Test.YtebgogcdndmaaaaLinA
set_option linter.unusedVariables false
set_option linter.unusedSimpArgs false
namespace Go.Dc.Ka
open Go.Proofs Go.RowKit
set_option maxRecDepth 100000
theorem vr13a (ty n : Nat) (F : Nat → Int) (c : Int) (i : Nat) (k : Exit → St → Prop) : rnd (env13 (roI ty n F)) 10000 13 lp13a ⟨tm13a n i c (i : Nat), [some (.gen 38 2 i (inF F))]⟩ k = (bif decide ((↑i : Int) < (↑n : Int)) then bif true && decide ((↑i : Int) < (↑n : Int)) then bif decide (0 + (↑i : Int).toNat < ((env13 (roI ty n F)).R 0).n) then bif decide (0 + i ≤ i) && (true && (true && decide (((Src.gen i fun j => inF F (0 + j)).len + 1) * 16 ≤ 140737488355328))) then bif decide ((↑i : Int) > 0) then bif true && decide ((↑i : Int) < (↑n : Int)) then bif decide (0 + (↑i : Int).toNat < ((env13 (roI ty n F)).R 0).n) then bif F (0 + (↑i : Int).toNat) == 10 then bif decide (0 ≤ IntKind.i64.wrap ((↑i : Int) - 1)) && decide (IntKind.i64.wrap ((↑i : Int) - 1) < (↑n : Int)) then bif decide (0 + (IntKind.i64.wrap ((↑i : Int) - 1)).toNat < ((env13 (roI ty n F)).R 0).n) then bif F (0 + (IntKind.i64.wrap ((↑i : Int) - 1)).toNat) == 13 then k Exit.normal (St.mk [AV.sl true 0 0 n Cp.no, AV.any, AV.any, AV.sl false 2 0 ((Src.gen i fun j => inF F (0 + j)).len + 1) Cp.no, AV.int IntKind.i64 (IntKind.i64.wrap (c + 1)), AV.int IntKind.i64 (IntKind.i64.wrap ((↑i : Int) + 1)), AV.any, AV.any, AV.any, AV.any, AV.any, AV.any, AV.any, AV.any, AV.any, AV.any, AV.any, AV.any, AV.any, AV.int IntKind.i64 (↑i : Int), AV.sl true 0 0 n Cp.no, AV.int IntKind.i64 (↑n : Int), AV.bool true, AV.int IntKind.i64 (↑i : Int), AV.int IntKind.i64 (IntKind.i64.wrap ((↑i : Int) + 1)), AV.sl false 0 0 i Cp.no, AV.sl true 0 0 n Cp.no, AV.int IntKind.i64 (↑i : Int), AV.ptr true 0 (0 + (↑i : Int).toNat) 0, AV.int IntKind.i64 (F (0 + (↑i : Int).toNat)), AV.int IntKind.i64 (↑i : Int), AV.agg [AV.int IntKind.i64 (F (0 + (↑i : Int).toNat)), AV.int IntKind.i64 (↑i : Int)], AV.sl false 1 0 1 Cp.tight, AV.sl false 2 0 ((Src.gen i fun j => inF F (0 + j)).len + 1) Cp.no, AV.int IntKind.i64 (↑i : Int), AV.bool (decide ((↑i : Int) > 0)), AV.bool true, AV.sl true 0 0 n Cp.no, AV.int IntKind.i64 (↑i : Int), AV.ptr true 0 (0 + (↑i : Int).toNat) 0, AV.int IntKind.i64 (F (0 + (↑i : Int).toNat)), AV.bool (F (0 + (↑i : Int).toNat) == 10), AV.bool (F (0 + (↑i : Int).toNat) == 10), AV.bool true, AV.sl true 0 0 n Cp.no, AV.int IntKind.i64 (↑i : Int), AV.int IntKind.i64 (IntKind.i64.wrap ((↑i : Int) - 1)), AV.ptr true 0 (0 + (IntKind.i64.wrap ((↑i : Int) - 1)).toNat) 0, AV.int IntKind.i64 (F (0 + (IntKind.i64.wrap ((↑i : Int) - 1)).toNat)), AV.bool (F (0 + (IntKind.i64.wrap ((↑i : Int) - 1)).toNat) == 13), AV.bool true, AV.int IntKind.i64 c, AV.int IntKind.i64 (IntKind.i64.wrap (c + 1)), AV.any, AV.any, AV.any, AV.any, AV.any, AV.any, AV.any, AV.any, AV.any, AV.any, AV.any, AV.any, AV.any, AV.any, AV.any, AV.any, AV.any, AV.any, AV.any, AV.any, AV.any, AV.any, AV.any, AV.any, AV.any, AV.any, AV.any, AV.any, AV.any, AV.any, AV.any, AV.any, AV.any, AV.any, AV.any, AV.any, AV.any, AV.any, AV.any, AV.any, AV.any, AV.any, AV.any, AV.any, AV.any, AV.any, AV.any, AV.any, AV.any, AV.any, AV.any, AV.any, AV.any, AV.any, AV.any, AV.any, AV.any, AV.any, AV.any, AV.any, AV.any, AV.any, AV.any, AV.any, AV.any, AV.any, AV.any, AV.any, AV.any, AV.any, AV.any, AV.any] [none, some (Row.lst 38 2 [AV.agg [AV.int IntKind.i64 (F (0 + (↑i : Int).toNat)), AV.int IntKind.i64 (↑i : Int)]]), some (Row.gen 38 2 ((Src.gen i fun j => inF F (0 + j)).len + 1) fun j => bif j.blt (Src.gen i fun j => inF F (0 + j)).len then AV.agg [AV.int IntKind.i64 (F (0 + j)), AV.int IntKind.i64 (↑(0 + j) : Int)] else (Src.lst [AV.agg [AV.int IntKind.i64 (F (0 + (↑i : Int).toNat)), AV.int IntKind.i64 (↑i : Int)]]).at_ (j - (Src.gen i fun j => inF F (0 + j)).len))]) else k Exit.normal (St.mk [AV.sl true 0 0 n Cp.no, AV.any, AV.any, AV.sl false 2 0 ((Src.gen i fun j => inF F (0 + j)).len + 1) Cp.no, AV.int IntKind.i64 c, AV.int IntKind.i64 (IntKind.i64.wrap ((↑i : Int) + 1)), AV.any, AV.any, AV.any, AV.any, AV.any, AV.any, AV.any, AV.any, AV.any, AV.any, AV.any, AV.any, AV.any, AV.int IntKind.i64 (↑i : Int), AV.sl true 0 0 n Cp.no, AV.int IntKind.i64 (↑n : Int), AV.bool true, AV.int IntKind.i64 (↑i : Int), AV.int IntKind.i64 (IntKind.i64.wrap ((↑i : Int) + 1)), AV.sl false 0 0 i Cp.no, AV.sl true 0 0 n Cp.no, AV.int IntKind.i64 (↑i : Int), AV.ptr true 0 (0 + (↑i : Int).toNat) 0, AV.int IntKind.i64 (F (0 + (↑i : Int).toNat)), AV.int IntKind.i64 (↑i : Int), AV.agg [AV.int IntKind.i64 (F (0 + (↑i : Int).toNat)), AV.int IntKind.i64 (↑i : Int)], AV.sl false 1 0 1 Cp.tight, AV.sl false 2 0 ((Src.gen i fun j => inF F (0 + j)).len + 1) Cp.no, AV.int IntKind.i64 (↑i : Int), AV.bool (decide ((↑i : Int) > 0)), AV.bool true, AV.sl true 0 0 n Cp.no, AV.int IntKind.i64 (↑i : Int), AV.ptr true 0 (0 + (↑i : Int).toNat) 0, AV.int IntKind.i64 (F (0 + (↑i : Int).toNat)), AV.bool (F (0 + (↑i : Int).toNat) == 10), AV.bool (F (0 + (↑i : Int).toNat) == 10), AV.bool true, AV.sl true 0 0 n Cp.no, AV.int IntKind.i64 (↑i : Int), AV.int IntKind.i64 (IntKind.i64.wrap ((↑i : Int) - 1)), AV.ptr true 0 (0 + (IntKind.i64.wrap ((↑i : Int) - 1)).toNat) 0, AV.int IntKind.i64 (F (0 + (IntKind.i64.wrap ((↑i : Int) - 1)).toNat)), AV.bool (F (0 + (IntKind.i64.wrap ((↑i : Int) - 1)).toNat) == 13), AV.bool false, AV.any, AV.any, AV.any, AV.any, AV.any, AV.any, AV.any, AV.any, AV.any, AV.any, AV.any, AV.any, AV.any, AV.any, AV.any, AV.any, AV.any, AV.any, AV.any, AV.any, AV.any, AV.any, AV.any, AV.any, AV.any, AV.any, AV.any, AV.any, AV.any, AV.any, AV.any, AV.any, AV.any, AV.any, AV.any, AV.any, AV.any, AV.any, AV.any, AV.any, AV.any, AV.any, AV.any, AV.any, AV.any, AV.any, AV.any, AV.any, AV.any, AV.any, AV.any, AV.any, AV.any, AV.any, AV.any, AV.any, AV.any, AV.any, AV.any, AV.any, AV.any, AV.any, AV.any, AV.any, AV.any, AV.any, AV.any, AV.any, AV.any, AV.any, AV.any, AV.any, AV.any, AV.any] [none, some (Row.lst 38 2 [AV.agg [AV.int IntKind.i64 (F (0 + (↑i : Int).toNat)), AV.int IntKind.i64 (↑i : Int)]]), some (Row.gen 38 2 ((Src.gen i fun j => inF F (0 + j)).len + 1) fun j => bif j.blt (Src.gen i fun j => inF F (0 + j)).len then AV.agg [AV.int IntKind.i64 (F (0 + j)), AV.int IntKind.i64 (↑(0 + j) : Int)] else (Src.lst [AV.agg [AV.int IntKind.i64 (F (0 + (↑i : Int).toNat)), AV.int IntKind.i64 (↑i : Int)]]).at_ (j - (Src.gen i fun j => inF F (0 + j)).len))]) else False else False else k Exit.normal (St.mk [AV.sl true 0 0 n Cp.no, AV.any, AV.any, AV.sl false 2 0 ((Src.gen i fun j => inF F (0 + j)).len + 1) Cp.no, AV.int IntKind.i64 c, AV.int IntKind.i64 (IntKind.i64.wrap ((↑i : Int) + 1)), AV.any, AV.any, AV.any, AV.any, AV.any, AV.any, AV.any, AV.any, AV.any, AV.any, AV.any, AV.any, AV.any, AV.int IntKind.i64 (↑i : Int), AV.sl true 0 0 n Cp.no, AV.int IntKind.i64 (↑n : Int), AV.bool true, AV.int IntKind.i64 (↑i : Int), AV.int IntKind.i64 (IntKind.i64.wrap ((↑i : Int) + 1)), AV.sl false 0 0 i Cp.no, AV.sl true 0 0 n Cp.no, AV.int IntKind.i64 (↑i : Int), AV.ptr true 0 (0 + (↑i : Int).toNat) 0, AV.int IntKind.i64 (F (0 + (↑i : Int).toNat)), AV.int IntKind.i64 (↑i : Int), AV.agg [AV.int IntKind.i64 (F (0 + (↑i : Int).toNat)), AV.int IntKind.i64 (↑i : Int)], AV.sl false 1 0 1 Cp.tight, AV.sl false 2 0 ((Src.gen i fun j => inF F (0 + j)).len + 1) Cp.no, AV.int IntKind.i64 (↑i : Int), AV.bool (decide ((↑i : Int) > 0)), AV.bool true, AV.sl true 0 0 n Cp.no, AV.int IntKind.i64 (↑i : Int), AV.ptr true 0 (0 + (↑i : Int).toNat) 0, AV.int IntKind.i64 (F (0 + (↑i : Int).toNat)), AV.bool (F (0 + (↑i : Int).toNat) == 10), AV.bool (F (0 + (↑i : Int).toNat) == 10), AV.bool false, AV.tup [], AV.tup [], AV.tup [], AV.tup [], AV.tup [], AV.tup [], AV.bool false, AV.any, AV.any, AV.any, AV.any, AV.any, AV.any, AV.any, AV.any, AV.any, AV.any, AV.any, AV.any, AV.any, AV.any, AV.any, AV.any, AV.any, AV.any, AV.any, AV.any, AV.any, AV.any, AV.any, AV.any, AV.any, AV.any, AV.any, AV.any, AV.any, AV.any, AV.any, AV.any, AV.any, AV.any, AV.any, AV.any, AV.any, AV.any, AV.any, AV.any, AV.any, AV.any, AV.any, AV.any, AV.any, AV.any, AV.any, AV.any, AV.any, AV.any, AV.any, AV.any, AV.any, AV.any, AV.any, AV.any, AV.any, AV.any, AV.any, AV.any, AV.any, AV.any, AV.any, AV.any, AV.any, AV.any, AV.any, AV.any, AV.any, AV.any, AV.any, AV.any, AV.any, AV.any] [none, some (Row.lst 38 2 [AV.agg [AV.int IntKind.i64 (F (0 + (↑i : Int).toNat)), AV.int IntKind.i64 (↑i : Int)]]), some (Row.gen 38 2 ((Src.gen i fun j => inF F (0 + j)).len + 1) fun j => bif j.blt (Src.gen i fun j => inF F (0 + j)).len then AV.agg [AV.int IntKind.i64 (F (0 + j)), AV.int IntKind.i64 (↑(0 + j) : Int)] else (Src.lst [AV.agg [AV.int IntKind.i64 (F (0 + (↑i : Int).toNat)), AV.int IntKind.i64 (↑i : Int)]]).at_ (j - (Src.gen i fun j => inF F (0 + j)).len))]) else False else False else k Exit.normal (St.mk [AV.sl true 0 0 n Cp.no, AV.any, AV.any, AV.sl false 2 0 ((Src.gen i fun j => inF F (0 + j)).len + 1) Cp.no, AV.int IntKind.i64 c, AV.int IntKind.i64 (IntKind.i64.wrap ((↑i : Int) + 1)), AV.any, AV.any, AV.any, AV.any, AV.any, AV.any, AV.any, AV.any, AV.any, AV.any, AV.any, AV.any, AV.any, AV.int IntKind.i64 (↑i : Int), AV.sl true 0 0 n Cp.no, AV.int IntKind.i64 (↑n : Int), AV.bool true, AV.int IntKind.i64 (↑i : Int), AV.int IntKind.i64 (IntKind.i64.wrap ((↑i : Int) + 1)), AV.sl false 0 0 i Cp.no, AV.sl true 0 0 n Cp.no, AV.int IntKind.i64 (↑i : Int), AV.ptr true 0 (0 + (↑i : Int).toNat) 0, AV.int IntKind.i64 (F (0 + (↑i : Int).toNat)), AV.int IntKind.i64 (↑i : Int), AV.agg [AV.int IntKind.i64 (F (0 + (↑i : Int).toNat)), AV.int IntKind.i64 (↑i : Int)], AV.sl false 1 0 1 Cp.tight, AV.sl false 2 0 ((Src.gen i fun j => inF F (0 + j)).len + 1) Cp.no, AV.int IntKind.i64 (↑i : Int), AV.bool (decide ((↑i : Int) > 0)), AV.bool false, AV.tup [], AV.tup [], AV.tup [], AV.tup [], AV.tup [], AV.bool false, AV.bool false, AV.tup [], AV.tup [], AV.tup [], AV.tup [], AV.tup [], AV.tup [], AV.bool false, AV.any, AV.any, AV.any, AV.any, AV.any, AV.any, AV.any, AV.any, AV.any, AV.any, AV.any, AV.any, AV.any, AV.any, AV.any, AV.any, AV.any, AV.any, AV.any, AV.any, AV.any, AV.any, AV.any, AV.any, AV.any, AV.any, AV.any, AV.any, AV.any, AV.any, AV.any, AV.any, AV.any, AV.any, AV.any, AV.any, AV.any, AV.any, AV.any, AV.any, AV.any, AV.any, AV.any, AV.any, AV.any, AV.any, AV.any, AV.any, AV.any, AV.any, AV.any, AV.any, AV.any, AV.any, AV.any, AV.any, AV.any, AV.any, AV.any, AV.any, AV.any, AV.any, AV.any, AV.any, AV.any, AV.any, AV.any, AV.any, AV.any, AV.any, AV.any, AV.any, AV.any, AV.any] [none, some (Row.lst 38 2 [AV.agg [AV.int IntKind.i64 (F (0 + (↑i : Int).toNat)), AV.int IntKind.i64 (↑i : Int)]]), some (Row.gen 38 2 ((Src.gen i fun j => inF F (0 + j)).len + 1) fun j => bif j.blt (Src.gen i fun j => inF F (0 + j)).len then AV.agg [AV.int IntKind.i64 (F (0 + j)), AV.int IntKind.i64 (↑(0 + j) : Int)] else (Src.lst [AV.agg [AV.int IntKind.i64 (F (0 + (↑i : Int).toNat)), AV.int IntKind.i64 (↑i : Int)]]).at_ (j - (Src.gen i fun j => inF F (0 + j)).len))]) else False else False else False else k (Exit.exit 0) (St.mk [AV.sl true 0 0 n Cp.no, AV.any, AV.any, AV.sl false 0 0 i Cp.no, AV.int IntKind.i64 c, AV.int IntKind.i64 (↑i : Int), AV.any, AV.any, AV.any, AV.any, AV.any, AV.any, AV.any, AV.any, AV.any, AV.any, AV.any, AV.any, AV.any, AV.int IntKind.i64 (↑i : Int), AV.sl true 0 0 n Cp.no, AV.int IntKind.i64 (↑n : Int), AV.bool false, AV.any, AV.any, AV.any, AV.any, AV.any, AV.any, AV.any, AV.any, AV.any, AV.any, AV.any, AV.any, AV.any, AV.any, AV.any, AV.any, AV.any, AV.any, AV.any, AV.any, AV.any, AV.any, AV.any, AV.any, AV.any, AV.any, AV.any, AV.any, AV.any, AV.any, AV.any, AV.any, AV.any, AV.any, AV.any, AV.any, AV.any, AV.any, AV.any, AV.any, AV.any, AV.any, AV.any, AV.any, AV.any, AV.any, AV.any, AV.any, AV.any, AV.any, AV.any, AV.any, AV.any, AV.any, AV.any, AV.any, AV.any, AV.any, AV.any, AV.any, AV.any, AV.any, AV.any, AV.any, AV.any, AV.any, AV.any, AV.any, AV.any, AV.any, AV.any, AV.any, AV.any, AV.any, AV.any, AV.any, AV.any, AV.any, AV.any, AV.any, AV.any, AV.any, AV.any, AV.any, AV.any, AV.any, AV.any, AV.any, AV.any, AV.any, AV.any, AV.any, AV.any, AV.any, AV.any, AV.any, AV.any, AV.any, AV.any, AV.any, AV.any, AV.any] [some (Row.gen 38 2 i fun j => rune (F j) (↑j : Int))])) := by kernel_rfl
theorem vr33 (R : Nat → RoRow) (n : Nat) (F : Nat → Int) (a : Bool) (o : List (Int × Int)) (i : Nat) (k : Exit → St → Prop) : rnd (env13 R) 10000 33 lp33 ⟨tm33 n o.length (i : Nat), rP n F a o⟩ k = (bif decide ((↑i : Int) < (↑n : Int)) then bif true && decide ((↑i : Int) < (↑n : Int)) then bif decide (0 + (↑i : Int).toNat < n) then bif a then bif F (0 + (↑i : Int).toNat) == 13 then bif !F (0 + (↑i : Int).toNat) == 10 then bif decide (0 + o.length ≤ o.length) && (true && (true && decide (((Src.gen o.length fun j => outG o (0 + j)).len + 1) * 16 ≤ 140737488355328))) then k Exit.normal (St.mk [AV.ptr false 3 0 0, AV.any, AV.any, AV.any, AV.any, AV.sl false 7 0 ((Src.gen o.length fun j => outG o (0 + j)).len + 1) Cp.no, AV.any, AV.ptr false 5 0 0, AV.bool (F (0 + (↑i : Int).toNat) == 10), AV.any, AV.any, AV.any, AV.any, AV.sl false 0 0 n Cp.no, AV.int IntKind.i64 (↑n : Int), AV.int IntKind.i64 (IntKind.i64.wrap ((↑i : Int) + 1)), AV.bool true, AV.ptr false 0 (0 + (↑i : Int).toNat) 0, AV.agg [AV.int IntKind.i64 (F (0 + (↑i : Int).toNat)), AV.int IntKind.i64 (↑(0 + (↑i : Int).toNat) : Int)], AV.ptr false 3 0 0, AV.ptr false 3 0 0, AV.ptr false 3 0 0, AV.bool a, AV.bool true, AV.ptr false 5 0 0, AV.int IntKind.i64 (F (0 + (↑i : Int).toNat)), AV.bool (F (0 + (↑i : Int).toNat) == 10), AV.bool (F (0 + (↑i : Int).toNat) == 10), AV.ptr false 3 0 0, AV.ptr false 5 0 0, AV.int IntKind.i64 (F (0 + (↑i : Int).toNat)), AV.bool (F (0 + (↑i : Int).toNat) == 13), AV.ptr false 3 0 0, AV.ptr false 3 0 0, AV.ptr false 3 0 0, AV.ptr false 3 0 0, AV.ptr false 3 0 0, AV.bool true, AV.ptr false 5 0 0, AV.bool (F (0 + (↑i : Int).toNat) == 10), AV.bool true, AV.sl false 4 0 o.length Cp.no, AV.agg [AV.int IntKind.i64 10, AV.int IntKind.i64 (↑(0 + (↑i : Int).toNat) : Int)], AV.sl false 6 0 1 Cp.tight, AV.sl false 7 0 ((Src.gen o.length fun j => outG o (0 + j)).len + 1) Cp.no, AV.int IntKind.i64 (IntKind.i64.wrap ((↑i : Int) + 1)), AV.any] [some (Row.gen 38 2 n fun j => rune (F j) (↑j : Int)), none, some (Row.gen 38 2 n fun j => rune (F j) (↑j : Int)), some (Row.lst 51 1 [AV.agg [AV.bool (F (0 + (↑i : Int).toNat) == 13)]]), none, some (Row.lst 38 2 [AV.agg [AV.int IntKind.i64 10, AV.int IntKind.i64 (↑(0 + (↑i : Int).toNat) : Int)]]), some (Row.lst 38 2 [AV.agg [AV.int IntKind.i64 10, AV.int IntKind.i64 (↑(0 + (↑i : Int).toNat) : Int)]]), some (Row.gen 38 2 ((Src.gen o.length fun j => outG o (0 + j)).len + 1) fun j => bif j.blt (Src.gen o.length fun j => outG o (0 + j)).len then AV.agg [AV.int IntKind.i64 (o.getD (0 + j) (0, 0)).fst, AV.int IntKind.i64 (o.getD (0 + j) (0, 0)).snd] else (Src.lst [AV.agg [AV.int IntKind.i64 10, AV.int IntKind.i64 (↑(0 + (↑i : Int).toNat) : Int)]]).at_ (j - (Src.gen o.length fun j => outG o (0 + j)).len))]) else False else k Exit.normal (St.mk [AV.ptr false 3 0 0, AV.any, AV.any, AV.any, AV.any, AV.sl false 4 0 o.length Cp.no, AV.any, AV.ptr false 5 0 0, AV.bool (F (0 + (↑i : Int).toNat) == 10), AV.any, AV.any, AV.any, AV.any, AV.sl false 0 0 n Cp.no, AV.int IntKind.i64 (↑n : Int), AV.int IntKind.i64 (IntKind.i64.wrap ((↑i : Int) + 1)), AV.bool true, AV.ptr false 0 (0 + (↑i : Int).toNat) 0, AV.agg [AV.int IntKind.i64 (F (0 + (↑i : Int).toNat)), AV.int IntKind.i64 (↑(0 + (↑i : Int).toNat) : Int)], AV.ptr false 3 0 0, AV.ptr false 3 0 0, AV.ptr false 3 0 0, AV.bool a, AV.bool true, AV.ptr false 5 0 0, AV.int IntKind.i64 (F (0 + (↑i : Int).toNat)), AV.bool (F (0 + (↑i : Int).toNat) == 10), AV.bool (F (0 + (↑i : Int).toNat) == 10), AV.ptr false 3 0 0, AV.ptr false 5 0 0, AV.int IntKind.i64 (F (0 + (↑i : Int).toNat)), AV.bool (F (0 + (↑i : Int).toNat) == 13), AV.ptr false 3 0 0, AV.ptr false 3 0 0, AV.ptr false 3 0 0, AV.ptr false 3 0 0, AV.ptr false 3 0 0, AV.bool true, AV.ptr false 5 0 0, AV.bool (F (0 + (↑i : Int).toNat) == 10), AV.bool false, AV.any, AV.any, AV.any, AV.any, AV.int IntKind.i64 (IntKind.i64.wrap ((↑i : Int) + 1)), AV.any] [some (Row.gen 38 2 n fun j => rune (F j) (↑j : Int)), none, some (Row.gen 38 2 n fun j => rune (F j) (↑j : Int)), some (Row.lst 51 1 [AV.agg [AV.bool (F (0 + (↑i : Int).toNat) == 13)]]), some (Row.gen 38 2 o.length fun j => rune (o.getD j (0, 0)).fst (o.getD j (0, 0)).snd), some (Row.lst 38 2 [AV.agg [AV.int IntKind.i64 10, AV.int IntKind.i64 (↑(0 + (↑i : Int).toNat) : Int)]])]) else bif !F (0 + (↑i : Int).toNat) == 10 then bif decide (0 + o.length ≤ o.length) && (true && (true && decide (((Src.gen o.length fun j => outG o (0 + j)).len + 1) * 16 ≤ 140737488355328))) then k Exit.normal (St.mk [AV.ptr false 3 0 0, AV.any, AV.any, AV.any, AV.any, AV.sl false 7 0 ((Src.gen o.length fun j => outG o (0 + j)).len + 1) Cp.no, AV.any, AV.ptr false 5 0 0, AV.bool (F (0 + (↑i : Int).toNat) == 10), AV.any, AV.any, AV.any, AV.any, AV.sl false 0 0 n Cp.no, AV.int IntKind.i64 (↑n : Int), AV.int IntKind.i64 (IntKind.i64.wrap ((↑i : Int) + 1)), AV.bool true, AV.ptr false 0 (0 + (↑i : Int).toNat) 0, AV.agg [AV.int IntKind.i64 (F (0 + (↑i : Int).toNat)), AV.int IntKind.i64 (↑(0 + (↑i : Int).toNat) : Int)], AV.ptr false 3 0 0, AV.ptr false 3 0 0, AV.ptr false 3 0 0, AV.bool a, AV.bool true, AV.ptr false 5 0 0, AV.int IntKind.i64 (F (0 + (↑i : Int).toNat)), AV.bool (F (0 + (↑i : Int).toNat) == 10), AV.bool (F (0 + (↑i : Int).toNat) == 10), AV.ptr false 3 0 0, AV.ptr false 5 0 0, AV.int IntKind.i64 (F (0 + (↑i : Int).toNat)), AV.bool (F (0 + (↑i : Int).toNat) == 13), AV.ptr false 3 0 0, AV.ptr false 3 0 0, AV.ptr false 3 0 0, AV.ptr false 3 0 0, AV.ptr false 3 0 0, AV.bool false, AV.any, AV.bool (F (0 + (↑i : Int).toNat) == 10), AV.bool true, AV.sl false 4 0 o.length Cp.no, AV.agg [AV.int IntKind.i64 (F (0 + (↑i : Int).toNat)), AV.int IntKind.i64 (↑(0 + (↑i : Int).toNat) : Int)], AV.sl false 6 0 1 Cp.tight, AV.sl false 7 0 ((Src.gen o.length fun j => outG o (0 + j)).len + 1) Cp.no, AV.int IntKind.i64 (IntKind.i64.wrap ((↑i : Int) + 1)), AV.any] [some (Row.gen 38 2 n fun j => rune (F j) (↑j : Int)), none, some (Row.gen 38 2 n fun j => rune (F j) (↑j : Int)), some (Row.lst 51 1 [AV.agg [AV.bool (F (0 + (↑i : Int).toNat) == 13)]]), none, some (Row.lst 38 2 [AV.agg [AV.int IntKind.i64 (F (0 + (↑i : Int).toNat)), AV.int IntKind.i64 (↑(0 + (↑i : Int).toNat) : Int)]]), some (Row.lst 38 2 [AV.agg [AV.int IntKind.i64 (F (0 + (↑i : Int).toNat)), AV.int IntKind.i64 (↑(0 + (↑i : Int).toNat) : Int)]]), some (Row.gen 38 2 ((Src.gen o.length fun j => outG o (0 + j)).len + 1) fun j => bif j.blt (Src.gen o.length fun j => outG o (0 + j)).len then AV.agg [AV.int IntKind.i64 (o.getD (0 + j) (0, 0)).fst, AV.int IntKind.i64 (o.getD (0 + j) (0, 0)).snd] else (Src.lst [AV.agg [AV.int IntKind.i64 (F (0 + (↑i : Int).toNat)), AV.int IntKind.i64 (↑(0 + (↑i : Int).toNat) : Int)]]).at_ (j - (Src.gen o.length fun j => outG o (0 + j)).len))]) else False else k Exit.normal (St.mk [AV.ptr false 3 0 0, AV.any, AV.any, AV.any, AV.any, AV.sl false 4 0 o.length Cp.no, AV.any, AV.ptr false 5 0 0, AV.bool (F (0 + (↑i : Int).toNat) == 10), AV.any, AV.any, AV.any, AV.any, AV.sl false 0 0 n Cp.no, AV.int IntKind.i64 (↑n : Int), AV.int IntKind.i64 (IntKind.i64.wrap ((↑i : Int) + 1)), AV.bool true, AV.ptr false 0 (0 + (↑i : Int).toNat) 0, AV.agg [AV.int IntKind.i64 (F (0 + (↑i : Int).toNat)), AV.int IntKind.i64 (↑(0 + (↑i : Int).toNat) : Int)], AV.ptr false 3 0 0, AV.ptr false 3 0 0, AV.ptr false 3 0 0, AV.bool a, AV.bool true, AV.ptr false 5 0 0, AV.int IntKind.i64 (F (0 + (↑i : Int).toNat)), AV.bool (F (0 + (↑i : Int).toNat) == 10), AV.bool (F (0 + (↑i : Int).toNat) == 10), AV.ptr false 3 0 0, AV.ptr false 5 0 0, AV.int IntKind.i64 (F (0 + (↑i : Int).toNat)), AV.bool (F (0 + (↑i : Int).toNat) == 13), AV.ptr false 3 0 0, AV.ptr false 3 0 0, AV.ptr false 3 0 0, AV.ptr false 3 0 0, AV.ptr false 3 0 0, AV.bool false, AV.any, AV.bool (F (0 + (↑i : Int).toNat) == 10), AV.bool false, AV.any, AV.any, AV.any, AV.any, AV.int IntKind.i64 (IntKind.i64.wrap ((↑i : Int) + 1)), AV.any] [some (Row.gen 38 2 n fun j => rune (F j) (↑j : Int)), none, some (Row.gen 38 2 n fun j => rune (F j) (↑j : Int)), some (Row.lst 51 1 [AV.agg [AV.bool (F (0 + (↑i : Int).toNat) == 13)]]), some (Row.gen 38 2 o.length fun j => rune (o.getD j (0, 0)).fst (o.getD j (0, 0)).snd), some (Row.lst 38 2 [AV.agg [AV.int IntKind.i64 (F (0 + (↑i : Int).toNat)), AV.int IntKind.i64 (↑(0 + (↑i : Int).toNat) : Int)]])]) else bif F (0 + (↑i : Int).toNat) == 13 then bif decide (0 + o.length ≤ o.length) && (true && (true && decide (((Src.gen o.length fun j => outG o (0 + j)).len + 1) * 16 ≤ 140737488355328))) then k Exit.normal (St.mk [AV.ptr false 3 0 0, AV.any, AV.any, AV.any, AV.any, AV.sl false 7 0 ((Src.gen o.length fun j => outG o (0 + j)).len + 1) Cp.no, AV.any, AV.ptr false 5 0 0, AV.bool false, AV.any, AV.any, AV.any, AV.any, AV.sl false 0 0 n Cp.no, AV.int IntKind.i64 (↑n : Int), AV.int IntKind.i64 (IntKind.i64.wrap ((↑i : Int) + 1)), AV.bool true, AV.ptr false 0 (0 + (↑i : Int).toNat) 0, AV.agg [AV.int IntKind.i64 (F (0 + (↑i : Int).toNat)), AV.int IntKind.i64 (↑(0 + (↑i : Int).toNat) : Int)], AV.ptr false 3 0 0, AV.ptr false 3 0 0, AV.ptr false 3 0 0, AV.bool a, AV.bool false, AV.tup [], AV.tup [], AV.tup [], AV.bool false, AV.ptr false 3 0 0, AV.ptr false 5 0 0, AV.int IntKind.i64 (F (0 + (↑i : Int).toNat)), AV.bool (F (0 + (↑i : Int).toNat) == 13), AV.ptr false 3 0 0, AV.ptr false 3 0 0, AV.ptr false 3 0 0, AV.ptr false 3 0 0, AV.ptr false 3 0 0, AV.bool true, AV.ptr false 5 0 0, AV.bool false, AV.bool true, AV.sl false 4 0 o.length Cp.no, AV.agg [AV.int IntKind.i64 10, AV.int IntKind.i64 (↑(0 + (↑i : Int).toNat) : Int)], AV.sl false 6 0 1 Cp.tight, AV.sl false 7 0 ((Src.gen o.length fun j => outG o (0 + j)).len + 1) Cp.no, AV.int IntKind.i64 (IntKind.i64.wrap ((↑i : Int) + 1)), AV.any] [some (Row.gen 38 2 n fun j => rune (F j) (↑j : Int)), none, some (Row.gen 38 2 n fun j => rune (F j) (↑j : Int)), some (Row.lst 51 1 [AV.agg [AV.bool (F (0 + (↑i : Int).toNat) == 13)]]), none, some (Row.lst 38 2 [AV.agg [AV.int IntKind.i64 10, AV.int IntKind.i64 (↑(0 + (↑i : Int).toNat) : Int)]]), some (Row.lst 38 2 [AV.agg [AV.int IntKind.i64 10, AV.int IntKind.i64 (↑(0 + (↑i : Int).toNat) : Int)]]), some (Row.gen 38 2 ((Src.gen o.length fun j => outG o (0 + j)).len + 1) fun j => bif j.blt (Src.gen o.length fun j => outG o (0 + j)).len then AV.agg [AV.int IntKind.i64 (o.getD (0 + j) (0, 0)).fst, AV.int IntKind.i64 (o.getD (0 + j) (0, 0)).snd] else (Src.lst [AV.agg [AV.int IntKind.i64 10, AV.int IntKind.i64 (↑(0 + (↑i : Int).toNat) : Int)]]).at_ (j - (Src.gen o.length fun j => outG o (0 + j)).len))]) else False else bif decide (0 + o.length ≤ o.length) && (true && (true && decide (((Src.gen o.length fun j => outG o (0 + j)).len + 1) * 16 ≤ 140737488355328))) then k Exit.normal (St.mk [AV.ptr false 3 0 0, AV.any, AV.any, AV.any, AV.any, AV.sl false 7 0 ((Src.gen o.length fun j => outG o (0 + j)).len + 1) Cp.no, AV.any, AV.ptr false 5 0 0, AV.bool false, AV.any, AV.any, AV.any, AV.any, AV.sl false 0 0 n Cp.no, AV.int IntKind.i64 (↑n : Int), AV.int IntKind.i64 (IntKind.i64.wrap ((↑i : Int) + 1)), AV.bool true, AV.ptr false 0 (0 + (↑i : Int).toNat) 0, AV.agg [AV.int IntKind.i64 (F (0 + (↑i : Int).toNat)), AV.int IntKind.i64 (↑(0 + (↑i : Int).toNat) : Int)], AV.ptr false 3 0 0, AV.ptr false 3 0 0, AV.ptr false 3 0 0, AV.bool a, AV.bool false, AV.tup [], AV.tup [], AV.tup [], AV.bool false, AV.ptr false 3 0 0, AV.ptr false 5 0 0, AV.int IntKind.i64 (F (0 + (↑i : Int).toNat)), AV.bool (F (0 + (↑i : Int).toNat) == 13), AV.ptr false 3 0 0, AV.ptr false 3 0 0, AV.ptr false 3 0 0, AV.ptr false 3 0 0, AV.ptr false 3 0 0, AV.bool false, AV.any, AV.bool false, AV.bool true, AV.sl false 4 0 o.length Cp.no, AV.agg [AV.int IntKind.i64 (F (0 + (↑i : Int).toNat)), AV.int IntKind.i64 (↑(0 + (↑i : Int).toNat) : Int)], AV.sl false 6 0 1 Cp.tight, AV.sl false 7 0 ((Src.gen o.length fun j => outG o (0 + j)).len + 1) Cp.no, AV.int IntKind.i64 (IntKind.i64.wrap ((↑i : Int) + 1)), AV.any] [some (Row.gen 38 2 n fun j => rune (F j) (↑j : Int)), none, some (Row.gen 38 2 n fun j => rune (F j) (↑j : Int)), some (Row.lst 51 1 [AV.agg [AV.bool (F (0 + (↑i : Int).toNat) == 13)]]), none, some (Row.lst 38 2 [AV.agg [AV.int IntKind.i64 (F (0 + (↑i : Int).toNat)), AV.int IntKind.i64 (↑(0 + (↑i : Int).toNat) : Int)]]), some (Row.lst 38 2 [AV.agg [AV.int IntKind.i64 (F (0 + (↑i : Int).toNat)), AV.int IntKind.i64 (↑(0 + (↑i : Int).toNat) : Int)]]), some (Row.gen 38 2 ((Src.gen o.length fun j => outG o (0 + j)).len + 1) fun j => bif j.blt (Src.gen o.length fun j => outG o (0 + j)).len then AV.agg [AV.int IntKind.i64 (o.getD (0 + j) (0, 0)).fst, AV.int IntKind.i64 (o.getD (0 + j) (0, 0)).snd] else (Src.lst [AV.agg [AV.int IntKind.i64 (F (0 + (↑i : Int).toNat)), AV.int IntKind.i64 (↑(0 + (↑i : Int).toNat) : Int)]]).at_ (j - (Src.gen o.length fun j => outG o (0 + j)).len))]) else False else False else False else k (Exit.exit 0) (St.mk [AV.ptr false 3 0 0, AV.any, AV.any, AV.any, AV.any, AV.sl false 4 0 o.length Cp.no, AV.any, AV.any, AV.any, AV.any, AV.any, AV.any, AV.any, AV.sl false 0 0 n Cp.no, AV.int IntKind.i64 (↑n : Int), AV.int IntKind.i64 (↑i : Int), AV.bool false, AV.any, AV.any, AV.any, AV.any, AV.any, AV.any, AV.any, AV.any, AV.any, AV.any, AV.any, AV.any, AV.any, AV.any, AV.any, AV.any, AV.any, AV.any, AV.any, AV.any, AV.any, AV.any, AV.any, AV.any, AV.any, AV.any, AV.any, AV.any, AV.any, AV.any] [some (Row.gen 38 2 n fun j => rune (F j) (↑j : Int)), none, some (Row.gen 38 2 n fun j => rune (F j) (↑j : Int)), some (Row.lst 51 1 [AV.agg [AV.bool a]]), some (Row.gen 38 2 o.length fun j => rune (o.getD j (0, 0)).fst (o.getD j (0, 0)).snd)])) := by kernel_rfl
theorem cap16 {m : Nat} (h : m ≤ 2000000) : (decide (0 + m ≤ m) && (true && (true && decide ((m + 1) * 16 ≤ 140737488355328)))) = true := by simp; omega
theorem less_le (F : Nat → Int) (i : Nat) : less F i ≤ i := by have := pass_len F i; omega
theorem passO_le (F : Nat → Int) (i : Nat) : (passO F i).length ≤ i := by have := pass_len F i; omega
/-! the first loop -/
noncomputable def fam13a (n : Nat) (F : Nat → Int) (i : Nat) : St := ⟨tm13a n i (less F i : Nat) (i : Nat), [some (.gen 38 2 i (inF F))]⟩
theorem app_inF {F : Nat → Int} {i : Nat} (j : Nat) (hj : j < i + 1) : (bif j.blt i then AV.agg [AV.int IntKind.i64 (F (0 + j)), AV.int IntKind.i64 ((0 + j : Nat) : Int)] else (Src.lst [AV.agg [AV.int IntKind.i64 (F i), AV.int IntKind.i64 (i : Int)]]).at_ (j - i)) = inF F j := by
  by_cases h : j < i
  · rw [show j.blt i = true by simpa [Nat.blt_eq] using h, Nat.zero_add]
    rfl
  · have : j = i := by omega
    subst this
    rw [show j.blt j = false by rw [Bool.eq_false_iff]; simp [Nat.blt_eq], Nat.sub_self]
    rfl
theorem fit13a {n : Nat} {F : Nat → Int} {i : Nat} {T : List AV} {h : Rows} {m : Nat} {g : Nat → AV}
    (h1 : h[m]? = some (some (.gen 38 2 i g))) (hg : ∀ j, j < i → g j = inF F j) (hT : VwL (oneV m) 1 (tm13a n i (less F i : Nat) (i : Nat)) T) : Fit 0 (fam13a n F i) ⟨T, h⟩ := by
  refine ⟨oneV m, ⟨View.of ?_ ?_, hT⟩, fun c hc => absurd hc (Nat.not_lt_zero _), Nat.zero_le _⟩
  · intro c o ho
    match c with
    | 0 =>
      cases ho
      refine ViewL.at_ (b := m) rfl h1 (.gen rfl fun j hj => ⟨rfl, ?_⟩)
      rw [hg j hj]
      exact gnd_vw _ _ _ rfl
    | c + 1 => simp [fam13a] at ho
  · intro c c' b hc hc' _ _
    have hc : c < 1 := hc
    have hc' : c' < 1 := hc'
    omega
theorem loop13a (ty n : Nat) (F : Nat → Int) (hn : n ≤ 1048576) (st0 : St) (hT : VwL noView 1 (tm13a n 0 0 ((0 : Nat) : Int)) st0.tmps) (hr : st0.rows = []) {Q : Exit → St → Prop}
    (h : Q .normal (fam13a n F n)) : Safe Try.prog (env13 (roI ty n F)).R (.block 0 (.loop lp13a)) st0 Q := by
  refine (loop_block (I := {i : Nat // i ≤ n}) (fam := fun i => fam13a n F i.1) (fun i => n - i.1) (X := fun e stE => e = .exit 0 ∧ stE = fam13a n F n) (id := 0)
    (i0 := ⟨0, Nat.zero_le _⟩) (st := st0) (f := noView) ?_ ?_ ?_ ?_).mono ?_
  · refine ⟨?_, hT⟩
    rw [hr]
    refine View.of ?_ ?_
    · intro c o ho
      match c with
      | 0 => cases ho; exact ViewL.void rfl rfl
      | c + 1 => simp [fam13a] at ho
    · intro c c' b _ _ h1 _
      cases h1
  · intro c hc; rw [hr] at hc; exact absurd hc (Nat.not_lt_zero _)
  · intro i; rw [hr]; exact Nat.zero_le _
  · rintro ⟨i, hi⟩
    rw [hr]
    refine byRndI (env13_ok (roI ty n F)) (f := 13) (fi := fi13) (by kernel_rfl) blk13a 10000 (vr13a ty n F (less F i : Nat) i _) ?_
    have hw : IntKind.i64.wrap ((i : Int) + 1) = ((i + 1 : Nat) : Int) := by rw [wrap64 _ (by omega) (by omega)]; omega
    have hl := less_le F i
    have hc : IntKind.i64.wrap (((less F i : Nat) : Int) + 1) = ((less F i + 1 : Nat) : Int) := by rw [wrap64 _ (by omega) (by omega)]; omega
    have hi0 : 0 + (i : Int).toNat = i := by simp
    rw [hw, hc, hi0]
    have hR : ((env13 (roI ty n F)).R 0).n = n := rfl
    have stay : ∀ T x y, i < n → (aft F i && (F i == 10)) = false → VwL (oneV 2) 1 (tm13a n (i + 1) (less F i : Nat) ((i + 1 : Nat) : Int)) T →
        ∃ i' : {i : Nat // i ≤ n}, n - i'.1 < n - i ∧ Fit 0 (fam13a n F i'.1) ⟨T, [x, y, some (Row.gen 38 2 (i + 1) fun j => bif j.blt i then AV.agg [AV.int IntKind.i64 (F (0 + j)), AV.int IntKind.i64 ((0 + j : Nat) : Int)] else (Src.lst [AV.agg [AV.int IntKind.i64 (F i), AV.int IntKind.i64 (i : Int)]]).at_ (j - i))]⟩ := by
      intro T x y h1 h2 hT
      refine ⟨⟨i + 1, by omega⟩, by show n - (i + 1) < n - i; omega, ?_⟩
      have e : less F (i + 1) = less F i := by simp only [less, h2, cond_false]
      exact fit13a (m := 2) rfl (fun j hj => app_inF j hj) (by rw [e]; exact hT)
    have more : ∀ T x y, i < n → (aft F i && (F i == 10)) = true → VwL (oneV 2) 1 (tm13a n (i + 1) (less F i + 1 : Nat) ((i + 1 : Nat) : Int)) T →
        ∃ i' : {i : Nat // i ≤ n}, n - i'.1 < n - i ∧ Fit 0 (fam13a n F i'.1) ⟨T, [x, y, some (Row.gen 38 2 (i + 1) fun j => bif j.blt i then AV.agg [AV.int IntKind.i64 (F (0 + j)), AV.int IntKind.i64 ((0 + j : Nat) : Int)] else (Src.lst [AV.agg [AV.int IntKind.i64 (F i), AV.int IntKind.i64 (i : Int)]]).at_ (j - i))]⟩ := by
      intro T x y h1 h2 hT
      refine ⟨⟨i + 1, by omega⟩, by show n - (i + 1) < n - i; omega, ?_⟩
      have e : less F (i + 1) = less F i + 1 := by simp only [less, h2, cond_true]
      exact fit13a (m := 2) rfl (fun j hj => app_inF j hj) (by rw [e]; exact hT)
    refine hcond (fun c1 => ?_) (fun c1 => ?_)
    · have c1 : i < n := by have := of_decide_eq_true c1; omega
      refine hcond (fun _ => ?_) (fun h => by exfalso; simp at h; omega)
      refine hcond (fun _ => ?_) (fun h => by exfalso; rw [hR] at h; have := of_decide_eq_false h; omega)
      refine hcond (fun _ => ?_) (fun h => by exfalso; have := (cap16 (m := i) (by omega)).symm.trans h; simp at this)
      refine hcond (fun c2 => ?_) (fun c2 => ?_)
      · have c2 : 0 < i := by have := of_decide_eq_true c2; omega
        have haft : aft F i = (F (i - 1) == 13) := by
          obtain ⟨i', rfl⟩ : ∃ i', i = i' + 1 := ⟨i - 1, by omega⟩
          rfl
        have hs : IntKind.i64.wrap ((i : Int) - 1) = ((i - 1 : Nat) : Int) := by rw [wrap64 _ (by omega) (by omega)]; omega
        have hs0 : 0 + ((i - 1 : Nat) : Int).toNat = i - 1 := by simp
        rw [hs, hs0]
        refine hcond (fun _ => ?_) (fun h => by exfalso; simp at h; omega)
        refine hcond (fun _ => ?_) (fun h => by exfalso; rw [hR] at h; have := of_decide_eq_false h; omega)
        refine hcond (fun c3 => ?_) (fun c3 => ?_)
        · refine hcond (fun _ => ?_) (fun h => by exfalso; simp at h; omega)
          refine hcond (fun _ => ?_) (fun h => by exfalso; rw [hR] at h; have := of_decide_eq_false h; omega)
          refine hcond (fun c4 => ?_) (fun c4 => ?_)
          · exact more _ _ _ c1 (by rw [haft, c4, c3]; rfl) (by ((simp only [tm13a, tm33, tm13b, tm13c]; repeat' (first | with_reducible exact VwL.nil | with_reducible refine VwL.cons ?_ ?_ | with_reducible exact Vw.anyI | with_reducible exact Vw.strI | with_reducible exact Vw.intI | with_reducible exact Vw.intE rfl | exact Vw.slI (by decide) rfl | exact Vw.slI (by simp) rfl | exact Vw.ptrI (by decide) rfl | exact Vw.gndI rfl))))
          · exact stay _ _ _ c1 (by rw [haft, c4]; rfl) (by ((simp only [tm13a, tm33, tm13b, tm13c]; repeat' (first | with_reducible exact VwL.nil | with_reducible refine VwL.cons ?_ ?_ | with_reducible exact Vw.anyI | with_reducible exact Vw.strI | with_reducible exact Vw.intI | with_reducible exact Vw.intE rfl | exact Vw.slI (by decide) rfl | exact Vw.slI (by simp) rfl | exact Vw.ptrI (by decide) rfl | exact Vw.gndI rfl))))
        · exact stay _ _ _ c1 (by rw [c3]; simp) (by ((simp only [tm13a, tm33, tm13b, tm13c]; repeat' (first | with_reducible exact VwL.nil | with_reducible refine VwL.cons ?_ ?_ | with_reducible exact Vw.anyI | with_reducible exact Vw.strI | with_reducible exact Vw.intI | with_reducible exact Vw.intE rfl | exact Vw.slI (by decide) rfl | exact Vw.slI (by simp) rfl | exact Vw.ptrI (by decide) rfl | exact Vw.gndI rfl))))
      · have c2 : i = 0 := by have := of_decide_eq_false c2; omega
        exact stay _ _ _ c1 (by subst c2; rfl) (by ((simp only [tm13a, tm33, tm13b, tm13c]; repeat' (first | with_reducible exact VwL.nil | with_reducible refine VwL.cons ?_ ?_ | with_reducible exact Vw.anyI | with_reducible exact Vw.strI | with_reducible exact Vw.intI | with_reducible exact Vw.intE rfl | exact Vw.slI (by decide) rfl | exact Vw.slI (by simp) rfl | exact Vw.ptrI (by decide) rfl | exact Vw.gndI rfl))))
    · have c1 : i = n := by have := of_decide_eq_false c1; omega
      subst c1
      exact ⟨fam13a i F i, fit13a (m := 0) rfl (fun j hj => rfl) (by ((simp only [tm13a, tm33, tm13b, tm13c]; repeat' (first | with_reducible exact VwL.nil | with_reducible refine VwL.cons ?_ ?_ | with_reducible exact Vw.anyI | with_reducible exact Vw.strI | with_reducible exact Vw.intI | with_reducible exact Vw.intE rfl | exact Vw.slI (by decide) rfl | exact Vw.slI (by simp) rfl | exact Vw.ptrI (by decide) rfl | exact Vw.gndI rfl)))), rfl, rfl⟩
  · rintro e stE ⟨e0, rfl, rfl, rfl⟩
    exact h
/-! Pass -/
noncomputable def fam33 (n : Nat) (F : Nat → Int) (i : Nat) : St := ⟨tm33 n (passO F i).length (i : Nat), rP n F (aft F i) (passO F i)⟩
theorem mv2_at {m c : Nat} (hc : c < 5) : mv2 4 m 4 m c = some (if c = 4 then m else c) := by
  match c with
  | 0 => rfl
  | 1 => rfl
  | 2 => rfl
  | 3 => rfl
  | 4 => rfl
  | c + 5 => omega
theorem viewP {n : Nat} {F : Nat → Int} {a : Bool} {o : List (Int × Int)} {h : Rows} {m : Nat} {g : Nat → AV} (hm : 4 ≤ m) (hlen : 1 < h.length)
    (h0 : h[0]? = some (some (.gen 38 2 n (inF F)))) (h2 : h[2]? = some (some (.gen 38 2 n (inF F)))) (h3 : h[3]? = some (linR a))
    (h4 : h[m]? = some (some (.gen 38 2 o.length g))) (hg : ∀ j, j < o.length → g j = outG o j) : View (mv2 4 m 4 m) (rP n F a o) h := by
  refine View.of ?_ ?_
  · intro c r hr
    match c with
    | 0 => cases hr; exact ViewL.at_ (b := 0) rfl h0 (genPlain (inF_plain _ _))
    | 1 => cases hr; exact ViewL.gone' (b := 1) rfl hlen
    | 2 => cases hr; exact ViewL.at_ (b := 2) rfl h2 (genPlain (inF_plain _ _))
    | 3 => cases hr; exact ViewL.at_ (b := 3) rfl h3 (.gnd rfl rfl)
    | 4 =>
      cases hr
      refine ViewL.at_ (b := m) rfl h4 (.gen rfl fun j hj => ⟨rfl, ?_⟩)
      rw [hg j hj]
      exact gnd_vw _ _ _ rfl
    | c + 5 => simp [rP] at hr
  · intro c c' b hc hc' e e'
    have hc : c < 5 := hc
    have hc' : c' < 5 := hc'
    rw [mv2_at hc] at e
    rw [mv2_at hc'] at e'
    injection e with e
    injection e' with e'
    split at e <;> split at e' <;> omega
theorem mv2_id {m c : Nat} (hc : c < 4) : mv2 4 m 4 m c = some c := by
  match c with
  | 0 => rfl
  | 1 => rfl
  | 2 => rfl
  | 3 => rfl
  | c + 4 => omega
theorem loop33 (R : Nat → RoRow) (n : Nat) (F : Nat → Int) (hn : n ≤ 1048576) (st0 : St) {r1 : Option Row} {g : Nat → AV} {n2 : Nat} (hn2 : n2 = n) (hg : ∀ j, j < n → g j = inF F j)
    (hT : VwL (fun c => bif Nat.blt c 4 then some c else none) 5 (tm33 n 0 ((0 : Nat) : Int)) st0.tmps) (hr : st0.rows = [some (.gen 38 2 n (inF F)), r1, some (.gen 38 2 n2 g), linR false]) {Q : Exit → St → Prop}
    (h : Q .normal (fam33 n F n)) : Safe Try.prog (env13 R).R (.block 0 (.loop lp33)) st0 Q := by
  subst hn2
  have hlen : st0.rows.length = 4 := by rw [hr]; rfl
  refine (loop_block (I := {i : Nat // i ≤ n2}) (fam := fun i => fam33 n2 F i.1) (fun i => n2 - i.1) (X := fun e stE => e = .exit 0 ∧ stE = fam33 n2 F n2) (id := 0)
    (i0 := ⟨0, Nat.zero_le _⟩) (st := st0) (f := fun c => bif Nat.blt c 4 then some c else none) ?_ ?_ ?_ ?_).mono ?_
  · refine ⟨?_, hT⟩
    rw [hr]
    refine View.of ?_ ?_
    · intro c o ho
      match c with
      | 0 => cases ho; exact ViewL.at_ (b := 0) rfl rfl (genPlain (inF_plain _ _))
      | 1 => cases ho; exact ViewL.gone' (b := 1) rfl (by simp)
      | 2 =>
        cases ho
        refine ViewL.at_ (b := 2) rfl rfl (.gen rfl fun j hj => ⟨rfl, ?_⟩)
        rw [hg j hj]
        exact gnd_vw _ _ _ rfl
      | 3 => cases ho; exact ViewL.at_ (b := 3) rfl rfl (.gnd rfl rfl)
      | 4 => cases ho; exact ViewL.void rfl rfl
      | c + 5 => simp [fam33, rP] at ho
    · intro c c' b hc hc' e e'
      have e : (bif Nat.blt c 4 then some c else none) = some b := e
      have e' : (bif Nat.blt c' 4 then some c' else none) = some b := e'
      by_cases h1 : c < 4
      · by_cases h2 : c' < 4
        · rw [show c.blt 4 = true by simpa [Nat.blt_eq] using h1] at e
          rw [show c'.blt 4 = true by simpa [Nat.blt_eq] using h2] at e'
          simp at e e'
          omega
        · rw [show c'.blt 4 = false by rw [Bool.eq_false_iff]; simpa [Nat.blt_eq] using h2] at e'
          cases e'
      · rw [show c.blt 4 = false by rw [Bool.eq_false_iff]; simpa [Nat.blt_eq] using h1] at e
        cases e
  · intro c hc
    rw [hlen] at hc
    show (bif Nat.blt c 4 then some c else none) = some c
    rw [show c.blt 4 = true by simpa [Nat.blt_eq] using hc]
    rfl
  · intro i; rw [hlen]; simp [fam33, rP]
  · rintro ⟨i, hi⟩
    rw [hlen]
    refine byRndI (env13_ok R) (f := 33) (fi := fi33) (by kernel_rfl) blk33 10000 (vr33 R n2 F (aft F i) (passO F i) i _) ?_
    have hw : IntKind.i64.wrap ((i : Int) + 1) = ((i + 1 : Nat) : Int) := by rw [wrap64 _ (by omega) (by omega)]; omega
    have hi0 : 0 + (i : Int).toNat = i := by simp
    rw [hw, hi0]
    have hpl := passO_le F i
    have push : ∀ (T : List AV) (h : Rows) (v : Int) (m : Nat), 4 ≤ m → i < n2 → 1 < h.length → (aft F i && (F i == 10)) = false → v = (bif F i == 13 then 10 else F i) → h[0]? = some (some (.gen 38 2 n2 (inF F))) → h[2]? = some (some (.gen 38 2 n2 (inF F))) → h[3]? = some (linR (F i == 13)) →
        h[m]? = some (some (Row.gen 38 2 ((passO F i).length + 1) fun j => bif j.blt (passO F i).length then AV.agg [AV.int IntKind.i64 ((passO F i).getD (0 + j) (0, 0)).fst, AV.int IntKind.i64 ((passO F i).getD (0 + j) (0, 0)).snd] else (Src.lst [AV.agg [AV.int IntKind.i64 v, AV.int IntKind.i64 (i : Int)]]).at_ (j - (passO F i).length))) →
        VwL (mv2 4 m 4 m) 5 (tm33 n2 ((passO F i).length + 1) ((i + 1 : Nat) : Int)) T → ∃ i' : {i : Nat // i ≤ n2}, n2 - i'.1 < n2 - i ∧ Fit 4 (fam33 n2 F i'.1) ⟨T, h⟩ := by
      intro T h v m hm h1 hl h2 hv r0 r2 r3 r4 hT
      refine ⟨⟨i + 1, by omega⟩, by show n2 - (i + 1) < n2 - i; omega, ?_⟩
      have e : passO F (i + 1) = passO F i ++ [(v, (i : Int))] := by rw [hv]; simp only [passO, h2, cond_false]
      refine ⟨mv2 4 m 4 m, ⟨?_, ?_⟩, fun c hc => mv2_id hc, by simp [fam33, rP]⟩
      · show View _ (rP n2 F (aft F (i + 1)) (passO F (i + 1))) h
        rw [e]
        refine viewP (g := fun j => bif j.blt (passO F i).length then AV.agg [AV.int IntKind.i64 ((passO F i).getD (0 + j) (0, 0)).fst, AV.int IntKind.i64 ((passO F i).getD (0 + j) (0, 0)).snd] else (Src.lst [AV.agg [AV.int IntKind.i64 v, AV.int IntKind.i64 (i : Int)]]).at_ (j - (passO F i).length)) hm hl r0 r2 r3 (by rw [r4]; simp) (fun j hj => app_outG j (by simpa using hj))
      · show VwL _ 5 (tm33 n2 (passO F (i + 1)).length ((i + 1 : Nat) : Int)) T
        rw [e, List.length_append]
        exact hT
    have same : ∀ (T : List AV) (h : Rows), i < n2 → 1 < h.length → (aft F i && (F i == 10)) = true → h[0]? = some (some (.gen 38 2 n2 (inF F))) → h[2]? = some (some (.gen 38 2 n2 (inF F))) → h[3]? = some (linR (F i == 13)) →
        h[4]? = some (some (Row.gen 38 2 (passO F i).length (outG (passO F i)))) →
        VwL (mv2 4 4 4 4) 5 (tm33 n2 (passO F i).length ((i + 1 : Nat) : Int)) T → ∃ i' : {i : Nat // i ≤ n2}, n2 - i'.1 < n2 - i ∧ Fit 4 (fam33 n2 F i'.1) ⟨T, h⟩ := by
      intro T h h1 hl h2 r0 r2 r3 r4 hT
      refine ⟨⟨i + 1, by omega⟩, by show n2 - (i + 1) < n2 - i; omega, ?_⟩
      have e : passO F (i + 1) = passO F i := by simp only [passO, h2, cond_true]
      refine ⟨mv2 4 4 4 4, ⟨?_, ?_⟩, fun c hc => mv2_id hc, by simp [fam33, rP]⟩
      · show View _ (rP n2 F (aft F (i + 1)) (passO F (i + 1))) h
        rw [e]
        exact viewP (by omega) hl r0 r2 r3 r4 (fun j hj => rfl)
      · show VwL _ 5 (tm33 n2 (passO F (i + 1)).length ((i + 1 : Nat) : Int)) T
        rw [e]
        exact hT
    refine hcond (fun c1 => ?_) (fun c1 => ?_)
    · have c1 : i < n2 := by have := of_decide_eq_true c1; omega
      refine hcond (fun _ => ?_) (fun h => by exfalso; simp at h; omega)
      refine hcond (fun _ => ?_) (fun h => by exfalso; have := of_decide_eq_false h; omega)
      refine hcond (fun ca => ?_) (fun ca => ?_)
      · refine hcond (fun c3 => ?_) (fun c3 => ?_)
        · refine hcond (fun c4 => ?_) (fun c4 => ?_)
          · refine hcond (fun _ => ?_) (fun h => by exfalso; have := (cap16 (m := (passO F i).length) (by omega)).symm.trans h; simp at this)
            exact push _ _ 10 7 (by omega) c1 (by simp) (by rw [ca]; simpa using c4) (by rw [c3]; rfl) rfl rfl rfl rfl (by ((simp only [tm13a, tm33, tm13b, tm13c]; repeat' (first | with_reducible exact VwL.nil | with_reducible refine VwL.cons ?_ ?_ | with_reducible exact Vw.anyI | with_reducible exact Vw.strI | with_reducible exact Vw.intI | with_reducible exact Vw.intE rfl | exact Vw.slI (by decide) rfl | exact Vw.slI (by simp) rfl | exact Vw.ptrI (by decide) rfl | exact Vw.gndI rfl))))
          · exact same _ _ c1 (by simp) (by rw [ca]; simpa using c4) rfl rfl rfl rfl (by ((simp only [tm13a, tm33, tm13b, tm13c]; repeat' (first | with_reducible exact VwL.nil | with_reducible refine VwL.cons ?_ ?_ | with_reducible exact Vw.anyI | with_reducible exact Vw.strI | with_reducible exact Vw.intI | with_reducible exact Vw.intE rfl | exact Vw.slI (by decide) rfl | exact Vw.slI (by simp) rfl | exact Vw.ptrI (by decide) rfl | exact Vw.gndI rfl))))
        · refine hcond (fun c4 => ?_) (fun c4 => ?_)
          · refine hcond (fun _ => ?_) (fun h => by exfalso; have := (cap16 (m := (passO F i).length) (by omega)).symm.trans h; simp at this)
            exact push _ _ (F i) 7 (by omega) c1 (by simp) (by rw [ca]; simpa using c4) (by rw [c3]; rfl) rfl rfl rfl rfl (by ((simp only [tm13a, tm33, tm13b, tm13c]; repeat' (first | with_reducible exact VwL.nil | with_reducible refine VwL.cons ?_ ?_ | with_reducible exact Vw.anyI | with_reducible exact Vw.strI | with_reducible exact Vw.intI | with_reducible exact Vw.intE rfl | exact Vw.slI (by decide) rfl | exact Vw.slI (by simp) rfl | exact Vw.ptrI (by decide) rfl | exact Vw.gndI rfl))))
          · exact same _ _ c1 (by simp) (by rw [ca]; simpa using c4) rfl rfl rfl rfl (by ((simp only [tm13a, tm33, tm13b, tm13c]; repeat' (first | with_reducible exact VwL.nil | with_reducible refine VwL.cons ?_ ?_ | with_reducible exact Vw.anyI | with_reducible exact Vw.strI | with_reducible exact Vw.intI | with_reducible exact Vw.intE rfl | exact Vw.slI (by decide) rfl | exact Vw.slI (by simp) rfl | exact Vw.ptrI (by decide) rfl | exact Vw.gndI rfl))))
      · refine hcond (fun c3 => ?_) (fun c3 => ?_)
        · refine hcond (fun _ => ?_) (fun h => by exfalso; have := (cap16 (m := (passO F i).length) (by omega)).symm.trans h; simp at this)
          exact push _ _ 10 7 (by omega) c1 (by simp) (by rw [ca]; rfl) (by rw [c3]; rfl) rfl rfl rfl rfl (by ((simp only [tm13a, tm33, tm13b, tm13c]; repeat' (first | with_reducible exact VwL.nil | with_reducible refine VwL.cons ?_ ?_ | with_reducible exact Vw.anyI | with_reducible exact Vw.strI | with_reducible exact Vw.intI | with_reducible exact Vw.intE rfl | exact Vw.slI (by decide) rfl | exact Vw.slI (by simp) rfl | exact Vw.ptrI (by decide) rfl | exact Vw.gndI rfl))))
        · refine hcond (fun _ => ?_) (fun h => by exfalso; have := (cap16 (m := (passO F i).length) (by omega)).symm.trans h; simp at this)
          exact push _ _ (F i) 7 (by omega) c1 (by simp) (by rw [ca]; rfl) (by rw [c3]; rfl) rfl rfl rfl rfl (by ((simp only [tm13a, tm33, tm13b, tm13c]; repeat' (first | with_reducible exact VwL.nil | with_reducible refine VwL.cons ?_ ?_ | with_reducible exact Vw.anyI | with_reducible exact Vw.strI | with_reducible exact Vw.intI | with_reducible exact Vw.intE rfl | exact Vw.slI (by decide) rfl | exact Vw.slI (by simp) rfl | exact Vw.ptrI (by decide) rfl | exact Vw.gndI rfl))))
    · have c1 : i = n2 := by have := of_decide_eq_false c1; omega
      subst c1
      refine ⟨fam33 i F i, ⟨mv2 4 4 4 4, ⟨viewP (by omega) (by simp) rfl rfl rfl rfl (fun j hj => rfl), by show VwL _ 5 (tm33 i (passO F i).length (i : Nat)) _; ((simp only [tm13a, tm33, tm13b, tm13c]; repeat' (first | with_reducible exact VwL.nil | with_reducible refine VwL.cons ?_ ?_ | with_reducible exact Vw.anyI | with_reducible exact Vw.strI | with_reducible exact Vw.intI | with_reducible exact Vw.intE rfl | exact Vw.slI (by decide) rfl | exact Vw.slI (by simp) rfl | exact Vw.ptrI (by decide) rfl | exact Vw.gndI rfl)))⟩, fun c hc => mv2_id hc, by simp [fam33, rP]⟩, rfl, rfl⟩
  · rintro e stE ⟨e0, rfl, rfl, rfl⟩
    exact h
end Go.Dc.Ka
