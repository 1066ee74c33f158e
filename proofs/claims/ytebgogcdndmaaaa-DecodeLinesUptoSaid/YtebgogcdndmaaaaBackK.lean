/- Scalars written in UTF-8 are told as they were: the loops of the statement. -/
import Derived.Test.YtebgogcdndmaaaaBackJ
set_option linter.unusedVariables false
set_option linter.unusedSimpArgs false
namespace Go.Dc.Ka
open Go.Proofs Go.RowKit
set_option maxRecDepth 100000
theorem vr8a (ty n : Nat) (F : Nat → Int) (t : List UInt8) (w : List (Int × Int)) (i : Nat) (k : Exit → St → Prop) : rnd (env8 (roI ty n F)) 10000 8 lp8 ⟨tm8 n t w.length (i : Nat), [some (.gen 38 2 w.length (outG w))]⟩ k = (bif decide ((↑i : Int) < (↑n : Int)) then bif decide ((↑i : Int) < 500) then bif true && decide ((↑i : Int) < (↑n : Int)) then bif decide (0 + (↑i : Int).toNat < ((env8 (roI ty n F)).R 0).n) then bif decide (V (F (0 + (↑i : Int).toNat)) > 1114111) then k Exit.normal (St.mk [AV.sl true 0 0 n Cp.no, AV.any, AV.any, AV.str t, AV.sl false 0 0 w.length Cp.no, AV.int IntKind.i64 (IntKind.i64.wrap ((↑i : Int) + 1)), AV.int IntKind.i64 (V (F (0 + (↑i : Int).toNat))), AV.any, AV.any, AV.any, AV.any, AV.any, AV.any, AV.any, AV.any, AV.int IntKind.i64 (↑i : Int), AV.sl true 0 0 n Cp.no, AV.int IntKind.i64 (↑n : Int), AV.bool (decide ((↑i : Int) < (↑n : Int))), AV.bool true, AV.int IntKind.i64 (↑i : Int), AV.bool (decide ((↑i : Int) < 500)), AV.bool true, AV.int IntKind.i64 (↑i : Int), AV.int IntKind.i64 (IntKind.i64.wrap ((↑i : Int) + 1)), AV.sl true 0 0 n Cp.no, AV.int IntKind.i64 (↑i : Int), AV.ptr true 0 (0 + (↑i : Int).toNat) 0, AV.int IntKind.i64 (F (0 + (↑i : Int).toNat)), AV.int IntKind.i64 (V (F (0 + (↑i : Int).toNat))), AV.int IntKind.i64 (V (F (0 + (↑i : Int).toNat))), AV.bool (decide (V (F (0 + (↑i : Int).toNat)) > 1114111)), AV.bool true, AV.tup [], AV.tup [], AV.tup [], AV.tup [], AV.tup [], AV.tup [], AV.bool true, AV.any, AV.any, AV.any, AV.any, AV.any, AV.any, AV.any, AV.any, AV.any, AV.any, AV.any, AV.any, AV.any, AV.any, AV.any, AV.any, AV.any, AV.any, AV.any, AV.any, AV.any, AV.any, AV.any, AV.any, AV.any, AV.any, AV.any, AV.any, AV.any, AV.any, AV.any, AV.any, AV.any, AV.any, AV.any, AV.any, AV.any, AV.any, AV.any, AV.any, AV.any, AV.any, AV.any, AV.any, AV.any, AV.any, AV.any, AV.any, AV.any, AV.any, AV.any, AV.any, AV.any, AV.any, AV.any] [some (Row.gen 38 2 w.length fun j => rune (w.getD j (0, 0)).fst (w.getD j (0, 0)).snd)]) else bif decide (V (F (0 + (↑i : Int).toNat)) ≥ 55296) then bif decide (V (F (0 + (↑i : Int).toNat)) ≤ 57343) then k Exit.normal (St.mk [AV.sl true 0 0 n Cp.no, AV.any, AV.any, AV.str t, AV.sl false 0 0 w.length Cp.no, AV.int IntKind.i64 (IntKind.i64.wrap ((↑i : Int) + 1)), AV.int IntKind.i64 (V (F (0 + (↑i : Int).toNat))), AV.any, AV.any, AV.any, AV.any, AV.any, AV.any, AV.any, AV.any, AV.int IntKind.i64 (↑i : Int), AV.sl true 0 0 n Cp.no, AV.int IntKind.i64 (↑n : Int), AV.bool (decide ((↑i : Int) < (↑n : Int))), AV.bool true, AV.int IntKind.i64 (↑i : Int), AV.bool (decide ((↑i : Int) < 500)), AV.bool true, AV.int IntKind.i64 (↑i : Int), AV.int IntKind.i64 (IntKind.i64.wrap ((↑i : Int) + 1)), AV.sl true 0 0 n Cp.no, AV.int IntKind.i64 (↑i : Int), AV.ptr true 0 (0 + (↑i : Int).toNat) 0, AV.int IntKind.i64 (F (0 + (↑i : Int).toNat)), AV.int IntKind.i64 (V (F (0 + (↑i : Int).toNat))), AV.int IntKind.i64 (V (F (0 + (↑i : Int).toNat))), AV.bool (decide (V (F (0 + (↑i : Int).toNat)) > 1114111)), AV.bool false, AV.int IntKind.i64 (V (F (0 + (↑i : Int).toNat))), AV.bool (decide (V (F (0 + (↑i : Int).toNat)) ≥ 55296)), AV.bool true, AV.int IntKind.i64 (V (F (0 + (↑i : Int).toNat))), AV.bool (decide (V (F (0 + (↑i : Int).toNat)) ≤ 57343)), AV.bool (decide (V (F (0 + (↑i : Int).toNat)) ≤ 57343)), AV.bool true, AV.any, AV.any, AV.any, AV.any, AV.any, AV.any, AV.any, AV.any, AV.any, AV.any, AV.any, AV.any, AV.any, AV.any, AV.any, AV.any, AV.any, AV.any, AV.any, AV.any, AV.any, AV.any, AV.any, AV.any, AV.any, AV.any, AV.any, AV.any, AV.any, AV.any, AV.any, AV.any, AV.any, AV.any, AV.any, AV.any, AV.any, AV.any, AV.any, AV.any, AV.any, AV.any, AV.any, AV.any, AV.any, AV.any, AV.any, AV.any, AV.any, AV.any, AV.any, AV.any, AV.any, AV.any, AV.any] [some (Row.gen 38 2 w.length fun j => rune (w.getD j (0, 0)).fst (w.getD j (0, 0)).snd)]) else bif decide (0 + w.length ≤ w.length) && (true && (true && decide (((Src.gen w.length fun j => outG w (0 + j)).len + 1) * 16 ≤ 140737488355328))) then bif decide (t.length + (Utf8.encode (IntKind.i32.wrap (V (F (0 + (↑i : Int).toNat))))).data.toList.length ≤ 9223372036854775807) then k Exit.normal (St.mk [AV.sl true 0 0 n Cp.no, AV.any, AV.any, AV.str (t ++ (Utf8.encode (IntKind.i32.wrap (V (F (0 + (↑i : Int).toNat))))).data.toList), AV.sl false 2 0 ((Src.gen w.length fun j => outG w (0 + j)).len + 1) Cp.no, AV.int IntKind.i64 (IntKind.i64.wrap ((↑i : Int) + 1)), AV.int IntKind.i64 (V (F (0 + (↑i : Int).toNat))), AV.any, AV.any, AV.any, AV.any, AV.any, AV.any, AV.any, AV.any, AV.int IntKind.i64 (↑i : Int), AV.sl true 0 0 n Cp.no, AV.int IntKind.i64 (↑n : Int), AV.bool (decide ((↑i : Int) < (↑n : Int))), AV.bool true, AV.int IntKind.i64 (↑i : Int), AV.bool (decide ((↑i : Int) < 500)), AV.bool true, AV.int IntKind.i64 (↑i : Int), AV.int IntKind.i64 (IntKind.i64.wrap ((↑i : Int) + 1)), AV.sl true 0 0 n Cp.no, AV.int IntKind.i64 (↑i : Int), AV.ptr true 0 (0 + (↑i : Int).toNat) 0, AV.int IntKind.i64 (F (0 + (↑i : Int).toNat)), AV.int IntKind.i64 (V (F (0 + (↑i : Int).toNat))), AV.int IntKind.i64 (V (F (0 + (↑i : Int).toNat))), AV.bool (decide (V (F (0 + (↑i : Int).toNat)) > 1114111)), AV.bool false, AV.int IntKind.i64 (V (F (0 + (↑i : Int).toNat))), AV.bool (decide (V (F (0 + (↑i : Int).toNat)) ≥ 55296)), AV.bool true, AV.int IntKind.i64 (V (F (0 + (↑i : Int).toNat))), AV.bool (decide (V (F (0 + (↑i : Int).toNat)) ≤ 57343)), AV.bool (decide (V (F (0 + (↑i : Int).toNat)) ≤ 57343)), AV.bool false, AV.sl false 0 0 w.length Cp.no, AV.int IntKind.i64 (V (F (0 + (↑i : Int).toNat))), AV.str t, AV.int IntKind.i64 (↑t.length : Int), AV.agg [AV.int IntKind.i64 (V (F (0 + (↑i : Int).toNat))), AV.int IntKind.i64 (↑t.length : Int)], AV.sl false 1 0 1 Cp.tight, AV.sl false 2 0 ((Src.gen w.length fun j => outG w (0 + j)).len + 1) Cp.no, AV.str t, AV.int IntKind.i64 (V (F (0 + (↑i : Int).toNat))), AV.int IntKind.i32 (IntKind.i32.wrap (V (F (0 + (↑i : Int).toNat)))), AV.str (Utf8.encode (IntKind.i32.wrap (V (F (0 + (↑i : Int).toNat))))).data.toList, AV.str (t ++ (Utf8.encode (IntKind.i32.wrap (V (F (0 + (↑i : Int).toNat))))).data.toList), AV.any, AV.any, AV.any, AV.any, AV.any, AV.any, AV.any, AV.any, AV.any, AV.any, AV.any, AV.any, AV.any, AV.any, AV.any, AV.any, AV.any, AV.any, AV.any, AV.any, AV.any, AV.any, AV.any, AV.any, AV.any, AV.any, AV.any, AV.any, AV.any, AV.any, AV.any, AV.any, AV.any, AV.any, AV.any, AV.any, AV.any, AV.any, AV.any, AV.any, AV.any, AV.any, AV.any] [none, some (Row.lst 38 2 [AV.agg [AV.int IntKind.i64 (V (F (0 + (↑i : Int).toNat))), AV.int IntKind.i64 (↑t.length : Int)]]), some (Row.gen 38 2 ((Src.gen w.length fun j => outG w (0 + j)).len + 1) fun j => bif j.blt (Src.gen w.length fun j => outG w (0 + j)).len then AV.agg [AV.int IntKind.i64 (w.getD (0 + j) (0, 0)).fst, AV.int IntKind.i64 (w.getD (0 + j) (0, 0)).snd] else (Src.lst [AV.agg [AV.int IntKind.i64 (V (F (0 + (↑i : Int).toNat))), AV.int IntKind.i64 (↑t.length : Int)]]).at_ (j - (Src.gen w.length fun j => outG w (0 + j)).len))]) else False else False else bif decide (0 + w.length ≤ w.length) && (true && (true && decide (((Src.gen w.length fun j => outG w (0 + j)).len + 1) * 16 ≤ 140737488355328))) then bif decide (t.length + (Utf8.encode (IntKind.i32.wrap (V (F (0 + (↑i : Int).toNat))))).data.toList.length ≤ 9223372036854775807) then k Exit.normal (St.mk [AV.sl true 0 0 n Cp.no, AV.any, AV.any, AV.str (t ++ (Utf8.encode (IntKind.i32.wrap (V (F (0 + (↑i : Int).toNat))))).data.toList), AV.sl false 2 0 ((Src.gen w.length fun j => outG w (0 + j)).len + 1) Cp.no, AV.int IntKind.i64 (IntKind.i64.wrap ((↑i : Int) + 1)), AV.int IntKind.i64 (V (F (0 + (↑i : Int).toNat))), AV.any, AV.any, AV.any, AV.any, AV.any, AV.any, AV.any, AV.any, AV.int IntKind.i64 (↑i : Int), AV.sl true 0 0 n Cp.no, AV.int IntKind.i64 (↑n : Int), AV.bool (decide ((↑i : Int) < (↑n : Int))), AV.bool true, AV.int IntKind.i64 (↑i : Int), AV.bool (decide ((↑i : Int) < 500)), AV.bool true, AV.int IntKind.i64 (↑i : Int), AV.int IntKind.i64 (IntKind.i64.wrap ((↑i : Int) + 1)), AV.sl true 0 0 n Cp.no, AV.int IntKind.i64 (↑i : Int), AV.ptr true 0 (0 + (↑i : Int).toNat) 0, AV.int IntKind.i64 (F (0 + (↑i : Int).toNat)), AV.int IntKind.i64 (V (F (0 + (↑i : Int).toNat))), AV.int IntKind.i64 (V (F (0 + (↑i : Int).toNat))), AV.bool (decide (V (F (0 + (↑i : Int).toNat)) > 1114111)), AV.bool false, AV.int IntKind.i64 (V (F (0 + (↑i : Int).toNat))), AV.bool (decide (V (F (0 + (↑i : Int).toNat)) ≥ 55296)), AV.bool false, AV.tup [], AV.tup [], AV.bool false, AV.bool false, AV.sl false 0 0 w.length Cp.no, AV.int IntKind.i64 (V (F (0 + (↑i : Int).toNat))), AV.str t, AV.int IntKind.i64 (↑t.length : Int), AV.agg [AV.int IntKind.i64 (V (F (0 + (↑i : Int).toNat))), AV.int IntKind.i64 (↑t.length : Int)], AV.sl false 1 0 1 Cp.tight, AV.sl false 2 0 ((Src.gen w.length fun j => outG w (0 + j)).len + 1) Cp.no, AV.str t, AV.int IntKind.i64 (V (F (0 + (↑i : Int).toNat))), AV.int IntKind.i32 (IntKind.i32.wrap (V (F (0 + (↑i : Int).toNat)))), AV.str (Utf8.encode (IntKind.i32.wrap (V (F (0 + (↑i : Int).toNat))))).data.toList, AV.str (t ++ (Utf8.encode (IntKind.i32.wrap (V (F (0 + (↑i : Int).toNat))))).data.toList), AV.any, AV.any, AV.any, AV.any, AV.any, AV.any, AV.any, AV.any, AV.any, AV.any, AV.any, AV.any, AV.any, AV.any, AV.any, AV.any, AV.any, AV.any, AV.any, AV.any, AV.any, AV.any, AV.any, AV.any, AV.any, AV.any, AV.any, AV.any, AV.any, AV.any, AV.any, AV.any, AV.any, AV.any, AV.any, AV.any, AV.any, AV.any, AV.any, AV.any, AV.any, AV.any, AV.any] [none, some (Row.lst 38 2 [AV.agg [AV.int IntKind.i64 (V (F (0 + (↑i : Int).toNat))), AV.int IntKind.i64 (↑t.length : Int)]]), some (Row.gen 38 2 ((Src.gen w.length fun j => outG w (0 + j)).len + 1) fun j => bif j.blt (Src.gen w.length fun j => outG w (0 + j)).len then AV.agg [AV.int IntKind.i64 (w.getD (0 + j) (0, 0)).fst, AV.int IntKind.i64 (w.getD (0 + j) (0, 0)).snd] else (Src.lst [AV.agg [AV.int IntKind.i64 (V (F (0 + (↑i : Int).toNat))), AV.int IntKind.i64 (↑t.length : Int)]]).at_ (j - (Src.gen w.length fun j => outG w (0 + j)).len))]) else False else False else False else False else k (Exit.exit 0) (St.mk [AV.sl true 0 0 n Cp.no, AV.any, AV.any, AV.str t, AV.sl false 0 0 w.length Cp.no, AV.int IntKind.i64 (↑i : Int), AV.any, AV.any, AV.any, AV.any, AV.any, AV.any, AV.any, AV.any, AV.any, AV.int IntKind.i64 (↑i : Int), AV.sl true 0 0 n Cp.no, AV.int IntKind.i64 (↑n : Int), AV.bool (decide ((↑i : Int) < (↑n : Int))), AV.bool true, AV.int IntKind.i64 (↑i : Int), AV.bool (decide ((↑i : Int) < 500)), AV.bool false, AV.any, AV.any, AV.any, AV.any, AV.any, AV.any, AV.any, AV.any, AV.any, AV.any, AV.any, AV.any, AV.any, AV.any, AV.any, AV.any, AV.any, AV.any, AV.any, AV.any, AV.any, AV.any, AV.any, AV.any, AV.any, AV.any, AV.any, AV.any, AV.any, AV.any, AV.any, AV.any, AV.any, AV.any, AV.any, AV.any, AV.any, AV.any, AV.any, AV.any, AV.any, AV.any, AV.any, AV.any, AV.any, AV.any, AV.any, AV.any, AV.any, AV.any, AV.any, AV.any, AV.any, AV.any, AV.any, AV.any, AV.any, AV.any, AV.any, AV.any, AV.any, AV.any, AV.any, AV.any, AV.any, AV.any, AV.any, AV.any, AV.any, AV.any, AV.any, AV.any] [some (Row.gen 38 2 w.length fun j => rune (w.getD j (0, 0)).fst (w.getD j (0, 0)).snd)]) else k (Exit.exit 0) (St.mk [AV.sl true 0 0 n Cp.no, AV.any, AV.any, AV.str t, AV.sl false 0 0 w.length Cp.no, AV.int IntKind.i64 (↑i : Int), AV.any, AV.any, AV.any, AV.any, AV.any, AV.any, AV.any, AV.any, AV.any, AV.int IntKind.i64 (↑i : Int), AV.sl true 0 0 n Cp.no, AV.int IntKind.i64 (↑n : Int), AV.bool (decide ((↑i : Int) < (↑n : Int))), AV.bool false, AV.tup [], AV.tup [], AV.bool false, AV.any, AV.any, AV.any, AV.any, AV.any, AV.any, AV.any, AV.any, AV.any, AV.any, AV.any, AV.any, AV.any, AV.any, AV.any, AV.any, AV.any, AV.any, AV.any, AV.any, AV.any, AV.any, AV.any, AV.any, AV.any, AV.any, AV.any, AV.any, AV.any, AV.any, AV.any, AV.any, AV.any, AV.any, AV.any, AV.any, AV.any, AV.any, AV.any, AV.any, AV.any, AV.any, AV.any, AV.any, AV.any, AV.any, AV.any, AV.any, AV.any, AV.any, AV.any, AV.any, AV.any, AV.any, AV.any, AV.any, AV.any, AV.any, AV.any, AV.any, AV.any, AV.any, AV.any, AV.any, AV.any, AV.any, AV.any, AV.any, AV.any, AV.any, AV.any, AV.any] [some (Row.gen 38 2 w.length fun j => rune (w.getD j (0, 0)).fst (w.getD j (0, 0)).snd)])) := by kernel_rfl
theorem vr8b (R : Nat → RoRow) (w : List (Int × Int)) (i : Nat) (k : Exit → St → Prop) : rnd (env8 R) 10000 8 lp8b ⟨tm8b w.length w.length (i : Nat), [some (.gen 38 2 w.length (outG w)), none, none, some (.gen 38 2 w.length (outG w))]⟩ k = (bif decide ((↑i : Int) < (↑w.length : Int)) then bif true && decide ((↑i : Int) < (↑w.length : Int)) then bif decide (0 + (↑i : Int).toNat < w.length) then bif true && decide ((↑i : Int) < (↑w.length : Int)) then bif decide (0 + (↑i : Int).toNat < w.length) then bif !((w.getD (0 + (↑i : Int).toNat) (0, 0)).fst == (w.getD (0 + (↑i : Int).toNat) (0, 0)).fst && ((w.getD (0 + (↑i : Int).toNat) (0, 0)).snd == (w.getD (0 + (↑i : Int).toNat) (0, 0)).snd && true)) then k Exit.ret (St.mk [AV.any, AV.any, AV.bool false, AV.any, AV.sl false 0 0 w.length Cp.no, AV.any, AV.any, AV.any, AV.sl false 3 0 w.length Cp.no, AV.any, AV.any, AV.any, AV.int IntKind.i64 (↑i : Int), AV.any, AV.any, AV.any, AV.any, AV.any, AV.any, AV.any, AV.any, AV.any, AV.any, AV.any, AV.any, AV.any, AV.any, AV.any, AV.any, AV.any, AV.any, AV.any, AV.any, AV.any, AV.any, AV.any, AV.any, AV.any, AV.any, AV.any, AV.any, AV.any, AV.any, AV.any, AV.any, AV.any, AV.any, AV.any, AV.any, AV.any, AV.any, AV.any, AV.any, AV.any, AV.any, AV.any, AV.any, AV.any, AV.any, AV.any, AV.any, AV.any, AV.any, AV.any, AV.any, AV.any, AV.any, AV.any, AV.any, AV.any, AV.any, AV.any, AV.any, AV.any, AV.any, AV.any, AV.any, AV.any, AV.any, AV.any, AV.int IntKind.i64 (↑i : Int), AV.sl false 0 0 w.length Cp.no, AV.int IntKind.i64 (↑w.length : Int), AV.bool true, AV.any, AV.any, AV.sl false 3 0 w.length Cp.no, AV.int IntKind.i64 (↑i : Int), AV.ptr false 3 (0 + (↑i : Int).toNat) 0, AV.agg [AV.int IntKind.i64 (w.getD (0 + (↑i : Int).toNat) (0, 0)).fst, AV.int IntKind.i64 (w.getD (0 + (↑i : Int).toNat) (0, 0)).snd], AV.sl false 0 0 w.length Cp.no, AV.int IntKind.i64 (↑i : Int), AV.ptr false 0 (0 + (↑i : Int).toNat) 0, AV.agg [AV.int IntKind.i64 (w.getD (0 + (↑i : Int).toNat) (0, 0)).fst, AV.int IntKind.i64 (w.getD (0 + (↑i : Int).toNat) (0, 0)).snd], AV.bool true] [some (Row.gen 38 2 w.length fun j => rune (w.getD j (0, 0)).fst (w.getD j (0, 0)).snd), none, none, some (Row.gen 38 2 w.length fun j => rune (w.getD j (0, 0)).fst (w.getD j (0, 0)).snd)]) else k Exit.normal (St.mk [AV.any, AV.any, AV.any, AV.any, AV.sl false 0 0 w.length Cp.no, AV.any, AV.any, AV.any, AV.sl false 3 0 w.length Cp.no, AV.any, AV.any, AV.any, AV.int IntKind.i64 (IntKind.i64.wrap ((↑i : Int) + 1)), AV.any, AV.any, AV.any, AV.any, AV.any, AV.any, AV.any, AV.any, AV.any, AV.any, AV.any, AV.any, AV.any, AV.any, AV.any, AV.any, AV.any, AV.any, AV.any, AV.any, AV.any, AV.any, AV.any, AV.any, AV.any, AV.any, AV.any, AV.any, AV.any, AV.any, AV.any, AV.any, AV.any, AV.any, AV.any, AV.any, AV.any, AV.any, AV.any, AV.any, AV.any, AV.any, AV.any, AV.any, AV.any, AV.any, AV.any, AV.any, AV.any, AV.any, AV.any, AV.any, AV.any, AV.any, AV.any, AV.any, AV.any, AV.any, AV.any, AV.any, AV.any, AV.any, AV.any, AV.any, AV.any, AV.any, AV.any, AV.int IntKind.i64 (↑i : Int), AV.sl false 0 0 w.length Cp.no, AV.int IntKind.i64 (↑w.length : Int), AV.bool true, AV.int IntKind.i64 (↑i : Int), AV.int IntKind.i64 (IntKind.i64.wrap ((↑i : Int) + 1)), AV.sl false 3 0 w.length Cp.no, AV.int IntKind.i64 (↑i : Int), AV.ptr false 3 (0 + (↑i : Int).toNat) 0, AV.agg [AV.int IntKind.i64 (w.getD (0 + (↑i : Int).toNat) (0, 0)).fst, AV.int IntKind.i64 (w.getD (0 + (↑i : Int).toNat) (0, 0)).snd], AV.sl false 0 0 w.length Cp.no, AV.int IntKind.i64 (↑i : Int), AV.ptr false 0 (0 + (↑i : Int).toNat) 0, AV.agg [AV.int IntKind.i64 (w.getD (0 + (↑i : Int).toNat) (0, 0)).fst, AV.int IntKind.i64 (w.getD (0 + (↑i : Int).toNat) (0, 0)).snd], AV.bool false] [some (Row.gen 38 2 w.length fun j => rune (w.getD j (0, 0)).fst (w.getD j (0, 0)).snd), none, none, some (Row.gen 38 2 w.length fun j => rune (w.getD j (0, 0)).fst (w.getD j (0, 0)).snd)]) else False else False else False else False else k (Exit.exit 2) (St.mk [AV.any, AV.any, AV.any, AV.any, AV.sl false 0 0 w.length Cp.no, AV.any, AV.any, AV.any, AV.sl false 3 0 w.length Cp.no, AV.any, AV.any, AV.any, AV.int IntKind.i64 (↑i : Int), AV.any, AV.any, AV.any, AV.any, AV.any, AV.any, AV.any, AV.any, AV.any, AV.any, AV.any, AV.any, AV.any, AV.any, AV.any, AV.any, AV.any, AV.any, AV.any, AV.any, AV.any, AV.any, AV.any, AV.any, AV.any, AV.any, AV.any, AV.any, AV.any, AV.any, AV.any, AV.any, AV.any, AV.any, AV.any, AV.any, AV.any, AV.any, AV.any, AV.any, AV.any, AV.any, AV.any, AV.any, AV.any, AV.any, AV.any, AV.any, AV.any, AV.any, AV.any, AV.any, AV.any, AV.any, AV.any, AV.any, AV.any, AV.any, AV.any, AV.any, AV.any, AV.any, AV.any, AV.any, AV.any, AV.any, AV.any, AV.int IntKind.i64 (↑i : Int), AV.sl false 0 0 w.length Cp.no, AV.int IntKind.i64 (↑w.length : Int), AV.bool false, AV.any, AV.any, AV.any, AV.any, AV.any, AV.any, AV.any, AV.any, AV.any, AV.any, AV.any] [some (Row.gen 38 2 w.length fun j => rune (w.getD j (0, 0)).fst (w.getD j (0, 0)).snd), none, none, some (Row.gen 38 2 w.length fun j => rune (w.getD j (0, 0)).fst (w.getD j (0, 0)).snd)])) := by kernel_rfl
theorem V_bd (x : Int) : 0 ≤ V x ∧ V x < 2097152 := by
  unfold V
  have h : (BitVec.ofInt IntKind.i64.bits x &&& BitVec.ofInt IntKind.i64.bits 2097151).toNat ≤ 2097151 := by
    rw [BitVec.toNat_and]
    exact Nat.le_trans Nat.and_le_right (by decide)
  rw [wrap64 _ (by omega) (by omega)]
  omega
theorem w32 {v : Int} (h0 : 0 ≤ v) (h1 : v < 2097152) : IntKind.i32.wrap v = v := by
  simp only [IntKind.wrap, IntKind.signed, IntKind.bits] at *
  simp
  omega
theorem encI_len (v : Int) : (encI v).length ≤ 4 := by
  unfold encI Utf8.encode
  simp only []
  repeat' split
  all_goals simp
theorem txt_len (F : Nat → Int) : ∀ i, (txt F i).length ≤ 4 * i := by
  intro i
  induction i with
  | zero => simp [txt]
  | succ i ih =>
    simp only [txt]
    have := encI_len (V (F i))
    cases goodI (V (F i)) <;> simp <;> omega
theorem wnt_len (F : Nat → Int) : ∀ i, (wnt F i).length ≤ i := by
  intro i
  induction i with
  | zero => simp [wnt]
  | succ i ih =>
    simp only [wnt]
    cases goodI (V (F i)) <;> simp <;> omega
theorem good_a {v : Int} (c1 : ¬ v > 1114111) (c2 : ¬ v ≥ 55296) : goodI v = true := by unfold goodI; rw [decide_eq_true (show v ≤ 1114111 by omega), decide_eq_true (show v < 55296 by omega)]; rfl
theorem good_b {v : Int} (c1 : ¬ v > 1114111) (c2 : ¬ v ≤ 57343) : goodI v = true := by
  unfold goodI; rw [decide_eq_true (show v ≤ 1114111 by omega), decide_eq_true (show v > 57343 by omega)]; cases decide (v < 55296) <;> rfl
theorem bad_a {v : Int} (c1 : v > 1114111) : goodI v = false := by unfold goodI; rw [decide_eq_false (show ¬ v ≤ 1114111 by omega)]; rfl
theorem bad_b {v : Int} (c2 : v ≥ 55296) (c3 : v ≤ 57343) : goodI v = false := by
  unfold goodI; rw [decide_eq_false (show ¬ v < 55296 by omega), decide_eq_false (show ¬ v > 57343 by omega)]; cases decide (v ≤ 1114111) <;> rfl
theorem tm8_spr (n : Nat) (t : List UInt8) (m : Nat) (i : Int) : tm8 n t m i = spr [(0, .sl true 0 0 n .no), (3, .str t), (4, .sl false 0 0 m .no), (5, .int .i64 i)] 0 95 := by kernel_rfl
theorem tm8b_spr (m k : Nat) (i : Int) : tm8b m k i = spr [(4, .sl false 0 0 m .no), (8, .sl false 3 0 k .no), (12, .int .i64 i)] 0 95 := by kernel_rfl
def fam8 (n : Nat) (t : List UInt8) (w : List (Int × Int)) (i : Nat) : St := ⟨tm8 n t w.length (i : Nat), [some (.gen 38 2 w.length (outG w))]⟩
theorem fit8a {n : Nat} {t : List UInt8} {w : List (Int × Int)} {i : Nat} {T : List AV} {h : Rows} {m k : Nat} {g : Nat → AV} (hk : k = w.length)
    (h1 : h[m]? = some (some (.gen 38 2 k g))) (hg : ∀ j, j < k → g j = outG w j) (hT : VwL (oneV m) 1 (tm8 n t w.length (i : Nat)) T) : Fit 0 (fam8 n t w i) ⟨T, h⟩ := by
  subst hk
  refine ⟨oneV m, ⟨View.of ?_ ?_, hT⟩, fun c hc => absurd hc (Nat.not_lt_zero _), Nat.zero_le _⟩
  · intro c o ho
    match c with
    | 0 =>
      cases ho
      refine ViewL.at_ (b := m) rfl h1 (.gen rfl fun j hj => ⟨rfl, ?_⟩)
      rw [hg j hj]
      exact gnd_vw _ _ _ rfl
    | c + 1 => simp [fam8] at ho
  · intro c c' b hc hc' _ _
    have hc : c < 1 := hc
    have hc' : c' < 1 := hc'
    omega
theorem app_outG {w : List (Int × Int)} {v0 v1 : Int} (j : Nat) (hj : j < w.length + 1) : (bif j.blt w.length then AV.agg [AV.int IntKind.i64 (w.getD (0 + j) (0, 0)).fst, AV.int IntKind.i64 (w.getD (0 + j) (0, 0)).snd] else (Src.lst [AV.agg [AV.int IntKind.i64 v0, AV.int IntKind.i64 v1]]).at_ (j - w.length)) = outG (w ++ [(v0, v1)]) j := by
  rw [← outG_snoc w v0 v1 j hj]
  by_cases h : j < w.length
  · rw [if_pos h, show j.blt w.length = true by simpa [Nat.blt_eq] using h, Nat.zero_add]
    rfl
  · have : j = w.length := by omega
    subst this
    rw [if_neg h, show (w.length).blt w.length = false by rw [Bool.eq_false_iff]; simp [Nat.blt_eq], Nat.sub_self]
    rfl
theorem loop8a (ty n : Nat) (F : Nat → Int) (hn : n ≤ 9223372036854775807) (st0 : St) (hT : VwL noView 1 (tm8 n [] 0 ((0 : Nat) : Int)) st0.tmps) (hr : st0.rows = []) {Q : Exit → St → Prop}
    (h : Q .normal (fam8 n (txt F (min n 500)) (wnt F (min n 500)) (min n 500))) : Safe Try.prog (env8 (roI ty n F)).R (.block 0 (.loop lp8)) st0 Q := by
  refine (loop_block (I := {i : Nat // i ≤ min n 500}) (fam := fun i => fam8 n (txt F i.1) (wnt F i.1) i.1) (fun i => min n 500 - i.1) (X := fun e stE => e = .exit 0 ∧ stE = fam8 n (txt F (min n 500)) (wnt F (min n 500)) (min n 500)) (id := 0)
    (i0 := ⟨0, Nat.zero_le _⟩) (st := st0) (f := noView) ?_ ?_ ?_ ?_).mono ?_
  · refine ⟨?_, hT⟩
    rw [hr]
    refine View.of ?_ ?_
    · intro c o ho
      match c with
      | 0 => cases ho; exact ViewL.void rfl rfl
      | c + 1 => simp [fam8] at ho
    · intro c c' b _ _ h1 _
      cases h1
  · intro c hc; rw [hr] at hc; exact absurd hc (Nat.not_lt_zero _)
  · intro i; rw [hr]; exact Nat.zero_le _
  · rintro ⟨i, hi⟩
    rw [hr]
    refine byRndI (env8_ok (roI ty n F)) (f := 8) (fi := fi8) (by kernel_rfl) blk8 10000 (vr8a ty n F (txt F i) (wnt F i) i _) ?_
    have hw : IntKind.i64.wrap ((i : Int) + 1) = ((i + 1 : Nat) : Int) := by rw [wrap64 _ (by omega) (by omega)]; omega
    have hF : F (0 + (i : Int).toNat) = F i := by simp
    obtain ⟨v0, v1⟩ := V_bd (F i)
    have hwl := wnt_len F i
    have htl := txt_len F i
    rw [hw, hF, w32 v0 v1]
    have quit : ∀ T, n = i ∨ 500 = i → VwL (oneV 0) 1 (tm8 n (txt F i) (wnt F i).length (i : Nat)) T → ∃ stE, Fit 0 stE ⟨T, [some (.gen 38 2 (wnt F i).length (outG (wnt F i)))]⟩ ∧ ((.exit 0 : Exit) = .exit 0 ∧ stE = fam8 n (txt F (min n 500)) (wnt F (min n 500)) (min n 500)) := by
      intro T hc hT
      have e : min n 500 = i := by omega
      rw [e]
      exact ⟨_, fit8a (m := 0) rfl rfl (fun j hj => rfl) hT, rfl, rfl⟩
    have bad : ∀ T, i < n → i < 500 → goodI (V (F i)) = false → VwL (oneV 0) 1 (tm8 n (txt F i) (wnt F i).length ((i + 1 : Nat) : Int)) T →
        ∃ i' : {i : Nat // i ≤ min n 500}, min n 500 - i'.1 < min n 500 - i ∧ Fit 0 (fam8 n (txt F i'.1) (wnt F i'.1) i'.1) ⟨T, [some (.gen 38 2 (wnt F i).length (outG (wnt F i)))]⟩ := by
      intro T h1 h2 hb hT
      refine ⟨⟨i + 1, by omega⟩, by show min n 500 - (i + 1) < min n 500 - i; omega, ?_⟩
      have e1 : txt F (i + 1) = txt F i := by simp only [txt, hb, cond_false]
      have e2 : wnt F (i + 1) = wnt F i := by simp only [wnt, hb, cond_false]
      show Fit 0 (fam8 n (txt F (i + 1)) (wnt F (i + 1)) (i + 1)) _
      rw [e1, e2]
      exact fit8a (m := 0) rfl rfl (fun j hj => rfl) hT
    have good : ∀ T x y, i < n → i < 500 → goodI (V (F i)) = true → VwL (oneV 2) 1 (tm8 n (txt F i ++ encI (V (F i))) ((wnt F i).length + 1) ((i + 1 : Nat) : Int)) T →
        ∃ i' : {i : Nat // i ≤ min n 500}, min n 500 - i'.1 < min n 500 - i ∧ Fit 0 (fam8 n (txt F i'.1) (wnt F i'.1) i'.1) ⟨T, [x, y, some (Row.gen 38 2 ((wnt F i).length + 1) fun j => bif j.blt (wnt F i).length then AV.agg [AV.int IntKind.i64 ((wnt F i).getD (0 + j) (0, 0)).fst, AV.int IntKind.i64 ((wnt F i).getD (0 + j) (0, 0)).snd] else (Src.lst [AV.agg [AV.int IntKind.i64 (V (F i)), AV.int IntKind.i64 (((txt F i).length : Nat) : Int)]]).at_ (j - (wnt F i).length))]⟩ := by
      intro T x y h1 h2 hb hT
      refine ⟨⟨i + 1, by omega⟩, by show min n 500 - (i + 1) < min n 500 - i; omega, ?_⟩
      have e1 : txt F (i + 1) = txt F i ++ encI (V (F i)) := by simp only [txt, hb, cond_true]
      have e2 : wnt F (i + 1) = wnt F i ++ [(V (F i), ((txt F i).length : Int))] := by simp only [wnt, hb, cond_true]
      show Fit 0 (fam8 n (txt F (i + 1)) (wnt F (i + 1)) (i + 1)) _
      rw [e1, e2]
      refine fit8a (m := 2) (by simp) rfl (fun j hj => app_outG j hj) ?_
      rw [List.length_append]
      exact hT
    refine hcond (fun c1 => ?_) (fun c1 => ?_)
    · have c1 : i < n := by have := of_decide_eq_true c1; omega
      refine hcond (fun c2 => ?_) (fun c2 => ?_)
      · have c2 : i < 500 := by have := of_decide_eq_true c2; omega
        refine hcond (fun _ => ?_) (fun h => by exfalso; simp at h; omega)
        refine hcond (fun _ => ?_) (fun h => by exfalso; have h := of_decide_eq_false h; apply h; show 0 + (i : Int).toNat < n; omega)
        refine hcond (fun c3 => bad _ c1 c2 (bad_a (of_decide_eq_true c3)) (by ((simp only [tm8, tm8b]; repeat' (first | with_reducible exact VwL.nil | with_reducible refine VwL.cons ?_ ?_ | with_reducible exact Vw.anyI | with_reducible exact Vw.strI | with_reducible exact Vw.intI | with_reducible exact Vw.intE rfl | exact Vw.slI (by decide) rfl | exact Vw.slI (by simp) rfl | exact Vw.gndI rfl))))) (fun c3 => ?_)
        have c3 := of_decide_eq_false c3
        refine hcond (fun c4 => ?_) (fun c4 => ?_)
        · have c4 := of_decide_eq_true c4
          refine hcond (fun c5 => bad _ c1 c2 (bad_b c4 (of_decide_eq_true c5)) (by ((simp only [tm8, tm8b]; repeat' (first | with_reducible exact VwL.nil | with_reducible refine VwL.cons ?_ ?_ | with_reducible exact Vw.anyI | with_reducible exact Vw.strI | with_reducible exact Vw.intI | with_reducible exact Vw.intE rfl | exact Vw.slI (by decide) rfl | exact Vw.slI (by simp) rfl | exact Vw.gndI rfl))))) (fun c5 => ?_)
          refine hcond (fun _ => ?_) (fun h => by
            exfalso
            have h' : (decide (0 + (wnt F i).length ≤ (wnt F i).length) && (true && (true && decide (((wnt F i).length + 1) * 16 ≤ 140737488355328)))) = false := h
            simp at h'; omega)
          refine hcond (fun _ => ?_) (fun h => by exfalso; have h := of_decide_eq_false h; apply h; have := encI_len (V (F i)); unfold encI at this; omega)
          exact good _ _ _ c1 c2 (good_b c3 (of_decide_eq_false c5)) (by ((simp only [tm8, tm8b]; repeat' (first | with_reducible exact VwL.nil | with_reducible refine VwL.cons ?_ ?_ | with_reducible exact Vw.anyI | with_reducible exact Vw.strI | with_reducible exact Vw.intI | with_reducible exact Vw.intE rfl | exact Vw.slI (by decide) rfl | exact Vw.slI (by simp) rfl | exact Vw.gndI rfl))))
        · refine hcond (fun _ => ?_) (fun h => by
            exfalso
            have h' : (decide (0 + (wnt F i).length ≤ (wnt F i).length) && (true && (true && decide (((wnt F i).length + 1) * 16 ≤ 140737488355328)))) = false := h
            simp at h'; omega)
          refine hcond (fun _ => ?_) (fun h => by exfalso; have h := of_decide_eq_false h; apply h; have := encI_len (V (F i)); unfold encI at this; omega)
          exact good _ _ _ c1 c2 (good_a c3 (of_decide_eq_false c4)) (by ((simp only [tm8, tm8b]; repeat' (first | with_reducible exact VwL.nil | with_reducible refine VwL.cons ?_ ?_ | with_reducible exact Vw.anyI | with_reducible exact Vw.strI | with_reducible exact Vw.intI | with_reducible exact Vw.intE rfl | exact Vw.slI (by decide) rfl | exact Vw.slI (by simp) rfl | exact Vw.gndI rfl))))
      · exact quit _ (.inr (by have := of_decide_eq_false c2; omega)) (by ((simp only [tm8, tm8b]; repeat' (first | with_reducible exact VwL.nil | with_reducible refine VwL.cons ?_ ?_ | with_reducible exact Vw.anyI | with_reducible exact Vw.strI | with_reducible exact Vw.intI | with_reducible exact Vw.intE rfl | exact Vw.slI (by decide) rfl | exact Vw.slI (by simp) rfl | exact Vw.gndI rfl))))
    · exact quit _ (.inl (by have := of_decide_eq_false c1; omega)) (by ((simp only [tm8, tm8b]; repeat' (first | with_reducible exact VwL.nil | with_reducible refine VwL.cons ?_ ?_ | with_reducible exact Vw.anyI | with_reducible exact Vw.strI | with_reducible exact Vw.intI | with_reducible exact Vw.intE rfl | exact Vw.slI (by decide) rfl | exact Vw.slI (by simp) rfl | exact Vw.gndI rfl))))
  · rintro e stE ⟨e0, rfl, rfl, rfl⟩
    exact h
def fam8b (w : List (Int × Int)) (i : Nat) : St := ⟨tm8b w.length w.length (i : Nat), [some (.gen 38 2 w.length (outG w)), none, none, some (.gen 38 2 w.length (outG w))]⟩
theorem fit8b {w : List (Int × Int)} {i : Nat} {T : List AV} (hT : VwL some 4 (tm8b w.length w.length (i : Nat)) T) {b c : Option Row} : StV some (fam8b w i) ⟨T, [some (.gen 38 2 w.length (outG w)), b, c, some (.gen 38 2 w.length (outG w))]⟩ := by
  refine ⟨View.of ?_ ?_, hT⟩
  · intro c o ho
    match c with
    | 0 => cases ho; exact ViewL.at_ (b := 0) rfl rfl (genPlain (outG_plain _ _))
    | 1 => cases ho; exact ViewL.gone' (b := 1) rfl (by simp)
    | 2 => cases ho; exact ViewL.gone' (b := 2) rfl (by simp)
    | 3 => cases ho; exact ViewL.at_ (b := 3) rfl rfl (genPlain (outG_plain _ _))
    | c + 4 => simp [fam8b] at ho
  · intro c c' b _ _ h1 h2
    cases h1; cases h2; rfl
theorem loop8b (R : Nat → RoRow) (w : List (Int × Int)) (hw1 : w.length ≤ 1000) (st0 : St) {b c : Option Row} (hT : VwL some 4 (tm8b w.length w.length ((0 : Nat) : Int)) st0.tmps) (hr : st0.rows = [some (.gen 38 2 w.length (outG w)), b, c, some (.gen 38 2 w.length (outG w))]) {Q : Exit → St → Prop}
    (h : Q .normal (fam8b w w.length)) : Safe Try.prog (env8 R).R (.block 2 (.loop lp8b)) st0 Q := by
  have hlen : st0.rows.length = 4 := by rw [hr]; rfl
  refine (loop_block (I := {i : Nat // i ≤ w.length}) (fam := fun i => fam8b w i.1) (fun i => w.length - i.1) (X := fun e stE => e = .exit 2 ∧ stE = fam8b w w.length) (id := 2)
    (i0 := ⟨0, Nat.zero_le _⟩) (st := st0) (f := some) ?_ ?_ ?_ ?_).mono ?_
  · have := fit8b (w := w) (i := 0) (T := st0.tmps) hT (b := b) (c := c)
    rw [show st0 = ⟨st0.tmps, [some (.gen 38 2 w.length (outG w)), b, c, some (.gen 38 2 w.length (outG w))]⟩ by rw [← hr]]
    exact this
  · intro c hc; rfl
  · intro i; rw [hlen]; exact Nat.le_refl _
  · rintro ⟨i, hi⟩
    rw [hlen]
    refine byRndI (env8_ok R) (f := 8) (fi := fi8) (by kernel_rfl) blk8b 10000 (vr8b R w i _) ?_
    have hw : IntKind.i64.wrap ((i : Int) + 1) = ((i + 1 : Nat) : Int) := by rw [wrap64 _ (by omega) (by omega)]; omega
    rw [hw]
    refine hcond (fun c1 => ?_) (fun c1 => ?_)
    · have c1 : i < w.length := by have := of_decide_eq_true c1; omega
      refine hcond (fun _ => ?_) (fun h => by exfalso; simp at h; omega)
      refine hcond (fun _ => ?_) (fun h => by exfalso; have := of_decide_eq_false h; omega)
      refine hcond (fun _ => ?_) (fun h => by exfalso; simp at h; omega)
      refine hcond (fun _ => ?_) (fun h => by exfalso; have := of_decide_eq_false h; omega)
      refine hcond (fun h => by exfalso; simp at h) (fun _ => ?_)
      refine ⟨⟨i + 1, by omega⟩, by show w.length - (i + 1) < w.length - i; omega, some, fit8b ?_, fun _ _ => rfl, by simp [fam8b]⟩
      ((simp only [tm8, tm8b]; repeat' (first | with_reducible exact VwL.nil | with_reducible refine VwL.cons ?_ ?_ | with_reducible exact Vw.anyI | with_reducible exact Vw.strI | with_reducible exact Vw.intI | with_reducible exact Vw.intE rfl | exact Vw.slI (by decide) rfl | exact Vw.slI (by simp) rfl | exact Vw.gndI rfl)))
    · have c1 : ¬ i < w.length := by have := of_decide_eq_false c1; omega
      have : i = w.length := by omega
      subst this
      exact ⟨fam8b w w.length, ⟨some, fit8b (by ((simp only [tm8, tm8b]; repeat' (first | with_reducible exact VwL.nil | with_reducible refine VwL.cons ?_ ?_ | with_reducible exact Vw.anyI | with_reducible exact Vw.strI | with_reducible exact Vw.intI | with_reducible exact Vw.intE rfl | exact Vw.slI (by decide) rfl | exact Vw.slI (by simp) rfl | exact Vw.gndI rfl)))), fun _ _ => rfl, by simp [fam8b]⟩, rfl, rfl⟩
  · rintro e stE ⟨e0, rfl, rfl, rfl⟩
    exact h
/-- What the first loop leaves. -/
def Got8 (n : Nat) (F : Nat → Int) (t : List UInt8) (w : List (Int × Int)) (i : Nat) : Prop := t = txt F i ∧ w = wnt F i ∧ i = min n 500
structure Is8 (n : Nat) (F : Nat → Int) (t : List UInt8) (w : List (Int × Int)) (i : Nat) : Prop where
  h : Got8 n F t w i
structure Good8 (t : List UInt8) (o : List (Int × Int)) : Prop where
  h : (foldD 0 t d0).out = o
def spec8a (n : Nat) (F : Nat → Int) : LoopSp := fun st k => (nthV st.tmps 0 = .sl true 0 0 n .no ∧ nthV st.tmps 3 = .str [] ∧ nthV st.tmps 4 = .nils ∧ nthV st.tmps 5 = .int .i64 0 ∧ st.tmps.length = 95 ∧ st.rows = []) ∧ ∀ t w i, Is8 n F t w i → k .normal ⟨tm8 n t w.length (i : Nat), [some (.gen 38 2 w.length (outG w))]⟩
structure Same8 (n1 n2 : Nat) (F1 F2 : Nat → AV) : Prop where
  h : ∃ w : List (Int × Int), w.length ≤ 1000 ∧ n1 = w.length ∧ n2 = w.length ∧ F1 = outG w ∧ F2 = outG w
def spec8b : LoopSp := fun st k => match st.rows with
  | [some (.gen 38 2 n1 F1), d, none, some (.gen 38 2 n2 F2)] => (nthV st.tmps 4 = .sl false 0 0 n1 .no ∧ nthV st.tmps 8 = .sl false 3 0 n2 .no ∧ nthV st.tmps 12 = .int .i64 0 ∧ st.tmps.length = 95 ∧ Same8 n1 n2 F1 F2) ∧ k .normal ⟨tm8b n1 n2 (n1 : Nat), [some (.gen 38 2 n1 F1), none, none, some (.gen 38 2 n2 F2)]⟩
  | _ => False
theorem spec8b_ok (R : Nat → RoRow) : ∀ st k, spec8b st k → Safe Try.prog (env8 R).R (.block 2 (.loop lp8b)) st k := by
  intro st k hk
  unfold spec8b at hk
  split at hk
  · rename_i n1 F1 d n2 F2 hrows
    obtain ⟨⟨t4, t8, t12, hlen, ⟨w, hl, rfl, rfl, rfl, rfl⟩⟩, hk⟩ := hk
    refine loop8b R w hl st ?_ hrows hk
    rw [tm8b_spr]
    refine VwL.ofKnown hlen ⟨?_, ?_, ?_, trivial⟩
    · rw [t4]; exact Vw.slI (by decide) rfl
    · rw [t8]; exact Vw.slI (by decide) rfl
    · rw [t12]; exact Vw.intI
  · exact hk.elim
theorem spec8a_ok (ty n : Nat) (F : Nat → Int) (hn : n ≤ 9223372036854775807) : ∀ st k, spec8a n F st k → Safe Try.prog (env8 (roI ty n F)).R (.block 0 (.loop lp8)) st k := by
  rintro st k ⟨⟨t0, t3, t4, t5, hlen, hr⟩, hk⟩
  refine loop8a ty n F hn st ?_ hr (hk _ _ _ ⟨rfl, rfl, rfl⟩)
  rw [tm8_spr]
  refine VwL.ofKnown hlen ⟨?_, ?_, ?_, ?_, trivial⟩
  · rw [t0]; exact Vw.gndI rfl
  · rw [t3]; exact Vw.strI
  · rw [t4]; exact Vw.slN (by decide) rfl
  · rw [t5]; exact Vw.intI
noncomputable abbrev env8L (ty n : Nat) (F : Nat → Int) : Env Prop := ((env8 (roI ty n F)).addLoop 8 0 (spec8a n F)).addLoop 8 2 spec8b
theorem env8L_ok (ty n : Nat) (F : Nat → Int) (hn : n ≤ 9223372036854775807) : EnvOK Try.prog (env8L ty n F) id :=
  ((env8_ok _).addLoop (f := 8) (fi := fi8) (by kernel_rfl) (body := .loop lp8) blk8 (spec8a_ok ty n F hn)).addLoop (f := 8) (fi := fi8) (by kernel_rfl) (body := .loop lp8b) blk8b (spec8b_ok _)
end Go.Dc.Ka
