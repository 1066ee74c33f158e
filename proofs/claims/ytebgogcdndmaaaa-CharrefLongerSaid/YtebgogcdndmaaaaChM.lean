/- Longest: a round of its second loop. -/
import Derived.Test.YtebgogcdndmaaaaChL
set_option linter.unusedVariables false
set_option linter.unusedSimpArgs false
namespace Go.Dc.Ka
open Go.Proofs Go.RowKit
set_option maxRecDepth 100000
/-- The text's first 'n' bytes. -/
def pre (s : List UInt8) (n : Nat) : List UInt8 := List.take (slHi s.length (some (n : Int)) - 0) (List.drop 0 s)
theorem round2 (R : Nat → RoRow) (s : List UInt8) (n : Nat) (k : Exit → St → Prop) : rnd (env21 R) 1000 21 (loopOf fi21 2) (fam2 s n) k =
   (
  bif decide ((↑n : Int) > 0) then
    bif slCond none (some (↑n : Int)) s.length then
      tabRowsG 0 = tabRowsG 0 ∧ bif (findB (pre s n)) then
        bif true && decide ((↑(findI (pre s n)) : Int) < 109) then
          bif decide (0 + (↑(findI (pre s n)) : Int).toNat < 109) then
            bif true && decide ((↑(findI (pre s n)) : Int) < 109) then
              bif decide (0 + (↑(findI (pre s n)) : Int).toNat < 109) then
                bif decide (0 + (↑(findI (pre s n)) : Int).toNat < 109) then
                  AV.sl false (0 + (0 + (↑(findI (pre s n)) : Int).toNat)) 0 (scAt (0 + (↑(findI (pre s n)) : Int).toNat)).length true =
                      AV.sl false (0 + (0 + (↑(findI (pre s n)) : Int).toNat)) 0 (scAt (0 + (↑(findI (pre s n)) : Int).toNat)).length true ∧
                    bif true && decide ((↑(findI (pre s n)) : Int) < 109) then
                      AV.ptr false 109 (0 + (↑(findI (pre s n)) : Int).toNat) 0 = AV.ptr false 109 (0 + (↑(findI (pre s n)) : Int).toNat) 0 ∧
                        k Exit.ret (St.mk [AV.str s, AV.any, AV.str (nameAt (0 + (↑(findI (pre s n)) : Int).toNat)),
                            AV.sl false (0 + (0 + (↑(findI (pre s n)) : Int).toNat)) 0 (scAt (0 + (↑(findI (pre s n)) : Int).toNat)).length true,
                            AV.sl false 109 0 109 true, AV.any, AV.any, AV.any, AV.int IntKind.i64 (↑n : Int),
                            AV.int IntKind.i64 (↑(findI (pre s n)) : Int), AV.bool (findB (pre s n)), AV.any, AV.any, AV.any, AV.any, AV.any, AV.any,
                            AV.any, AV.any, AV.any, AV.any, AV.any, AV.any, AV.any, AV.any, AV.any, AV.any, AV.any,
                            AV.int IntKind.i64 (↑n : Int), AV.bool true, AV.any, AV.any,
                            AV.tup [AV.int IntKind.i64 (↑(findI (pre s n)) : Int), AV.bool (findB (pre s n))], AV.sl false 109 0 109 true, AV.str s,
                            AV.int IntKind.i64 (↑n : Int),
                            AV.str (List.take (slHi s.length (some (↑n : Int)) - 0) (List.drop 0 s)),
                            AV.tup [AV.int IntKind.i64 (↑(findI (pre s n)) : Int), AV.bool (findB (pre s n))], AV.int IntKind.i64 (↑(findI (pre s n)) : Int), AV.bool (findB (pre s n)),
                            AV.bool true, AV.sl false 109 0 109 true, AV.int IntKind.i64 (↑(findI (pre s n)) : Int),
                            AV.ptr false 109 (0 + (↑(findI (pre s n)) : Int).toNat) 0, AV.ptr false 109 (0 + (↑(findI (pre s n)) : Int).toNat) 0,
                            AV.str (nameAt (0 + (↑(findI (pre s n)) : Int).toNat)), AV.sl false 109 0 109 true,
                            AV.int IntKind.i64 (↑(findI (pre s n)) : Int), AV.ptr false 109 (0 + (↑(findI (pre s n)) : Int).toNat) 0,
                            AV.ptr false 109 (0 + (↑(findI (pre s n)) : Int).toNat) 1,
                            AV.sl false (0 + (0 + (↑(findI (pre s n)) : Int).toNat)) 0 (scAt (0 + (↑(findI (pre s n)) : Int).toNat)).length true] (tabRowsG 0))
                    else False
                else False
              else False
            else False
          else False
        else False
      else
        k Exit.normal (St.mk [AV.str s, AV.any, AV.str [], AV.nils, AV.sl false 109 0 109 true, AV.any, AV.any, AV.any,
            AV.int IntKind.i64 (IntKind.i64.wrap ((↑n : Int) - 1)), AV.int IntKind.i64 (↑(findI (pre s n)) : Int), AV.bool (findB (pre s n)), AV.any,
            AV.any, AV.any, AV.any, AV.any, AV.any, AV.any, AV.any, AV.any, AV.any, AV.any, AV.any, AV.any, AV.any,
            AV.any, AV.any, AV.any, AV.int IntKind.i64 (↑n : Int), AV.bool true, AV.int IntKind.i64 (↑n : Int),
            AV.int IntKind.i64 (IntKind.i64.wrap ((↑n : Int) - 1)), AV.tup [AV.int IntKind.i64 (↑(findI (pre s n)) : Int), AV.bool (findB (pre s n))],
            AV.sl false 109 0 109 true, AV.str s, AV.int IntKind.i64 (↑n : Int),
            AV.str (List.take (slHi s.length (some (↑n : Int)) - 0) (List.drop 0 s)),
            AV.tup [AV.int IntKind.i64 (↑(findI (pre s n)) : Int), AV.bool (findB (pre s n))], AV.int IntKind.i64 (↑(findI (pre s n)) : Int), AV.bool (findB (pre s n)), AV.bool false,
            AV.any, AV.any, AV.any, AV.any, AV.any, AV.any, AV.any, AV.any, AV.any, AV.any] (tabRowsG 0))
    else False
  else
    k (Exit.exit 2) (St.mk [AV.str s, AV.any, AV.str [], AV.nils, AV.sl false 109 0 109 true, AV.any, AV.any, AV.any,
        AV.int IntKind.i64 (↑n : Int), AV.any, AV.any, AV.any, AV.any, AV.any, AV.any, AV.any, AV.any, AV.any, AV.any,
        AV.any, AV.any, AV.any, AV.any, AV.any, AV.any, AV.any, AV.any, AV.any, AV.int IntKind.i64 (↑n : Int),
        AV.bool false, AV.any, AV.any, AV.any, AV.any, AV.any, AV.any, AV.any, AV.any, AV.any, AV.any, AV.any, AV.any,
        AV.any, AV.any, AV.any, AV.any, AV.any, AV.any, AV.any, AV.any, AV.any] (tabRowsG 0))
) := by kernel_rfl
end Go.Dc.Ka
