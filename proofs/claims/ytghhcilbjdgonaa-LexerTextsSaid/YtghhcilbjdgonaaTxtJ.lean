/- Bytes without signs are text: the tokens when the end is known, the states. -/
import Derived.Test.YtghhcilbjdgonaaTxtI
set_option linter.unusedVariables false
set_option linter.unusedSimpArgs false
namespace Go.Dc.Kl
open Go.Proofs Go.RowKit
set_option maxRecDepth 100000
def w15a (s : List UInt8) : Rows := [decI 0 .nils, linR, lexR (.sl false 6 0 0 .no) true 1073741824 .nils 0 [], none, none, none, rowA s 0, none, rowK s 0, none]
def w15b (s : List UInt8) (n : Nat) (v b : Int) : Rows := [decI n .nils, linR, lexR (.sl false 6 n 0 .no) true 1073741824 (.sl false 7 1 0 .no) 0 [], none, none, none, rowA s n, rowT v b, rowK s n, none]
def tm16 (j : Nat) : List AV := [.any, .nils, .any, .any, .nils, .nils, .ptr false 0 0 0, .ptr false 1 0 0, .ptr false 2 0 0, .sl false 8 0 j .no, .nils, .int .i64 1, .any, .any, .any, .any, .any, .any, .any, .any, .any, .any, .any, .any, .any, .any, .any, .any, .any, .any, .any, .any, .any, .any, .any, .any, .any, .any, .any, .any, .any, .any, .any, .any, .any, .any, .any, .any, .any, .any, .any, .any, .any, .any, .any, .any, .any, .any, .any, .any, .any, .any, .any, .any, .any, .any, .any, .any, .any, .any, .any, .any, .any, .any, .any, .any, .any, .any, .any, .any, .any, .any, .any, .any, .any, .any, .any, .any, .any, .any, .any, .any, .any, .any, .any, .any]
theorem tm16_spr (j : Nat) : tm16 j = spr [(1, .nils), (4, .nils), (5, .nils), (6, .ptr false 0 0 0), (7, .ptr false 1 0 0), (8, .ptr false 2 0 0), (9, .sl false 8 0 j .no), (10, .nils), (11, .int .i64 1)] 0 96 := by kernel_rfl
def tm16e (j : Nat) : List AV := [.any, .nils, .any, .any, .nils, .nils, .ptr false 0 0 0, .ptr false 1 0 0, .ptr false 2 0 0, .sl false 11 0 (j + 1) .no, .nils, .int .i64 1, .any, .any, .any, .any, .any, .any, .any, .any, .any, .any, .any, .any, .any, .any, .any, .any, .any, .any, .any, .any, .any, .any, .any, .any, .any, .any, .any, .any, .any, .any, .any, .any, .any, .any, .any, .any, .any, .any, .any, .any, .any, .any, .any, .any, .any, .any, .any, .any, .any, .any, .any, .any, .any, .any, .any, .any, .any, .any, .any, .any, .any, .any, .any, .any, .any, .any, .any, .any, .any, .any, .any, .any, .any, .any, .any, .any, .any, .any, .any, .any, .any, .any, .any, .any]
theorem tm16e_spr (j : Nat) : tm16e j = spr [(1, .nils), (4, .nils), (5, .nils), (6, .ptr false 0 0 0), (7, .ptr false 1 0 0), (8, .ptr false 2 0 0), (9, .sl false 11 0 (j + 1) .no), (10, .nils), (11, .int .i64 1)] 0 96 := by kernel_rfl
abbrev tokE : AV := .agg [.int .i64 0, .int .i64 0, .int .i64 1073741824, .str [], .str [], .nils, .bool false, .bool false]
def kE (s : List UInt8) (n : Nat) : Nat → AV := fun j => .agg [.int .i64 (bif j.blt n then 1 else 0), .int .i64 (bif j.blt n then byteI s j else 0), .int .i64 (bif j.blt n then (j : Int) else 1073741824), .str [], .str [], .nils, .bool false, .bool false]
abbrev lexE (inn out : AV) : Option Row := some (.lst 61 25 [.agg [inn, .bool true, .int .i64 1073741824, .fn 29 [] [], out, .nils, .int .i64 0, .str [], .int .i64 0, .int .i64 0, .int .i64 0, .int .i64 0, .str [], .str [], .nils, .bool false, .bool false, .nils, .int .i64 0, .nils, .int .i64 0, .int .i64 0, .nilf, .bool false, .bool false]])
def w16 (s : List UInt8) (n : Nat) : Rows := [decI n .nils, linR, lexE (.sl false 6 n 0 .no) (.sl false 10 1 0 .no), none, none, none, rowA s n, none, none, none, some (.lst 34 8 [tokE]), some (.gen 34 8 (n + 1) (kE s n))]
end Go.Dc.Kl
