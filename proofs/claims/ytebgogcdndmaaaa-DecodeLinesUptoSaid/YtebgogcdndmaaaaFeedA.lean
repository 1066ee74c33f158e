/- Feed, where each byte is one scalar: the states of its loop. -/
import Derived.Test.YtebgogcdndmaaaaEnv
set_option linter.unusedVariables false
namespace Go.Dc.Ka
open Go.Proofs Go.RowKit
set_option maxRecDepth 100000
theorem mixed : Try.prog.follows .mixedOrders = true := by kernel_rfl
noncomputable def loopOf (fi : FI) (id : Nat) : Code := match blockOf fi id with | some (.loop b) => b | _ => .skip
def winL : List Int := [8364, 129, 8218, 402, 8222, 8230, 8224, 8225, 710, 8240, 352, 8249, 338, 141, 381, 143, 144, 8216, 8217, 8220, 8221, 8226, 8211, 8212, 732, 8482, 353, 8250, 339, 157, 382, 376]
def winRow : Option Row := some (.lst 63 32 [.agg (winL.map (AV.int .i64))])
def byteI (s : List UInt8) (i : Nat) : Int := ((s.getD i 0).toNat : Int)
def winI (b : Int) : Int := if 128 ≤ b ∧ b < 160 then winL.getD (b - 128).toNat 0 else b
def outF (a : Int) (s : List UInt8) (i : Nat) : AV := .agg [.int .i64 (winI (byteI s i)), .int .i64 (a + i)]
def decRow (a : Int) (out : AV) : Option Row := some (.lst 62 9 [.agg [.bool false, .int .i64 a, .int .i64 0, .int .i64 0, .int .i64 0, .int .u8 0, .int .u8 0, out, .nils]])
noncomputable def feedT (s : List UInt8) (i : Nat) : List AV :=
  [.ptr false 0 0 0, .str s, .any, .any, .nils, .nils, .ptr false 2 0 0, .any, .any, .any, .any, .any, .any, .sl false 3 0 s.length .no, .int .i64 s.length, .int .i64 i,
   .any, .any, .any, .any, .any, .any, .any, .any, .any, .any, .any, .any, .any, .any, .any, .any, .any, .any, .any, .any, .any, .any, .any, .any, .any, .any, .any, .any, .any, .any, .any, .any,
   .any, .any, .any, .any, .any, .any, .any, .any, .any, .any, .any, .any, .any, .any, .any, .any]
noncomputable def feedS (a : Int) (s : List UInt8) (i : Nat) : St :=
  ⟨feedT s i, [decRow (a + i) (.sl false 4 0 i .no), winRow, winRow, some (.byt 5 s), some (.gen 38 2 i (outF a s))]⟩
end Go.Dc.Ka
