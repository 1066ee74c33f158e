/- Bytes without signs are text: the states of the decoder. -/
import Derived.Test.YtghhcilbjdgonaaPlainA
import Derived.Test.YtghhcilbjdgonaaDcZi
set_option linter.unusedVariables false
set_option linter.unusedSimpArgs false
namespace Go.Dc.Kl
open Go.Proofs Go.RowKit
set_option maxRecDepth 100000
def winL : List Int := [8364, 129, 8218, 402, 8222, 8230, 8224, 8225, 710, 8240, 352, 8249, 338, 141, 381, 143, 144, 8216, 8217, 8220, 8221, 8226, 8211, 8212, 732, 8482, 353, 8250, 339, 157, 382, 376]
def winRow : Option Row := some (.lst 69 32 [.agg (winL.map (AV.int .i64))])
abbrev decU (at_ : Int) (bg lo hi out : AV) : Option Row := some (.lst 68 9 [.agg [.bool true, .int .i64 at_, bg, .int .i64 0, .int .i64 0, lo, hi, out, .nils]])
def rA (s : List UInt8) : Nat → AV := fun j => rune (byteI s j) (j : Int)
abbrev rowA (s : List UInt8) (n : Nat) : Option Row := some (.gen 29 2 n (rA s))
def loU (i : Nat) : Int := bif Nat.beq i 0 then 0 else 128
def hiU (i : Nat) : Int := bif Nat.beq i 0 then 0 else 191
abbrev decI (i : Nat) (out : AV) : Option Row := decU (i : Nat) (.int .i64 ((i - 1 : Nat) : Int)) (.int .u8 (loU i)) (.int .u8 (hiU i)) out
def rows17 (s : List UInt8) (i : Nat) : Rows := [decI i (.sl false 4 0 i .no), winRow, winRow, some (.byt 5 s), rowA s i]
def tm17 (s : List UInt8) (i : Nat) : List AV := [.ptr false 0 0 0, .str s, .any, .any, .nils, .nils, .ptr false 2 0 0, .any, .any, .any, .any, .any, .any, .sl false 3 0 s.length .no, .int .i64 s.length, .int .i64 i,
   .any, .any, .any, .any, .any, .any, .any, .any, .any, .any, .any, .any, .any, .any, .any, .any, .any, .any, .any, .any, .any, .any, .any, .any, .any, .any, .any, .any, .any, .any, .any, .any,
   .any, .any, .any, .any, .any, .any, .any, .any, .any, .any, .any, .any, .any, .any, .any, .any]
noncomputable def lp17 : Code := loopOf fi17 0
theorem blk17 : blockOf fi17 0 = some (.loop lp17) := by kernel_rfl
end Go.Dc.Kl
