/- The search in the table. -/
import Derived.Test.YtebgogcdndmaaaaChJ
set_option linter.unusedVariables false
set_option linter.unusedSimpArgs false
namespace Go.Dc.Ka
open Go.Proofs Go.RowKit
set_option maxRecDepth 100000
noncomputable def bsQ (s : List UInt8) (K : Nat → Prop) (f : Nat) : Nat → Nat → Prop :=
  Nat.rec (fun lo _ => K lo) (fun _ ih lo hi => bif Nat.blt lo hi then bif decide (Lib.compareBytes (nameAt ((lo + hi) / 2)) s < 0) then ih ((lo + hi) / 2 + 1) hi else ih lo ((lo + hi) / 2) else K lo) f
noncomputable def bsI (s : List UInt8) (f : Nat) : Nat → Nat → Nat :=
  Nat.rec (fun lo _ => lo) (fun _ ih lo hi => bif Nat.blt lo hi then bif decide (Lib.compareBytes (nameAt ((lo + hi) / 2)) s < 0) then ih ((lo + hi) / 2 + 1) hi else ih lo ((lo + hi) / 2) else lo) f
theorem bsQ_eq (s : List UInt8) (K : Nat → Prop) : ∀ f lo hi, bsQ s K f lo hi = K (bsI s f lo hi)
  | 0, lo, hi => rfl
  | f + 1, lo, hi => by
    show (bif Nat.blt lo hi then bif decide (Lib.compareBytes (nameAt ((lo + hi) / 2)) s < 0) then bsQ s K f ((lo + hi) / 2 + 1) hi else bsQ s K f lo ((lo + hi) / 2) else K lo) =
      K (bif Nat.blt lo hi then bif decide (Lib.compareBytes (nameAt ((lo + hi) / 2)) s < 0) then bsI s f ((lo + hi) / 2 + 1) hi else bsI s f lo ((lo + hi) / 2) else lo)
    cases Nat.blt lo hi
    · rfl
    · cases decide (Lib.compareBytes (nameAt ((lo + hi) / 2)) s < 0)
      · exact bsQ_eq s K f _ _
      · exact bsQ_eq s K f _ _
noncomputable def findI (s : List UInt8) : Nat := bsI s 8 0 109
noncomputable def findB (s : List UInt8) : Bool := bif Nat.blt (findI s) 109 then Lib.compareBytes (nameAt (findI s)) s == 0 else false
theorem vc36 (R : Nat → RoRow) (s : List UInt8) (Q : AV → Rows → Prop) : vcd (envJ R) 1000 36 fi36 [.sl false 109 0 109 true, .str s] (tabRowsG 0) Q =
  bsQ s (fun i => Q (.tup [.int .i64 i, .bool (bif Nat.blt i 109 then Lib.compareBytes (nameAt i) s == 0 else false)]) (tabRowsG 0)) 8 0 109 := by kernel_rfl
end Go.Dc.Ka
