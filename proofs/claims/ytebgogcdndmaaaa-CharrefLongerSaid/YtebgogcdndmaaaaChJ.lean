/- Longest: its first loop. -/
import Derived.Test.YtebgogcdndmaaaaChI
set_option linter.unusedVariables false
set_option linter.unusedSimpArgs false
namespace Go.Dc.Ka
open Go.Proofs Go.RowKit
set_option maxRecDepth 100000
noncomputable abbrev envJ (R : Nat → RoRow) : Env Prop := (envT R).addCall 45 spec45
theorem envJ_ok (R : Nat → RoRow) : EnvOK Try.prog (envJ R) id := (envT_ok R).addCall (f := 45) (fi := fi45) (by kernel_rfl) (spec45_ok R)
noncomputable def start1 (s : List UInt8) : St := ⟨[.str s, .tup [], .str [], .nils, .sl false 109 0 109 true, .int .i64 0, .tup [], .tup [], .tup [], .tup [], .tup [], .sl false 109 0 109 true, .sl false 109 0 109 true, .int .i64 109, .int .i64 0] ++ List.replicate 36 (.tup []), tabRowsG 0⟩
noncomputable def T1 (s : List UInt8) : List AV := [.str s, .tup [], .str [], .nils, .sl false 109 0 109 true, .int .i64 14, .tup [], .ptr false 218 0 0, .tup [], .tup [], .tup [], .sl false 109 0 109 true, .sl false 109 0 109 true, .int .i64 109,
  .int .i64 109, .bool false, .ptr false 109 108 0, tabG 0 108, .int .i64 14, .ptr false 218 0 0, .str (nameAt 108), .int .i64 4, .int .i64 14, .int .i64 109] ++ List.replicate 27 (.tup [])
noncomputable def junk1 : Rows := (List.range 109).map fun i => some (Row.lst 58 2 [tabG 0 i])
theorem run1 (R : Nat → RoRow) (s : List UInt8) (k : Exit → St → Prop) : rnd (envJ R) 10000 21 (.loop (loopOf fi21 0)) (start1 s) k = k (.exit 0) ⟨T1 s, tabRowsG 0 ++ junk1⟩ := by kernel_rfl
noncomputable def end1 (s : List UInt8) : St := ⟨[.str s, .any, .str [], .nils, .sl false 109 0 109 true, .int .i64 14] ++ List.replicate 45 .any, tabRowsG 0⟩
end Go.Dc.Ka
