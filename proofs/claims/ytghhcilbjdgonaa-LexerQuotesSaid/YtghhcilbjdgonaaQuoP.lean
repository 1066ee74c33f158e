/- A value in quotes: what is computed. -/
import Derived.Test.YtghhcilbjdgonaaQuoO
set_option linter.unusedVariables false
set_option linter.unusedSimpArgs false
namespace Go.Dc.Kl
open Go.Proofs Go.RowKit
set_option maxRecDepth 100000
theorem vc3 (R : Nat → RoRow) (s : List UInt8) (Q : AV → Prop) : vcd (env3 R s) 1000 3 fi3 [.str s] [] (fun v _ => Q v) = ((AV.str s = AV.str s ∧ AV.str [] = AV.str [] ∧ AV.int IntKind.i64 0 = AV.int IntKind.i64 0 ∧ 150 = 150 ∧ NoRows []) ∧ ∀ (v : List UInt8) (i : Nat), v.length.le 60 → (∀ (j : Nat), j.succ.le v.length → OkC (byteI v j)) → bif decide (6 + v.length ≤ 9223372036854775807) then bif decide ((60 :: 112 :: 32 :: 97 :: 61 :: 34 :: ([] ++ v)).length + 2 ≤ 9223372036854775807) then bif decide (6 + v.length ≤ 9223372036854775807) then bif decide ((60 :: 112 :: 32 :: 97 :: 61 :: 39 :: ([] ++ v)).length + 2 ≤ 9223372036854775807) then bif decide (5 + v.length ≤ 9223372036854775807) then bif decide ((60 :: 112 :: 32 :: 97 :: 61 :: ([] ++ v)).length + 1 ≤ 9223372036854775807) then (AV.sl false 0 0 3 Cp.tight = AV.sl false 0 0 3 Cp.tight ∧ AV.int IntKind.i64 3 = AV.int IntKind.i64 3 ∧ AV.int IntKind.i64 0 = AV.int IntKind.i64 0 ∧ 150 = 150 ∧ StrsAt v [some (Row.lst 9 1 [AV.str (60 :: 112 :: 32 :: 97 :: 61 :: 34 :: (([] ++ v) ++ [34, 62])), AV.str (60 :: 112 :: 32 :: 97 :: 61 :: 39 :: (([] ++ v) ++ [39, 62])), AV.str (60 :: 112 :: 32 :: 97 :: 61 :: (([] ++ v) ++ [62]))])] ∧ VOK v) ∧ Q (AV.bool true) else False else False else False else False else False else False) := by kernel_rfl
theorem safe3 (R : Nat → RoRow) (s : List UInt8) : SafeCall Try.prog R 3 [.str s] [] fun v _ => v = .bool true := by
  refine byVcd (env3_ok R s) (f := 3) (fi := fi3) (by kernel_rfl) 1000 (vc3 R s fun v => v = .bool true) ?_
  refine ⟨⟨rfl, rfl, rfl, rfl, ⟨rfl⟩⟩, fun v i hv hok => ?_⟩
  have hv : v.length ≤ 60 := hv
  have hok : OkV v := hok
  refine hcT (by simp; omega) (hcT (by simp; omega) (hcT (by simp; omega) (hcT (by simp; omega) (hcT (by simp; omega) (hcT (by simp; omega) ?_)))))
  exact ⟨⟨rfl, rfl, rfl, rfl, ⟨rfl⟩, ⟨hv, hok⟩⟩, rfl⟩
theorem quotes_walk (s : ByteArray) (w : World) : Calls Try.prog 3 #[.string s] w fun e w' => e = .returned (.bool true) ∧ Go.RowKit.Below w.heap.size w w' := by
  have h := (safe3 roNone s.data.toList).law mapNone #[.string s] w (by simp [DenL, Den]) (roNone_ok w)
  exact h
end Go.Dc.Kl
