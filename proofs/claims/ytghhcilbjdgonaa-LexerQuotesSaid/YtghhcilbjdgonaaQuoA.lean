/- A value in quotes: the states of Next. -/
import Derived.Test.YtghhcilbjdgonaaQuoZ
import Derived.Test.YtghhcilbjdgonaaDcZk
set_option linter.unusedVariables false
set_option linter.unusedSimpArgs false
namespace Go.Dc.Kl
open Go.Proofs Go.RowKit
set_option maxRecDepth 100000
def FQ (q : Int) (u : List UInt8) : Nat → AV
  | 0 => rune 60 0
  | 1 => rune 112 1
  | 2 => rune 32 2
  | 3 => rune 97 3
  | 4 => rune 61 4
  | 5 => rune q 5
  | j + 6 => rune (byteI u j) ((j + 6 : Nat) : Int)
def FU (u : List UInt8) : Nat → AV
  | 0 => rune 60 0
  | 1 => rune 112 1
  | 2 => rune 32 2
  | 3 => rune 97 3
  | 4 => rune 61 4
  | j + 5 => rune (byteI u j) ((j + 5 : Nat) : Int)
def n0Q (q : Int) (u : List UInt8) : Rows := [lexR (.sl false 1 0 (u.length + 6) .no) true (u.length + 6 : Nat) .nils 0 [], some (.gen 29 2 (u.length + 6) (FQ q u)), tok0]
def n0U (u : List UInt8) : Rows := [lexR (.sl false 1 0 (u.length + 5) .no) true (u.length + 5 : Nat) .nils 0 [], some (.gen 29 2 (u.length + 5) (FU u)), tok0]
def tm12 : List AV := [.ptr false 0 0 0, .any, .ptr false 2 0 0, .bool false, .any, .any, .any, .any, .any, .any, .any, .any, .any, .any, .any, .any, .any, .any, .any, .any, .any, .any, .any, .any, .any, .any, .any, .any, .any, .any, .any, .any, .any, .any, .any, .any, .any, .any, .any, .any, .any, .any, .any]
theorem tm12_spr : tm12 = spr [(0, .ptr false 0 0 0), (2, .ptr false 2 0 0), (3, .bool false)] 0 43 := by kernel_rfl
/-- Rows that no contract speaks of. -/
structure Miss (h : Rows) : Prop where
  no : False
def keyOf (h : Rows) : Nat := match h with
  | some (.lst _ _ [.agg (.sl _ _ lo _ _ :: _ :: _ :: .fn f _ _ :: _ :: _ :: _ :: _ :: _ :: _ :: _ :: _ :: _ :: _ :: _ :: _ :: _ :: _ :: .int _ na :: _)]) :: _ => f * 1000 + lo * 10 + na.toNat
  | _ => 0
theorem hcM {b : Bool} {X Y G : Prop} (h : cond b X Y) (h1 : X → G) (h2 : Y → G) : G := by cases b; exact h2 h; exact h1 h
theorem same_ok {R : Nat → RoRow} {f : FuncId} {args : List AV} {h h0 : Rows} {x : AV} {k : AV → Rows → Prop} (hs : SafeCall Try.prog R f args h0 fun v h' => v = x ∧ h' = h0) (hk : SameR h h0 ∧ k x h0) : SafeCall Try.prog R f args h k := by
  obtain ⟨⟨rfl⟩, hk⟩ := hk
  refine hs.mono ?_
  rintro v h' ⟨rfl, rfl⟩
  exact hk
noncomputable def lp12 : Code := loopOf fi12 0
theorem blk12 : blockOf fi12 0 = some (.loop lp12) := by kernel_rfl
end Go.Dc.Kl
