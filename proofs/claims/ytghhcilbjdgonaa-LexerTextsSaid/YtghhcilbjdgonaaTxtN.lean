/- Bytes without signs are text: what is computed. -/
import Derived.Test.YtghhcilbjdgonaaTxtM
set_option linter.unusedVariables false
set_option linter.unusedSimpArgs false
namespace Go.Dc.Kl
open Go.Proofs Go.RowKit
set_option maxRecDepth 100000
theorem vc6 (R : Nat → RoRow) (s : List UInt8) (Q : AV → Prop) : vcd (env6 R s) 1000 6 fi6 [.str s] [] (fun v _ => Q v) = (bif decide ((↑s.length : Int) > 5000) then Q (AV.bool true) else (AV.str s = AV.str s ∧ AV.int IntKind.i64 0 = AV.int IntKind.i64 0 ∧ 104 = 104 ∧ NoRows [] ∧ s.length.le 5000) ∧ Q (AV.bool true) ∧ (Plain s → LexAt s s [] ∧ bif (↑(s.length + 1) : Int) != IntKind.i64.wrap ((↑s.length : Int) + 1) then Q (AV.bool false) else bif true && decide ((↑s.length : Int) < (↑(s.length + 1) : Int)) then bif decide (0 + (↑s.length : Int).toNat < s.length + 1) then bif (bif (0 + (↑s.length : Int).toNat).blt s.length then (1 : Int) else 0) != 0 then Q (AV.bool false) else (AV.str s = AV.str s ∧ AV.sl false 11 0 (s.length + 1) Cp.no = AV.sl false 11 0 (s.length + 1) Cp.no ∧ AV.int IntKind.i64 0 = AV.int IntKind.i64 0 ∧ 104 = 104 ∧ RowsE s [some (Row.lst 68 9 [AV.agg [AV.bool true, AV.int IntKind.i64 (↑s.length : Int), AV.int IntKind.i64 (↑(s.length - 1) : Int), AV.int IntKind.i64 0, AV.int IntKind.i64 0, AV.int IntKind.u8 (loU s.length), AV.int IntKind.u8 (hiU s.length), AV.nils, AV.nils]]), some (Row.lst 63 1 [AV.agg [AV.bool false]]), some (Row.lst 61 25 [AV.agg [AV.sl false 6 s.length 0 Cp.no, AV.bool true, AV.int IntKind.i64 1073741824, AV.fn 29 [] [], AV.sl false 10 1 0 Cp.no, AV.nils, AV.int IntKind.i64 0, AV.str [], AV.int IntKind.i64 0, AV.int IntKind.i64 0, AV.int IntKind.i64 0, AV.int IntKind.i64 0, AV.str [], AV.str [], AV.nils, AV.bool false, AV.bool false, AV.nils, AV.int IntKind.i64 0, AV.nils, AV.int IntKind.i64 0, AV.int IntKind.i64 0, AV.nilf, AV.bool false, AV.bool false]]), none, none, none, some (Row.gen 29 2 s.length fun j => rune (byteI s j) (↑j : Int)), none, none, none, some (Row.lst 34 8 [AV.agg [AV.int IntKind.i64 0, AV.int IntKind.i64 0, AV.int IntKind.i64 1073741824, AV.str [], AV.str [], AV.nils, AV.bool false, AV.bool false]]), some (Row.gen 34 8 (s.length + 1) fun j => AV.agg [AV.int IntKind.i64 (bif j.blt s.length then 1 else 0), AV.int IntKind.i64 (bif j.blt s.length then byteI s j else 0), AV.int IntKind.i64 (bif j.blt s.length then (↑j : Int) else 1073741824), AV.str [], AV.str [], AV.nils, AV.bool false, AV.bool false])] ∧ s.length.le 5000) ∧ Q (AV.bool true) else False else False)) := by kernel_rfl
theorem safe6 (R : Nat → RoRow) (s : List UInt8) : SafeCall Try.prog R 6 [.str s] [] fun v _ => v = .bool true := by
  refine byVcd (env6_ok R s) (f := 6) (fi := fi6) (by kernel_rfl) 1000 (vc6 R s fun v => v = .bool true) ?_
  refine hcB (fun _ => rfl) (fun h => ?_)
  have hl : s.length ≤ 5000 := by have := of_decide_eq_false h; omega
  refine ⟨⟨rfl, rfl, rfl, ⟨rfl⟩, hl⟩, rfl, fun hp => ⟨⟨rfl, rfl, hp⟩, ?_⟩⟩
  refine hcF (by rw [wrapSucc _ (by omega)]; simp) ?_
  refine hcT (by simp; omega) (hcT (by simp) (hcF ?_ ⟨⟨rfl, rfl, rfl, rfl, ⟨rfl⟩, hl⟩, rfl⟩))
  rw [show (0 + (s.length : Int).toNat).blt s.length = false by rw [Bool.eq_false_iff]; simp [Nat.blt_eq]]
  rfl
theorem texts_walk (s : ByteArray) (w : World) : Calls Try.prog 6 #[.string s] w fun e w' => e = .returned (.bool true) ∧ Go.RowKit.Below w.heap.size w w' := by
  have h := (safe6 roNone s.data.toList).law mapNone #[.string s] w (by simp [DenL, Den]) (roNone_ok w)
  exact h
end Go.Dc.Kl
