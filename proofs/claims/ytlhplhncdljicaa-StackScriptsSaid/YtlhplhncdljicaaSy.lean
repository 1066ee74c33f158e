/- Stacks through any steps: the walk. -/
import Derived.Test.YtlhplhncdljicaaSx
import Derived.Test.YtlhplhncdljicaaDcZj
set_option linter.unusedVariables false
set_option linter.unusedSimpArgs false
namespace Go.Dc.Kb
open Go.Proofs Go.RowKit
set_option maxRecDepth 100000
theorem vc6 (ty len : Nat) (W A D : Nat → Int) (M : Nat → List UInt8) (q : AV → Rows → Fz → Prop) (F : Fz) : vcx (envF ty len W A D M) 1000 6 fi6 [.sl true 0 0 len .no] [] q F = ((AV.sl true 0 0 len Cp.no = AV.sl true 0 0 len Cp.no ∧ AV.bool false = AV.bool false ∧ AV.ptr false 0 0 0 = AV.ptr false 0 0 0 ∧ AV.nils = AV.nils ∧ AV.int IntKind.i64 0 = AV.int IntKind.i64 0 ∧ 263 = 263 ∧ RowsAre [some (Row.lst 26 1 [AV.agg [AV.nils]])] [some (Row.lst 26 1 [AV.agg [AV.nils]])]) ∧ q (AV.bool true) [none] F) := by kernel_rfl

theorem safe6 (ty len : Nat) (W A D : Nat → Int) (M : Nat → List UInt8) (F : Fz) : SafeCallX Try.prog (roA ty len W A D M) 6 [.sl true 0 0 len .no] [] F (fun v _ _ => v = .bool true) noP :=
  SafeCallX.by mixed (envF_ok ty len W A D M) (f := 6) (fi := fi6) (by kernel_rfl) 1000 (vc6 ty len W A D M (fun v _ _ => v = .bool true) F) ⟨⟨rfl, rfl, rfl, rfl, rfl, rfl, ⟨rfl⟩⟩, rfl⟩
/-- A law's call: one row of the caller's memory. -/
theorem SafeCallX.law1 {P : Program} {f : FuncId} {args : List AV} {ty z n : Nat} {G : Nat → AV} {l : Loc} (hs : SafeCallX P (rx1 ty z n G) f args [] Fz.empty (fun v _ _ => v = .bool true) (fun _ _ _ => False)) (vs : Array Value) (w : World)
    (hro : ∀ m, RoOK m l ⟨ty, z, n, G⟩ w) (has : ∀ m : Map, m.ro 0 = l → DenL m 0 args vs.toList) : Calls P f vs w fun e w' => e = .returned (.bool true) ∧ Below w.heap.size w w' := by
  have hm : ∃ m : Map, m.ro 0 = l ∧ (∀ i, m.ro (i + 1) = mapX.ro (i + 1)) ∧ m.mu = mapX.mu := ⟨⟨mapX.mu, fun i => match i with | 0 => l | i + 1 => mapX.ro (i + 1)⟩, rfl, fun _ => rfl, rfl⟩
  obtain ⟨m, h0, h1, h2⟩ := hm
  have hn : Named m := fun i => by rw [h1 (i + 14)]; exact mapX_named i
  have hR : ∀ i, RoOK m (m.ro i) (rx1 ty z n G i) w := by
    intro i
    match i with
    | 0 => rw [h0]; exact hro m
    | i + 1 =>
      rw [h1 i]
      have h := RX_ok w (i + 1)
      refine ⟨h.1, h.2.1, ?_⟩
      show if (mapX.ro (i + 1)).vir = true then 0 = 0 else 0 < 0 → _
      split
      · rfl
      · intro h; exact absurd h (Nat.lt_irrefl _)
  have hW : WR (rx1 ty z n G) m [] w := ⟨fun b r hb => by simp [Rows.live] at hb, fun b b' r r' hb => by simp [Rows.live] at hb, hR, fun i b r hb => by simp [Rows.live] at hb⟩
  have hf : FzOK Fz.empty m [] w := { blk := fun b ty c h => (by simp [Fz.empty] at h), apart := fun b r hb => (by simp [Rows.live] at hb), ro := hn }
  refine (hs m w m [] w Fz.empty vs (has m h0) hW hf (Step.refl _ _ _) (.refl _ _ _ _)).mono ?_
  rintro e w' ⟨m', h', F', hW', hf', hl', hS, ⟨c, v, rfl, rfl, hd⟩ | ⟨c, v, rfl, h, _⟩⟩
  · simp only [Den] at hd
    subst hd
    exact ⟨rfl, hS.os, hS.tape, hS.output, hS.size, fun k hk => hS.block k hk (fun b r hb => by simp [Rows.live] at hb)⟩
  · exact h.elim
/-- A list of steps that lies in memory. -/
def ActsAt (w : World) (v : Value) : Prop := ∃ (ty n : Nat) (W A D : Nat → Int) (M : Nat → List UInt8) (l : Loc), (∀ m, RoOK m l ⟨ty, 4, n, fun j => actV (W j) (A j) (D j) (M j)⟩ w) ∧ SlDen l 0 n .no v
theorem scripts_walk (w : World) (v : Value) (h : ActsAt w v) : Calls Try.prog 6 #[v] w fun e w' => e = .returned (.bool true) ∧ Go.RowKit.Below w.heap.size w w' := by
  obtain ⟨ty, n, W, A, D, M, l, hro, hd⟩ := h
  refine SafeCallX.law1 (safe6 ty n W A D M Fz.empty) #[v] w hro fun m hm => ?_
  simp only [DenL, Den, Map.loc, if_true]
  exact ⟨v, [], rfl, ⟨by simp, by rw [hm]; exact hd⟩, rfl⟩

end Go.Dc.Kb
