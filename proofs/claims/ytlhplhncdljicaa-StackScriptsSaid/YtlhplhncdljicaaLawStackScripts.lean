/- Any steps on a stack: the last, the place, the name and the scope are told rightly. No condition. -/
import Derived.Test.YtlhplhncdljicaaRows
import Derived.Test.YtlhplhncdljicaaSy
import Derived.WalkKit
import Derived.ProofKit
import Derived.OpenShut
import Derived.ShutString
import Derived.ChangeOld
import Derived.Below
import Derived.SizedLaws
import Derived.ChangeSlices
import Derived.Carry
import Derived.ChangeArms
namespace Go.Proofs.Ytlhplhncdljicaa.stackScripts
open Go.ChangeShapes Go.WideShapes Go.ChangeAt Go.RowKit
open Go.ChangeMaps (open_string shut_string)
set_option linter.unusedVariables false
theorem laidOut : laidOutB Try.prog = true := by kernel_rfl
theorem cells3 : Try.prog.cellsOf 3 = 1 := by kernel_rfl
theorem cells9 : Try.prog.cellsOf 9 = 1 := by kernel_rfl
theorem own : ownKnob Try.prog.godebug = none := by kernel_rfl
set_option maxRecDepth 100000 in
theorem fields56 : Go.Dc.FieldsOK Try.prog #[{ name := "What", type := 3, offset := 0, embedded := false, tag := "", pkgPath := "", byteOffset := 0 }, { name := "A", type := 3, offset := 1, embedded := false, tag := "", pkgPath := "", byteOffset := 8 }, { name := "Node", type := 3, offset := 2, embedded := false, tag := "", pkgPath := "", byteOffset := 16 }, { name := "Name", type := 9, offset := 3, embedded := false, tag := "", pkgPath := "", byteOffset := 24 }] [.int .i64, .int .i64, .int .i64, .str] := by
  intro o k hk
  match o with
  | 0 => cases hk; exact ⟨_, rfl, rfl, cells3, Try.underlying3⟩
  | 1 => cases hk; exact ⟨_, rfl, rfl, cells3, Try.underlying3⟩
  | 2 => cases hk; exact ⟨_, rfl, rfl, cells3, Try.underlying3⟩
  | 3 => cases hk; exact ⟨_, rfl, rfl, cells9, Try.underlying9⟩
  | o + 4 => simp at hk
/-- The bytes of a cell. -/
def bytesOf : Option Value → List UInt8
  | some (.string s) => s.data.toList
  | _ => []
/-- The number of a cell. -/
def intOf : Option Value → Int
  | some (.int _ z) => z
  | _ => 0
theorem acts_open {H : Type} {enc : TypeId × Value → H} {W : World} {a0 : Option Addr} {len0 cap0 : Nat} {d : DataW H} {p : List MemPlace} (h : DataW.Trod enc Try.prog W 0 (fun _ => true) true 53 (.slice a0 len0 cap0) d p) : Go.Dc.Kb.ActsAt W (.slice a0 len0 cap0) := by
  obtain ⟨fuel, hf⟩ := h
  rcases Go.Dc.open_flat (ks := [.int .i64, .int .i64, .int .i64, .str]) Try.underlying53 Try.underlying56 fields56 (by kernel_rfl) hf with hc | ⟨a, len, cap, hc, hl, hm, hcell⟩
  · simp [Value.cells] at hc
    obtain ⟨rfl, rfl, rfl⟩ := hc
    obtain ⟨ty, l, h1, h2⟩ := Go.Dc.rowsNil W 4 (fun j => Go.Dc.Kb.actV ((fun _ => 0) j) ((fun _ => 0) j) ((fun _ => 0) j) ((fun _ => []) j))
    exact ⟨ty, 0, _, _, _, _, l, h1, h2⟩
  · simp [Value.cells] at hc
    obtain ⟨rfl, rfl, rfl⟩ := hc
    have I : ∀ o, o < 3 → ∀ i, i < cap0 → ∃ v, W.cell? (a.add (i * 4 + o)) = some v ∧ ∀ m n, Go.Dc.Den m n (.int .i64 (intOf (W.cell? (a.add (i * 4 + o))))) v := by
      intro o ho i hi
      have hk : ([.int .i64, .int .i64, .int .i64, .str] : List Go.Dc.CK)[o]? = some (.int .i64) := by
        match o, ho with
        | 0, _ | 1, _ | 2, _ => rfl
      obtain ⟨v, hv, z, rfl, hz⟩ := hcell i hi o _ hk
      refine ⟨_, hv, fun m n => ?_⟩
      have hv : W.cell? (a.add (i * 4 + o)) = some (.int .i64 z) := hv
      rw [hv]
      rfl
    have S : ∀ i, i < cap0 → ∃ v, W.cell? (a.add (i * 4 + 3)) = some v ∧ ∀ m n, Go.Dc.Den m n (.str (bytesOf (W.cell? (a.add (i * 4 + 3))))) v := by
      intro i hi
      obtain ⟨v, hv, s, rfl, _⟩ := hcell i hi 3 _ rfl
      refine ⟨_, hv, fun m n => ?_⟩
      have hv : W.cell? (a.add (i * 4 + 3)) = some (.string s) := hv
      rw [hv]
      rfl
    obtain ⟨ty, l, h1, h2⟩ := Go.Dc.rowsArg W a len0 cap0 4 (by decide) (fun i => Go.Dc.Kb.actV (intOf (W.cell? (a.add (i * 4 + 0)))) (intOf (W.cell? (a.add (i * 4 + 1)))) (intOf (W.cell? (a.add (i * 4 + 2)))) (bytesOf (W.cell? (a.add (i * 4 + 3))))) hl hm (fun i _ => rfl) (by
      intro i hi o ho
      match o, ho with
      | 0, _ =>
        obtain ⟨v, hv, hd⟩ := I 0 (by decide) i hi
        exact ⟨v, hv, fun b _ hb => by cases hb; exact ⟨rfl, hd⟩⟩
      | 1, _ =>
        obtain ⟨v, hv, hd⟩ := I 1 (by decide) i hi
        exact ⟨v, hv, fun b _ hb => by cases hb; exact ⟨rfl, hd⟩⟩
      | 2, _ =>
        obtain ⟨v, hv, hd⟩ := I 2 (by decide) i hi
        exact ⟨v, hv, fun b _ hb => by cases hb; exact ⟨rfl, hd⟩⟩
      | 3, _ =>
        obtain ⟨v, hv, hd⟩ := S i hi
        exact ⟨v, hv, fun b _ hb => by cases hb; exact ⟨rfl, hd⟩⟩)
    exact ⟨ty, len0, _, _, _, _, l, h1, h2⟩
set_option maxRecDepth 100000 in
theorem lifted (os : Os) (started : os.Started) (H : Type) (enc : TypeId × Value → H) :
    ReturnsInHanded {} Try.checked os 6 .any (Rows.stackScriptsSpec.pre6 enc Try.prog Try.f6 Rows.stackScriptsRow.domain false) (Rows.stackScriptsSpec.post enc Try.prog Try.f6 false true false false) := by
  refine returnsInHanded_of_change_sized (C := Try.checked) own started (by kernel_rfl) Try.func6
    (ChangeSpec.witness6 (enc := enc) (C := Try.checked) false ⟨#[], #[.slice none 0 0], []⟩ 8 (by kernel_rfl) (by kernel_rfl) (by kernel_rfl) (by kernel_rfl)) ?_
  intro W base args ds gs before hval0 hW hcnd hsz0 _
  have hval : ∀ (j : Nat) t v, Try.f6.params[j]? = some t → args[j]? = some v → Value.okWide Try.prog W .any base t v := hval0
  have hsz : (DataW.weightsEach Try.prog (Try.f6.params.toList ++ Rows.stackScriptsSpec.plain.varTypes Try.prog) (ds ++ gs)).all (· ≤ reachBytes) = true := hsz0
  have hW' := hW
  obtain ⟨p, q, hA0, hV, rfl, hfz, hnd⟩ := hW
  have hA : DataW.TrodAll enc Try.prog W 0 (fun _ => true) true Try.f6.params.toList args.toList ds p := hA0
  rw [Try.params6] at hA hval hsz
  obtain ⟨v0, vs0, d0, ds0, p0, q0, hargs0, rfl, rfl, h0, r0⟩ := trodAll_cons hA
  obtain ⟨rfl, rfl, rfl⟩ := trodAll_nil r0
  obtain rfl : args = #[v0] := by cases args; simp_all
  obtain ⟨rfl, rfl⟩ := trodVars_none hV
  obtain ⟨a0, len0, cap0, rfl⟩ := okWide_slice Try.underlying53 (hval 0 53 v0 rfl rfl)
  have h0k := h0
  have i0 := acts_open h0
  clear hA0 hval0 hsz0 hsz
  have hlt0 : ∀ x ∈ p0, x.block < W.heap.size := fun x hx => hW'.lt x (by simp [hx])
  have hargs0 : ∀ (W' : World), Below W.heap.size W W' → DataW.Trod enc Try.prog W' 0 (fun b => decide (b < W.heap.size)) true 53 (.slice a0 len0 cap0) d0 p0 :=
    fun W' hn => Below.trod laidOut (by kernel_rfl) (of_decide_eq_true (by kernel_rfl)) h0k hn hlt0
  refine (Go.Dc.Kb.scripts_walk W _ i0).mono fun e W' ⟨he, bel⟩ => ?_
  subst he
  exact ⟨_, rfl, _, _, _, [], _, [], hW', trodAll_mk1 (shut_bool Try.underlying4 _), (trodAll_cons_mk (hargs0 _ bel) trodAll_mk0), rfl, bel.frame _, fun h => by cases h⟩
theorem over : Rows.stackScriptsRow.holds Try.pinned (OpenSpec.ofChange Rows.stackScriptsSpec) :=
  OpenClaim.holds_of_wide 6 Try.f6 rfl rfl rfl rfl rfl rfl rfl ⟨rfl, rfl, rfl, rfl, rfl⟩ rfl rfl rfl rfl rfl (by kernel_rfl) Try.func6 (by kernel_rfl)
    (of_decide_eq_true (by kernel_rfl)) (by unfold Func.isWrapper; first | (rw [if_pos (by decide +kernel)]; kernel_rfl) | (rw [if_neg (by decide +kernel)]; exact ⟨rfl, rfl⟩))
    (fun os started H enc _ => lifted os started H enc)
theorem proved : Rows.StackScriptsSaid := over
#print axioms proved
end Go.Proofs.Ytlhplhncdljicaa.stackScripts
namespace Go.Proofs.Ytlhplhncdljicaa
/-- The row, under a short name, for the claim. -/
theorem stackScripts_holds : Rows.StackScriptsSaid := stackScripts.proved
end Go.Proofs.Ytlhplhncdljicaa
