import Derived.Test.YtebgogcdndmaaaaProg
import Derived.Test.YtebgogcdndmaaaaDcU
import Derived.KernelRfl
namespace Go.Dc.Ytebgogcdndmaaaa
open Go.Proofs
set_option maxRecDepth 100000
noncomputable def tl : List (Nat × TI) := [
  (3, { kd := Go.Dc.Kd.int Go.IntKind.i64, size := 1, bytes := 8, zv := Go.Dc.AV.int Go.IntKind.i64 0, eqs := Bool.false }),
  (4, { kd := Go.Dc.Kd.bool, size := 1, bytes := 1, zv := Go.Dc.AV.bool Bool.false, eqs := Bool.false }),
  (5, { kd := Go.Dc.Kd.int Go.IntKind.u8, size := 1, bytes := 1, zv := Go.Dc.AV.int Go.IntKind.u8 0, eqs := Bool.false }),
  (9, { kd := Go.Dc.Kd.str, size := 1, bytes := 16, zv := Go.Dc.AV.str [], eqs := Bool.false }),
  (22, { kd := Go.Dc.Kd.slice 9, size := 1, bytes := 24, zv := Go.Dc.AV.nils, eqs := Bool.false })]
theorem tl_ok : TabOK Try.prog (lookT tl) := lookT_ok (by kernel_rfl)
noncomputable def fi4 : FI := match fiOf Try.f4 with | some x => x | none => ⟨.skip, 0, []⟩
theorem fi4_ok : FnOK Try.prog 4 fi4 := fiOf_ok Try.func4 (by kernel_rfl)
noncomputable def fi16 : FI := match fiOf Try.f16 with | some x => x | none => ⟨.skip, 0, []⟩
theorem fi16_ok : FnOK Try.prog 16 fi16 := fiOf_ok Try.func16 (by kernel_rfl)
noncomputable def fi17 : FI := match fiOf Try.f17 with | some x => x | none => ⟨.skip, 0, []⟩
theorem fi17_ok : FnOK Try.prog 17 fi17 := fiOf_ok Try.func17 (by kernel_rfl)
noncomputable def fi34 : FI := match fiOf Try.f34 with | some x => x | none => ⟨.skip, 0, []⟩
theorem fi34_ok : FnOK Try.prog 34 fi34 := fiOf_ok Try.func34 (by kernel_rfl)
noncomputable def fl : List (Nat × FI) := [(4, fi4), (16, fi16), (17, fi17), (34, fi34)]
theorem fl_ok : ∀ f fi, lookF fl f = some fi → FnOK Try.prog f fi := lookF_ok (by
  intro p hp
  simp only [fl, List.mem_cons, List.not_mem_nil, or_false] at hp
  rcases hp with rfl | rfl | rfl | rfl
  · exact fi4_ok
  · exact fi16_ok
  · exact fi17_ok
  · exact fi34_ok)
noncomputable abbrev base (R : Nat → RoRow) : Env Prop := Env.base (lookT tl) (lookF fl) R
theorem base_ok (R : Nat → RoRow) : EnvOK Try.prog (base R) id := EnvOK.base tl_ok fl_ok
end Go.Dc.Ytebgogcdndmaaaa
