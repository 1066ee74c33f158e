import Derived.Test.YtebgogcdndmaaaaDcV
import Derived.Test.YtebgogcdndmaaaaEnv
namespace Go.Dc.Ytebgogcdndmaaaa
open Go.Proofs
set_option maxRecDepth 100000
noncomputable def spL : List (List UInt8) := [[97, 100, 100, 114, 101, 115, 115], [97, 112, 112, 108, 101, 116], [97, 114, 101, 97], [97, 114, 116, 105, 99, 108, 101], [97, 115, 105, 100, 101], [98, 97, 115, 101], [98, 97, 115, 101, 102, 111, 110, 116], [98, 103, 115, 111, 117, 110, 100], [98, 108, 111, 99, 107, 113, 117, 111, 116, 101], [98, 111, 100, 121], [98, 114], [98, 117, 116, 116, 111, 110], [99, 97, 112, 116, 105, 111, 110], [99, 101, 110, 116, 101, 114], [99, 111, 108], [99, 111, 108, 103, 114, 111, 117, 112], [100, 100], [100, 101, 116, 97, 105, 108, 115], [100, 105, 114], [100, 105, 118], [100, 108], [100, 116], [101, 109, 98, 101, 100], [102, 105, 101, 108, 100, 115, 101, 116], [102, 105, 103, 99, 97, 112, 116, 105, 111, 110], [102, 105, 103, 117, 114, 101], [102, 111, 111, 116, 101, 114], [102, 111, 114, 109], [102, 114, 97, 109, 101], [102, 114, 97, 109, 101, 115, 101, 116], [104, 49], [104, 50], [104, 51], [104, 52], [104, 53], [104, 54], [104, 101, 97, 100], [104, 101, 97, 100, 101, 114], [104, 103, 114, 111, 117, 112], [104, 114], [104, 116, 109, 108], [105, 102, 114, 97, 109, 101], [105, 109, 103], [105, 110, 112, 117, 116], [107, 101, 121, 103, 101, 110], [108, 105], [108, 105, 110, 107], [108, 105, 115, 116, 105, 110, 103], [109, 97, 105, 110], [109, 97, 114, 113, 117, 101, 101], [109, 101, 110, 117], [109, 101, 116, 97], [110, 97, 118], [110, 111, 101, 109, 98, 101, 100], [110, 111, 102, 114, 97, 109, 101, 115], [110, 111, 115, 99, 114, 105, 112, 116], [111, 98, 106, 101, 99, 116], [111, 108], [112], [112, 97, 114, 97, 109], [112, 108, 97, 105, 110, 116, 101, 120, 116], [112, 114, 101], [115, 99, 114, 105, 112, 116], [115, 101, 97, 114, 99, 104], [115, 101, 99, 116, 105, 111, 110], [115, 101, 108, 101, 99, 116], [115, 111, 117, 114, 99, 101], [115, 116, 121, 108, 101], [115, 117, 109, 109, 97, 114, 121], [116, 97, 98, 108, 101], [116, 98, 111, 100, 121], [116, 100], [116, 101, 109, 112, 108, 97, 116, 101], [116, 101, 120, 116, 97, 114, 101, 97], [116, 102, 111, 111, 116], [116, 104], [116, 104, 101, 97, 100], [116, 105, 116, 108, 101], [116, 114], [116, 114, 97, 99, 107], [117, 108], [119, 98, 114], [120, 109, 112]]
noncomputable def sp (s : List UInt8) : Bool := spL.any fun l => s == l
def spec16 : CallSpec := fun args h k => ∃ s, args = [.str s] ∧ k (.bool (sp s)) h
def spec17 : CallSpec := fun args h k => ∃ s, args = [.str s] ∧ h = [] ∧ k (.bool (sp s)) []
theorem vc16 (R : Nat → RoRow) (s : List UInt8) (Q : AV → Rows → Prop) (h : Rows) : vc (base R) 1000 16 fi16 [.str s] h Q = chain s (Q (.bool true) h) (Q (.bool false) h) spL := by kernel_rfl
theorem vc17 (R : Nat → RoRow) (s : List UInt8) (Q : AV → Prop) : vc (base R) 1000 17 fi17 [.str s] [] (fun v _ => Q v) = chainR s (Q (.bool true)) (Q (.bool false)) spL := by kernel_rfl
theorem spec16_ok (R : Nat → RoRow) : ∀ args h k, spec16 args h k → SafeCall Try.prog R 16 args h k := by
  rintro args h k ⟨s, rfl, hk⟩
  refine SafeCall.vc (base_ok R) (f := 16) (fi := fi16) rfl 1000 ?_
  rw [vc16]
  exact chain_of (Q := fun b => k (.bool b) h) hk
theorem spec17_ok (R : Nat → RoRow) : ∀ args h k, spec17 args h k → SafeCall Try.prog R 17 args h k := by
  rintro args h k ⟨s, rfl, rfl, hk⟩
  have h1 : SafeCall Try.prog R 17 [.str s] [] fun v _ => v = .bool (sp s) := by
    refine SafeCall.vc (base_ok R) (f := 17) (fi := fi17) rfl 1000 ?_
    rw [vc17 R s (fun v => v = .bool (sp s))]
    exact chainR_of (Q := fun b => AV.bool b = .bool (sp s)) rfl
  refine (h1.none fun v hv => by rw [hv]; simp [Vw]).mono ?_
  rintro v h' ⟨rfl, rfl⟩
  exact hk
noncomputable abbrev env4 (R : Nat → RoRow) : Env Prop := ((base R).addCall 16 spec16).addCall 17 spec17
theorem env4_ok (R : Nat → RoRow) : EnvOK Try.prog (env4 R) id :=
  ((base_ok R).addCall (f := 16) (fi := fi16) rfl (spec16_ok R)).addCall (f := 17) (fi := fi17) rfl (spec17_ok R)
theorem vc4 (R : Nat → RoRow) (s : List UInt8) : vc (env4 R) 1000 4 fi4 [.str s] [] fun v _ => v = .bool true := by
  have hd : sp [100, 105, 118] = true := by decide +kernel
  have hb : sp [98] = false := by decide +kernel
  refine ⟨[100, 105, 118], rfl, ?_⟩
  rw [hd]
  refine ⟨[98], rfl, ?_⟩
  rw [hb]
  refine ⟨s, rfl, ?_⟩
  refine ⟨s, rfl, rfl, ?_⟩
  cases sp s <;> exact rfl
theorem safe4 (R : Nat → RoRow) (s : List UInt8) : SafeCall Try.prog R 4 [.str s] [] fun v _ => v = .bool true :=
  SafeCall.vc (env4_ok R) (f := 4) (fi := fi4) rfl 1000 (vc4 R s)
theorem stackSpecial_walk (a : ByteArray) (w : World) : Calls Try.prog 4 #[.string a] w fun e w' => e = .returned (.bool true) ∧ Go.RowKit.Below w.heap.size w w' :=
  (safe4 roNone a.data.toList).law mapNone _ w (by simp [DenL, Den]) (roNone_ok w)
end Go.Dc.Ytebgogcdndmaaaa
