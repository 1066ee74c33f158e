/- The decoder in UTF-8, told exactly: a byte, of a text that is well written. -/
import Derived.Test.YtebgogcdndmaaaaBackC
set_option linter.unusedVariables false
set_option linter.unusedSimpArgs false
namespace Go.Dc.Ka
open Go.Proofs Go.RowKit
set_option maxRecDepth 100000
def spec47G : CallSpec := fun args h k => match args, h with
  | [.ptr false 0 0 0, .int .u8 x], [some (.lst 62 9 [.agg [.bool true, .int .i64 a, .int .i64 b, .int .i64 l0, .int .i64 v, .int .u8 lo, .int .u8 hi, .sl false 1 0 n .no, .nils]]), some (.gen 38 2 n' F)] =>
    l0 = 0 ∧ n' = n ∧ 0 ≤ x ∧ x ≤ 255 ∧ n ≤ 1000000 ∧ Plain n F ∧ (x < 128 ∨ leftF x ≠ 0) ∧ (x < 128 → k (.tup []) (rowsS1 x a v n F)) ∧ (¬ x < 128 → k (.tup []) (rowsS2 x a n F))
  | _, _ => False
theorem spec47G_ok (R : Nat → RoRow) : ∀ args h k, spec47G args h k → SafeCall Try.prog R 47 args h k := by
  intro args h k hk
  unfold spec47G at hk
  split at hk
  · rename_i x a b l0 v lo hi n n' F
    obtain ⟨rfl, rfl, x0, x1, hn, hF, hg, h1, h2⟩ := hk
    refine (safeS47 R x a b v lo hi n' F x0 x1 hn hF hg (fun h => k (.tup []) h) h1 h2).mono ?_
    rintro r h' ⟨rfl, hq⟩
    exact hq
  · exact hk.elim
noncomputable abbrev envS (R : Nat → RoRow) : Env Prop := (base R).addCall 47 spec47G
theorem envS_ok (R : Nat → RoRow) : EnvOK Try.prog (envS R) id := (base_ok R).addCall (f := 47) (fi := fi47) (by kernel_rfl) (spec47G_ok R)
theorem vc38S (R : Nat → RoRow) (x a b v lo hi : Int) (n : Nat) (F : Nat → AV) (Q : AV → Rows → Prop) :
    vcd (envS R) 10000 38 fi38 [.ptr false 0 0 0, .int .u8 x] [decG a b 0 v lo hi n, some (.gen 38 2 n F)] Q =
    ((0 : Int) = 0 ∧ n = n ∧ 0 ≤ x ∧ x ≤ 255 ∧ n ≤ 1000000 ∧ Plain n F ∧ (x < 128 ∨ leftF x ≠ 0) ∧ (x < 128 → Q (.tup []) (rowsS1 x a v n F)) ∧ (¬ x < 128 → Q (.tup []) (rowsS2 x a n F))) := by kernel_rfl
theorem safeS38 (R : Nat → RoRow) (x a b v lo hi : Int) (n : Nat) (F : Nat → AV) (hx0 : 0 ≤ x) (hx1 : x ≤ 255) (hn : n ≤ 1000000) (hF : Plain n F) (hgood : x < 128 ∨ leftF x ≠ 0) (Q : Rows → Prop)
    (hQ1 : x < 128 → Q (rowsS1 x a v n F)) (hQ2 : ¬ x < 128 → Q (rowsS2 x a n F)) :
    SafeCall Try.prog R 38 [.ptr false 0 0 0, .int .u8 x] [decG a b 0 v lo hi n, some (.gen 38 2 n F)] fun r h => r = .tup [] ∧ Q h :=
  byVcd (envS_ok R) (f := 38) (fi := fi38) (by kernel_rfl) 10000 (vc38S R x a b v lo hi n F _) ⟨rfl, rfl, hx0, hx1, hn, hF, hgood, fun h => ⟨rfl, hQ1 h⟩, fun h => ⟨rfl, hQ2 h⟩⟩
end Go.Dc.Ka
