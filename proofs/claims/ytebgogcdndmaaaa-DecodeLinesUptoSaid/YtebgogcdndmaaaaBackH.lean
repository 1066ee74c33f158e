/- The decoder in UTF-8, told exactly: a byte at Feed's rows, its outcome put aside. -/
import Derived.Test.YtebgogcdndmaaaaBackG
set_option linter.unusedVariables false
set_option linter.unusedSimpArgs false
namespace Go.Dc.Ka
open Go.Proofs Go.RowKit
set_option maxRecDepth 100000
def ToldB (a b l v x b' v' lo' hi' e0 e1 : Int) : Prop :=
  (l = 0 ∧ x < 128 ∧ b' = a ∧ v' = v ∧ lo' = lowF x ∧ hi' = highF x ∧ e0 = x ∧ e1 = a) ∨ (l = 1 ∧ b' = b ∧ v' = nxt v x ∧ lo' = 128 ∧ hi' = 191 ∧ e0 = nxt v x ∧ e1 = b)
def QuietB (a b l v x b' l' v' lo' hi' : Int) : Prop :=
  (l = 0 ∧ ¬ x < 128 ∧ b' = a ∧ l' = leftF x ∧ v' = valF x ∧ lo' = lowF x ∧ hi' = highF x) ∨ (0 < l ∧ l ≠ 1 ∧ b' = b ∧ l' = l - 1 ∧ v' = nxt v x ∧ lo' = 128 ∧ hi' = 191)
def goodB (l lo hi x : Int) : Prop := (l = 0 ∧ 0 ≤ x ∧ x ≤ 255 ∧ (x < 128 ∨ leftF x ≠ 0)) ∨ (0 < l ∧ l ≤ 3 ∧ lo ≤ x ∧ x ≤ hi)
def AskB (n n' : Nat) (w1 w2 bs : Option Row) (s : List UInt8) (F : Nat → AV) (l lo hi x : Int) : Prop :=
  n' = n ∧ w1 = winRow ∧ w2 = winRow ∧ bs = some (.byt 5 s) ∧ n ≤ 1000000 ∧ Plain n F ∧ goodB l lo hi x
def spec38G (s : List UInt8) : CallSpec := fun args h k => match args, h with
  | [.ptr false 0 0 0, .int .u8 x], [some (.lst 62 9 [.agg [.bool true, .int .i64 a, .int .i64 b, .int .i64 l, .int .i64 v, .int .u8 lo, .int .u8 hi, .sl false 4 0 n .no, .nils]]), w1, w2, bs, some (.gen 38 2 n' F)] =>
    AskB n n' w1 w2 bs s F l lo hi x ∧
    (∀ b' v' lo' hi' e0 e1, ToldB a b l v x b' v' lo' hi' e0 e1 → k (.tup []) (rowsT a b' v' lo' hi' s n F (rune e0 e1))) ∧
    (∀ b' l' v' lo' hi', QuietB a b l v x b' l' v' lo' hi' → k (.tup []) (rowsF a b' l' v' lo' hi' s n F))
  | _, _ => False
theorem spec38G_ok (R : Nat → RoRow) (s : List UInt8) : ∀ args h k, spec38G s args h k → SafeCall Try.prog R 38 args h k := by
  intro args h k hk
  unfold spec38G at hk
  split at hk
  · rename_i x a b l v lo hi n w1 w2 bs n' F
    obtain ⟨⟨rfl, rfl, rfl, rfl, hn, hF, hg⟩, h1, h2⟩ := hk
    refine spec38F_ok R s _ _ _ ?_
    refine ⟨rfl, rfl, rfl, rfl, hn, hF, ?_⟩
    rcases hg with ⟨rfl, x0, x1, hg⟩ | ⟨l0, l1, x0, x1⟩
    · exact .inl ⟨rfl, x0, x1, hg, fun hx => h1 _ _ _ _ _ _ (.inl ⟨rfl, hx, rfl, rfl, rfl, rfl, rfl, rfl⟩), fun hx => h2 _ _ _ _ _ (.inl ⟨rfl, hx, rfl, rfl, rfl, rfl, rfl⟩)⟩
    · exact .inr ⟨l0, l1, x0, x1, fun hx => h1 _ _ _ _ _ _ (.inr ⟨hx, rfl, rfl, rfl, rfl, rfl, rfl⟩), fun hx => h2 _ _ _ _ _ (.inr ⟨l0, hx, rfl, rfl, rfl, rfl, rfl⟩)⟩
  · exact hk.elim
noncomputable abbrev envG (R : Nat → RoRow) (s : List UInt8) : Env Prop := (base R).addCall 38 (spec38G s)
theorem envG_ok (R : Nat → RoRow) (s : List UInt8) : EnvOK Try.prog (envG R s) id := (base_ok R).addCall (f := 38) (fi := fi38) (by kernel_rfl) (spec38G_ok R s)
noncomputable def lp24 : Code := loopOf fi24 0
theorem blk24 : blockOf fi24 0 = some (.loop lp24) := by kernel_rfl
end Go.Dc.Ka
