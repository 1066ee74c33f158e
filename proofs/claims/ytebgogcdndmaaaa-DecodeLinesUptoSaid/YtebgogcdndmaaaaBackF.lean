/- The decoder in UTF-8, told exactly: a byte, at Feed's rows, as a contract. -/
import Derived.Test.YtebgogcdndmaaaaBackE
set_option linter.unusedVariables false
set_option linter.unusedSimpArgs false
namespace Go.Dc.Ka
open Go.Proofs Go.RowKit
set_option maxRecDepth 100000
theorem fitF2 {a0 b0 l0 v0 lo0 hi0 a b l v lo hi : Int} {s : List UInt8} {n : Nat} {F : Nat → AV} (hF : Plain n F) {Q : Rows → Prop} (hq : Q (rowsF a b l v lo hi s n F)) :
    ∃ vE hE, FitV 5 vE hE (.tup []) (merged two04 2 2 (rowsF a0 b0 l0 v0 lo0 hi0 s n F) [decG a b l v lo hi n, some (.gen 38 2 n F)]) ∧ (vE = .tup [] ∧ Q hE) := by
  rw [mergedF2 a0 b0 l0 v0 lo0 hi0 s n F _ rfl]
  exact fitN some (viewF2 a b l v lo hi s n F hF) (fun _ _ => rfl) (by simp [rowsF]) hq
theorem fitF3 {a0 b0 l0 v0 lo0 hi0 a b v lo hi : Int} {s : List UInt8} {n : Nat} {F : Nat → AV} {e : AV} (hF : Plain n F) (h1 : ones e = true) (h2 : gnd e = true) {Q : Rows → Prop} (hq : Q (rowsT a b v lo hi s n F e)) :
    ∃ vE hE, FitV 5 vE hE (.tup []) (merged two04 2 2 (rowsF a0 b0 l0 v0 lo0 hi0 s n F) [decU a b 0 v lo hi (.sl false 2 0 (n + 1) .no) .nils, none, some (.gen 38 2 (n + 1) (snoc n F e))]) ∧ (vE = .tup [] ∧ Q hE) := by
  rw [mergedF3 a0 b0 l0 v0 lo0 hi0 s n F _ rfl]
  refine fitN (mv2 5 7 5 7) (viewF3 a b v lo hi s n F e hF h1 h2) ?_ (by simp [rowsT]) hq
  intro c hc
  match c with
  | 0 => rfl
  | 1 => rfl
  | 2 => rfl
  | 3 => rfl
  | 4 => rfl
  | c + 5 => omega
theorem safeF38S (R : Nat → RoRow) (x a b v lo hi : Int) (s : List UInt8) (n : Nat) (F : Nat → AV) (hx0 : 0 ≤ x) (hx1 : x ≤ 255) (hn : n ≤ 1000000) (hF : Plain n F) (hgood : x < 128 ∨ leftF x ≠ 0) (Q : Rows → Prop)
    (hQ1 : x < 128 → Q (rowsT a a v (lowF x) (highF x) s n F (rune x a))) (hQ2 : ¬ x < 128 → Q (rowsF a a (leftF x) (valF x) (lowF x) (highF x) s n F)) :
    SafeCall Try.prog R 38 [.ptr false 0 0 0, .int .u8 x] (rowsF a b 0 v lo hi s n F) fun r h => r = .tup [] ∧ Q h := by
  have hs := safeS38 R x a b v lo hi n F hx0 hx1 hn hF hgood (fun h' => (x < 128 ∧ h' = rowsS1 x a v n F) ∨ (¬ x < 128 ∧ h' = rowsS2 x a n F)) (fun h => .inl ⟨h, rfl⟩) (fun h => .inr ⟨h, rfl⟩)
  refine (SafeCall.focus (f := two04) (view04 a b 0 v lo hi s n F hF) (argsL := [.ptr false 0 0 0, .int .u8 x]) ?_ hs).fit ?_
  · exact VwL.cons (Vw.ptrI (by simp) rfl) (VwL.cons Vw.intI VwL.nil)
  · rintro v'' h'' ⟨v', h', ⟨rfl, ⟨hx, rfl⟩ | ⟨hx, rfl⟩⟩, rfl, rfl⟩
    · exact fitF3 hF rfl rfl (hQ1 hx)
    · exact fitF2 hF (hQ2 hx)
theorem safeF38C (R : Nat → RoRow) (x a b l v lo hi : Int) (s : List UInt8) (n : Nat) (F : Nat → AV) (h0 : 0 < l) (h1 : l ≤ 3) (x0 : lo ≤ x) (x1 : x ≤ hi) (hn : n ≤ 1000000) (hF : Plain n F) (Q : Rows → Prop)
    (hQ1 : l = 1 → Q (rowsT a b (nxt v x) 128 191 s n F (rune (nxt v x) b))) (hQ2 : l ≠ 1 → Q (rowsF a b (l - 1) (nxt v x) 128 191 s n F)) :
    SafeCall Try.prog R 38 [.ptr false 0 0 0, .int .u8 x] (rowsF a b l v lo hi s n F) fun r h => r = .tup [] ∧ Q h := by
  have hs := safeC38 R x a b l v lo hi n F h0 h1 x0 x1 hn hF (fun h' => (l = 1 ∧ h' = rowsC1 a b (nxt v x) n F) ∨ (l ≠ 1 ∧ h' = rowsC2 a b (l - 1) (nxt v x) n F)) (fun h => .inl ⟨h, rfl⟩) (fun h => .inr ⟨h, rfl⟩)
  refine (SafeCall.focus (f := two04) (view04 a b l v lo hi s n F hF) (argsL := [.ptr false 0 0 0, .int .u8 x]) ?_ hs).fit ?_
  · exact VwL.cons (Vw.ptrI (by simp) rfl) (VwL.cons Vw.intI VwL.nil)
  · rintro v'' h'' ⟨v', h', ⟨rfl, ⟨hx, rfl⟩ | ⟨hx, rfl⟩⟩, rfl, rfl⟩
    · exact fitF3 hF rfl rfl (hQ1 hx)
    · exact fitF2 hF (hQ2 hx)
/-- byte, at Feed's rows. -/
def spec38F (s : List UInt8) : CallSpec := fun args h k => match args, h with
  | [.ptr false 0 0 0, .int .u8 x], [some (.lst 62 9 [.agg [.bool true, .int .i64 a, .int .i64 b, .int .i64 l, .int .i64 v, .int .u8 lo, .int .u8 hi, .sl false 4 0 n .no, .nils]]), w1, w2, bs, some (.gen 38 2 n' F)] =>
    n' = n ∧ w1 = winRow ∧ w2 = winRow ∧ bs = some (.byt 5 s) ∧ n ≤ 1000000 ∧ Plain n F ∧
    ((l = 0 ∧ 0 ≤ x ∧ x ≤ 255 ∧ (x < 128 ∨ leftF x ≠ 0) ∧ (x < 128 → k (.tup []) (rowsT a a v (lowF x) (highF x) s n F (rune x a))) ∧ (¬ x < 128 → k (.tup []) (rowsF a a (leftF x) (valF x) (lowF x) (highF x) s n F))) ∨
     (0 < l ∧ l ≤ 3 ∧ lo ≤ x ∧ x ≤ hi ∧ (l = 1 → k (.tup []) (rowsT a b (nxt v x) 128 191 s n F (rune (nxt v x) b))) ∧ (l ≠ 1 → k (.tup []) (rowsF a b (l - 1) (nxt v x) 128 191 s n F))))
  | _, _ => False
theorem spec38F_ok (R : Nat → RoRow) (s : List UInt8) : ∀ args h k, spec38F s args h k → SafeCall Try.prog R 38 args h k := by
  intro args h k hk
  unfold spec38F at hk
  split at hk
  · rename_i x a b l v lo hi n w1 w2 bs n' F
    obtain ⟨rfl, rfl, rfl, rfl, hn, hF, ⟨rfl, x0, x1, hg, h1, h2⟩ | ⟨l0, l1, x0, x1, h1, h2⟩⟩ := hk
    · refine (safeF38S R x a b v lo hi s n' F x0 x1 hn hF hg (fun h => k (.tup []) h) h1 h2).mono ?_
      rintro r h' ⟨rfl, hq⟩
      exact hq
    · refine (safeF38C R x a b l v lo hi s n' F l0 l1 x0 x1 hn hF (fun h => k (.tup []) h) h1 h2).mono ?_
      rintro r h' ⟨rfl, hq⟩
      exact hq
  · exact hk.elim
end Go.Dc.Ka
