/- Small tools for walks: conditions, views, wraps. -/
import Derived.Test.YtghhcilbjdgonaaDcZh
set_option linter.unusedSimpArgs false
set_option linter.unusedVariables false
namespace Go.Dc
noncomputable def loopOf (fi : FI) (id : Nat) : Code := match blockOf fi id with | some (.loop b) => b | _ => .skip
theorem hcT {b : Bool} {X Y : Prop} (h : b = true) (hx : X) : cond b X Y := by subst h; exact hx
theorem hcF {b : Bool} {X Y : Prop} (h : b = false) (hy : Y) : cond b X Y := by subst h; exact hy
theorem hcB {b : Bool} {X Y : Prop} (h1 : b = true → X) (h2 : b = false → Y) : cond b X Y := by
  cases b
  · exact h2 rfl
  · exact h1 rfl
theorem hcB2 {b : Bool} {X Y : Prop} (h2 : b = false → Y) (h1 : b = true → X) : cond b X Y := hcB h1 h2
theorem wrapI64 (x : Int) (h0 : -9223372036854775808 ≤ x) (h1 : x ≤ 9223372036854775807) : IntKind.i64.wrap x = x := by
  have e : IntKind.i64.wrap x = if (decide (x % 18446744073709551616 ≥ 9223372036854775808)) = true then x % 18446744073709551616 - 18446744073709551616 else x % 18446744073709551616 := rfl
  rw [e]
  simp only [decide_eq_true_eq]
  split <;> omega
theorem wrapSucc (i : Nat) (h : i ≤ 4611686018427387904) : IntKind.i64.wrap ((i : Int) + 1) = ((i + 1 : Nat) : Int) := by rw [wrapI64 _ (by omega) (by omega)]; omega
/-- One row moved. -/
def mvR (c0 b0 : Nat) : Nat → Option Nat := fun c => bif Nat.beq c c0 then some b0 else some c
theorem mvR_lt {c0 b0 n : Nat} (hn : n ≤ c0) (c : Nat) (hc : c < n) : mvR c0 b0 c = some c := by
  unfold mvR
  rw [show Nat.beq c c0 = false by rw [Bool.eq_false_iff]; exact fun e => by have := Nat.eq_of_beq_eq_true e; omega]
  rfl
theorem mvR_at (c0 b0 c : Nat) : mvR c0 b0 c = some (if c = c0 then b0 else c) := by
  unfold mvR
  by_cases h : c = c0
  · subst h; rw [Nat.beq_refl, if_pos rfl]; rfl
  · rw [show Nat.beq c c0 = false by rw [Bool.eq_false_iff]; exact fun e => h (Nat.eq_of_beq_eq_true e), if_neg h]; rfl
theorem mvR_inj {c0 b0 N : Nat} (hb : N ≤ b0 + 1) (hN : N ≤ c0 + 1) (c c' b : Nat) (hc : c < N) (hc' : c' < N) (h1 : mvR c0 b0 c = some b) (h2 : mvR c0 b0 c' = some b) : c = c' := by
  rw [mvR_at] at h1 h2
  injection h1 with h1
  injection h2 with h2
  split at h1 <;> split at h2 <;> omega
theorem inj_of {N : Nat} {f : Nat → Option Nat} (h : ∀ c c' : Fin N, f c.1 = f c'.1 → f c.1 ≠ none → c = c') (c c' b : Nat) (hc : c < N) (hc' : c' < N) (h1 : f c = some b) (h2 : f c' = some b) : c = c' := by
  have := h ⟨c, hc⟩ ⟨c', hc'⟩ (h1.trans h2.symm) (by show f c ≠ none; rw [h1]; simp)
  exact congrArg Fin.val this
theorem some_inj (N c c' b : Nat) (_ : c < N) (_ : c' < N) (h1 : some c = some b) (h2 : some c' = some b) : c = c' := by cases h1; cases h2; rfl
/-- The first n rows stay, the others weren't there. -/
def upR (n : Nat) : Nat → Option Nat := fun c => bif Nat.blt c n then some c else none
theorem upR_lt {n c : Nat} (h : c < n) : upR n c = some c := by unfold upR; rw [show c.blt n = true by simpa [Nat.blt_eq] using h]; rfl
theorem upR_ge {n c : Nat} (h : n ≤ c) : upR n c = none := by unfold upR; rw [show c.blt n = false by rw [Bool.eq_false_iff]; simp [Nat.blt_eq]; omega]; rfl
theorem upR_inj {n N : Nat} (c c' b : Nat) (_ : c < N) (_ : c' < N) (h1 : upR n c = some b) (h2 : upR n c' = some b) : c = c' := by
  rcases Nat.lt_or_ge c n with h | h
  · rw [upR_lt h] at h1
    rcases Nat.lt_or_ge c' n with h' | h'
    · rw [upR_lt h'] at h2; cases h1; cases h2; rfl
    · rw [upR_ge h'] at h2; cases h2
  · rw [upR_ge h] at h1; cases h1
theorem ViewL.goneR {f : Nat → Option Nat} {N : Nat} {h : Rows} {c b : Nat} (hf : f c = some b) (hb : b < h.length) : ViewL f N h c none where
  row := fun r hr => by cases hr
  lt := fun b' hb' => by rw [hf] at hb'; cases hb'; exact hb
theorem ViewL.noneR {f : Nat → Option Nat} {N : Nat} {h : Rows} {c : Nat} (hf : f c = none) : ViewL f N h c none where
  row := fun r hr => by cases hr
  lt := fun b' hb' => by rw [hf] at hb'; cases hb'
theorem fitVK {n : Nat} {hE h : Rows} {v : AV} {Q : AV → Rows → Prop} (f : Nat → Option Nat) (hV : View f hE h) (hg : gnd v = true) (hf : ∀ c, c < n → f c = some c) (hl : n ≤ hE.length) (hq : Q v hE) : ∃ vE hE, FitV n vE hE v h ∧ Q vE hE :=
  ⟨v, hE, ⟨f, hV, Vw.gndI hg, hf, hl⟩, hq⟩
/-- The very same rows. -/
structure RowsAre (h h0 : Rows) : Prop where
  h : h = h0
theorem capOK {m z : Nat} (h : (m + 1) * z ≤ 140737488355328) : (decide (0 + m ≤ m) && (true && (true && decide ((m + 1) * z ≤ 140737488355328)))) = true := by simp; exact h
/-- An element more, behind a row that is told by a function. -/
theorem app_gen {n : Nat} {F G : Nat → AV} {e : AV} (hF : ∀ j, j < n → F (0 + j) = G j) (he : e = G n) (j : Nat) (hj : j < n + 1) : (bif j.blt n then F (0 + j) else (Src.lst [e]).at_ (j - n)) = G j := by
  by_cases h : j < n
  · rw [show j.blt n = true by simpa [Nat.blt_eq] using h]; exact hF j h
  · have : j = n := by omega
    subst this
    rw [show j.blt j = false by rw [Bool.eq_false_iff]; simp [Nat.blt_eq], Nat.sub_self, he.symm]
    rfl
end Go.Dc
