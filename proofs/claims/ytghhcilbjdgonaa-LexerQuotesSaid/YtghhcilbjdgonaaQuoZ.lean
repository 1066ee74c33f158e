/- A value in quotes: what is used throughout. -/
import Derived.Test.YtghhcilbjdgonaaPlainA
import Derived.Test.YtghhcilbjdgonaaDcZi
set_option linter.unusedVariables false
set_option linter.unusedSimpArgs false
namespace Go.Dc.Kl
open Go.Proofs Go.RowKit
set_option maxRecDepth 100000
def rA (s : List UInt8) : Nat → AV := fun j => rune (byteI s j) (j : Int)
abbrev rowA (s : List UInt8) (n : Nat) : Option Row := some (.gen 29 2 n (rA s))
theorem gen_plain {n ty z : Nat} {F G : Nat → AV} {f : Nat → Option Nat} {N : Nat} (h : ∀ j, j < n → G j = F j) (hg : ∀ j, gnd (F j) = true) (ho : ∀ j, ones (F j) = true) : RowV f N (.gen ty z n F) (.gen ty z n G) := .gen rfl fun i hi => ⟨ho i, by rw [h i hi]; exact gnd_vw f N _ (hg i)⟩
theorem byteI_lo (s : List UInt8) (i : Nat) : 0 ≤ byteI s i := by unfold byteI; omega
structure NoRows (h : Rows) : Prop where
  hh : h = []
end Go.Dc.Kl
