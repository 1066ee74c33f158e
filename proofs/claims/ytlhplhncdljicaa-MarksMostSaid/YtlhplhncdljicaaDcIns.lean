/- slices.Insert of one element, told by rows: from what it does to memory. -/
import Derived.Test.YtlhplhncdljicaaDcXk
import Derived.Shelf.Spec.SlicesInsertGrow
set_option linter.unusedVariables false
set_option linter.unusedSimpArgs false
namespace Go.Dc
open Go.Lib Go.Proofs
structure InsLaw (P:Program) (f:FuncId) (tE:TypeId) (z nb:Nat):Prop where
 shift:∀ (b off n c i vb voff vc:Nat) (cs vs:List Value) (w:World),i < n -> n + 1 <= c -> c <= 9223372036854775807 -> vb ≠ b -> cs.length = n * z -> vs.length = z ->
  (∀ j v,cs[j]? = some v -> w.cell? ⟨b,off + j,none⟩ = some v) -> (∀ j,j < (n + 1) * z -> (w.cell? ⟨b,off + j,none⟩).isSome = true) -> (∀ j,j < (n + 1) * z -> w.frozen? ⟨b,off + j,none⟩ = false) ->
  (∀ j v,vs[j]? = some v -> w.cell? ⟨vb,voff + j,none⟩ = some v) -> (∀ v ∈ cs,v.oneCell' = true) -> (∀ v ∈ vs,v.oneCell' = true) ->
  ∀ (tA tB:TypeId) (kA kB:Nat),w.shape? vb = some (tA,kA) -> w.shape? b = some (tB,kB) -> kB ≠ 0 -> w.frozen? ⟨vb,voff,none⟩ = false -> w.frozen? ⟨vb,kA,none⟩ = false ->
  Calls P f #[.slice (some ⟨b,off,none⟩) n c,.int .i64 i,.slice (some ⟨vb,voff,none⟩) 1 vc] w fun e w' =>
   e = .returned (.slice (some ⟨b,off,none⟩) (n + 1) c) /\ w' = (w.drew.setCells b (off + (i + 1) * z) (cs.drop (i * z))).setCells b (off + i * z) vs
 grow:∀ (b off n c i vb voff vc:Nat) (cs vs:List Value) (w:World),i < n -> n <= c -> c < n + 1 -> (n + 1) * nb <= 140737488355328 -> cs.length = n * z -> vs.length = z ->
  (∀ j v,cs[j]? = some v -> w.cell? ⟨b,off + j,none⟩ = some v) -> (∀ j v,vs[j]? = some v -> w.cell? ⟨vb,voff + j,none⟩ = some v) -> (∀ v ∈ cs,v.oneCell' = true) -> (∀ v ∈ vs,v.oneCell' = true) ->
  Calls P f #[.slice (some ⟨b,off,none⟩) n c,.int .i64 i,.slice (some ⟨vb,voff,none⟩) 1 vc] w fun e w' =>
   ∃ (G:Nat) (ZA ZB:Array Value),n + 1 <= G /\ G <= maxLen /\ ZA.size = (n + 1 - i) * z /\ ZB.size = (G - (n + 1)) * z /\
   e = .returned (.slice (some ⟨w.heap.size,0,none⟩) (n + 1) G) /\
   w' = (((w.alloc (.cells ((cs.take (i * z)).toArray ++ ZA ++ ZB) tE)).drew.setCells w.heap.size (i * z) vs).drew).setCells w.heap.size ((i + 1) * z) (cs.drop (i * z))
end Go.Dc
