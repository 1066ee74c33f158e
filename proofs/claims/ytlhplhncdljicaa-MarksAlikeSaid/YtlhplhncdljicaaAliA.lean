/- Are two entries alike: what is computed. -/
import Derived.Test.YtlhplhncdljicaaMarksNil
import Derived.Test.YtlhplhncdljicaaDcZi
set_option linter.unusedVariables false
set_option linter.unusedSimpArgs false
namespace Go.Dc.Kb
open Go.Proofs Go.RowKit
set_option maxRecDepth 100000
theorem byRndL {E : Env Prop} (hE : EnvOK Try.prog E id) {f : FuncId} {fi : FI} (hF : E.F f = some fi) {i : Nat} {c : Code} (hb : blockOf fi i = some (.loop c)) {st : St} {k : Exit → St → Prop} (n : Nat) {X : Prop} (e : rnd E n f c st k = X) (hX : X) : Safe Try.prog E.R c st k :=
  Safe.rnd mixed hE hF hb (subs_loop c) n (e.symm ▸ hX)
abbrev Tx := List UInt8
abbrev At := List UInt8 × List UInt8
def atA (N V : Nat → Tx) : Nat → AV := fun j => .agg [.str (N j), .str (V j)]
def atL (D : List At) : Nat → AV := fun j => .agg [.str (D.getD j ([], [])).1, .str (D.getD j ([], [])).2]
def ro2A (t n : Nat) (N V : Nat → Tx) (t' m : Nat) (N' V' : Nat → Tx) : Nat → RoRow := fun i => match i with | 0 => ⟨t, 2, n, atA N V⟩ | 1 => ⟨t', 2, m, atA N' V'⟩ | _ + 2 => ⟨0, 0, 0, fun _ => .undef⟩
/-- Of attributes of one name the first. -/
def dd (N V : Nat → Tx) : Nat → List At
  | 0 => []
  | i + 1 => bif (dd N V i).any (fun p => p.1 == N i) then dd N V i else dd N V i ++ [(N i, V i)]
def tm14o (p r : Nat) (i : Int) : List AV := [.any, .ptr false 0 0 0, .ptr false 1 0 0, .ptr false 2 0 0, .ptr false p 0 0, .ptr false r 0 0, .int .i64 i, .any, .any, .any, .any, .any, .any, .any, .any, .any, .any, .any, .any, .any, .any, .any, .any, .any, .any, .any, .any, .any, .any, .any, .any, .any, .any, .any, .any, .any, .any, .any, .any, .any, .any, .any, .any, .any, .any, .any, .any, .any, .any, .any, .any, .any, .any, .any, .any, .any, .any, .any, .any, .any, .any, .any, .any, .any, .any, .any, .any, .any, .any, .any, .any, .any, .any, .any, .any, .any, .any, .any, .any, .any, .any, .any, .any, .any, .any, .any, .any, .any, .any, .any, .any, .any, .any]
theorem tm14o_spr (p r : Nat) (i : Int) : tm14o p r i = spr [(1, .ptr false 0 0 0), (2, .ptr false 1 0 0), (3, .ptr false 2 0 0), (4, .ptr false p 0 0), (5, .ptr false r 0 0), (6, .int .i64 i)] 0 93 := by kernel_rfl
def tm14i (p r : Nat) (i : Int) (b : Bool) (k : Int) : List AV := [.any, .ptr false 0 0 0, .ptr false 1 0 0, .ptr false 2 0 0, .ptr false p 0 0, .ptr false r 0 0, .int .i64 i, .bool b, .int .i64 k, .any, .any, .any, .any, .any, .any, .any, .any, .any, .any, .any, .any, .any, .any, .any, .any, .any, .any, .any, .any, .any, .any, .any, .any, .any, .any, .any, .any, .any, .any, .any, .any, .any, .any, .any, .any, .any, .any, .any, .any, .any, .any, .any, .any, .any, .any, .any, .any, .any, .any, .any, .any, .any, .any, .any, .any, .any, .any, .any, .any, .any, .any, .any, .any, .any, .any, .any, .any, .any, .any, .any, .any, .any, .any, .any, .any, .any, .any, .any, .any, .any, .any, .any, .any]
theorem tm14i_spr (p r : Nat) (i : Int) (b : Bool) (k : Int) : tm14i p r i b k = spr [(1, .ptr false 0 0 0), (2, .ptr false 1 0 0), (3, .ptr false 2 0 0), (4, .ptr false p 0 0), (5, .ptr false r 0 0), (6, .int .i64 i), (7, .bool b), (8, .int .i64 k)] 0 93 := by kernel_rfl
def tm64 (n : Nat) (i : Int) : List AV := [.sl true 1 0 n .no, .any, .any, .ptr false 0 0 0, .any, .any, .any, .int .i64 n, .int .i64 i, .any, .any, .any, .any, .any, .any, .any, .any, .any, .any]
theorem tm64_spr (n : Nat) (i : Int) : tm64 n i = spr [(0, .sl true 1 0 n .no), (3, .ptr false 0 0 0), (7, .int .i64 n), (8, .int .i64 i)] 0 19 := by kernel_rfl
def tm15 (n : Nat) (i : Int) : List AV := [.any, .any, .ptr false 0 0 0, .ptr false 1 0 0, .any, .any, .any, .any, .any, .any, .any, .any, .any, .any, .any, .any, .any, .any, .any, .any, .any, .any, .sl true 0 0 n .no, .int .i64 n, .int .i64 i, .any, .any, .any, .any, .any, .any, .any, .any, .any]
theorem tm15_spr (n : Nat) (i : Int) : tm15 n i = spr [(2, .ptr false 0 0 0), (3, .ptr false 1 0 0), (22, .sl true 0 0 n .no), (23, .int .i64 n), (24, .int .i64 i)] 0 34 := by kernel_rfl
def tm16o (c i : Int) : List AV := [.any, .any, .ptr false 0 0 0, .ptr false 1 0 0, .any, .int .i64 c, .int .i64 i, .any, .any, .any, .any, .any, .any, .any, .any, .any, .any, .any, .any, .any, .any, .any, .any, .any, .any, .any, .any, .any, .any, .any, .any, .any, .any, .any, .any, .any, .any, .any, .any, .any, .any, .any, .any, .any, .any, .any, .any, .any, .any, .any, .any, .any, .any, .any]
theorem tm16o_spr (c i : Int) : tm16o c i = spr [(2, .ptr false 0 0 0), (3, .ptr false 1 0 0), (5, .int .i64 c), (6, .int .i64 i)] 0 54 := by kernel_rfl
def tm16i (c i k : Int) : List AV := [.any, .any, .ptr false 0 0 0, .ptr false 1 0 0, .any, .int .i64 c, .int .i64 i, .int .i64 k, .any, .any, .any, .any, .any, .any, .any, .any, .any, .any, .any, .any, .any, .any, .any, .any, .any, .any, .any, .any, .any, .any, .any, .any, .any, .any, .any, .any, .any, .any, .any, .any, .any, .any, .any, .any, .any, .any, .any, .any, .any, .any, .any, .any, .any, .any]
theorem tm16i_spr (c i k : Int) : tm16i c i k = spr [(2, .ptr false 0 0 0), (3, .ptr false 1 0 0), (5, .int .i64 c), (6, .int .i64 i), (7, .int .i64 k)] 0 54 := by kernel_rfl
noncomputable def lp14o : Code := loopOf fi14 0
theorem blk14o : blockOf fi14 0 = some (.loop lp14o) := by kernel_rfl
noncomputable def lp14i : Code := loopOf fi14 2
theorem blk14i : blockOf fi14 2 = some (.loop lp14i) := by kernel_rfl
noncomputable def lp64 : Code := loopOf fi64 0
theorem blk64 : blockOf fi64 0 = some (.loop lp64) := by kernel_rfl
noncomputable def lp15 : Code := loopOf fi15 0
theorem blk15 : blockOf fi15 0 = some (.loop lp15) := by kernel_rfl
noncomputable def lp16o : Code := loopOf fi16 0
theorem blk16o : blockOf fi16 0 = some (.loop lp16o) := by kernel_rfl
noncomputable def lp16i : Code := loopOf fi16 2
theorem blk16i : blockOf fi16 2 = some (.loop lp16i) := by kernel_rfl
abbrev actA (wh at_ nd : Int) (nm : Tx) (q n : Nat) : AV := .agg [.int .i64 wh, .int .i64 at_, .int .i64 nd, .str nm, .sl true q 0 n .no]
abbrev entA (nd : Int) (nm : Tx) (s : AV) : AV := .agg [.int .i64 nd, .str nm, s]
abbrev zE (t : TypeId) : Option Row := some (.lst t 3 [entA 0 [] .nils])
abbrev rX (nd : Int) (nm : Tx) (v : AV) : Option Row := some (.lst 37 3 [entA nd nm v])
abbrev rY (nd : Int) (nm : Tx) (v : AV) : Option Row := some (.lst 40 3 [entA nd nm v])
def rOa (wh at_ nd : Int) (nm : Tx) (q n : Nat) (D : List At) : Rows := [some (.lst 34 5 [actA wh at_ nd nm q n]), zE 37, zE 40, rX nd nm (.sl false 5 0 D.length .no), rY nd nm (.sl false 6 0 D.length .no), some (.gen 90 2 D.length (atL D)), some (.gen 88 2 D.length (atL D))]
def rOb (wh at_ nd : Int) (nm : Tx) (q n : Nat) (D : List At) : Rows := [some (.lst 34 5 [actA wh at_ nd nm q n]), zE 37, zE 40, rY nd nm (.sl false 6 0 D.length .no), rX nd nm (.sl false 5 0 D.length .no), some (.gen 90 2 D.length (atL D)), some (.gen 88 2 D.length (atL D))]
def r0a (wh at_ nd : Int) (nm : Tx) (q n : Nat) : Rows := [some (.lst 34 5 [actA wh at_ nd nm q n]), zE 37, zE 40, rX nd nm .nils, rY nd nm .nils]
def r0b (wh at_ nd : Int) (nm : Tx) (q n : Nat) : Rows := [some (.lst 34 5 [actA wh at_ nd nm q n]), zE 37, zE 40, rY nd nm .nils, rX nd nm .nils]
def spec14i (p r : Nat) (P : Prop) (h0 : Rows) (i : Int) (m : Nat) (x : Bool) : LoopSp := fun st k =>
  (P ∧ nthV st.tmps 1 = .ptr false 0 0 0 ∧ nthV st.tmps 2 = .ptr false 1 0 0 ∧ nthV st.tmps 3 = .ptr false 2 0 0 ∧ nthV st.tmps 4 = .ptr false p 0 0 ∧ nthV st.tmps 5 = .ptr false r 0 0 ∧ nthV st.tmps 6 = .int .i64 i ∧ nthV st.tmps 7 = .bool false ∧ nthV st.tmps 8 = .int .i64 0 ∧ st.tmps.length = 93 ∧ RowsAre st.rows h0) ∧
  k .normal ⟨tm14i p r i x (m : Nat), h0⟩
end Go.Dc.Kb
