/- A text without signs is told scalar by scalar: what is computed. -/
import Derived.Test.YtghhcilbjdgonaaLexerNil
import Derived.Test.YtghhcilbjdgonaaDcZh
set_option linter.unusedVariables false
set_option linter.unusedSimpArgs false
namespace Go.Dc.Kl
open Go.Proofs Go.RowKit
set_option maxRecDepth 100000
noncomputable def loopOf (fi : FI) (id : Nat) : Code := match blockOf fi id with | some (.loop b) => b | _ => .skip
theorem byRnd {E : Env Prop} (hE : EnvOK Try.prog E id) {f : FuncId} {fi : FI} (hF : E.F f = some fi) {i : Nat} {c : Code} (hb : blockOf fi i = some (.loop c)) {st : St} {k : Exit → St → Prop} (n : Nat) {X : Prop} (e : rnd E n f c st k = X) (hX : X) : Safe Try.prog E.R c st k :=
  Safe.rnd mixed hE hF hb (subs_loop c) n (e.symm ▸ hX)
def byteI (s : List UInt8) (i : Nat) : Int := ((s.getD i 0).toNat : Int)
def C0 (x : Int) : Int := IntKind.u8.wrap ((BitVec.ofInt IntKind.u8.bits x &&& BitVec.ofInt IntKind.u8.bits 127).toNat : Int)
def CC (x : Int) : Int := bif C0 x == 60 then 120 else bif C0 x == 38 then 120 else bif C0 x == 0 then 120 else C0 x
def rune (v a : Int) : AV := .agg [.int .i64 v, .int .i64 a]
def rF (s : List UInt8) : Nat → AV := fun j => rune (CC (byteI s j)) (j : Int)
abbrev lexR (inn : AV) (cl : Bool) (en : Int) (out : AV) (m : Int) (u : List UInt8) : Option Row := some (.lst 61 25 [.agg [inn, .bool cl, .int .i64 en, .fn 18 [] [], out, .nils, .int .i64 m, .str u, .int .i64 0, .int .i64 0, .int .i64 0, .int .i64 0, .str [], .str [], .nils, .bool false, .bool false, .nils, .int .i64 0, .nils, .int .i64 0, .int .i64 0, .nilf, .bool false, .bool false]])
abbrev tokA (v a : Int) : AV := .agg [.int .i64 1, .int .i64 v, .int .i64 a, .str [], .str [], .nils, .bool false, .bool false]
def tm5a (s : List UInt8) (md : Int) (m : Nat) (i : Int) : List AV := [.str s, .int .i64 md, .any, .any, .any, .ptr false 0 0 0, .sl false 1 0 m .no, .int .i64 i, .any, .any, .any, .any, .any, .any, .any, .any, .any, .any, .any, .any, .any, .any, .any, .any, .any, .any, .any, .any, .any, .any, .any, .any, .any, .any, .any, .any, .any, .any, .any, .any, .any, .any, .any, .any, .any, .any, .any, .any, .any, .any, .any, .any, .any, .any, .any, .any, .any, .any, .any, .any, .any, .any, .any, .any, .any, .any, .any, .any, .any, .any, .any, .any, .any, .any, .any, .any, .any, .any, .any, .any, .any, .any, .any, .any, .any, .any, .any, .any, .any, .any, .any, .any, .any, .any, .any, .any, .any, .any, .any, .any, .any, .any, .any, .any, .any, .any, .any, .any, .any, .any, .any, .any, .any, .any, .any, .any, .any, .any, .any, .any, .any, .any]
theorem tm5a_spr (s : List UInt8) (md : Int) (m : Nat) (i : Int) : tm5a s md m i = spr [(0, .str s), (1, .int .i64 md), (5, .ptr false 0 0 0), (6, .sl false 1 0 m .no), (7, .int .i64 i)] 0 122 := by kernel_rfl
def tm5b (n : Nat) (i : Int) : List AV := [.any, .any, .any, .any, .any, .ptr false 0 0 0, .sl false 1 0 n .no, .any, .any, .any, .any, .int .i64 i, .any, .any, .any, .any, .any, .any, .any, .any, .any, .any, .any, .any, .any, .any, .any, .any, .any, .any, .any, .any, .any, .any, .any, .any, .any, .any, .any, .any, .any, .any, .any, .any, .any, .any, .any, .any, .any, .any, .any, .any, .any, .any, .any, .any, .any, .any, .any, .any, .any, .any, .any, .any, .any, .any, .any, .any, .any, .any, .any, .any, .any, .any, .any, .any, .any, .any, .any, .any, .any, .any, .any, .any, .any, .any, .any, .any, .any, .any, .any, .any, .any, .any, .any, .any, .any, .any, .any, .any, .any, .any, .any, .any, .any, .any, .any, .any, .any, .any, .any, .any, .any, .any, .any, .any, .any, .any, .any, .any, .any, .any]
theorem tm5b_spr (n : Nat) (i : Int) : tm5b n i = spr [(5, .ptr false 0 0 0), (6, .sl false 1 0 n .no), (11, .int .i64 i)] 0 122 := by kernel_rfl
noncomputable def lp5a : Code := loopOf fi5 0
theorem blk5a : blockOf fi5 0 = some (.loop lp5a) := by kernel_rfl
noncomputable def lp5b : Code := loopOf fi5 2
theorem blk5b : blockOf fi5 2 = some (.loop lp5b) := by kernel_rfl
def r5a (s : List UInt8) (i : Nat) : Rows := [lexR .nils false 0 .nils 0 [], some (.gen 29 2 i (rF s))]
def r5b0 (s : List UInt8) (n : Nat) (m : Int) (u : List UInt8) : Rows := [lexR (.sl false 2 0 n .no) true n .nils m u, some (.gen 29 2 n (rF s)), some (.gen 29 2 n (rF s))]
def r5b1 (s : List UInt8) (n i j : Nat) (m : Int) (u : List UInt8) (v a : Int) : Rows := [lexR (.sl false 2 i j .no) true n (.sl false 3 1 0 .no) m u, some (.gen 29 2 n (rF s)), some (.gen 29 2 n (rF s)), some (.lst 34 8 [tokA v a])]
abbrev tok0 : Option Row := some (.lst 34 8 [.agg [.int .i64 0, .int .i64 0, .int .i64 0, .str [], .str [], .nils, .bool false, .bool false]])
def q0 (s : List UInt8) (n : Nat) (m : Int) (u : List UInt8) : Rows := r5b0 s n m u ++ [tok0]
def q1 (s : List UInt8) (n i j : Nat) (m : Int) (u : List UInt8) (v a : Int) : Rows := r5b1 s n i j m u v a ++ [tok0]
structure SameR (h h0 : Rows) : Prop where
  h : h = h0
/-- A function that reads, at these rows, at the argument 0. -/
def specAt (h0 : Rows) (c : Int) : CallSpec := fun args h k => match args with
  | [.ptr false 0 0 0, .int .i64 0] => SameR h h0 ∧ k (.int .i64 c) h0
  | _ => False
noncomputable abbrev env18 (R : Nat → RoRow) (h0 : Rows) (c a : Int) : Env Prop := ((base R).addCall 26 (specAt h0 c)).addCall 27 (specAt h0 a)
abbrev rowG (s : List UInt8) (n : Nat) : Option Row := some (.gen 29 2 n (rF s))
abbrev rowT (v a : Int) : Option Row := some (.lst 34 8 [tokA v a])
abbrev rowE (a : Int) : Option Row := some (.lst 34 8 [.agg [.int .i64 0, .int .i64 0, .int .i64 a, .str [], .str [], .nils, .bool false, .bool false]])
end Go.Dc.Kl
