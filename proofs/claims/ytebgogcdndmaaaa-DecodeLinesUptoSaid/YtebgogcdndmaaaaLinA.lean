/- Newlines in one form have no 0D left: what is computed. -/
import Derived.Test.YtebgogcdndmaaaaBackL
set_option linter.unusedVariables false
set_option linter.unusedSimpArgs false
namespace Go.Dc.Ka
open Go.Proofs Go.RowKit
set_option maxRecDepth 100000
def aft (F : Nat → Int) : Nat → Bool
  | 0 => false
  | i + 1 => F i == 13
def passO (F : Nat → Int) : Nat → List (Int × Int)
  | 0 => []
  | i + 1 => bif aft F i && (F i == 10) then passO F i else passO F i ++ [(bif F i == 13 then 10 else F i, (i : Int))]
def less (F : Nat → Int) : Nat → Nat
  | 0 => 0
  | i + 1 => bif aft F i && (F i == 10) then less F i + 1 else less F i
theorem pass_len (F : Nat → Int) : ∀ i, (passO F i).length + less F i = i := by
  intro i
  induction i with
  | zero => rfl
  | succ i ih =>
    simp only [passO, less]
    cases aft F i && (F i == 10) <;> simp <;> omega
theorem pass_none (F : Nat → Int) : ∀ i p, p ∈ passO F i → p.1 ≠ 13 := by
  intro i
  induction i with
  | zero => intro p h; simp [passO] at h
  | succ i ih =>
    intro p
    simp only [passO]
    cases h : aft F i && (F i == 10) with
    | true => exact ih p
    | false =>
      simp only [cond_false, List.mem_append, List.mem_singleton]
      rintro (h1 | rfl)
      · exact ih p h1
      · show (bif F i == 13 then 10 else F i) ≠ 13
        cases h2 : F i == 13 with
        | true => simp
        | false => simpa using h2
def inF (F : Nat → Int) : Nat → AV := fun j => rune (F j) (j : Int)
theorem inF_plain (F : Nat → Int) (n : Nat) : Plain n (inF F) := fun i _ => ⟨rfl, rfl⟩
def tm13a (n m : Nat) (c i : Int) : List AV := [.sl true 0 0 n .no, .any, .any, .sl false 0 0 m .no, .int .i64 c, .int .i64 i, .any, .any, .any, .any, .any, .any, .any, .any, .any, .any, .any, .any, .any, .any, .any, .any, .any, .any, .any, .any, .any, .any, .any, .any, .any, .any, .any, .any, .any, .any, .any, .any, .any, .any, .any, .any, .any, .any, .any, .any, .any, .any, .any, .any, .any, .any, .any, .any, .any, .any, .any, .any, .any, .any, .any, .any, .any, .any, .any, .any, .any, .any, .any, .any, .any, .any, .any, .any, .any, .any, .any, .any, .any, .any, .any, .any, .any, .any, .any, .any, .any, .any, .any, .any, .any, .any, .any, .any, .any, .any, .any, .any, .any, .any, .any, .any, .any, .any, .any, .any, .any, .any, .any, .any, .any, .any, .any, .any, .any, .any, .any, .any, .any, .any, .any, .any, .any, .any, .any]
theorem tm13a_spr (n m : Nat) (c i : Int) : tm13a n m c i = spr [(0, .sl true 0 0 n .no), (3, .sl false 0 0 m .no), (4, .int .i64 c), (5, .int .i64 i)] 0 125 := by kernel_rfl
def tm33 (n m : Nat) (i : Int) : List AV := [.ptr false 3 0 0, .any, .any, .any, .any, .sl false 4 0 m .no, .any, .any, .any, .any, .any, .any, .any, .sl false 0 0 n .no, .int .i64 n, .int .i64 i, .any, .any, .any, .any, .any, .any, .any, .any, .any, .any, .any, .any, .any, .any, .any, .any, .any, .any, .any, .any, .any, .any, .any, .any, .any, .any, .any, .any, .any, .any, .any]
theorem tm33_spr (n m : Nat) (i : Int) : tm33 n m i = spr [(0, .ptr false 3 0 0), (5, .sl false 4 0 m .no), (13, .sl false 0 0 n .no), (14, .int .i64 n), (15, .int .i64 i)] 0 47 := by kernel_rfl
def tm13b (n m : Nat) (c i : Int) : List AV := [.any, .any, .any, .sl false 0 0 n .no, .int .i64 c, .any, .sl false 2 0 n .no, .any, .sl false 4 0 m .no, .int .i64 i, .any, .any, .any, .any, .any, .any, .any, .any, .any, .any, .any, .any, .any, .any, .any, .any, .any, .any, .any, .any, .any, .any, .any, .any, .any, .any, .any, .any, .any, .any, .any, .any, .any, .any, .any, .any, .any, .any, .any, .any, .any, .any, .any, .any, .any, .any, .any, .any, .any, .any, .any, .any, .any, .any, .any, .any, .any, .any, .any, .any, .any, .any, .any, .any, .any, .any, .any, .any, .any, .any, .any, .any, .any, .any, .any, .any, .any, .any, .any, .any, .any, .any, .any, .any, .any, .any, .any, .any, .any, .any, .any, .any, .any, .any, .any, .any, .any, .any, .any, .any, .any, .any, .any, .any, .any, .any, .any, .any, .any, .any, .any, .any, .any, .any, .any]
theorem tm13b_spr (n m : Nat) (c i : Int) : tm13b n m c i = spr [(3, .sl false 0 0 n .no), (4, .int .i64 c), (6, .sl false 2 0 n .no), (8, .sl false 4 0 m .no), (9, .int .i64 i)] 0 125 := by kernel_rfl
def tm13c (n m : Nat) (c i : Int) : List AV := [.any, .any, .any, .sl false 0 0 n .no, .int .i64 c, .any, .sl false 2 0 n .no, .any, .sl false 4 0 m .no, .any, .int .i64 i, .any, .any, .any, .any, .any, .any, .any, .any, .any, .any, .any, .any, .any, .any, .any, .any, .any, .any, .any, .any, .any, .any, .any, .any, .any, .any, .any, .any, .any, .any, .any, .any, .any, .any, .any, .any, .any, .any, .any, .any, .any, .any, .any, .any, .any, .any, .any, .any, .any, .any, .any, .any, .any, .any, .any, .any, .any, .any, .any, .any, .any, .any, .any, .any, .any, .any, .any, .any, .any, .any, .any, .any, .any, .any, .any, .any, .any, .any, .any, .any, .any, .any, .any, .any, .any, .any, .any, .any, .any, .any, .any, .any, .any, .any, .any, .any, .any, .any, .any, .any, .any, .any, .any, .any, .any, .any, .any, .any, .any, .any, .any, .any, .any, .any]
theorem tm13c_spr (n m : Nat) (c i : Int) : tm13c n m c i = spr [(3, .sl false 0 0 n .no), (4, .int .i64 c), (6, .sl false 2 0 n .no), (8, .sl false 4 0 m .no), (10, .int .i64 i)] 0 125 := by kernel_rfl
noncomputable abbrev env13 (R : Nat → RoRow) : Env Prop := (base R).addCall 22 isTrue
theorem env13_ok (R : Nat → RoRow) : EnvOK Try.prog (env13 R) id := (base_ok R).addCall (f := 22) (fi := fi22) (by kernel_rfl) (isTrue_ok (safe22 R))
noncomputable def lp13a : Code := loopOf fi13 0
theorem blk13a : blockOf fi13 0 = some (.loop lp13a) := by kernel_rfl
noncomputable def lp13b : Code := loopOf fi13 2
theorem blk13b : blockOf fi13 2 = some (.loop lp13b) := by kernel_rfl
noncomputable def lp13c : Code := loopOf fi13 4
theorem blk13c : blockOf fi13 4 = some (.loop lp13c) := by kernel_rfl
noncomputable def lp33 : Code := loopOf fi33 0
theorem blk33 : blockOf fi33 0 = some (.loop lp33) := by kernel_rfl
/-- What the loops leave. -/
structure IsL (F : Nat → Int) (n : Nat) (c : Int) : Prop where
  h : c = (less F n : Int)
structure IsP (F : Nat → Int) (n : Nat) (a : Bool) (o : List (Int × Int)) : Prop where
  h : o = passO F n
def spec13a (n : Nat) (F : Nat → Int) : LoopSp := fun st k => (nthV st.tmps 0 = .sl true 0 0 n .no ∧ nthV st.tmps 3 = .nils ∧ nthV st.tmps 4 = .int .i64 0 ∧ nthV st.tmps 5 = .int .i64 0 ∧ st.tmps.length = 125 ∧ st.rows = []) ∧
  ∀ c, IsL F n c → k .normal ⟨tm13a n n c (n : Nat), [some (.gen 38 2 n (inF F))]⟩
def linR (a : Bool) : Option Row := some (.lst 51 1 [.agg [.bool a]])
def rP (n : Nat) (F : Nat → Int) (a : Bool) (o : List (Int × Int)) : Rows := [some (.gen 38 2 n (inF F)), none, some (.gen 38 2 n (inF F)), linR a, some (.gen 38 2 o.length (outG o))]
def rQ (n : Nat) (F : Nat → Int) (o : List (Int × Int)) : Rows := [some (.gen 38 2 n (inF F)), none, some (.gen 38 2 n (inF F)), none, some (.gen 38 2 o.length (outG o))]
end Go.Dc.Ka
