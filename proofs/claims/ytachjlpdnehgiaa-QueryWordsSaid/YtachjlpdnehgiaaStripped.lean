/- A text stripped is stripped: the walk. -/
import Derived.Test.YtachjlpdnehgiaaSpecs
import Derived.Test.YtachjlpdnehgiaaQueryNil
set_option linter.unusedVariables false
set_option linter.unusedSimpArgs false
namespace Go.Dc.Kd
open Go.Proofs Go.RowKit Go.Shelf
set_option maxRecDepth 100000
noncomputable abbrev env13 (R : Nat → RoRow) : Env Prop := (((base R).addCall 43 spec43).addCall 45 spec45).addCall 31 isTrue
theorem env13_ok (R : Nat → RoRow) : EnvOK Try.prog (env13 R) id :=
  (((base_ok R).addCall (f := 43) (fi := fi43) (by kernel_rfl) (spec43_ok R)).addCall (f := 45) (fi := fi45) (by kernel_rfl) (spec45_ok R)).addCall (f := 31) (fi := fi31) (by kernel_rfl) (isTrue_ok (safe31 R))
noncomputable def lp13 : Code := loopB fi13 0
theorem blk13 : blockOf fi13 0 = some (.loop lp13) := by kernel_rfl
noncomputable def lp13k : Code := loopB fi13 2
theorem blk13k : blockOf fi13 2 = some (.loop lp13k) := by kernel_rfl
def anys : Nat → List AV
  | 0 => []
  | n + 1 => .any :: anys n
def rw13 (A : List (List UInt8)) : Rows := [some (strsRow 9 A), some (strsRow 9 A)]
def tk13 (m : Nat) (i k : Int) : List AV := [.any, .any, .any, .any, .sl false 0 0 m .no, .sl false 1 0 m .no, .int .i64 i, .int .i64 k, .any, .any, .any, .any, .any, .any, .any, .any, .any, .any, .any, .any, .any, .any, .any, .any, .any, .any, .any, .any, .any, .any, .any, .any, .any, .any, .any, .any, .any, .any, .any, .any, .any, .any, .any, .any, .any, .any, .any, .any, .any, .any, .any, .any, .any, .any, .any, .any, .any, .any, .any, .any, .any, .any, .any, .any, .any, .any]
def famk (A : List (List UInt8)) (i k : Nat) : St := ⟨tk13 A.length (i : Nat) (k : Nat), rw13 A⟩
def ti13 (m : Nat) (i : Int) : List AV := [.any, .any, .any, .any, .sl false 0 0 m .no, .sl false 1 0 m .no, .int .i64 i, .any, .any, .any, .any, .any, .any, .any, .any, .any, .any, .any, .any, .any, .any, .any, .any, .any, .any, .any, .any, .any, .any, .any, .any, .any, .any, .any, .any, .any, .any, .any, .any, .any, .any, .any, .any, .any, .any, .any, .any, .any, .any, .any, .any, .any, .any, .any, .any, .any, .any, .any, .any, .any, .any, .any, .any, .any, .any, .any]
def fami (A : List (List UInt8)) (i : Nat) : St := ⟨ti13 A.length (i : Nat), rw13 A⟩
/-! cut -/
theorem vrk (R : Nat → RoRow) (A : List (List UInt8)) (i k : Nat) (Q : Exit → St → Prop) : rnd (env13 R) 10000 13 lp13k (famk A i k) Q =
    (bif decide ((↑k : Int) < (↑i : Int)) then
    bif true && decide ((↑k : Int) < (↑A.length : Int)) then
      bif decide (0 + (↑k : Int).toNat < A.length) then
        bif true && decide ((↑i : Int) < (↑A.length : Int)) then
          bif decide (0 + (↑i : Int).toNat < A.length) then
            bif A.getD (0 + (↑k : Int).toNat) [] == A.getD (0 + (↑i : Int).toNat) [] then
              Q Exit.ret
                (St.mk
                  [AV.any, AV.any, AV.bool false, AV.any, AV.sl false 0 0 A.length Cp.no,
                    AV.sl false 1 0 A.length Cp.no, AV.int IntKind.i64 (↑i : Int), AV.int IntKind.i64 (↑k : Int),
                    AV.any, AV.any, AV.any, AV.any, AV.any, AV.any, AV.any, AV.any, AV.any, AV.any, AV.any, AV.any,
                    AV.any, AV.any, AV.any, AV.any, AV.any, AV.any, AV.any, AV.any, AV.any, AV.any, AV.any, AV.any,
                    AV.any, AV.any, AV.any, AV.any, AV.any, AV.any, AV.any, AV.any, AV.any, AV.any, AV.any, AV.any,
                    AV.any, AV.any, AV.any, AV.any, AV.any, AV.any, AV.any, AV.any, AV.int IntKind.i64 (↑k : Int),
                    AV.int IntKind.i64 (↑i : Int), AV.bool true, AV.any, AV.any, AV.sl false 0 0 A.length Cp.no,
                    AV.int IntKind.i64 (↑k : Int), AV.ptr false 0 (0 + (↑k : Int).toNat) 0,
                    AV.str (A.getD (0 + (↑k : Int).toNat) []), AV.sl false 0 0 A.length Cp.no,
                    AV.int IntKind.i64 (↑i : Int), AV.ptr false 0 (0 + (↑i : Int).toNat) 0,
                    AV.str (A.getD (0 + (↑i : Int).toNat) []), AV.bool true]
                  [some (Row.gen 9 1 A.length fun j => AV.str (A.getD j [])),
                    some (Row.gen 9 1 A.length fun j => AV.str (A.getD j []))])
            else
              Q Exit.normal
                (St.mk
                  [AV.any, AV.any, AV.any, AV.any, AV.sl false 0 0 A.length Cp.no, AV.sl false 1 0 A.length Cp.no,
                    AV.int IntKind.i64 (↑i : Int), AV.int IntKind.i64 (IntKind.i64.wrap ((↑k : Int) + 1)), AV.any,
                    AV.any, AV.any, AV.any, AV.any, AV.any, AV.any, AV.any, AV.any, AV.any, AV.any, AV.any, AV.any,
                    AV.any, AV.any, AV.any, AV.any, AV.any, AV.any, AV.any, AV.any, AV.any, AV.any, AV.any, AV.any,
                    AV.any, AV.any, AV.any, AV.any, AV.any, AV.any, AV.any, AV.any, AV.any, AV.any, AV.any, AV.any,
                    AV.any, AV.any, AV.any, AV.any, AV.any, AV.any, AV.any, AV.int IntKind.i64 (↑k : Int),
                    AV.int IntKind.i64 (↑i : Int), AV.bool true, AV.int IntKind.i64 (↑k : Int),
                    AV.int IntKind.i64 (IntKind.i64.wrap ((↑k : Int) + 1)), AV.sl false 0 0 A.length Cp.no,
                    AV.int IntKind.i64 (↑k : Int), AV.ptr false 0 (0 + (↑k : Int).toNat) 0,
                    AV.str (A.getD (0 + (↑k : Int).toNat) []), AV.sl false 0 0 A.length Cp.no,
                    AV.int IntKind.i64 (↑i : Int), AV.ptr false 0 (0 + (↑i : Int).toNat) 0,
                    AV.str (A.getD (0 + (↑i : Int).toNat) []), AV.bool false]
                  [some (Row.gen 9 1 A.length fun j => AV.str (A.getD j [])),
                    some (Row.gen 9 1 A.length fun j => AV.str (A.getD j []))])
          else False
        else False
      else False
    else False
  else
    Q (Exit.exit 2)
      (St.mk
        [AV.any, AV.any, AV.any, AV.any, AV.sl false 0 0 A.length Cp.no, AV.sl false 1 0 A.length Cp.no,
          AV.int IntKind.i64 (↑i : Int), AV.int IntKind.i64 (↑k : Int), AV.any, AV.any, AV.any, AV.any, AV.any, AV.any,
          AV.any, AV.any, AV.any, AV.any, AV.any, AV.any, AV.any, AV.any, AV.any, AV.any, AV.any, AV.any, AV.any,
          AV.any, AV.any, AV.any, AV.any, AV.any, AV.any, AV.any, AV.any, AV.any, AV.any, AV.any, AV.any, AV.any,
          AV.any, AV.any, AV.any, AV.any, AV.any, AV.any, AV.any, AV.any, AV.any, AV.any, AV.any, AV.any,
          AV.int IntKind.i64 (↑k : Int), AV.int IntKind.i64 (↑i : Int), AV.bool false, AV.any, AV.any, AV.any, AV.any,
          AV.any, AV.any, AV.any, AV.any, AV.any, AV.any, AV.any]
        [some (Row.gen 9 1 A.length fun j => AV.str (A.getD j [])),
          some (Row.gen 9 1 A.length fun j => AV.str (A.getD j []))])) := by kernel_rfl
def stk (A : List (List UInt8)) (i : Nat) : St := St.mk
                    [AV.any, AV.any, AV.any, AV.any, AV.sl false 0 0 A.length Cp.no, AV.sl false 1 0 A.length Cp.no,
                      AV.int IntKind.i64 ((i : Nat) : Int), AV.int IntKind.i64 0, AV.any, AV.any, AV.any, AV.any, AV.any,
                      AV.any, AV.any, AV.any, AV.any, AV.any, AV.any, AV.any, AV.any, AV.any, AV.any, AV.any, AV.any,
                      AV.any, AV.any, AV.any, AV.any, AV.any, AV.any, AV.any, AV.any, AV.any, AV.any, AV.any, AV.any,
                      AV.int IntKind.i64 ((i : Nat) : Int), AV.sl false 0 0 A.length Cp.no,
                      AV.int IntKind.i64 ((A.length : Nat) : Int), AV.bool true, AV.any, AV.any,
                      AV.sl false 0 0 A.length Cp.no, AV.int IntKind.i64 ((i : Nat) : Int),
                      AV.ptr false 0 (0 + ((i : Nat) : Int).toNat) 0, AV.str (A.getD (0 + ((i : Nat) : Int).toNat) []),
                      AV.sl false 1 0 A.length Cp.no, AV.int IntKind.i64 ((i : Nat) : Int),
                      AV.ptr false 1 (0 + ((i : Nat) : Int).toNat) 0, AV.str (A.getD (0 + ((i : Nat) : Int).toNat) []), AV.bool false,
                      AV.any, AV.any, AV.any, AV.any, AV.any, AV.any, AV.any, AV.any, AV.any, AV.any, AV.any, AV.any,
                      AV.any, AV.any]
                    [some (Row.gen 9 1 A.length fun j => AV.str (A.getD j [])),
                      some (Row.gen 9 1 A.length fun j => AV.str (A.getD j []))]
theorem viewAA (A : List (List UInt8)) : View some (rw13 A) (rw13 A) := by
  refine View.of ?_ ?_
  · intro c o ho
    match c with
    | 0 => cases ho; exact ViewL.at_ (b := 0) rfl rfl (.gen rfl fun j _ => ⟨rfl, gnd_vw _ _ _ rfl⟩)
    | 1 => cases ho; exact ViewL.at_ (b := 1) rfl rfl (.gen rfl fun j _ => ⟨rfl, gnd_vw _ _ _ rfl⟩)
    | c + 2 => simp [rw13] at ho
  · intro c c' b _ _ h1 h2
    cases h1; cases h2; rfl
theorem fitAA {A : List (List UInt8)} {T T' : List AV} (h : VwL some 2 T T') : Fit 2 ⟨T, rw13 A⟩ ⟨T', rw13 A⟩ := ⟨some, ⟨viewAA A, h⟩, fun _ _ => rfl, Nat.le_refl _⟩
theorem loopk (R : Nat → RoRow) (A : List (List UInt8)) (i : Nat) (hA : A.length ≤ 1000000) (hi : i < A.length) (hnd : A.Nodup) {Q : Exit → St → Prop} (h : Q .normal (famk A i i)) :
    Safe Try.prog (env13 R).R (.block 2 (.loop lp13k)) (stk A i) Q := by
  refine (loop_block (I := {k : Nat // k ≤ i}) (fam := fun k => famk A i k.1) (fun k => i - k.1)
    (X := fun e stE => e = .exit 2 ∧ stE = famk A i i) (i0 := ⟨0, Nat.zero_le _⟩) (f := some) ?_ ?_ ?_ ?_).mono ?_
  · refine ⟨viewAA A, ?_⟩
    show VwL some 2 _ _
    simp only [famk, tk13, stk]
    repeat' (first | with_reducible exact VwL.nil | with_reducible refine VwL.cons ?_ ?_ | with_reducible exact Vw.anyI | with_reducible exact Vw.intI |  exact Vw.gndI rfl | exact Vw.slI (by decide) rfl)
  · intro c hc; rfl
  · intro k; exact Nat.le_refl _
  · rintro ⟨k, hk⟩
    refine byRnd (env13_ok R) (f := 13) (fi := fi13) (by kernel_rfl) blk13k 10000 (vrk R A i k _) ?_
    refine hcond (fun c1 => ?_) (fun c1 => ?_)
    · have c1 : k < i := by have := of_decide_eq_true c1; omega
      refine hcond (fun _ => ?_) (fun c2 => by exfalso; simp at c2; omega)
      refine hcond (fun _ => ?_) (fun c2 => by exfalso; have c3 : ¬ (0 + (k : Int).toNat < A.length) := of_decide_eq_false c2; simp at c3; omega)
      refine hcond (fun _ => ?_) (fun c2 => by exfalso; simp at c2; omega)
      refine hcond (fun _ => ?_) (fun c2 => by exfalso; have c3 : ¬ (0 + (i : Int).toNat < A.length) := of_decide_eq_false c2; simp at c3; omega)
      have e0 : A.getD (0 + (k : Int).toNat) [] = A.getD k [] := by simp
      have e1 : A.getD (0 + (i : Int).toNat) [] = A.getD i [] := by simp
      refine hcond (fun c2 => by rw [e0, e1, getD_ne hnd hi c1] at c2; cases c2) (fun c2 => ?_)
      have hw : IntKind.i64.wrap ((k : Int) + 1) = ((k + 1 : Nat) : Int) := by
        rw [wrapI (by omega) (by omega)]; omega
      refine ⟨⟨k + 1, by omega⟩, by show i - (k + 1) < i - k; omega, fitAA ?_⟩
      simp only [tk13]
      repeat' (first | with_reducible exact VwL.nil | with_reducible refine VwL.cons ?_ ?_ | with_reducible exact Vw.anyI | with_reducible exact Vw.intI | with_reducible exact Vw.intE hw | exact Vw.gndI rfl | exact Vw.slI (by decide) rfl)
    · have c1 : ¬ k < i := by have := of_decide_eq_false c1; omega
      have hin : k = i := by omega
      subst hin
      refine ⟨famk A k k, fitAA ?_, rfl, rfl⟩
      simp only [tk13]
      repeat' (first | with_reducible exact VwL.nil | with_reducible refine VwL.cons ?_ ?_ | with_reducible exact Vw.anyI | with_reducible exact Vw.intI |  exact Vw.gndI rfl | exact Vw.slI (by decide) rfl)
  · rintro e stE ⟨e0, rfl, rfl, rfl⟩
    exact h

noncomputable abbrev env13k (R : Nat → RoRow) (A : List (List UInt8)) (i : Nat) : Env Prop := (env13 R).addLoop 13 2 (fun st k => i < A.length ∧ st = stk A i ∧ k .normal (famk A i i))
theorem env13k_ok (R : Nat → RoRow) (A : List (List UInt8)) (i : Nat) (hA : A.length ≤ 1000000) (hnd : A.Nodup) : EnvOK Try.prog (env13k R A i) id :=
  (env13_ok R).addLoop (f := 13) (fi := fi13) (by kernel_rfl) (body := .loop lp13k) blk13k (by
    rintro st k ⟨hi, rfl, h1⟩
    exact loopk R A i hA hi hnd h1)
theorem vri2 (R : Nat → RoRow) (A : List (List UInt8)) (i : Nat) (S2 : St) (Q : Exit → St → Prop) : rnd ((env13 R).addLoop 13 2 (fun st k => i < A.length ∧ st = S2 ∧ k .normal (famk A i i))) 10000 13 lp13 (fami A i) Q =
    (bif decide ((↑i : Int) < (↑A.length : Int)) then
    bif true && decide ((↑i : Int) < (↑A.length : Int)) then
      bif decide (0 + (↑i : Int).toNat < A.length) then
        bif true && decide ((↑i : Int) < (↑A.length : Int)) then
          bif decide (0 + (↑i : Int).toNat < A.length) then
            bif !A.getD (0 + (↑i : Int).toNat) [] == A.getD (0 + (↑i : Int).toNat) [] then
              Q Exit.ret
                (St.mk
                  [AV.any, AV.any, AV.bool false, AV.any, AV.sl false 0 0 A.length Cp.no,
                    AV.sl false 1 0 A.length Cp.no, AV.int IntKind.i64 (↑i : Int), AV.any, AV.any, AV.any, AV.any,
                    AV.any, AV.any, AV.any, AV.any, AV.any, AV.any, AV.any, AV.any, AV.any, AV.any, AV.any, AV.any,
                    AV.any, AV.any, AV.any, AV.any, AV.any, AV.any, AV.any, AV.any, AV.any, AV.any, AV.any, AV.any,
                    AV.any, AV.any, AV.int IntKind.i64 (↑i : Int), AV.sl false 0 0 A.length Cp.no,
                    AV.int IntKind.i64 (↑A.length : Int), AV.bool true, AV.any, AV.any, AV.sl false 0 0 A.length Cp.no,
                    AV.int IntKind.i64 (↑i : Int), AV.ptr false 0 (0 + (↑i : Int).toNat) 0,
                    AV.str (A.getD (0 + (↑i : Int).toNat) []), AV.sl false 1 0 A.length Cp.no,
                    AV.int IntKind.i64 (↑i : Int), AV.ptr false 1 (0 + (↑i : Int).toNat) 0,
                    AV.str (A.getD (0 + (↑i : Int).toNat) []), AV.bool true, AV.any, AV.any, AV.any, AV.any, AV.any,
                    AV.any, AV.any, AV.any, AV.any, AV.any, AV.any, AV.any, AV.any, AV.any]
                  [some (Row.gen 9 1 A.length fun j => AV.str (A.getD j [])),
                    some (Row.gen 9 1 A.length fun j => AV.str (A.getD j []))])
            else
              i.succ.le A.length ∧
                St.mk
                      [AV.any, AV.any, AV.any, AV.any, AV.sl false 0 0 A.length Cp.no, AV.sl false 1 0 A.length Cp.no,
                        AV.int IntKind.i64 (↑i : Int), AV.int IntKind.i64 0, AV.any, AV.any, AV.any, AV.any, AV.any,
                        AV.any, AV.any, AV.any, AV.any, AV.any, AV.any, AV.any, AV.any, AV.any, AV.any, AV.any, AV.any,
                        AV.any, AV.any, AV.any, AV.any, AV.any, AV.any, AV.any, AV.any, AV.any, AV.any, AV.any, AV.any,
                        AV.int IntKind.i64 (↑i : Int), AV.sl false 0 0 A.length Cp.no,
                        AV.int IntKind.i64 (↑A.length : Int), AV.bool true, AV.any, AV.any,
                        AV.sl false 0 0 A.length Cp.no, AV.int IntKind.i64 (↑i : Int),
                        AV.ptr false 0 (0 + (↑i : Int).toNat) 0, AV.str (A.getD (0 + (↑i : Int).toNat) []),
                        AV.sl false 1 0 A.length Cp.no, AV.int IntKind.i64 (↑i : Int),
                        AV.ptr false 1 (0 + (↑i : Int).toNat) 0, AV.str (A.getD (0 + (↑i : Int).toNat) []),
                        AV.bool false, AV.any, AV.any, AV.any, AV.any, AV.any, AV.any, AV.any, AV.any, AV.any, AV.any,
                        AV.any, AV.any, AV.any, AV.any]
                      [some (Row.gen 9 1 A.length fun j => AV.str (A.getD j [])),
                        some (Row.gen 9 1 A.length fun j => AV.str (A.getD j []))] =
                    S2 ∧
                  Q Exit.normal
                    (St.mk
                      [AV.any, AV.any, AV.any, AV.any, AV.sl false 0 0 A.length Cp.no, AV.sl false 1 0 A.length Cp.no,
                        AV.int IntKind.i64 (IntKind.i64.wrap ((↑i : Int) + 1)), AV.int IntKind.i64 (↑i : Int), AV.any,
                        AV.any, AV.any, AV.any, AV.any, AV.any, AV.any, AV.any, AV.any, AV.any, AV.any, AV.any, AV.any,
                        AV.any, AV.any, AV.any, AV.any, AV.any, AV.any, AV.any, AV.any, AV.any, AV.any, AV.any, AV.any,
                        AV.any, AV.any, AV.any, AV.any, AV.any, AV.any, AV.any, AV.any, AV.int IntKind.i64 (↑i : Int),
                        AV.int IntKind.i64 (IntKind.i64.wrap ((↑i : Int) + 1)), AV.any, AV.any, AV.any, AV.any, AV.any,
                        AV.any, AV.any, AV.any, AV.any, AV.any, AV.any, AV.any, AV.any, AV.any, AV.any, AV.any, AV.any,
                        AV.any, AV.any, AV.any, AV.any, AV.any, AV.any]
                      [some (Row.gen 9 1 A.length fun j => AV.str (A.getD j [])),
                        some (Row.gen 9 1 A.length fun j => AV.str (A.getD j []))])
          else False
        else False
      else False
    else False
  else
    Q (Exit.exit 0)
      (St.mk
        [AV.any, AV.any, AV.any, AV.any, AV.sl false 0 0 A.length Cp.no, AV.sl false 1 0 A.length Cp.no,
          AV.int IntKind.i64 (↑i : Int), AV.any, AV.any, AV.any, AV.any, AV.any, AV.any, AV.any, AV.any, AV.any, AV.any,
          AV.any, AV.any, AV.any, AV.any, AV.any, AV.any, AV.any, AV.any, AV.any, AV.any, AV.any, AV.any, AV.any,
          AV.any, AV.any, AV.any, AV.any, AV.any, AV.any, AV.any, AV.int IntKind.i64 (↑i : Int),
          AV.sl false 0 0 A.length Cp.no, AV.int IntKind.i64 (↑A.length : Int), AV.bool false, AV.any, AV.any, AV.any,
          AV.any, AV.any, AV.any, AV.any, AV.any, AV.any, AV.any, AV.any, AV.any, AV.any, AV.any, AV.any, AV.any,
          AV.any, AV.any, AV.any, AV.any, AV.any, AV.any, AV.any, AV.any, AV.any]
        [some (Row.gen 9 1 A.length fun j => AV.str (A.getD j [])),
          some (Row.gen 9 1 A.length fun j => AV.str (A.getD j []))])) := by kernel_rfl
theorem loopi (R : Nat → RoRow) (A : List (List UInt8)) (st0 : St) (hA : A.length ≤ 1000000) (hnd : A.Nodup) (h0 : StV some (fami A 0) st0) (hr : st0.rows.length = 2) {Q : Exit → St → Prop} (h : Q .normal (fami A A.length)) :
    Safe Try.prog (env13 R).R (.block 0 (.loop lp13)) st0 Q := by
  refine (loop_block (I := {i : Nat // i ≤ A.length}) (fam := fun i => fami A i.1) (fun i => A.length - i.1)
    (X := fun e stE => e = .exit 0 ∧ stE = fami A A.length) (i0 := ⟨0, Nat.zero_le _⟩) (f := some) ?_ ?_ ?_ ?_).mono ?_
  · exact h0
  · intro c hc; rfl
  · intro k; rw [hr]; exact Nat.le_refl _
  · rintro ⟨i, hi⟩
    rw [hr]
    refine byRnd (env13k_ok R A i hA hnd) (f := 13) (fi := fi13) (by kernel_rfl) blk13 10000 (vri2 R A i (stk A i) _) ?_
    refine hcond (fun c1 => ?_) (fun c1 => ?_)
    · have c1 : i < A.length := by have := of_decide_eq_true c1; omega
      refine hcond (fun _ => ?_) (fun c2 => by exfalso; simp at c2; omega)
      refine hcond (fun _ => ?_) (fun c2 => by exfalso; have c3 : ¬ (0 + (i : Int).toNat < A.length) := of_decide_eq_false c2; simp at c3; omega)
      refine hcond (fun _ => ?_) (fun c2 => by exfalso; simp at c2; omega)
      refine hcond (fun _ => ?_) (fun c2 => by exfalso; have c3 : ¬ (0 + (i : Int).toNat < A.length) := of_decide_eq_false c2; simp at c3; omega)
      refine hcond (fun c2 => by simp at c2) (fun c2 => ?_)
      have hw : IntKind.i64.wrap ((i : Int) + 1) = ((i + 1 : Nat) : Int) := by
        rw [wrapI (by omega) (by omega)]; omega
      refine ⟨c1, ?_, ⟨i + 1, by omega⟩, by show A.length - (i + 1) < A.length - i; omega, fitAA ?_⟩
      · simp only [stk, beq_self_eq_true, Bool.not_true]
      simp only [ti13]
      repeat' (first | with_reducible exact VwL.nil | with_reducible refine VwL.cons ?_ ?_ | with_reducible exact Vw.anyI | with_reducible exact Vw.intI | with_reducible exact Vw.intE hw | exact Vw.gndI rfl | exact Vw.slI (by decide) rfl)
    · have c1 : ¬ i < A.length := by have := of_decide_eq_false c1; omega
      have hin : i = A.length := by omega
      subst hin
      refine ⟨fami A A.length, fitAA ?_, rfl, rfl⟩
      simp only [ti13]
      repeat' (first | with_reducible exact VwL.nil | with_reducible refine VwL.cons ?_ ?_ | with_reducible exact Vw.anyI | with_reducible exact Vw.intI |  exact Vw.gndI rfl | exact Vw.slI (by decide) rfl)
  · rintro e stE ⟨e0, rfl, rfl, rfl⟩
    exact h
/-! tail -/
theorem vc13 (R : Nat → RoRow) (A : List (List UInt8)) (s : List UInt8) (S0 : St) (Q : AV → Prop) : vcd ((env13 R).addLoop 13 0 (fun st k => A.length.le 1000000 ∧ st = S0 ∧ k .normal (fami A A.length))) 10000 13 fi13 [.str s] [] (fun v _ => Q v) =
    (bif decide ((↑s.length : Int) > 3000) then Q (AV.bool true)
  else
    s.length.le 900000 ∧
      s.length.le 900000 ∧
        (strip s).length.le 900000 ∧
          bif (↑(toks (words s)).length : Int) != (↑(toks (words (strip s))).length : Int) then Q (AV.bool false)
          else
            (strip s).length.le 900000 ∧
              bif !strip (strip s) == strip s then Q (AV.bool false)
              else
                bif decide ((↑(strip s).length : Int) > (↑s.length : Int)) then Q (AV.bool false)
                else
                  A.length.le 1000000 ∧
                    St.mk
                          [AV.str s, AV.tup [], AV.bool false, AV.str (strip s),
                            AV.sl false 0 0 (toks (words s)).length Cp.no,
                            AV.sl false 1 0 (toks (words (strip s))).length Cp.no, AV.int IntKind.i64 0, AV.tup [],
                            AV.bool true, AV.bool false, AV.str s, AV.int IntKind.i64 (↑s.length : Int), AV.bool false,
                            AV.str s, AV.str (strip s), AV.str s, AV.sl false 0 0 (toks (words s)).length Cp.no,
                            AV.str (strip s), AV.sl false 1 0 (toks (words (strip s))).length Cp.no,
                            AV.sl false 0 0 (toks (words s)).length Cp.no,
                            AV.int IntKind.i64 (↑(toks (words s)).length : Int),
                            AV.sl false 1 0 (toks (words (strip s))).length Cp.no,
                            AV.int IntKind.i64 (↑(toks (words (strip s))).length : Int),
                            AV.bool ((↑(toks (words s)).length : Int) != (↑(toks (words (strip s))).length : Int)),
                            AV.bool false, AV.str (strip s), AV.str (strip (strip s)), AV.str (strip s),
                            AV.bool !strip (strip s) == strip s, AV.bool !strip (strip s) == strip s, AV.bool false,
                            AV.str (strip s), AV.int IntKind.i64 (↑(strip s).length : Int), AV.str s,
                            AV.int IntKind.i64 (↑s.length : Int),
                            AV.bool (decide ((↑(strip s).length : Int) > (↑s.length : Int))), AV.bool false, AV.tup [],
                            AV.tup [], AV.tup [], AV.tup [], AV.tup [], AV.tup [], AV.tup [], AV.tup [], AV.tup [],
                            AV.tup [], AV.tup [], AV.tup [], AV.tup [], AV.tup [], AV.tup [], AV.tup [], AV.tup [],
                            AV.tup [], AV.tup [], AV.tup [], AV.tup [], AV.tup [], AV.tup [], AV.tup [], AV.tup [],
                            AV.tup [], AV.tup [], AV.tup [], AV.tup []]
                          [some (Row.gen 9 1 (toks (words s)).length fun j => AV.str ((toks (words s)).getD j [])),
                            some
                              (Row.gen 9 1 (toks (words (strip s))).length fun j =>
                                AV.str ((toks (words (strip s))).getD j []))] =
                        S0 ∧
                      Q (AV.bool true)) := by kernel_rfl
def st13 (s : List UInt8) : St := St.mk
                          [AV.str s, AV.tup [], AV.bool false, AV.str (strip s),
                            AV.sl false 0 0 (toks (words s)).length Cp.no,
                            AV.sl false 1 0 (toks (words (strip s))).length Cp.no, AV.int IntKind.i64 0, AV.tup [],
                            AV.bool true, AV.bool false, AV.str s, AV.int IntKind.i64 ((s.length : Nat) : Int), AV.bool false,
                            AV.str s, AV.str (strip s), AV.str s, AV.sl false 0 0 (toks (words s)).length Cp.no,
                            AV.str (strip s), AV.sl false 1 0 (toks (words (strip s))).length Cp.no,
                            AV.sl false 0 0 (toks (words s)).length Cp.no,
                            AV.int IntKind.i64 (((toks (words s)).length : Nat) : Int),
                            AV.sl false 1 0 (toks (words (strip s))).length Cp.no,
                            AV.int IntKind.i64 (((toks (words (strip s))).length : Nat) : Int),
                            AV.bool ((((toks (words s)).length : Nat) : Int) != (((toks (words (strip s))).length : Nat) : Int)),
                            AV.bool false, AV.str (strip s), AV.str (strip (strip s)), AV.str (strip s),
                            AV.bool !strip (strip s) == strip s, AV.bool !strip (strip s) == strip s, AV.bool false,
                            AV.str (strip s), AV.int IntKind.i64 (((strip s).length : Nat) : Int), AV.str s,
                            AV.int IntKind.i64 ((s.length : Nat) : Int),
                            AV.bool (decide ((((strip s).length : Nat) : Int) > ((s.length : Nat) : Int))), AV.bool false, AV.tup [],
                            AV.tup [], AV.tup [], AV.tup [], AV.tup [], AV.tup [], AV.tup [], AV.tup [], AV.tup [],
                            AV.tup [], AV.tup [], AV.tup [], AV.tup [], AV.tup [], AV.tup [], AV.tup [], AV.tup [],
                            AV.tup [], AV.tup [], AV.tup [], AV.tup [], AV.tup [], AV.tup [], AV.tup [], AV.tup [],
                            AV.tup [], AV.tup [], AV.tup [], AV.tup []]
                          [some (Row.gen 9 1 (toks (words s)).length fun j => AV.str ((toks (words s)).getD j [])),
                            some
                              (Row.gen 9 1 (toks (words (strip s))).length fun j =>
                                AV.str ((toks (words (strip s))).getD j []))]
theorem count13 (s : List UInt8) : (toks (words s)).length ≤ s.length + 1 := Nat.le_trans (toks_length _) (words_count s)
theorem st13_fam (s : List UInt8) : StV some (fami (toks (words s)) 0) (st13 s) ∧ (st13 s).rows.length = 2 := by
  unfold st13
  rw [strip_words]
  refine ⟨⟨viewAA (toks (words s)), ?_⟩, rfl⟩
  show VwL some 2 _ _
  simp only [fami, ti13]
  repeat' (first | with_reducible exact VwL.nil | with_reducible refine VwL.cons ?_ ?_ | with_reducible exact Vw.anyI | with_reducible exact Vw.intI | exact Vw.gndI rfl | exact Vw.slI (by decide) rfl)
theorem safe13 (R : Nat → RoRow) (s : List UInt8) : SafeCall Try.prog R 13 [.str s] [] fun v _ => v = .bool true := by
  refine byVcd' (E := (env13 R).addLoop 13 0 (fun st k => (toks (words s)).length.le 1000000 ∧ st = st13 s ∧ k .normal (fami (toks (words s)) (toks (words s)).length))) ?_ (f := 13) (fi := fi13) (by kernel_rfl) 10000
      (vc13 R (toks (words s)) s (st13 s) (fun v => v = .bool true)) ?_
  · refine (env13_ok R).addLoop (f := 13) (fi := fi13) (by kernel_rfl) (body := .loop lp13) blk13 ?_
    rintro st k ⟨hA, rfl, hk⟩
    exact loopi R (toks (words s)) (st13 s) hA (toks_nodup _) (st13_fam s).1 (st13_fam s).2 hk
  · have hl := strip_length s
    have hc := count13 s
    refine hcond (fun _ => rfl) (fun c1 => ?_)
    have c1 : s.length ≤ 3000 := by have := of_decide_eq_false c1; omega
    refine ⟨by show s.length ≤ _; omega, by show s.length ≤ _; omega, by show (strip s).length ≤ _; omega, ?_⟩
    refine hcond (fun c2 => by rw [strip_words] at c2; simp at c2) (fun _ => ?_)
    refine ⟨by show (strip s).length ≤ _; omega, ?_⟩
    refine hcond (fun c2 => by rw [strip_strip] at c2; simp at c2) (fun _ => ?_)
    refine hcond (fun c2 => by exfalso; have := of_decide_eq_true c2; omega) (fun _ => ?_)
    exact ⟨by show (toks (words s)).length ≤ _; omega, rfl, rfl⟩
theorem queryStripped_walk (s : ByteArray) (w : World) : Calls Try.prog 13 #[.string s] w fun e w' => e = .returned (.bool true) ∧ Go.RowKit.Below w.heap.size w w' :=
  (safe13 roNone s.data.toList).law mapNone _ w (by simp [DenL, Den]) (roNone_ok w)
end Go.Dc.Kd
