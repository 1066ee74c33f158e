/- The tokens of a text, and it stripped, as the reference has them: the walk. -/
import Derived.Test.YtachjlpdnehgiaaRefT
set_option linter.unusedVariables false
set_option linter.unusedSimpArgs false
namespace Go.Dc.Kd
open Go.Proofs Go.RowKit Go.Shelf
set_option maxRecDepth 100000
noncomputable abbrev env12 (R : Nat → RoRow) : Env Prop := (((((base R).addCall 43 spec43).addCall 45 spec45).addCall 31 isTrue).addCall 44 spec43).addCall 46 spec45
theorem env12_ok (R : Nat → RoRow) : EnvOK Try.prog (env12 R) id :=
  ((((base_ok R).addCall (f := 43) (fi := fi43) (by kernel_rfl) (spec43_ok R)).addCall (f := 45) (fi := fi45) (by kernel_rfl) (spec45_ok R)).addCall (f := 31) (fi := fi31) (by kernel_rfl) (isTrue_ok (safe31 R))).addCall (f := 44) (fi := fi44) (by kernel_rfl) (spec44_ok R) |>.addCall (f := 46) (fi := fi46) (by kernel_rfl) (spec46_ok R)
noncomputable def lp12 : Code := loopB fi12 0
theorem blk12 : blockOf fi12 0 = some (.loop lp12) := by kernel_rfl
def tm12 (s : List UInt8) (m : Nat) (i : Int) : List AV := [.str s, .any, .any, .sl false 0 0 m .no, .sl false 1 0 m .no, .int .i64 i, .any, .any, .any, .any, .any, .any, .any, .any, .any, .any, .any, .any, .any, .any, .any, .any, .any, .any, .any, .any, .any, .any, .any, .any, .any, .any, .any, .any, .any, .any, .any, .any, .any, .any]
def fam12 (s : List UInt8) (A : List (List UInt8)) (i : Nat) : St := ⟨tm12 s A.length (i : Nat), rw13 A⟩
/-! cut -/
theorem vr12 (R : Nat → RoRow) (s : List UInt8) (A : List (List UInt8)) (i : Nat) (Q : Exit → St → Prop) : rnd (env12 R) 10000 12 lp12 (fam12 s A i) Q =
    (bif decide ((↑i : Int) < (↑A.length : Int)) then
    bif true && decide ((↑i : Int) < (↑A.length : Int)) then
      bif decide (0 + (↑i : Int).toNat < A.length) then
        bif true && decide ((↑i : Int) < (↑A.length : Int)) then
          bif decide (0 + (↑i : Int).toNat < A.length) then
            bif !A.getD (0 + (↑i : Int).toNat) [] == A.getD (0 + (↑i : Int).toNat) [] then
              Q Exit.ret
                (St.mk
                  [AV.str s, AV.any, AV.bool false, AV.sl false 0 0 A.length Cp.no, AV.sl false 1 0 A.length Cp.no,
                    AV.int IntKind.i64 (↑i : Int), AV.any, AV.any, AV.any, AV.any, AV.any, AV.any, AV.any, AV.any,
                    AV.any, AV.any, AV.any, AV.any, AV.any, AV.any, AV.int IntKind.i64 (↑i : Int),
                    AV.sl false 1 0 A.length Cp.no, AV.int IntKind.i64 (↑A.length : Int), AV.bool true, AV.any, AV.any,
                    AV.sl false 0 0 A.length Cp.no, AV.int IntKind.i64 (↑i : Int),
                    AV.ptr false 0 (0 + (↑i : Int).toNat) 0, AV.str (A.getD (0 + (↑i : Int).toNat) []),
                    AV.sl false 1 0 A.length Cp.no, AV.int IntKind.i64 (↑i : Int),
                    AV.ptr false 1 (0 + (↑i : Int).toNat) 0, AV.str (A.getD (0 + (↑i : Int).toNat) []), AV.bool true,
                    AV.any, AV.any, AV.any, AV.any, AV.any]
                  [some (Row.gen 9 1 A.length fun j => AV.str (A.getD j [])),
                    some (Row.gen 9 1 A.length fun j => AV.str (A.getD j []))])
            else
              Q Exit.normal
                (St.mk
                  [AV.str s, AV.any, AV.any, AV.sl false 0 0 A.length Cp.no, AV.sl false 1 0 A.length Cp.no,
                    AV.int IntKind.i64 (IntKind.i64.wrap ((↑i : Int) + 1)), AV.any, AV.any, AV.any, AV.any, AV.any,
                    AV.any, AV.any, AV.any, AV.any, AV.any, AV.any, AV.any, AV.any, AV.any,
                    AV.int IntKind.i64 (↑i : Int), AV.sl false 1 0 A.length Cp.no, AV.int IntKind.i64 (↑A.length : Int),
                    AV.bool true, AV.int IntKind.i64 (↑i : Int), AV.int IntKind.i64 (IntKind.i64.wrap ((↑i : Int) + 1)),
                    AV.sl false 0 0 A.length Cp.no, AV.int IntKind.i64 (↑i : Int),
                    AV.ptr false 0 (0 + (↑i : Int).toNat) 0, AV.str (A.getD (0 + (↑i : Int).toNat) []),
                    AV.sl false 1 0 A.length Cp.no, AV.int IntKind.i64 (↑i : Int),
                    AV.ptr false 1 (0 + (↑i : Int).toNat) 0, AV.str (A.getD (0 + (↑i : Int).toNat) []), AV.bool false,
                    AV.any, AV.any, AV.any, AV.any, AV.any]
                  [some (Row.gen 9 1 A.length fun j => AV.str (A.getD j [])),
                    some (Row.gen 9 1 A.length fun j => AV.str (A.getD j []))])
          else False
        else False
      else False
    else False
  else
    Q (Exit.exit 0)
      (St.mk
        [AV.str s, AV.any, AV.any, AV.sl false 0 0 A.length Cp.no, AV.sl false 1 0 A.length Cp.no,
          AV.int IntKind.i64 (↑i : Int), AV.any, AV.any, AV.any, AV.any, AV.any, AV.any, AV.any, AV.any, AV.any, AV.any,
          AV.any, AV.any, AV.any, AV.any, AV.int IntKind.i64 (↑i : Int), AV.sl false 1 0 A.length Cp.no,
          AV.int IntKind.i64 (↑A.length : Int), AV.bool false, AV.any, AV.any, AV.any, AV.any, AV.any, AV.any, AV.any,
          AV.any, AV.any, AV.any, AV.any, AV.any, AV.any, AV.any, AV.any, AV.any]
        [some (Row.gen 9 1 A.length fun j => AV.str (A.getD j [])),
          some (Row.gen 9 1 A.length fun j => AV.str (A.getD j []))])) := by kernel_rfl
theorem vc12 (R : Nat → RoRow) (A : List (List UInt8)) (s : List UInt8) (S0 : St) (Q : AV → Prop) : vcd ((env12 R).addLoop 12 0 (fun st k => A.length.le 1000000 ∧ st = S0 ∧ k .normal (fam12 s A A.length))) 10000 12 fi12 [.str s] [] (fun v _ => Q v) =
    (bif decide ((↑s.length : Int) > 3000) then Q (AV.bool true)
  else
    s.length.le 900000 ∧
      s.length.le 900000 ∧
        bif (↑(toks (words s)).length : Int) != (↑(toks (words s)).length : Int) then Q (AV.bool false)
        else
          A.length.le 1000000 ∧
            St.mk
                  [AV.str s, AV.tup [], AV.bool false, AV.sl false 0 0 (toks (words s)).length Cp.no,
                    AV.sl false 1 0 (toks (words s)).length Cp.no, AV.int IntKind.i64 0, AV.bool true, AV.bool false,
                    AV.str s, AV.int IntKind.i64 (↑s.length : Int), AV.bool false, AV.str s,
                    AV.sl false 0 0 (toks (words s)).length Cp.no, AV.str s,
                    AV.sl false 1 0 (toks (words s)).length Cp.no, AV.sl false 0 0 (toks (words s)).length Cp.no,
                    AV.int IntKind.i64 (↑(toks (words s)).length : Int), AV.sl false 1 0 (toks (words s)).length Cp.no,
                    AV.int IntKind.i64 (↑(toks (words s)).length : Int), AV.bool false, AV.tup [], AV.tup [], AV.tup [],
                    AV.tup [], AV.tup [], AV.tup [], AV.tup [], AV.tup [], AV.tup [], AV.tup [], AV.tup [], AV.tup [],
                    AV.tup [], AV.tup [], AV.tup [], AV.tup [], AV.tup [], AV.tup [], AV.tup [], AV.tup []]
                  [some (Row.gen 9 1 (toks (words s)).length fun j => AV.str ((toks (words s)).getD j [])),
                    some (Row.gen 9 1 (toks (words s)).length fun j => AV.str ((toks (words s)).getD j []))] =
                S0 ∧
              s.length.le 900000 ∧ s.length.le 900000 ∧ Q (AV.bool (strip s == strip s))) := by kernel_rfl
def st12 (s : List UInt8) : St := St.mk
                  [AV.str s, AV.tup [], AV.bool false, AV.sl false 0 0 (toks (words s)).length Cp.no,
                    AV.sl false 1 0 (toks (words s)).length Cp.no, AV.int IntKind.i64 0, AV.bool true, AV.bool false,
                    AV.str s, AV.int IntKind.i64 ((s.length : Nat) : Int), AV.bool false, AV.str s,
                    AV.sl false 0 0 (toks (words s)).length Cp.no, AV.str s,
                    AV.sl false 1 0 (toks (words s)).length Cp.no, AV.sl false 0 0 (toks (words s)).length Cp.no,
                    AV.int IntKind.i64 (((toks (words s)).length : Nat) : Int), AV.sl false 1 0 (toks (words s)).length Cp.no,
                    AV.int IntKind.i64 (((toks (words s)).length : Nat) : Int), AV.bool false, AV.tup [], AV.tup [], AV.tup [],
                    AV.tup [], AV.tup [], AV.tup [], AV.tup [], AV.tup [], AV.tup [], AV.tup [], AV.tup [], AV.tup [],
                    AV.tup [], AV.tup [], AV.tup [], AV.tup [], AV.tup [], AV.tup [], AV.tup [], AV.tup []]
                  [some (Row.gen 9 1 (toks (words s)).length fun j => AV.str ((toks (words s)).getD j [])),
                    some (Row.gen 9 1 (toks (words s)).length fun j => AV.str ((toks (words s)).getD j []))]
theorem st12_fam (s : List UInt8) : StV some (fam12 s (toks (words s)) 0) (st12 s) ∧ (st12 s).rows.length = 2 := by
  unfold st12
  refine ⟨⟨viewAA (toks (words s)), ?_⟩, rfl⟩
  show VwL some 2 _ _
  simp only [fam12, tm12]
  repeat' (first | with_reducible exact VwL.nil | with_reducible refine VwL.cons ?_ ?_ | with_reducible exact Vw.anyI | with_reducible exact Vw.strI | with_reducible exact Vw.intI |  exact Vw.gndI rfl | exact Vw.slI (by decide) rfl)
theorem loop12 (R : Nat → RoRow) (s : List UInt8) (A : List (List UInt8)) (st0 : St) (hA : A.length ≤ 1000000) (h0 : StV some (fam12 s A 0) st0) (hr : st0.rows.length = 2) {Q : Exit → St → Prop} (h : Q .normal (fam12 s A A.length)) :
    Safe Try.prog (env12 R).R (.block 0 (.loop lp12)) st0 Q := by
  refine (loop_block (I := {i : Nat // i ≤ A.length}) (fam := fun i => fam12 s A i.1) (fun i => A.length - i.1)
    (X := fun e stE => e = .exit 0 ∧ stE = fam12 s A A.length) (i0 := ⟨0, Nat.zero_le _⟩) (f := some) ?_ ?_ ?_ ?_).mono ?_
  · exact h0
  · intro c hc; rfl
  · intro k; rw [hr]; exact Nat.le_refl _
  · rintro ⟨i, hi⟩
    rw [hr]
    refine byRnd (env12_ok R) (f := 12) (fi := fi12) (by kernel_rfl) blk12 10000 (vr12 R s A i _) ?_
    refine hcond (fun c1 => ?_) (fun c1 => ?_)
    · have c1 : i < A.length := by have := of_decide_eq_true c1; omega
      refine hcond (fun _ => ?_) (fun c2 => by exfalso; simp at c2; omega)
      refine hcond (fun _ => ?_) (fun c2 => by exfalso; have c3 : ¬ (0 + (i : Int).toNat < A.length) := of_decide_eq_false c2; simp at c3; omega)
      refine hcond (fun _ => ?_) (fun c2 => by exfalso; simp at c2; omega)
      refine hcond (fun _ => ?_) (fun c2 => by exfalso; have c3 : ¬ (0 + (i : Int).toNat < A.length) := of_decide_eq_false c2; simp at c3; omega)
      refine hcond (fun c2 => by simp at c2) (fun c2 => ?_)
      have hw : IntKind.i64.wrap ((i : Int) + 1) = ((i + 1 : Nat) : Int) := by
        rw [wrapI (by omega) (by omega)]; omega
      refine ⟨⟨i + 1, by omega⟩, by show A.length - (i + 1) < A.length - i; omega, fitAA ?_⟩
      simp only [tm12]
      repeat' (first | with_reducible exact VwL.nil | with_reducible refine VwL.cons ?_ ?_ | with_reducible exact Vw.anyI | with_reducible exact Vw.strI | with_reducible exact Vw.intI | with_reducible exact Vw.intE hw | exact Vw.gndI rfl | exact Vw.slI (by decide) rfl)
    · have c1 : ¬ i < A.length := by have := of_decide_eq_false c1; omega
      have hin : i = A.length := by omega
      subst hin
      refine ⟨fam12 s A A.length, fitAA ?_, rfl, rfl⟩
      simp only [tm12]
      repeat' (first | with_reducible exact VwL.nil | with_reducible refine VwL.cons ?_ ?_ | with_reducible exact Vw.anyI | with_reducible exact Vw.strI | with_reducible exact Vw.intI |  exact Vw.gndI rfl | exact Vw.slI (by decide) rfl)
  · rintro e stE ⟨e0, rfl, rfl, rfl⟩
    exact h
theorem safe12 (R : Nat → RoRow) (s : List UInt8) : SafeCall Try.prog R 12 [.str s] [] fun v _ => v = .bool true := by
  refine byVcd' (E := (env12 R).addLoop 12 0 (fun st k => (toks (words s)).length.le 1000000 ∧ st = st12 s ∧ k .normal (fam12 s (toks (words s)) (toks (words s)).length))) ?_ (f := 12) (fi := fi12) (by kernel_rfl) 10000
      (vc12 R (toks (words s)) s (st12 s) (fun v => v = .bool true)) ?_
  · refine (env12_ok R).addLoop (f := 12) (fi := fi12) (by kernel_rfl) (body := .loop lp12) blk12 ?_
    rintro st k ⟨hA, rfl, hk⟩
    exact loop12 R s (toks (words s)) (st12 s) hA (st12_fam s).1 (st12_fam s).2 hk
  · have hc := count13 s
    refine hcond (fun _ => rfl) (fun c1 => ?_)
    have c1 : s.length ≤ 3000 := by have := of_decide_eq_false c1; omega
    have hs : s.length.le 900000 := by show s.length ≤ _; omega
    refine ⟨hs, hs, ?_⟩
    refine hcond (fun c2 => by simp at c2) (fun _ => ?_)
    refine ⟨by show (toks (words s)).length ≤ _; omega, rfl, hs, hs, ?_⟩
    simp
theorem queryWords_walk (s : ByteArray) (w : World) : Calls Try.prog 12 #[.string s] w fun e w' => e = .returned (.bool true) ∧ Go.RowKit.Below w.heap.size w w' :=
  (safe12 roNone s.data.toList).law mapNone _ w (by simp [DenL, Den]) (roNone_ok w)
end Go.Dc.Kd
