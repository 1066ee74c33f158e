/- What is in the scope of tables, lists or buttons hangs on what is open behind it: the walk. -/
import Derived.Test.YtlhplhncdljicaaIn
import Derived.Test.YtlhplhncdljicaaStackNil
set_option linter.unusedVariables false
set_option linter.unusedSimpArgs false
namespace Go.Dc.Kb
open Go.Proofs Go.RowKit
set_option maxRecDepth 100000
noncomputable def loopB (fi : FI) (id : Nat) : Code := match blockOf fi id with | some (.loop b) => b | _ => .skip
noncomputable def lp3 : Code := loopB fi3 0
theorem blk3 : blockOf fi3 0 = some (.loop lp3) := by kernel_rfl
abbrev roNames (ty n : Nat) (S : Nat → List UInt8) : Nat → RoRow := roL ty 1 n fun j => .str (S j)
def tmF (n : Nat) (nm : List UInt8) (k : Int) : List AV := [.sl true 0 0 n .no, .str nm, .any, .any, .bool false, .ptr false 0 0 0, .int .i64 k] ++ [
  .any, .any, .any, .any, .any, .any, .any, .any, .any, .any, .any, .any, .any, .any, .any, .any, .any, .any, .any, .any, .any, .any, .any, .any, .any, .any, .any, .any,
  .any, .any, .any, .any, .any, .any, .any, .any, .any, .any, .any, .any, .any, .any, .any, .any, .any, .any, .any, .any, .any, .any, .any, .any, .any, .any, .any, .any]
def rwF (S : Nat → List UInt8) (k : Nat) : Rows := [some (.lst 26 1 [.agg [.sl false 1 0 k .no]]), some (.gen 29 2 k fun j => itm (j : Nat) (S j))]
def fam3 (n : Nat) (nm : List UInt8) (S : Nat → List UInt8) (k : Nat) : St := ⟨tmF n nm (k : Nat), rwF S k⟩
noncomputable abbrev envA (R : Nat → RoRow) : Env Prop := ((base R).addCall 12 spec12).addCall 10 isTrue
theorem envA_ok (R : Nat → RoRow) : EnvOK Try.prog (envA R) id :=
  ((base_ok R).addCall (f := 12) (fi := fi12) (by kernel_rfl) (spec12_ok R)).addCall (f := 10) (fi := fi10) (by kernel_rfl) (isTrue_ok (safe10 R))
theorem vr3 (ty n k : Nat) (nm : List UInt8) (S : Nat → List UInt8) (Q : Exit → St → Prop) : rnd (envA (roNames ty n S)) 10000 3 lp3 (fam3 n nm S k) Q =
    (bif decide ((↑k : Int) < (↑n : Int)) then
    bif decide ((↑k : Int) < 500) then
      bif true && decide ((↑k : Int) < (↑n : Int)) then
        bif decide (0 + (↑k : Int).toNat < ((envA (roNames ty n S)).R 0).n) then
          AV.sl false 1 0 k Cp.no = AV.sl false 1 0 k Cp.no ∧
            bif
                decide (0 + k ≤ k) &&
                  (true &&
                    (true &&
                      decide
                        (((Src.gen k fun j => itm (↑(0 + j) : Int) (S (0 + j))).len + 1) * 24 ≤ 140737488355328))) then
              Q Exit.normal
                (St.mk
                  [AV.sl true 0 0 n Cp.no, AV.str nm, AV.any, AV.any, AV.bool false, AV.ptr false 0 0 0,
                    AV.int IntKind.i64 (IntKind.i64.wrap ((↑k : Int) + 1)), AV.any, AV.any, AV.any, AV.any, AV.any,
                    AV.any, AV.int IntKind.i64 (↑k : Int), AV.sl true 0 0 n Cp.no, AV.int IntKind.i64 (↑n : Int),
                    AV.bool (decide ((↑k : Int) < (↑n : Int))), AV.bool true, AV.int IntKind.i64 (↑k : Int),
                    AV.bool (decide ((↑k : Int) < 500)), AV.bool true, AV.int IntKind.i64 (↑k : Int),
                    AV.int IntKind.i64 (IntKind.i64.wrap ((↑k : Int) + 1)), AV.int IntKind.i64 (↑k : Int),
                    AV.sl true 0 0 n Cp.no, AV.int IntKind.i64 (↑k : Int), AV.ptr true 0 (0 + (↑k : Int).toNat) 0,
                    AV.str (S (0 + (↑k : Int).toNat)),
                    AV.agg [AV.int IntKind.i64 (↑k : Int), AV.str (S (0 + (↑k : Int).toNat))], AV.tup [], AV.any,
                    AV.any, AV.any, AV.any, AV.any, AV.any, AV.any, AV.any, AV.any, AV.any, AV.any, AV.any, AV.any,
                    AV.any, AV.any, AV.any, AV.any, AV.any, AV.any, AV.any, AV.any, AV.any, AV.any, AV.any, AV.any,
                    AV.any, AV.any, AV.any, AV.any, AV.any, AV.any, AV.any, AV.any]
                  [some
                      (Row.lst 26 1
                        [AV.agg
                            [AV.sl false 4 0 ((Src.gen k fun j => itm (↑(0 + j) : Int) (S (0 + j))).len + 1) Cp.no]]),
                    none,
                    some (Row.lst 29 2 [AV.agg [AV.int IntKind.i64 (↑k : Int), AV.str (S (0 + (↑k : Int).toNat))]]),
                    some (Row.lst 29 2 [AV.agg [AV.int IntKind.i64 (↑k : Int), AV.str (S (0 + (↑k : Int).toNat))]]),
                    some
                      (Row.gen 29 2 ((Src.gen k fun j => itm (↑(0 + j) : Int) (S (0 + j))).len + 1) fun j =>
                        bif j.blt (Src.gen k fun j => itm (↑(0 + j) : Int) (S (0 + j))).len then
                          AV.agg [AV.int IntKind.i64 (↑(0 + j) : Int), AV.str (S (0 + j))]
                        else
                          (Src.lst [AV.agg [AV.int IntKind.i64 (↑k : Int), AV.str (S (0 + (↑k : Int).toNat))]]).at_
                            (j - (Src.gen k fun j => itm (↑(0 + j) : Int) (S (0 + j))).len))])
            else False
        else False
      else False
    else
      Q (Exit.exit 0)
        (St.mk
          [AV.sl true 0 0 n Cp.no, AV.str nm, AV.any, AV.any, AV.bool false, AV.ptr false 0 0 0,
            AV.int IntKind.i64 (↑k : Int), AV.any, AV.any, AV.any, AV.any, AV.any, AV.any,
            AV.int IntKind.i64 (↑k : Int), AV.sl true 0 0 n Cp.no, AV.int IntKind.i64 (↑n : Int),
            AV.bool (decide ((↑k : Int) < (↑n : Int))), AV.bool true, AV.int IntKind.i64 (↑k : Int),
            AV.bool (decide ((↑k : Int) < 500)), AV.bool false, AV.any, AV.any, AV.any, AV.any, AV.any, AV.any, AV.any,
            AV.any, AV.any, AV.any, AV.any, AV.any, AV.any, AV.any, AV.any, AV.any, AV.any, AV.any, AV.any, AV.any,
            AV.any, AV.any, AV.any, AV.any, AV.any, AV.any, AV.any, AV.any, AV.any, AV.any, AV.any, AV.any, AV.any,
            AV.any, AV.any, AV.any, AV.any, AV.any, AV.any, AV.any, AV.any, AV.any]
          [some (Row.lst 26 1 [AV.agg [AV.sl false 1 0 k Cp.no]]), some (Row.gen 29 2 k fun j => itm (↑j : Int) (S j))])
  else
    Q (Exit.exit 0)
      (St.mk
        [AV.sl true 0 0 n Cp.no, AV.str nm, AV.any, AV.any, AV.bool false, AV.ptr false 0 0 0,
          AV.int IntKind.i64 (↑k : Int), AV.any, AV.any, AV.any, AV.any, AV.any, AV.any, AV.int IntKind.i64 (↑k : Int),
          AV.sl true 0 0 n Cp.no, AV.int IntKind.i64 (↑n : Int), AV.bool (decide ((↑k : Int) < (↑n : Int))),
          AV.bool false, AV.tup [], AV.tup [], AV.bool false, AV.any, AV.any, AV.any, AV.any, AV.any, AV.any, AV.any,
          AV.any, AV.any, AV.any, AV.any, AV.any, AV.any, AV.any, AV.any, AV.any, AV.any, AV.any, AV.any, AV.any,
          AV.any, AV.any, AV.any, AV.any, AV.any, AV.any, AV.any, AV.any, AV.any, AV.any, AV.any, AV.any, AV.any,
          AV.any, AV.any, AV.any, AV.any, AV.any, AV.any, AV.any, AV.any, AV.any]
        [some (Row.lst 26 1 [AV.agg [AV.sl false 1 0 k Cp.no]]), some (Row.gen 29 2 k fun j => itm (↑j : Int) (S j))])) := by kernel_rfl
def st3 (n : Nat) (nm : List UInt8) : St := St.mk [AV.sl true 0 0 n Cp.no, AV.str nm, AV.tup [], AV.tup [], AV.bool false, AV.ptr false 0 0 0,
          AV.int IntKind.i64 0, AV.tup [], AV.tup [], AV.tup [], AV.tup [], AV.bool true, AV.bool false, AV.tup [],
          AV.tup [], AV.tup [], AV.tup [], AV.tup [], AV.tup [], AV.tup [], AV.tup [], AV.tup [], AV.tup [], AV.tup [],
          AV.tup [], AV.tup [], AV.tup [], AV.tup [], AV.tup [], AV.tup [], AV.tup [], AV.tup [], AV.tup [], AV.tup [],
          AV.tup [], AV.tup [], AV.tup [], AV.tup [], AV.tup [], AV.tup [], AV.tup [], AV.tup [], AV.tup [], AV.tup [],
          AV.tup [], AV.tup [], AV.tup [], AV.tup [], AV.tup [], AV.tup [], AV.tup [], AV.tup [], AV.tup [], AV.tup [],
          AV.tup [], AV.tup [], AV.tup [], AV.tup [], AV.tup [], AV.tup [], AV.tup [], AV.tup [], AV.tup []]
        [some (Row.lst 26 1 [AV.agg [AV.nils]])]
def CK (S : Nat → List UInt8) (m : Nat) : Prop := ∀ j : Nat, j < m → itm (j : Nat) (S j) = itm (nodeOf (itm (j : Nat) (S j))) (nameOf (itm (j : Nat) (S j)))
def IB (S : Nat → List UInt8) (nm : List UInt8) (m : Nat) (sc : Int) : Bool := inB sc nm (fun j => nameOf (itm (j : Nat) (S j))) m
noncomputable abbrev envL (ty n m : Nat) (nm : List UInt8) (S : Nat → List UInt8) (S0 : St) : Env Prop := (envA (roNames ty n S)).addLoop 3 0 (fun st k => st = S0 ∧ k .normal (fam3 n nm S m))
theorem vc3 (ty n m : Nat) (nm : List UInt8) (S : Nat → List UInt8) (S0 : St) (Q : AV → Prop) : vcd ((envA (roNames ty n S)).addLoop 3 0 (fun st k => st = S0 ∧ k .normal (fam3 n nm S m))) 10000 3 fi3 [.sl true 0 0 n .no, .str nm] [] (fun v _ => Q v) =
    (St.mk
        [AV.sl true 0 0 n Cp.no, AV.str nm, AV.tup [], AV.tup [], AV.bool false, AV.ptr false 0 0 0,
          AV.int IntKind.i64 0, AV.tup [], AV.tup [], AV.tup [], AV.tup [], AV.bool true, AV.bool false, AV.tup [],
          AV.tup [], AV.tup [], AV.tup [], AV.tup [], AV.tup [], AV.tup [], AV.tup [], AV.tup [], AV.tup [], AV.tup [],
          AV.tup [], AV.tup [], AV.tup [], AV.tup [], AV.tup [], AV.tup [], AV.tup [], AV.tup [], AV.tup [], AV.tup [],
          AV.tup [], AV.tup [], AV.tup [], AV.tup [], AV.tup [], AV.tup [], AV.tup [], AV.tup [], AV.tup [], AV.tup [],
          AV.tup [], AV.tup [], AV.tup [], AV.tup [], AV.tup [], AV.tup [], AV.tup [], AV.tup [], AV.tup [], AV.tup [],
          AV.tup [], AV.tup [], AV.tup [], AV.tup [], AV.tup [], AV.tup [], AV.tup [], AV.tup [], AV.tup []]
        [some (Row.lst 26 1 [AV.agg [AV.nils]])] =
      S0 ∧
    m = m ∧
      CK S m ∧
        m = m ∧
          CK S m ∧
            m = m ∧
              CK S m ∧
                m = m ∧
                  CK S m ∧
                    bif !IB S nm m 1 then
                      bif !IB S nm m 2 then
                        bif !IB S nm m 0 then
                          m = m ∧
                            CK S m ∧
                              Q
                                (AV.bool
                                  (IB S nm m 99 ==
                                    IB S nm m 0))
                        else
                          bif IB S nm m 3 then
                            m = m ∧
                              CK S m ∧
                                Q
                                  (AV.bool
                                    (IB S nm m 99 ==
                                      IB S nm m 0))
                          else Q (AV.bool false)
                      else
                        bif IB S nm m 0 then
                          bif !IB S nm m 0 then
                            m = m ∧
                              CK S m ∧
                                Q
                                  (AV.bool
                                    (IB S nm m 99 ==
                                      IB S nm m 0))
                          else
                            bif IB S nm m 3 then
                              m = m ∧
                                CK S m ∧
                                  Q
                                    (AV.bool
                                      (IB S nm m 99 ==
                                        IB S nm m 0))
                            else Q (AV.bool false)
                        else Q (AV.bool false)
                    else
                      bif IB S nm m 0 then
                        bif !IB S nm m 2 then
                          bif !IB S nm m 0 then
                            m = m ∧
                              CK S m ∧
                                Q
                                  (AV.bool
                                    (IB S nm m 99 ==
                                      IB S nm m 0))
                          else
                            bif IB S nm m 3 then
                              m = m ∧
                                CK S m ∧
                                  Q
                                    (AV.bool
                                      (IB S nm m 99 ==
                                        IB S nm m 0))
                            else Q (AV.bool false)
                        else
                          bif IB S nm m 0 then
                            bif !IB S nm m 0 then
                              m = m ∧
                                CK S m ∧
                                  Q
                                    (AV.bool
                                      (IB S nm m 99 ==
                                        IB S nm m 0))
                            else
                              bif IB S nm m 3 then
                                m = m ∧
                                  CK S m ∧
                                    Q
                                      (AV.bool
                                        (IB S nm m 99 ==
                                          IB S nm m 0))
                              else Q (AV.bool false)
                          else Q (AV.bool false)
                      else Q (AV.bool false)) := by kernel_rfl
def vw3 : Nat → Option Nat := fun c => match c with | 0 => some 0 | 1 => some 4 | _ + 2 => none
def vw3a : Nat → Option Nat := fun c => match c with | 0 => some 0 | _ + 1 => none
def vw3b : Nat → Option Nat := fun c => match c with | 0 => some 0 | 1 => some 1 | _ + 2 => none
theorem inj2 {a : Nat} (h0 : a ≠ 0) (c c' b : Nat) (f : Nat → Option Nat) (hf : f = fun c => match c with | 0 => some 0 | 1 => some a | _ + 2 => none) (h : f c = some b) (h' : f c' = some b) : c = c' := by
  subst hf
  match c, c' with
  | 0, 0 => rfl
  | 1, 1 => rfl
  | 0, 1 => simp at h h'; omega
  | 1, 0 => simp at h h'; omega
  | _ + 2, _ => simp at h
  | 0, _ + 2 => simp at h'
  | 1, _ + 2 => simp at h'
theorem cap24 {k : Nat} (h : k < 500) : (decide (0 + k ≤ k) && (true && (true && decide ((k + 1) * 24 ≤ 140737488355328)))) = true := by simp; omega
theorem subs_loop (b : Code) : subs b = subs (.loop b) := rfl
theorem byRnd {E : Env Prop} (hE : EnvOK Try.prog E id) {f : FuncId} {fi : FI} (hF : E.F f = some fi) {i : Nat} {c : Code} (hb : blockOf fi i = some (.loop c)) {st : St} {k : Exit → St → Prop} (n : Nat) {X : Prop} (e : rnd E n f c st k = X) (hX : X) : Safe Try.prog E.R c st k :=
  Safe.rnd mixed hE hF hb (subs_loop c) n (e.symm ▸ hX)
theorem loop3 (ty n : Nat) (nm : List UInt8) (S : Nat → List UInt8) {Q : Exit → St → Prop} (h : Q .normal (fam3 n nm S (min n 500))) :
    Safe Try.prog (envA (roNames ty n S)).R (.block 0 (.loop lp3)) (st3 n nm) Q := by
  refine (loop_block (I := {k : Nat // k ≤ min n 500}) (fam := fun k => fam3 n nm S k.1) (fun k => 500 - k.1) (X := fun e stE => e = .exit 0 ∧ stE = fam3 n nm S (min n 500)) (i0 := ⟨0, Nat.zero_le _⟩) (f := vw3a) ?_ ?_ ?_ ?_).mono ?_
  · refine ⟨View.of ?_ ?_, ?_⟩
    · intro c o ho
      match c with
      | 0 =>
        cases ho
        exact ViewL.at_ (b := 0) rfl rfl (.lst1 rfl (.aggI (.cons (.slN (by simp [fam3, rwF]) rfl) .nil)))
      | 1 =>
        cases ho
        exact ViewL.void rfl rfl
      | c + 2 => simp [fam3, rwF] at ho
    · intro c c' b _ _ h1 h2
      match c, c' with
      | 0, 0 => rfl
      | 0, _ + 1 => simp [vw3a] at h2
      | _ + 1, _ => simp [vw3a] at h1
    · simp only [fam3, tmF, st3, List.cons_append, List.nil_append]
      repeat' (first | with_reducible exact VwL.nil | with_reducible refine VwL.cons ?_ ?_ | with_reducible exact Vw.anyI | with_reducible exact Vw.strI | with_reducible exact Vw.boolI | with_reducible exact Vw.intI | exact Vw.gndI rfl | exact Vw.ptrI (by simp [rwF]) rfl)
  · intro c hc
    have : c = 0 := by simp [st3] at hc; omega
    subst this; rfl
  · intro i; simp [fam3, rwF, st3]
  · rintro ⟨k, hk⟩
    refine byRnd (envA_ok (roNames ty n S)) (f := 3) (fi := fi3) (by kernel_rfl) blk3 10000 (vr3 ty n k nm S _) ?_
    have done : ∀ ts : List AV, VwL vw3b 2 (tmF n nm (k : Nat)) ts → ¬ (k < n ∧ k < 500) → ∃ stE, Fit (st3 n nm).rows.length stE (St.mk ts (rwF S k)) ∧ (Exit.exit 0 = Exit.exit 0 ∧ stE = fam3 n nm S (min n 500)) := by
      intro ts hts hd
      have hk2 : k = min n 500 := by omega
      refine ⟨fam3 n nm S k, ⟨vw3b, ⟨View.of ?_ ?_, hts⟩, ?_, ?_⟩, rfl, by rw [← hk2]⟩
      · intro c o ho
        match c with
        | 0 =>
          cases ho
          exact ViewL.at_ (b := 0) rfl rfl (.lst1 rfl (.aggI (.cons (.slI (by simp [fam3, rwF]) rfl) .nil)))
        | 1 =>
          cases ho
          exact ViewL.at_ (b := 1) rfl rfl (.gen rfl fun j _ => ⟨rfl, gnd_vw _ _ _ rfl⟩)
        | c + 2 => simp [fam3, rwF] at ho
      · intro c c' b _ _ h1 h2
        exact inj2 (a := 1) (by omega) c c' b vw3b rfl h1 h2
      · intro c hc
        have : c = 0 := by simp [st3] at hc; omega
        subst this; rfl
      · simp [fam3, rwF, st3]
    refine hcond (fun h1 => ?_) (fun h1 => ?_)
    · have h1 : k < n := by simpa using h1
      refine hcond (fun h2 => ?_) (fun h2 => ?_)
      · have h2 : k < 500 := by have := of_decide_eq_true h2; omega
        refine hcond (fun _ => ?_) (fun h3 => by exfalso; simp at h3; omega)
        refine hcond (fun _ => ?_) (fun h3 => by exfalso; have h4 : ¬ (0 + (k : Int).toNat < n) := of_decide_eq_false h3; simp at h4; omega)
        refine ⟨rfl, ?_⟩
        refine hcond (fun _ => ?_) (fun h3 => absurd ((cap24 h2).symm.trans h3) (by simp))
        refine ⟨⟨k + 1, by omega⟩, by show 500 - (k + 1) < 500 - k; omega, vw3, ⟨View.of ?_ ?_, ?_⟩, ?_, ?_⟩
        · intro c o ho
          match c with
          | 0 =>
            cases ho
            exact ViewL.at_ (b := 0) rfl rfl (.lst1 rfl (.aggI (.cons (.slI (by simp [fam3, rwF]) rfl) .nil)))
          | 1 =>
            cases ho
            refine ViewL.at_ (b := 4) rfl rfl (.gen rfl fun j hj => ?_)
            have hj : j < k + 1 := hj
            have e : (bif j.blt (Src.gen k fun j => itm (↑(0 + j) : Int) (S (0 + j))).len then AV.agg [AV.int IntKind.i64 (↑(0 + j) : Int), AV.str (S (0 + j))]
                else (Src.lst [AV.agg [AV.int IntKind.i64 (↑k : Int), AV.str (S (0 + (↑k : Int).toNat))]]).at_ (j - (Src.gen k fun j => itm (↑(0 + j) : Int) (S (0 + j))).len)) = itm (j : Nat) (S j) := by
              by_cases hjk : j < k
              · have : j.blt k = true := by rw [Nat.blt_eq]; exact hjk
                simp [Src.len, this, itm]
              · have : j = k := by omega
                subst this
                have : j.blt j = false := by rw [Bool.eq_false_iff]; intro h; rw [Nat.blt_eq] at h; omega
                simp [Src.len, this, Src.at_, itm]
            rw [e]
            exact ⟨rfl, gnd_vw _ _ _ rfl⟩
          | c + 2 => simp [fam3, rwF] at ho
        · intro c c' b _ _ h1 h2
          exact inj2 (a := 4) (by omega) c c' b vw3 rfl h1 h2
        · have hw : IntKind.i64.wrap ((k : Int) + 1) = ((k + 1 : Nat) : Int) := by
            rw [wrap64_small (by omega) (by omega)]; omega
          simp only [fam3, tmF, List.cons_append, List.nil_append]
          repeat' (first | with_reducible exact VwL.nil | with_reducible refine VwL.cons ?_ ?_ | with_reducible exact Vw.anyI | with_reducible exact Vw.strI | with_reducible exact Vw.boolI | with_reducible exact Vw.intE hw | exact Vw.gndI rfl | exact Vw.ptrI (by simp [rwF]) rfl)
        · intro c hc
          have : c = 0 := by simp [st3] at hc; omega
          subst this; rfl
        · simp [fam3, rwF, st3]
      · have h2 : ¬ k < 500 := by have := of_decide_eq_false h2; omega
        refine done _ ?_ (by omega)
        simp only [tmF, List.cons_append, List.nil_append]
        repeat' (first | with_reducible exact VwL.nil | with_reducible refine VwL.cons ?_ ?_ | with_reducible exact Vw.anyI | with_reducible exact Vw.strI | with_reducible exact Vw.boolI | with_reducible exact Vw.intI | exact Vw.gndI rfl | exact Vw.ptrI (by simp) rfl)
    · have h1 : ¬ k < n := by have := of_decide_eq_false h1; omega
      refine done _ ?_ (by omega)
      simp only [tmF, List.cons_append, List.nil_append]
      repeat' (first | with_reducible exact VwL.nil | with_reducible refine VwL.cons ?_ ?_ | with_reducible exact Vw.anyI | with_reducible exact Vw.strI | with_reducible exact Vw.boolI | with_reducible exact Vw.intI | exact Vw.gndI rfl | exact Vw.ptrI (by simp) rfl)
  · rintro e stE ⟨e0, rfl, rfl, rfl⟩
    exact h
theorem end3 (ty n : Nat) (nm : List UInt8) (S : Nat → List UInt8) : EnvOK Try.prog (envL ty n (min n 500) nm S (st3 n nm)) id :=
  (envA_ok (roNames ty n S)).addLoop (f := 3) (fi := fi3) (by kernel_rfl) (body := .loop lp3) blk3 (by
    rintro st k ⟨rfl, hk⟩
    exact loop3 ty n nm S hk)
theorem CK_ok (S : Nat → List UInt8) (m : Nat) : CK S m := fun _ _ => rfl
/-- What ends one scope ends a narrower one. -/
theorem ends_mono {a b : Int} (ha : (a != 3) = true → (b != 3) = true) (h1 : (a == 1) = true → (b == 1) = true) (h2 : (a == 2) = true → (b == 2) = true) (s : List UInt8) : endsB a s = true → endsB b s = true := by
  have c : ∀ (c x y x' y' : Bool), (x = true → x' = true) → (y = true → y' = true) → (bif c then x else y) = true → (bif c then x' else y') = true := by
    intro c x y x' y' hx hy
    cases c
    · exact hy
    · exact hx
  unfold endsB
  exact c _ _ _ _ _ id (c _ _ _ _ _ id (c _ _ _ _ _ id (c _ _ _ _ _ ha (c _ _ _ _ _ ha (c _ _ _ _ _ ha (c _ _ _ _ _ ha (c _ _ _ _ _ ha (c _ _ _ _ _ ha (c _ _ _ _ _ h1 (c _ _ _ _ _ h1 (c _ _ _ _ _ h2 id)))))))))))
theorem in_mono {a b : Int} (h : ∀ s, endsB b s = true → endsB a s = true) (nm : List UInt8) (F : Nat → List UInt8) : ∀ n, inB a nm F n = true → inB b nm F n = true
  | 0, hh => by simp [inB, outF] at hh
  | n + 1, hh => by
    simp only [inB, outF] at hh ⊢
    cases h1 : (F n == nm) with
    | true => rfl
    | false =>
      rw [h1] at hh
      simp only [cond_false] at hh ⊢
      cases h2 : endsB b (F n) with
      | true => rw [h (F n) h2] at hh; simp at hh
      | false =>
        simp only [cond_false]
        cases h3 : endsB a (F n) with
        | true => rw [h3] at hh; simp at hh
        | false => rw [h3] at hh; exact in_mono h nm F n hh
theorem safe3 (ty n : Nat) (nm : List UInt8) (S : Nat → List UInt8) : SafeCall Try.prog (roNames ty n S) 3 [.sl true 0 0 n .no, .str nm] [] fun v _ => v = .bool true := by
  refine byVcd (E := envL ty n (min n 500) nm S (st3 n nm)) (end3 ty n nm S) (f := 3) (fi := fi3) (by kernel_rfl) 10000 (vc3 ty n (min n 500) nm S (st3 n nm) (fun v => v = .bool true)) ?_
  have hl : IB S nm (min n 500) 1 = true → IB S nm (min n 500) 0 = true := in_mono (fun s => ends_mono (by decide) (by decide) (by decide) s) _ _ _
  have hb : IB S nm (min n 500) 2 = true → IB S nm (min n 500) 0 = true := in_mono (fun s => ends_mono (by decide) (by decide) (by decide) s) _ _ _
  have hu : IB S nm (min n 500) 0 = true → IB S nm (min n 500) 3 = true := in_mono (fun s => ends_mono (by decide) (by decide) (by decide) s) _ _ _
  have h9 : IB S nm (min n 500) 99 = true → IB S nm (min n 500) 0 = true := in_mono (fun s => ends_mono (by decide) (by decide) (by decide) s) _ _ _
  have h9' : IB S nm (min n 500) 0 = true → IB S nm (min n 500) 99 = true := in_mono (fun s => ends_mono (by decide) (by decide) (by decide) s) _ _ _
  have hck := CK_ok S (min n 500)
  refine ⟨rfl, rfl, hck, rfl, hck, rfl, hck, rfl, hck, ?_⟩
  revert hl hb hu h9 h9'
  cases IB S nm (min n 500) 0 <;> cases IB S nm (min n 500) 1 <;> cases IB S nm (min n 500) 2 <;> cases IB S nm (min n 500) 3 <;> cases IB S nm (min n 500) 99 <;> intro hl hb hu h9 h9' <;> simp at hl hb hu h9 h9' <;> simp <;> exact hck
theorem walk_nil (nm : ByteArray) (w : World) : Calls Try.prog 3 #[.slice none 0 0, .string nm] w fun e w' => e = .returned (.bool true) ∧ Go.RowKit.Below w.heap.size w w' := by
  obtain ⟨ty, m, hro, hd⟩ := nilArg w (fun j => .str [])
  exact (safe3 ty 0 nm.data.toList (fun _ => [])).law m _ w (by simp only [DenL]; exact ⟨_, _, rfl, hd, _, _, rfl, by simp [Den], rfl⟩) hro
theorem walk_list (a : Addr) (len cap : Nat) (ss : List ByteArray) (nm : ByteArray) (w : World) (hl : len ≤ cap) (hm : cap ≤ maxLen) (hcell : ∀ i, i < cap → w.cell? (a.add i) = some (.string (ss.getD i ByteArray.empty))) :
    Calls Try.prog 3 #[.slice (some a) len cap, .string nm] w fun e w' => e = .returned (.bool true) ∧ Go.RowKit.Below w.heap.size w w' := by
  obtain ⟨ty, m, hro, hd⟩ := listArg w a len cap (fun j => .str (ss.getD j ByteArray.empty).data.toList) (fun j => .string (ss.getD j ByteArray.empty)) hl hm (fun _ => rfl) (fun m n i => by simp [Den]) hcell
  exact (safe3 ty len nm.data.toList (fun j => (ss.getD j ByteArray.empty).data.toList)).law m _ w (by simp only [DenL]; exact ⟨_, _, rfl, hd, _, _, rfl, by simp [Den], rfl⟩) hro
end Go.Dc.Kb
