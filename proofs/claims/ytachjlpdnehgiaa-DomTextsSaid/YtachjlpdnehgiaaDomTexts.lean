/- Scalars written one behind the other are one text: the walk. -/
import Derived.Test.YtachjlpdnehgiaaTextsM
set_option linter.unusedVariables false
set_option linter.unusedSimpArgs false
namespace Go.Dc.Kd
open Go.Proofs Go.RowKit
set_option maxRecDepth 100000
def sp3 (n m : Nat) (T0 T1 : List UInt8) (S1 S2 : St) (S3 : Int → St) : LoopSp := fun st k => match st.rows.length with
  | 4 => st = S1 ∧ (T0 = [] → k .normal ⟨tm3 n m 0 0 n (min n 100 : Nat), X0 [] []⟩) ∧ (T0 ≠ [] → ∀ x, k .normal ⟨tm3 n m 0 0 n (min n 100 : Nat), X1 T0 x T0 []⟩)
  | 8 => st = S2 ∧ (T1 = [] → k .normal ⟨tm3 n m 1 1 m (min m 100 : Nat), X2 [] []⟩) ∧ (T1 ≠ [] → ∀ y, k .normal ⟨tm3 n m 1 1 m (min m 100 : Nat), X3 T1 y [] T1⟩)
  | 9 => ∃ x, st = S3 x ∧ (T1 = [] → k .normal ⟨tm3 n m 1 1 m (min m 100 : Nat), X4 T0 x T0 []⟩) ∧ (T1 ≠ [] → ∀ y, k .normal ⟨tm3 n m 1 1 m (min m 100 : Nat), X5 T0 x T1 y T0 T1⟩)
  | _ => False
/-! cut -/
theorem vc3 (ty n ty2 m : Nat) (F G : Nat → Int) (T0 T1 : List UInt8) (S1 S2 : St) (S3 : Int → St) (Q : AV → Prop) : vcd ((env3 (ro2 ty n ty2 m F G)).addLoop 3 2 (sp3 n m T0 T1 S1 S2 S3)) 10000 3 fi3 [.sl true 0 0 n .no, .sl true 1 0 m .no] [] (fun v _ => Q v) =
    (St.mk
        [AV.sl true 0 0 n Cp.no, AV.sl true 1 0 m Cp.no, AV.tup [], AV.tup [], AV.bool false, AV.ptr false 2 0 0,
          AV.ptr false 3 0 0, AV.int IntKind.i64 0, AV.sl true 0 0 n Cp.no, AV.int IntKind.i64 0, AV.tup [], AV.tup [],
          AV.tup [], AV.tup [], AV.tup [], AV.tup [], AV.tup [], AV.tup [], AV.tup [], AV.bool true, AV.bool false,
          AV.ptr false 2 0 0, AV.agg [AV.str [], AV.str []], AV.int IntKind.i64 0, AV.bool true, AV.tup [], AV.tup [],
          AV.sl true 0 0 n Cp.no, AV.int IntKind.i64 0, AV.bool false, AV.tup [], AV.tup [], AV.tup [], AV.tup [],
          AV.tup [], AV.tup [], AV.tup [], AV.tup [], AV.tup [], AV.tup [], AV.tup [], AV.tup [], AV.tup [], AV.tup [],
          AV.tup [], AV.tup [], AV.tup [], AV.tup [], AV.tup [], AV.tup [], AV.tup [], AV.tup [], AV.tup [], AV.tup [],
          AV.tup [], AV.tup [], AV.tup [], AV.tup [], AV.tup [], AV.tup [], AV.tup [], AV.tup [], AV.tup [], AV.tup [],
          AV.tup [], AV.tup [], AV.tup [], AV.tup [], AV.tup [], AV.tup [], AV.tup [], AV.tup [], AV.tup [], AV.tup [],
          AV.tup [], AV.tup [], AV.tup [], AV.tup [], AV.tup [], AV.tup [], AV.tup [], AV.tup [], AV.tup [], AV.tup [],
          AV.tup [], AV.tup [], AV.tup [], AV.tup [], AV.tup [], AV.tup [], AV.tup [], AV.tup [], AV.tup [], AV.tup [],
          AV.tup [], AV.tup [], AV.tup [], AV.tup [], AV.tup [], AV.tup [], AV.tup [], AV.tup [], AV.tup [], AV.tup [],
          AV.tup [], AV.tup [], AV.tup [], AV.tup [], AV.tup [], AV.tup [], AV.tup [], AV.tup [], AV.tup [], AV.tup [],
          AV.tup [], AV.tup [], AV.tup [], AV.tup [], AV.tup [], AV.tup [], AV.tup [], AV.tup [], AV.tup []]
        [some
            (Row.lst 84 5
              [AV.agg
                  [AV.int IntKind.i64 (-1), AV.int IntKind.i64 (-1), AV.int IntKind.i64 (-1), AV.int IntKind.i64 (-1),
                    AV.int IntKind.i64 (-1)]]),
          some
            (Row.lst 87 10
              [AV.agg
                  [AV.int IntKind.i64 0, AV.int IntKind.i64 0, AV.str [], AV.str [], AV.nils, AV.int IntKind.i64 (-1),
                    AV.int IntKind.i64 (-1), AV.int IntKind.i64 (-1), AV.int IntKind.i64 (-1),
                    AV.int IntKind.i64 (-1)]]),
          some (Row.lst 90 1 [AV.agg [AV.sl false 1 0 1 Cp.tight]]),
          some (Row.lst 26 2 [AV.agg [AV.str [], AV.str []]])] =
      S1 ∧
    (T0 = [] →
        AV.agg [AV.int IntKind.i64 4, AV.int IntKind.i64 0, AV.str [], AV.str [], AV.nils] =
            AV.agg [AV.int IntKind.i64 4, AV.int IntKind.i64 0, AV.str [], AV.str [], AV.nils] ∧
          AV.sl false 1 0 1 Cp.tight = AV.sl false 1 0 1 Cp.tight ∧
            AV.sl false 1 0 1 Cp.tight = AV.sl false 1 0 1 Cp.tight ∧
              AV.ptr false 7 1 0 = AV.ptr false 7 1 0 ∧
                AV.sl false 7 0 2 Cp.no = AV.sl false 7 0 2 Cp.no ∧
                  St.mk
                        [AV.sl true 0 0 n Cp.no, AV.sl true 1 0 m Cp.no, AV.any, AV.any, AV.any, AV.ptr false 2 0 0,
                          AV.ptr false 3 0 0, AV.int IntKind.i64 1, AV.sl true 1 0 m Cp.no, AV.int IntKind.i64 0,
                          AV.any, AV.any, AV.any, AV.any, AV.any, AV.any, AV.any, AV.any, AV.any, AV.any, AV.any,
                          AV.any, AV.any, AV.int IntKind.i64 1, AV.bool true, AV.int IntKind.i64 0,
                          AV.int IntKind.i64 1, AV.sl true 0 0 n Cp.no, AV.int IntKind.i64 1, AV.bool true,
                          AV.sl true 1 0 m Cp.no, AV.ptr false 2 0 0, AV.ptr false 2 0 0,
                          AV.agg [AV.int IntKind.i64 4, AV.int IntKind.i64 0, AV.str [], AV.str [], AV.nils],
                          AV.int IntKind.i64 1, AV.int IntKind.i64 0, AV.any, AV.any, AV.any, AV.any, AV.any, AV.any,
                          AV.any, AV.any, AV.any, AV.any, AV.any, AV.any, AV.any, AV.any, AV.any, AV.any, AV.any,
                          AV.any, AV.any, AV.any, AV.any, AV.any, AV.any, AV.any, AV.any, AV.any, AV.any, AV.any,
                          AV.any, AV.any, AV.any, AV.any, AV.any, AV.any, AV.any, AV.any, AV.any, AV.any, AV.any,
                          AV.any, AV.any, AV.any, AV.any, AV.any, AV.any, AV.any, AV.any, AV.any, AV.any, AV.any,
                          AV.any, AV.any, AV.any, AV.any, AV.any, AV.any, AV.any, AV.any, AV.any, AV.any, AV.any,
                          AV.any, AV.any, AV.any, AV.any, AV.any, AV.any, AV.any, AV.any, AV.any, AV.any, AV.any,
                          AV.any, AV.any, AV.any, AV.any, AV.any, AV.any, AV.any, AV.any, AV.any, AV.any, AV.any,
                          AV.any, AV.any, AV.any, AV.any]
                        [some
                            (Row.lst 84 5
                              [AV.agg
                                  [AV.int IntKind.i64 (-1), AV.int IntKind.i64 (-1), AV.int IntKind.i64 (-1),
                                    AV.int IntKind.i64 (-1), AV.int IntKind.i64 (-1)]]),
                          some
                            (Row.lst 87 10
                              [AV.agg
                                  [AV.int IntKind.i64 0, AV.int IntKind.i64 0, AV.str [], AV.str [], AV.nils,
                                    AV.int IntKind.i64 (-1), AV.int IntKind.i64 (-1), AV.int IntKind.i64 (-1),
                                    AV.int IntKind.i64 (-1), AV.int IntKind.i64 (-1)]]),
                          some (Row.lst 90 1 [AV.agg [AV.sl false 7 0 2 Cp.no]]),
                          some (Row.lst 26 2 [AV.agg [AV.str [], AV.str []]]),
                          some
                            (Row.lst 32 5
                              [AV.agg [AV.int IntKind.i64 4, AV.int IntKind.i64 0, AV.str [], AV.str [], AV.nils]]),
                          some
                            (Row.lst 84 5
                              [AV.agg
                                  [AV.int IntKind.i64 (-1), AV.int IntKind.i64 (-1), AV.int IntKind.i64 (-1),
                                    AV.int IntKind.i64 (-1), AV.int IntKind.i64 (-1)]]),
                          some
                            (Row.lst 87 10
                              [AV.agg
                                  [AV.int IntKind.i64 4, AV.int IntKind.i64 0, AV.str [], AV.str [], AV.nils,
                                    AV.int IntKind.i64 (-1), AV.int IntKind.i64 (-1), AV.int IntKind.i64 (-1),
                                    AV.int IntKind.i64 (-1), AV.int IntKind.i64 (-1)]]),
                          some
                            (Row.lst 87 10
                              [AV.agg
                                  [AV.int IntKind.i64 0, AV.int IntKind.i64 0, AV.str [], AV.str [], AV.nils,
                                    AV.int IntKind.i64 (-1), AV.int IntKind.i64 1, AV.int IntKind.i64 1,
                                    AV.int IntKind.i64 (-1), AV.int IntKind.i64 (-1)],
                                AV.agg
                                  [AV.int IntKind.i64 4, AV.int IntKind.i64 0, AV.str [], AV.str [], AV.nils,
                                    AV.int IntKind.i64 0, AV.int IntKind.i64 (-1), AV.int IntKind.i64 (-1),
                                    AV.int IntKind.i64 (-1), AV.int IntKind.i64 (-1)]])] =
                      S2 ∧
                    (T1 = [] → Q (AV.bool true)) ∧
                      ((T1 = [] → False) → ∀ (y : Int), Q (AV.bool (true && (T1 == T1 && true))))) ∧
      ((T0 = [] → False) →
        ∀ (x : Int),
          AV.agg [AV.int IntKind.i64 4, AV.int IntKind.i64 0, AV.str [], AV.str [], AV.nils] =
              AV.agg [AV.int IntKind.i64 4, AV.int IntKind.i64 0, AV.str [], AV.str [], AV.nils] ∧
            AV.sl false 4 0 2 Cp.no = AV.sl false 4 0 2 Cp.no ∧
              AV.sl false 4 0 2 Cp.no = AV.sl false 4 0 2 Cp.no ∧
                AV.ptr false 8 2 0 = AV.ptr false 8 2 0 ∧
                  AV.sl false 8 0 3 Cp.no = AV.sl false 8 0 3 Cp.no ∧
                    ∃ x_1,
                      St.mk
                            [AV.sl true 0 0 n Cp.no, AV.sl true 1 0 m Cp.no, AV.any, AV.any, AV.any, AV.ptr false 2 0 0,
                              AV.ptr false 3 0 0, AV.int IntKind.i64 1, AV.sl true 1 0 m Cp.no, AV.int IntKind.i64 0,
                              AV.any, AV.any, AV.any, AV.any, AV.any, AV.any, AV.any, AV.any, AV.any, AV.any, AV.any,
                              AV.any, AV.any, AV.int IntKind.i64 1, AV.bool true, AV.int IntKind.i64 0,
                              AV.int IntKind.i64 1, AV.sl true 0 0 n Cp.no, AV.int IntKind.i64 1, AV.bool true,
                              AV.sl true 1 0 m Cp.no, AV.ptr false 2 0 0, AV.ptr false 2 0 0,
                              AV.agg [AV.int IntKind.i64 4, AV.int IntKind.i64 0, AV.str [], AV.str [], AV.nils],
                              AV.int IntKind.i64 2, AV.int IntKind.i64 0, AV.any, AV.any, AV.any, AV.any, AV.any,
                              AV.any, AV.any, AV.any, AV.any, AV.any, AV.any, AV.any, AV.any, AV.any, AV.any, AV.any,
                              AV.any, AV.any, AV.any, AV.any, AV.any, AV.any, AV.any, AV.any, AV.any, AV.any, AV.any,
                              AV.any, AV.any, AV.any, AV.any, AV.any, AV.any, AV.any, AV.any, AV.any, AV.any, AV.any,
                              AV.any, AV.any, AV.any, AV.any, AV.any, AV.any, AV.any, AV.any, AV.any, AV.any, AV.any,
                              AV.any, AV.any, AV.any, AV.any, AV.any, AV.any, AV.any, AV.any, AV.any, AV.any, AV.any,
                              AV.any, AV.any, AV.any, AV.any, AV.any, AV.any, AV.any, AV.any, AV.any, AV.any, AV.any,
                              AV.any, AV.any, AV.any, AV.any, AV.any, AV.any, AV.any, AV.any, AV.any, AV.any, AV.any,
                              AV.any, AV.any, AV.any, AV.any, AV.any]
                            [some
                                (Row.lst 84 5
                                  [AV.agg
                                      [AV.int IntKind.i64 (-1), AV.int IntKind.i64 (-1), AV.int IntKind.i64 (-1),
                                        AV.int IntKind.i64 (-1), AV.int IntKind.i64 (-1)]]),
                              some
                                (Row.lst 87 10
                                  [AV.agg
                                      [AV.int IntKind.i64 0, AV.int IntKind.i64 0, AV.str [], AV.str [], AV.nils,
                                        AV.int IntKind.i64 (-1), AV.int IntKind.i64 (-1), AV.int IntKind.i64 (-1),
                                        AV.int IntKind.i64 (-1), AV.int IntKind.i64 (-1)]]),
                              some (Row.lst 90 1 [AV.agg [AV.sl false 8 0 3 Cp.no]]),
                              some (Row.lst 26 2 [AV.agg [AV.str T0, AV.str []]]), none,
                              some
                                (Row.lst 32 5
                                  [AV.agg [AV.int IntKind.i64 4, AV.int IntKind.i64 0, AV.str [], AV.str [], AV.nils]]),
                              some
                                (Row.lst 84 5
                                  [AV.agg
                                      [AV.int IntKind.i64 (-1), AV.int IntKind.i64 (-1), AV.int IntKind.i64 (-1),
                                        AV.int IntKind.i64 (-1), AV.int IntKind.i64 (-1)]]),
                              some
                                (Row.lst 87 10
                                  [AV.agg
                                      [AV.int IntKind.i64 4, AV.int IntKind.i64 0, AV.str [], AV.str [], AV.nils,
                                        AV.int IntKind.i64 (-1), AV.int IntKind.i64 (-1), AV.int IntKind.i64 (-1),
                                        AV.int IntKind.i64 (-1), AV.int IntKind.i64 (-1)]]),
                              some
                                (Row.lst 87 10
                                  [AV.agg
                                      [AV.int IntKind.i64 0, AV.int IntKind.i64 0, AV.str [], AV.str [], AV.nils,
                                        AV.int IntKind.i64 (-1), AV.int IntKind.i64 1, AV.int IntKind.i64 2,
                                        AV.int IntKind.i64 (-1), AV.int IntKind.i64 (-1)],
                                    AV.agg
                                      [AV.int IntKind.i64 3, AV.int IntKind.i64 x, AV.str [], AV.str T0, AV.nils,
                                        AV.int IntKind.i64 0, AV.int IntKind.i64 (-1), AV.int IntKind.i64 (-1),
                                        AV.int IntKind.i64 (-1), AV.int IntKind.i64 2],
                                    AV.agg
                                      [AV.int IntKind.i64 4, AV.int IntKind.i64 0, AV.str [], AV.str [], AV.nils,
                                        AV.int IntKind.i64 0, AV.int IntKind.i64 (-1), AV.int IntKind.i64 (-1),
                                        AV.int IntKind.i64 1, AV.int IntKind.i64 (-1)]])] =
                          S3 x_1 ∧
                        (T1 = [] → Q (AV.bool (T0 == T0 && true))) ∧
                          ((T1 = [] → False) → ∀ (y : Int), Q (AV.bool (T0 == T0 && (T1 == T1 && true)))))) := by kernel_rfl
def en1 (n m : Nat) : St := St.mk
        [AV.sl true 0 0 n Cp.no, AV.sl true 1 0 m Cp.no, AV.tup [], AV.tup [], AV.bool false, AV.ptr false 2 0 0,
          AV.ptr false 3 0 0, AV.int IntKind.i64 0, AV.sl true 0 0 n Cp.no, AV.int IntKind.i64 0, AV.tup [], AV.tup [],
          AV.tup [], AV.tup [], AV.tup [], AV.tup [], AV.tup [], AV.tup [], AV.tup [], AV.bool true, AV.bool false,
          AV.ptr false 2 0 0, AV.agg [AV.str [], AV.str []], AV.int IntKind.i64 0, AV.bool true, AV.tup [], AV.tup [],
          AV.sl true 0 0 n Cp.no, AV.int IntKind.i64 0, AV.bool false, AV.tup [], AV.tup [], AV.tup [], AV.tup [],
          AV.tup [], AV.tup [], AV.tup [], AV.tup [], AV.tup [], AV.tup [], AV.tup [], AV.tup [], AV.tup [], AV.tup [],
          AV.tup [], AV.tup [], AV.tup [], AV.tup [], AV.tup [], AV.tup [], AV.tup [], AV.tup [], AV.tup [], AV.tup [],
          AV.tup [], AV.tup [], AV.tup [], AV.tup [], AV.tup [], AV.tup [], AV.tup [], AV.tup [], AV.tup [], AV.tup [],
          AV.tup [], AV.tup [], AV.tup [], AV.tup [], AV.tup [], AV.tup [], AV.tup [], AV.tup [], AV.tup [], AV.tup [],
          AV.tup [], AV.tup [], AV.tup [], AV.tup [], AV.tup [], AV.tup [], AV.tup [], AV.tup [], AV.tup [], AV.tup [],
          AV.tup [], AV.tup [], AV.tup [], AV.tup [], AV.tup [], AV.tup [], AV.tup [], AV.tup [], AV.tup [], AV.tup [],
          AV.tup [], AV.tup [], AV.tup [], AV.tup [], AV.tup [], AV.tup [], AV.tup [], AV.tup [], AV.tup [], AV.tup [],
          AV.tup [], AV.tup [], AV.tup [], AV.tup [], AV.tup [], AV.tup [], AV.tup [], AV.tup [], AV.tup [], AV.tup [],
          AV.tup [], AV.tup [], AV.tup [], AV.tup [], AV.tup [], AV.tup [], AV.tup [], AV.tup [], AV.tup []]
        [some
            (Row.lst 84 5
              [AV.agg
                  [AV.int IntKind.i64 (-1), AV.int IntKind.i64 (-1), AV.int IntKind.i64 (-1), AV.int IntKind.i64 (-1),
                    AV.int IntKind.i64 (-1)]]),
          some
            (Row.lst 87 10
              [AV.agg
                  [AV.int IntKind.i64 0, AV.int IntKind.i64 0, AV.str [], AV.str [], AV.nils, AV.int IntKind.i64 (-1),
                    AV.int IntKind.i64 (-1), AV.int IntKind.i64 (-1), AV.int IntKind.i64 (-1),
                    AV.int IntKind.i64 (-1)]]),
          some (Row.lst 90 1 [AV.agg [AV.sl false 1 0 1 Cp.tight]]),
          some (Row.lst 26 2 [AV.agg [AV.str [], AV.str []]])]
def en2 (n m : Nat) : St := St.mk
                        [AV.sl true 0 0 n Cp.no, AV.sl true 1 0 m Cp.no, AV.any, AV.any, AV.any, AV.ptr false 2 0 0,
                          AV.ptr false 3 0 0, AV.int IntKind.i64 1, AV.sl true 1 0 m Cp.no, AV.int IntKind.i64 0,
                          AV.any, AV.any, AV.any, AV.any, AV.any, AV.any, AV.any, AV.any, AV.any, AV.any, AV.any,
                          AV.any, AV.any, AV.int IntKind.i64 1, AV.bool true, AV.int IntKind.i64 0,
                          AV.int IntKind.i64 1, AV.sl true 0 0 n Cp.no, AV.int IntKind.i64 1, AV.bool true,
                          AV.sl true 1 0 m Cp.no, AV.ptr false 2 0 0, AV.ptr false 2 0 0,
                          AV.agg [AV.int IntKind.i64 4, AV.int IntKind.i64 0, AV.str [], AV.str [], AV.nils],
                          AV.int IntKind.i64 1, AV.int IntKind.i64 0, AV.any, AV.any, AV.any, AV.any, AV.any, AV.any,
                          AV.any, AV.any, AV.any, AV.any, AV.any, AV.any, AV.any, AV.any, AV.any, AV.any, AV.any,
                          AV.any, AV.any, AV.any, AV.any, AV.any, AV.any, AV.any, AV.any, AV.any, AV.any, AV.any,
                          AV.any, AV.any, AV.any, AV.any, AV.any, AV.any, AV.any, AV.any, AV.any, AV.any, AV.any,
                          AV.any, AV.any, AV.any, AV.any, AV.any, AV.any, AV.any, AV.any, AV.any, AV.any, AV.any,
                          AV.any, AV.any, AV.any, AV.any, AV.any, AV.any, AV.any, AV.any, AV.any, AV.any, AV.any,
                          AV.any, AV.any, AV.any, AV.any, AV.any, AV.any, AV.any, AV.any, AV.any, AV.any, AV.any,
                          AV.any, AV.any, AV.any, AV.any, AV.any, AV.any, AV.any, AV.any, AV.any, AV.any, AV.any,
                          AV.any, AV.any, AV.any, AV.any]
                        [some
                            (Row.lst 84 5
                              [AV.agg
                                  [AV.int IntKind.i64 (-1), AV.int IntKind.i64 (-1), AV.int IntKind.i64 (-1),
                                    AV.int IntKind.i64 (-1), AV.int IntKind.i64 (-1)]]),
                          some
                            (Row.lst 87 10
                              [AV.agg
                                  [AV.int IntKind.i64 0, AV.int IntKind.i64 0, AV.str [], AV.str [], AV.nils,
                                    AV.int IntKind.i64 (-1), AV.int IntKind.i64 (-1), AV.int IntKind.i64 (-1),
                                    AV.int IntKind.i64 (-1), AV.int IntKind.i64 (-1)]]),
                          some (Row.lst 90 1 [AV.agg [AV.sl false 7 0 2 Cp.no]]),
                          some (Row.lst 26 2 [AV.agg [AV.str [], AV.str []]]),
                          some
                            (Row.lst 32 5
                              [AV.agg [AV.int IntKind.i64 4, AV.int IntKind.i64 0, AV.str [], AV.str [], AV.nils]]),
                          some
                            (Row.lst 84 5
                              [AV.agg
                                  [AV.int IntKind.i64 (-1), AV.int IntKind.i64 (-1), AV.int IntKind.i64 (-1),
                                    AV.int IntKind.i64 (-1), AV.int IntKind.i64 (-1)]]),
                          some
                            (Row.lst 87 10
                              [AV.agg
                                  [AV.int IntKind.i64 4, AV.int IntKind.i64 0, AV.str [], AV.str [], AV.nils,
                                    AV.int IntKind.i64 (-1), AV.int IntKind.i64 (-1), AV.int IntKind.i64 (-1),
                                    AV.int IntKind.i64 (-1), AV.int IntKind.i64 (-1)]]),
                          some
                            (Row.lst 87 10
                              [AV.agg
                                  [AV.int IntKind.i64 0, AV.int IntKind.i64 0, AV.str [], AV.str [], AV.nils,
                                    AV.int IntKind.i64 (-1), AV.int IntKind.i64 1, AV.int IntKind.i64 1,
                                    AV.int IntKind.i64 (-1), AV.int IntKind.i64 (-1)],
                                AV.agg
                                  [AV.int IntKind.i64 4, AV.int IntKind.i64 0, AV.str [], AV.str [], AV.nils,
                                    AV.int IntKind.i64 0, AV.int IntKind.i64 (-1), AV.int IntKind.i64 (-1),
                                    AV.int IntKind.i64 (-1), AV.int IntKind.i64 (-1)]])]
def en3 (n m : Nat) (T0 : List UInt8) (x : Int) : St := St.mk
                            [AV.sl true 0 0 n Cp.no, AV.sl true 1 0 m Cp.no, AV.any, AV.any, AV.any, AV.ptr false 2 0 0,
                              AV.ptr false 3 0 0, AV.int IntKind.i64 1, AV.sl true 1 0 m Cp.no, AV.int IntKind.i64 0,
                              AV.any, AV.any, AV.any, AV.any, AV.any, AV.any, AV.any, AV.any, AV.any, AV.any, AV.any,
                              AV.any, AV.any, AV.int IntKind.i64 1, AV.bool true, AV.int IntKind.i64 0,
                              AV.int IntKind.i64 1, AV.sl true 0 0 n Cp.no, AV.int IntKind.i64 1, AV.bool true,
                              AV.sl true 1 0 m Cp.no, AV.ptr false 2 0 0, AV.ptr false 2 0 0,
                              AV.agg [AV.int IntKind.i64 4, AV.int IntKind.i64 0, AV.str [], AV.str [], AV.nils],
                              AV.int IntKind.i64 2, AV.int IntKind.i64 0, AV.any, AV.any, AV.any, AV.any, AV.any,
                              AV.any, AV.any, AV.any, AV.any, AV.any, AV.any, AV.any, AV.any, AV.any, AV.any, AV.any,
                              AV.any, AV.any, AV.any, AV.any, AV.any, AV.any, AV.any, AV.any, AV.any, AV.any, AV.any,
                              AV.any, AV.any, AV.any, AV.any, AV.any, AV.any, AV.any, AV.any, AV.any, AV.any, AV.any,
                              AV.any, AV.any, AV.any, AV.any, AV.any, AV.any, AV.any, AV.any, AV.any, AV.any, AV.any,
                              AV.any, AV.any, AV.any, AV.any, AV.any, AV.any, AV.any, AV.any, AV.any, AV.any, AV.any,
                              AV.any, AV.any, AV.any, AV.any, AV.any, AV.any, AV.any, AV.any, AV.any, AV.any, AV.any,
                              AV.any, AV.any, AV.any, AV.any, AV.any, AV.any, AV.any, AV.any, AV.any, AV.any, AV.any,
                              AV.any, AV.any, AV.any, AV.any, AV.any]
                            [some
                                (Row.lst 84 5
                                  [AV.agg
                                      [AV.int IntKind.i64 (-1), AV.int IntKind.i64 (-1), AV.int IntKind.i64 (-1),
                                        AV.int IntKind.i64 (-1), AV.int IntKind.i64 (-1)]]),
                              some
                                (Row.lst 87 10
                                  [AV.agg
                                      [AV.int IntKind.i64 0, AV.int IntKind.i64 0, AV.str [], AV.str [], AV.nils,
                                        AV.int IntKind.i64 (-1), AV.int IntKind.i64 (-1), AV.int IntKind.i64 (-1),
                                        AV.int IntKind.i64 (-1), AV.int IntKind.i64 (-1)]]),
                              some (Row.lst 90 1 [AV.agg [AV.sl false 8 0 3 Cp.no]]),
                              some (Row.lst 26 2 [AV.agg [AV.str T0, AV.str []]]), none,
                              some
                                (Row.lst 32 5
                                  [AV.agg [AV.int IntKind.i64 4, AV.int IntKind.i64 0, AV.str [], AV.str [], AV.nils]]),
                              some
                                (Row.lst 84 5
                                  [AV.agg
                                      [AV.int IntKind.i64 (-1), AV.int IntKind.i64 (-1), AV.int IntKind.i64 (-1),
                                        AV.int IntKind.i64 (-1), AV.int IntKind.i64 (-1)]]),
                              some
                                (Row.lst 87 10
                                  [AV.agg
                                      [AV.int IntKind.i64 4, AV.int IntKind.i64 0, AV.str [], AV.str [], AV.nils,
                                        AV.int IntKind.i64 (-1), AV.int IntKind.i64 (-1), AV.int IntKind.i64 (-1),
                                        AV.int IntKind.i64 (-1), AV.int IntKind.i64 (-1)]]),
                              some
                                (Row.lst 87 10
                                  [AV.agg
                                      [AV.int IntKind.i64 0, AV.int IntKind.i64 0, AV.str [], AV.str [], AV.nils,
                                        AV.int IntKind.i64 (-1), AV.int IntKind.i64 1, AV.int IntKind.i64 2,
                                        AV.int IntKind.i64 (-1), AV.int IntKind.i64 (-1)],
                                    AV.agg
                                      [AV.int IntKind.i64 3, AV.int IntKind.i64 x, AV.str [], AV.str T0, AV.nils,
                                        AV.int IntKind.i64 0, AV.int IntKind.i64 (-1), AV.int IntKind.i64 (-1),
                                        AV.int IntKind.i64 (-1), AV.int IntKind.i64 2],
                                    AV.agg
                                      [AV.int IntKind.i64 4, AV.int IntKind.i64 0, AV.str [], AV.str [], AV.nils,
                                        AV.int IntKind.i64 0, AV.int IntKind.i64 (-1), AV.int IntKind.i64 (-1),
                                        AV.int IntKind.i64 1, AV.int IntKind.i64 (-1)]])]
theorem en1_v (n m : Nat) : VwL some 4 (tm3 n m 0 0 n ((0 : Nat) : Int)) (en1 n m).tmps ∧ (en1 n m).rows = X0 [] [] := by
  refine ⟨?_, rfl⟩
  simp only [tm3, en1]
  repeat' (first | with_reducible exact VwL.nil | with_reducible refine VwL.cons ?_ ?_ | with_reducible exact Vw.anyI | with_reducible exact Vw.strI | with_reducible exact Vw.intI | exact Vw.intE rfl | exact Vw.slR | exact Vw.ptrI (by decide) rfl)
theorem en2_v (n m : Nat) : VwL some 8 (tm3 n m 1 1 m ((0 : Nat) : Int)) (en2 n m).tmps ∧ (en2 n m).rows = X2 [] [] := by
  refine ⟨?_, rfl⟩
  simp only [tm3, en2]
  repeat' (first | with_reducible exact VwL.nil | with_reducible refine VwL.cons ?_ ?_ | with_reducible exact Vw.anyI | with_reducible exact Vw.strI | with_reducible exact Vw.intI | exact Vw.intE rfl | exact Vw.slR | exact Vw.ptrI (by decide) rfl)
theorem en3_v (n m : Nat) (T0 : List UInt8) (x : Int) : VwL some 9 (tm3 n m 1 1 m ((0 : Nat) : Int)) (en3 n m T0 x).tmps ∧ (en3 n m T0 x).rows = X4 T0 x T0 [] := by
  refine ⟨?_, rfl⟩
  simp only [tm3, en3]
  repeat' (first | with_reducible exact VwL.nil | with_reducible refine VwL.cons ?_ ?_ | with_reducible exact Vw.anyI | with_reducible exact Vw.strI | with_reducible exact Vw.intI | exact Vw.intE rfl | exact Vw.slR | exact Vw.ptrI (by decide) rfl)
noncomputable abbrev env3L (ty n ty2 m : Nat) (F G : Nat → Int) : Env Prop := (env3 (ro2 ty n ty2 m F G)).addLoop 3 2 (sp3 n m (txt F (min n 100)) (txt G (min m 100)) (en1 n m) (en2 n m) (en3 n m (txt F (min n 100))))
theorem env3L_ok (ty n ty2 m : Nat) (F G : Nat → Int) (hn : n ≤ 9223372036854775807) (hm : m ≤ 9223372036854775807) : EnvOK Try.prog (env3L ty n ty2 m F G) id :=
  (env3_ok (ro2 ty n ty2 m F G)).addLoop (f := 3) (fi := fi3) (by kernel_rfl) (body := .loop lp3) blk3 (by
    intro st k hk
    unfold sp3 at hk
    split at hk
    · obtain ⟨rfl, h0, h1⟩ := hk
      exact loopP0 ty n ty2 m F G hn (en1 n m) (en1_v n m).1 (en1_v n m).2 h0 h1
    · obtain ⟨rfl, h0, h1⟩ := hk
      exact loopPa ty n ty2 m F G hm (en2 n m) (en2_v n m).1 (en2_v n m).2 h0 h1
    · obtain ⟨x, rfl, h0, h1⟩ := hk
      refine loopPb ty n ty2 m (txt F (min n 100)) x F G ?_ hm (en3 n m _ x) (en3_v n m _ x).1 (en3_v n m _ x).2 h0 h1
      have := txt_len F (min n 100)
      omega
    · exact hk.elim)
theorem safe3 (ty n ty2 m : Nat) (F G : Nat → Int) (hn : n ≤ 9223372036854775807) (hm : m ≤ 9223372036854775807) : SafeCall Try.prog (ro2 ty n ty2 m F G) 3 [.sl true 0 0 n .no, .sl true 1 0 m .no] [] fun v _ => v = .bool true := by
  refine byVcd' (E := env3L ty n ty2 m F G) (env3L_ok ty n ty2 m F G hn hm) (f := 3) (fi := fi3) (by kernel_rfl) 10000 (vc3 ty n ty2 m F G _ _ _ _ _ (fun v => v = .bool true)) ?_
  generalize txt F (min n 100) = T0
  generalize txt G (min m 100) = T1
  exact ⟨rfl, fun h0 => ⟨rfl, rfl, rfl, rfl, rfl, rfl, fun _ => rfl, fun _ y => by simp⟩, fun _ x => ⟨rfl, rfl, rfl, rfl, rfl, x, rfl, fun _ => by simp, fun _ y => by simp⟩⟩
/-! ### Two lists that came in -/
def IntsAt (w : World) (v : Value) : Prop := ∃ (ty n : Nat) (F : Nat → Int) (m : Map), n ≤ 9223372036854775807 ∧ (∀ i, RoOK m (m.ro i) (roL ty 1 n (fun j => .int .i64 (F j)) i) w) ∧ Den m 0 (.sl true 0 0 n .no) v
theorem intsNil (w : World) : IntsAt w (.slice none 0 0) := by
  obtain ⟨ty, m, h1, h2⟩ := nilArg w (fun j => .int .i64 0)
  exact ⟨ty, 0, fun _ => 0, m, Nat.zero_le _, h1, h2⟩
theorem intsList (w : World) (a : Addr) (len cap : Nat) (zs : List Int) (hl : len ≤ cap) (hm : cap ≤ maxLen) (hcell : ∀ i, i < cap → w.cell? (a.add i) = some (.int .i64 (zs.getD i 0))) : IntsAt w (.slice (some a) len cap) := by
  obtain ⟨ty, m, h1, h2⟩ := listArg w a len cap (fun j => .int .i64 (zs.getD j 0)) (fun j => .int .i64 (zs.getD j 0)) hl hm (fun _ => rfl) (fun m n i => by simp [Den]) hcell
  have hM : maxLen ≤ 9223372036854775807 := by decide
  exact ⟨ty, len, fun j => zs.getD j 0, m, by omega, h1, h2⟩
theorem RoOK.ints {m m' : Map} {l : Loc} {ty n : Nat} {F : Nat → Int} {w : World} (h : RoOK m l ⟨ty, 1, n, fun j => .int .i64 (F j)⟩ w) : RoOK m' l ⟨ty, 1, n, fun j => .int .i64 (F j)⟩ w := by
  obtain ⟨h1, h2, h3⟩ := h
  refine ⟨h1, h2, ?_⟩
  cases hv : l.vir with
  | true =>
    rw [hv] at h3
    simp only [if_true] at h3 ⊢
    exact h3
  | false =>
    rw [hv] at h3
    simp only [Bool.false_eq_true, if_false] at h3 ⊢
    intro hn
    obtain ⟨c, fz, hc, hh⟩ := h3 hn
    refine ⟨c, fz, hc, fun i hi => ⟨(hh i hi).1, fun o a ha => ?_⟩⟩
    obtain ⟨h4, v, hv, hd⟩ := (hh i hi).2 o a ha
    refine ⟨h4, v, hv, ?_⟩
    obtain rfl : a = .int .i64 (F i) := by cases o <;> simp [AV.cells] at ha <;> exact ha.symm
    simpa [Den] using hd
theorem domTexts_walk (w : World) (v0 v1 : Value) (h0 : IntsAt w v0) (h1 : IntsAt w v1) : Calls Try.prog 3 #[v0, v1] w fun e w' => e = .returned (.bool true) ∧ Go.RowKit.Below w.heap.size w w' := by
  obtain ⟨ty, n, F, m, hn, hro, hd⟩ := h0
  obtain ⟨ty2, n2, G, m2, hn2, hro2, hd2⟩ := h1
  refine (safe3 ty n ty2 n2 F G hn hn2).law ⟨fun _ => ⟨0, 0, 0, 0, true⟩, fun i => match i with | 0 => m.ro 0 | 1 => m2.ro 0 | _ + 2 => ⟨0, 0, 0, 0, true⟩⟩ _ w ?_ ?_
  · simp only [DenL]
    refine ⟨_, _, rfl, ?_, _, _, rfl, ?_, rfl⟩
    · simp only [Den, Map.loc, if_true] at hd ⊢
      exact ⟨by simp, hd.2⟩
    · simp only [Den, Map.loc, if_true] at hd2 ⊢
      exact ⟨by simp, hd2.2⟩
  · intro i
    match i with
    | 0 => exact RoOK.ints (m := m) (hro 0)
    | 1 => exact RoOK.ints (m := m2) (hro2 0)
    | i + 2 => exact ⟨rfl, Nat.le_refl _, by simp [ro2]⟩
end Go.Dc.Kd
