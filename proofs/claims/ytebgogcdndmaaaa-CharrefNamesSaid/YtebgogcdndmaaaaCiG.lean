/- The statement on the longest names: the reference, the loops, the plain law, the walk. -/
import Derived.Test.YtebgogcdndmaaaaChT
import Derived.Test.YtebgogcdndmaaaaChU
/- The reference's names; its scalars of the name at a place. -/
set_option linter.unusedVariables false
set_option linter.unusedSimpArgs false
namespace Go.Dc.Ka
open Go.Proofs Go.RowKit
set_option maxRecDepth 100000
theorem vc27 (R : Nat → RoRow) (P : AV → Option Row → Prop) : vcd (base R) 10000 27 fi27 [] [] (atRow P) = P (.sl false 0 0 109 true) (some (.lst 9 1 (tab.map fun e => .str e.1))) := by kernel_rfl
theorem safe27 (R : Nat → RoRow) : SafeCall Try.prog R 27 [] [] fun v h => v = .sl false 0 0 109 false ∧ h = [nrow] := by
  have h0 : SafeCall Try.prog (base R).R 27 [] [] (atRow fun v o => v = .sl false 0 0 109 true ∧ o = some (.lst 9 1 (tab.map fun e => .str e.1))) :=
    byVcd (base_ok R) (f := 27) (fi := fi27) (by kernel_rfl) 10000 (vc27 R _) ⟨rfl, rfl⟩
  refine h0.fit ?_
  intro v h hq
  unfold atRow at hq
  split at hq
  · obtain ⟨hv, hl⟩ := hq
    cases hv
    have hb : h[0]? = some (some (.lst 9 1 (tab.map fun e => .str e.1))) := by
      unfold Rows.live at hl
      cases e : h[0]? with
      | none => rw [e] at hl; simp at hl
      | some o => rw [e] at hl; simp only [Option.join_some] at hl; rw [hl]
    refine ⟨_, _, ⟨fun c => some 0, View.of ?_ ?_, ?_, fun c hc => absurd hc (Nat.not_lt_zero c), Nat.zero_le _⟩, rfl, rfl⟩
    · intro c o ho
      cases c with
      | zero =>
        simp only [List.getElem?_cons_zero, Option.some.injEq, nrow] at ho
        subst ho
        refine ViewL.at_ (b := 0) rfl hb ⟨rfl, rfl, by simp [Row.len, tab_len], ?_⟩
        intro i e he
        simp only [Row.get?] at he ⊢
        cases hlt : Nat.blt i 109 with
        | false => rw [hlt] at he; simp at he
        | true =>
          rw [hlt] at he
          simp only [cond_true, Option.some.injEq] at he
          subst he
          have hi : i < 109 := by simpa [Nat.blt_eq] using hlt
          refine ⟨by simp [AV.cells, AV.one], .str (nameAt i), ?_, .strI⟩
          have h : tab[i]? = some (tab.getD i ([], [])) := by
            rw [List.getD, List.getElem?_eq_getElem (by rw [tab_len]; exact hi)]
            rfl
          rw [List.getElem?_map, h]
          rfl
      | succ c => simp at ho
    · intro c c' b hc hc' _ _
      simp at hc hc'
      omega
    · exact .slE (by simp) rfl
  · exact hq.elim
noncomputable def spec27 : CallSpec := fun args h k => match args with
  | [] => k (.sl false h.length 0 109 false) (h ++ [nrow])
  | _ => False
theorem spec27_ok (R : Nat → RoRow) : ∀ args h k, spec27 args h k → SafeCall Try.prog R 27 args h k := by
  intro args h k hk
  unfold spec27 at hk
  split at hk
  · refine ((safe27 R).fresh .nil h).mono ?_
    rintro v'' h'' ⟨v', h', ⟨rfl, rfl⟩, rfl, rfl⟩
    exact hk
  · exact hk.elim
noncomputable abbrev env28 (R : Nat → RoRow) : Env Prop := (base R).addCall 27 spec27
theorem env28_ok (R : Nat → RoRow) : EnvOK Try.prog (env28 R) id := (base_ok R).addCall (f := 27) (fi := fi27) (by kernel_rfl) (spec27_ok R)
end Go.Dc.Ka

/- The reference's longest name: its loop. -/
set_option linter.unusedVariables false
set_option linter.unusedSimpArgs false
namespace Go.Dc.Ka
open Go.Proofs Go.RowKit
set_option maxRecDepth 100000
noncomputable def fam28 (s : List UInt8) (b : Int) (i : Nat) : St := ⟨[.str s, .any, .any, .sl false 0 0 109 false, .int .i64 b, .int .i64 i] ++ List.replicate 41 .any, [nrow]⟩
end Go.Dc.Ka

/- The reference's longest name: what it answers. -/
set_option linter.unusedVariables false
set_option linter.unusedSimpArgs false
namespace Go.Dc.Ka
open Go.Proofs Go.RowKit
set_option maxRecDepth 100000
theorem round28 (R : Nat → RoRow) (s : List UInt8) (b : Int) (i : Nat) (k : Exit → St → Prop) : rnd (env28 R) 1000 28 (loopOf fi28 0) (fam28 s b i) k =
    (bif decide ((↑i : Int) < 109) then
    bif true && decide ((↑i : Int) < 109) then
      bif decide (0 + (↑i : Int).toNat < 109) then
        bif decide ((↑(nameAt (0 + (↑i : Int).toNat)).length : Int) ≤ (↑s.length : Int)) then
          bif slCond none (some (↑(nameAt (0 + (↑i : Int).toNat)).length : Int)) s.length then
            bif
                List.take (slHi s.length (some (↑(nameAt (0 + (↑i : Int).toNat)).length : Int)) - 0) (List.drop 0 s) ==
                  nameAt (0 + (↑i : Int).toNat) then
              bif decide (b < 0) then
                k Exit.normal
                  (St.mk
                    [AV.str s, AV.any, AV.any, AV.sl false 0 0 109 false, AV.int IntKind.i64 (↑i : Int),
                      AV.int IntKind.i64 (IntKind.i64.wrap ((↑i : Int) + 1)), AV.str (nameAt (0 + (↑i : Int).toNat)),
                      AV.any, AV.int IntKind.i64 (↑i : Int), AV.sl false 0 0 109 false, AV.int IntKind.i64 109,
                      AV.bool true, AV.int IntKind.i64 (↑i : Int),
                      AV.int IntKind.i64 (IntKind.i64.wrap ((↑i : Int) + 1)), AV.sl false 0 0 109 false,
                      AV.int IntKind.i64 (↑i : Int), AV.ptr false 0 (0 + (↑i : Int).toNat) 0,
                      AV.str (nameAt (0 + (↑i : Int).toNat)), AV.str (nameAt (0 + (↑i : Int).toNat)),
                      AV.int IntKind.i64 (↑(nameAt (0 + (↑i : Int).toNat)).length : Int), AV.str s,
                      AV.int IntKind.i64 (↑s.length : Int),
                      AV.bool (decide ((↑(nameAt (0 + (↑i : Int).toNat)).length : Int) ≤ (↑s.length : Int))),
                      AV.bool true, AV.str s, AV.str (nameAt (0 + (↑i : Int).toNat)),
                      AV.int IntKind.i64 (↑(nameAt (0 + (↑i : Int).toNat)).length : Int),
                      AV.str
                        (List.take (slHi s.length (some (↑(nameAt (0 + (↑i : Int).toNat)).length : Int)) - 0)
                          (List.drop 0 s)),
                      AV.str (nameAt (0 + (↑i : Int).toNat)),
                      AV.bool
                        (List.take (slHi s.length (some (↑(nameAt (0 + (↑i : Int).toNat)).length : Int)) - 0)
                            (List.drop 0 s) ==
                          nameAt (0 + (↑i : Int).toNat)),
                      AV.bool
                        (List.take (slHi s.length (some (↑(nameAt (0 + (↑i : Int).toNat)).length : Int)) - 0)
                            (List.drop 0 s) ==
                          nameAt (0 + (↑i : Int).toNat)),
                      AV.bool true, AV.int IntKind.i64 b, AV.bool (decide (b < 0)), AV.bool true, AV.tup [], AV.tup [],
                      AV.tup [], AV.tup [], AV.tup [], AV.tup [], AV.tup [], AV.tup [], AV.bool true, AV.bool true,
                      AV.int IntKind.i64 (↑i : Int), AV.any]
                    [some (Row.gen 9 1 109 fun i => AV.str (nameAt i))])
              else
                bif decide (0 ≤ b) && decide (b < 109) then
                  bif decide (0 + b.toNat < 109) then
                    bif
                        decide
                          ((↑(nameAt (0 + (↑i : Int).toNat)).length : Int) >
                            (↑(nameAt (0 + b.toNat)).length : Int)) then
                      k Exit.normal
                        (St.mk
                          [AV.str s, AV.any, AV.any, AV.sl false 0 0 109 false, AV.int IntKind.i64 (↑i : Int),
                            AV.int IntKind.i64 (IntKind.i64.wrap ((↑i : Int) + 1)),
                            AV.str (nameAt (0 + (↑i : Int).toNat)), AV.any, AV.int IntKind.i64 (↑i : Int),
                            AV.sl false 0 0 109 false, AV.int IntKind.i64 109, AV.bool true,
                            AV.int IntKind.i64 (↑i : Int), AV.int IntKind.i64 (IntKind.i64.wrap ((↑i : Int) + 1)),
                            AV.sl false 0 0 109 false, AV.int IntKind.i64 (↑i : Int),
                            AV.ptr false 0 (0 + (↑i : Int).toNat) 0, AV.str (nameAt (0 + (↑i : Int).toNat)),
                            AV.str (nameAt (0 + (↑i : Int).toNat)),
                            AV.int IntKind.i64 (↑(nameAt (0 + (↑i : Int).toNat)).length : Int), AV.str s,
                            AV.int IntKind.i64 (↑s.length : Int),
                            AV.bool (decide ((↑(nameAt (0 + (↑i : Int).toNat)).length : Int) ≤ (↑s.length : Int))),
                            AV.bool true, AV.str s, AV.str (nameAt (0 + (↑i : Int).toNat)),
                            AV.int IntKind.i64 (↑(nameAt (0 + (↑i : Int).toNat)).length : Int),
                            AV.str
                              (List.take (slHi s.length (some (↑(nameAt (0 + (↑i : Int).toNat)).length : Int)) - 0)
                                (List.drop 0 s)),
                            AV.str (nameAt (0 + (↑i : Int).toNat)),
                            AV.bool
                              (List.take (slHi s.length (some (↑(nameAt (0 + (↑i : Int).toNat)).length : Int)) - 0)
                                  (List.drop 0 s) ==
                                nameAt (0 + (↑i : Int).toNat)),
                            AV.bool
                              (List.take (slHi s.length (some (↑(nameAt (0 + (↑i : Int).toNat)).length : Int)) - 0)
                                  (List.drop 0 s) ==
                                nameAt (0 + (↑i : Int).toNat)),
                            AV.bool true, AV.int IntKind.i64 b, AV.bool (decide (b < 0)), AV.bool false,
                            AV.str (nameAt (0 + (↑i : Int).toNat)),
                            AV.int IntKind.i64 (↑(nameAt (0 + (↑i : Int).toNat)).length : Int),
                            AV.sl false 0 0 109 false, AV.int IntKind.i64 b, AV.ptr false 0 (0 + b.toNat) 0,
                            AV.str (nameAt (0 + b.toNat)), AV.int IntKind.i64 (↑(nameAt (0 + b.toNat)).length : Int),
                            AV.bool
                              (decide
                                ((↑(nameAt (0 + (↑i : Int).toNat)).length : Int) >
                                  (↑(nameAt (0 + b.toNat)).length : Int))),
                            AV.bool
                              (decide
                                ((↑(nameAt (0 + (↑i : Int).toNat)).length : Int) >
                                  (↑(nameAt (0 + b.toNat)).length : Int))),
                            AV.bool true, AV.int IntKind.i64 (↑i : Int), AV.any]
                          [some (Row.gen 9 1 109 fun i => AV.str (nameAt i))])
                    else
                      k Exit.normal
                        (St.mk
                          [AV.str s, AV.any, AV.any, AV.sl false 0 0 109 false, AV.int IntKind.i64 b,
                            AV.int IntKind.i64 (IntKind.i64.wrap ((↑i : Int) + 1)),
                            AV.str (nameAt (0 + (↑i : Int).toNat)), AV.any, AV.int IntKind.i64 (↑i : Int),
                            AV.sl false 0 0 109 false, AV.int IntKind.i64 109, AV.bool true,
                            AV.int IntKind.i64 (↑i : Int), AV.int IntKind.i64 (IntKind.i64.wrap ((↑i : Int) + 1)),
                            AV.sl false 0 0 109 false, AV.int IntKind.i64 (↑i : Int),
                            AV.ptr false 0 (0 + (↑i : Int).toNat) 0, AV.str (nameAt (0 + (↑i : Int).toNat)),
                            AV.str (nameAt (0 + (↑i : Int).toNat)),
                            AV.int IntKind.i64 (↑(nameAt (0 + (↑i : Int).toNat)).length : Int), AV.str s,
                            AV.int IntKind.i64 (↑s.length : Int),
                            AV.bool (decide ((↑(nameAt (0 + (↑i : Int).toNat)).length : Int) ≤ (↑s.length : Int))),
                            AV.bool true, AV.str s, AV.str (nameAt (0 + (↑i : Int).toNat)),
                            AV.int IntKind.i64 (↑(nameAt (0 + (↑i : Int).toNat)).length : Int),
                            AV.str
                              (List.take (slHi s.length (some (↑(nameAt (0 + (↑i : Int).toNat)).length : Int)) - 0)
                                (List.drop 0 s)),
                            AV.str (nameAt (0 + (↑i : Int).toNat)),
                            AV.bool
                              (List.take (slHi s.length (some (↑(nameAt (0 + (↑i : Int).toNat)).length : Int)) - 0)
                                  (List.drop 0 s) ==
                                nameAt (0 + (↑i : Int).toNat)),
                            AV.bool
                              (List.take (slHi s.length (some (↑(nameAt (0 + (↑i : Int).toNat)).length : Int)) - 0)
                                  (List.drop 0 s) ==
                                nameAt (0 + (↑i : Int).toNat)),
                            AV.bool true, AV.int IntKind.i64 b, AV.bool (decide (b < 0)), AV.bool false,
                            AV.str (nameAt (0 + (↑i : Int).toNat)),
                            AV.int IntKind.i64 (↑(nameAt (0 + (↑i : Int).toNat)).length : Int),
                            AV.sl false 0 0 109 false, AV.int IntKind.i64 b, AV.ptr false 0 (0 + b.toNat) 0,
                            AV.str (nameAt (0 + b.toNat)), AV.int IntKind.i64 (↑(nameAt (0 + b.toNat)).length : Int),
                            AV.bool
                              (decide
                                ((↑(nameAt (0 + (↑i : Int).toNat)).length : Int) >
                                  (↑(nameAt (0 + b.toNat)).length : Int))),
                            AV.bool
                              (decide
                                ((↑(nameAt (0 + (↑i : Int).toNat)).length : Int) >
                                  (↑(nameAt (0 + b.toNat)).length : Int))),
                            AV.bool false, AV.any, AV.any]
                          [some (Row.gen 9 1 109 fun i => AV.str (nameAt i))])
                  else False
                else False
            else
              k Exit.normal
                (St.mk
                  [AV.str s, AV.any, AV.any, AV.sl false 0 0 109 false, AV.int IntKind.i64 b,
                    AV.int IntKind.i64 (IntKind.i64.wrap ((↑i : Int) + 1)), AV.str (nameAt (0 + (↑i : Int).toNat)),
                    AV.any, AV.int IntKind.i64 (↑i : Int), AV.sl false 0 0 109 false, AV.int IntKind.i64 109,
                    AV.bool true, AV.int IntKind.i64 (↑i : Int), AV.int IntKind.i64 (IntKind.i64.wrap ((↑i : Int) + 1)),
                    AV.sl false 0 0 109 false, AV.int IntKind.i64 (↑i : Int), AV.ptr false 0 (0 + (↑i : Int).toNat) 0,
                    AV.str (nameAt (0 + (↑i : Int).toNat)), AV.str (nameAt (0 + (↑i : Int).toNat)),
                    AV.int IntKind.i64 (↑(nameAt (0 + (↑i : Int).toNat)).length : Int), AV.str s,
                    AV.int IntKind.i64 (↑s.length : Int),
                    AV.bool (decide ((↑(nameAt (0 + (↑i : Int).toNat)).length : Int) ≤ (↑s.length : Int))),
                    AV.bool true, AV.str s, AV.str (nameAt (0 + (↑i : Int).toNat)),
                    AV.int IntKind.i64 (↑(nameAt (0 + (↑i : Int).toNat)).length : Int),
                    AV.str
                      (List.take (slHi s.length (some (↑(nameAt (0 + (↑i : Int).toNat)).length : Int)) - 0)
                        (List.drop 0 s)),
                    AV.str (nameAt (0 + (↑i : Int).toNat)),
                    AV.bool
                      (List.take (slHi s.length (some (↑(nameAt (0 + (↑i : Int).toNat)).length : Int)) - 0)
                          (List.drop 0 s) ==
                        nameAt (0 + (↑i : Int).toNat)),
                    AV.bool
                      (List.take (slHi s.length (some (↑(nameAt (0 + (↑i : Int).toNat)).length : Int)) - 0)
                          (List.drop 0 s) ==
                        nameAt (0 + (↑i : Int).toNat)),
                    AV.bool false, AV.tup [], AV.tup [], AV.tup [], AV.tup [], AV.tup [], AV.tup [], AV.tup [],
                    AV.tup [], AV.tup [], AV.tup [], AV.tup [], AV.tup [], AV.bool false, AV.any, AV.any]
                  [some (Row.gen 9 1 109 fun i => AV.str (nameAt i))])
          else False
        else
          k Exit.normal
            (St.mk
              [AV.str s, AV.any, AV.any, AV.sl false 0 0 109 false, AV.int IntKind.i64 b,
                AV.int IntKind.i64 (IntKind.i64.wrap ((↑i : Int) + 1)), AV.str (nameAt (0 + (↑i : Int).toNat)), AV.any,
                AV.int IntKind.i64 (↑i : Int), AV.sl false 0 0 109 false, AV.int IntKind.i64 109, AV.bool true,
                AV.int IntKind.i64 (↑i : Int), AV.int IntKind.i64 (IntKind.i64.wrap ((↑i : Int) + 1)),
                AV.sl false 0 0 109 false, AV.int IntKind.i64 (↑i : Int), AV.ptr false 0 (0 + (↑i : Int).toNat) 0,
                AV.str (nameAt (0 + (↑i : Int).toNat)), AV.str (nameAt (0 + (↑i : Int).toNat)),
                AV.int IntKind.i64 (↑(nameAt (0 + (↑i : Int).toNat)).length : Int), AV.str s,
                AV.int IntKind.i64 (↑s.length : Int),
                AV.bool (decide ((↑(nameAt (0 + (↑i : Int).toNat)).length : Int) ≤ (↑s.length : Int))), AV.bool false,
                AV.tup [], AV.tup [], AV.tup [], AV.tup [], AV.tup [], AV.tup [], AV.bool false, AV.bool false,
                AV.tup [], AV.tup [], AV.tup [], AV.tup [], AV.tup [], AV.tup [], AV.tup [], AV.tup [], AV.tup [],
                AV.tup [], AV.tup [], AV.tup [], AV.bool false, AV.any, AV.any]
              [some (Row.gen 9 1 109 fun i => AV.str (nameAt i))])
      else False
    else False
  else
    k (Exit.exit 0)
      (St.mk
        [AV.str s, AV.any, AV.any, AV.sl false 0 0 109 false, AV.int IntKind.i64 b, AV.int IntKind.i64 (↑i : Int),
          AV.any, AV.any, AV.int IntKind.i64 (↑i : Int), AV.sl false 0 0 109 false, AV.int IntKind.i64 109,
          AV.bool false, AV.any, AV.any, AV.any, AV.any, AV.any, AV.any, AV.any, AV.any, AV.any, AV.any, AV.any, AV.any,
          AV.any, AV.any, AV.any, AV.any, AV.any, AV.any, AV.any, AV.any, AV.any, AV.any, AV.any, AV.any, AV.any,
          AV.any, AV.any, AV.any, AV.any, AV.any, AV.any, AV.any, AV.any, AV.any, AV.any]
        [some (Row.gen 9 1 109 fun i => AV.str (nameAt i))])) := by kernel_rfl
def pfx (s : List UInt8) (j : Nat) : Prop := (nameAt j).length ≤ s.length ∧ s.take (nameAt j).length = nameAt j
structure Inv (s : List UInt8) (b : Int) (i : Nat) : Prop where
  le : i ≤ 109
  best : (b = -1 ∧ ∀ j, j < i → ¬ pfx s j) ∨ (∃ m : Nat, m < i ∧ b = (m : Int) ∧ pfx s m ∧ ∀ j, j < i → pfx s j → (nameAt j).length ≤ (nameAt m).length)
theorem view1 : View some [nrow] [nrow] := by
  refine View.of ?_ (fun c c' b _ _ h1 h2 => by simp at h1 h2; omega)
  intro c o ho
  cases c with
  | zero =>
    simp only [List.getElem?_cons_zero, Option.some.injEq, nrow] at ho
    subst ho
    exact ViewL.at_ (b := 0) rfl rfl (.gen rfl fun i _ => ⟨by simp [ones, AV.cells, AV.one], .strI⟩)
  | succ c => simp at ho
theorem fit28 {s : List UInt8} {b : Int} {i : Nat} {T : List AV} (h : VwL some 1 (fam28 s b i).tmps T) : Fit 1 (fam28 s b i) ⟨T, [nrow]⟩ :=
  ⟨some, ⟨view1, h⟩, fun c hc => rfl, Nat.le_refl _⟩
theorem Inv.keep {s : List UInt8} {b : Int} {i : Nat} (h : Inv s b i) (hi : i < 109) (hn : pfx s i → ∃ m : Nat, b = (m : Int) ∧ (nameAt i).length ≤ (nameAt m).length) : Inv s b (i + 1) where
  le := hi
  best := by
    rcases h.best with ⟨h1, h2⟩ | ⟨m, h1, h2, h3, h4⟩
    · refine .inl ⟨h1, fun j hj hp => ?_⟩
      rcases Nat.lt_or_ge j i with h | h
      · exact h2 j h hp
      · have : j = i := by omega
        subst this
        obtain ⟨m, hm, _⟩ := hn hp
        omega
    · refine .inr ⟨m, by omega, h2, h3, fun j hj hp => ?_⟩
      rcases Nat.lt_or_ge j i with h | h
      · exact h4 j h hp
      · have : j = i := by omega
        subst this
        obtain ⟨m', hm, hl⟩ := hn hp
        have : m' = m := by omega
        subst this
        exact hl
theorem Inv.new {s : List UInt8} {b : Int} {i : Nat} (h : Inv s b i) (hi : i < 109) (hp : pfx s i) (hb : b < 0 ∨ ∃ m : Nat, b = (m : Int) ∧ (nameAt m).length < (nameAt i).length) : Inv s (i : Int) (i + 1) where
  le := hi
  best := by
    refine .inr ⟨i, by omega, rfl, hp, fun j hj hpj => ?_⟩
    rcases Nat.lt_or_ge j i with hlt | h1
    · rcases h.best with ⟨h1, h2⟩ | ⟨m, h1, h2, h3, h4⟩
      · exact absurd hpj (h2 j hlt)
      · have := h4 j hlt hpj
        rcases hb with hb | ⟨m', hm, hl⟩
        · omega
        · have : m' = m := by omega
          subst this
          omega
    · have : j = i := by omega
      subst this
      exact Nat.le_refl _
theorem round28_ok (R : Nat → RoRow) (s : List UInt8) (hs : s.length ≤ 140737488351232) (b : Int) (i : Nat) (hI : Inv s b i) :
    Safe Try.prog R (loopOf fi28 0) (fam28 s b i) fun e st' => match e with
      | .normal => ∃ x : {x : Int × Nat // Inv s x.1 x.2}, 109 - x.1.2 < 109 - i ∧ Fit 1 (fam28 s x.1.1 x.1.2) st'
      | e => ∃ stE, Fit 1 stE st' ∧ (e = .exit 0 ∧ ∃ b, Inv s b 109 ∧ stE = fam28 s b 109) := by
  refine Safe.rnd mixed (env28_ok R) (f := 28) (fi := fi28) (i := 0) (b := .loop (loopOf fi28 0)) (by kernel_rfl) (by kernel_rfl) (by kernel_rfl) 1000 ?_
  rw [round28]
  have hle := hI.le
  have hw : IntKind.i64.wrap ((i : Int) + 1) = ((i + 1 : Nat) : Int) := by rw [wrap64 ((i : Int) + 1) (by omega) (by omega)]; omega
  have e0 : 0 + (i : Int).toNat = i := by simp
  rw [hw, e0]
  refine hcond (fun h1 => ?_) (fun h1 => ?_)
  · have hi : i < 109 := by have := of_decide_eq_true h1; omega
    refine hcond (fun _ => ?_) (fun h => by exfalso; simp at h; omega)
    refine hcond (fun _ => ?_) (fun h => by exfalso; simp at h; omega)
    have keep : (pfx s i → ∃ m : Nat, b = (m : Int) ∧ (nameAt i).length ≤ (nameAt m).length) → ∀ T, VwL some 1 (fam28 s b (i + 1)).tmps T → ∃ x : {x : Int × Nat // Inv s x.1 x.2}, 109 - x.1.2 < 109 - i ∧ Fit 1 (fam28 s x.1.1 x.1.2) ⟨T, [nrow]⟩ :=
      fun hn T hT => ⟨⟨(b, i + 1), hI.keep hi hn⟩, by show 109 - (i + 1) < 109 - i; omega, fit28 hT⟩
    have new : pfx s i → (b < 0 ∨ ∃ m : Nat, b = (m : Int) ∧ (nameAt m).length < (nameAt i).length) → ∀ T, VwL some 1 (fam28 s i (i + 1)).tmps T → ∃ x : {x : Int × Nat // Inv s x.1 x.2}, 109 - x.1.2 < 109 - i ∧ Fit 1 (fam28 s x.1.1 x.1.2) ⟨T, [nrow]⟩ :=
      fun hp hb T hT => ⟨⟨((i : Int), i + 1), hI.new hi hp hb⟩, by show 109 - (i + 1) < 109 - i; omega, fit28 hT⟩
    refine hcond (fun h2 => ?_) (fun h2 => ?_)
    · have h2 := of_decide_eq_true h2
      refine hcond (fun _ => ?_) (fun h => by exfalso; simp [slCond] at h <;> omega)
      have et : List.take (slHi s.length (some ((nameAt i).length : Int)) - 0) (List.drop 0 s) = s.take (nameAt i).length := by simp [slHi]
      rw [et]
      refine hcond (fun h3 => ?_) (fun h3 => ?_)
      · have h3 : s.take (nameAt i).length = nameAt i := by simpa using h3
        have hp : pfx s i := ⟨by omega, h3⟩
        refine hcond (fun h4 => ?_) (fun h4 => ?_)
        · refine new hp (.inl (of_decide_eq_true h4)) _ ?_
          iterate 47 refine VwL.cons (by first | exact Vw.anyI | exact Vw.intI | exact Vw.strI | exact Vw.nilsI | exact Vw.slI (by omega) rfl) ?_
          exact VwL.nil
        · have h4 := of_decide_eq_false h4
          obtain ⟨m, hm1, hm2, hm3, hm4⟩ : ∃ m : Nat, m < i ∧ b = (m : Int) ∧ pfx s m ∧ ∀ j, j < i → pfx s j → (nameAt j).length ≤ (nameAt m).length := by
            rcases hI.best with ⟨h5, _⟩ | h5
            · omega
            · exact h5
          have eb : 0 + b.toNat = m := by omega
          rw [eb]
          refine hcond (fun _ => ?_) (fun h => by exfalso; simp at h; omega)
          refine hcond (fun _ => ?_) (fun h => by exfalso; simp at h; omega)
          refine hcond (fun h5 => ?_) (fun h5 => ?_)
          · have h5 := of_decide_eq_true h5
            refine new hp (.inr ⟨m, hm2, by omega⟩) _ ?_
            iterate 47 refine VwL.cons (by first | exact Vw.anyI | exact Vw.intI | exact Vw.strI | exact Vw.nilsI | exact Vw.slI (by omega) rfl) ?_
            exact VwL.nil
          · have h5 := of_decide_eq_false h5
            refine keep (fun _ => ⟨m, hm2, by omega⟩) _ ?_
            iterate 47 refine VwL.cons (by first | exact Vw.anyI | exact Vw.intI | exact Vw.strI | exact Vw.nilsI | exact Vw.slI (by omega) rfl) ?_
            exact VwL.nil
      · refine keep (fun hp => ?_) _ ?_
        · rw [hp.2] at h3
          simp at h3
        · iterate 47 refine VwL.cons (by first | exact Vw.anyI | exact Vw.intI | exact Vw.strI | exact Vw.nilsI | exact Vw.slI (by omega) rfl) ?_
          exact VwL.nil
    · have h2 := of_decide_eq_false h2
      refine keep (fun hp => ?_) _ ?_
      · have := hp.1; omega
      · iterate 47 refine VwL.cons (by first | exact Vw.anyI | exact Vw.intI | exact Vw.strI | exact Vw.nilsI | exact Vw.slI (by omega) rfl) ?_
        exact VwL.nil
  · have hi : i = 109 := by have := of_decide_eq_false h1; omega
    subst hi
    refine ⟨fam28 s b 109, fit28 ?_, rfl, b, hI, rfl⟩
    iterate 47 refine VwL.cons (by first | exact Vw.anyI | exact Vw.intI | exact Vw.strI | exact Vw.nilsI | exact Vw.slI (by omega) rfl) ?_
    exact VwL.nil
end Go.Dc.Ka

/- The reference's longest name: a call of it. -/
set_option linter.unusedVariables false
set_option linter.unusedSimpArgs false
namespace Go.Dc.Ka
open Go.Proofs Go.RowKit
set_option maxRecDepth 100000
noncomputable def chk3 (i : Nat) : Bool := findB (nameAt i) && (Nat.beq (findI (nameAt i)) i && Nat.ble (nameAt i).length 14)
theorem chk3_all : (List.range 109).all chk3 = true := by kernel_rfl
theorem chk3_at {i : Nat} (h : i < 109) : findB (nameAt i) = true ∧ findI (nameAt i) = i ∧ (nameAt i).length ≤ 14 := by
  have hc : chk3 i = true := List.all_eq_true.1 chk3_all i (List.mem_range.2 h)
  unfold chk3 at hc
  simp only [Bool.and_eq_true] at hc
  exact ⟨hc.1, Nat.eq_of_beq_eq_true hc.2.1, Nat.le_of_ble_eq_true hc.2.2⟩
noncomputable def rI (s : List UInt8) : Int := match lf s with | some i => (i : Int) | none => -1
theorem lf_spec (u : List UInt8) : (lf u = none ∧ ∀ m, 0 < m → m ≤ 14 → m ≤ u.length → findB (u.take m) = false) ∨
    (∃ m i, 0 < m ∧ m ≤ 14 ∧ m ≤ u.length ∧ findB (u.take m) = true ∧ nameAt i = u.take m ∧ i < 109 ∧ lf u = some i ∧ findI (u.take m) = i ∧ ∀ k, m < k → k ≤ 14 → k ≤ u.length → findB (u.take k) = false) := by
  rcases lfrom_spec u (min 14 u.length) with ⟨h1, h2⟩ | ⟨m, h1, h2, h3, h4, h5⟩
  · exact .inl ⟨h1, fun m a b c => h2 m a (by omega)⟩
  · exact .inr ⟨m, findI (u.take m), h1, by omega, by omega, h3, findB_name h3, findI_lt h3, h4, rfl, fun k a b c => h5 k a (by omega)⟩
theorem pfx_find {s : List UInt8} {j : Nat} (hj : j < 109) (h : pfx s j) : findB (s.take (nameAt j).length) = true ∧ 1 ≤ (nameAt j).length ∧ (nameAt j).length ≤ 14 := by
  obtain ⟨a, b, c⟩ := chk3_at hj
  exact ⟨by rw [h.2]; exact a, (chk2_at hj).1, c⟩
theorem Inv.end_ {s : List UInt8} {b : Int} (h : Inv s b 109) : b = rI s := by
  unfold rI
  rcases lf_spec s with ⟨h1, h2⟩ | ⟨m, i, a1, a2, a3, a4, a5, a6, a7, a8, a9⟩
  · rw [h1]
    rcases h.best with ⟨h3, _⟩ | ⟨j, h3, h4, h5, _⟩
    · exact h3
    · obtain ⟨c1, c2, c3⟩ := pfx_find h3 h5
      rw [h2 _ c2 c3 h5.1] at c1
      simp at c1
  · rw [a7]
    have hl : (nameAt i).length = m := by rw [a5, List.length_take, Nat.min_eq_left a3]
    have hp : pfx s i := ⟨by omega, by rw [hl, a5]⟩
    rcases h.best with ⟨_, h4⟩ | ⟨j, h3, h4, h5, h6⟩
    · exact absurd hp (h4 i a6)
    · have hge := h6 i a6 hp
      obtain ⟨c1, c2, c3⟩ := pfx_find h3 h5
      have hnot : ¬ m < (nameAt j).length := fun hlt => by
        rw [a9 _ hlt c3 h5.1] at c1
        simp at c1
      have he : (nameAt j).length = m := by omega
      have hn : nameAt j = nameAt i := by rw [← h5.2, he, a5]
      have : j = i := by
        rw [← (chk3_at h3).2.1, hn, (chk3_at a6).2.1]
      subst this
      exact h4
noncomputable def start28 (s : List UInt8) : St := ⟨[.str s, .tup [], .int .i64 0, .sl false 0 0 109 false, .int .i64 (-1), .int .i64 0, .tup [], .sl false 0 0 109 false] ++ List.replicate 39 (.tup []), [nrow]⟩
theorem loop28_safe (R : Nat → RoRow) (s : List UInt8) (hs : s.length ≤ 140737488351232) : Safe Try.prog R (.block 0 (.loop (loopOf fi28 0))) (start28 s) fun e st => e = .normal ∧ st = fam28 s (rI s) 109 := by
  have h := loop_block (P := Try.prog) (R := R) (I := {x : Int × Nat // Inv s x.1 x.2}) (fam := fun x => fam28 s x.1.1 x.1.2) (fun x => 109 - x.1.2)
    (X := fun e stE => e = .exit 0 ∧ ∃ b, Inv s b 109 ∧ stE = fam28 s b 109) (id := 0)
    (i0 := ⟨(-1, 0), ⟨Nat.zero_le _, .inl ⟨rfl, fun j hj => absurd hj (Nat.not_lt_zero j)⟩⟩⟩) (st := start28 s) (f := some)
    ⟨view1, by
      show VwL some 1 (fam28 s (-1) 0).tmps _
      iterate 47 refine VwL.cons (by first | exact Vw.anyI | exact Vw.intI | exact Vw.strI | exact Vw.nilsI | exact Vw.slI (by omega) rfl) ?_
      exact VwL.nil⟩ (fun c hc => rfl) (fun x => Nat.le_refl _) (fun x => round28_ok R s hs x.1.1 x.1.2 x.2)
  refine h.mono ?_
  rintro e st ⟨e0, rfl, rfl, b, hb, rfl⟩
  exact ⟨rfl, by rw [hb.end_]⟩
noncomputable def loop28 : LoopSp := fun st k => match nthV st.tmps 0 with
  | .str s => (s.length ≤ 140737488351232 ∧ st = start28 s) ∧ k .normal (fam28 s (rI s) 109)
  | _ => False
theorem loop28_ok (R : Nat → RoRow) : ∀ st k, loop28 st k → Safe Try.prog R (.block 0 (.loop (loopOf fi28 0))) st k := by
  intro st k hk
  unfold loop28 at hk
  split at hk
  · rename_i s _
    obtain ⟨⟨hs, rfl⟩, hk⟩ := hk
    refine (loop28_safe R s hs).mono ?_
    rintro e st' ⟨rfl, rfl⟩
    exact hk
  · exact hk.elim
noncomputable abbrev env28b (R : Nat → RoRow) : Env Prop := (env28 R).addLoop 28 0 loop28
theorem env28b_ok (R : Nat → RoRow) : EnvOK Try.prog (env28b R) id := (env28_ok R).addLoop (f := 28) (fi := fi28) (by kernel_rfl) (body := .loop (loopOf fi28 0)) (by kernel_rfl) (loop28_ok R)
theorem vc28 (R : Nat → RoRow) (s : List UInt8) (Q : AV → Prop) : vcd (env28b R) 10000 28 fi28 [.str s] [] (fun v _ => Q v) = ((s.length ≤ 140737488351232 ∧ start28 s = start28 s) ∧ Q (.int .i64 (rI s))) := by kernel_rfl
noncomputable def spec28 : CallSpec := fun args h k => match args with
  | [.str s] => s.length ≤ 140737488351232 ∧ k (.int .i64 (rI s)) h
  | _ => False
theorem spec28_ok (R : Nat → RoRow) : ∀ args h k, spec28 args h k → SafeCall Try.prog R 28 args h k := by
  intro args h k hk
  unfold spec28 at hk
  split at hk
  · rename_i s
    have h1 : SafeCall Try.prog (env28b R).R 28 [.str s] [] fun v _ => v = .int .i64 (rI s) := byVcd (env28b_ok R) (f := 28) (fi := fi28) (by kernel_rfl) 10000 (vc28 R s _) ⟨⟨hk.1, rfl⟩, rfl⟩
    refine (h1.alone (by kernel_rfl) (fun v hv => by rw [hv]; rfl) h).mono ?_
    rintro v' h' ⟨rfl, rfl⟩
    exact hk.2
  · exact hk.elim
end Go.Dc.Ka

/- The reference's scalars of the name at a place. -/
set_option linter.unusedVariables false
set_option linter.unusedSimpArgs false
namespace Go.Dc.Ka
open Go.Proofs Go.RowKit
set_option maxRecDepth 100000
theorem Safe.seq {P : Program} {R : Nat → RoRow} {x y : Code} {st : St} {Q : Exit → St → Prop} (h : Safe P R x st fun e st' => match e with | .normal => Safe P R y st' Q | e => Q e st') : Safe P R (.seq x y) st Q := by
  intro m a w m0 h0 w0 hr hs
  refine wp_seq (wp_mono (h m a w m0 h0 w0 hr hs) ?_)
  rintro e a' w' ⟨m', st', hok, hq, hr', hs'⟩
  cases e with
  | normal => exact hq m' a' w' m0 h0 w0 hr' hs'
  | ret => exact ⟨m', st', trivial, hq, hr', hs'⟩
  | exit id => exact ⟨m', st', trivial, hq, hr', hs'⟩
  | goto l => exact hok.elim
  | panic ch => exact hok.elim
  | outgrown => exact hok.elim
theorem Safe.code {E : Env Prop} (hE : EnvOK Try.prog E id) {f : FuncId} {c : Code} (hc : subs c = []) {st : St} {k : Exit → St → Prop} (n : Nat) (hk : rnd E n f c st k) : Safe Try.prog E.R c st k :=
  code_ok propHolds hE (drawAll_ok propHolds hE.T mixed) n f c st k (fun p hp => by rw [hc] at hp; simp at hp) hk
noncomputable def p30a : Code := match fi30.body with | .seq a _ => a | _ => .skip
noncomputable def p30b : Code := match fi30.body with | .seq _ (.seq b _) => b | _ => .skip
noncomputable def p30c : Code := match fi30.body with | .seq _ (.seq _ c) => c | _ => .skip
theorem body30 : fi30.body = .seq p30a (.seq p30b p30c) := by kernel_rfl
noncomputable def sl30 (i : Nat) : AV := .sl false i 0 (scAt i).length true
noncomputable def T0 (k : Nat) : List AV := [.int .i64 k, .tup [], .nils] ++ List.replicate 115 (.tup [])
noncomputable def T1k (k : Nat) : List AV := [.int .i64 k, .tup [], .nils, .sl false 109 0 109 true] ++ (List.range 109).map sl30 ++ [.sl false 109 0 109 true] ++ List.replicate 4 (.tup [])
noncomputable def scs : Rows := tab.map fun e => some (Row.lst 3 1 (e.2.map (AV.int .i64)))
noncomputable def rowsO : Rows := scs ++ [some (.lst 26 1 ((List.range 109).map sl30))]
theorem run30a (R : Nat → RoRow) (k : Nat) (K : Exit → St → Prop) : rnd (base R) 1000 30 p30a ⟨enterT [.int .i64 k] fi30.ntmps, []⟩ K = K .normal ⟨T0 k, []⟩ := by kernel_rfl
theorem run30b (R : Nat → RoRow) (k : Nat) (K : Exit → St → Prop) : rnd (base R) 1000 30 p30b ⟨T0 k, []⟩ K = K .normal ⟨T1k k, rowsO⟩ := by kernel_rfl
end Go.Dc.Ka

/- The reference's scalars of the name at a place: a call. -/
set_option linter.unusedVariables false
set_option linter.unusedSimpArgs false
namespace Go.Dc.Ka
open Go.Proofs Go.RowKit
set_option maxRecDepth 100000
noncomputable def T2 (k : Nat) : List AV := [.int .i64 k, .any, .any, .sl false 109 0 109 true] ++ List.replicate 114 .any
noncomputable def rowsOG : Rows := scs ++ [some (.gen 26 1 109 sl30)]
noncomputable def fin (R : Nat → RoRow) (Q : AV → Rows → Prop) : Exit → St → Prop := fun e st => match e with
  | .normal | .ret => resK propAns (base R) st fi30.results fun v => Q v st.rows
  | _ => False
theorem run30c (R : Nat → RoRow) (k : Nat) (Q : AV → Rows → Prop) : rnd (base R) 1000 30 p30c ⟨T2 k, rowsOG⟩ (fin R Q) =
  bif decide (0 ≤ (k : Int)) && decide ((k : Int) < 109) then bif decide (0 + (k : Int).toNat < 109) then Q (.sl false (0 + (k : Int).toNat) 0 (scAt (0 + (k : Int).toNat)).length true) rowsOG else False else False := by kernel_rfl
theorem scs_len : scs.length = 109 := by kernel_rfl
theorem scs_at (i : Nat) (hi : i < 109) : scs[i]? = some (some (.lst 3 1 ((scAt i).map (AV.int .i64)))) := by
  unfold scs
  rw [List.getElem?_map]
  have h : tab[i]? = some (tab.getD i ([], [])) := by
    rw [List.getD, List.getElem?_eq_getElem (by rw [tab_len]; exact hi)]
    rfl
  rw [h]
  rfl
theorem viewO : View some rowsOG rowsO := by
  have hG : rowsOG.length = 110 := by kernel_rfl
  refine View.of ?_ (fun c c' b _ _ h1 h2 => by simp at h1 h2; omega)
  intro c o ho
  have hc : c < 110 := by rw [← hG]; exact (List.getElem?_eq_some_iff.1 ho).1
  rw [hG]
  rcases (by omega : c < 109 ∨ c = 109) with h | rfl
  · unfold rowsOG at ho
    rw [List.getElem?_append_left (by rw [scs_len]; exact h), scs_at c h] at ho
    cases ho
    refine ViewL.at_ (b := c) rfl ?_ (gndInts _ _ _)
    unfold rowsO
    rw [List.getElem?_append_left (by rw [scs_len]; exact h)]
    exact scs_at c h
  · unfold rowsOG at ho
    rw [List.getElem?_append_right (by rw [scs_len]; exact Nat.le_refl _), scs_len] at ho
    cases ho
    refine ViewL.at_ (b := 109) (r' := .lst 26 1 ((List.range 109).map sl30)) rfl ?_ ⟨rfl, rfl, by simp [Row.len], ?_⟩
    · unfold rowsO
      rw [List.getElem?_append_right (by rw [scs_len]; exact Nat.le_refl _), scs_len]
      rfl
    · intro i e he
      simp only [Row.get?] at he ⊢
      cases hb : Nat.blt i 109 with
      | false => rw [hb] at he; simp at he
      | true =>
        rw [hb] at he
        simp only [cond_true, Option.some.injEq] at he
        subst he
        have hi : i < 109 := by simpa [Nat.blt_eq] using hb
        refine ⟨by simp [sl30, AV.cells, AV.one], sl30 i, ?_, .slI (by omega) rfl⟩
        rw [List.getElem?_map, List.getElem?_range hi]
        rfl
theorem VwL.anys {f : Nat → Option Nat} {n : Nat} : ∀ {m : Nat} {ys : List AV}, ys.length = m → VwL f n (List.replicate m .any) ys
  | 0, [], _ => VwL.nil
  | 0, _ :: _, h => by simp at h
  | m + 1, [], h => by simp at h
  | m + 1, y :: ys, h => VwL.cons Vw.anyI (VwL.anys (by simpa using h))
theorem safe30 (R : Nat → RoRow) (k : Nat) (hk : k < 109) : SafeCall Try.prog R 30 [.int .i64 k] [] fun v h => v = .sl false k 0 (scAt k).length true ∧ h = rowsOG := by
  have hc : Safe Try.prog (base R).R p30c ⟨T1k k, rowsO⟩ (fin R fun v h => v = .sl false k 0 (scAt k).length true ∧ h = rowsOG) := by
    refine Safe.weaken (stE := ⟨T2 k, rowsOG⟩) (f := some) ⟨viewO, ?_⟩ (fun c hc => rfl) (by show rowsO.length ≤ rowsOG.length; rw [show rowsO.length = 110 by kernel_rfl, show rowsOG.length = 110 by kernel_rfl]; exact Nat.le_refl _) ?_
    · show VwL some rowsOG.length (T2 k) (T1k k)
      rw [show rowsOG.length = 110 by kernel_rfl]
      refine VwL.cons .intI (VwL.cons .anyI (VwL.cons .anyI (VwL.cons (.slI (by omega) rfl) ?_)))
      exact VwL.anys (by simp)
    · refine Safe.code (base_ok R) (f := 30) (by kernel_rfl) 1000 ?_
      rw [run30c]
      have e : 0 + (k : Int).toNat = k := by simp
      rw [e]
      refine hcond (fun _ => ?_) (fun h => by exfalso; simp at h; omega)
      refine hcond (fun _ => ⟨rfl, rfl⟩) (fun h => by exfalso; simp at h; omega)
  have hb : Safe Try.prog (base R).R (.seq p30b p30c) ⟨T0 k, []⟩ (fin R fun v h => v = .sl false k 0 (scAt k).length true ∧ h = rowsOG) := by
    refine Safe.seq (Safe.code (base_ok R) (f := 30) (by kernel_rfl) 1000 ?_)
    rw [run30b]
    exact hc
  have ha : Safe Try.prog (base R).R fi30.body ⟨enterT [.int .i64 k] fi30.ntmps, []⟩ (fin R fun v h => v = .sl false k 0 (scAt k).length true ∧ h = rowsOG) := by
    rw [body30]
    refine Safe.seq (Safe.code (base_ok R) (f := 30) (by kernel_rfl) 1000 ?_)
    rw [run30a]
    exact hb
  refine SafeCall.of_body (base_ok R).T ((base_ok R).F 30 fi30 (by kernel_rfl)) (ha.mono ?_)
  intro e st he
  unfold fin at he
  cases e <;> first
    | exact ⟨.inl rfl, resL_ok propHolds he⟩
    | exact ⟨.inr rfl, resL_ok propHolds he⟩
    | exact he.elim
noncomputable def scrow (k : Nat) : Option Row := some (.gen 3 1 (scAt k).length fun j => .int .i64 ((scAt k).getD j 0))
theorem safe30b (R : Nat → RoRow) (k : Nat) (hk : k < 109) : SafeCall Try.prog R 30 [.int .i64 k] [] fun v h => v = .sl false 0 0 (scAt k).length false ∧ h = [scrow k] := by
  refine (safe30 R k hk).fit ?_
  rintro v h ⟨rfl, rfl⟩
  refine ⟨_, _, ⟨fun c => some k, View.of ?_ ?_, ?_, fun c hc => absurd hc (Nat.not_lt_zero c), Nat.zero_le _⟩, rfl, rfl⟩
  · intro c o ho
    cases c with
    | zero =>
      simp only [List.getElem?_cons_zero, Option.some.injEq, scrow] at ho
      subst ho
      refine ViewL.at_ (b := k) rfl ?_ (genInts _ _ _)
      unfold rowsOG
      rw [List.getElem?_append_left (by rw [scs_len]; exact hk)]
      exact scs_at k hk
    | succ c => simp at ho
  · intro c c' b hc hc' _ _
    simp at hc hc'
    omega
  · exact .slE (by simp) rfl
noncomputable def spec30 : CallSpec := fun args h k => match args with
  | [.int .i64 x] => (0 ≤ x ∧ x < 109) ∧ k (.sl false h.length 0 (scAt x.toNat).length false) (h ++ [scrow x.toNat])
  | _ => False
theorem spec30_ok (R : Nat → RoRow) : ∀ args h k, spec30 args h k → SafeCall Try.prog R 30 args h k := by
  intro args h k hk
  unfold spec30 at hk
  split at hk
  · rename_i x
    obtain ⟨⟨h0, h1⟩, hk⟩ := hk
    obtain ⟨n, rfl⟩ : ∃ n : Nat, x = n := ⟨x.toNat, by omega⟩
    rw [Int.toNat_natCast] at hk
    refine ((safe30b R n (by omega)).fresh (.cons .intI .nil) h).mono ?_
    rintro v'' h'' ⟨v', h', ⟨rfl, rfl⟩, rfl, rfl⟩
    exact hk
  · exact hk.elim
end Go.Dc.Ka

/- The statement on the longest names: its loops. -/
set_option linter.unusedVariables false
set_option linter.unusedSimpArgs false
namespace Go.Dc.Ka
open Go.Proofs Go.RowKit
set_option maxRecDepth 100000
noncomputable abbrev envN (R : Nat → RoRow) : Env Prop := ((((((base R).addCall 21 spec21).addCall 26 isTrue).addCall 27 spec27).addCall 28 spec28).addCall 29 spec29).addCall 30 spec30
theorem envN_ok (R : Nat → RoRow) : EnvOK Try.prog (envN R) id :=
  ((((((base_ok R).addCall (f := 21) (fi := fi21) (by kernel_rfl) (spec21_ok R)).addCall (f := 26) (fi := fi26) (by kernel_rfl) (isTrue_ok (safe26 R))).addCall (f := 27) (fi := fi27) (by kernel_rfl) (spec27_ok R)).addCall (f := 28) (fi := fi28) (by kernel_rfl) (spec28_ok R)).addCall (f := 29) (fi := fi29) (by kernel_rfl) (spec29_ok R)).addCall (f := 30) (fi := fi30) (by kernel_rfl) (spec30_ok R)
noncomputable def famM (s : List UInt8) (m : Bool) (i : Nat) : St := ⟨[.str s, .any, .any, .str (lname s), .sl false 0 0 (lsca s).length false, .sl false 1 0 109 false, .int .i64 (rI s), .bool m, .int .i64 i] ++ List.replicate 83 .any, [lrow s, nrow]⟩
noncomputable def famE (s : List UInt8) (n : Nat) (g : Nat → Int) (i : Nat) : St := ⟨[.str s, .any, .any, .any, .sl false 0 0 n false, .any, .any, .any, .any, .sl false 2 0 n false, .int .i64 i] ++ List.replicate 81 .any, [some (.gen 3 1 n fun j => .int .i64 (g j)), nrow, some (.gen 3 1 n fun j => .int .i64 (g j))]⟩
end Go.Dc.Ka

/- The statement on the longest names: rounds of its loops. -/
set_option linter.unusedVariables false
set_option linter.unusedSimpArgs false
namespace Go.Dc.Ka
open Go.Proofs Go.RowKit
set_option maxRecDepth 100000
theorem roundM (R : Nat → RoRow) (s : List UInt8) (m : Bool) (i : Nat) (k : Exit → St → Prop) : rnd (envN R) 1000 10 (loopOf fi10 0) (famM s m i) k =
    (bif decide ((↑i : Int) < 109) then
    bif m then
      k Exit.normal
        (St.mk
          [AV.str s, AV.any, AV.any, AV.str (lname s), AV.sl false 0 0 (lsca s).length false, AV.sl false 1 0 109 false,
            AV.int IntKind.i64 (rI s), AV.bool true, AV.int IntKind.i64 (IntKind.i64.wrap ((↑i : Int) + 1)), AV.any,
            AV.any, AV.any, AV.any, AV.any, AV.any, AV.any, AV.any, AV.any, AV.any, AV.any, AV.any,
            AV.int IntKind.i64 (↑i : Int), AV.sl false 1 0 109 false, AV.int IntKind.i64 109, AV.bool true,
            AV.int IntKind.i64 (↑i : Int), AV.int IntKind.i64 (IntKind.i64.wrap ((↑i : Int) + 1)), AV.bool m,
            AV.bool true, AV.tup [], AV.tup [], AV.tup [], AV.tup [], AV.tup [], AV.tup [], AV.tup [], AV.tup [],
            AV.tup [], AV.tup [], AV.tup [], AV.tup [], AV.tup [], AV.tup [], AV.tup [], AV.tup [], AV.tup [],
            AV.tup [], AV.tup [], AV.bool true, AV.any, AV.any, AV.any, AV.any, AV.any, AV.any, AV.any, AV.any, AV.any,
            AV.any, AV.any, AV.any, AV.any, AV.any, AV.any, AV.any, AV.any, AV.any, AV.any, AV.any, AV.any, AV.any,
            AV.any, AV.any, AV.any, AV.any, AV.any, AV.any, AV.any, AV.any, AV.any, AV.any, AV.any, AV.any, AV.any,
            AV.any, AV.any, AV.any, AV.any, AV.any, AV.any, AV.any, AV.any]
          [some (Row.gen 3 1 (lsca s).length fun j => AV.int IntKind.i64 ((lsca s).getD j 0)),
            some (Row.gen 9 1 109 fun i => AV.str (nameAt i))])
    else
      bif true && decide ((↑i : Int) < 109) then
        bif decide (0 + (↑i : Int).toNat < 109) then
          bif decide ((↑(nameAt (0 + (↑i : Int).toNat)).length : Int) > (↑s.length : Int)) then
            bif true && decide ((↑i : Int) < 109) then
              bif decide (0 + (↑i : Int).toNat < 109) then
                bif slCond none (some (↑s.length : Int)) (nameAt (0 + (↑i : Int).toNat)).length then
                  k Exit.normal
                    (St.mk
                      [AV.str s, AV.any, AV.any, AV.str (lname s), AV.sl false 0 0 (lsca s).length false,
                        AV.sl false 1 0 109 false, AV.int IntKind.i64 (rI s),
                        AV.bool
                          (List.take (slHi (nameAt (0 + (↑i : Int).toNat)).length (some (↑s.length : Int)) - 0)
                              (List.drop 0 (nameAt (0 + (↑i : Int).toNat))) ==
                            s),
                        AV.int IntKind.i64 (IntKind.i64.wrap ((↑i : Int) + 1)), AV.any, AV.any, AV.any, AV.any, AV.any,
                        AV.any, AV.any, AV.any, AV.any, AV.any, AV.any, AV.any, AV.int IntKind.i64 (↑i : Int),
                        AV.sl false 1 0 109 false, AV.int IntKind.i64 109, AV.bool true, AV.int IntKind.i64 (↑i : Int),
                        AV.int IntKind.i64 (IntKind.i64.wrap ((↑i : Int) + 1)), AV.bool m, AV.bool false,
                        AV.sl false 1 0 109 false, AV.int IntKind.i64 (↑i : Int),
                        AV.ptr false 1 (0 + (↑i : Int).toNat) 0, AV.str (nameAt (0 + (↑i : Int).toNat)),
                        AV.int IntKind.i64 (↑(nameAt (0 + (↑i : Int).toNat)).length : Int), AV.str s,
                        AV.int IntKind.i64 (↑s.length : Int),
                        AV.bool (decide ((↑(nameAt (0 + (↑i : Int).toNat)).length : Int) > (↑s.length : Int))),
                        AV.bool true, AV.sl false 1 0 109 false, AV.int IntKind.i64 (↑i : Int),
                        AV.ptr false 1 (0 + (↑i : Int).toNat) 0, AV.str (nameAt (0 + (↑i : Int).toNat)), AV.str s,
                        AV.int IntKind.i64 (↑s.length : Int),
                        AV.str
                          (List.take (slHi (nameAt (0 + (↑i : Int).toNat)).length (some (↑s.length : Int)) - 0)
                            (List.drop 0 (nameAt (0 + (↑i : Int).toNat)))),
                        AV.str s,
                        AV.bool
                          (List.take (slHi (nameAt (0 + (↑i : Int).toNat)).length (some (↑s.length : Int)) - 0)
                              (List.drop 0 (nameAt (0 + (↑i : Int).toNat))) ==
                            s),
                        AV.bool
                          (List.take (slHi (nameAt (0 + (↑i : Int).toNat)).length (some (↑s.length : Int)) - 0)
                              (List.drop 0 (nameAt (0 + (↑i : Int).toNat))) ==
                            s),
                        AV.bool
                          (List.take (slHi (nameAt (0 + (↑i : Int).toNat)).length (some (↑s.length : Int)) - 0)
                              (List.drop 0 (nameAt (0 + (↑i : Int).toNat))) ==
                            s),
                        AV.any, AV.any, AV.any, AV.any, AV.any, AV.any, AV.any, AV.any, AV.any, AV.any, AV.any, AV.any,
                        AV.any, AV.any, AV.any, AV.any, AV.any, AV.any, AV.any, AV.any, AV.any, AV.any, AV.any, AV.any,
                        AV.any, AV.any, AV.any, AV.any, AV.any, AV.any, AV.any, AV.any, AV.any, AV.any, AV.any, AV.any,
                        AV.any, AV.any, AV.any, AV.any, AV.any, AV.any, AV.any]
                      [some (Row.gen 3 1 (lsca s).length fun j => AV.int IntKind.i64 ((lsca s).getD j 0)),
                        some (Row.gen 9 1 109 fun i => AV.str (nameAt i))])
                else False
              else False
            else False
          else
            k Exit.normal
              (St.mk
                [AV.str s, AV.any, AV.any, AV.str (lname s), AV.sl false 0 0 (lsca s).length false,
                  AV.sl false 1 0 109 false, AV.int IntKind.i64 (rI s), AV.bool false,
                  AV.int IntKind.i64 (IntKind.i64.wrap ((↑i : Int) + 1)), AV.any, AV.any, AV.any, AV.any, AV.any,
                  AV.any, AV.any, AV.any, AV.any, AV.any, AV.any, AV.any, AV.int IntKind.i64 (↑i : Int),
                  AV.sl false 1 0 109 false, AV.int IntKind.i64 109, AV.bool true, AV.int IntKind.i64 (↑i : Int),
                  AV.int IntKind.i64 (IntKind.i64.wrap ((↑i : Int) + 1)), AV.bool m, AV.bool false,
                  AV.sl false 1 0 109 false, AV.int IntKind.i64 (↑i : Int), AV.ptr false 1 (0 + (↑i : Int).toNat) 0,
                  AV.str (nameAt (0 + (↑i : Int).toNat)),
                  AV.int IntKind.i64 (↑(nameAt (0 + (↑i : Int).toNat)).length : Int), AV.str s,
                  AV.int IntKind.i64 (↑s.length : Int),
                  AV.bool (decide ((↑(nameAt (0 + (↑i : Int).toNat)).length : Int) > (↑s.length : Int))), AV.bool false,
                  AV.tup [], AV.tup [], AV.tup [], AV.tup [], AV.tup [], AV.tup [], AV.tup [], AV.tup [], AV.tup [],
                  AV.bool false, AV.bool false, AV.any, AV.any, AV.any, AV.any, AV.any, AV.any, AV.any, AV.any, AV.any,
                  AV.any, AV.any, AV.any, AV.any, AV.any, AV.any, AV.any, AV.any, AV.any, AV.any, AV.any, AV.any,
                  AV.any, AV.any, AV.any, AV.any, AV.any, AV.any, AV.any, AV.any, AV.any, AV.any, AV.any, AV.any,
                  AV.any, AV.any, AV.any, AV.any, AV.any, AV.any, AV.any, AV.any, AV.any, AV.any]
                [some (Row.gen 3 1 (lsca s).length fun j => AV.int IntKind.i64 ((lsca s).getD j 0)),
                  some (Row.gen 9 1 109 fun i => AV.str (nameAt i))])
        else False
      else False
  else
    k (Exit.exit 0)
      (St.mk
        [AV.str s, AV.any, AV.any, AV.str (lname s), AV.sl false 0 0 (lsca s).length false, AV.sl false 1 0 109 false,
          AV.int IntKind.i64 (rI s), AV.bool m, AV.int IntKind.i64 (↑i : Int), AV.any, AV.any, AV.any, AV.any, AV.any,
          AV.any, AV.any, AV.any, AV.any, AV.any, AV.any, AV.any, AV.int IntKind.i64 (↑i : Int),
          AV.sl false 1 0 109 false, AV.int IntKind.i64 109, AV.bool false, AV.any, AV.any, AV.any, AV.any, AV.any,
          AV.any, AV.any, AV.any, AV.any, AV.any, AV.any, AV.any, AV.any, AV.any, AV.any, AV.any, AV.any, AV.any,
          AV.any, AV.any, AV.any, AV.any, AV.any, AV.any, AV.any, AV.any, AV.any, AV.any, AV.any, AV.any, AV.any,
          AV.any, AV.any, AV.any, AV.any, AV.any, AV.any, AV.any, AV.any, AV.any, AV.any, AV.any, AV.any, AV.any,
          AV.any, AV.any, AV.any, AV.any, AV.any, AV.any, AV.any, AV.any, AV.any, AV.any, AV.any, AV.any, AV.any,
          AV.any, AV.any, AV.any, AV.any, AV.any, AV.any, AV.any, AV.any, AV.any, AV.any]
        [some (Row.gen 3 1 (lsca s).length fun j => AV.int IntKind.i64 ((lsca s).getD j 0)),
          some (Row.gen 9 1 109 fun i => AV.str (nameAt i))])) := by kernel_rfl
theorem roundE (R : Nat → RoRow) (s : List UInt8) (n : Nat) (g : Nat → Int) (i : Nat) (k : Exit → St → Prop) : rnd (envN R) 1000 10 (loopOf fi10 2) (famE s n g i) k =
    (bif decide ((↑i : Int) < (↑n : Int)) then
    bif true && decide ((↑i : Int) < (↑n : Int)) then
      bif decide (0 + (↑i : Int).toNat < n) then
        bif true && decide ((↑i : Int) < (↑n : Int)) then
          bif decide (0 + (↑i : Int).toNat < n) then
            bif g (0 + (↑i : Int).toNat) != g (0 + (↑i : Int).toNat) then
              k Exit.ret
                (St.mk
                  [AV.str s, AV.any, AV.bool false, AV.any, AV.sl false 0 0 n false, AV.any, AV.any, AV.any, AV.any,
                    AV.sl false 2 0 n false, AV.int IntKind.i64 (↑i : Int), AV.any, AV.any, AV.any, AV.any, AV.any,
                    AV.any, AV.any, AV.any, AV.any, AV.any, AV.any, AV.any, AV.any, AV.any, AV.any, AV.any, AV.any,
                    AV.any, AV.any, AV.any, AV.any, AV.any, AV.any, AV.any, AV.any, AV.any, AV.any, AV.any, AV.any,
                    AV.any, AV.any, AV.any, AV.any, AV.any, AV.any, AV.any, AV.any, AV.any, AV.any, AV.any, AV.any,
                    AV.any, AV.any, AV.any, AV.any, AV.any, AV.any, AV.any, AV.any, AV.any, AV.any, AV.any, AV.any,
                    AV.any, AV.any, AV.any, AV.any, AV.any, AV.any, AV.any, AV.any, AV.any, AV.any, AV.any, AV.any,
                    AV.any, AV.int IntKind.i64 (↑i : Int), AV.sl false 2 0 n false, AV.int IntKind.i64 (↑n : Int),
                    AV.bool true, AV.any, AV.any, AV.sl false 0 0 n false, AV.int IntKind.i64 (↑i : Int),
                    AV.ptr false 0 (0 + (↑i : Int).toNat) 0, AV.int IntKind.i64 (g (0 + (↑i : Int).toNat)),
                    AV.sl false 2 0 n false, AV.int IntKind.i64 (↑i : Int), AV.ptr false 2 (0 + (↑i : Int).toNat) 0,
                    AV.int IntKind.i64 (g (0 + (↑i : Int).toNat)), AV.bool true]
                  [some (Row.gen 3 1 n fun j => AV.int IntKind.i64 (g j)),
                    some (Row.gen 9 1 109 fun i => AV.str (nameAt i)),
                    some (Row.gen 3 1 n fun j => AV.int IntKind.i64 (g j))])
            else
              k Exit.normal
                (St.mk
                  [AV.str s, AV.any, AV.any, AV.any, AV.sl false 0 0 n false, AV.any, AV.any, AV.any, AV.any,
                    AV.sl false 2 0 n false, AV.int IntKind.i64 (IntKind.i64.wrap ((↑i : Int) + 1)), AV.any, AV.any,
                    AV.any, AV.any, AV.any, AV.any, AV.any, AV.any, AV.any, AV.any, AV.any, AV.any, AV.any, AV.any,
                    AV.any, AV.any, AV.any, AV.any, AV.any, AV.any, AV.any, AV.any, AV.any, AV.any, AV.any, AV.any,
                    AV.any, AV.any, AV.any, AV.any, AV.any, AV.any, AV.any, AV.any, AV.any, AV.any, AV.any, AV.any,
                    AV.any, AV.any, AV.any, AV.any, AV.any, AV.any, AV.any, AV.any, AV.any, AV.any, AV.any, AV.any,
                    AV.any, AV.any, AV.any, AV.any, AV.any, AV.any, AV.any, AV.any, AV.any, AV.any, AV.any, AV.any,
                    AV.any, AV.any, AV.any, AV.any, AV.int IntKind.i64 (↑i : Int), AV.sl false 2 0 n false,
                    AV.int IntKind.i64 (↑n : Int), AV.bool true, AV.int IntKind.i64 (↑i : Int),
                    AV.int IntKind.i64 (IntKind.i64.wrap ((↑i : Int) + 1)), AV.sl false 0 0 n false,
                    AV.int IntKind.i64 (↑i : Int), AV.ptr false 0 (0 + (↑i : Int).toNat) 0,
                    AV.int IntKind.i64 (g (0 + (↑i : Int).toNat)), AV.sl false 2 0 n false,
                    AV.int IntKind.i64 (↑i : Int), AV.ptr false 2 (0 + (↑i : Int).toNat) 0,
                    AV.int IntKind.i64 (g (0 + (↑i : Int).toNat)), AV.bool false]
                  [some (Row.gen 3 1 n fun j => AV.int IntKind.i64 (g j)),
                    some (Row.gen 9 1 109 fun i => AV.str (nameAt i)),
                    some (Row.gen 3 1 n fun j => AV.int IntKind.i64 (g j))])
          else False
        else False
      else False
    else False
  else
    k (Exit.exit 2)
      (St.mk
        [AV.str s, AV.any, AV.any, AV.any, AV.sl false 0 0 n false, AV.any, AV.any, AV.any, AV.any,
          AV.sl false 2 0 n false, AV.int IntKind.i64 (↑i : Int), AV.any, AV.any, AV.any, AV.any, AV.any, AV.any,
          AV.any, AV.any, AV.any, AV.any, AV.any, AV.any, AV.any, AV.any, AV.any, AV.any, AV.any, AV.any, AV.any,
          AV.any, AV.any, AV.any, AV.any, AV.any, AV.any, AV.any, AV.any, AV.any, AV.any, AV.any, AV.any, AV.any,
          AV.any, AV.any, AV.any, AV.any, AV.any, AV.any, AV.any, AV.any, AV.any, AV.any, AV.any, AV.any, AV.any,
          AV.any, AV.any, AV.any, AV.any, AV.any, AV.any, AV.any, AV.any, AV.any, AV.any, AV.any, AV.any, AV.any,
          AV.any, AV.any, AV.any, AV.any, AV.any, AV.any, AV.any, AV.any, AV.int IntKind.i64 (↑i : Int),
          AV.sl false 2 0 n false, AV.int IntKind.i64 (↑n : Int), AV.bool false, AV.any, AV.any, AV.any, AV.any, AV.any,
          AV.any, AV.any, AV.any, AV.any, AV.any, AV.any]
        [some (Row.gen 3 1 n fun j => AV.int IntKind.i64 (g j)), some (Row.gen 9 1 109 fun i => AV.str (nameAt i)),
          some (Row.gen 3 1 n fun j => AV.int IntKind.i64 (g j))])) := by kernel_rfl
def ext_ (s : List UInt8) (j : Nat) : Prop := s.length < (nameAt j).length ∧ (nameAt j).take s.length = s
structure InvM (s : List UInt8) (m : Bool) (i : Nat) : Prop where
  le : i ≤ 109
  iff : m = true ↔ ∃ j, j < i ∧ ext_ s j
theorem viewM (s : List UInt8) : View some [lrow s, nrow] [lrow s, nrow] := by
  refine View.of ?_ (fun c c' b _ _ h1 h2 => by simp at h1 h2; omega)
  intro c o ho
  have hc : c < 2 := (List.getElem?_eq_some_iff.1 ho).1
  rcases (by omega : c = 0 ∨ c = 1) with rfl | rfl
  · cases ho
    exact ViewL.at_ (b := 0) rfl rfl (.gen rfl fun i _ => ⟨rfl, .intI⟩)
  · cases ho
    exact ViewL.at_ (b := 1) rfl rfl (.gen rfl fun i _ => ⟨rfl, .strI⟩)
theorem fitM {s : List UInt8} {m : Bool} {i : Nat} {T : List AV} (h : VwL some 2 (famM s m i).tmps T) : Fit 2 (famM s m i) ⟨T, [lrow s, nrow]⟩ :=
  ⟨some, ⟨viewM s, h⟩, fun c hc => rfl, Nat.le_refl _⟩
theorem roundM_ok (R : Nat → RoRow) (s : List UInt8) (hs : s.length ≤ 140737488351232) (m : Bool) (i : Nat) (hI : InvM s m i) :
    Safe Try.prog R (loopOf fi10 0) (famM s m i) fun e st' => match e with
      | .normal => ∃ x : {x : Bool × Nat // InvM s x.1 x.2}, 109 - x.1.2 < 109 - i ∧ Fit 2 (famM s x.1.1 x.1.2) st'
      | e => ∃ stE, Fit 2 stE st' ∧ (e = .exit 0 ∧ ∃ m, InvM s m 109 ∧ stE = famM s m 109) := by
  refine Safe.rnd mixed (envN_ok R) (f := 10) (fi := fi10) (i := 0) (b := .loop (loopOf fi10 0)) (by kernel_rfl) (by kernel_rfl) (by kernel_rfl) 1000 ?_
  rw [roundM]
  have hle := hI.le
  have hw : IntKind.i64.wrap ((i : Int) + 1) = ((i + 1 : Nat) : Int) := by rw [wrap64 ((i : Int) + 1) (by omega) (by omega)]; omega
  have e0 : 0 + (i : Int).toNat = i := by simp
  rw [hw, e0]
  have go : ∀ (m' : Bool), i < 109 → (m' = true ↔ (m = true ∨ ext_ s i)) → ∀ T, VwL some 2 (famM s m' (i + 1)).tmps T → ∃ x : {x : Bool × Nat // InvM s x.1 x.2}, 109 - x.1.2 < 109 - i ∧ Fit 2 (famM s x.1.1 x.1.2) ⟨T, [lrow s, nrow]⟩ := by
    intro m' hi hm T hT
    refine ⟨⟨(m', i + 1), hi, ?_⟩, by show 109 - (i + 1) < 109 - i; omega, fitM hT⟩
    rw [hm, hI.iff]
    constructor
    · rintro (⟨j, h1, h2⟩ | h)
      · exact ⟨j, by omega, h2⟩
      · exact ⟨i, by omega, h⟩
    · rintro ⟨j, h1, h2⟩
      rcases Nat.lt_or_ge j i with h | h
      · exact .inl ⟨j, h, h2⟩
      · have : j = i := by omega
        subst this
        exact .inr h2
  refine hcond (fun h1 => ?_) (fun h1 => ?_)
  · have hi : i < 109 := by have := of_decide_eq_true h1; omega
    refine hcond (fun hm => ?_) (fun hm => ?_)
    · refine go true hi (by simp [hm]) _ ?_
      iterate 92 refine VwL.cons (by first | exact Vw.anyI | exact Vw.intI | exact Vw.strI | exact Vw.boolI | exact Vw.slI (by omega) rfl) ?_
      exact VwL.nil
    · refine hcond (fun _ => ?_) (fun h => by exfalso; simp at h; omega)
      refine hcond (fun _ => ?_) (fun h => by exfalso; simp at h; omega)
      refine hcond (fun h2 => ?_) (fun h2 => ?_)
      · have h2 := of_decide_eq_true h2
        refine hcond (fun _ => ?_) (fun h => by exfalso; simp at h; omega)
        refine hcond (fun _ => ?_) (fun h => by exfalso; simp at h; omega)
        refine hcond (fun _ => ?_) (fun h => by exfalso; simp [slCond] at h <;> omega)
        have et : List.take (slHi (nameAt i).length (some (s.length : Int)) - 0) (List.drop 0 (nameAt i)) = (nameAt i).take s.length := by simp [slHi]
        rw [et]
        refine go ((nameAt i).take s.length == s) hi ?_ _ ?_
        · rw [hm]
          simp only [beq_iff_eq, Bool.false_eq_true, false_or]
          exact ⟨fun h => ⟨by omega, h⟩, fun h => h.2⟩
        · iterate 92 refine VwL.cons (by first | exact Vw.anyI | exact Vw.intI | exact Vw.strI | exact Vw.boolI | exact Vw.slI (by omega) rfl) ?_
          exact VwL.nil
      · have h2 := of_decide_eq_false h2
        refine go false hi ?_ _ ?_
        · rw [hm]
          constructor
          · intro h; simp at h
          · rintro (h | h)
            · simp at h
            · have := h.1; omega
        · iterate 92 refine VwL.cons (by first | exact Vw.anyI | exact Vw.intI | exact Vw.strI | exact Vw.boolI | exact Vw.slI (by omega) rfl) ?_
          exact VwL.nil
  · have hi : i = 109 := by have := of_decide_eq_false h1; omega
    subst hi
    refine ⟨famM s m 109, fitM ?_, rfl, m, hI, rfl⟩
    iterate 92 refine VwL.cons (by first | exact Vw.anyI | exact Vw.intI | exact Vw.strI | exact Vw.boolI | exact Vw.slI (by omega) rfl) ?_
    exact VwL.nil
noncomputable def rowsE (n : Nat) (g : Nat → Int) : Rows := [some (.gen 3 1 n fun j => .int .i64 (g j)), nrow, some (.gen 3 1 n fun j => .int .i64 (g j))]
theorem viewE (n : Nat) (g : Nat → Int) : View some (rowsE n g) (rowsE n g) := by
  refine View.of ?_ (fun c c' b _ _ h1 h2 => by simp at h1 h2; omega)
  intro c o ho
  have hc : c < 3 := (List.getElem?_eq_some_iff.1 ho).1
  rcases (by omega : c = 0 ∨ c = 1 ∨ c = 2) with rfl | rfl | rfl
  · cases ho
    exact ViewL.at_ (b := 0) rfl rfl (.gen rfl fun i _ => ⟨rfl, .intI⟩)
  · cases ho
    exact ViewL.at_ (b := 1) rfl rfl (.gen rfl fun i _ => ⟨rfl, .strI⟩)
  · cases ho
    exact ViewL.at_ (b := 2) rfl rfl (.gen rfl fun i _ => ⟨rfl, .intI⟩)
theorem roundE_ok (R : Nat → RoRow) (s : List UInt8) (n : Nat) (g : Nat → Int) (hn : n ≤ 100) (i : Nat) (hi : i ≤ n) :
    Safe Try.prog R (loopOf fi10 2) (famE s n g i) fun e st' => match e with
      | .normal => ∃ x : {x : Nat // x ≤ n}, n - x.1 < n - i ∧ Fit 3 (famE s n g x.1) st'
      | e => ∃ stE, Fit 3 stE st' ∧ (e = .exit 2 ∧ stE = famE s n g n) := by
  refine Safe.rnd mixed (envN_ok R) (f := 10) (fi := fi10) (i := 2) (b := .loop (loopOf fi10 2)) (by kernel_rfl) (by kernel_rfl) (by kernel_rfl) 1000 ?_
  rw [roundE]
  have hw : IntKind.i64.wrap ((i : Int) + 1) = ((i + 1 : Nat) : Int) := by rw [wrap64 ((i : Int) + 1) (by omega) (by omega)]; omega
  have e0 : 0 + (i : Int).toNat = i := by simp
  rw [hw, e0]
  refine hcond (fun h1 => ?_) (fun h1 => ?_)
  · have hi : i < n := by have := of_decide_eq_true h1; omega
    refine hcond (fun _ => ?_) (fun h => by exfalso; simp at h; omega)
    refine hcond (fun _ => ?_) (fun h => by exfalso; simp at h; omega)
    refine hcond (fun _ => ?_) (fun h => by exfalso; simp at h; omega)
    refine hcond (fun _ => ?_) (fun h => by exfalso; simp at h; omega)
    refine hcond (fun h => by exfalso; simp at h) (fun _ => ?_)
    refine ⟨⟨i + 1, by omega⟩, by show n - (i + 1) < n - i; omega, some, ⟨viewE n g, ?_⟩, fun c hc => rfl, Nat.le_refl _⟩
    show VwL some 3 (famE s n g (i + 1)).tmps _
    iterate 92 refine VwL.cons (by first | exact Vw.anyI | exact Vw.intI | exact Vw.strI | exact Vw.boolI | exact Vw.slI (by omega) rfl) ?_
    exact VwL.nil
  · have hi : i = n := by have := of_decide_eq_false h1; omega
    subst hi
    refine ⟨famE s i g i, ⟨some, ⟨viewE i g, ?_⟩, fun c hc => rfl, Nat.le_refl _⟩, rfl, rfl⟩
    show VwL some 3 (famE s i g i).tmps _
    iterate 92 refine VwL.cons (by first | exact Vw.anyI | exact Vw.intI | exact Vw.strI | exact Vw.boolI | exact Vw.slI (by omega) rfl) ?_
    exact VwL.nil
end Go.Dc.Ka

/- A longer name begins with a text just where the search says so: the plain law. -/
set_option linter.unusedVariables false
set_option linter.unusedSimpArgs false
namespace Go.Dc.Ka
open Go.Proofs Go.RowKit
set_option maxRecDepth 100000
abbrev cb := Lib.compareBytes
theorem cb_cons (a b : UInt8) (x y : List UInt8) : cb (a :: x) (b :: y) = if a < b then -1 else if b < a then 1 else cb x y := rfl
theorem u8_tri (a b : UInt8) : a < b ∨ a = b ∨ b < a := by
  rcases Nat.lt_trichotomy a.toNat b.toNat with h | h | h
  · exact .inl (UInt8.lt_iff_toNat_lt.2 h)
  · exact .inr (.inl (UInt8.toNat_inj.1 h))
  · exact .inr (.inr (UInt8.lt_iff_toNat_lt.2 h))
theorem u8_irr (a : UInt8) : ¬ a < a := fun h => by rw [UInt8.lt_iff_toNat_lt] at h; omega
theorem u8_asym {a b : UInt8} (h : a < b) : ¬ b < a := fun h2 => by rw [UInt8.lt_iff_toNat_lt] at h h2; omega
theorem u8_trans {a b c : UInt8} (h : a < b) (h2 : b < c) : a < c := by rw [UInt8.lt_iff_toNat_lt] at *; omega
theorem cb_self : ∀ a, cb a a = 0
  | [] => rfl
  | x :: xs => by rw [cb_cons, if_neg (u8_irr x), if_neg (u8_irr x)]; exact cb_self xs
theorem cb_anti : ∀ a b, cb a b < 0 ↔ 0 < cb b a
  | [], [] => by simp [Lib.compareBytes]
  | [], _ :: _ => by simp [Lib.compareBytes]
  | _ :: _, [] => by simp [Lib.compareBytes]
  | x :: xs, y :: ys => by
    rw [cb_cons, cb_cons]
    rcases u8_tri x y with h | h | h
    · rw [if_pos h, if_neg (u8_asym h), if_pos h]; simp
    · subst h
      rw [if_neg (u8_irr x), if_neg (u8_irr x), if_neg (u8_irr x), if_neg (u8_irr x)]
      exact cb_anti xs ys
    · rw [if_neg (u8_asym h), if_pos h, if_pos h]; simp
theorem cb_trans : ∀ {a b c : List UInt8}, cb a b < 0 → cb b c < 0 → cb a c < 0
  | [], _, [], h1, h2 => by
    rename_i b
    cases b <;> simp [Lib.compareBytes] at h1 h2
  | [], _, _ :: _, _, _ => by simp [Lib.compareBytes]
  | _ :: _, [], _, h1, _ => by simp [Lib.compareBytes] at h1
  | _ :: _, _ :: _, [], _, h2 => by simp [Lib.compareBytes] at h2
  | x :: xs, y :: ys, z :: zs, h1, h2 => by
    rw [cb_cons] at h1 h2 ⊢
    rcases u8_tri x y with h | h | h
    · rcases u8_tri y z with g | g | g
      · rw [if_pos (u8_trans h g)]; decide
      · subst g; rw [if_pos h]; decide
      · rw [if_neg (u8_asym g), if_pos g] at h2; simp at h2
    · subst h
      rw [if_neg (u8_irr x), if_neg (u8_irr x)] at h1
      rcases u8_tri x z with g | g | g
      · rw [if_pos g]; decide
      · subst g
        rw [if_neg (u8_irr x), if_neg (u8_irr x)] at h2 ⊢
        exact cb_trans h1 h2
      · rw [if_neg (u8_asym g), if_pos g] at h2; simp at h2
    · rw [if_neg (u8_asym h), if_pos h] at h1; simp at h1
theorem cb_prefix : ∀ {s y x : List UInt8}, ¬ 0 < cb s y → ¬ 0 < cb y (s ++ x) → s.length ≤ y.length ∧ y.take s.length = s
  | [], y, x, _, _ => ⟨Nat.zero_le _, rfl⟩
  | a :: s, [], x, h1, _ => by simp [Lib.compareBytes] at h1
  | a :: s, b :: y, x, h1, h2 => by
    rw [List.cons_append, cb_cons] at h2
    rw [cb_cons] at h1
    rcases u8_tri a b with h | h | h
    · rw [if_neg (u8_asym h), if_pos h] at h2; simp at h2
    · subst h
      rw [if_neg (u8_irr a), if_neg (u8_irr a)] at h1 h2
      obtain ⟨g1, g2⟩ := cb_prefix h1 h2
      refine ⟨by simp; omega, ?_⟩
      simp [g2]
    · rw [if_neg (u8_asym h), if_pos h] at h1; simp at h1
theorem cb_ext : ∀ {s x : List UInt8}, x ≠ [] → 0 < cb (s ++ x) s
  | [], [], h => absurd rfl h
  | [], _ :: _, _ => by simp [Lib.compareBytes]
  | a :: s, x, h => by
    rw [List.cons_append, cb_cons, if_neg (u8_irr a), if_neg (u8_irr a)]
    exact cb_ext h
noncomputable def chk4 (i : Nat) : Bool := decide (cb (nameAt i) (nameAt (i + 1)) < 0)
theorem chk4_all : (List.range 108).all chk4 = true := by kernel_rfl
theorem rise {i : Nat} : ∀ {d : Nat}, i + d + 1 < 109 → cb (nameAt i) (nameAt (i + d + 1)) < 0
  | 0, h => of_decide_eq_true (List.all_eq_true.1 chk4_all i (List.mem_range.2 (by omega)))
  | d + 1, h => cb_trans (rise (d := d) (by omega)) (of_decide_eq_true (List.all_eq_true.1 chk4_all (i + d + 1) (List.mem_range.2 (by omega))))
theorem rising {i j : Nat} (h : i < j) (hj : j < 109) : cb (nameAt i) (nameAt j) < 0 := by
  have := rise (i := i) (d := j - i - 1) (by omega)
  rwa [show i + (j - i - 1) + 1 = j by omega] at this
theorem bsI_spec (s : List UInt8) : ∀ f lo hi, lo ≤ hi → hi ≤ 109 → hi - lo < 2 ^ f → (∀ k, k < lo → cb (nameAt k) s < 0) → (∀ k, hi ≤ k → k < 109 → ¬ cb (nameAt k) s < 0) →
    (∀ k, k < bsI s f lo hi → cb (nameAt k) s < 0) ∧ (∀ k, bsI s f lo hi ≤ k → k < 109 → ¬ cb (nameAt k) s < 0)
  | 0, lo, hi, h1, h2, h3, h4, h5 => by
    have : hi = lo := by simp at h3; omega
    subst this
    exact ⟨h4, h5⟩
  | f + 1, lo, hi, h1, h2, h3, h4, h5 => by
    have e : bsI s (f + 1) lo hi = bif Nat.blt lo hi then bif decide (cb (nameAt ((lo + hi) / 2)) s < 0) then bsI s f ((lo + hi) / 2 + 1) hi else bsI s f lo ((lo + hi) / 2) else lo := rfl
    rw [e]
    have hp : 2 ^ (f + 1) = 2 ^ f + 2 ^ f := by rw [Nat.pow_succ]; omega
    cases hb : Nat.blt lo hi with
    | false =>
      have : ¬ lo < hi := fun h => by rw [show Nat.blt lo hi = true by simpa [Nat.blt_eq] using h] at hb; simp at hb
      have : hi = lo := by omega
      subst this
      exact ⟨h4, h5⟩
    | true =>
      have hlt : lo < hi := by simpa [Nat.blt_eq] using hb
      simp only [cond_true]
      cases hd : decide (cb (nameAt ((lo + hi) / 2)) s < 0) with
      | true =>
        have hd := of_decide_eq_true hd
        refine bsI_spec s f _ _ (by omega) h2 (by omega) (fun k hk => ?_) h5
        rcases Nat.lt_or_ge k ((lo + hi) / 2) with h | h
        · exact cb_trans (rising h (by omega)) hd
        · rw [show k = (lo + hi) / 2 by omega]; exact hd
      | false =>
        have hd := of_decide_eq_false hd
        refine bsI_spec s f _ _ (by omega) (by omega) (by omega) h4 (fun k hk hk2 hlt2 => ?_)
        rcases Nat.lt_or_ge ((lo + hi) / 2) k with h | h
        · exact hd (cb_trans (rising h hk2) hlt2)
        · rw [show k = (lo + hi) / 2 by omega] at hlt2; exact hd hlt2
theorem findI_spec (s : List UInt8) : (∀ k, k < findI s → cb (nameAt k) s < 0) ∧ (∀ k, findI s ≤ k → k < 109 → ¬ cb (nameAt k) s < 0) :=
  bsI_spec s 8 0 109 (by omega) (by omega) (by decide) (fun k hk => absurd hk (Nat.not_lt_zero k)) (fun k h1 h2 => by omega)
theorem begJ_iff (j : Nat) (s : List UInt8) : begJ j s = true ↔ j < 109 ∧ s.length ≤ (nameAt j).length ∧ (nameAt j).take s.length = s := by
  unfold begJ
  simp [Nat.blt_eq, Nat.ble_eq]
theorem begF_iff (s : List UInt8) : begF s = true ↔ ∃ j, j < 109 ∧ ext_ s j := by
  obtain ⟨l1, l2⟩ := findI_spec s
  unfold begF
  constructor
  · intro h
    rw [begJ_iff] at h
    obtain ⟨h1, h2, h3⟩ := h
    refine ⟨_, h1, ?_, h3⟩
    rcases Nat.lt_or_ge s.length (nameAt (findI s + bif findB s then 1 else 0)).length with h | h
    · exact h
    · exfalso
      have he : nameAt (findI s + bif findB s then 1 else 0) = s := (List.take_of_length_le h).symm.trans h3
      cases hb : findB s with
      | true =>
        rw [hb] at he h1
        simp only [cond_true] at he h1
        have hn := findB_name hb
        have := rising (show findI s < findI s + 1 by omega) h1
        rw [hn, he, cb_self] at this
        omega
      | false =>
        rw [hb] at he h1
        simp only [cond_false, Nat.add_zero] at he h1
        unfold findB at hb
        rw [show Nat.blt (findI s) 109 = true by simpa [Nat.blt_eq] using h1] at hb
        simp only [cond_true] at hb
        rw [he] at hb
        have hz : Lib.compareBytes s s = 0 := cb_self s
        rw [hz] at hb
        simp at hb
  · rintro ⟨i, hi, hlt, ht⟩
    rw [begJ_iff]
    obtain ⟨x, hx, hxe⟩ : ∃ x, nameAt i = s ++ x ∧ x ≠ [] := by
      refine ⟨(nameAt i).drop s.length, ?_, ?_⟩
      · have := List.take_append_drop s.length (nameAt i)
        rw [ht] at this
        exact this.symm
      · intro e
        have := congrArg List.length e
        simp at this
        omega
    have hpos : 0 < cb (nameAt i) s := by rw [hx]; exact cb_ext hxe
    have hri : findI s ≤ i := by
      rcases Nat.lt_or_ge i (findI s) with h | h
      · have := l1 i h; omega
      · exact h
    have hle : ∀ j, j ≤ i → ¬ 0 < cb (nameAt j) (s ++ x) := by
      intro j hj
      rw [← hx]
      rcases Nat.lt_or_ge j i with h | h
      · have := rising h hi; omega
      · rw [show j = i by omega, cb_self]; omega
    cases hb : findB s with
    | true =>
      simp only [cond_true]
      have hn := findB_name hb
      have hne : findI s ≠ i := by
        intro e
        rw [← e, hn, cb_self] at hpos
        omega
      have hj : findI s + 1 ≤ i := by omega
      have h1 := rising (show findI s < findI s + 1 by omega) (show findI s + 1 < 109 by omega)
      rw [hn] at h1
      have hp := cb_prefix (s := s) (y := nameAt (findI s + 1)) (x := x) (by omega) (hle _ hj)
      exact ⟨by omega, hp.1, hp.2⟩
    | false =>
      simp only [cond_false, Nat.add_zero]
      have h1 := l2 (findI s) (Nat.le_refl _) (by omega)
      have h2 : ¬ 0 < cb s (nameAt (findI s)) := fun h => h1 ((cb_anti _ _).2 h)
      have hp := cb_prefix (s := s) (y := nameAt (findI s)) (x := x) h2 (hle _ hri)
      exact ⟨by omega, hp.1, hp.2⟩
end Go.Dc.Ka

/- The statement on the longest names: its first loop as a whole. -/
set_option linter.unusedVariables false
set_option linter.unusedSimpArgs false
namespace Go.Dc.Ka
open Go.Proofs Go.RowKit
set_option maxRecDepth 100000
theorem InvM.end_ {s : List UInt8} {m : Bool} (h : InvM s m 109) : m = begF s := by
  have h1 := h.iff.trans (begF_iff s).symm
  cases m with
  | true => exact (h1.1 rfl).symm
  | false =>
    cases hb : begF s with
    | true => exact h1.2 hb
    | false => rfl
noncomputable def startM (s : List UInt8) : St := ⟨[.str s, .tup [], .bool false, .str (lname s), .sl false 0 0 (lsca s).length false, .sl false 1 0 109 false, .int .i64 (rI s), .bool false, .int .i64 0, .tup [], .tup [], .bool true, .bool false,
  .tup [.str (lname s), .sl false 0 0 (lsca s).length false], .str s, .tup [.str (lname s), .sl false 0 0 (lsca s).length false], .str (lname s), .sl false 0 0 (lsca s).length false, .sl false 1 0 109 false, .str s, .int .i64 (rI s)] ++ List.replicate 71 (.tup []), [lrow s, nrow]⟩
theorem loopM_safe (R : Nat → RoRow) (s : List UInt8) (hs : s.length ≤ 140737488351232) : Safe Try.prog R (.block 0 (.loop (loopOf fi10 0))) (startM s) fun e st => e = .normal ∧ st = famM s (begF s) 109 := by
  have h := loop_block (P := Try.prog) (R := R) (I := {x : Bool × Nat // InvM s x.1 x.2}) (fam := fun x => famM s x.1.1 x.1.2) (fun x => 109 - x.1.2)
    (X := fun e stE => e = .exit 0 ∧ ∃ m, InvM s m 109 ∧ stE = famM s m 109) (id := 0)
    (i0 := ⟨(false, 0), ⟨Nat.zero_le _, by simp⟩⟩) (st := startM s) (f := some)
    ⟨viewM s, by
      show VwL some 2 (famM s false 0).tmps _
      iterate 92 refine VwL.cons (by first | exact Vw.anyI | exact Vw.intI | exact Vw.strI | exact Vw.boolI | exact Vw.slI (by omega) rfl) ?_
      exact VwL.nil⟩ (fun c hc => rfl) (fun x => Nat.le_refl _) (fun x => roundM_ok R s hs x.1.1 x.1.2 x.2)
  refine h.mono ?_
  rintro e st ⟨e0, rfl, rfl, m, hm, rfl⟩
  exact ⟨rfl, by rw [hm.end_]⟩
noncomputable def loopM : LoopSp := fun st k => match nthV st.tmps 0 with
  | .str s => (s.length ≤ 140737488351232 ∧ st = startM s) ∧ k .normal (famM s (begF s) 109)
  | _ => False
theorem loopM_ok (R : Nat → RoRow) : ∀ st k, loopM st k → Safe Try.prog R (.block 0 (.loop (loopOf fi10 0))) st k := by
  intro st k hk
  unfold loopM at hk
  split at hk
  · rename_i s _
    obtain ⟨⟨hs, rfl⟩, hk⟩ := hk
    refine (loopM_safe R s hs).mono ?_
    rintro e st' ⟨rfl, rfl⟩
    exact hk
  · exact hk.elim
noncomputable abbrev envN1 (R : Nat → RoRow) : Env Prop := (envN R).addLoop 10 0 loopM
theorem envN1_ok (R : Nat → RoRow) : EnvOK Try.prog (envN1 R) id := (envN_ok R).addLoop (f := 10) (fi := fi10) (by kernel_rfl) (body := .loop (loopOf fi10 0)) (by kernel_rfl) (loopM_ok R)
end Go.Dc.Ka

/- The longest name with which any text begins, its scalars, and whether a longer one may come: the walk. -/
set_option linter.unusedVariables false
set_option linter.unusedSimpArgs false
namespace Go.Dc.Ka
open Go.Proofs Go.RowKit
set_option maxRecDepth 100000
noncomputable def TE (s : List UInt8) : List AV := [AV.str s, AV.any, AV.any, AV.str (lname s), AV.sl false 0 0 (lsca s).length false,
                          AV.sl false 1 0 109 false, AV.int IntKind.i64 (rI s), AV.bool (begF s),
                          AV.int IntKind.i64 109, AV.sl false 2 0 (scAt (rI s).toNat).length false,
                          AV.int IntKind.i64 0, AV.any, AV.any, AV.any, AV.any, AV.any, AV.any, AV.any, AV.any, AV.any,
                          AV.any, AV.any, AV.any, AV.any, AV.any, AV.any, AV.any, AV.any, AV.any, AV.any, AV.any,
                          AV.any, AV.any, AV.any, AV.any, AV.any, AV.any, AV.any, AV.any, AV.any, AV.any, AV.any,
                          AV.any, AV.any, AV.any, AV.any, AV.any, AV.any, AV.any, AV.str s, AV.bool (begF s),
                          AV.bool (begF s), AV.bool false, AV.int IntKind.i64 (rI s), AV.bool false, AV.any, AV.any,
                          AV.any, AV.any, AV.any, AV.any, AV.any, AV.int IntKind.i64 (rI s),
                          AV.sl false 2 0 (scAt (rI s).toNat).length false, AV.str (lname s), AV.sl false 1 0 109 false,
                          AV.int IntKind.i64 (rI s), AV.ptr false 1 (0 + (rI s).toNat) 0,
                          AV.str (nameAt (0 + (rI s).toNat)), AV.bool !lname s == nameAt (0 + (rI s).toNat),
                          AV.bool false, AV.sl false 0 0 (lsca s).length false,
                          AV.int IntKind.i64 (↑(lsca s).length : Int), AV.sl false 2 0 (scAt (rI s).toNat).length false,
                          AV.int IntKind.i64 (↑(scAt (rI s).toNat).length : Int),
                          AV.bool ((↑(lsca s).length : Int) != (↑(scAt (rI s).toNat).length : Int)), AV.bool false,
                          AV.any, AV.any, AV.any, AV.any, AV.any, AV.any, AV.any, AV.any, AV.any, AV.any, AV.any,
                          AV.any, AV.any, AV.any, AV.any]
noncomputable def startE (s : List UInt8) : St := ⟨TE s, [lrow s, nrow, scrow (rI s).toNat]⟩
noncomputable def chk5 (i : Nat) : Bool := Nat.ble (scAt i).length 100
theorem chk5_all : (List.range 109).all chk5 = true := by kernel_rfl
theorem rI_facts {s : List UInt8} (h : 0 ≤ rI s) : rI s < 109 ∧ nameAt (rI s).toNat = lname s ∧ scAt (rI s).toNat = lsca s ∧ (lsca s).length ≤ 100 := by
  unfold rI at h ⊢
  cases hl : lf s with
  | none => rw [hl] at h; simp at h
  | some i =>
    have hi : i < 109 := lfrom_lt hl
    have h5 : (scAt i).length ≤ 100 := Nat.le_of_ble_eq_true (List.all_eq_true.1 chk5_all i (List.mem_range.2 hi))
    simp only [Int.toNat_natCast]
    refine ⟨by omega, ?_, ?_, ?_⟩
    · unfold lname; rw [hl]
    · unfold lsca; rw [hl]
    · unfold lsca; rw [hl]; exact h5
theorem rI_none {s : List UInt8} (h : rI s < 0) : lname s = [] ∧ lsca s = [] := by
  unfold rI at h
  cases hl : lf s with
  | none => exact ⟨by unfold lname; rw [hl], by unfold lsca; rw [hl]⟩
  | some i => rw [hl] at h; simp at h; omega
theorem loopE_safe (R : Nat → RoRow) (s : List UInt8) (h0 : 0 ≤ rI s) : Safe Try.prog R (.block 2 (.loop (loopOf fi10 2))) (startE s) fun e st => e = .normal ∧ st = famE s (lsca s).length (fun j => (lsca s).getD j 0) (lsca s).length := by
  obtain ⟨f1, f2, f3, f4⟩ := rI_facts h0
  have hrow : (startE s).rows = rowsE (lsca s).length (fun j => (lsca s).getD j 0) := by
    show [lrow s, nrow, scrow (rI s).toNat] = _
    unfold scrow
    rw [f3]
    rfl
  have hV : View some (rowsE (lsca s).length fun j => (lsca s).getD j 0) (startE s).rows := by rw [hrow]; exact viewE _ _
  have h := loop_block (P := Try.prog) (R := R) (I := {x : Nat // x ≤ (lsca s).length}) (fam := fun x => famE s (lsca s).length (fun j => (lsca s).getD j 0) x.1) (fun x => (lsca s).length - x.1)
    (X := fun e stE => e = .exit 2 ∧ stE = famE s (lsca s).length (fun j => (lsca s).getD j 0) (lsca s).length) (id := 2)
    (i0 := ⟨0, Nat.zero_le _⟩) (st := startE s) (f := some)
    ⟨hV, by
      show VwL some 3 (famE s (lsca s).length (fun j => (lsca s).getD j 0) 0).tmps (TE s)
      unfold TE
      rw [f3]
      iterate 92 refine VwL.cons (by first | exact Vw.anyI | exact Vw.intI | exact Vw.strI | exact Vw.boolI | exact Vw.slI (by omega) rfl) ?_
      exact VwL.nil⟩ (fun c hc => rfl) (fun x => Nat.le_refl _) (fun x => roundE_ok R s _ _ f4 x.1 x.2)
  refine h.mono ?_
  rintro e st ⟨e0, rfl, rfl, rfl⟩
  exact ⟨rfl, rfl⟩
noncomputable def loopE : LoopSp := fun st k => match nthV st.tmps 0 with
  | .str s => (0 ≤ rI s ∧ st = startE s) ∧ k .normal (famE s (lsca s).length (fun j => (lsca s).getD j 0) (lsca s).length)
  | _ => False
theorem loopE_ok (R : Nat → RoRow) : ∀ st k, loopE st k → Safe Try.prog R (.block 2 (.loop (loopOf fi10 2))) st k := by
  intro st k hk
  unfold loopE at hk
  split at hk
  · rename_i s _
    obtain ⟨⟨hs, rfl⟩, hk⟩ := hk
    refine (loopE_safe R s hs).mono ?_
    rintro e st' ⟨rfl, rfl⟩
    exact hk
  · exact hk.elim
noncomputable abbrev envN2 (R : Nat → RoRow) : Env Prop := (envN1 R).addLoop 10 2 loopE
theorem envN2_ok (R : Nat → RoRow) : EnvOK Try.prog (envN2 R) id := (envN1_ok R).addLoop (f := 10) (fi := fi10) (by kernel_rfl) (body := .loop (loopOf fi10 2)) (by kernel_rfl) (loopE_ok R)
theorem vc10 (R : Nat → RoRow) (s : List UInt8) (Q : AV → Prop) : vcd (envN2 R) 10000 10 fi10 [.str s] [] (fun v _ => Q v) =
  (s.length ≤ 140737488351232 ∧ (s.length ≤ 140737488351232 ∧ startM s = startM s) ∧
    bif !begF s == begF s then Q (AV.bool false)
      else
        bif decide (rI s < 0) then
          bif lname s == [] then Q (AV.bool (((lsca s).length : Int) == 0)) else Q (AV.bool false)
        else
          (0 ≤ rI s ∧ rI s < 109) ∧
            bif decide (0 ≤ rI s) && decide (rI s < 109) then
              bif decide (0 + (rI s).toNat < 109) then
                bif !lname s == nameAt (0 + (rI s).toNat) then Q (AV.bool false)
                else
                  bif ((lsca s).length : Int) != ((scAt (rI s).toNat).length : Int) then Q (AV.bool false)
                  else (0 ≤ rI s ∧ startE s = startE s) ∧ Q (AV.bool true)
              else False
            else False) := by kernel_rfl
theorem safe10 (R : Nat → RoRow) (s : List UInt8) (hs : s.length ≤ 140737488351232) : SafeCall Try.prog (envN2 R).R 10 [.str s] [] fun v _ => v = .bool true := by
  refine byVcd (envN2_ok R) (f := 10) (fi := fi10) (by kernel_rfl) 10000 (vc10 R s (fun v => v = .bool true)) ⟨hs, ⟨hs, rfl⟩, ?_⟩
  refine hcond (fun h => by exfalso; simp at h) (fun _ => ?_)
  refine hcond (fun h => ?_) (fun h => ?_)
  · obtain ⟨h1, h2⟩ := rI_none (of_decide_eq_true h)
    rw [h1, h2]
    rfl
  · have h0 : 0 ≤ rI s := by have := of_decide_eq_false h; omega
    obtain ⟨f1, f2, f3, f4⟩ := rI_facts h0
    refine ⟨⟨h0, f1⟩, ?_⟩
    have e : 0 + (rI s).toNat = (rI s).toNat := Nat.zero_add _
    rw [e, f2, f3]
    refine hcond (fun _ => ?_) (fun h => by exfalso; simp at h; omega)
    refine hcond (fun _ => ?_) (fun h => by exfalso; simp at h; omega)
    refine hcond (fun h => by exfalso; simp at h) (fun _ => ?_)
    refine hcond (fun h => by exfalso; simp at h) (fun _ => ?_)
    exact ⟨⟨h0, rfl⟩, rfl⟩
theorem names_walk (s : ByteArray) (hs : s.size ≤ 140737488351232) (w : World) : Calls Try.prog 10 #[.string s] w fun e w' => e = .returned (.bool true) ∧ Go.RowKit.Below w.heap.size w w' := by
  exact (show SafeCall Try.prog roNone 10 [.str s.data.toList] [] fun v _ => v = .bool true from safe10 roNone s.data.toList (by simpa using hs)).law mapNone _ w (by simp [DenL, Den]) (roNone_ok w)
end Go.Dc.Ka
