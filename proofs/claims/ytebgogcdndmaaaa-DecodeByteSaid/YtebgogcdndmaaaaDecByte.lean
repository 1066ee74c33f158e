/- In the other coding each byte is one scalar, wherever it stands: the walk. -/
import Derived.Test.YtebgogcdndmaaaaFeedE
set_option linter.unusedVariables false
set_option linter.unusedSimpArgs false
namespace Go.Dc.Ka
open Go.Proofs Go.RowKit
set_option maxRecDepth 100000
theorem vc9 (R : Nat → RoRow) (s : List UInt8) (t : Int) (Q : AV → Prop) : vcd (env9 R) 10000 9 fi9 [.str s, .int .i64 t] [] (fun v _ => Q v) =
    (bif (↑s.length : Int) == 0 then Q (AV.bool true)
  else
    bif decide ((↑s.length : Int) > 5000) then Q (AV.bool true)
    else
      bif (↑s.length : Int) != 0 then
        bif (↑s.length : Int) != 0 then
          (some
                  (some
                    (Row.lst 62 9
                      [AV.agg
                          [AV.bool false, AV.int IntKind.i64 0, AV.int IntKind.i64 0, AV.int IntKind.i64 0,
                            AV.int IntKind.i64 0, AV.int IntKind.u8 0, AV.int IntKind.u8 0, AV.nils, AV.nils]])) =
                some
                  (some
                    (Row.lst 62 9
                      [AV.agg
                          [AV.bool false, AV.int IntKind.i64 0, AV.int IntKind.i64 0, AV.int IntKind.i64 0,
                            AV.int IntKind.i64 0, AV.int IntKind.u8 0, AV.int IntKind.u8 0, AV.nils, AV.nils]])) ∧
              (0 - 0 : Int).NonNeg ∧ (1099511627776 - (0 + (↑s.length : Int))).NonNeg) ∧
            AV.nils = AV.nils ∧
              bif
                  slCond
                    (some ((IntKind.i64.wrap (t.tmod (↑s.length : Int) + (↑s.length : Int))).tmod (↑s.length : Int)))
                    (some
                      (IntKind.i64.wrap
                        ((IntKind.i64.wrap (t.tmod (↑s.length : Int) + (↑s.length : Int))).tmod (↑s.length : Int) + 1)))
                    s.length then
                (some
                        (some
                          (Row.lst 62 9
                            [AV.agg
                                [AV.bool false,
                                  AV.int IntKind.i64
                                    ((IntKind.i64.wrap (t.tmod (↑s.length : Int) + (↑s.length : Int))).tmod
                                      (↑s.length : Int)),
                                  AV.int IntKind.i64 0, AV.int IntKind.i64 0, AV.int IntKind.i64 0, AV.int IntKind.u8 0,
                                  AV.int IntKind.u8 0, AV.nils, AV.nils]])) =
                      some
                        (some
                          (Row.lst 62 9
                            [AV.agg
                                [AV.bool false,
                                  AV.int IntKind.i64
                                    ((IntKind.i64.wrap (t.tmod (↑s.length : Int) + (↑s.length : Int))).tmod
                                      (↑s.length : Int)),
                                  AV.int IntKind.i64 0, AV.int IntKind.i64 0, AV.int IntKind.i64 0, AV.int IntKind.u8 0,
                                  AV.int IntKind.u8 0, AV.nils, AV.nils]])) ∧
                    ((IntKind.i64.wrap (t.tmod (↑s.length : Int) + (↑s.length : Int))).tmod (↑s.length : Int) -
                          0).NonNeg ∧
                      (1099511627776 -
                          ((IntKind.i64.wrap (t.tmod (↑s.length : Int) + (↑s.length : Int))).tmod (↑s.length : Int) +
                            (↑(List.take
                                    (slHi s.length
                                        (some
                                          (IntKind.i64.wrap
                                            ((IntKind.i64.wrap (t.tmod (↑s.length : Int) + (↑s.length : Int))).tmod
                                                (↑s.length : Int) +
                                              1))) -
                                      slLo
                                        (some
                                          ((IntKind.i64.wrap (t.tmod (↑s.length : Int) + (↑s.length : Int))).tmod
                                            (↑s.length : Int))))
                                    (List.drop
                                      (slLo
                                        (some
                                          ((IntKind.i64.wrap (t.tmod (↑s.length : Int) + (↑s.length : Int))).tmod
                                            (↑s.length : Int))))
                                      s)).length :
                              Int))).NonNeg) ∧
                  AV.nils = AV.nils ∧
                    bif (↑s.length : Int) == (↑s.length : Int) then
                      bif
                          (↑(List.take
                                    (slHi s.length
                                        (some
                                          (IntKind.i64.wrap
                                            ((IntKind.i64.wrap (t.tmod (↑s.length : Int) + (↑s.length : Int))).tmod
                                                (↑s.length : Int) +
                                              1))) -
                                      slLo
                                        (some
                                          ((IntKind.i64.wrap (t.tmod (↑s.length : Int) + (↑s.length : Int))).tmod
                                            (↑s.length : Int))))
                                    (List.drop
                                      (slLo
                                        (some
                                          ((IntKind.i64.wrap (t.tmod (↑s.length : Int) + (↑s.length : Int))).tmod
                                            (↑s.length : Int))))
                                      s)).length :
                              Int) ==
                            1 then
                        bif
                            decide
                                (0 ≤
                                  (IntKind.i64.wrap (t.tmod (↑s.length : Int) + (↑s.length : Int))).tmod
                                    (↑s.length : Int)) &&
                              decide
                                ((IntKind.i64.wrap (t.tmod (↑s.length : Int) + (↑s.length : Int))).tmod
                                    (↑s.length : Int) <
                                  (↑s.length : Int)) then
                          bif
                              decide
                                (0 +
                                    ((IntKind.i64.wrap (t.tmod (↑s.length : Int) + (↑s.length : Int))).tmod
                                        (↑s.length : Int)).toNat <
                                  s.length) then
                            bif
                                true &&
                                  decide
                                    (0 <
                                      (↑(List.take
                                              (slHi s.length
                                                  (some
                                                    (IntKind.i64.wrap
                                                      ((IntKind.i64.wrap
                                                              (t.tmod (↑s.length : Int) + (↑s.length : Int))).tmod
                                                          (↑s.length : Int) +
                                                        1))) -
                                                slLo
                                                  (some
                                                    ((IntKind.i64.wrap
                                                          (t.tmod (↑s.length : Int) + (↑s.length : Int))).tmod
                                                      (↑s.length : Int))))
                                              (List.drop
                                                (slLo
                                                  (some
                                                    ((IntKind.i64.wrap
                                                          (t.tmod (↑s.length : Int) + (↑s.length : Int))).tmod
                                                      (↑s.length : Int))))
                                                s)).length :
                                        Int)) then
                              bif
                                  decide
                                    (0 <
                                      (List.take
                                          (slHi s.length
                                              (some
                                                (IntKind.i64.wrap
                                                  ((IntKind.i64.wrap
                                                          (t.tmod (↑s.length : Int) + (↑s.length : Int))).tmod
                                                      (↑s.length : Int) +
                                                    1))) -
                                            slLo
                                              (some
                                                ((IntKind.i64.wrap (t.tmod (↑s.length : Int) + (↑s.length : Int))).tmod
                                                  (↑s.length : Int))))
                                          (List.drop
                                            (slLo
                                              (some
                                                ((IntKind.i64.wrap (t.tmod (↑s.length : Int) + (↑s.length : Int))).tmod
                                                  (↑s.length : Int))))
                                            s)).length) then
                                bif
                                    winI
                                          (byteI s
                                            (0 +
                                              ((IntKind.i64.wrap (t.tmod (↑s.length : Int) + (↑s.length : Int))).tmod
                                                  (↑s.length : Int)).toNat)) ==
                                        winI
                                          (byteI
                                            (List.take
                                              (slHi s.length
                                                  (some
                                                    (IntKind.i64.wrap
                                                      ((IntKind.i64.wrap
                                                              (t.tmod (↑s.length : Int) + (↑s.length : Int))).tmod
                                                          (↑s.length : Int) +
                                                        1))) -
                                                slLo
                                                  (some
                                                    ((IntKind.i64.wrap
                                                          (t.tmod (↑s.length : Int) + (↑s.length : Int))).tmod
                                                      (↑s.length : Int))))
                                              (List.drop
                                                (slLo
                                                  (some
                                                    ((IntKind.i64.wrap
                                                          (t.tmod (↑s.length : Int) + (↑s.length : Int))).tmod
                                                      (↑s.length : Int))))
                                                s))
                                            0) &&
                                      (0 +
                                            (↑(0 +
                                                  ((IntKind.i64.wrap
                                                          (t.tmod (↑s.length : Int) + (↑s.length : Int))).tmod
                                                      (↑s.length : Int)).toNat) :
                                              Int) ==
                                          (IntKind.i64.wrap (t.tmod (↑s.length : Int) + (↑s.length : Int))).tmod
                                              (↑s.length : Int) +
                                            0 &&
                                        true) then
                                  Q (AV.bool true)
                                else Q (AV.bool false)
                              else False
                            else False
                          else False
                        else False
                      else Q (AV.bool false)
                    else Q (AV.bool false)
              else False
        else False
      else False) := by kernel_rfl
theorem take_one (s : List UInt8) (m : Nat) (hm : m < s.length) : List.take 1 (List.drop m s) = [s.getD m 0] := by
  rw [List.drop_eq_getElem_cons hm, List.take_succ_cons, List.take_zero]
  rw [show s.getD m 0 = s[m] by simp [List.getD, List.getElem?_eq_getElem hm]]
theorem safe9 (R : Nat → RoRow) (s : List UInt8) (t : Int) (ht0 : -9223372036854775808 ≤ t) (ht1 : t ≤ 9223372036854775807) : SafeCall Try.prog (env9 R).R 9 [.str s, .int .i64 t] [] fun v _ => v = .bool true := by
  refine byVcd (env9_ok R) (f := 9) (fi := fi9) (by kernel_rfl) 10000 (vc9 R s t (fun v => v = .bool true)) ?_
  refine hcond (fun h => rfl) (fun hz => ?_)
  refine hcond (fun h => rfl) (fun hl => ?_)
  have hz' : (s.length : Int) ≠ 0 := by simpa using hz
  have hl' : ¬ ((s.length : Int) > 5000) := of_decide_eq_false hl
  have hw1 : IntKind.i64.wrap (t.tmod (s.length : Int) + (s.length : Int)) = t.tmod (s.length : Int) + (s.length : Int) := by
    have h1 := Int.lt_tmod_of_pos t (show (0 : Int) < s.length by omega)
    have h2 := Int.tmod_lt_of_pos t (show (0 : Int) < s.length by omega)
    exact wrap64 _ (by omega) (by omega)
  have hX : ∃ m : Nat, (IntKind.i64.wrap (t.tmod (s.length : Int) + (s.length : Int))).tmod (s.length : Int) = (m : Int) ∧ m < s.length := by
    rw [hw1]
    have h1 := Int.lt_tmod_of_pos t (show (0 : Int) < s.length by omega)
    have h3 := Int.tmod_nonneg (s.length : Int) (show (0 : Int) ≤ t.tmod (s.length : Int) + (s.length : Int) by omega)
    have h4 := Int.tmod_lt_of_pos (t.tmod (s.length : Int) + (s.length : Int)) (show (0 : Int) < s.length by omega)
    exact ⟨((t.tmod (s.length : Int) + (s.length : Int)).tmod (s.length : Int)).toNat, by omega, by omega⟩
  obtain ⟨m, hm, hlt⟩ := hX
  rw [hm]
  have hw2 : IntKind.i64.wrap ((m : Int) + 1) = ((m + 1 : Nat) : Int) := by rw [wrap64 ((m : Int) + 1) (by omega) (by omega)]; omega
  rw [hw2]
  have hp : List.take (slHi s.length (some ((m + 1 : Nat) : Int)) - slLo (some (m : Int))) (List.drop (slLo (some (m : Int))) s) = [s.getD m 0] := by
    have e1 : slHi s.length (some ((m + 1 : Nat) : Int)) - slLo (some (m : Int)) = 1 := by simp only [slHi, slLo, Int.toNat_natCast]; omega
    have e2 : slLo (some (m : Int)) = m := by simp only [slLo, Int.toNat_natCast]
    rw [e1, e2, take_one s m hlt]
  rw [hp]
  have hc : slCond (some (m : Int)) (some ((m + 1 : Nat) : Int)) s.length = true := by simp [slCond]; omega
  rw [hc]
  have hb : byteI s (0 + (m : Int).toNat) = byteI [s.getD m 0] 0 := by simp [byteI]
  rw [hb]
  refine hcond (fun _ => ?_) (fun h => by exfalso; exact hz' (by simpa using h))
  refine hcond (fun _ => ?_) (fun h => by exfalso; exact hz' (by simpa using h))
  refine ⟨⟨rfl, Int.le_def.1 (by omega), Int.le_def.1 (by omega)⟩, rfl, ?_⟩
  rw [cond_true]
  refine ⟨⟨rfl, Int.le_def.1 (by omega), Int.le_def.1 (by simp; omega)⟩, rfl, ?_⟩
  refine hcond (fun _ => ?_) (fun h => by exfalso; simp at h)
  refine hcond (fun _ => ?_) (fun h => by exfalso; simp at h)
  refine hcond (fun _ => ?_) (fun h => by exfalso; simp at h; omega)
  refine hcond (fun _ => ?_) (fun h => by exfalso; simp at h; omega)
  refine hcond (fun _ => ?_) (fun h => by exfalso; simp at h)
  refine hcond (fun _ => ?_) (fun h => by exfalso; simp at h)
  refine hcond (fun _ => rfl) (fun h => by exfalso; simp at h)
theorem byte_walk (s : ByteArray) (t : Int) (hn : (Lit.int .i64 t).wf = true) (w : World) : Calls Try.prog 9 #[.string s, .int .i64 t] w fun e w' => e = .returned (.bool true) ∧ Go.RowKit.Below w.heap.size w w' := by
  have h2 : (decide (IntKind.min .i64 ≤ t) && decide (t ≤ IntKind.max .i64)) = true := hn
  simp only [Bool.and_eq_true, decide_eq_true_eq] at h2
  exact (show SafeCall Try.prog roNone 9 [.str s.data.toList, .int .i64 t] [] fun v _ => v = .bool true from safe9 roNone s.data.toList t h2.1 h2.2).law mapNone _ w (by simp [DenL, Den]) (roNone_ok w)
end Go.Dc.Ka
