/- The names rise, each is its own longest one: the walk. -/
import Derived.Test.YtebgogcdndmaaaaChR
set_option linter.unusedVariables false
set_option linter.unusedSimpArgs false
namespace Go.Dc.Ka
open Go.Proofs Go.RowKit
set_option maxRecDepth 100000
theorem vc6 (R : Nat → RoRow) (t : Int) (Q : AV → Prop) : vcd (env6 R) 10000 6 fi6 [.int .i64 t] [] (fun v _ => Q v) =
    (bif
      decide (0 ≤ (IntKind.i64.wrap (t.tmod 109 + 109)).tmod 109) &&
        decide ((IntKind.i64.wrap (t.tmod 109 + 109)).tmod 109 < 109) then
    bif decide (0 + ((IntKind.i64.wrap (t.tmod 109 + 109)).tmod 109).toNat < 109) then
      bif decide ((IntKind.i64.wrap (t.tmod 109 + 109)).tmod 109 > 0) then
        bif
            decide (0 ≤ IntKind.i64.wrap ((IntKind.i64.wrap (t.tmod 109 + 109)).tmod 109 - 1)) &&
              decide (IntKind.i64.wrap ((IntKind.i64.wrap (t.tmod 109 + 109)).tmod 109 - 1) < 109) then
          bif decide (0 + (IntKind.i64.wrap ((IntKind.i64.wrap (t.tmod 109 + 109)).tmod 109 - 1)).toNat < 109) then
            bif
                decide (0 ≤ (IntKind.i64.wrap (t.tmod 109 + 109)).tmod 109) &&
                  decide ((IntKind.i64.wrap (t.tmod 109 + 109)).tmod 109 < 109) then
              bif decide (0 + ((IntKind.i64.wrap (t.tmod 109 + 109)).tmod 109).toNat < 109) then
                bif
                    !Op.bytesLess
                        (nameAt (0 + (IntKind.i64.wrap ((IntKind.i64.wrap (t.tmod 109 + 109)).tmod 109 - 1)).toNat))
                        (nameAt (0 + ((IntKind.i64.wrap (t.tmod 109 + 109)).tmod 109).toNat)) then
                  Q (AV.bool false)
                else
                  bif
                      decide (0 ≤ (IntKind.i64.wrap (t.tmod 109 + 109)).tmod 109) &&
                        decide ((IntKind.i64.wrap (t.tmod 109 + 109)).tmod 109 < 109) then
                    bif decide (0 + ((IntKind.i64.wrap (t.tmod 109 + 109)).tmod 109).toNat < 109) then
                      bif
                          !lname (nameAt (0 + ((IntKind.i64.wrap (t.tmod 109 + 109)).tmod 109).toNat)) ==
                              nameAt (0 + ((IntKind.i64.wrap (t.tmod 109 + 109)).tmod 109).toNat) then
                        Q (AV.bool false)
                      else
                        bif
                            decide
                              ((↑(lsca (nameAt (0 + ((IntKind.i64.wrap (t.tmod 109 + 109)).tmod 109).toNat))).length :
                                  Int) <
                                1) then
                          Q (AV.bool false)
                        else
                          bif
                              decide
                                ((↑(lsca (nameAt (0 + ((IntKind.i64.wrap (t.tmod 109 + 109)).tmod 109).toNat))).length :
                                    Int) >
                                  2) then
                            Q (AV.bool false)
                          else
                            bif
                                decide (0 ≤ (IntKind.i64.wrap (t.tmod 109 + 109)).tmod 109) &&
                                  decide ((IntKind.i64.wrap (t.tmod 109 + 109)).tmod 109 < 109) then
                              bif decide (0 + ((IntKind.i64.wrap (t.tmod 109 + 109)).tmod 109).toNat < 109) then
                                bif
                                    decide (0 ≤ (IntKind.i64.wrap (t.tmod 109 + 109)).tmod 109) &&
                                      decide ((IntKind.i64.wrap (t.tmod 109 + 109)).tmod 109 < 109) then
                                  bif decide (0 + ((IntKind.i64.wrap (t.tmod 109 + 109)).tmod 109).toNat < 109) then
                                    bif
                                        decide
                                            (0 ≤
                                              IntKind.i64.wrap
                                                ((↑(nameAt
                                                          (0 +
                                                            ((IntKind.i64.wrap (t.tmod 109 + 109)).tmod
                                                                109).toNat)).length :
                                                    Int) -
                                                  1)) &&
                                          decide
                                            (IntKind.i64.wrap
                                                ((↑(nameAt
                                                          (0 +
                                                            ((IntKind.i64.wrap (t.tmod 109 + 109)).tmod
                                                                109).toNat)).length :
                                                    Int) -
                                                  1) <
                                              (↑(nameAt
                                                      (0 +
                                                        ((IntKind.i64.wrap (t.tmod 109 + 109)).tmod
                                                            109).toNat)).length :
                                                Int)) then
                                      bif
                                          (↑((nameAt
                                                        (0 +
                                                          ((IntKind.i64.wrap (t.tmod (↑109 : Int) + (↑109 : Int))).tmod
                                                              (↑109 : Int)).toNat)).getD
                                                    (IntKind.i64.wrap
                                                        ((↑(nameAt
                                                                  (0 +
                                                                    ((IntKind.i64.wrap
                                                                            (t.tmod (↑109 : Int) + (↑109 : Int))).tmod
                                                                        (↑109 : Int)).toNat)).length :
                                                            Int) -
                                                          1)).toNat
                                                    0).toNat :
                                              Int) ==
                                            59 then
                                        Q (AV.bool true)
                                      else
                                        bif
                                            decide (0 ≤ (IntKind.i64.wrap (t.tmod 109 + 109)).tmod 109) &&
                                              decide ((IntKind.i64.wrap (t.tmod 109 + 109)).tmod 109 < 109) then
                                          bif
                                              decide
                                                (0 + ((IntKind.i64.wrap (t.tmod 109 + 109)).tmod 109).toNat < 109) then
                                            bif
                                                decide
                                                  ((nameAt
                                                          (0 +
                                                            ((IntKind.i64.wrap (t.tmod 109 + 109)).tmod
                                                                109).toNat)).length +
                                                      1 ≤
                                                    9223372036854775807) then
                                              bif
                                                  decide (0 ≤ (IntKind.i64.wrap (t.tmod 109 + 109)).tmod 109) &&
                                                    decide ((IntKind.i64.wrap (t.tmod 109 + 109)).tmod 109 < 109) then
                                                bif
                                                    decide
                                                      (0 + ((IntKind.i64.wrap (t.tmod 109 + 109)).tmod 109).toNat <
                                                        109) then
                                                  bif
                                                      decide
                                                        ((nameAt
                                                                (0 +
                                                                  ((IntKind.i64.wrap (t.tmod 109 + 109)).tmod
                                                                      109).toNat)).length +
                                                            1 ≤
                                                          9223372036854775807) then
                                                    bif
                                                        lname
                                                            (nameAt
                                                                (0 +
                                                                  ((IntKind.i64.wrap (t.tmod 109 + 109)).tmod
                                                                      109).toNat) ++
                                                              [59]) ==
                                                          nameAt
                                                              (0 +
                                                                ((IntKind.i64.wrap (t.tmod 109 + 109)).tmod
                                                                    109).toNat) ++
                                                            [59] then
                                                      bif
                                                          (↑(lsca
                                                                    (nameAt
                                                                        (0 +
                                                                          ((IntKind.i64.wrap (t.tmod 109 + 109)).tmod
                                                                              109).toNat) ++
                                                                      [59])).length :
                                                              Int) ==
                                                            (↑(lsca
                                                                    (nameAt
                                                                      (0 +
                                                                        ((IntKind.i64.wrap (t.tmod 109 + 109)).tmod
                                                                            109).toNat))).length :
                                                              Int) then
                                                        bif
                                                            true &&
                                                              decide
                                                                (0 <
                                                                  (↑(lsca
                                                                          (nameAt
                                                                            (0 +
                                                                              ((IntKind.i64.wrap
                                                                                      (t.tmod 109 + 109)).tmod
                                                                                  109).toNat))).length :
                                                                    Int)) then
                                                          bif
                                                              decide
                                                                (0 <
                                                                  (lsca
                                                                      (nameAt
                                                                        (0 +
                                                                          ((IntKind.i64.wrap (t.tmod 109 + 109)).tmod
                                                                              109).toNat))).length) then
                                                            bif
                                                                true &&
                                                                  decide
                                                                    (0 <
                                                                      (↑(lsca
                                                                              (nameAt
                                                                                  (0 +
                                                                                    ((IntKind.i64.wrap
                                                                                            (t.tmod 109 + 109)).tmod
                                                                                        109).toNat) ++
                                                                                [59])).length :
                                                                        Int)) then
                                                              bif
                                                                  decide
                                                                    (0 <
                                                                      (lsca
                                                                          (nameAt
                                                                              (0 +
                                                                                ((IntKind.i64.wrap
                                                                                        (t.tmod 109 + 109)).tmod
                                                                                    109).toNat) ++
                                                                            [59])).length) then
                                                                Q
                                                                  (AV.bool
                                                                    ((lsca
                                                                            (nameAt
                                                                              (0 +
                                                                                ((IntKind.i64.wrap
                                                                                        (t.tmod 109 + 109)).tmod
                                                                                    109).toNat))).getD
                                                                        0 0 ==
                                                                      (lsca
                                                                            (nameAt
                                                                                (0 +
                                                                                  ((IntKind.i64.wrap
                                                                                          (t.tmod 109 + 109)).tmod
                                                                                      109).toNat) ++
                                                                              [59])).getD
                                                                        0 0))
                                                              else False
                                                            else False
                                                          else False
                                                        else False
                                                      else Q (AV.bool false)
                                                    else Q (AV.bool false)
                                                  else False
                                                else False
                                              else False
                                            else False
                                          else False
                                        else False
                                    else False
                                  else False
                                else False
                              else False
                            else False
                    else False
                  else False
              else False
            else False
          else False
        else False
      else
        bif
            decide (0 ≤ (IntKind.i64.wrap (t.tmod 109 + 109)).tmod 109) &&
              decide ((IntKind.i64.wrap (t.tmod 109 + 109)).tmod 109 < 109) then
          bif decide (0 + ((IntKind.i64.wrap (t.tmod 109 + 109)).tmod 109).toNat < 109) then
            bif
                !lname (nameAt (0 + ((IntKind.i64.wrap (t.tmod 109 + 109)).tmod 109).toNat)) ==
                    nameAt (0 + ((IntKind.i64.wrap (t.tmod 109 + 109)).tmod 109).toNat) then
              Q (AV.bool false)
            else
              bif
                  decide
                    ((↑(lsca (nameAt (0 + ((IntKind.i64.wrap (t.tmod 109 + 109)).tmod 109).toNat))).length : Int) <
                      1) then
                Q (AV.bool false)
              else
                bif
                    decide
                      ((↑(lsca (nameAt (0 + ((IntKind.i64.wrap (t.tmod 109 + 109)).tmod 109).toNat))).length : Int) >
                        2) then
                  Q (AV.bool false)
                else
                  bif
                      decide (0 ≤ (IntKind.i64.wrap (t.tmod 109 + 109)).tmod 109) &&
                        decide ((IntKind.i64.wrap (t.tmod 109 + 109)).tmod 109 < 109) then
                    bif decide (0 + ((IntKind.i64.wrap (t.tmod 109 + 109)).tmod 109).toNat < 109) then
                      bif
                          decide (0 ≤ (IntKind.i64.wrap (t.tmod 109 + 109)).tmod 109) &&
                            decide ((IntKind.i64.wrap (t.tmod 109 + 109)).tmod 109 < 109) then
                        bif decide (0 + ((IntKind.i64.wrap (t.tmod 109 + 109)).tmod 109).toNat < 109) then
                          bif
                              decide
                                  (0 ≤
                                    IntKind.i64.wrap
                                      ((↑(nameAt (0 + ((IntKind.i64.wrap (t.tmod 109 + 109)).tmod 109).toNat)).length :
                                          Int) -
                                        1)) &&
                                decide
                                  (IntKind.i64.wrap
                                      ((↑(nameAt (0 + ((IntKind.i64.wrap (t.tmod 109 + 109)).tmod 109).toNat)).length :
                                          Int) -
                                        1) <
                                    (↑(nameAt (0 + ((IntKind.i64.wrap (t.tmod 109 + 109)).tmod 109).toNat)).length :
                                      Int)) then
                            bif
                                (↑((nameAt
                                              (0 +
                                                ((IntKind.i64.wrap (t.tmod (↑109 : Int) + (↑109 : Int))).tmod
                                                    (↑109 : Int)).toNat)).getD
                                          (IntKind.i64.wrap
                                              ((↑(nameAt
                                                        (0 +
                                                          ((IntKind.i64.wrap (t.tmod (↑109 : Int) + (↑109 : Int))).tmod
                                                              (↑109 : Int)).toNat)).length :
                                                  Int) -
                                                1)).toNat
                                          0).toNat :
                                    Int) ==
                                  59 then
                              Q (AV.bool true)
                            else
                              bif
                                  decide (0 ≤ (IntKind.i64.wrap (t.tmod 109 + 109)).tmod 109) &&
                                    decide ((IntKind.i64.wrap (t.tmod 109 + 109)).tmod 109 < 109) then
                                bif decide (0 + ((IntKind.i64.wrap (t.tmod 109 + 109)).tmod 109).toNat < 109) then
                                  bif
                                      decide
                                        ((nameAt (0 + ((IntKind.i64.wrap (t.tmod 109 + 109)).tmod 109).toNat)).length +
                                            1 ≤
                                          9223372036854775807) then
                                    bif
                                        decide (0 ≤ (IntKind.i64.wrap (t.tmod 109 + 109)).tmod 109) &&
                                          decide ((IntKind.i64.wrap (t.tmod 109 + 109)).tmod 109 < 109) then
                                      bif decide (0 + ((IntKind.i64.wrap (t.tmod 109 + 109)).tmod 109).toNat < 109) then
                                        bif
                                            decide
                                              ((nameAt
                                                      (0 +
                                                        ((IntKind.i64.wrap (t.tmod 109 + 109)).tmod
                                                            109).toNat)).length +
                                                  1 ≤
                                                9223372036854775807) then
                                          bif
                                              lname
                                                  (nameAt
                                                      (0 + ((IntKind.i64.wrap (t.tmod 109 + 109)).tmod 109).toNat) ++
                                                    [59]) ==
                                                nameAt (0 + ((IntKind.i64.wrap (t.tmod 109 + 109)).tmod 109).toNat) ++
                                                  [59] then
                                            bif
                                                (↑(lsca
                                                          (nameAt
                                                              (0 +
                                                                ((IntKind.i64.wrap (t.tmod 109 + 109)).tmod
                                                                    109).toNat) ++
                                                            [59])).length :
                                                    Int) ==
                                                  (↑(lsca
                                                          (nameAt
                                                            (0 +
                                                              ((IntKind.i64.wrap (t.tmod 109 + 109)).tmod
                                                                  109).toNat))).length :
                                                    Int) then
                                              bif
                                                  true &&
                                                    decide
                                                      (0 <
                                                        (↑(lsca
                                                                (nameAt
                                                                  (0 +
                                                                    ((IntKind.i64.wrap (t.tmod 109 + 109)).tmod
                                                                        109).toNat))).length :
                                                          Int)) then
                                                bif
                                                    decide
                                                      (0 <
                                                        (lsca
                                                            (nameAt
                                                              (0 +
                                                                ((IntKind.i64.wrap (t.tmod 109 + 109)).tmod
                                                                    109).toNat))).length) then
                                                  bif
                                                      true &&
                                                        decide
                                                          (0 <
                                                            (↑(lsca
                                                                    (nameAt
                                                                        (0 +
                                                                          ((IntKind.i64.wrap (t.tmod 109 + 109)).tmod
                                                                              109).toNat) ++
                                                                      [59])).length :
                                                              Int)) then
                                                    bif
                                                        decide
                                                          (0 <
                                                            (lsca
                                                                (nameAt
                                                                    (0 +
                                                                      ((IntKind.i64.wrap (t.tmod 109 + 109)).tmod
                                                                          109).toNat) ++
                                                                  [59])).length) then
                                                      Q
                                                        (AV.bool
                                                          ((lsca
                                                                  (nameAt
                                                                    (0 +
                                                                      ((IntKind.i64.wrap (t.tmod 109 + 109)).tmod
                                                                          109).toNat))).getD
                                                              0 0 ==
                                                            (lsca
                                                                  (nameAt
                                                                      (0 +
                                                                        ((IntKind.i64.wrap (t.tmod 109 + 109)).tmod
                                                                            109).toNat) ++
                                                                    [59])).getD
                                                              0 0))
                                                    else False
                                                  else False
                                                else False
                                              else False
                                            else Q (AV.bool false)
                                          else Q (AV.bool false)
                                        else False
                                      else False
                                    else False
                                  else False
                                else False
                              else False
                          else False
                        else False
                      else False
                    else False
                  else False
          else False
        else False
    else False
  else False) := by kernel_rfl
theorem safe6 (R : Nat → RoRow) (t : Int) (ht0 : -9223372036854775808 ≤ t) (ht1 : t ≤ 9223372036854775807) : SafeCall Try.prog (env6 R).R 6 [.int .i64 t] [] fun v _ => v = .bool true := by
  refine byVcd (env6_ok R) (f := 6) (fi := fi6) (by kernel_rfl) 10000 (vc6 R t (fun v => v = .bool true)) ?_
  have hw1 : IntKind.i64.wrap (t.tmod 109 + 109) = t.tmod 109 + 109 := by
    have h1 := Int.lt_tmod_of_pos t (show (0 : Int) < 109 by omega)
    have h2 := Int.tmod_lt_of_pos t (show (0 : Int) < 109 by omega)
    exact wrap64 _ (by omega) (by omega)
  have hX : ∃ m : Nat, (IntKind.i64.wrap (t.tmod 109 + 109)).tmod 109 = (m : Int) ∧ m < 109 := by
    rw [hw1]
    have h1 := Int.lt_tmod_of_pos t (show (0 : Int) < 109 by omega)
    have h3 := Int.tmod_nonneg 109 (show (0 : Int) ≤ t.tmod 109 + 109 by omega)
    have h4 := Int.tmod_lt_of_pos (t.tmod 109 + 109) (show (0 : Int) < 109 by omega)
    exact ⟨((t.tmod 109 + 109).tmod 109).toNat, by omega, by omega⟩
  obtain ⟨m, hm, hlt⟩ := hX
  rw [hm]
  have hc : chk m = true := by
    have := List.all_eq_true.1 chk_all m (List.mem_range.2 hlt)
    exact this
  unfold chk at hc
  simp only [Bool.and_eq_true, Bool.or_eq_true] at hc
  obtain ⟨c1, c2, ⟨c3, c4⟩, ⟨c5, c6⟩, c7⟩ := hc
  have c3 := Nat.le_of_ble_eq_true c3
  have c4 := Nat.le_of_ble_eq_true c4
  have c5 := Nat.le_of_ble_eq_true c5
  have c6 := Nat.le_of_ble_eq_true c6
  have e0 : 0 + (m : Int).toNat = m := by simp
  rw [e0]
  generalize hL : (nameAt m).length = L at *
  have hwL : IntKind.i64.wrap ((L : Int) - 1) = ((L - 1 : Nat) : Int) := by rw [wrap64 ((L : Int) - 1) (by omega) (by omega)]; omega
  rw [hwL, Int.toNat_natCast]
  have hwm : 0 < m → IntKind.i64.wrap ((m : Int) - 1) = ((m - 1 : Nat) : Int) := fun h => by rw [wrap64 ((m : Int) - 1) (by omega) (by omega)]; omega
  have d1 : (decide (0 ≤ (m : Int)) && decide ((m : Int) < 109)) = true := by simp; omega
  have d2 : decide (m < 109) = true := by simpa using hlt
  have d3 : (decide (0 ≤ ((L - 1 : Nat) : Int)) && decide (((L - 1 : Nat) : Int) < (L : Int))) = true := by simp; omega
  have d4 : decide (L + 1 ≤ 9223372036854775807) = true := by simp; omega
  have d5 : (!lname (nameAt m) == nameAt m) = false := by rw [c2]; rfl
  have d6 : decide (((lsca (nameAt m)).length : Int) < 1) = false := by simp; omega
  have d7 : decide (((lsca (nameAt m)).length : Int) > 2) = false := by simp; omega
  rw [d1, d2, d3, d4, d5, d6, d7]
  simp only [cond_true, cond_false]
  have rest : ∀ X : Prop, X → X := fun _ h => h
  have tail : (bif (((nameAt m).getD (L - 1) 0).toNat : Int) == 59 then True else
      bif lname (nameAt m ++ [59]) == nameAt m ++ [59] then
        bif ((lsca (nameAt m ++ [59])).length : Int) == ((lsca (nameAt m)).length : Int) then
          bif true && decide ((0 : Int) < ((lsca (nameAt m)).length : Int)) then
            bif decide (0 < (lsca (nameAt m)).length) then
              bif true && decide ((0 : Int) < ((lsca (nameAt m ++ [59])).length : Int)) then
                bif decide (0 < (lsca (nameAt m ++ [59])).length) then
                  AV.bool ((lsca (nameAt m)).getD 0 0 == (lsca (nameAt m ++ [59])).getD 0 0) = AV.bool true
                else False
              else False
            else False
          else False
        else AV.bool false = AV.bool true
      else AV.bool false = AV.bool true) := by
    rcases c7 with c7 | ⟨c7, c8, c9⟩
    · have := Nat.eq_of_beq_eq_true c7
      rw [this]
      exact trivial
    · have c8 := Nat.eq_of_beq_eq_true c8
      rw [c7, c8, c9]
      refine hcond (fun _ => trivial) (fun _ => ?_)
      rw [show decide ((0 : Int) < ((lsca (nameAt m)).length : Int)) = true by simp; omega, show decide (0 < (lsca (nameAt m)).length) = true by simp; omega]
      simp
  refine hcond (fun hp => ?_) (fun hp => ?_)
  · have hp := of_decide_eq_true hp
    rw [hwm (by omega), Int.toNat_natCast, Nat.zero_add]
    have c1' : Op.bytesLess (nameAt (m - 1)) (nameAt m) = true := by
      rcases c1 with c1 | c1
      · have := Nat.eq_of_beq_eq_true c1; omega
      · exact c1
    rw [c1']
    rw [show (decide (0 ≤ ((m - 1 : Nat) : Int)) && decide (((m - 1 : Nat) : Int) < 109)) = true by simp; omega, show decide (m - 1 < 109) = true by simp; omega]
    simp only [cond_true, cond_false, Bool.not_true]
    exact tail
  · exact tail
theorem list_walk (t : Int) (hn : (Lit.int .i64 t).wf = true) (w : World) : Calls Try.prog 6 #[.int .i64 t] w fun e w' => e = .returned (.bool true) ∧ Go.RowKit.Below w.heap.size w w' := by
  have h2 : (decide (IntKind.min .i64 ≤ t) && decide (t ≤ IntKind.max .i64)) = true := hn
  simp only [Bool.and_eq_true, decide_eq_true_eq] at h2
  exact (show SafeCall Try.prog roNone 6 [.int .i64 t] [] fun v _ => v = .bool true from safe6 roNone t h2.1 h2.2).law mapNone _ w (by simp [DenL, Den]) (roNone_ok w)
end Go.Dc.Ka
