/- What stands behind the longest name changes nothing but by a longer name: the plain law, and the walk. -/
import Derived.Test.YtebgogcdndmaaaaChT
set_option linter.unusedVariables false
set_option linter.unusedSimpArgs false
namespace Go.Dc.Ka
open Go.Proofs Go.RowKit
set_option maxRecDepth 100000
theorem vc11 (R : Nat → RoRow) (s t : List UInt8) (Q : AV → Prop) : vcd (env11 R) 10000 11 fi11 [.str s, .str t] [] (fun v _ => Q v) =
    (bif decide (IntKind.i64.wrap ((↑s.length : Int) + (↑t.length : Int)) > 200) then Q (AV.bool true)
  else
    bif decide (s.length + t.length ≤ 9223372036854775807) then
      bif decide ((↑(lname s).length : Int) > (↑s.length : Int)) then Q (AV.bool false)
      else
        bif decide ((↑(lname (s ++ t)).length : Int) > IntKind.i64.wrap ((↑s.length : Int) + (↑t.length : Int))) then
          Q (AV.bool false)
        else
          bif slCond none (some (↑(lname s).length : Int)) s.length then
            bif !List.take (slHi s.length (some (↑(lname s).length : Int)) - 0) (List.drop 0 s) == lname s then
              Q (AV.bool false)
            else
              bif decide (s.length + t.length ≤ 9223372036854775807) then
                bif slCond none (some (↑(lname (s ++ t)).length : Int)) (s ++ t).length then
                  bif
                      !List.take (slHi (s ++ t).length (some (↑(lname (s ++ t)).length : Int)) - 0)
                            (List.drop 0 (s ++ t)) ==
                          lname (s ++ t) then
                    Q (AV.bool false)
                  else
                    bif decide ((↑(lname (s ++ t)).length : Int) < (↑(lname s).length : Int)) then Q (AV.bool false)
                    else
                      bif !(lname s == []) == ((↑(lsca s).length : Int) == 0) then Q (AV.bool false)
                      else
                        bif !(lname (s ++ t) == []) == ((↑(lsca (s ++ t)).length : Int) == 0) then Q (AV.bool false)
                        else
                          bif !lname s == [] then
                            bif
                                slCond none (some (IntKind.i64.wrap ((↑(lname s).length : Int) - 1)))
                                  (lname s).length then
                              bif
                                  !begF
                                      (List.take
                                        (slHi (lname s).length
                                            (some (IntKind.i64.wrap ((↑(lname s).length : Int) - 1))) -
                                          0)
                                        (List.drop 0 (lname s))) then
                                Q (AV.bool false)
                              else
                                bif !lname (s ++ t) == [] then
                                  bif
                                      slCond none (some (IntKind.i64.wrap ((↑(lname (s ++ t)).length : Int) - 1)))
                                        (lname (s ++ t)).length then
                                    bif
                                        !begF
                                            (List.take
                                              (slHi (lname (s ++ t)).length
                                                  (some (IntKind.i64.wrap ((↑(lname (s ++ t)).length : Int) - 1))) -
                                                0)
                                              (List.drop 0 (lname (s ++ t)))) then
                                      Q (AV.bool false)
                                    else
                                      bif decide ((↑(lname (s ++ t)).length : Int) > (↑s.length : Int)) then
                                        Q (AV.bool true)
                                      else Q (AV.bool (lname s == lname (s ++ t)))
                                  else False
                                else
                                  bif decide ((↑(lname (s ++ t)).length : Int) > (↑s.length : Int)) then
                                    Q (AV.bool true)
                                  else Q (AV.bool (lname s == lname (s ++ t)))
                            else False
                          else
                            bif !lname (s ++ t) == [] then
                              bif
                                  slCond none (some (IntKind.i64.wrap ((↑(lname (s ++ t)).length : Int) - 1)))
                                    (lname (s ++ t)).length then
                                bif
                                    !begF
                                        (List.take
                                          (slHi (lname (s ++ t)).length
                                              (some (IntKind.i64.wrap ((↑(lname (s ++ t)).length : Int) - 1))) -
                                            0)
                                          (List.drop 0 (lname (s ++ t)))) then
                                  Q (AV.bool false)
                                else
                                  bif decide ((↑(lname (s ++ t)).length : Int) > (↑s.length : Int)) then
                                    Q (AV.bool true)
                                  else Q (AV.bool (lname s == lname (s ++ t)))
                              else False
                            else
                              bif decide ((↑(lname (s ++ t)).length : Int) > (↑s.length : Int)) then Q (AV.bool true)
                              else Q (AV.bool (lname s == lname (s ++ t)))
                else False
              else False
          else False
    else False) := by kernel_rfl
theorem cmp_zero : ∀ {a b : List UInt8}, Lib.compareBytes a b = 0 → a = b
  | [], [], _ => rfl
  | [], _ :: _, h => by simp [Lib.compareBytes] at h
  | _ :: _, [], h => by simp [Lib.compareBytes] at h
  | x :: xs, y :: ys, h => by
    simp only [Lib.compareBytes] at h
    by_cases h1 : x < y
    · rw [if_pos h1] at h; simp at h
    · rw [if_neg h1] at h
      by_cases h2 : y < x
      · rw [if_pos h2] at h; simp at h
      · rw [if_neg h2] at h
        have e : x = y := by
          rw [UInt8.lt_iff_toNat_lt] at h1 h2
          exact UInt8.toNat_inj.1 (by omega)
        rw [e, cmp_zero h]
theorem findB_name {p : List UInt8} (h : findB p = true) : nameAt (findI p) = p := by
  unfold findB at h
  cases hb : Nat.blt (findI p) 109 with
  | false => rw [hb] at h; simp at h
  | true => rw [hb] at h; simp only [cond_true, beq_iff_eq] at h; exact cmp_zero h
theorem lfrom_spec (u : List UInt8) : ∀ n, (lfrom u n = none ∧ ∀ m, 0 < m → m ≤ n → findB (u.take m) = false) ∨
    (∃ m, 0 < m ∧ m ≤ n ∧ findB (u.take m) = true ∧ lfrom u n = some (findI (u.take m)) ∧ ∀ k, m < k → k ≤ n → findB (u.take k) = false)
  | 0 => .inl ⟨rfl, fun m h1 h2 => by omega⟩
  | n + 1 => by
    have e : lfrom u (n + 1) = bif findB (u.take (n + 1)) then some (findI (u.take (n + 1))) else lfrom u n := rfl
    cases hb : findB (u.take (n + 1)) with
    | true => exact .inr ⟨n + 1, by omega, Nat.le_refl _, hb, by rw [e, hb]; rfl, fun k h1 h2 => by omega⟩
    | false =>
      rw [hb] at e
      simp only [cond_false] at e
      rcases lfrom_spec u n with ⟨h1, h2⟩ | ⟨m, h1, h2, h3, h4, h5⟩
      · exact .inl ⟨by rw [e, h1], fun m hm hn => by
          rcases Nat.lt_or_ge n m with h | h
          · have : m = n + 1 := by omega
            rw [this]; exact hb
          · exact h2 m hm h⟩
      · exact .inr ⟨m, h1, by omega, h3, by rw [e, h4], fun k hk hn => by
          rcases Nat.lt_or_ge n k with h | h
          · have : k = n + 1 := by omega
            rw [this]; exact hb
          · exact h5 k hk h⟩
/-- The longest name: none, or the first 'm' bytes, and no more of them are one. -/
theorem lname_spec (u : List UInt8) : (lname u = [] ∧ lsca u = [] ∧ ∀ m, 0 < m → m ≤ 14 → m ≤ u.length → findB (u.take m) = false) ∨
    (∃ m i, 0 < m ∧ m ≤ 14 ∧ m ≤ u.length ∧ findB (u.take m) = true ∧ lname u = u.take m ∧ i < 109 ∧ lname u = nameAt i ∧ lsca u = scAt i ∧ ∀ k, m < k → k ≤ 14 → k ≤ u.length → findB (u.take k) = false) := by
  rcases lfrom_spec u (min 14 u.length) with ⟨h1, h2⟩ | ⟨m, h1, h2, h3, h4, h5⟩
  · have h1 : lf u = none := h1
    exact .inl ⟨by unfold lname; rw [h1], by unfold lsca; rw [h1], fun m a b c => h2 m a (by omega)⟩
  · have h4 : lf u = some (findI (u.take m)) := h4
    have e1 : lname u = nameAt (findI (u.take m)) := by unfold lname; rw [h4]
    exact .inr ⟨m, findI (u.take m), h1, by omega, by omega, h3, by rw [e1, findB_name h3], findI_lt h3, e1, by unfold lsca; rw [h4], fun k a b c => h5 k a (by omega)⟩
noncomputable def chk2 (i : Nat) : Bool := Nat.ble 1 (nameAt i).length && (Nat.ble (nameAt i).length 100 && (Nat.ble 1 (scAt i).length && begF ((nameAt i).take ((nameAt i).length - 1))))
theorem chk2_all : (List.range 109).all chk2 = true := by kernel_rfl
theorem chk2_at {i : Nat} (h : i < 109) : 1 ≤ (nameAt i).length ∧ (nameAt i).length ≤ 100 ∧ 1 ≤ (scAt i).length ∧ begF ((nameAt i).take ((nameAt i).length - 1)) = true := by
  have hc : chk2 i = true := List.all_eq_true.1 chk2_all i (List.mem_range.2 h)
  unfold chk2 at hc
  simp only [Bool.and_eq_true] at hc
  exact ⟨Nat.le_of_ble_eq_true hc.1, Nat.le_of_ble_eq_true hc.2.1, Nat.le_of_ble_eq_true hc.2.2.1, hc.2.2.2⟩
theorem take_app {s t : List UInt8} {m : Nat} (h : m ≤ s.length) : (s ++ t).take m = s.take m := by
  rw [List.take_append_of_le_length h]
/-- Longer or the same. -/
theorem lname_more (s t : List UInt8) : (lname s).length ≤ (lname (s ++ t)).length ∧ ((lname (s ++ t)).length ≤ s.length → lname s = lname (s ++ t)) := by
  rcases lname_spec s with ⟨a1, a2, a3⟩ | ⟨m, i, b1, b2, b3, b4, b5, b6, b7, b8, b9⟩
  · refine ⟨by rw [a1]; exact Nat.zero_le _, fun hle => ?_⟩
    rcases lname_spec (s ++ t) with ⟨c1, _, _⟩ | ⟨n, j, d1, d2, d3, d4, d5, _⟩
    · rw [a1, c1]
    · exfalso
      rw [d5, List.length_take, Nat.min_eq_left d3] at hle
      rw [take_app hle] at d4
      rw [a3 n d1 d2 hle] at d4
      simp at d4
  · have hf : findB ((s ++ t).take m) = true := by rw [take_app b3]; exact b4
    rcases lname_spec (s ++ t) with ⟨c1, _, c3⟩ | ⟨n, j, d1, d2, d3, d4, d5, d6, d7, d8, d9⟩
    · exfalso
      rw [c3 m b1 b2 (by simp; omega)] at hf
      simp at hf
    · have hmn : m ≤ n := by
        rcases Nat.lt_or_ge n m with h | h
        · rw [d9 m h b2 (by simp; omega)] at hf; simp at hf
        · exact h
      have l1 : (lname s).length = m := by rw [b5, List.length_take, Nat.min_eq_left b3]
      have l2 : (lname (s ++ t)).length = n := by rw [d5, List.length_take, Nat.min_eq_left d3]
      refine ⟨by omega, fun hle => ?_⟩
      rw [l2] at hle
      have : ¬ m < n := fun h => by
        have := b9 n h d2 hle
        rw [take_app hle, this] at d4
        simp at d4
      have e : m = n := by omega
      subst e
      rw [b5, d5, take_app b3]
/-- What the law asks of the longest name of a text. -/
theorem lname_facts (u : List UInt8) : (lname u).length ≤ u.length ∧ u.take (lname u).length = lname u ∧ ((lname u == []) = ((lsca u).length == 0)) ∧ (lname u ≠ [] → 1 ≤ (lname u).length ∧ (lname u).length ≤ 100 ∧ begF ((lname u).take ((lname u).length - 1)) = true) := by
  rcases lname_spec u with ⟨a1, a2, a3⟩ | ⟨m, i, b1, b2, b3, b4, b5, b6, b7, b8, b9⟩
  · rw [a1, a2]
    exact ⟨Nat.zero_le _, rfl, rfl, fun h => absurd rfl h⟩
  · obtain ⟨c1, c2, c3, c4⟩ := chk2_at b6
    have l1 : (lname u).length = m := by rw [b5, List.length_take, Nat.min_eq_left b3]
    refine ⟨by omega, by rw [l1, b5], ?_, fun _ => ?_⟩
    · rw [b8, b7]
      have e1 : (nameAt i == []) = false := by
        cases hn : nameAt i with
        | nil => rw [hn] at c1; simp at c1
        | cons x xs => rfl
      have e2 : ((scAt i).length == 0) = false := by rw [beq_eq_false_iff_ne]; omega
      rw [e1, e2]
    · rw [b7]
      exact ⟨c1, c2, c4⟩
theorem len_int (u : List UInt8) : (((lsca u).length : Int) == 0) = ((lsca u).length == 0) := by
  cases h : (lsca u).length with
  | zero => rfl
  | succ n => simp; omega
theorem begPart (u : List UInt8) (X : Prop) (hX : X) : bif !lname u == [] then
      bif slCond none (some (IntKind.i64.wrap (((lname u).length : Int) - 1))) (lname u).length then
        bif !begF (List.take (slHi (lname u).length (some (IntKind.i64.wrap (((lname u).length : Int) - 1))) - 0) (List.drop 0 (lname u))) then AV.bool false = AV.bool true else X
      else False
    else X := by
  obtain ⟨f1, f2, f3, f4⟩ := lname_facts u
  refine hcond (fun h => ?_) (fun _ => hX)
  have hne : lname u ≠ [] := by
    intro e
    rw [e] at h
    simp at h
  obtain ⟨g1, g2, g3⟩ := f4 hne
  have hw : IntKind.i64.wrap (((lname u).length : Int) - 1) = (((lname u).length - 1 : Nat) : Int) := by rw [wrap64 (((lname u).length : Int) - 1) (by omega) (by omega)]; omega
  rw [hw]
  refine hcond (fun _ => ?_) (fun h => by exfalso; simp [slCond] at h <;> omega)
  have e : List.take (slHi (lname u).length (some (((lname u).length - 1 : Nat) : Int)) - 0) (List.drop 0 (lname u)) = (lname u).take ((lname u).length - 1) := by simp [slHi]
  rw [e, g3]
  exact hX
theorem safe11 (R : Nat → RoRow) (s t : List UInt8) (hs : s.length ≤ 140737488351232) (ht : t.length ≤ 140737488351232) : SafeCall Try.prog (env11 R).R 11 [.str s, .str t] [] fun v _ => v = .bool true := by
  refine byVcd (env11_ok R) (f := 11) (fi := fi11) (by kernel_rfl) 10000 (vc11 R s t (fun v => v = .bool true)) ?_
  have hw : IntKind.i64.wrap ((s.length : Int) + (t.length : Int)) = (s.length : Int) + (t.length : Int) := wrap64 _ (by omega) (by omega)
  rw [hw]
  obtain ⟨a1, a2, a3, a4⟩ := lname_facts s
  obtain ⟨b1, b2, b3, b4⟩ := lname_facts (s ++ t)
  obtain ⟨c1, c2⟩ := lname_more s t
  have b1' : (lname (s ++ t)).length ≤ s.length + t.length := by simpa using b1
  refine hcond (fun _ => rfl) (fun _ => ?_)
  refine hcond (fun _ => ?_) (fun h => by exfalso; simp at h; omega)
  refine hcond (fun h => by exfalso; simp at h; omega) (fun _ => ?_)
  refine hcond (fun h => by exfalso; simp at h; omega) (fun _ => ?_)
  refine hcond (fun _ => ?_) (fun h => by exfalso; simp [slCond] at h <;> omega)
  have e1 : List.take (slHi s.length (some ((lname s).length : Int)) - 0) (List.drop 0 s) = lname s := by simp [slHi, a2]
  have e2 : List.take (slHi (s ++ t).length (some ((lname (s ++ t)).length : Int)) - 0) (List.drop 0 (s ++ t)) = lname (s ++ t) := by
    rw [show slHi (s ++ t).length (some ((lname (s ++ t)).length : Int)) - 0 = (lname (s ++ t)).length by simp [slHi], List.drop_zero, b2]
  rw [e1, e2]
  refine hcond (fun h => by exfalso; simp at h) (fun _ => ?_)
  refine hcond (fun _ => ?_) (fun h => by exfalso; simp at h; omega)
  refine hcond (fun _ => ?_) (fun h => by exfalso; simp only [slCond, List.length_append] at h; simp at h; omega)
  refine hcond (fun h => by exfalso; simp at h) (fun _ => ?_)
  refine hcond (fun h => by exfalso; simp at h; omega) (fun _ => ?_)
  refine hcond (fun h => by exfalso; rw [len_int, ← a3] at h; simp at h) (fun _ => ?_)
  refine hcond (fun h => by exfalso; rw [len_int, ← b3] at h; simp at h) (fun _ => ?_)
  have fin : bif decide (((lname (s ++ t)).length : Int) > (s.length : Int)) then AV.bool true = AV.bool true else AV.bool (lname s == lname (s ++ t)) = AV.bool true := by
    refine hcond (fun _ => rfl) (fun h => ?_)
    have h := of_decide_eq_false h
    rw [c2 (by omega)]
    simp
  have h2 := begPart (s ++ t) _ fin
  exact begPart s _ h2
theorem longer_walk (s t : ByteArray) (hs : s.size ≤ 140737488351232) (ht : t.size ≤ 140737488351232) (w : World) : Calls Try.prog 11 #[.string s, .string t] w fun e w' => e = .returned (.bool true) ∧ Go.RowKit.Below w.heap.size w w' := by
  exact (show SafeCall Try.prog roNone 11 [.str s.data.toList, .str t.data.toList] [] fun v _ => v = .bool true from safe11 roNone s.data.toList t.data.toList (by simpa using hs) (by simpa using ht)).law mapNone _ w (by simp [DenL, Den]) (roNone_ok w)
end Go.Dc.Ka
