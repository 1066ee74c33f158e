/- Scalars written one behind the other are one text: the loops. -/
import Derived.Test.YtachjlpdnehgiaaTextsLc
set_option linter.unusedVariables false
set_option linter.unusedSimpArgs false
namespace Go.Dc.Kd
open Go.Proofs Go.RowKit
set_option maxRecDepth 100000
structure Ix3 (n : Nat) where
  i : Nat
  x : Int
  hi : i ≤ n
  h100 : i ≤ 100
def famP0 (n m : Nat) (F G : Nat → Int) (i : Nat) (y : Int) : St := if txt F i = [] then ⟨tm3 n m 0 0 n ((i : Nat) : Int), X0 [] []⟩ else ⟨tm3 n m 0 0 n ((i : Nat) : Int), X1 (txt F i) y (txt F i) []⟩
theorem loopP0 (ty n ty2 m : Nat) (F G : Nat → Int) (hL : n ≤ 9223372036854775807) (st0 : St) (hT : VwL some 4 (tm3 n m 0 0 n ((0 : Nat) : Int)) st0.tmps) (hR : st0.rows = X0 [] []) {Q : Exit → St → Prop}
    (h0 : txt F (min n 100) = [] → Q .normal ⟨tm3 n m 0 0 n ((min n 100 : Nat) : Int), X0 [] []⟩) (h1 : txt F (min n 100) ≠ [] → ∀ y, Q .normal ⟨tm3 n m 0 0 n ((min n 100 : Nat) : Int), X1 (txt F (min n 100)) y (txt F (min n 100)) []⟩) :
    Safe Try.prog (env3 (ro2 ty n ty2 m F G)).R (.block 2 (.loop lp3)) st0 Q := by
  have hlen : st0.rows.length = 4 := by rw [hR]; rfl
  refine (loop_block (I := Ix3 n) (fam := fun z => famP0 n m F G z.i z.x) (fun z => min n 100 - z.i)
    (X := fun e stE => e = .exit 2 ∧ ((txt F (min n 100) = [] ∧ stE = ⟨tm3 n m 0 0 n ((min n 100 : Nat) : Int), X0 [] []⟩) ∨ (txt F (min n 100) ≠ [] ∧ ∃ y, stE = ⟨tm3 n m 0 0 n ((min n 100 : Nat) : Int), X1 (txt F (min n 100)) y (txt F (min n 100)) []⟩))) (i0 := ⟨0, 0, Nat.zero_le _, Nat.zero_le _⟩) (f := some) ?_ ?_ ?_ ?_).mono ?_
  · show StV some (famP0 n m F G 0 0) st0
    unfold famP0
    rw [if_pos (show txt F 0 = [] from rfl)]
    refine ⟨?_, hT⟩
    rw [hR]
    exact vX0 _ _
  · intro c hc; rfl
  · intro z
    rw [hlen]
    show 4 ≤ (famP0 n m F G z.i z.x).rows.length
    unfold famP0
    split
    · simp [X0]
    · simp [X1]
  · rintro ⟨i, x, hi, h100⟩
    rw [hlen]
    have hl : (txt F i).length ≤ 1000 := by have := txt_len F i; omega
    show Safe _ _ lp3 (famP0 n m F G i x) _
    by_cases hE : txt F i = []
    · rw [show famP0 n m F G i x = ⟨tm3 n m 0 0 n ((i : Nat) : Int), X0 [] []⟩ from if_pos hE]
      refine byRnd (envW0_ok (ro2 ty n ty2 m F G) [] []) (f := 3) (fi := fi3) (by kernel_rfl) blk3 10000 rfl (rd0 ty n ty2 m i F G [] [] (by simp) ?_ ?_ ?_)
      · intro hx T hT
        have hin : i = min n 100 := by omega
        exact ⟨⟨tm3 n m 0 0 n ((i : Nat) : Int), X0 [] []⟩, ⟨some, ⟨vX0 _ _, hT⟩, fun _ _ => rfl, by simp [X0]⟩, rfl, .inl ⟨by rw [← hin]; exact hE, by rw [← hin]⟩⟩
      · intro c1 c2 hg T hT
        refine ⟨⟨i + 1, (i : Int), by omega, by omega⟩, by show min n 100 - (i + 1) < min n 100 - i; omega, ?_⟩
        show Fit _ (famP0 n m F G (i + 1) (i : Int)) _
        rw [show famP0 n m F G (i + 1) (i : Int) = ⟨tm3 n m 0 0 n ((i + 1 : Nat) : Int), X1 (txt F (i + 1)) (i : Int) (txt F (i + 1)) []⟩ from if_neg (txt_ne hg)]
        have e : txt F (i + 1) = encI (V (F i)) := by rw [txt_good hg, hE, List.nil_append]
        rw [e]
        exact ⟨some, ⟨vX1 _ _ _ _, hT⟩, fun _ _ => rfl, by simp [X1]⟩
      · intro c1 c2 hb T hT
        refine ⟨⟨i + 1, x, by omega, by omega⟩, by show min n 100 - (i + 1) < min n 100 - i; omega, ?_⟩
        show Fit _ (famP0 n m F G (i + 1) x) _
        rw [show famP0 n m F G (i + 1) x = ⟨tm3 n m 0 0 n ((i + 1 : Nat) : Int), X0 [] []⟩ from if_pos ((txt_bad hb).trans hE)]
        exact ⟨some, ⟨vX0 _ _, hT⟩, fun _ _ => rfl, by simp [X0]⟩
    · rw [show famP0 n m F G i x = ⟨tm3 n m 0 0 n ((i : Nat) : Int), X1 (txt F i) x (txt F i) []⟩ from if_neg hE]
      refine byRnd (envW1_ok (ro2 ty n ty2 m F G) (txt F i) x (txt F i) [] hl) (f := 3) (fi := fi3) (by kernel_rfl) blk3 10000 rfl (rd1 ty n ty2 m i F G (txt F i) x (txt F i) [] hl hl ?_ ?_ ?_)
      · intro hx T hT
        have hin : i = min n 100 := by omega
        refine ⟨⟨tm3 n m 0 0 n ((i : Nat) : Int), X1 (txt F i) x (txt F i) []⟩, ⟨some, ⟨vX1 _ _ _ _, hT⟩, fun _ _ => rfl, by simp [X1]⟩, rfl, .inr ⟨by rw [← hin]; exact hE, x, by rw [← hin]⟩⟩
      · intro c1 c2 hg T hT
        refine ⟨⟨i + 1, x, by omega, by omega⟩, by show min n 100 - (i + 1) < min n 100 - i; omega, ?_⟩
        show Fit _ (famP0 n m F G (i + 1) x) _
        rw [show famP0 n m F G (i + 1) x = ⟨tm3 n m 0 0 n ((i + 1 : Nat) : Int), X1 (txt F (i + 1)) x (txt F (i + 1)) []⟩ from if_neg (txt_ne hg), txt_good hg]
        exact ⟨some, ⟨vX1 _ _ _ _, hT⟩, fun _ _ => rfl, by simp [X1]⟩
      · intro c1 c2 hb T hT
        refine ⟨⟨i + 1, x, by omega, by omega⟩, by show min n 100 - (i + 1) < min n 100 - i; omega, ?_⟩
        show Fit _ (famP0 n m F G (i + 1) x) _
        rw [show famP0 n m F G (i + 1) x = ⟨tm3 n m 0 0 n ((i + 1 : Nat) : Int), X1 (txt F (i + 1)) x (txt F (i + 1)) []⟩ from if_neg (by rw [txt_bad hb]; exact hE), txt_bad hb]
        exact ⟨some, ⟨vX1 _ _ _ _, hT⟩, fun _ _ => rfl, by simp [X1]⟩
  · rintro e stE ⟨e0, rfl, rfl, ⟨h, rfl⟩ | ⟨h, y, rfl⟩⟩
    · exact h0 h
    · exact h1 h y
def famPa (n m : Nat) (F G : Nat → Int) (i : Nat) (y : Int) : St := if txt G i = [] then ⟨tm3 n m 1 1 m ((i : Nat) : Int), X2 [] []⟩ else ⟨tm3 n m 1 1 m ((i : Nat) : Int), X3 (txt G i) y [] (txt G i)⟩
theorem loopPa (ty n ty2 m : Nat) (F G : Nat → Int) (hL : m ≤ 9223372036854775807) (st0 : St) (hT : VwL some 8 (tm3 n m 1 1 m ((0 : Nat) : Int)) st0.tmps) (hR : st0.rows = X2 [] []) {Q : Exit → St → Prop}
    (h0 : txt G (min m 100) = [] → Q .normal ⟨tm3 n m 1 1 m ((min m 100 : Nat) : Int), X2 [] []⟩) (h1 : txt G (min m 100) ≠ [] → ∀ y, Q .normal ⟨tm3 n m 1 1 m ((min m 100 : Nat) : Int), X3 (txt G (min m 100)) y [] (txt G (min m 100))⟩) :
    Safe Try.prog (env3 (ro2 ty n ty2 m F G)).R (.block 2 (.loop lp3)) st0 Q := by
  have hlen : st0.rows.length = 8 := by rw [hR]; rfl
  refine (loop_block (I := Ix3 m) (fam := fun z => famPa n m F G z.i z.x) (fun z => min m 100 - z.i)
    (X := fun e stE => e = .exit 2 ∧ ((txt G (min m 100) = [] ∧ stE = ⟨tm3 n m 1 1 m ((min m 100 : Nat) : Int), X2 [] []⟩) ∨ (txt G (min m 100) ≠ [] ∧ ∃ y, stE = ⟨tm3 n m 1 1 m ((min m 100 : Nat) : Int), X3 (txt G (min m 100)) y [] (txt G (min m 100))⟩))) (i0 := ⟨0, 0, Nat.zero_le _, Nat.zero_le _⟩) (f := some) ?_ ?_ ?_ ?_).mono ?_
  · show StV some (famPa n m F G 0 0) st0
    unfold famPa
    rw [if_pos (show txt G 0 = [] from rfl)]
    refine ⟨?_, hT⟩
    rw [hR]
    exact vX2 _ _
  · intro c hc; rfl
  · intro z
    rw [hlen]
    show 8 ≤ (famPa n m F G z.i z.x).rows.length
    unfold famPa
    split
    · simp [X2]
    · simp [X3]
  · rintro ⟨i, x, hi, h100⟩
    rw [hlen]
    have hl : (txt G i).length ≤ 1000 := by have := txt_len G i; omega
    show Safe _ _ lp3 (famPa n m F G i x) _
    by_cases hE : txt G i = []
    · rw [show famPa n m F G i x = ⟨tm3 n m 1 1 m ((i : Nat) : Int), X2 [] []⟩ from if_pos hE]
      refine byRnd (envW2_ok (ro2 ty n ty2 m F G) [] []) (f := 3) (fi := fi3) (by kernel_rfl) blk3 10000 rfl (rd2 ty n ty2 m i F G [] [] (by simp) ?_ ?_ ?_)
      · intro hx T hT
        have hin : i = min m 100 := by omega
        exact ⟨⟨tm3 n m 1 1 m ((i : Nat) : Int), X2 [] []⟩, ⟨some, ⟨vX2 _ _, hT⟩, fun _ _ => rfl, by simp [X2]⟩, rfl, .inl ⟨by rw [← hin]; exact hE, by rw [← hin]⟩⟩
      · intro c1 c2 hg T hT
        refine ⟨⟨i + 1, (i : Int), by omega, by omega⟩, by show min m 100 - (i + 1) < min m 100 - i; omega, ?_⟩
        show Fit _ (famPa n m F G (i + 1) (i : Int)) _
        rw [show famPa n m F G (i + 1) (i : Int) = ⟨tm3 n m 1 1 m ((i + 1 : Nat) : Int), X3 (txt G (i + 1)) (i : Int) [] (txt G (i + 1))⟩ from if_neg (txt_ne hg)]
        have e : txt G (i + 1) = encI (V (G i)) := by rw [txt_good hg, hE, List.nil_append]
        rw [e]
        exact ⟨some, ⟨vX3 _ _ _ _, hT⟩, fun _ _ => rfl, by simp [X3]⟩
      · intro c1 c2 hb T hT
        refine ⟨⟨i + 1, x, by omega, by omega⟩, by show min m 100 - (i + 1) < min m 100 - i; omega, ?_⟩
        show Fit _ (famPa n m F G (i + 1) x) _
        rw [show famPa n m F G (i + 1) x = ⟨tm3 n m 1 1 m ((i + 1 : Nat) : Int), X2 [] []⟩ from if_pos ((txt_bad hb).trans hE)]
        exact ⟨some, ⟨vX2 _ _, hT⟩, fun _ _ => rfl, by simp [X2]⟩
    · rw [show famPa n m F G i x = ⟨tm3 n m 1 1 m ((i : Nat) : Int), X3 (txt G i) x [] (txt G i)⟩ from if_neg hE]
      refine byRnd (envW3_ok (ro2 ty n ty2 m F G) (txt G i) x [] (txt G i) hl) (f := 3) (fi := fi3) (by kernel_rfl) blk3 10000 rfl (rd3 ty n ty2 m i F G (txt G i) x [] (txt G i) hl hl ?_ ?_ ?_)
      · intro hx T hT
        have hin : i = min m 100 := by omega
        refine ⟨⟨tm3 n m 1 1 m ((i : Nat) : Int), X3 (txt G i) x [] (txt G i)⟩, ⟨some, ⟨vX3 _ _ _ _, hT⟩, fun _ _ => rfl, by simp [X3]⟩, rfl, .inr ⟨by rw [← hin]; exact hE, x, by rw [← hin]⟩⟩
      · intro c1 c2 hg T hT
        refine ⟨⟨i + 1, x, by omega, by omega⟩, by show min m 100 - (i + 1) < min m 100 - i; omega, ?_⟩
        show Fit _ (famPa n m F G (i + 1) x) _
        rw [show famPa n m F G (i + 1) x = ⟨tm3 n m 1 1 m ((i + 1 : Nat) : Int), X3 (txt G (i + 1)) x [] (txt G (i + 1))⟩ from if_neg (txt_ne hg), txt_good hg]
        exact ⟨some, ⟨vX3 _ _ _ _, hT⟩, fun _ _ => rfl, by simp [X3]⟩
      · intro c1 c2 hb T hT
        refine ⟨⟨i + 1, x, by omega, by omega⟩, by show min m 100 - (i + 1) < min m 100 - i; omega, ?_⟩
        show Fit _ (famPa n m F G (i + 1) x) _
        rw [show famPa n m F G (i + 1) x = ⟨tm3 n m 1 1 m ((i + 1 : Nat) : Int), X3 (txt G (i + 1)) x [] (txt G (i + 1))⟩ from if_neg (by rw [txt_bad hb]; exact hE), txt_bad hb]
        exact ⟨some, ⟨vX3 _ _ _ _, hT⟩, fun _ _ => rfl, by simp [X3]⟩
  · rintro e stE ⟨e0, rfl, rfl, ⟨h, rfl⟩ | ⟨h, y, rfl⟩⟩
    · exact h0 h
    · exact h1 h y
def famPb (n m : Nat) (d : List UInt8) (x : Int) (F G : Nat → Int) (i : Nat) (y : Int) : St := if txt G i = [] then ⟨tm3 n m 1 1 m ((i : Nat) : Int), X4 d x d []⟩ else ⟨tm3 n m 1 1 m ((i : Nat) : Int), X5 d x (txt G i) y d (txt G i)⟩
theorem loopPb (ty n ty2 m : Nat) (d : List UInt8) (x : Int) (F G : Nat → Int) (hd : d.length ≤ 1000) (hL : m ≤ 9223372036854775807) (st0 : St) (hT : VwL some 9 (tm3 n m 1 1 m ((0 : Nat) : Int)) st0.tmps) (hR : st0.rows = X4 d x d []) {Q : Exit → St → Prop}
    (h0 : txt G (min m 100) = [] → Q .normal ⟨tm3 n m 1 1 m ((min m 100 : Nat) : Int), X4 d x d []⟩) (h1 : txt G (min m 100) ≠ [] → ∀ y, Q .normal ⟨tm3 n m 1 1 m ((min m 100 : Nat) : Int), X5 d x (txt G (min m 100)) y d (txt G (min m 100))⟩) :
    Safe Try.prog (env3 (ro2 ty n ty2 m F G)).R (.block 2 (.loop lp3)) st0 Q := by
  have hlen : st0.rows.length = 9 := by rw [hR]; rfl
  refine (loop_block (I := Ix3 m) (fam := fun z => famPb n m d x F G z.i z.x) (fun z => min m 100 - z.i)
    (X := fun e stE => e = .exit 2 ∧ ((txt G (min m 100) = [] ∧ stE = ⟨tm3 n m 1 1 m ((min m 100 : Nat) : Int), X4 d x d []⟩) ∨ (txt G (min m 100) ≠ [] ∧ ∃ y, stE = ⟨tm3 n m 1 1 m ((min m 100 : Nat) : Int), X5 d x (txt G (min m 100)) y d (txt G (min m 100))⟩))) (i0 := ⟨0, 0, Nat.zero_le _, Nat.zero_le _⟩) (f := some) ?_ ?_ ?_ ?_).mono ?_
  · show StV some (famPb n m d x F G 0 0) st0
    unfold famPb
    rw [if_pos (show txt G 0 = [] from rfl)]
    refine ⟨?_, hT⟩
    rw [hR]
    exact vX4 _ _ _ _
  · intro c hc; rfl
  · intro z
    rw [hlen]
    show 9 ≤ (famPb n m d x F G z.i z.x).rows.length
    unfold famPb
    split
    · simp [X4]
    · simp [X5]
  · rintro ⟨i, y, hi, h100⟩
    rw [hlen]
    have hl : (txt G i).length ≤ 1000 := by have := txt_len G i; omega
    show Safe _ _ lp3 (famPb n m d x F G i y) _
    by_cases hE : txt G i = []
    · rw [show famPb n m d x F G i y = ⟨tm3 n m 1 1 m ((i : Nat) : Int), X4 d x d []⟩ from if_pos hE]
      refine byRnd (envW4_ok (ro2 ty n ty2 m F G) d x d []) (f := 3) (fi := fi3) (by kernel_rfl) blk3 10000 rfl (rd4 ty n ty2 m i F G d x d [] (by simp) ?_ ?_ ?_)
      · intro hx T hT
        have hin : i = min m 100 := by omega
        exact ⟨⟨tm3 n m 1 1 m ((i : Nat) : Int), X4 d x d []⟩, ⟨some, ⟨vX4 _ _ _ _, hT⟩, fun _ _ => rfl, by simp [X4]⟩, rfl, .inl ⟨by rw [← hin]; exact hE, by rw [← hin]⟩⟩
      · intro c1 c2 hg T hT
        refine ⟨⟨i + 1, (i : Int), by omega, by omega⟩, by show min m 100 - (i + 1) < min m 100 - i; omega, ?_⟩
        show Fit _ (famPb n m d x F G (i + 1) (i : Int)) _
        rw [show famPb n m d x F G (i + 1) (i : Int) = ⟨tm3 n m 1 1 m ((i + 1 : Nat) : Int), X5 d x (txt G (i + 1)) (i : Int) d (txt G (i + 1))⟩ from if_neg (txt_ne hg)]
        have e : txt G (i + 1) = encI (V (G i)) := by rw [txt_good hg, hE, List.nil_append]
        rw [e]
        exact ⟨some, ⟨vX5 _ _ _ _ _ _, hT⟩, fun _ _ => rfl, by simp [X5]⟩
      · intro c1 c2 hb T hT
        refine ⟨⟨i + 1, y, by omega, by omega⟩, by show min m 100 - (i + 1) < min m 100 - i; omega, ?_⟩
        show Fit _ (famPb n m d x F G (i + 1) y) _
        rw [show famPb n m d x F G (i + 1) y = ⟨tm3 n m 1 1 m ((i + 1 : Nat) : Int), X4 d x d []⟩ from if_pos ((txt_bad hb).trans hE)]
        exact ⟨some, ⟨vX4 _ _ _ _, hT⟩, fun _ _ => rfl, by simp [X4]⟩
    · rw [show famPb n m d x F G i y = ⟨tm3 n m 1 1 m ((i : Nat) : Int), X5 d x (txt G i) y d (txt G i)⟩ from if_neg hE]
      refine byRnd (envW5_ok (ro2 ty n ty2 m F G) d x (txt G i) y d (txt G i) hl) (f := 3) (fi := fi3) (by kernel_rfl) blk3 10000 rfl (rd5 ty n ty2 m i F G d x (txt G i) y d (txt G i) hl hl ?_ ?_ ?_)
      · intro hx T hT
        have hin : i = min m 100 := by omega
        refine ⟨⟨tm3 n m 1 1 m ((i : Nat) : Int), X5 d x (txt G i) y d (txt G i)⟩, ⟨some, ⟨vX5 _ _ _ _ _ _, hT⟩, fun _ _ => rfl, by simp [X5]⟩, rfl, .inr ⟨by rw [← hin]; exact hE, y, by rw [← hin]⟩⟩
      · intro c1 c2 hg T hT
        refine ⟨⟨i + 1, y, by omega, by omega⟩, by show min m 100 - (i + 1) < min m 100 - i; omega, ?_⟩
        show Fit _ (famPb n m d x F G (i + 1) y) _
        rw [show famPb n m d x F G (i + 1) y = ⟨tm3 n m 1 1 m ((i + 1 : Nat) : Int), X5 d x (txt G (i + 1)) y d (txt G (i + 1))⟩ from if_neg (txt_ne hg), txt_good hg]
        exact ⟨some, ⟨vX5 _ _ _ _ _ _, hT⟩, fun _ _ => rfl, by simp [X5]⟩
      · intro c1 c2 hb T hT
        refine ⟨⟨i + 1, y, by omega, by omega⟩, by show min m 100 - (i + 1) < min m 100 - i; omega, ?_⟩
        show Fit _ (famPb n m d x F G (i + 1) y) _
        rw [show famPb n m d x F G (i + 1) y = ⟨tm3 n m 1 1 m ((i + 1 : Nat) : Int), X5 d x (txt G (i + 1)) y d (txt G (i + 1))⟩ from if_neg (by rw [txt_bad hb]; exact hE), txt_bad hb]
        exact ⟨some, ⟨vX5 _ _ _ _ _ _, hT⟩, fun _ _ => rfl, by simp [X5]⟩
  · rintro e stE ⟨e0, rfl, rfl, ⟨h, rfl⟩ | ⟨h, y, rfl⟩⟩
    · exact h0 h
    · exact h1 h y
end Go.Dc.Kd
