/- The reference's words. -/
import Derived.Test.YtachjlpdnehgiaaRef
set_option linter.unusedVariables false
set_option linter.unusedSimpArgs false
namespace Go.Dc.Kd
open Go.Proofs Go.RowKit Go.Shelf
set_option maxRecDepth 100000
theorem vr78 (R : Nat → RoRow) (s : List UInt8) (L : List (List UInt8)) (st i : Nat) (Q : Exit → St → Prop) : rnd (env78 R) 10000 78 lp78 (fam78 s L st i) Q =
    (bif decide ((↑i : Int) ≤ (↑s.length : Int)) then
    bif (↑i : Int) == (↑s.length : Int) then
      bif decide ((↑i : Int) > (↑st : Int)) then
        bif slCond (some (↑st : Int)) (some (↑i : Int)) s.length then
          bif
              decide (0 + L.length ≤ L.length) &&
                (true &&
                  (true &&
                    decide
                      (((Src.gen L.length fun j => AV.str (L.getD (0 + j) [])).len + 1) * 16 ≤ 140737488355328))) then
            Q Exit.normal
              (St.mk
                [AV.str s, AV.any, AV.any,
                  AV.sl false 2 0 ((Src.gen L.length fun j => AV.str (L.getD (0 + j) [])).len + 1) Cp.no,
                  AV.int IntKind.i64 (IntKind.i64.wrap ((↑i : Int) + 1)),
                  AV.int IntKind.i64 (IntKind.i64.wrap ((↑i : Int) + 1)), AV.int IntKind.i64 (↑i : Int), AV.str s,
                  AV.int IntKind.i64 (↑s.length : Int), AV.bool true, AV.int IntKind.i64 (↑i : Int),
                  AV.int IntKind.i64 (IntKind.i64.wrap ((↑i : Int) + 1)), AV.int IntKind.i64 (↑i : Int), AV.str s,
                  AV.int IntKind.i64 (↑s.length : Int), AV.bool ((↑i : Int) == (↑s.length : Int)), AV.bool true,
                  AV.tup [], AV.tup [], AV.tup [], AV.tup [], AV.bool true, AV.int IntKind.i64 (↑i : Int),
                  AV.int IntKind.i64 (↑st : Int), AV.bool true, AV.sl false 0 0 L.length Cp.no, AV.str s,
                  AV.int IntKind.i64 (↑st : Int), AV.int IntKind.i64 (↑i : Int),
                  AV.str
                    (List.take (slHi s.length (some (↑i : Int)) - slLo (some (↑st : Int)))
                      (List.drop (slLo (some (↑st : Int))) s)),
                  AV.sl false 1 0 1 Cp.tight,
                  AV.sl false 2 0 ((Src.gen L.length fun j => AV.str (L.getD (0 + j) [])).len + 1) Cp.no,
                  AV.int IntKind.i64 (↑i : Int), AV.int IntKind.i64 (IntKind.i64.wrap ((↑i : Int) + 1)), AV.any]
                [none,
                  some
                    (Row.lst 9 1
                      [AV.str
                          (List.take (slHi s.length (some (↑i : Int)) - slLo (some (↑st : Int)))
                            (List.drop (slLo (some (↑st : Int))) s))]),
                  some
                    (Row.gen 9 1 ((Src.gen L.length fun j => AV.str (L.getD (0 + j) [])).len + 1) fun j =>
                      bif j.blt (Src.gen L.length fun j => AV.str (L.getD (0 + j) [])).len then
                        AV.str (L.getD (0 + j) [])
                      else
                        (Src.lst
                              [AV.str
                                  (List.take (slHi s.length (some (↑i : Int)) - slLo (some (↑st : Int)))
                                    (List.drop (slLo (some (↑st : Int))) s))]).at_
                          (j - (Src.gen L.length fun j => AV.str (L.getD (0 + j) [])).len))])
          else False
        else False
      else
        Q Exit.normal
          (St.mk
            [AV.str s, AV.any, AV.any, AV.sl false 0 0 L.length Cp.no,
              AV.int IntKind.i64 (IntKind.i64.wrap ((↑i : Int) + 1)),
              AV.int IntKind.i64 (IntKind.i64.wrap ((↑i : Int) + 1)), AV.int IntKind.i64 (↑i : Int), AV.str s,
              AV.int IntKind.i64 (↑s.length : Int), AV.bool true, AV.int IntKind.i64 (↑i : Int),
              AV.int IntKind.i64 (IntKind.i64.wrap ((↑i : Int) + 1)), AV.int IntKind.i64 (↑i : Int), AV.str s,
              AV.int IntKind.i64 (↑s.length : Int), AV.bool ((↑i : Int) == (↑s.length : Int)), AV.bool true, AV.tup [],
              AV.tup [], AV.tup [], AV.tup [], AV.bool true, AV.int IntKind.i64 (↑i : Int),
              AV.int IntKind.i64 (↑st : Int), AV.bool false, AV.any, AV.any, AV.any, AV.any, AV.any, AV.any, AV.any,
              AV.int IntKind.i64 (↑i : Int), AV.int IntKind.i64 (IntKind.i64.wrap ((↑i : Int) + 1)), AV.any]
            [some (Row.gen 9 1 L.length fun j => AV.str (L.getD j []))])
    else
      bif true && decide ((↑i : Int) < (↑s.length : Int)) then
        bif blk8 (↑(s.getD (↑i : Int).toNat 0).toNat : Int) then
          bif decide ((↑i : Int) > (↑st : Int)) then
            bif slCond (some (↑st : Int)) (some (↑i : Int)) s.length then
              bif
                  decide (0 + L.length ≤ L.length) &&
                    (true &&
                      (true &&
                        decide
                          (((Src.gen L.length fun j => AV.str (L.getD (0 + j) [])).len + 1) * 16 ≤
                            140737488355328))) then
                Q Exit.normal
                  (St.mk
                    [AV.str s, AV.any, AV.any,
                      AV.sl false 2 0 ((Src.gen L.length fun j => AV.str (L.getD (0 + j) [])).len + 1) Cp.no,
                      AV.int IntKind.i64 (IntKind.i64.wrap ((↑i : Int) + 1)),
                      AV.int IntKind.i64 (IntKind.i64.wrap ((↑i : Int) + 1)), AV.int IntKind.i64 (↑i : Int), AV.str s,
                      AV.int IntKind.i64 (↑s.length : Int), AV.bool true, AV.int IntKind.i64 (↑i : Int),
                      AV.int IntKind.i64 (IntKind.i64.wrap ((↑i : Int) + 1)), AV.int IntKind.i64 (↑i : Int), AV.str s,
                      AV.int IntKind.i64 (↑s.length : Int), AV.bool ((↑i : Int) == (↑s.length : Int)), AV.bool false,
                      AV.str s, AV.int IntKind.i64 (↑i : Int),
                      AV.int IntKind.u8 (↑(s.getD (↑i : Int).toNat 0).toNat : Int),
                      AV.bool (blk8 (↑(s.getD (↑i : Int).toNat 0).toNat : Int)), AV.bool true,
                      AV.int IntKind.i64 (↑i : Int), AV.int IntKind.i64 (↑st : Int), AV.bool true,
                      AV.sl false 0 0 L.length Cp.no, AV.str s, AV.int IntKind.i64 (↑st : Int),
                      AV.int IntKind.i64 (↑i : Int),
                      AV.str
                        (List.take (slHi s.length (some (↑i : Int)) - slLo (some (↑st : Int)))
                          (List.drop (slLo (some (↑st : Int))) s)),
                      AV.sl false 1 0 1 Cp.tight,
                      AV.sl false 2 0 ((Src.gen L.length fun j => AV.str (L.getD (0 + j) [])).len + 1) Cp.no,
                      AV.int IntKind.i64 (↑i : Int), AV.int IntKind.i64 (IntKind.i64.wrap ((↑i : Int) + 1)), AV.any]
                    [none,
                      some
                        (Row.lst 9 1
                          [AV.str
                              (List.take (slHi s.length (some (↑i : Int)) - slLo (some (↑st : Int)))
                                (List.drop (slLo (some (↑st : Int))) s))]),
                      some
                        (Row.gen 9 1 ((Src.gen L.length fun j => AV.str (L.getD (0 + j) [])).len + 1) fun j =>
                          bif j.blt (Src.gen L.length fun j => AV.str (L.getD (0 + j) [])).len then
                            AV.str (L.getD (0 + j) [])
                          else
                            (Src.lst
                                  [AV.str
                                      (List.take (slHi s.length (some (↑i : Int)) - slLo (some (↑st : Int)))
                                        (List.drop (slLo (some (↑st : Int))) s))]).at_
                              (j - (Src.gen L.length fun j => AV.str (L.getD (0 + j) [])).len))])
              else False
            else False
          else
            Q Exit.normal
              (St.mk
                [AV.str s, AV.any, AV.any, AV.sl false 0 0 L.length Cp.no,
                  AV.int IntKind.i64 (IntKind.i64.wrap ((↑i : Int) + 1)),
                  AV.int IntKind.i64 (IntKind.i64.wrap ((↑i : Int) + 1)), AV.int IntKind.i64 (↑i : Int), AV.str s,
                  AV.int IntKind.i64 (↑s.length : Int), AV.bool true, AV.int IntKind.i64 (↑i : Int),
                  AV.int IntKind.i64 (IntKind.i64.wrap ((↑i : Int) + 1)), AV.int IntKind.i64 (↑i : Int), AV.str s,
                  AV.int IntKind.i64 (↑s.length : Int), AV.bool ((↑i : Int) == (↑s.length : Int)), AV.bool false,
                  AV.str s, AV.int IntKind.i64 (↑i : Int), AV.int IntKind.u8 (↑(s.getD (↑i : Int).toNat 0).toNat : Int),
                  AV.bool (blk8 (↑(s.getD (↑i : Int).toNat 0).toNat : Int)), AV.bool true,
                  AV.int IntKind.i64 (↑i : Int), AV.int IntKind.i64 (↑st : Int), AV.bool false, AV.any, AV.any, AV.any,
                  AV.any, AV.any, AV.any, AV.any, AV.int IntKind.i64 (↑i : Int),
                  AV.int IntKind.i64 (IntKind.i64.wrap ((↑i : Int) + 1)), AV.any]
                [some (Row.gen 9 1 L.length fun j => AV.str (L.getD j []))])
        else
          Q Exit.normal
            (St.mk
              [AV.str s, AV.any, AV.any, AV.sl false 0 0 L.length Cp.no, AV.int IntKind.i64 (↑st : Int),
                AV.int IntKind.i64 (IntKind.i64.wrap ((↑i : Int) + 1)), AV.int IntKind.i64 (↑i : Int), AV.str s,
                AV.int IntKind.i64 (↑s.length : Int), AV.bool true, AV.int IntKind.i64 (↑i : Int),
                AV.int IntKind.i64 (IntKind.i64.wrap ((↑i : Int) + 1)), AV.int IntKind.i64 (↑i : Int), AV.str s,
                AV.int IntKind.i64 (↑s.length : Int), AV.bool ((↑i : Int) == (↑s.length : Int)), AV.bool false,
                AV.str s, AV.int IntKind.i64 (↑i : Int), AV.int IntKind.u8 (↑(s.getD (↑i : Int).toNat 0).toNat : Int),
                AV.bool (blk8 (↑(s.getD (↑i : Int).toNat 0).toNat : Int)), AV.bool false, AV.any, AV.any, AV.any,
                AV.any, AV.any, AV.any, AV.any, AV.any, AV.any, AV.any, AV.any, AV.any, AV.any]
              [some (Row.gen 9 1 L.length fun j => AV.str (L.getD j []))])
      else False
  else
    Q (Exit.exit 0)
      (St.mk
        [AV.str s, AV.any, AV.any, AV.sl false 0 0 L.length Cp.no, AV.int IntKind.i64 (↑st : Int),
          AV.int IntKind.i64 (↑i : Int), AV.int IntKind.i64 (↑i : Int), AV.str s, AV.int IntKind.i64 (↑s.length : Int),
          AV.bool false, AV.any, AV.any, AV.any, AV.any, AV.any, AV.any, AV.any, AV.any, AV.any, AV.any, AV.any, AV.any,
          AV.any, AV.any, AV.any, AV.any, AV.any, AV.any, AV.any, AV.any, AV.any, AV.any, AV.any, AV.any, AV.any]
        [some (Row.gen 9 1 L.length fun j => AV.str (L.getD j []))])) := by kernel_rfl
def tm78E (n : Nat) : List AV := [.any, .any, .any, .sl false 0 0 n .no, .any, .any, .any, .any, .any, .any, .any, .any, .any, .any, .any, .any, .any, .any, .any, .any, .any, .any, .any, .any, .any, .any, .any, .any, .any, .any, .any, .any, .any, .any, .any]
def end78 (L : List (List UInt8)) : St := ⟨tm78E L.length, [some (strsRow 9 L)]⟩
theorem vc78 (R : Nat → RoRow) (s : List UInt8) (L : List (List UInt8)) (S0 : St) (Q : AV → Rows → Prop) : vcd ((env78 R).addLoop 78 0 (fun s0 k => s0 = S0 ∧ k .normal (end78 L))) 10000 78 fi78 [.str s] [] Q =
    (St.mk
        [AV.str s, AV.tup [], AV.nils, AV.nils, AV.int IntKind.i64 0, AV.int IntKind.i64 0, AV.tup [], AV.tup [],
          AV.tup [], AV.tup [], AV.tup [], AV.tup [], AV.tup [], AV.tup [], AV.tup [], AV.tup [], AV.tup [], AV.tup [],
          AV.tup [], AV.tup [], AV.tup [], AV.tup [], AV.tup [], AV.tup [], AV.tup [], AV.tup [], AV.tup [], AV.tup [],
          AV.tup [], AV.tup [], AV.tup [], AV.tup [], AV.tup [], AV.tup [], AV.tup []]
        [] =
      S0 ∧
    Q (AV.sl false 0 0 L.length Cp.no) [some (Row.gen 9 1 L.length fun j => AV.str (L.getD j []))]) := by kernel_rfl
def st78 (s : List UInt8) : St := St.mk
        [AV.str s, AV.tup [], AV.nils, AV.nils, AV.int IntKind.i64 0, AV.int IntKind.i64 0, AV.tup [], AV.tup [],
          AV.tup [], AV.tup [], AV.tup [], AV.tup [], AV.tup [], AV.tup [], AV.tup [], AV.tup [], AV.tup [], AV.tup [],
          AV.tup [], AV.tup [], AV.tup [], AV.tup [], AV.tup [], AV.tup [], AV.tup [], AV.tup [], AV.tup [], AV.tup [],
          AV.tup [], AV.tup [], AV.tup [], AV.tup [], AV.tup [], AV.tup [], AV.tup []]
        []
theorem appRow (f : Nat → Option Nat) (N : Nat) (L : List (List UInt8)) (x : List UInt8) : RowV f N (strsRow 9 (L ++ [x])) (Row.gen 9 1 ((Src.gen L.length fun j => AV.str (L.getD (0 + j) [])).len + 1) fun j => bif j.blt (Src.gen L.length fun j => AV.str (L.getD (0 + j) [])).len then AV.str (L.getD (0 + j) []) else (Src.lst [AV.str x]).at_ (j - (Src.gen L.length fun j => AV.str (L.getD (0 + j) [])).len)) := by
  refine .gen (by simp [Src.len]) fun j hj => ?_
  have hj : j < L.length + 1 := by simpa using hj
  have e : (bif j.blt (Src.gen L.length fun j => AV.str (L.getD (0 + j) [])).len then AV.str (L.getD (0 + j) [])
      else (Src.lst [AV.str x]).at_ (j - (Src.gen L.length fun j => AV.str (L.getD (0 + j) [])).len)) = .str ((L ++ [x]).getD j []) := by
    by_cases hjk : j < L.length
    · have : j.blt L.length = true := by rw [Nat.blt_eq]; exact hjk
      simp only [Src.len, this, cond_true, Nat.zero_add]
      simp [List.getD, List.getElem?_append_left hjk]
    · have : j = L.length := by omega
      subst this
      have : L.length.blt L.length = false := by rw [Bool.eq_false_iff]; intro h; rw [Nat.blt_eq] at h; omega
      simp only [Src.len, this, cond_false, Nat.sub_self, Src.at_]
      simp [List.getD]
  rw [e]
  exact ⟨rfl, gnd_vw _ _ _ rfl⟩
def v1 (a : Nat) : Nat → Option Nat := fun c => match c with | 0 => some a | _ + 1 => none
theorem view1 {a : Nat} {r r' : Row} {h : Rows} (hr : h[a]? = some (some r')) (hv : RowV (v1 a) 1 r r') : View (v1 a) [some r] h := by
  refine View.of ?_ ?_
  · intro c o ho
    match c with
    | 0 => cases ho; exact ViewL.at_ (b := a) rfl hr hv
    | c + 1 => simp at ho
  · intro c c' b _ _ h1 h2
    match c, c' with
    | 0, 0 => rfl
    | 0, _ + 1 => simp [v1] at h2
    | _ + 1, _ => simp [v1] at h1
theorem fit1 {a : Nat} {r r' : Row} {h : Rows} {T T' : List AV} (hr : h[a]? = some (some r')) (hv : RowV (v1 a) 1 r r') (hT : VwL (v1 a) 1 T T') : Fit 0 ⟨T, [some r]⟩ ⟨T', h⟩ :=
  ⟨v1 a, ⟨view1 hr hv, hT⟩, fun c hc => absurd hc (Nat.not_lt_zero _), Nat.zero_le _⟩
theorem strsV (f : Nat → Option Nat) (N : Nat) (L : List (List UInt8)) : RowV f N (strsRow 9 L) (Row.gen 9 1 L.length fun j => AV.str (L.getD j [])) := .gen rfl fun j _ => ⟨rfl, gnd_vw _ _ _ rfl⟩
theorem viewV (L : List (List UInt8)) (h0 : L.length = 0) : View (fun _ => Option.none) [some (strsRow 9 L)] [] := by
  refine View.of ?_ ?_
  · intro c o ho
    match c with
    | 0 => cases ho; exact ViewL.void rfl h0
    | c + 1 => simp at ho
  · intro c c' b _ _ h1 h2
    cases h1
/-! ### The words, step by step -/
def InvW (s : List UInt8) (L : List (List UInt8)) (st i : Nat) : Prop := st ≤ i ∧ i ≤ s.length + 1 ∧ (i ≤ s.length → L ++ wordsGo (s.drop i) (cut s (st, i)) = words s) ∧ (i = s.length + 1 → L = words s)
theorem cut_nil (s : List UInt8) (i : Nat) : cut s (i, i) = [] := by simp [cut]
theorem cut_ne {s : List UInt8} {st i : Nat} (h : st < i) (hi : i ≤ s.length) : cut s (st, i) ≠ [] := by
  intro h1
  have := congrArg List.length h1
  simp [cut] at this
  omega
theorem inv0 (s : List UInt8) : InvW s [] 0 0 := ⟨Nat.le_refl _, Nat.zero_le _, fun _ => by rw [cut_nil]; simp [words], fun h => by omega⟩
theorem invA {s : List UInt8} {L : List (List UInt8)} {st i : Nat} (h : InvW s L st i) (hi : i = s.length) (hs : st < i) : InvW s (L ++ [cut s (st, i)]) (i + 1) (i + 1) := by
  refine ⟨Nat.le_refl _, by omega, fun h => by omega, fun _ => ?_⟩
  rw [← h.2.2.1 (by omega), hi, List.drop_length, wordsGo, if_neg (cut_ne (by omega) (Nat.le_refl _))]
theorem invB {s : List UInt8} {L : List (List UInt8)} {st i : Nat} (h : InvW s L st i) (hi : i = s.length) (hs : ¬ st < i) : InvW s L (i + 1) (i + 1) := by
  refine ⟨Nat.le_refl _, by omega, fun h => by omega, fun _ => ?_⟩
  have e : st = i := by have := h.1; omega
  rw [← h.2.2.1 (by omega), e, cut_nil, hi, List.drop_length, wordsGo, if_pos rfl, List.append_nil]
theorem drop_get {s : List UInt8} {i : Nat} (hi : i < s.length) : s.drop i = s.getD i 0 :: s.drop (i + 1) := by
  rw [List.drop_eq_getElem_cons hi]
  simp [List.getD, hi]
theorem invC {s : List UInt8} {L : List (List UInt8)} {st i : Nat} (h : InvW s L st i) (hi : i < s.length) (hb : blankB (s.getD i 0) = true) (hs : st < i) : InvW s (L ++ [cut s (st, i)]) (i + 1) (i + 1) := by
  refine ⟨Nat.le_refl _, by omega, fun _ => ?_, fun h => by omega⟩
  rw [← h.2.2.1 (by omega), drop_get hi, wordsGo, if_pos hb, if_neg (cut_ne (by omega) (by omega)), cut_nil]
  simp
theorem invD {s : List UInt8} {L : List (List UInt8)} {st i : Nat} (h : InvW s L st i) (hi : i < s.length) (hb : blankB (s.getD i 0) = true) (hs : ¬ st < i) : InvW s L (i + 1) (i + 1) := by
  refine ⟨Nat.le_refl _, by omega, fun _ => ?_, fun h => by omega⟩
  have e : st = i := by have := h.1; omega
  rw [← h.2.2.1 (by omega), drop_get hi, wordsGo, if_pos hb, e, if_pos (cut_nil s i), cut_nil]
theorem invE {s : List UInt8} {L : List (List UInt8)} {st i : Nat} (h : InvW s L st i) (hi : i < s.length) (hb : blankB (s.getD i 0) = false) : InvW s L st (i + 1) := by
  have h1 := h.1
  refine ⟨by omega, by omega, fun _ => ?_, fun h => by omega⟩
  rw [← h.2.2.1 (by omega), drop_get hi, wordsGo, if_neg (by rw [hb]; simp)]
  congr 2
  simp only [cut]
  rw [show i + 1 - st = (i - st) + 1 by omega, List.take_add_one, List.getElem?_drop, show st + (i - st) = i by omega]
  simp [List.getD, hi]
theorem invL {s : List UInt8} {L : List (List UInt8)} {st i : Nat} (h : InvW s L st i) : L.length ≤ s.length + 1 := by
  have hw := words_count s
  rcases Nat.lt_or_ge s.length i with h1 | h1
  · rw [h.2.2.2 (by have := h.2.1; omega)]; exact hw
  · have := congrArg List.length (h.2.2.1 h1)
    simp at this
    omega
theorem slE (s : List UInt8) (st i : Nat) : List.take (slHi s.length (some (i : Int)) - slLo (some (st : Int))) (List.drop (slLo (some (st : Int))) s) = cut s (st, i) := by simp [slHi, slLo, cut]
theorem slT {n st i : Nat} (h1 : st ≤ i) (h2 : i ≤ n) : slCond (some (st : Int)) (some (i : Int)) n = true := by
  simp [slCond]
  omega
structure Ix (s : List UInt8) where
  L : List (List UInt8)
  st : Nat
  i : Nat
  inv : InvW s L st i
theorem loop78 (R : Nat → RoRow) (s : List UInt8) (hn : s.length ≤ 900000) {Q : Exit → St → Prop} (h : Q .normal (end78 (words s))) :
    Safe Try.prog (env78 R).R (.block 0 (.loop lp78)) (st78 s) Q := by
  refine (loop_block (I := Ix s) (fam := fun x => fam78 s x.L x.st x.i) (fun x => s.length + 1 - x.i)
    (X := fun e stE => e = .exit 0 ∧ stE = end78 (words s)) (i0 := ⟨[], 0, 0, inv0 s⟩) (f := fun _ => none) ?_ ?_ ?_ ?_).mono ?_
  · refine ⟨viewV _ rfl, ?_⟩
    simp only [fam78, tm78, st78, List.length_nil]
    repeat' (first | with_reducible exact VwL.nil | with_reducible refine VwL.cons ?_ ?_ | with_reducible exact Vw.anyI | with_reducible exact Vw.strI | with_reducible exact Vw.intI |  exact Vw.gndI rfl | exact Vw.slI (by decide) rfl | exact Vw.slN (by decide) rfl)
  · intro c hc; simp [st78] at hc
  · intro x; simp [st78]
  · rintro ⟨L, st, i, inv⟩
    have hst := inv.1
    have hi1 := inv.2.1
    have hL := invL inv
    refine byRnd (env78_ok R) (f := 78) (fi := fi78) (by kernel_rfl) blk78 10000 (vr78 R s L st i _) ?_
    have hw : IntKind.i64.wrap ((i : Int) + 1) = ((i + 1 : Nat) : Int) := by
      rw [wrapI (by omega) (by omega)]; omega
    have lt : i ≤ s.length → s.length + 1 - (i + 1) < s.length + 1 - i := fun h => by omega
    refine hcond (fun c1 => ?_) (fun c1 => ?_)
    · have c1 : i ≤ s.length := by have := of_decide_eq_true c1; omega
      have lt := lt c1
      rw [slE]
      refine hcond (fun c2 => ?_) (fun c2 => ?_)
      · have c2 : i = s.length := by have := of_decide_eq_true c2; omega
        refine hcond (fun c3 => ?_) (fun c3 => ?_)
        · have c3 : st < i := by have := of_decide_eq_true c3; omega
          refine hcond (fun _ => ?_) (fun c4 => absurd ((slT hst c1).symm.trans c4) (by simp))
          refine hcond (fun _ => ?_) (fun c4 => absurd ((cap16 (by omega)).symm.trans c4) (by simp))
          refine ⟨⟨_, _, _, invA inv c2 c3⟩, lt, fit1 (a := 2) rfl (appRow _ _ L _) ?_⟩
          simp only [tm78, List.length_append, List.length_cons, List.length_nil]
          repeat' (first | with_reducible exact VwL.nil | with_reducible refine VwL.cons ?_ ?_ | with_reducible exact Vw.anyI | with_reducible exact Vw.strI | with_reducible exact Vw.intI | with_reducible exact Vw.intE hw | exact Vw.gndI rfl | exact Vw.slI (by decide) rfl | exact Vw.slN (by decide) rfl)
        · have c3 : ¬ st < i := by have := of_decide_eq_false c3; omega
          refine ⟨⟨_, _, _, invB inv c2 c3⟩, lt, fit1 (a := 0) rfl (strsV _ _ L) ?_⟩
          simp only [tm78]
          repeat' (first | with_reducible exact VwL.nil | with_reducible refine VwL.cons ?_ ?_ | with_reducible exact Vw.anyI | with_reducible exact Vw.strI | with_reducible exact Vw.intI | with_reducible exact Vw.intE hw | exact Vw.gndI rfl | exact Vw.slI (by decide) rfl | exact Vw.slN (by decide) rfl)
      · have c2 : ¬ i = s.length := by
          intro e
          subst e
          simp at c2
        refine hcond (fun _ => ?_) (fun c4 => by exfalso; simp at c4; omega)
        have eb : blk8 (↑(s.getD (↑i : Int).toNat 0).toNat : Int) = blankB (s.getD i 0) := blk8_blank _
        rw [eb]
        refine hcond (fun c4 => ?_) (fun c4 => ?_)
        · refine hcond (fun c3 => ?_) (fun c3 => ?_)
          · have c3 : st < i := by have := of_decide_eq_true c3; omega
            refine hcond (fun _ => ?_) (fun c4 => absurd ((slT hst c1).symm.trans c4) (by simp))
            refine hcond (fun _ => ?_) (fun c4 => absurd ((cap16 (by omega)).symm.trans c4) (by simp))
            refine ⟨⟨_, _, _, invC inv (by omega) c4 c3⟩, lt, fit1 (a := 2) rfl (appRow _ _ L _) ?_⟩
            simp only [tm78, List.length_append, List.length_cons, List.length_nil]
            repeat' (first | with_reducible exact VwL.nil | with_reducible refine VwL.cons ?_ ?_ | with_reducible exact Vw.anyI | with_reducible exact Vw.strI | with_reducible exact Vw.intI | with_reducible exact Vw.intE hw | exact Vw.gndI rfl | exact Vw.slI (by decide) rfl | exact Vw.slN (by decide) rfl)
          · have c3 : ¬ st < i := by have := of_decide_eq_false c3; omega
            refine ⟨⟨_, _, _, invD inv (by omega) c4 c3⟩, lt, fit1 (a := 0) rfl (strsV _ _ L) ?_⟩
            simp only [tm78]
            repeat' (first | with_reducible exact VwL.nil | with_reducible refine VwL.cons ?_ ?_ | with_reducible exact Vw.anyI | with_reducible exact Vw.strI | with_reducible exact Vw.intI | with_reducible exact Vw.intE hw | exact Vw.gndI rfl | exact Vw.slI (by decide) rfl | exact Vw.slN (by decide) rfl)
        · refine ⟨⟨_, _, _, invE inv (by omega) c4⟩, lt, fit1 (a := 0) rfl (strsV _ _ L) ?_⟩
          simp only [tm78]
          repeat' (first | with_reducible exact VwL.nil | with_reducible refine VwL.cons ?_ ?_ | with_reducible exact Vw.anyI | with_reducible exact Vw.strI | with_reducible exact Vw.intI | with_reducible exact Vw.intE hw | exact Vw.gndI rfl | exact Vw.slI (by decide) rfl | exact Vw.slN (by decide) rfl)
    · have c1 : ¬ i ≤ s.length := by have := of_decide_eq_false c1; omega
      have hin : i = s.length + 1 := by omega
      have hLw := inv.2.2.2 hin
      subst hin
      subst hLw
      refine ⟨end78 (words s), fit1 (a := 0) rfl (strsV _ _ _) ?_, rfl, rfl⟩
      simp only [tm78E]
      repeat' (first | with_reducible exact VwL.nil | with_reducible refine VwL.cons ?_ ?_ | with_reducible exact Vw.anyI | with_reducible exact Vw.strI | with_reducible exact Vw.intI |  exact Vw.gndI rfl | exact Vw.slI (by decide) rfl | exact Vw.slN (by decide) rfl)
  · rintro e stE ⟨e0, rfl, rfl, rfl⟩
    exact h
theorem safe78 (R : Nat → RoRow) (s : List UInt8) (hs : s.length ≤ 900000) : SafeCall Try.prog R 78 [.str s] [] fun v h => v = .sl false 0 0 (words s).length .no ∧ h = [some (strsRow 9 (words s))] := by
  refine byVcd' (E := (env78 R).addLoop 78 0 (fun s0 k => s0 = st78 s ∧ k .normal (end78 (words s)))) ?_ (f := 78) (fi := fi78) (by kernel_rfl) 10000
      (vc78 R s (words s) (st78 s) _) ⟨rfl, rfl, rfl⟩
  refine (env78_ok R).addLoop (f := 78) (fi := fi78) (by kernel_rfl) (body := .loop lp78) blk78 ?_
  rintro st k ⟨rfl, hk⟩
  exact loop78 R s hs hk
/-- Words. -/
def spec78 : CallSpec := fun args h k => match args with
  | [.str s] => s.length.le 900000 ∧ k (.sl false h.length 0 (words s).length .no) (h ++ [some (strsRow 9 (words s))])
  | _ => False
theorem spec78_ok (R : Nat → RoRow) : ∀ args h k, spec78 args h k → SafeCall Try.prog R 78 args h k := by
  intro args h k hk
  unfold spec78 at hk
  split at hk
  · rename_i s
    refine ((safe78 R s hk.1).fresh ?_ h).mono ?_
    · exact VwL.cons Vw.strI VwL.nil
    · rintro v'' h'' ⟨v', h', ⟨rfl, rfl⟩, rfl, rfl⟩
      exact hk.2
  · exact hk.elim
noncomputable def lp44 : Code := loopB fi44 0
theorem blk44 : blockOf fi44 0 = some (.loop lp44) := by kernel_rfl
def tm44 (n k : Nat) (i : Int) : List AV := [.any, .any, .any, .sl false 1 0 k .no, .sl false 0 0 n .no, .int .i64 i, .any, .any, .any, .any, .any, .any, .any, .any, .any, .any, .any, .any, .any, .any, .any, .any, .any, .any, .any, .any, .any, .any, .any]
def fam44 (ws L : List (List UInt8)) (i : Nat) : St := ⟨tm44 ws.length L.length (i : Nat), [some (strsRow 9 ws), some (strsRow 9 L)]⟩
noncomputable abbrev env44 (R : Nat → RoRow) : Env Prop := ((base R).addCall 78 spec78).addCall 73 spec70
theorem env44_ok (R : Nat → RoRow) : EnvOK Try.prog (env44 R) id :=
  ((base_ok R).addCall (f := 78) (fi := fi78) (by kernel_rfl) (spec78_ok R)).addCall (f := 73) (fi := fi73) (by kernel_rfl) (spec73_ok R)
noncomputable def lp46 : Code := loopB fi46 0
theorem blk46 : blockOf fi46 0 = some (.loop lp46) := by kernel_rfl
def tm46 (n : Nat) (o : List UInt8) (i : Int) : List AV := [.any, .any, .any, .sl false 0 0 n .no, .str o, .int .i64 i, .any, .any, .any, .any, .any, .any, .any, .any, .any, .any, .any, .any, .any, .any, .any, .any, .any, .any, .any]
def fam46 (ws : List (List UInt8)) (o : List UInt8) (i : Nat) : St := ⟨tm46 ws.length o (i : Nat), [some (strsRow 9 ws)]⟩
noncomputable abbrev env46 (R : Nat → RoRow) : Env Prop := (base R).addCall 78 spec78
theorem env46_ok (R : Nat → RoRow) : EnvOK Try.prog (env46 R) id := (base_ok R).addCall (f := 78) (fi := fi78) (by kernel_rfl) (spec78_ok R)
end Go.Dc.Kd
