/- The reference's tokens, and its stripped text. -/
import Derived.Test.YtachjlpdnehgiaaRefW
set_option linter.unusedVariables false
set_option linter.unusedSimpArgs false
namespace Go.Dc.Kd
open Go.Proofs Go.RowKit Go.Shelf
set_option maxRecDepth 100000
theorem vr44 (R : Nat → RoRow) (ws L : List (List UInt8)) (i : Nat) (Q : Exit → St → Prop) : rnd (env44 R) 10000 44 lp44 (fam44 ws L i) Q =
    (bif decide ((↑i : Int) < (↑ws.length : Int)) then
    bif true && decide ((↑i : Int) < (↑ws.length : Int)) then
      bif decide (0 + (↑i : Int).toNat < ws.length) then
        L.length = L.length ∧
          L.length.le 9223372036854775807 ∧
            (∀ (j : Nat), j.succ.le L.length → AV.str (L.getD j []) = AV.str (strOf (AV.str (L.getD j [])))) ∧
              bif
                  !hasS L.length (ws.getD (0 + (↑i : Int).toNat) []) fun j =>
                      strOf ((fun j => AV.str (L.getD j [])) j) then
                bif true && decide ((↑i : Int) < (↑ws.length : Int)) then
                  bif decide (0 + (↑i : Int).toNat < ws.length) then
                    bif
                        decide (0 + L.length ≤ L.length) &&
                          (true &&
                            (true &&
                              decide
                                (((Src.gen L.length fun j => AV.str (L.getD (0 + j) [])).len + 1) * 16 ≤
                                  140737488355328))) then
                      Q Exit.normal
                        (St.mk
                          [AV.any, AV.any, AV.any,
                            AV.sl false 3 0 ((Src.gen L.length fun j => AV.str (L.getD (0 + j) [])).len + 1) Cp.no,
                            AV.sl false 0 0 ws.length Cp.no, AV.int IntKind.i64 (IntKind.i64.wrap ((↑i : Int) + 1)),
                            AV.any, AV.any, AV.int IntKind.i64 (↑i : Int), AV.sl false 0 0 ws.length Cp.no,
                            AV.int IntKind.i64 (↑ws.length : Int), AV.bool true, AV.int IntKind.i64 (↑i : Int),
                            AV.int IntKind.i64 (IntKind.i64.wrap ((↑i : Int) + 1)), AV.sl false 1 0 L.length Cp.no,
                            AV.sl false 0 0 ws.length Cp.no, AV.int IntKind.i64 (↑i : Int),
                            AV.ptr false 0 (0 + (↑i : Int).toNat) 0, AV.str (ws.getD (0 + (↑i : Int).toNat) []),
                            AV.bool
                              (hasS L.length (ws.getD (0 + (↑i : Int).toNat) []) fun j =>
                                strOf ((fun j => AV.str (L.getD j [])) j)),
                            AV.bool true, AV.sl false 1 0 L.length Cp.no, AV.sl false 0 0 ws.length Cp.no,
                            AV.int IntKind.i64 (↑i : Int), AV.ptr false 0 (0 + (↑i : Int).toNat) 0,
                            AV.str (ws.getD (0 + (↑i : Int).toNat) []), AV.sl false 2 0 1 Cp.tight,
                            AV.sl false 3 0 ((Src.gen L.length fun j => AV.str (L.getD (0 + j) [])).len + 1) Cp.no,
                            AV.any]
                          [some (Row.gen 9 1 ws.length fun j => AV.str (ws.getD j [])), none,
                            some (Row.lst 9 1 [AV.str (ws.getD (0 + (↑i : Int).toNat) [])]),
                            some
                              (Row.gen 9 1 ((Src.gen L.length fun j => AV.str (L.getD (0 + j) [])).len + 1) fun j =>
                                bif j.blt (Src.gen L.length fun j => AV.str (L.getD (0 + j) [])).len then
                                  AV.str (L.getD (0 + j) [])
                                else
                                  (Src.lst [AV.str (ws.getD (0 + (↑i : Int).toNat) [])]).at_
                                    (j - (Src.gen L.length fun j => AV.str (L.getD (0 + j) [])).len))])
                    else False
                  else False
                else False
              else
                Q Exit.normal
                  (St.mk
                    [AV.any, AV.any, AV.any, AV.sl false 1 0 L.length Cp.no, AV.sl false 0 0 ws.length Cp.no,
                      AV.int IntKind.i64 (IntKind.i64.wrap ((↑i : Int) + 1)), AV.any, AV.any,
                      AV.int IntKind.i64 (↑i : Int), AV.sl false 0 0 ws.length Cp.no,
                      AV.int IntKind.i64 (↑ws.length : Int), AV.bool true, AV.int IntKind.i64 (↑i : Int),
                      AV.int IntKind.i64 (IntKind.i64.wrap ((↑i : Int) + 1)), AV.sl false 1 0 L.length Cp.no,
                      AV.sl false 0 0 ws.length Cp.no, AV.int IntKind.i64 (↑i : Int),
                      AV.ptr false 0 (0 + (↑i : Int).toNat) 0, AV.str (ws.getD (0 + (↑i : Int).toNat) []),
                      AV.bool
                        (hasS L.length (ws.getD (0 + (↑i : Int).toNat) []) fun j =>
                          strOf ((fun j => AV.str (L.getD j [])) j)),
                      AV.bool false, AV.any, AV.any, AV.any, AV.any, AV.any, AV.any, AV.any, AV.any]
                    [some (Row.gen 9 1 ws.length fun j => AV.str (ws.getD j [])),
                      some (Row.gen 9 1 L.length fun j => AV.str (L.getD j []))])
      else False
    else False
  else
    Q (Exit.exit 0)
      (St.mk
        [AV.any, AV.any, AV.any, AV.sl false 1 0 L.length Cp.no, AV.sl false 0 0 ws.length Cp.no,
          AV.int IntKind.i64 (↑i : Int), AV.any, AV.any, AV.int IntKind.i64 (↑i : Int), AV.sl false 0 0 ws.length Cp.no,
          AV.int IntKind.i64 (↑ws.length : Int), AV.bool false, AV.any, AV.any, AV.any, AV.any, AV.any, AV.any, AV.any,
          AV.any, AV.any, AV.any, AV.any, AV.any, AV.any, AV.any, AV.any, AV.any, AV.any]
        [some (Row.gen 9 1 ws.length fun j => AV.str (ws.getD j [])),
          some (Row.gen 9 1 L.length fun j => AV.str (L.getD j []))])) := by kernel_rfl
theorem vc44 (R : Nat → RoRow) (s : List UInt8) (ws L : List (List UInt8)) (i : Nat) (S0 : St) (Q : AV → Rows → Prop) : vcd ((env44 R).addLoop 44 0 (fun s0 k => s0 = S0 ∧ k .normal (fam44 ws L i))) 10000 44 fi44 [.str s] [] Q =
    (s.length.le 900000 ∧
    St.mk
          [AV.str s, AV.tup [], AV.nils, AV.nils, AV.sl false 0 0 (words s).length Cp.no, AV.int IntKind.i64 0,
            AV.str s, AV.sl false 0 0 (words s).length Cp.no, AV.tup [], AV.tup [], AV.tup [], AV.tup [], AV.tup [],
            AV.tup [], AV.tup [], AV.tup [], AV.tup [], AV.tup [], AV.tup [], AV.tup [], AV.tup [], AV.tup [],
            AV.tup [], AV.tup [], AV.tup [], AV.tup [], AV.tup [], AV.tup [], AV.tup []]
          [some (Row.gen 9 1 (words s).length fun j => AV.str ((words s).getD j []))] =
        S0 ∧
      Q (AV.sl false 1 0 L.length Cp.no)
        [some (Row.gen 9 1 ws.length fun j => AV.str (ws.getD j [])),
          some (Row.gen 9 1 L.length fun j => AV.str (L.getD j []))]) := by kernel_rfl
theorem vr46 (R : Nat → RoRow) (ws : List (List UInt8)) (o : List UInt8) (i : Nat) (Q : Exit → St → Prop) : rnd (env46 R) 10000 46 lp46 (fam46 ws o i) Q =
    (bif decide ((↑i : Int) < (↑ws.length : Int)) then
    bif decide ((↑i : Int) > 0) then
      bif decide (o.length + 1 ≤ 9223372036854775807) then
        bif true && decide ((↑i : Int) < (↑ws.length : Int)) then
          bif decide (0 + (↑i : Int).toNat < ws.length) then
            bif decide ((o ++ [32]).length + (ws.getD (0 + (↑i : Int).toNat) []).length ≤ 9223372036854775807) then
              Q Exit.normal
                (St.mk
                  [AV.any, AV.any, AV.any, AV.sl false 0 0 ws.length Cp.no,
                    AV.str (o ++ [32] ++ ws.getD (0 + (↑i : Int).toNat) []),
                    AV.int IntKind.i64 (IntKind.i64.wrap ((↑i : Int) + 1)), AV.any, AV.any,
                    AV.int IntKind.i64 (↑i : Int), AV.sl false 0 0 ws.length Cp.no,
                    AV.int IntKind.i64 (↑ws.length : Int), AV.bool true, AV.int IntKind.i64 (↑i : Int),
                    AV.int IntKind.i64 (IntKind.i64.wrap ((↑i : Int) + 1)), AV.int IntKind.i64 (↑i : Int), AV.bool true,
                    AV.str o, AV.str (o ++ [32]), AV.str (o ++ [32]), AV.sl false 0 0 ws.length Cp.no,
                    AV.int IntKind.i64 (↑i : Int), AV.ptr false 0 (0 + (↑i : Int).toNat) 0,
                    AV.str (ws.getD (0 + (↑i : Int).toNat) []), AV.str (o ++ [32] ++ ws.getD (0 + (↑i : Int).toNat) []),
                    AV.any]
                  [some (Row.gen 9 1 ws.length fun j => AV.str (ws.getD j []))])
            else False
          else False
        else False
      else False
    else
      bif true && decide ((↑i : Int) < (↑ws.length : Int)) then
        bif decide (0 + (↑i : Int).toNat < ws.length) then
          bif decide (o.length + (ws.getD (0 + (↑i : Int).toNat) []).length ≤ 9223372036854775807) then
            Q Exit.normal
              (St.mk
                [AV.any, AV.any, AV.any, AV.sl false 0 0 ws.length Cp.no,
                  AV.str (o ++ ws.getD (0 + (↑i : Int).toNat) []),
                  AV.int IntKind.i64 (IntKind.i64.wrap ((↑i : Int) + 1)), AV.any, AV.any, AV.int IntKind.i64 (↑i : Int),
                  AV.sl false 0 0 ws.length Cp.no, AV.int IntKind.i64 (↑ws.length : Int), AV.bool true,
                  AV.int IntKind.i64 (↑i : Int), AV.int IntKind.i64 (IntKind.i64.wrap ((↑i : Int) + 1)),
                  AV.int IntKind.i64 (↑i : Int), AV.bool false, AV.any, AV.any, AV.str o,
                  AV.sl false 0 0 ws.length Cp.no, AV.int IntKind.i64 (↑i : Int),
                  AV.ptr false 0 (0 + (↑i : Int).toNat) 0, AV.str (ws.getD (0 + (↑i : Int).toNat) []),
                  AV.str (o ++ ws.getD (0 + (↑i : Int).toNat) []), AV.any]
                [some (Row.gen 9 1 ws.length fun j => AV.str (ws.getD j []))])
          else False
        else False
      else False
  else
    Q (Exit.exit 0)
      (St.mk
        [AV.any, AV.any, AV.any, AV.sl false 0 0 ws.length Cp.no, AV.str o, AV.int IntKind.i64 (↑i : Int), AV.any,
          AV.any, AV.int IntKind.i64 (↑i : Int), AV.sl false 0 0 ws.length Cp.no, AV.int IntKind.i64 (↑ws.length : Int),
          AV.bool false, AV.any, AV.any, AV.any, AV.any, AV.any, AV.any, AV.any, AV.any, AV.any, AV.any, AV.any, AV.any,
          AV.any]
        [some (Row.gen 9 1 ws.length fun j => AV.str (ws.getD j []))])) := by kernel_rfl
theorem vc46 (R : Nat → RoRow) (s : List UInt8) (ws : List (List UInt8)) (o : List UInt8) (i : Nat) (S0 : St) (Q : AV → Prop) : vcd ((env46 R).addLoop 46 0 (fun s0 k => s0 = S0 ∧ k .normal (fam46 ws o i))) 10000 46 fi46 [.str s] [] (fun v _ => Q v) =
    (s.length.le 900000 ∧
    St.mk
          [AV.str s, AV.tup [], AV.str [], AV.sl false 0 0 (words s).length Cp.no, AV.str [], AV.int IntKind.i64 0,
            AV.str s, AV.sl false 0 0 (words s).length Cp.no, AV.tup [], AV.tup [], AV.tup [], AV.tup [], AV.tup [],
            AV.tup [], AV.tup [], AV.tup [], AV.tup [], AV.tup [], AV.tup [], AV.tup [], AV.tup [], AV.tup [],
            AV.tup [], AV.tup [], AV.tup []]
          [some (Row.gen 9 1 (words s).length fun j => AV.str ((words s).getD j []))] =
        S0 ∧
      Q (AV.str o)) := by kernel_rfl
def st44 (s : List UInt8) : St := St.mk
          [AV.str s, AV.tup [], AV.nils, AV.nils, AV.sl false 0 0 (words s).length Cp.no, AV.int IntKind.i64 0,
            AV.str s, AV.sl false 0 0 (words s).length Cp.no, AV.tup [], AV.tup [], AV.tup [], AV.tup [], AV.tup [],
            AV.tup [], AV.tup [], AV.tup [], AV.tup [], AV.tup [], AV.tup [], AV.tup [], AV.tup [], AV.tup [],
            AV.tup [], AV.tup [], AV.tup [], AV.tup [], AV.tup [], AV.tup [], AV.tup []]
          [some (Row.gen 9 1 (words s).length fun j => AV.str ((words s).getD j []))]
def st46 (s : List UInt8) : St := St.mk
          [AV.str s, AV.tup [], AV.str [], AV.sl false 0 0 (words s).length Cp.no, AV.str [], AV.int IntKind.i64 0,
            AV.str s, AV.sl false 0 0 (words s).length Cp.no, AV.tup [], AV.tup [], AV.tup [], AV.tup [], AV.tup [],
            AV.tup [], AV.tup [], AV.tup [], AV.tup [], AV.tup [], AV.tup [], AV.tup [], AV.tup [], AV.tup [],
            AV.tup [], AV.tup [], AV.tup []]
          [some (Row.gen 9 1 (words s).length fun j => AV.str ((words s).getD j []))]
def v2 (a : Nat) : Nat → Option Nat := fun c => match c with | 0 => some 0 | 1 => some a | _ + 2 => none
theorem view2 {a : Nat} (h0 : a ≠ 0) {r q r' q' : Row} {h : Rows} (h1 : h[0]? = some (some r')) (h2 : h[a]? = some (some q')) (hr : RowV (v2 a) 2 r r') (hq : RowV (v2 a) 2 q q') : View (v2 a) [some r, some q] h := by
  refine View.of ?_ ?_
  · intro c o ho
    match c with
    | 0 => cases ho; exact ViewL.at_ (b := 0) rfl h1 hr
    | 1 => cases ho; exact ViewL.at_ (b := a) rfl h2 hq
    | c + 2 => simp at ho
  · intro c c' b _ _ h1 h2
    match c, c' with
    | 0, 0 => rfl
    | 1, 1 => rfl
    | 0, 1 => simp [v2] at h1 h2; omega
    | 1, 0 => simp [v2] at h1 h2; omega
    | _ + 2, _ => simp [v2] at h1
    | 0, _ + 2 => simp [v2] at h2
    | 1, _ + 2 => simp [v2] at h2
theorem fit2 {a : Nat} (h0 : a ≠ 0) {r q r' q' : Row} {h : Rows} {T T' : List AV} (h1 : h[0]? = some (some r')) (h2 : h[a]? = some (some q')) (hr : RowV (v2 a) 2 r r') (hq : RowV (v2 a) 2 q q') (hT : VwL (v2 a) 2 T T') : Fit 1 ⟨T, [some r, some q]⟩ ⟨T', h⟩ :=
  ⟨v2 a, ⟨view2 h0 h1 h2 hr hq, hT⟩, fun c hc => by rw [show c = 0 by omega]; rfl, Nat.le_succ _⟩
def vA : Nat → Option Nat := fun c => match c with | 0 => some 0 | _ + 1 => none
theorem viewA (ws L : List (List UInt8)) (h0 : L.length = 0) : View vA [some (strsRow 9 ws), some (strsRow 9 L)] [some (strsRow 9 ws)] := by
  refine View.of ?_ ?_
  · intro c o ho
    match c with
    | 0 => cases ho; exact ViewL.at_ (b := 0) rfl rfl (strsV _ _ ws)
    | 1 => cases ho; exact ViewL.void rfl h0
    | c + 2 => simp at ho
  · intro c c' b _ _ h1 h2
    match c, c' with
    | 0, 0 => rfl
    | 0, _ + 1 => simp [vA] at h2
    | _ + 1, _ => simp [vA] at h1
theorem fit1n {r r' : Row} {h : Rows} {T T' : List AV} (hr : h[0]? = some (some r')) (hv : RowV (v1 0) 1 r r') (hT : VwL (v1 0) 1 T T') : Fit 1 ⟨T, [some r]⟩ ⟨T', h⟩ :=
  ⟨v1 0, ⟨view1 hr hv, hT⟩, fun c hc => by rw [show c = 0 by omega]; rfl, Nat.le_refl _⟩
theorem loop44 (R : Nat → RoRow) (s : List UInt8) (hn : (words s).length ≤ 1000000) {Q : Exit → St → Prop} (h : Q .normal (fam44 (words s) (toks (words s)) (words s).length)) :
    Safe Try.prog (env44 R).R (.block 0 (.loop lp44)) (st44 s) Q := by
  generalize hws : words s = ws at h hn
  have hst : st44 s = St.mk
          [AV.str s, AV.tup [], AV.nils, AV.nils, AV.sl false 0 0 ws.length Cp.no, AV.int IntKind.i64 0,
            AV.str s, AV.sl false 0 0 ws.length Cp.no, AV.tup [], AV.tup [], AV.tup [], AV.tup [], AV.tup [],
            AV.tup [], AV.tup [], AV.tup [], AV.tup [], AV.tup [], AV.tup [], AV.tup [], AV.tup [], AV.tup [],
            AV.tup [], AV.tup [], AV.tup [], AV.tup [], AV.tup [], AV.tup [], AV.tup []]
          [some (Row.gen 9 1 ws.length fun j => AV.str (ws.getD j []))] := by unfold st44; rw [hws]
  rw [hst]
  refine (loop_block (I := {i : Nat // i ≤ ws.length}) (fam := fun i => fam44 ws (toks (ws.take i.1)) i.1) (fun i => ws.length - i.1)
    (X := fun e stE => e = .exit 0 ∧ stE = fam44 ws (toks ws) ws.length) (i0 := ⟨0, Nat.zero_le _⟩) (f := vA) ?_ ?_ ?_ ?_).mono ?_
  · refine ⟨viewA ws _ rfl, ?_⟩
    show VwL vA 2 _ _
    simp only [fam44, tm44, List.take_zero, toks, List.foldl_nil, List.length_nil]
    repeat' (first | with_reducible exact VwL.nil | with_reducible refine VwL.cons ?_ ?_ | with_reducible exact Vw.anyI | with_reducible exact Vw.strI | with_reducible exact Vw.intI |  exact Vw.gndI rfl | exact Vw.slI (by decide) rfl | exact Vw.slN (by decide) rfl)
  · intro c hc
    have : c = 0 := by simp at hc; omega
    subst this; rfl
  · intro i; exact Nat.le_succ _
  · rintro ⟨i, hi⟩
    refine byRnd (env44_ok R) (f := 44) (fi := fi44) (by kernel_rfl) blk44 10000 (vr44 R ws (toks (ws.take i)) i _) ?_
    have hL : (toks (ws.take i)).length ≤ 1000000 := Nat.le_trans (toks_length _) (by simp; omega)
    refine hcond (fun c1 => ?_) (fun c1 => ?_)
    · have c1 : i < ws.length := by have := of_decide_eq_true c1; omega
      refine hcond (fun _ => ?_) (fun c2 => by exfalso; simp at c2; omega)
      refine hcond (fun _ => ?_) (fun c2 => by exfalso; have c3 : ¬ (0 + (i : Int).toNat < ws.length) := of_decide_eq_false c2; simp at c3; omega)
      have e0 : ws.getD (0 + (i : Int).toNat) [] = ws.getD i [] := by simp
      have hw : IntKind.i64.wrap ((i : Int) + 1) = ((i + 1 : Nat) : Int) := by rw [wrapI (by omega) (by omega)]; omega
      refine ⟨rfl, by show (toks (ws.take i)).length ≤ 9223372036854775807; omega, fun _ _ => rfl, ?_⟩
      rw [hasS_list, e0]
      have hs := toks_snoc ws i c1
      generalize hLd : toks (ws.take i) = L at hL hs
      refine hcond (fun c2 => ?_) (fun c2 => ?_)
      · have hT : toks (ws.take (i + 1)) = L ++ [ws.getD i []] := by
          rw [hs]; unfold tokStep; rw [notT c2]; rfl
        refine hcond (fun _ => ?_) (fun c2 => by exfalso; simp at c2; omega)
        refine hcond (fun _ => ?_) (fun c2 => by exfalso; have c3 : ¬ (0 + (i : Int).toNat < ws.length) := of_decide_eq_false c2; simp at c3; omega)
        refine hcond (fun _ => ?_) (fun c3 => absurd ((cap16 hL).symm.trans c3) (by simp))
        refine ⟨⟨i + 1, by omega⟩, by show ws.length - (i + 1) < ws.length - i; omega, ?_⟩
        rw [show fam44 ws (toks (ws.take (i + 1))) (i + 1) = fam44 ws (L ++ [ws.getD i []]) (i + 1) by rw [hT]]
        refine fit2 (a := 3) (by omega) rfl rfl (strsV _ _ ws) (appRow _ _ L _) ?_
        simp only [tm44, List.length_append, List.length_cons, List.length_nil]
        repeat' (first | with_reducible exact VwL.nil | with_reducible refine VwL.cons ?_ ?_ | with_reducible exact Vw.anyI | with_reducible exact Vw.strI | with_reducible exact Vw.intI | with_reducible exact Vw.intE hw | exact Vw.gndI rfl | exact Vw.slI (by decide) rfl | exact Vw.slN (by decide) rfl)
      · have hT : toks (ws.take (i + 1)) = L := by
          rw [hs]; unfold tokStep; rw [notF c2]; rfl
        refine ⟨⟨i + 1, by omega⟩, by show ws.length - (i + 1) < ws.length - i; omega, ?_⟩
        rw [show fam44 ws (toks (ws.take (i + 1))) (i + 1) = fam44 ws L (i + 1) by rw [hT]]
        refine fit2 (a := 1) (by omega) rfl rfl (strsV _ _ ws) (strsV _ _ L) ?_
        simp only [tm44]
        repeat' (first | with_reducible exact VwL.nil | with_reducible refine VwL.cons ?_ ?_ | with_reducible exact Vw.anyI | with_reducible exact Vw.strI | with_reducible exact Vw.intI | with_reducible exact Vw.intE hw | exact Vw.gndI rfl | exact Vw.slI (by decide) rfl | exact Vw.slN (by decide) rfl)
    · have c1 : ¬ i < ws.length := by have := of_decide_eq_false c1; omega
      have hin : i = ws.length := by omega
      subst hin
      have hT : ws.take ws.length = ws := List.take_length
      rw [hT]
      refine ⟨fam44 ws (toks ws) ws.length, fit2 (a := 1) (by omega) rfl rfl (strsV _ _ ws) (strsV _ _ _) ?_, rfl, rfl⟩
      simp only [tm44]
      repeat' (first | with_reducible exact VwL.nil | with_reducible refine VwL.cons ?_ ?_ | with_reducible exact Vw.anyI | with_reducible exact Vw.strI | with_reducible exact Vw.intI |  exact Vw.gndI rfl | exact Vw.slI (by decide) rfl | exact Vw.slN (by decide) rfl)
  · rintro e stE ⟨e0, rfl, rfl, rfl⟩
    exact h
theorem safe44 (R : Nat → RoRow) (s : List UInt8) (hs : s.length ≤ 900000) : SafeCall Try.prog R 44 [.str s] [] fun v h => v = .sl false 0 0 (toks (words s)).length .no ∧ h = [some (strsRow 9 (toks (words s)))] := by
  have hc := words_count s
  have h1 : SafeCall Try.prog R 44 [.str s] [] fun v h => v = .sl false 1 0 (toks (words s)).length .no ∧ h = [some (strsRow 9 (words s)), some (strsRow 9 (toks (words s)))] := by
    refine byVcd' (E := (env44 R).addLoop 44 0 (fun st k => st = st44 s ∧ k .normal (fam44 (words s) (toks (words s)) (words s).length))) ?_ (f := 44) (fi := fi44) (by kernel_rfl) 10000
      (vc44 R s (words s) (toks (words s)) (words s).length (st44 s) _) ?_
    · refine (env44_ok R).addLoop (f := 44) (fi := fi44) (by kernel_rfl) (body := .loop lp44) blk44 ?_
      rintro st k ⟨rfl, hk⟩
      exact loop44 R s (by omega) hk
    · exact ⟨hs, rfl, rfl, rfl⟩
  refine h1.fit ?_
  rintro v h' ⟨rfl, rfl⟩
  refine ⟨_, _, ⟨v1 1, view1 rfl (strsV _ _ _), Vw.slI (Nat.zero_lt_one) rfl, fun c hc => absurd hc (Nat.not_lt_zero _), Nat.zero_le _⟩, rfl, rfl⟩
theorem spec44_ok (R : Nat → RoRow) : ∀ args h k, spec43 args h k → SafeCall Try.prog R 44 args h k := by
  intro args h k hk
  unfold spec43 at hk
  split at hk
  · rename_i s
    refine ((safe44 R s hk.1).fresh ?_ h).mono ?_
    · exact VwL.cons Vw.strI VwL.nil
    · rintro v'' h'' ⟨v', h', ⟨rfl, rfl⟩, rfl, rfl⟩
      exact hk.2
  · exact hk.elim
/-! ### One text of the words -/
theorem joinTail_snoc (sep w : List UInt8) : ∀ r : List (List UInt8), Lib.joinTail sep (r ++ [w]) = Lib.joinTail sep r ++ sep ++ w
  | [] => by simp [joinTail_cons, Lib.joinTail]
  | y :: r => by rw [List.cons_append, joinTail_cons, joinTail_cons, joinTail_snoc sep w r]; simp
theorem join_snoc (ws : List (List UInt8)) (w : List UInt8) (h : ws ≠ []) : Lib.join (ws ++ [w]) [32] = Lib.join ws [32] ++ [32] ++ w := by
  cases ws with
  | nil => exact absurd rfl h
  | cons x r => rw [List.cons_append, Lib.join_cons, Lib.join_cons, joinTail_snoc]; simp
theorem take_snoc {ws : List (List UInt8)} {i : Nat} (hi : i < ws.length) : ws.take (i + 1) = ws.take i ++ [ws.getD i []] := by
  rw [List.take_add_one, List.getElem?_eq_getElem hi]
  simp [List.getD, hi]
theorem tot_append (a b : List (List UInt8)) : tot (a ++ b) = tot a + tot b := by simp [tot]
theorem tot_take (ws : List (List UInt8)) (i : Nat) : tot (ws.take i) ≤ tot ws := by
  have := tot_append (ws.take i) (ws.drop i)
  rw [List.take_append_drop] at this
  omega
theorem tot_get {ws : List (List UInt8)} {i : Nat} (hi : i < ws.length) : (ws.getD i []).length ≤ tot ws := by
  have h1 := tot_take ws (i + 1)
  rw [take_snoc hi, tot_append] at h1
  simp [tot] at h1
  simp [tot]
  omega
theorem joinP_length (ws : List (List UInt8)) (i : Nat) : (Lib.join (ws.take i) [32]).length ≤ tot ws + ws.length := by
  have h1 := join_length (ws.take i) [32]
  have h2 := tot_take ws i
  have h3 : (ws.take i).length ≤ ws.length := by simp; omega
  simp only [List.length_cons, List.length_nil, Nat.zero_add, Nat.mul_one] at h1
  omega
theorem loop46 (R : Nat → RoRow) (s : List UInt8) (hn : tot (words s) + (words s).length ≤ 1000000) {Q : Exit → St → Prop} (h : Q .normal (fam46 (words s) (strip s) (words s).length)) :
    Safe Try.prog (env46 R).R (.block 0 (.loop lp46)) (st46 s) Q := by
  have hstrip : strip s = Lib.join (words s) [32] := rfl
  rw [hstrip] at h
  generalize hws : words s = ws at h hn
  have hst : st46 s = St.mk
          [AV.str s, AV.tup [], AV.str [], AV.sl false 0 0 ws.length Cp.no, AV.str [], AV.int IntKind.i64 0,
            AV.str s, AV.sl false 0 0 ws.length Cp.no, AV.tup [], AV.tup [], AV.tup [], AV.tup [], AV.tup [],
            AV.tup [], AV.tup [], AV.tup [], AV.tup [], AV.tup [], AV.tup [], AV.tup [], AV.tup [], AV.tup [],
            AV.tup [], AV.tup [], AV.tup []]
          [some (Row.gen 9 1 ws.length fun j => AV.str (ws.getD j []))] := by unfold st46; rw [hws]
  rw [hst]
  refine (loop_block (I := {i : Nat // i ≤ ws.length}) (fam := fun i => fam46 ws (Lib.join (ws.take i.1) [32]) i.1) (fun i => ws.length - i.1)
    (X := fun e stE => e = .exit 0 ∧ stE = fam46 ws (Lib.join ws [32]) ws.length) (i0 := ⟨0, Nat.zero_le _⟩) (f := v1 0) ?_ ?_ ?_ ?_).mono ?_
  · refine ⟨view1 rfl (strsV _ _ ws), ?_⟩
    show VwL (v1 0) 1 _ _
    simp only [fam46, tm46, List.take_zero, Lib.join_nil]
    repeat' (first | with_reducible exact VwL.nil | with_reducible refine VwL.cons ?_ ?_ | with_reducible exact Vw.anyI | with_reducible exact Vw.strI | with_reducible exact Vw.intI |  exact Vw.gndI rfl | exact Vw.slI (by decide) rfl | exact Vw.slN (by decide) rfl)
  · intro c hc
    have : c = 0 := by simp at hc; omega
    subst this; rfl
  · intro i; exact Nat.le_refl _
  · rintro ⟨i, hi⟩
    refine byRnd (env46_ok R) (f := 46) (fi := fi46) (by kernel_rfl) blk46 10000 (vr46 R ws (Lib.join (ws.take i) [32]) i _) ?_
    have hj := joinP_length ws i
    refine hcond (fun c1 => ?_) (fun c1 => ?_)
    · have c1 : i < ws.length := by have := of_decide_eq_true c1; omega
      have e0 : ws.getD (0 + (i : Int).toNat) [] = ws.getD i [] := by simp
      have hw : IntKind.i64.wrap ((i : Int) + 1) = ((i + 1 : Nat) : Int) := by rw [wrapI (by omega) (by omega)]; omega
      have hg := tot_get c1
      rw [e0]
      refine hcond (fun c2 => ?_) (fun c2 => ?_)
      · have c2 : 0 < i := by
          have c5 : (i : Int) > 0 := of_decide_eq_true c2
          omega
        refine hcond (fun _ => ?_) (fun c3 => by exfalso; have := of_decide_eq_false c3; omega)
        refine hcond (fun _ => ?_) (fun c2 => by exfalso; simp at c2; omega)
        refine hcond (fun _ => ?_) (fun c2 => by exfalso; have c3 : ¬ (0 + (i : Int).toNat < ws.length) := of_decide_eq_false c2; simp at c3; omega)
        refine hcond (fun _ => ?_) (fun c3 => by exfalso; have := of_decide_eq_false c3; simp only [List.length_append, List.length_cons, List.length_nil] at this; omega)
        have hT : Lib.join (ws.take (i + 1)) [32] = Lib.join (ws.take i) [32] ++ [32] ++ ws.getD i [] := by
          rw [take_snoc c1, join_snoc]
          intro e
          have := congrArg List.length e
          rw [List.length_take, List.length_nil] at this
          omega
        refine ⟨⟨i + 1, by omega⟩, by show ws.length - (i + 1) < ws.length - i; omega, ?_⟩
        rw [← hT]
        refine fit1n rfl (strsV _ _ ws) ?_
        simp only [tm46]
        repeat' (first | with_reducible exact VwL.nil | with_reducible refine VwL.cons ?_ ?_ | with_reducible exact Vw.anyI | with_reducible exact Vw.strI | with_reducible exact Vw.intI | with_reducible exact Vw.intE hw | exact Vw.gndI rfl | exact Vw.slI (by decide) rfl | exact Vw.slN (by decide) rfl)
      · have c2 : i = 0 := by
          have c5 : ¬ ((i : Int) > 0) := of_decide_eq_false c2
          omega
        refine hcond (fun _ => ?_) (fun c2 => by exfalso; simp at c2; omega)
        refine hcond (fun _ => ?_) (fun c2 => by exfalso; have c3 : ¬ (0 + (i : Int).toNat < ws.length) := of_decide_eq_false c2; simp at c3; omega)
        refine hcond (fun _ => ?_) (fun c3 => by exfalso; have := of_decide_eq_false c3; omega)
        have hT : Lib.join (ws.take (i + 1)) [32] = Lib.join (ws.take i) [32] ++ ws.getD i [] := by
          rw [take_snoc c1, c2]
          simp [Lib.join_nil, Lib.join_cons, Lib.joinTail]
        refine ⟨⟨i + 1, by omega⟩, by show ws.length - (i + 1) < ws.length - i; omega, ?_⟩
        rw [← hT]
        refine fit1n rfl (strsV _ _ ws) ?_
        simp only [tm46]
        repeat' (first | with_reducible exact VwL.nil | with_reducible refine VwL.cons ?_ ?_ | with_reducible exact Vw.anyI | with_reducible exact Vw.strI | with_reducible exact Vw.intI | with_reducible exact Vw.intE hw | exact Vw.gndI rfl | exact Vw.slI (by decide) rfl | exact Vw.slN (by decide) rfl)
    · have c1 : ¬ i < ws.length := by have := of_decide_eq_false c1; omega
      have hin : i = ws.length := by omega
      subst hin
      have hT : ws.take ws.length = ws := List.take_length
      rw [hT]
      refine ⟨fam46 ws (Lib.join ws [32]) ws.length, fit1n rfl (strsV _ _ ws) ?_, rfl, rfl⟩
      simp only [tm46]
      repeat' (first | with_reducible exact VwL.nil | with_reducible refine VwL.cons ?_ ?_ | with_reducible exact Vw.anyI | with_reducible exact Vw.strI | with_reducible exact Vw.intI |  exact Vw.gndI rfl | exact Vw.slI (by decide) rfl | exact Vw.slN (by decide) rfl)
  · rintro e stE ⟨e0, rfl, rfl, rfl⟩
    exact h
theorem safe46 (R : Nat → RoRow) (s : List UInt8) (hs : s.length ≤ 900000) : SafeCall Try.prog R 46 [.str s] [] fun v _ => v = .str (strip s) := by
  have hc := wordsGo_tot s []
  refine byVcd' (E := (env46 R).addLoop 46 0 (fun st k => st = st46 s ∧ k .normal (fam46 (words s) (strip s) (words s).length))) ?_ (f := 46) (fi := fi46) (by kernel_rfl) 10000
    (vc46 R s (words s) (strip s) (words s).length (st46 s) (fun v => v = .str (strip s))) ⟨hs, rfl, rfl⟩
  refine (env46_ok R).addLoop (f := 46) (fi := fi46) (by kernel_rfl) (body := .loop lp46) blk46 ?_
  rintro st k ⟨rfl, hk⟩
  refine loop46 R s ?_ hk
  simp only [List.length_nil] at hc
  unfold words
  omega
theorem spec46_ok (R : Nat → RoRow) : ∀ args h k, spec45 args h k → SafeCall Try.prog R 46 args h k := by
  intro args h k hk
  unfold spec45 at hk
  split at hk
  · rename_i s
    have h1 : SafeCall Try.prog R 46 [.str s] [] fun v h => v = .str (strip s) ∧ h = [] := by
      refine (safe46 R s hk.1).fit ?_
      rintro v h' rfl
      refine ⟨.str (strip s), [], ⟨fun _ => none, ⟨fun c b hc => absurd hc (Nat.not_lt_zero _), fun c c' b hc => absurd hc (Nat.not_lt_zero _), fun c r hc => by simp [Rows.live] at hc⟩, Vw.strI, fun c hc => absurd hc (Nat.not_lt_zero _), Nat.le_refl _⟩, rfl, rfl⟩
    refine (h1.fresh ?_ h).mono ?_
    · exact VwL.cons Vw.strI VwL.nil
    · rintro v'' h'' ⟨v', h', ⟨rfl, rfl⟩, rfl, rfl⟩
      have e : h ++ shiftRows h.length [] = h := by simp [shiftRows]
      rw [e]
      exact hk.2
  · exact hk.elim
end Go.Dc.Kd
