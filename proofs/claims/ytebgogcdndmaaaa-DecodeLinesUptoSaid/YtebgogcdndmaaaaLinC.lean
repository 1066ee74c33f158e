/- Newlines in one form have no 0D left: the last loops, the walk. -/
import Derived.Test.YtebgogcdndmaaaaLinB
set_option linter.unusedVariables false
set_option linter.unusedSimpArgs false
namespace Go.Dc.Ka
open Go.Proofs Go.RowKit
set_option maxRecDepth 100000
theorem vr13b (R : Nat → RoRow) (n : Nat) (F : Nat → Int) (c : Int) (o : List (Int × Int)) (i : Nat) (k : Exit → St → Prop) : rnd (env13 R) 10000 13 lp13b ⟨tm13b n o.length c (i : Nat), rQ n F o⟩ k = (bif decide ((↑i : Int) < (↑o.length : Int)) then bif true && decide ((↑i : Int) < (↑o.length : Int)) then bif decide (0 + (↑i : Int).toNat < o.length) then bif (o.getD (0 + (↑i : Int).toNat) (0, 0)).fst == 13 then k Exit.ret (St.mk [AV.any, AV.any, AV.bool false, AV.sl false 0 0 n Cp.no, AV.int IntKind.i64 c, AV.any, AV.sl false 2 0 n Cp.no, AV.any, AV.sl false 4 0 o.length Cp.no, AV.int IntKind.i64 (↑i : Int), AV.any, AV.any, AV.any, AV.any, AV.any, AV.any, AV.any, AV.any, AV.any, AV.any, AV.any, AV.any, AV.any, AV.any, AV.any, AV.any, AV.any, AV.any, AV.any, AV.any, AV.any, AV.any, AV.any, AV.any, AV.any, AV.any, AV.any, AV.any, AV.any, AV.any, AV.any, AV.any, AV.any, AV.any, AV.any, AV.any, AV.any, AV.any, AV.any, AV.any, AV.any, AV.any, AV.any, AV.any, AV.any, AV.any, AV.any, AV.any, AV.int IntKind.i64 (↑i : Int), AV.sl false 4 0 o.length Cp.no, AV.int IntKind.i64 (↑o.length : Int), AV.bool true, AV.any, AV.any, AV.sl false 4 0 o.length Cp.no, AV.int IntKind.i64 (↑i : Int), AV.ptr false 4 (0 + (↑i : Int).toNat) 0, AV.ptr false 4 (0 + (↑i : Int).toNat) 0, AV.int IntKind.i64 (o.getD (0 + (↑i : Int).toNat) (0, 0)).fst, AV.bool true, AV.any, AV.any, AV.any, AV.any, AV.any, AV.any, AV.any, AV.any, AV.any, AV.any, AV.any, AV.any, AV.any, AV.any, AV.any, AV.any, AV.any, AV.any, AV.any, AV.any, AV.any, AV.any, AV.any, AV.any, AV.any, AV.any, AV.any, AV.any, AV.any, AV.any, AV.any, AV.any, AV.any, AV.any, AV.any, AV.any, AV.any, AV.any, AV.any, AV.any, AV.any, AV.any, AV.any, AV.any, AV.any, AV.any, AV.any, AV.any, AV.any, AV.any, AV.any, AV.any, AV.any, AV.any, AV.any] [some (Row.gen 38 2 n fun j => rune (F j) (↑j : Int)), none, some (Row.gen 38 2 n fun j => rune (F j) (↑j : Int)), none, some (Row.gen 38 2 o.length fun j => rune (o.getD j (0, 0)).fst (o.getD j (0, 0)).snd)]) else k Exit.normal (St.mk [AV.any, AV.any, AV.any, AV.sl false 0 0 n Cp.no, AV.int IntKind.i64 c, AV.any, AV.sl false 2 0 n Cp.no, AV.any, AV.sl false 4 0 o.length Cp.no, AV.int IntKind.i64 (IntKind.i64.wrap ((↑i : Int) + 1)), AV.any, AV.any, AV.any, AV.any, AV.any, AV.any, AV.any, AV.any, AV.any, AV.any, AV.any, AV.any, AV.any, AV.any, AV.any, AV.any, AV.any, AV.any, AV.any, AV.any, AV.any, AV.any, AV.any, AV.any, AV.any, AV.any, AV.any, AV.any, AV.any, AV.any, AV.any, AV.any, AV.any, AV.any, AV.any, AV.any, AV.any, AV.any, AV.any, AV.any, AV.any, AV.any, AV.any, AV.any, AV.any, AV.any, AV.any, AV.any, AV.int IntKind.i64 (↑i : Int), AV.sl false 4 0 o.length Cp.no, AV.int IntKind.i64 (↑o.length : Int), AV.bool true, AV.int IntKind.i64 (↑i : Int), AV.int IntKind.i64 (IntKind.i64.wrap ((↑i : Int) + 1)), AV.sl false 4 0 o.length Cp.no, AV.int IntKind.i64 (↑i : Int), AV.ptr false 4 (0 + (↑i : Int).toNat) 0, AV.ptr false 4 (0 + (↑i : Int).toNat) 0, AV.int IntKind.i64 (o.getD (0 + (↑i : Int).toNat) (0, 0)).fst, AV.bool false, AV.any, AV.any, AV.any, AV.any, AV.any, AV.any, AV.any, AV.any, AV.any, AV.any, AV.any, AV.any, AV.any, AV.any, AV.any, AV.any, AV.any, AV.any, AV.any, AV.any, AV.any, AV.any, AV.any, AV.any, AV.any, AV.any, AV.any, AV.any, AV.any, AV.any, AV.any, AV.any, AV.any, AV.any, AV.any, AV.any, AV.any, AV.any, AV.any, AV.any, AV.any, AV.any, AV.any, AV.any, AV.any, AV.any, AV.any, AV.any, AV.any, AV.any, AV.any, AV.any, AV.any, AV.any, AV.any] [some (Row.gen 38 2 n fun j => rune (F j) (↑j : Int)), none, some (Row.gen 38 2 n fun j => rune (F j) (↑j : Int)), none, some (Row.gen 38 2 o.length fun j => rune (o.getD j (0, 0)).fst (o.getD j (0, 0)).snd)]) else False else False else k (Exit.exit 2) (St.mk [AV.any, AV.any, AV.any, AV.sl false 0 0 n Cp.no, AV.int IntKind.i64 c, AV.any, AV.sl false 2 0 n Cp.no, AV.any, AV.sl false 4 0 o.length Cp.no, AV.int IntKind.i64 (↑i : Int), AV.any, AV.any, AV.any, AV.any, AV.any, AV.any, AV.any, AV.any, AV.any, AV.any, AV.any, AV.any, AV.any, AV.any, AV.any, AV.any, AV.any, AV.any, AV.any, AV.any, AV.any, AV.any, AV.any, AV.any, AV.any, AV.any, AV.any, AV.any, AV.any, AV.any, AV.any, AV.any, AV.any, AV.any, AV.any, AV.any, AV.any, AV.any, AV.any, AV.any, AV.any, AV.any, AV.any, AV.any, AV.any, AV.any, AV.any, AV.any, AV.int IntKind.i64 (↑i : Int), AV.sl false 4 0 o.length Cp.no, AV.int IntKind.i64 (↑o.length : Int), AV.bool false, AV.any, AV.any, AV.any, AV.any, AV.any, AV.any, AV.any, AV.any, AV.any, AV.any, AV.any, AV.any, AV.any, AV.any, AV.any, AV.any, AV.any, AV.any, AV.any, AV.any, AV.any, AV.any, AV.any, AV.any, AV.any, AV.any, AV.any, AV.any, AV.any, AV.any, AV.any, AV.any, AV.any, AV.any, AV.any, AV.any, AV.any, AV.any, AV.any, AV.any, AV.any, AV.any, AV.any, AV.any, AV.any, AV.any, AV.any, AV.any, AV.any, AV.any, AV.any, AV.any, AV.any, AV.any, AV.any, AV.any, AV.any, AV.any, AV.any, AV.any, AV.any, AV.any, AV.any] [some (Row.gen 38 2 n fun j => rune (F j) (↑j : Int)), none, some (Row.gen 38 2 n fun j => rune (F j) (↑j : Int)), none, some (Row.gen 38 2 o.length fun j => rune (o.getD j (0, 0)).fst (o.getD j (0, 0)).snd)])) := by kernel_rfl
theorem vr13c (R : Nat → RoRow) (n : Nat) (F : Nat → Int) (c : Int) (o : List (Int × Int)) (i : Nat) (k : Exit → St → Prop) : rnd (env13 R) 10000 13 lp13c ⟨tm13c n o.length c (i : Nat), rQ n F o⟩ k = (bif decide ((↑i : Int) < (↑n : Int)) then bif true && decide ((↑i : Int) < (↑n : Int)) then bif decide (0 + (↑i : Int).toNat < n) then bif true && decide ((↑i : Int) < (↑n : Int)) then bif decide (0 + (↑i : Int).toNat < n) then bif !(F (0 + (↑i : Int).toNat) == F (0 + (↑i : Int).toNat) && ((↑(0 + (↑i : Int).toNat) : Int) == (↑(0 + (↑i : Int).toNat) : Int) && true)) then k Exit.ret (St.mk [AV.any, AV.any, AV.bool false, AV.sl false 0 0 n Cp.no, AV.int IntKind.i64 c, AV.any, AV.sl false 2 0 n Cp.no, AV.any, AV.sl false 4 0 o.length Cp.no, AV.any, AV.int IntKind.i64 (↑i : Int), AV.any, AV.any, AV.any, AV.any, AV.any, AV.any, AV.any, AV.any, AV.any, AV.any, AV.any, AV.any, AV.any, AV.any, AV.any, AV.any, AV.any, AV.any, AV.any, AV.any, AV.any, AV.any, AV.any, AV.any, AV.any, AV.any, AV.any, AV.any, AV.any, AV.any, AV.any, AV.any, AV.any, AV.any, AV.any, AV.any, AV.any, AV.any, AV.any, AV.any, AV.any, AV.any, AV.any, AV.any, AV.any, AV.any, AV.any, AV.any, AV.any, AV.any, AV.any, AV.any, AV.any, AV.any, AV.any, AV.any, AV.any, AV.any, AV.any, AV.int IntKind.i64 (↑i : Int), AV.sl false 0 0 n Cp.no, AV.int IntKind.i64 (↑n : Int), AV.bool true, AV.any, AV.any, AV.sl false 0 0 n Cp.no, AV.int IntKind.i64 (↑i : Int), AV.ptr false 0 (0 + (↑i : Int).toNat) 0, AV.agg [AV.int IntKind.i64 (F (0 + (↑i : Int).toNat)), AV.int IntKind.i64 (↑(0 + (↑i : Int).toNat) : Int)], AV.sl false 2 0 n Cp.no, AV.int IntKind.i64 (↑i : Int), AV.ptr false 2 (0 + (↑i : Int).toNat) 0, AV.agg [AV.int IntKind.i64 (F (0 + (↑i : Int).toNat)), AV.int IntKind.i64 (↑(0 + (↑i : Int).toNat) : Int)], AV.bool true, AV.any, AV.any, AV.any, AV.any, AV.any, AV.any, AV.any, AV.any, AV.any, AV.any, AV.any, AV.any, AV.any, AV.any, AV.any, AV.any, AV.any, AV.any, AV.any, AV.any, AV.any, AV.any, AV.any, AV.any, AV.any, AV.any, AV.any, AV.any, AV.any, AV.any, AV.any, AV.any, AV.any, AV.any, AV.any, AV.any, AV.any, AV.any, AV.any, AV.any] [some (Row.gen 38 2 n fun j => rune (F j) (↑j : Int)), none, some (Row.gen 38 2 n fun j => rune (F j) (↑j : Int)), none, some (Row.gen 38 2 o.length fun j => rune (o.getD j (0, 0)).fst (o.getD j (0, 0)).snd)]) else k Exit.normal (St.mk [AV.any, AV.any, AV.any, AV.sl false 0 0 n Cp.no, AV.int IntKind.i64 c, AV.any, AV.sl false 2 0 n Cp.no, AV.any, AV.sl false 4 0 o.length Cp.no, AV.any, AV.int IntKind.i64 (IntKind.i64.wrap ((↑i : Int) + 1)), AV.any, AV.any, AV.any, AV.any, AV.any, AV.any, AV.any, AV.any, AV.any, AV.any, AV.any, AV.any, AV.any, AV.any, AV.any, AV.any, AV.any, AV.any, AV.any, AV.any, AV.any, AV.any, AV.any, AV.any, AV.any, AV.any, AV.any, AV.any, AV.any, AV.any, AV.any, AV.any, AV.any, AV.any, AV.any, AV.any, AV.any, AV.any, AV.any, AV.any, AV.any, AV.any, AV.any, AV.any, AV.any, AV.any, AV.any, AV.any, AV.any, AV.any, AV.any, AV.any, AV.any, AV.any, AV.any, AV.any, AV.any, AV.any, AV.any, AV.int IntKind.i64 (↑i : Int), AV.sl false 0 0 n Cp.no, AV.int IntKind.i64 (↑n : Int), AV.bool true, AV.int IntKind.i64 (↑i : Int), AV.int IntKind.i64 (IntKind.i64.wrap ((↑i : Int) + 1)), AV.sl false 0 0 n Cp.no, AV.int IntKind.i64 (↑i : Int), AV.ptr false 0 (0 + (↑i : Int).toNat) 0, AV.agg [AV.int IntKind.i64 (F (0 + (↑i : Int).toNat)), AV.int IntKind.i64 (↑(0 + (↑i : Int).toNat) : Int)], AV.sl false 2 0 n Cp.no, AV.int IntKind.i64 (↑i : Int), AV.ptr false 2 (0 + (↑i : Int).toNat) 0, AV.agg [AV.int IntKind.i64 (F (0 + (↑i : Int).toNat)), AV.int IntKind.i64 (↑(0 + (↑i : Int).toNat) : Int)], AV.bool false, AV.any, AV.any, AV.any, AV.any, AV.any, AV.any, AV.any, AV.any, AV.any, AV.any, AV.any, AV.any, AV.any, AV.any, AV.any, AV.any, AV.any, AV.any, AV.any, AV.any, AV.any, AV.any, AV.any, AV.any, AV.any, AV.any, AV.any, AV.any, AV.any, AV.any, AV.any, AV.any, AV.any, AV.any, AV.any, AV.any, AV.any, AV.any, AV.any, AV.any] [some (Row.gen 38 2 n fun j => rune (F j) (↑j : Int)), none, some (Row.gen 38 2 n fun j => rune (F j) (↑j : Int)), none, some (Row.gen 38 2 o.length fun j => rune (o.getD j (0, 0)).fst (o.getD j (0, 0)).snd)]) else False else False else False else False else k (Exit.exit 4) (St.mk [AV.any, AV.any, AV.any, AV.sl false 0 0 n Cp.no, AV.int IntKind.i64 c, AV.any, AV.sl false 2 0 n Cp.no, AV.any, AV.sl false 4 0 o.length Cp.no, AV.any, AV.int IntKind.i64 (↑i : Int), AV.any, AV.any, AV.any, AV.any, AV.any, AV.any, AV.any, AV.any, AV.any, AV.any, AV.any, AV.any, AV.any, AV.any, AV.any, AV.any, AV.any, AV.any, AV.any, AV.any, AV.any, AV.any, AV.any, AV.any, AV.any, AV.any, AV.any, AV.any, AV.any, AV.any, AV.any, AV.any, AV.any, AV.any, AV.any, AV.any, AV.any, AV.any, AV.any, AV.any, AV.any, AV.any, AV.any, AV.any, AV.any, AV.any, AV.any, AV.any, AV.any, AV.any, AV.any, AV.any, AV.any, AV.any, AV.any, AV.any, AV.any, AV.any, AV.any, AV.int IntKind.i64 (↑i : Int), AV.sl false 0 0 n Cp.no, AV.int IntKind.i64 (↑n : Int), AV.bool false, AV.any, AV.any, AV.any, AV.any, AV.any, AV.any, AV.any, AV.any, AV.any, AV.any, AV.any, AV.any, AV.any, AV.any, AV.any, AV.any, AV.any, AV.any, AV.any, AV.any, AV.any, AV.any, AV.any, AV.any, AV.any, AV.any, AV.any, AV.any, AV.any, AV.any, AV.any, AV.any, AV.any, AV.any, AV.any, AV.any, AV.any, AV.any, AV.any, AV.any, AV.any, AV.any, AV.any, AV.any, AV.any, AV.any, AV.any, AV.any, AV.any, AV.any, AV.any] [some (Row.gen 38 2 n fun j => rune (F j) (↑j : Int)), none, some (Row.gen 38 2 n fun j => rune (F j) (↑j : Int)), none, some (Row.gen 38 2 o.length fun j => rune (o.getD j (0, 0)).fst (o.getD j (0, 0)).snd)])) := by kernel_rfl
theorem viewQ {n m : Nat} {F : Nat → Int} {o : List (Int × Int)} (r1 r3 : Option Row) : View some (rQ n F o) [some (.gen 38 2 n (inF F)), r1, some (.gen 38 2 n (inF F)), r3, some (.gen 38 2 o.length (outG o))] := by
  refine View.of ?_ ?_
  · intro c r hr
    match c with
    | 0 => cases hr; exact ViewL.at_ (b := 0) rfl rfl (genPlain (inF_plain _ _))
    | 1 => cases hr; exact ViewL.gone' (b := 1) rfl (by simp)
    | 2 => cases hr; exact ViewL.at_ (b := 2) rfl rfl (genPlain (inF_plain _ _))
    | 3 => cases hr; exact ViewL.gone' (b := 3) rfl (by simp)
    | 4 => cases hr; exact ViewL.at_ (b := 4) rfl rfl (genPlain (outG_plain _ _))
    | c + 5 => simp [rQ] at hr
  · intro c c' b _ _ h1 h2
    cases h1; cases h2; rfl
def fam13b (n : Nat) (F : Nat → Int) (c : Int) (o : List (Int × Int)) (i : Nat) : St := ⟨tm13b n o.length c (i : Nat), rQ n F o⟩
theorem loop13b (R : Nat → RoRow) (n : Nat) (F : Nat → Int) (c : Int) (o : List (Int × Int)) (ho : o.length ≤ 1048576) (hno : ∀ p, p ∈ o → p.1 ≠ 13) (st0 : St) {r1 r3 : Option Row} (hT : VwL some 5 (tm13b n o.length c ((0 : Nat) : Int)) st0.tmps)
    (hr : st0.rows = [some (.gen 38 2 n (inF F)), r1, some (.gen 38 2 n (inF F)), r3, some (.gen 38 2 o.length (outG o))]) {Q : Exit → St → Prop} (h : Q .normal (fam13b n F c o o.length)) : Safe Try.prog (env13 R).R (.block 2 (.loop lp13b)) st0 Q := by
  have hlen : st0.rows.length = 5 := by rw [hr]; rfl
  refine (loop_block (I := {i : Nat // i ≤ o.length}) (fam := fun i => fam13b n F c o i.1) (fun i => o.length - i.1) (X := fun e stE => e = .exit 2 ∧ stE = fam13b n F c o o.length) (id := 2)
    (i0 := ⟨0, Nat.zero_le _⟩) (st := st0) (f := some) ?_ ?_ ?_ ?_).mono ?_
  · exact ⟨by rw [hr]; exact viewQ (m := 0) _ _, hT⟩
  · intro c hc; rfl
  · intro i; rw [hlen]; exact Nat.le_refl _
  · rintro ⟨i, hi⟩
    rw [hlen]
    refine byRndI (env13_ok R) (f := 13) (fi := fi13) (by kernel_rfl) blk13b 10000 (vr13b R n F c o i _) ?_
    have hw : IntKind.i64.wrap ((i : Int) + 1) = ((i + 1 : Nat) : Int) := by rw [wrap64 _ (by omega) (by omega)]; omega
    have hi0 : 0 + (i : Int).toNat = i := by simp
    rw [hw, hi0]
    refine hcond (fun c1 => ?_) (fun c1 => ?_)
    · have c1 : i < o.length := by have := of_decide_eq_true c1; omega
      refine hcond (fun _ => ?_) (fun h => by exfalso; simp at h; omega)
      refine hcond (fun _ => ?_) (fun h => by exfalso; have := of_decide_eq_false h; omega)
      refine hcond (fun h => ?_) (fun _ => ?_)
      · exfalso
        have h2 : (o.getD i (0, 0)).fst = 13 := by simpa using h
        refine hno (o.getD i (0, 0)) ?_ h2
        rw [show o.getD i (0, 0) = o[i] by simp [List.getD, List.getElem?_eq_getElem c1]]
        exact List.getElem_mem c1
      · refine ⟨⟨i + 1, by omega⟩, by show o.length - (i + 1) < o.length - i; omega, some, ⟨viewQ (m := 0) _ _, ?_⟩, fun _ _ => rfl, by simp [fam13b, rQ]⟩
        show VwL _ 5 (tm13b n o.length c ((i + 1 : Nat) : Int)) _
        ((simp only [tm13a, tm33, tm13b, tm13c]; repeat' (first | with_reducible exact VwL.nil | with_reducible refine VwL.cons ?_ ?_ | with_reducible exact Vw.anyI | with_reducible exact Vw.strI | with_reducible exact Vw.intI | with_reducible exact Vw.intE rfl | exact Vw.slI (by decide) rfl | exact Vw.slI (by simp) rfl | exact Vw.ptrI (by decide) rfl | exact Vw.gndI rfl)))
    · have c1 : i = o.length := by have := of_decide_eq_false c1; omega
      subst c1
      refine ⟨fam13b n F c o o.length, ⟨some, ⟨viewQ (m := 0) _ _, ?_⟩, fun _ _ => rfl, by simp [fam13b, rQ]⟩, rfl, rfl⟩
      show VwL _ 5 (tm13b n o.length c (o.length : Nat)) _
      ((simp only [tm13a, tm33, tm13b, tm13c]; repeat' (first | with_reducible exact VwL.nil | with_reducible refine VwL.cons ?_ ?_ | with_reducible exact Vw.anyI | with_reducible exact Vw.strI | with_reducible exact Vw.intI | with_reducible exact Vw.intE rfl | exact Vw.slI (by decide) rfl | exact Vw.slI (by simp) rfl | exact Vw.ptrI (by decide) rfl | exact Vw.gndI rfl)))
  · rintro e stE ⟨e0, rfl, rfl, rfl⟩
    exact h
def fam13c (n : Nat) (F : Nat → Int) (c : Int) (o : List (Int × Int)) (i : Nat) : St := ⟨tm13c n o.length c (i : Nat), rQ n F o⟩
theorem loop13c (R : Nat → RoRow) (n : Nat) (F : Nat → Int) (c : Int) (o : List (Int × Int)) (ho : n ≤ 1048576) (st0 : St) {r1 r3 : Option Row} (hT : VwL some 5 (tm13c n o.length c ((0 : Nat) : Int)) st0.tmps)
    (hr : st0.rows = [some (.gen 38 2 n (inF F)), r1, some (.gen 38 2 n (inF F)), r3, some (.gen 38 2 o.length (outG o))]) {Q : Exit → St → Prop} (h : Q .normal (fam13c n F c o n)) : Safe Try.prog (env13 R).R (.block 4 (.loop lp13c)) st0 Q := by
  have hlen : st0.rows.length = 5 := by rw [hr]; rfl
  refine (loop_block (I := {i : Nat // i ≤ n}) (fam := fun i => fam13c n F c o i.1) (fun i => n - i.1) (X := fun e stE => e = .exit 4 ∧ stE = fam13c n F c o n) (id := 4)
    (i0 := ⟨0, Nat.zero_le _⟩) (st := st0) (f := some) ?_ ?_ ?_ ?_).mono ?_
  · exact ⟨by rw [hr]; exact viewQ (m := 0) _ _, hT⟩
  · intro c hc; rfl
  · intro i; rw [hlen]; exact Nat.le_refl _
  · rintro ⟨i, hi⟩
    rw [hlen]
    refine byRndI (env13_ok R) (f := 13) (fi := fi13) (by kernel_rfl) blk13c 10000 (vr13c R n F c o i _) ?_
    have hw : IntKind.i64.wrap ((i : Int) + 1) = ((i + 1 : Nat) : Int) := by rw [wrap64 _ (by omega) (by omega)]; omega
    rw [hw]
    refine hcond (fun c1 => ?_) (fun c1 => ?_)
    · have c1 : i < n := by have := of_decide_eq_true c1; omega
      refine hcond (fun _ => ?_) (fun h => by exfalso; simp at h; omega)
      refine hcond (fun _ => ?_) (fun h => by exfalso; have := of_decide_eq_false h; omega)
      refine hcond (fun _ => ?_) (fun h => by exfalso; simp at h; omega)
      refine hcond (fun _ => ?_) (fun h => by exfalso; have := of_decide_eq_false h; omega)
      refine hcond (fun h => by exfalso; simp at h) (fun _ => ?_)
      refine ⟨⟨i + 1, by omega⟩, by show n - (i + 1) < n - i; omega, some, ⟨viewQ (m := 0) _ _, ?_⟩, fun _ _ => rfl, by simp [fam13c, rQ]⟩
      show VwL _ 5 (tm13c n o.length c ((i + 1 : Nat) : Int)) _
      ((simp only [tm13a, tm33, tm13b, tm13c]; repeat' (first | with_reducible exact VwL.nil | with_reducible refine VwL.cons ?_ ?_ | with_reducible exact Vw.anyI | with_reducible exact Vw.strI | with_reducible exact Vw.intI | with_reducible exact Vw.intE rfl | exact Vw.slI (by decide) rfl | exact Vw.slI (by simp) rfl | exact Vw.ptrI (by decide) rfl | exact Vw.gndI rfl)))
    · have c1 : i = n := by have := of_decide_eq_false c1; omega
      subst c1
      refine ⟨fam13c i F c o i, ⟨some, ⟨viewQ (m := 0) _ _, ?_⟩, fun _ _ => rfl, by simp [fam13c, rQ]⟩, rfl, rfl⟩
      show VwL _ 5 (tm13c i o.length c (i : Nat)) _
      ((simp only [tm13a, tm33, tm13b, tm13c]; repeat' (first | with_reducible exact VwL.nil | with_reducible refine VwL.cons ?_ ?_ | with_reducible exact Vw.anyI | with_reducible exact Vw.strI | with_reducible exact Vw.intI | with_reducible exact Vw.intE rfl | exact Vw.slI (by decide) rfl | exact Vw.slI (by simp) rfl | exact Vw.ptrI (by decide) rfl | exact Vw.gndI rfl)))
  · rintro e stE ⟨e0, rfl, rfl, rfl⟩
    exact h
/-! what the loops ask and leave -/
structure WasOK (n : Nat) (F : Nat → Int) (n1 n2 : Nat) (F1 F2 : Nat → AV) : Prop where
  h1 : n1 = n
  h2 : F1 = inF F
  h3 : n2 = n
  h4 : ∀ j, j < n → F2 j = inF F j
def spec33L (n : Nat) (F : Nat → Int) : LoopSp := fun st k => match st.rows with
  | [some (.gen 38 2 n1 F1), r1, some (.gen 38 2 n2 F2), some (.lst 51 1 [.agg [.bool a0]])] =>
    (nthV st.tmps 0 = .ptr false 3 0 0 ∧ nthV st.tmps 5 = .nils ∧ nthV st.tmps 13 = .sl false 0 0 n .no ∧ nthV st.tmps 14 = .int .i64 n ∧ nthV st.tmps 15 = .int .i64 0 ∧ st.tmps.length = 47 ∧ a0 = false ∧ WasOK n F n1 n2 F1 F2) ∧
    ∀ a o, IsP F n a o → k .normal ⟨tm33 n o.length (n : Nat), rP n F a o⟩
  | _ => False
theorem spec33L_ok (R : Nat → RoRow) (n : Nat) (F : Nat → Int) (hn : n ≤ 1048576) : ∀ st k, spec33L n F st k → Safe Try.prog (env13 R).R (.block 0 (.loop lp33)) st k := by
  intro st k hk
  unfold spec33L at hk
  split at hk
  · rename_i n1 F1 r1 n2 F2 a0 hrows
    obtain ⟨⟨t0, t5, t13, t14, t15, hl, rfl, ⟨rfl, rfl, rfl, hg⟩⟩, hk⟩ := hk
    refine loop33 R n2 F hn st rfl hg ?_ hrows (hk _ _ ⟨rfl⟩)
    rw [tm33_spr]
    refine VwL.ofKnown hl ⟨?_, ?_, ?_, ?_, ?_, trivial⟩
    · rw [t0]; exact Vw.ptrI (by decide) rfl
    · rw [t5]; exact Vw.slN (by decide) rfl
    · rw [t13]; exact Vw.slI (by decide) rfl
    · rw [t14]; exact Vw.intI
    · rw [t15]; exact Vw.intI
  · exact hk.elim
structure OutOK (n : Nat) (F : Nat → Int) (n1 n2 m : Nat) (F1 F2 G : Nat → AV) : Prop where
  h : ∃ o : List (Int × Int), o.length ≤ 1048576 ∧ (∀ p, p ∈ o → p.1 ≠ 13) ∧ m = o.length ∧ G = outG o ∧ n1 = n ∧ F1 = inF F ∧ n2 = n ∧ F2 = inF F
def spec13b (n : Nat) (F : Nat → Int) : LoopSp := fun st k => match nthV st.tmps 4, st.rows with
  | .int .i64 c, [some (.gen 38 2 n1 F1), r1, some (.gen 38 2 n2 F2), r3, some (.gen 38 2 m G)] =>
    (nthV st.tmps 3 = .sl false 0 0 n .no ∧ nthV st.tmps 6 = .sl false 2 0 n .no ∧ nthV st.tmps 8 = .sl false 4 0 m .no ∧ nthV st.tmps 9 = .int .i64 0 ∧ st.tmps.length = 125 ∧ OutOK n F n1 n2 m F1 F2 G) ∧
    k .normal ⟨tm13b n m c (m : Nat), [some (.gen 38 2 n1 F1), none, some (.gen 38 2 n2 F2), none, some (.gen 38 2 m G)]⟩
  | _, _ => False
theorem spec13b_ok (R : Nat → RoRow) (n : Nat) (F : Nat → Int) : ∀ st k, spec13b n F st k → Safe Try.prog (env13 R).R (.block 2 (.loop lp13b)) st k := by
  intro st k hk
  unfold spec13b at hk
  split at hk
  · rename_i c n1 F1 r1 n2 F2 r3 m G t4 hrows
    obtain ⟨⟨t3, t6, t8, t9, hl, ⟨o, ho, hno, rfl, rfl, rfl, rfl, rfl, rfl⟩⟩, hk⟩ := hk
    refine loop13b R n2 F c o ho hno st ?_ hrows hk
    rw [tm13b_spr]
    refine VwL.ofKnown hl ⟨?_, ?_, ?_, ?_, ?_, trivial⟩
    · rw [t3]; exact Vw.slI (by decide) rfl
    · rw [t4]; exact Vw.intI
    · rw [t6]; exact Vw.slI (by decide) rfl
    · rw [t8]; exact Vw.slI (by decide) rfl
    · rw [t9]; exact Vw.intI
  · exact hk.elim
def spec13c (n : Nat) (F : Nat → Int) : LoopSp := fun st k => match nthV st.tmps 4, st.rows with
  | .int .i64 c, [some (.gen 38 2 n1 F1), r1, some (.gen 38 2 n2 F2), r3, some (.gen 38 2 m G)] =>
    (nthV st.tmps 3 = .sl false 0 0 n .no ∧ nthV st.tmps 6 = .sl false 2 0 n .no ∧ nthV st.tmps 8 = .sl false 4 0 m .no ∧ nthV st.tmps 10 = .int .i64 0 ∧ st.tmps.length = 125 ∧ OutOK n F n1 n2 m F1 F2 G) ∧
    k .normal ⟨tm13c n m c (n : Nat), [some (.gen 38 2 n1 F1), none, some (.gen 38 2 n2 F2), none, some (.gen 38 2 m G)]⟩
  | _, _ => False
theorem spec13c_ok (R : Nat → RoRow) (n : Nat) (F : Nat → Int) (hn : n ≤ 1048576) : ∀ st k, spec13c n F st k → Safe Try.prog (env13 R).R (.block 4 (.loop lp13c)) st k := by
  intro st k hk
  unfold spec13c at hk
  split at hk
  · rename_i c n1 F1 r1 n2 F2 r3 m G t4 hrows
    obtain ⟨⟨t3, t6, t8, t10, hl, ⟨o, ho, hno, rfl, rfl, rfl, rfl, rfl, rfl⟩⟩, hk⟩ := hk
    refine loop13c R n2 F c o hn st ?_ hrows hk
    rw [tm13c_spr]
    refine VwL.ofKnown hl ⟨?_, ?_, ?_, ?_, ?_, trivial⟩
    · rw [t3]; exact Vw.slI (by decide) rfl
    · rw [t4]; exact Vw.intI
    · rw [t6]; exact Vw.slI (by decide) rfl
    · rw [t8]; exact Vw.slI (by decide) rfl
    · rw [t10]; exact Vw.intI
  · exact hk.elim
theorem spec13a_ok (ty n : Nat) (F : Nat → Int) (hn : n ≤ 1048576) : ∀ st k, spec13a n F st k → Safe Try.prog (env13 (roI ty n F)).R (.block 0 (.loop lp13a)) st k := by
  rintro st k ⟨⟨t0, t3, t4, t5, hl, hr⟩, hk⟩
  refine loop13a ty n F hn st ?_ hr (hk _ ⟨rfl⟩)
  rw [tm13a_spr]
  refine VwL.ofKnown hl ⟨?_, ?_, ?_, ?_, trivial⟩
  · rw [t0]; exact Vw.gndI rfl
  · rw [t3]; exact Vw.slN (by decide) rfl
  · rw [t4]; exact Vw.intI
  · rw [t5]; exact Vw.intI
noncomputable abbrev env13L (ty n : Nat) (F : Nat → Int) : Env Prop := ((((env13 (roI ty n F)).addLoop 13 0 (spec13a n F)).addLoop 33 0 (spec33L n F)).addLoop 13 2 (spec13b n F)).addLoop 13 4 (spec13c n F)
theorem env13L_ok (ty n : Nat) (F : Nat → Int) (hn : n ≤ 1048576) : EnvOK Try.prog (env13L ty n F) id :=
  ((((env13_ok _).addLoop (f := 13) (fi := fi13) (by kernel_rfl) (body := .loop lp13a) blk13a (spec13a_ok ty n F hn)).addLoop (f := 33) (fi := fi33) (by kernel_rfl) (body := .loop lp33) blk33 (spec33L_ok _ n F hn)).addLoop
    (f := 13) (fi := fi13) (by kernel_rfl) (body := .loop lp13b) blk13b (spec13b_ok _ n F)).addLoop (f := 13) (fi := fi13) (by kernel_rfl) (body := .loop lp13c) blk13c (spec13c_ok _ n F hn)
end Go.Dc.Ka
