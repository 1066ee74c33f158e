/- The reference's parts: blanks, and whether a row has a text. -/
import Derived.Test.YtachjlpdnehgiaaStripped
set_option linter.unusedVariables false
set_option linter.unusedSimpArgs false
namespace Go.Dc.Kd
open Go.Proofs Go.RowKit Go.Shelf
set_option maxRecDepth 100000
noncomputable def lp73 : Code := loopB fi73 0
theorem blk73 : blockOf fi73 0 = some (.loop lp73) := by kernel_rfl
def tm73 (n : Nat) (v : List UInt8) (i : Int) : List AV := [.sl true 0 0 n .no, .str v, .any, .any, .any, .int .i64 i, .any, .any, .any, .any, .any, .any, .any, .any, .any, .any, .any, .any]
def fam73 (n : Nat) (v : List UInt8) (i : Nat) : St := ⟨tm73 n v (i : Nat), []⟩
theorem vr73 (ty n i : Nat) (v : List UInt8) (S : Nat → List UInt8) (Q : Exit → St → Prop) : rnd (base (roS ty n S)) 10000 73 lp73 (fam73 n v i) Q =
    (bif decide ((↑i : Int) < (↑n : Int)) then
    bif true && decide ((↑i : Int) < (↑n : Int)) then
      bif decide (0 + (↑i : Int).toNat < ((base (roS ty n S)).R 0).n) then
        bif S (0 + (↑i : Int).toNat) == v then
          Q Exit.ret
            (St.mk
              [AV.sl true 0 0 n Cp.no, AV.str v, AV.any, AV.any, AV.bool true, AV.int IntKind.i64 (↑i : Int),
                AV.int IntKind.i64 (↑i : Int), AV.sl true 0 0 n Cp.no, AV.int IntKind.i64 (↑n : Int), AV.bool true,
                AV.any, AV.any, AV.sl true 0 0 n Cp.no, AV.int IntKind.i64 (↑i : Int),
                AV.ptr true 0 (0 + (↑i : Int).toNat) 0, AV.str (S (0 + (↑i : Int).toNat)), AV.str v, AV.bool true]
              [])
        else
          Q Exit.normal
            (St.mk
              [AV.sl true 0 0 n Cp.no, AV.str v, AV.any, AV.any, AV.any,
                AV.int IntKind.i64 (IntKind.i64.wrap ((↑i : Int) + 1)), AV.int IntKind.i64 (↑i : Int),
                AV.sl true 0 0 n Cp.no, AV.int IntKind.i64 (↑n : Int), AV.bool true, AV.int IntKind.i64 (↑i : Int),
                AV.int IntKind.i64 (IntKind.i64.wrap ((↑i : Int) + 1)), AV.sl true 0 0 n Cp.no,
                AV.int IntKind.i64 (↑i : Int), AV.ptr true 0 (0 + (↑i : Int).toNat) 0,
                AV.str (S (0 + (↑i : Int).toNat)), AV.str v, AV.bool false]
              [])
      else False
    else False
  else
    Q (Exit.exit 0)
      (St.mk
        [AV.sl true 0 0 n Cp.no, AV.str v, AV.any, AV.any, AV.any, AV.int IntKind.i64 (↑i : Int),
          AV.int IntKind.i64 (↑i : Int), AV.sl true 0 0 n Cp.no, AV.int IntKind.i64 (↑n : Int), AV.bool false, AV.any,
          AV.any, AV.any, AV.any, AV.any, AV.any, AV.any, AV.any]
        [])) := by kernel_rfl
def st73 (n : Nat) (v : List UInt8) : St := St.mk
        [AV.sl true 0 0 n Cp.no, AV.str v, AV.tup [], AV.tup [], AV.bool false, AV.int IntKind.i64 0, AV.tup [],
          AV.tup [], AV.tup [], AV.tup [], AV.tup [], AV.tup [], AV.tup [], AV.tup [], AV.tup [], AV.tup [], AV.tup [],
          AV.tup []]
        []
def tm73r : List AV := [.any, .any, .any, .any, .bool true, .any, .any, .any, .any, .any, .any, .any, .any, .any, .any, .any, .any, .any]
theorem loop73 (ty n : Nat) (v : List UInt8) (S : Nat → List UInt8) (hn : n ≤ 9223372036854775807) {Q : Exit → St → Prop} (h1 : ∀ i, i < n → (S i == v) = true → Q .ret ⟨tm73r, []⟩) (h2 : (∀ j, j < n → (S j == v) = false) → Q .normal (fam73 n v n)) :
    Safe Try.prog (base (roS ty n S)).R (.block 0 (.loop lp73)) (st73 n v) Q := by
  refine (loop_block (I := {i : Nat // i ≤ n ∧ ∀ j, j < i → (S j == v) = false}) (fam := fun i => fam73 n v i.1) (fun i => n - i.1)
    (X := fun e stE => (e = .ret ∧ ∃ i, i < n ∧ (S i == v) = true ∧ stE = ⟨tm73r, []⟩) ∨ (e = .exit 0 ∧ (∀ j, j < n → (S j == v) = false) ∧ stE = fam73 n v n)) (i0 := ⟨0, Nat.zero_le _, fun j hj => absurd hj (Nat.not_lt_zero _)⟩) (f := fun _ => none) ?_ ?_ ?_ ?_).mono ?_
  · refine ⟨View.nil, ?_⟩
    simp only [fam73, tm73, st73]
    repeat' (first | with_reducible exact VwL.nil | with_reducible refine VwL.cons ?_ ?_ | with_reducible exact Vw.anyI | with_reducible exact Vw.strI | with_reducible exact Vw.intI |  exact Vw.gndI rfl)
  · intro c hc; simp [st73] at hc
  · intro i; simp [st73]
  · rintro ⟨i, hi, hno⟩
    refine byRnd (base_ok (roS ty n S)) (f := 73) (fi := fi73) (by kernel_rfl) blk73 10000 (vr73 ty n i v S _) ?_
    refine hcond (fun c1 => ?_) (fun c1 => ?_)
    · have c1 : i < n := by have := of_decide_eq_true c1; omega
      refine hcond (fun _ => ?_) (fun c2 => by exfalso; simp at c2; omega)
      refine hcond (fun _ => ?_) (fun c2 => by exfalso; have c3 : ¬ (0 + (i : Int).toNat < n) := of_decide_eq_false c2; simp at c3; omega)
      have e0 : S (0 + (i : Int).toNat) = S i := by simp
      rw [e0]
      refine hcond (fun c2 => ?_) (fun c2 => ?_)
      · refine ⟨⟨tm73r, []⟩, Fit.nil ?_, .inl ⟨rfl, i, c1, c2, rfl⟩⟩
        simp only [tm73r]
        repeat' (first | with_reducible exact VwL.nil | with_reducible refine VwL.cons ?_ ?_ | with_reducible exact Vw.anyI | with_reducible exact Vw.strI | with_reducible exact Vw.intI |  exact Vw.gndI rfl)
      · refine ⟨⟨i + 1, by omega, fun j hj => ?_⟩, by show n - (i + 1) < n - i; omega, Fit.nil ?_⟩
        · rcases Nat.lt_or_ge j i with h | h
          · exact hno j h
          · have : j = i := by omega
            subst this; exact c2
        · have hw : IntKind.i64.wrap ((i : Int) + 1) = ((i + 1 : Nat) : Int) := by
            rw [wrapI (by omega) (by omega)]; omega
          simp only [tm73]
          repeat' (first | with_reducible exact VwL.nil | with_reducible refine VwL.cons ?_ ?_ | with_reducible exact Vw.anyI | with_reducible exact Vw.strI | with_reducible exact Vw.intI | with_reducible exact Vw.intE hw | exact Vw.gndI rfl)
    · have c1 : ¬ i < n := by have := of_decide_eq_false c1; omega
      have hin : i = n := by omega
      subst hin
      refine ⟨fam73 i v i, Fit.nil ?_, .inr ⟨rfl, hno, rfl⟩⟩
      simp only [tm73]
      repeat' (first | with_reducible exact VwL.nil | with_reducible refine VwL.cons ?_ ?_ | with_reducible exact Vw.anyI | with_reducible exact Vw.strI | with_reducible exact Vw.intI |  exact Vw.gndI rfl)
  · rintro e stE ⟨e0, rfl, ⟨rfl, i, hi, hv, rfl⟩ | ⟨rfl, hno, rfl⟩⟩
    · exact h1 i hi hv
    · exact h2 hno
noncomputable def ls73 (n : Nat) (v : List UInt8) (S : Nat → List UInt8) : LoopSp := fun st k => st = st73 n v ∧ (∀ i, i < n → (S i == v) = true → k .ret ⟨tm73r, []⟩) ∧ ((∀ j, j < n → (S j == v) = false) → k .normal (fam73 n v n))
noncomputable abbrev env73 (ty n : Nat) (v : List UInt8) (S : Nat → List UInt8) : Env Prop := (base (roS ty n S)).addLoop 73 0 (ls73 n v S)
theorem env73_ok (ty n : Nat) (v : List UInt8) (S : Nat → List UInt8) (hn : n ≤ 9223372036854775807) : EnvOK Try.prog (env73 ty n v S) id :=
  (base_ok (roS ty n S)).addLoop (f := 73) (fi := fi73) (by kernel_rfl) (body := .loop lp73) blk73 (by
    rintro st k ⟨rfl, h1, h2⟩
    exact loop73 ty n v S hn h1 h2)
theorem vc73 (ty n : Nat) (v : List UInt8) (S : Nat → List UInt8) (Q : AV → Prop) : vcd (env73 ty n v S) 10000 73 fi73 [.sl true 0 0 n .no, .str v] [] (fun v _ => Q v) =
    (st73 n v = st73 n v ∧ (∀ i : Nat, i < n → (S i == v) = true → Q (AV.bool true)) ∧ ((∀ j : Nat, j < n → (S j == v) = false) → Q (AV.bool false))) := by kernel_rfl
theorem beq_sym {a b : List UInt8} {x : Bool} (h : (a == b) = x) : (b == a) = x := by rw [← h]; exact BEq.comm
theorem safe73 (ty n : Nat) (v : List UInt8) (S : Nat → List UInt8) (hn : n ≤ 9223372036854775807) : SafeCall Try.prog (roS ty n S) 73 [.sl true 0 0 n .no, .str v] [] fun r _ => r = .bool (hasS n v S) :=
  byVcd' (E := env73 ty n v S) (env73_ok ty n v S hn) (f := 73) (fi := fi73) (by kernel_rfl) 10000 (vc73 ty n v S (fun r => r = .bool (hasS n v S)))
    ⟨rfl, fun i hi h => by rw [hasS_true hi (beq_sym h)], fun h => by rw [hasS_false fun j hj => beq_sym (h j hj)]⟩
theorem spec73_ok (R : Nat → RoRow) : ∀ args h k, spec70 args h k → SafeCall Try.prog R 73 args h k := by
  intro args h k hk
  unfold spec70 at hk
  split at hk
  · rename_i q n u v
    split at hk
    · rename_i n' at_ hq
      obtain ⟨rfl, hn, hat, hk⟩ := hk
      refine (SafeCall.reads (R2 := roS 9 n' fun j => strOf (at_ j)) (argsL := [.sl true 0 0 n' .no, .str v]) (Q := fun r => r = .bool (hasS n' v fun j => strOf (at_ j)))
        (fun b => if b = q then some 0 else none) (fun i => match i with | 0 => some q | _ + 1 => none) ?_ ?_ ?_ (safe73 9 n' v _ hn) (fun r hr => by rw [hr]; rfl)).mono ?_
      · intro b i hb
        by_cases h1 : b = q
        · simp [h1] at hb; subst hb; rw [h1]
        · simp [h1] at hb
      · intro i
        match i with
        | 0 =>
          refine ⟨_, hq, rfl, rfl, Nat.le_refl _, ?_⟩
          intro j e hj he
          have hj : j < n' := hj
          rw [Row.get_gen hj] at he
          simp only [Option.some.injEq] at he
          subst he
          rw [hat j hj]
          exact ⟨rfl, rfl⟩
        | i + 1 => rfl
      · exact ⟨⟨0, by simp, rfl⟩, ⟨rfl, rfl⟩, trivial⟩
      · rintro v h' ⟨rfl, rfl⟩
        exact hk
    · exact hk.elim
  · exact hk.elim
/-- The reference's blank. -/
def blk8 (c : Int) : Bool := bif c == 9 then true else bif c == 10 then true else bif c == 12 then true else bif c == 13 then true else c == 32
theorem vc91 (R : Nat → RoRow) (c : Int) (Q : AV → Prop) : vcd (base R) 10000 91 fi91 [.int .u8 c] [] (fun v _ => Q v) =
    (bif c == 9 then Q (AV.bool true)
  else
    bif c == 10 then Q (AV.bool true)
    else bif c == 12 then Q (AV.bool true) else bif c == 13 then Q (AV.bool true) else Q (AV.bool (c == 32))) := by kernel_rfl
theorem safe91 (R : Nat → RoRow) (c : Int) : SafeCall Try.prog R 91 [.int .u8 c] [] fun v _ => v = .bool (blk8 c) := by
  refine byVcd' (E := base R) (base_ok R) (f := 91) (fi := fi91) (by kernel_rfl) 10000 (vc91 R c (fun v => v = .bool (blk8 c))) ?_
  unfold blk8
  cases c == 9
  · cases c == 10
    · cases c == 12
      · cases c == 13
        · exact rfl
        · exact rfl
      · exact rfl
    · exact rfl
  · exact rfl
def spec91 : CallSpec := fun args h k => match args with
  | [.int .u8 c] => k (.bool (blk8 c)) h
  | _ => False
theorem spec91_ok (R : Nat → RoRow) : ∀ args h k, spec91 args h k → SafeCall Try.prog R 91 args h k := by
  intro args h k hk
  unfold spec91 at hk
  split at hk
  · rename_i c
    have h1 : SafeCall Try.prog R 91 [.int .u8 c] [] fun v h => v = .bool (blk8 c) ∧ h = [] := by
      refine (safe91 R c).fit ?_
      rintro v h' rfl
      refine ⟨.bool (blk8 c), [], ⟨fun _ => none, ⟨fun c b hc => absurd hc (Nat.not_lt_zero _), fun c c' b hc => absurd hc (Nat.not_lt_zero _), fun c r hc => by simp [Rows.live] at hc⟩, Vw.boolI, fun c hc => absurd hc (Nat.not_lt_zero _), Nat.le_refl _⟩, rfl, rfl⟩
    refine (h1.fresh ?_ h).mono ?_
    · exact VwL.cons Vw.intI VwL.nil
    · rintro v'' h'' ⟨v', h', ⟨rfl, rfl⟩, rfl, rfl⟩
      have e : h ++ shiftRows h.length [] = h := by simp [shiftRows]
      rw [e]
      exact hk
  · exact hk.elim
theorem blk8_blank (c : UInt8) : blk8 (c.toNat : Int) = blankB c := by
  unfold blk8 blankB blankR blankI
  generalize (c.toNat : Int) = x
  cases x == 9 <;> cases x == 10 <;> cases x == 12 <;> cases x == 13 <;> cases x == 32 <;> rfl
noncomputable def lp78 : Code := loopB fi78 0
theorem blk78 : blockOf fi78 0 = some (.loop lp78) := by kernel_rfl
def tm78 (s : List UInt8) (n : Nat) (st i : Int) : List AV := [.str s, .any, .any, .sl false 0 0 n .no, .int .i64 st, .int .i64 i, .any, .any, .any, .any, .any, .any, .any, .any, .any, .any, .any, .any, .any, .any, .any, .any, .any, .any, .any, .any, .any, .any, .any, .any, .any, .any, .any, .any, .any]
def fam78 (s : List UInt8) (L : List (List UInt8)) (st i : Nat) : St := ⟨tm78 s L.length (st : Nat) (i : Nat), [some (strsRow 9 L)]⟩
noncomputable abbrev env78 (R : Nat → RoRow) : Env Prop := (base R).addCall 91 spec91
theorem env78_ok (R : Nat → RoRow) : EnvOK Try.prog (env78 R) id := (base_ok R).addCall (f := 91) (fi := fi91) (by kernel_rfl) (spec91_ok R)
end Go.Dc.Kd
