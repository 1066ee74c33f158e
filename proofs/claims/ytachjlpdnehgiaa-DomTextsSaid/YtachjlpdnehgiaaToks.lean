/- The tokens of a text: what is told of it. -/
import Derived.Test.YtachjlpdnehgiaaJoin
set_option linter.unusedVariables false
set_option linter.unusedSimpArgs false
namespace Go.Dc.Kd
open Go.Proofs Go.RowKit Go.Shelf
set_option maxRecDepth 100000
noncomputable def loopB (fi : FI) (id : Nat) : Code := match blockOf fi id with | some (.loop b) => b | _ => .skip
noncomputable def lp88 : Code := loopB fi88 0
theorem blk88 : blockOf fi88 0 = some (.loop lp88) := by kernel_rfl
abbrev roS (ty n : Nat) (S : Nat → List UInt8) : Nat → RoRow := roL ty 1 n fun j => .str (S j)
def tm88 (n : Nat) (v : List UInt8) (i : Int) : List AV := [.sl true 0 0 n .no, .str v, .any, .any, .any, .any, .any, .int .i64 (n : Nat), .int .i64 i, .any, .any, .any, .any, .any, .any, .any, .any, .any, .any]
def fam88 (n : Nat) (v : List UInt8) (i : Nat) : St := ⟨tm88 n v (i : Nat), []⟩
theorem vr88 (ty n i : Nat) (v : List UInt8) (S : Nat → List UInt8) (Q : Exit → St → Prop) : rnd (base (roS ty n S)) 10000 88 lp88 (fam88 n v i) Q =
    (bif decide ((↑i : Int) < (↑n : Int)) then
    bif true && decide ((↑i : Int) < (↑n : Int)) then
      bif decide (0 + (↑i : Int).toNat < ((base (roS ty n S)).R 0).n) then
        bif v == S (0 + (↑i : Int).toNat) then
          Q Exit.ret
            (St.mk
              [AV.sl true 0 0 n Cp.no, AV.str v, AV.any, AV.any, AV.int IntKind.i64 (↑i : Int),
                AV.int IntKind.i64 (↑i : Int), AV.any, AV.int IntKind.i64 (↑n : Int), AV.int IntKind.i64 (↑i : Int),
                AV.bool true, AV.int IntKind.i64 (↑i : Int), AV.str v, AV.sl true 0 0 n Cp.no,
                AV.int IntKind.i64 (↑i : Int), AV.ptr true 0 (0 + (↑i : Int).toNat) 0,
                AV.str (S (0 + (↑i : Int).toNat)), AV.bool true, AV.int IntKind.i64 (↑i : Int), AV.any]
              [])
        else
          Q Exit.normal
            (St.mk
              [AV.sl true 0 0 n Cp.no, AV.str v, AV.any, AV.any, AV.any, AV.int IntKind.i64 (↑i : Int), AV.any,
                AV.int IntKind.i64 (↑n : Int), AV.int IntKind.i64 (IntKind.i64.wrap ((↑i : Int) + 1)), AV.bool true,
                AV.int IntKind.i64 (↑i : Int), AV.str v, AV.sl true 0 0 n Cp.no, AV.int IntKind.i64 (↑i : Int),
                AV.ptr true 0 (0 + (↑i : Int).toNat) 0, AV.str (S (0 + (↑i : Int).toNat)), AV.bool false, AV.any,
                AV.int IntKind.i64 (IntKind.i64.wrap ((↑i : Int) + 1))]
              [])
      else False
    else False
  else
    Q (Exit.exit 0)
      (St.mk
        [AV.sl true 0 0 n Cp.no, AV.str v, AV.any, AV.any, AV.any, AV.any, AV.any, AV.int IntKind.i64 (↑n : Int),
          AV.int IntKind.i64 (↑i : Int), AV.bool false, AV.any, AV.any, AV.any, AV.any, AV.any, AV.any, AV.any, AV.any,
          AV.any]
        [])) := by kernel_rfl
theorem hcond {c : Bool} {A B : Prop} (ha : c = true → A) (hb : c = false → B) : cond c A B := by
  cases c
  · exact hb rfl
  · exact ha rfl
theorem wrapI {x : Int} (h0 : -9223372036854775808 ≤ x) (h1 : x ≤ 9223372036854775807) : IntKind.i64.wrap x = x := by
  simp only [IntKind.wrap, IntKind.signed, IntKind.bits] at *
  simp
  omega
theorem byRnd {E : Env Prop} (hE : EnvOK Try.prog E id) {f : FuncId} {fi : FI} (hF : E.F f = some fi) {i : Nat} {c : Code} (hb : blockOf fi i = some (.loop c)) {st : St} {k : Exit → St → Prop} (n : Nat) {X : Prop} (e : rnd E n f c st k = X) (hX : X) : Safe Try.prog E.R c st k :=
  Safe.rnd mixed hE hF hb (subs_loop c) n (e.symm ▸ hX)
def st88 (n : Nat) (v : List UInt8) : St := (St.mk
      [AV.sl true 0 0 n Cp.no, AV.str v, AV.tup [], AV.tup [], AV.int IntKind.i64 0, AV.tup [], AV.sl true 0 0 n Cp.no,
        AV.int IntKind.i64 (n : Int), AV.int IntKind.i64 0, AV.tup [], AV.tup [], AV.tup [], AV.tup [], AV.tup [],
        AV.tup [], AV.tup [], AV.tup [], AV.tup [], AV.tup []]
      [])
def tm88r (i : Nat) : List AV := [.any, .any, .any, .any, .int .i64 (i : Int), .any, .any, .any, .any, .any, .any, .any, .any, .any, .any, .any, .any, .any, .any]
theorem loop88 (ty n : Nat) (v : List UInt8) (S : Nat → List UInt8) (hn : n ≤ 9223372036854775807) {Q : Exit → St → Prop} (h1 : ∀ i, i < n → (v == S i) = true → Q .ret ⟨tm88r i, []⟩) (h2 : (∀ j, j < n → (v == S j) = false) → Q .normal (fam88 n v n)) :
    Safe Try.prog (base (roS ty n S)).R (.block 0 (.loop lp88)) (st88 n v) Q := by
  refine (loop_block (I := {i : Nat // i ≤ n ∧ ∀ j, j < i → (v == S j) = false}) (fam := fun i => fam88 n v i.1) (fun i => n - i.1)
    (X := fun e stE => (e = .ret ∧ ∃ i, i < n ∧ (v == S i) = true ∧ stE = ⟨tm88r i, []⟩) ∨ (e = .exit 0 ∧ (∀ j, j < n → (v == S j) = false) ∧ stE = fam88 n v n)) (i0 := ⟨0, Nat.zero_le _, fun j hj => absurd hj (Nat.not_lt_zero _)⟩) (f := fun _ => none) ?_ ?_ ?_ ?_).mono ?_
  · refine ⟨View.nil, ?_⟩
    simp only [fam88, tm88, st88]
    repeat' (first | with_reducible exact VwL.nil | with_reducible refine VwL.cons ?_ ?_ | with_reducible exact Vw.anyI | with_reducible exact Vw.strI | with_reducible exact Vw.intI | exact Vw.gndI rfl)
  · intro c hc; simp [st88] at hc
  · intro i; simp [st88]
  · rintro ⟨i, hi, hno⟩
    refine byRnd (base_ok (roS ty n S)) (f := 88) (fi := fi88) (by kernel_rfl) blk88 10000 (vr88 ty n i v S _) ?_
    refine hcond (fun c1 => ?_) (fun c1 => ?_)
    · have c1 : i < n := by have := of_decide_eq_true c1; omega
      refine hcond (fun _ => ?_) (fun c2 => by exfalso; simp at c2; omega)
      refine hcond (fun _ => ?_) (fun c2 => by exfalso; have c3 : ¬ (0 + (i : Int).toNat < n) := of_decide_eq_false c2; simp at c3; omega)
      have e0 : S (0 + (i : Int).toNat) = S i := by simp
      rw [e0]
      refine hcond (fun c2 => ?_) (fun c2 => ?_)
      · refine ⟨⟨tm88r i, []⟩, Fit.nil ?_, .inl ⟨rfl, i, c1, c2, rfl⟩⟩
        simp only [tm88r]
        repeat' (first | with_reducible exact VwL.nil | with_reducible refine VwL.cons ?_ ?_ | with_reducible exact Vw.anyI | with_reducible exact Vw.strI | with_reducible exact Vw.intI | exact Vw.gndI rfl)
      · refine ⟨⟨i + 1, by omega, fun j hj => ?_⟩, by show n - (i + 1) < n - i; omega, Fit.nil ?_⟩
        · rcases Nat.lt_or_ge j i with h | h
          · exact hno j h
          · have : j = i := by omega
            subst this; exact c2
        · have hw : IntKind.i64.wrap ((i : Int) + 1) = ((i + 1 : Nat) : Int) := by
            rw [wrapI (by omega) (by omega)]; omega
          simp only [tm88]
          repeat' (first | with_reducible exact VwL.nil | with_reducible refine VwL.cons ?_ ?_ | with_reducible exact Vw.anyI | with_reducible exact Vw.strI | with_reducible exact Vw.intI | with_reducible exact Vw.intE hw | exact Vw.gndI rfl)
    · have c1 : ¬ i < n := by have := of_decide_eq_false c1; omega
      have hin : i = n := by omega
      subst hin
      refine ⟨fam88 i v i, Fit.nil ?_, .inr ⟨rfl, hno, rfl⟩⟩
      simp only [tm88]
      repeat' (first | with_reducible exact VwL.nil | with_reducible refine VwL.cons ?_ ?_ | with_reducible exact Vw.anyI | with_reducible exact Vw.strI | with_reducible exact Vw.intI | exact Vw.gndI rfl)
  · rintro e stE ⟨e0, rfl, ⟨rfl, i, hi, hv, rfl⟩ | ⟨rfl, hno, rfl⟩⟩
    · exact h1 i hi hv
    · exact h2 hno
noncomputable def ls88 (n : Nat) (v : List UInt8) (S : Nat → List UInt8) : LoopSp := fun st k => st = st88 n v ∧ (∀ i, i < n → (v == S i) = true → k .ret ⟨tm88r i, []⟩) ∧ ((∀ j, j < n → (v == S j) = false) → k .normal (fam88 n v n))
noncomputable abbrev env70 (ty n : Nat) (v : List UInt8) (S : Nat → List UInt8) : Env Prop := (base (roS ty n S)).addLoop 88 0 (ls88 n v S)
theorem env70_ok (ty n : Nat) (v : List UInt8) (S : Nat → List UInt8) (hn : n ≤ 9223372036854775807) : EnvOK Try.prog (env70 ty n v S) id :=
  (base_ok (roS ty n S)).addLoop (f := 88) (fi := fi88) (by kernel_rfl) (body := .loop lp88) blk88 (by
    rintro st k ⟨rfl, h1, h2⟩
    exact loop88 ty n v S hn h1 h2)
def hasS (n : Nat) (v : List UInt8) (S : Nat → List UInt8) : Bool := (List.range n).any fun j => v == S j
theorem hasS_true {n : Nat} {v : List UInt8} {S : Nat → List UInt8} {i : Nat} (hi : i < n) (h : (v == S i) = true) : hasS n v S = true := by
  unfold hasS
  rw [List.any_eq_true]
  exact ⟨i, by simpa using hi, h⟩
theorem hasS_false {n : Nat} {v : List UInt8} {S : Nat → List UInt8} (h : ∀ j, j < n → (v == S j) = false) : hasS n v S = false := by
  unfold hasS
  rw [List.any_eq_false]
  intro j hj
  have := h j (by simpa using hj)
  simp [this]
theorem vc70 (ty n : Nat) (v : List UInt8) (S : Nat → List UInt8) (Q : AV → Prop) : vcd (env70 ty n v S) 10000 70 fi70 [.sl true 0 0 n .no, .str v] [] (fun v _ => Q v) =
    (st88 n v = st88 n v ∧ (∀ i : Nat, i < n → (v == S i) = true → Q (AV.bool true)) ∧ ((∀ j : Nat, j < n → (v == S j) = false) → Q (AV.bool false))) := by kernel_rfl
theorem byVcd' {E : Env Prop} (hE : EnvOK Try.prog E id) {f : FuncId} {fi : FI} (hF : E.F f = some fi) {args : List AV} {h : Rows} {Q : AV → Rows → Prop} (n : Nat) {X : Prop} (e : vcd E n f fi args h Q = X) (hX : X) : SafeCall Try.prog E.R f args h Q :=
  SafeCall.vcd mixed hE hF n (e.symm ▸ hX)
theorem safe70 (ty n : Nat) (v : List UInt8) (S : Nat → List UInt8) (hn : n ≤ 9223372036854775807) : SafeCall Try.prog (roS ty n S) 70 [.sl true 0 0 n .no, .str v] [] fun r _ => r = .bool (hasS n v S) :=
  byVcd' (E := env70 ty n v S) (env70_ok ty n v S hn) (f := 70) (fi := fi70) (by kernel_rfl) 10000 (vc70 ty n v S (fun r => r = .bool (hasS n v S)))
    ⟨rfl, fun i hi h => by rw [hasS_true hi h], fun h => by rw [hasS_false h]⟩
/-- slices.Contains, of a row of texts. -/
def spec70 : CallSpec := fun args h k => match args with
  | [.sl false q 0 n _, .str v] => match h.live q with
    | some (.gen 9 1 n' at_) => n' = n ∧ n ≤ 9223372036854775807 ∧ (∀ j, j < n → at_ j = .str (strOf (at_ j))) ∧ k (.bool (hasS n v fun j => strOf (at_ j))) h
    | _ => False
  | _ => False
theorem spec70_ok (R : Nat → RoRow) : ∀ args h k, spec70 args h k → SafeCall Try.prog R 70 args h k := by
  intro args h k hk
  unfold spec70 at hk
  split at hk
  · rename_i q n u v
    split at hk
    · rename_i n' at_ hq
      obtain ⟨rfl, hn, hat, hk⟩ := hk
      refine (SafeCall.reads (R2 := roS 9 n' fun j => strOf (at_ j)) (argsL := [.sl true 0 0 n' .no, .str v]) (Q := fun r => r = .bool (hasS n' v fun j => strOf (at_ j)))
        (fun b => if b = q then some 0 else none) (fun i => match i with | 0 => some q | _ + 1 => none) ?_ ?_ ?_ (safe70 9 n' v _ hn) (fun r hr => by rw [hr]; rfl)).mono ?_
      · intro b i hb
        by_cases h1 : b = q
        · simp [h1] at hb; subst hb; rw [h1]
        · simp [h1] at hb
      · intro i
        match i with
        | 0 =>
          refine ⟨_, hq, rfl, rfl, Nat.le_refl _, ?_⟩
          intro j e hj he
          have hj : j < n' := hj
          rw [Row.get_gen hj] at he
          simp only [Option.some.injEq] at he
          subst he
          rw [hat j hj]
          exact ⟨rfl, rfl⟩
        | i + 1 => rfl
      · exact ⟨⟨0, by simp, rfl⟩, ⟨rfl, rfl⟩, trivial⟩
      · rintro v h' ⟨rfl, rfl⟩
        exact hk
    · exact hk.elim
  · exact hk.elim
noncomputable def lp43 : Code := loopB fi43 0
theorem blk43 : blockOf fi43 0 = some (.loop lp43) := by kernel_rfl
def tm43 (s : List UInt8) (n k : Nat) (i : Int) : List AV := [.str s, .any, .any, .sl false 1 0 k .no, .any, .any, .any, .sl false 0 0 n .no, .int .i64 (n : Nat), .int .i64 i, .any, .any, .any, .any, .any, .any, .any, .any, .any, .any, .any, .any, .any]
def fam43 (s : List UInt8) (ws L : List (List UInt8)) (i : Nat) : St := ⟨tm43 s ws.length L.length (i : Nat), [some (strsRow 9 ws), some (strsRow 9 L)]⟩
noncomputable abbrev env43 (R : Nat → RoRow) : Env Prop := ((base R).addCall 76 spec76g).addCall 70 spec70
theorem env43_ok (R : Nat → RoRow) : EnvOK Try.prog (env43 R) id :=
  ((base_ok R).addCall (f := 76) (fi := fi76) (by kernel_rfl) (spec76g_ok R)).addCall (f := 70) (fi := fi70) (by kernel_rfl) (spec70_ok R)
theorem vr43 (R : Nat → RoRow) (i : Nat) (s : List UInt8) (ws L : List (List UInt8)) (Q : Exit → St → Prop) : rnd (env43 R) 10000 43 lp43 (fam43 s ws L i) Q =
    (bif decide ((↑i : Int) < (↑ws.length : Int)) then
    bif true && decide ((↑i : Int) < (↑ws.length : Int)) then
      bif decide (0 + (↑i : Int).toNat < ws.length) then
        L.length = L.length ∧
          L.length.le 9223372036854775807 ∧
            (∀ (j : Nat), j.succ.le L.length → AV.str (L.getD j []) = AV.str (strOf (AV.str (L.getD j [])))) ∧
              bif
                  !hasS L.length (ws.getD (0 + (↑i : Int).toNat) []) fun j =>
                      strOf ((fun j => AV.str (L.getD j [])) j) then
                bif
                    decide (0 + L.length ≤ L.length) &&
                      (true &&
                        (true &&
                          decide
                            (((Src.gen L.length fun j => AV.str (L.getD (0 + j) [])).len + 1) * 16 ≤
                              140737488355328))) then
                  Q Exit.normal
                    (St.mk
                      [AV.str s, AV.any, AV.any,
                        AV.sl false 3 0 ((Src.gen L.length fun j => AV.str (L.getD (0 + j) [])).len + 1) Cp.no, AV.any,
                        AV.str (ws.getD (0 + (↑i : Int).toNat) []), AV.any, AV.sl false 0 0 ws.length Cp.no,
                        AV.int IntKind.i64 (↑ws.length : Int), AV.int IntKind.i64 (IntKind.i64.wrap ((↑i : Int) + 1)),
                        AV.bool true, AV.ptr false 0 (0 + (↑i : Int).toNat) 0,
                        AV.str (ws.getD (0 + (↑i : Int).toNat) []), AV.sl false 1 0 L.length Cp.no,
                        AV.str (ws.getD (0 + (↑i : Int).toNat) []),
                        AV.bool
                          (hasS L.length (ws.getD (0 + (↑i : Int).toNat) []) fun j =>
                            strOf ((fun j => AV.str (L.getD j [])) j)),
                        AV.bool true, AV.sl false 1 0 L.length Cp.no, AV.str (ws.getD (0 + (↑i : Int).toNat) []),
                        AV.sl false 2 0 1 Cp.tight,
                        AV.sl false 3 0 ((Src.gen L.length fun j => AV.str (L.getD (0 + j) [])).len + 1) Cp.no,
                        AV.int IntKind.i64 (IntKind.i64.wrap ((↑i : Int) + 1)), AV.any]
                      [some (Row.gen 9 1 ws.length fun j => AV.str (ws.getD j [])), none,
                        some (Row.lst 9 1 [AV.str (ws.getD (0 + (↑i : Int).toNat) [])]),
                        some
                          (Row.gen 9 1 ((Src.gen L.length fun j => AV.str (L.getD (0 + j) [])).len + 1) fun j =>
                            bif j.blt (Src.gen L.length fun j => AV.str (L.getD (0 + j) [])).len then
                              AV.str (L.getD (0 + j) [])
                            else
                              (Src.lst [AV.str (ws.getD (0 + (↑i : Int).toNat) [])]).at_
                                (j - (Src.gen L.length fun j => AV.str (L.getD (0 + j) [])).len))])
                else False
              else
                Q Exit.normal
                  (St.mk
                    [AV.str s, AV.any, AV.any, AV.sl false 1 0 L.length Cp.no, AV.any,
                      AV.str (ws.getD (0 + (↑i : Int).toNat) []), AV.any, AV.sl false 0 0 ws.length Cp.no,
                      AV.int IntKind.i64 (↑ws.length : Int), AV.int IntKind.i64 (IntKind.i64.wrap ((↑i : Int) + 1)),
                      AV.bool true, AV.ptr false 0 (0 + (↑i : Int).toNat) 0, AV.str (ws.getD (0 + (↑i : Int).toNat) []),
                      AV.sl false 1 0 L.length Cp.no, AV.str (ws.getD (0 + (↑i : Int).toNat) []),
                      AV.bool
                        (hasS L.length (ws.getD (0 + (↑i : Int).toNat) []) fun j =>
                          strOf ((fun j => AV.str (L.getD j [])) j)),
                      AV.bool false, AV.any, AV.any, AV.any, AV.any,
                      AV.int IntKind.i64 (IntKind.i64.wrap ((↑i : Int) + 1)), AV.any]
                    [some (Row.gen 9 1 ws.length fun j => AV.str (ws.getD j [])),
                      some (Row.gen 9 1 L.length fun j => AV.str (L.getD j []))])
      else False
    else False
  else
    Q (Exit.exit 0)
      (St.mk
        [AV.str s, AV.any, AV.any, AV.sl false 1 0 L.length Cp.no, AV.any, AV.any, AV.any,
          AV.sl false 0 0 ws.length Cp.no, AV.int IntKind.i64 (↑ws.length : Int), AV.int IntKind.i64 (↑i : Int),
          AV.bool false, AV.any, AV.any, AV.any, AV.any, AV.any, AV.any, AV.any, AV.any, AV.any, AV.any, AV.any, AV.any]
        [some (Row.gen 9 1 ws.length fun j => AV.str (ws.getD j [])),
          some (Row.gen 9 1 L.length fun j => AV.str (L.getD j []))])) := by kernel_rfl
theorem vc43 (R : Nat → RoRow) (i : Nat) (s : List UInt8) (ws L : List (List UInt8)) (S0 : St) (Q : AV → Rows → Prop) : vcd ((env43 R).addLoop 43 0 (fun st k => st = S0 ∧ k .normal (fam43 s ws L i))) 10000 43 fi43 [.str s] [] Q =
    (s.length.le 4294967296 ∧
    St.mk
          [AV.str s, AV.tup [], AV.nils, AV.nils, AV.tup [], AV.tup [], AV.str s,
            AV.sl false 0 0 (fieldsL s).length Cp.no, AV.int IntKind.i64 (↑(fieldsL s).length : Int),
            AV.int IntKind.i64 0, AV.tup [], AV.tup [], AV.tup [], AV.tup [], AV.tup [], AV.tup [], AV.tup [],
            AV.tup [], AV.tup [], AV.tup [], AV.tup [], AV.tup [], AV.tup []]
          [some (Row.gen 9 1 (fieldsL s).length fun j => AV.str ((fieldsL s).getD j []))] =
        S0 ∧
      Q (AV.sl false 1 0 L.length Cp.no)
        [some (Row.gen 9 1 ws.length fun j => AV.str (ws.getD j [])),
          some (Row.gen 9 1 L.length fun j => AV.str (L.getD j []))]) := by kernel_rfl
def tokStep (out : List (List UInt8)) (w : List UInt8) : List (List UInt8) := if out.any (fun x => w == x) then out else out ++ [w]
/-- Each once. -/
def toks (ws : List (List UInt8)) : List (List UInt8) := ws.foldl tokStep []
theorem hasS_list (L : List (List UInt8)) (w : List UInt8) : (hasS L.length w fun j => strOf ((fun j => AV.str (L.getD j [])) j)) = L.any (fun x => w == x) := by
  unfold hasS
  rw [Bool.eq_iff_iff, List.any_eq_true, List.any_eq_true]
  constructor
  · rintro ⟨j, hj, h⟩
    have hj : j < L.length := by simpa using hj
    refine ⟨L[j], List.getElem_mem hj, ?_⟩
    simpa [strOf, List.getD, hj] using h
  · rintro ⟨x, hx, h⟩
    obtain ⟨j, hj, rfl⟩ := List.getElem_of_mem hx
    refine ⟨j, by simpa using hj, ?_⟩
    simpa [strOf, List.getD, hj] using h
theorem toks_snoc (ws : List (List UInt8)) (i : Nat) (hi : i < ws.length) : toks (ws.take (i + 1)) = tokStep (toks (ws.take i)) (ws.getD i []) := by
  have e : ws.take (i + 1) = ws.take i ++ [ws.getD i []] := by
    rw [List.take_add_one, List.getElem?_eq_getElem hi]
    simp [List.getD, hi]
  unfold toks
  rw [e, List.foldl_append]
  rfl
theorem toks_length (ws : List (List UInt8)) : (toks ws).length ≤ ws.length := by
  have key : ∀ (l out : List (List UInt8)), (l.foldl tokStep out).length ≤ out.length + l.length := by
    intro l
    induction l with
    | nil => intro out; simp
    | cons w l ih =>
      intro out
      refine Nat.le_trans (ih (tokStep out w)) ?_
      unfold tokStep
      split <;> simp <;> omega
  have := key ws []
  simpa [toks] using this
def st43 (s : List UInt8) : St := St.mk
          [AV.str s, AV.tup [], AV.nils, AV.nils, AV.tup [], AV.tup [], AV.str s,
            AV.sl false 0 0 (fieldsL s).length Cp.no, AV.int IntKind.i64 (((fieldsL s).length : Nat) : Int),
            AV.int IntKind.i64 0, AV.tup [], AV.tup [], AV.tup [], AV.tup [], AV.tup [], AV.tup [], AV.tup [],
            AV.tup [], AV.tup [], AV.tup [], AV.tup [], AV.tup [], AV.tup []]
          [some (strsRow 9 (fieldsL s))]
def vwA : Nat → Option Nat := fun c => match c with | 0 => some 0 | _ + 1 => none
def vwB (a : Nat) : Nat → Option Nat := fun c => match c with | 0 => some 0 | 1 => some a | _ + 2 => none
theorem vwB_inj {a : Nat} (h0 : a ≠ 0) (c c' b : Nat) (h : vwB a c = some b) (h' : vwB a c' = some b) : c = c' := by
  match c, c' with
  | 0, 0 => rfl
  | 1, 1 => rfl
  | 0, 1 => simp [vwB] at h h'; omega
  | 1, 0 => simp [vwB] at h h'; omega
  | _ + 2, _ => simp [vwB] at h
  | 0, _ + 2 => simp [vwB] at h'
  | 1, _ + 2 => simp [vwB] at h'
theorem cap16 {k : Nat} (h : k ≤ 1000000) : (decide (0 + k ≤ k) && (true && (true && decide ((k + 1) * 16 ≤ 140737488355328)))) = true := by simp; omega
theorem notT {b : Bool} (h : (!b) = true) : b = false := by cases b <;> simp_all
theorem notF {b : Bool} (h : (!b) = false) : b = true := by cases b <;> simp_all
theorem loop43 (R : Nat → RoRow) (s : List UInt8) (hn : (fieldsL s).length ≤ 1000000) {Q : Exit → St → Prop} (h : Q .normal (fam43 s (fieldsL s) (toks (fieldsL s)) (fieldsL s).length)) :
    Safe Try.prog (env43 R).R (.block 0 (.loop lp43)) (st43 s) Q := by
  generalize hws : fieldsL s = ws at h hn
  have hst : st43 s = St.mk
          [AV.str s, AV.tup [], AV.nils, AV.nils, AV.tup [], AV.tup [], AV.str s,
            AV.sl false 0 0 ws.length Cp.no, AV.int IntKind.i64 ((ws.length : Nat) : Int),
            AV.int IntKind.i64 0, AV.tup [], AV.tup [], AV.tup [], AV.tup [], AV.tup [], AV.tup [], AV.tup [],
            AV.tup [], AV.tup [], AV.tup [], AV.tup [], AV.tup [], AV.tup []]
          [some (strsRow 9 ws)] := by unfold st43; rw [hws]
  rw [hst]
  refine (loop_block (I := {i : Nat // i ≤ ws.length}) (fam := fun i => fam43 s ws (toks (ws.take i.1)) i.1) (fun i => ws.length - i.1)
    (X := fun e stE => e = .exit 0 ∧ stE = fam43 s ws (toks ws) ws.length) (i0 := ⟨0, Nat.zero_le _⟩) (f := vwA) ?_ ?_ ?_ ?_).mono ?_
  · refine ⟨View.of ?_ ?_, ?_⟩
    · intro c o ho
      match c with
      | 0 => cases ho; exact ViewL.at_ (b := 0) rfl rfl (.gen rfl fun j _ => ⟨rfl, gnd_vw _ _ _ rfl⟩)
      | 1 => cases ho; exact ViewL.void rfl rfl
      | c + 2 => simp [fam43] at ho
    · intro c c' b _ _ h1 h2
      match c, c' with
      | 0, 0 => rfl
      | 0, _ + 1 => simp [vwA] at h2
      | _ + 1, _ => simp [vwA] at h1
    · simp only [fam43, tm43, List.take_zero, toks, List.foldl_nil, List.length_nil]
      repeat' (first | with_reducible exact VwL.nil | with_reducible refine VwL.cons ?_ ?_ | with_reducible exact Vw.anyI | with_reducible exact Vw.strI | with_reducible exact Vw.intI | exact Vw.gndI rfl | exact Vw.slI (by simp [fam43]) rfl | exact Vw.slN (by simp [fam43]) rfl)
  · intro c hc
    have : c = 0 := by simp at hc; omega
    subst this; rfl
  · intro i; simp [fam43]
  · rintro ⟨i, hi⟩
    refine byRnd (env43_ok R) (f := 43) (fi := fi43) (by kernel_rfl) blk43 10000 (vr43 R i s ws (toks (ws.take i)) _) ?_
    have hL : (toks (ws.take i)).length ≤ 1000000 := Nat.le_trans (toks_length _) (by simp; omega)
    refine hcond (fun c1 => ?_) (fun c1 => ?_)
    · have c1 : i < ws.length := by have := of_decide_eq_true c1; omega
      refine hcond (fun _ => ?_) (fun c2 => by exfalso; simp at c2; omega)
      refine hcond (fun _ => ?_) (fun c2 => by exfalso; have c3 : ¬ (0 + (i : Int).toNat < ws.length) := of_decide_eq_false c2; simp at c3; omega)
      have e0 : ws.getD (0 + (i : Int).toNat) [] = ws.getD i [] := by simp
      have hw : IntKind.i64.wrap ((i : Int) + 1) = ((i + 1 : Nat) : Int) := by rw [wrapI (by omega) (by omega)]; omega
      refine ⟨rfl, by show (toks (ws.take i)).length ≤ 9223372036854775807; omega, fun _ _ => rfl, ?_⟩
      rw [hasS_list, e0]
      have hs := toks_snoc ws i c1
      generalize hLd : toks (ws.take i) = L at hL hs
      refine hcond (fun c2 => ?_) (fun c2 => ?_)
      · have hT : toks (ws.take (i + 1)) = L ++ [ws.getD i []] := by
          rw [hs]; unfold tokStep; rw [notT c2]; rfl
        refine hcond (fun _ => ?_) (fun c3 => absurd ((cap16 hL).symm.trans c3) (by simp))
        refine ⟨⟨i + 1, by omega⟩, by show ws.length - (i + 1) < ws.length - i; omega, vwB 3, ⟨View.of ?_ ?_, ?_⟩, ?_, ?_⟩
        · intro c o ho
          match c with
          | 0 => cases ho; exact ViewL.at_ (b := 0) rfl rfl (.gen rfl fun j _ => ⟨rfl, gnd_vw _ _ _ rfl⟩)
          | 1 =>
            cases ho
            show ViewL _ _ _ 1 (some (strsRow 9 (toks (ws.take (i + 1)))))
            rw [hT]
            refine ViewL.at_ (b := 3) rfl rfl (.gen (by simp [Src.len]) fun j hj => ?_)
            have hj : j < L.length + 1 := by simpa using hj
            have e : (bif j.blt (Src.gen L.length fun j => AV.str (L.getD (0 + j) [])).len then AV.str (L.getD (0 + j) [])
                else (Src.lst [AV.str (ws.getD i [])]).at_ (j - (Src.gen L.length fun j => AV.str (L.getD (0 + j) [])).len)) = .str ((L ++ [ws.getD i []]).getD j []) := by
              by_cases hjk : j < L.length
              · have : j.blt L.length = true := by rw [Nat.blt_eq]; exact hjk
                simp only [Src.len, this, cond_true, Nat.zero_add]
                simp [List.getD, List.getElem?_append_left hjk]
              · have : j = L.length := by omega
                subst this
                have : L.length.blt L.length = false := by rw [Bool.eq_false_iff]; intro h; rw [Nat.blt_eq] at h; omega
                simp only [Src.len, this, cond_false, Nat.sub_self, Src.at_]
                simp [List.getD]
            rw [e]
            exact ⟨rfl, gnd_vw _ _ _ rfl⟩
          | c + 2 => simp [fam43] at ho
        · intro c c' b _ _ h1 h2
          exact vwB_inj (a := 3) (by omega) c c' b h1 h2
        · have hlen : (toks (ws.take (i + 1))).length = L.length + 1 := by rw [hT]; simp
          simp only [fam43, tm43, hlen]
          repeat' (first | with_reducible exact VwL.nil | with_reducible refine VwL.cons ?_ ?_ | with_reducible exact Vw.anyI | with_reducible exact Vw.strI | with_reducible exact Vw.intI | with_reducible exact Vw.intE hw | exact Vw.gndI rfl | exact Vw.slI (by simp [fam43]) rfl | exact Vw.slN (by simp [fam43]) rfl)
        · intro c hc
          have : c = 0 := by simp at hc; omega
          subst this; rfl
        · simp [fam43]
      · have hT : toks (ws.take (i + 1)) = L := by
          rw [hs]; unfold tokStep; rw [notF c2]; rfl
        refine ⟨⟨i + 1, by omega⟩, by show ws.length - (i + 1) < ws.length - i; omega, vwB 1, ⟨View.of ?_ ?_, ?_⟩, ?_, ?_⟩
        · intro c o ho
          match c with
          | 0 => cases ho; exact ViewL.at_ (b := 0) rfl rfl (.gen rfl fun j _ => ⟨rfl, gnd_vw _ _ _ rfl⟩)
          | 1 =>
            cases ho
            show ViewL _ _ _ 1 (some (strsRow 9 (toks (ws.take (i + 1)))))
            rw [hT]
            exact ViewL.at_ (b := 1) rfl rfl (.gen rfl fun j _ => ⟨rfl, gnd_vw _ _ _ rfl⟩)
          | c + 2 => simp [fam43] at ho
        · intro c c' b _ _ h1 h2
          exact vwB_inj (a := 1) (by omega) c c' b h1 h2
        · simp only [fam43, tm43, hT]
          repeat' (first | with_reducible exact VwL.nil | with_reducible refine VwL.cons ?_ ?_ | with_reducible exact Vw.anyI | with_reducible exact Vw.strI | with_reducible exact Vw.intI | with_reducible exact Vw.intE hw | exact Vw.gndI rfl | exact Vw.slI (by simp [fam43]) rfl | exact Vw.slN (by simp [fam43]) rfl)
        · intro c hc
          have : c = 0 := by simp at hc; omega
          subst this; rfl
        · simp [fam43]
    · have c1 : ¬ i < ws.length := by have := of_decide_eq_false c1; omega
      have hin : i = ws.length := by omega
      subst hin
      have hT : ws.take ws.length = ws := List.take_length
      rw [hT]
      refine ⟨fam43 s ws (toks ws) ws.length, ⟨vwB 1, ⟨View.of ?_ ?_, ?_⟩, ?_, ?_⟩, rfl, rfl⟩
      · intro c o ho
        match c with
        | 0 => cases ho; exact ViewL.at_ (b := 0) rfl rfl (.gen rfl fun j _ => ⟨rfl, gnd_vw _ _ _ rfl⟩)
        | 1 => cases ho; exact ViewL.at_ (b := 1) rfl rfl (.gen rfl fun j _ => ⟨rfl, gnd_vw _ _ _ rfl⟩)
        | c + 2 => simp [fam43] at ho
      · intro c c' b _ _ h1 h2
        exact vwB_inj (a := 1) (by omega) c c' b h1 h2
      · simp only [fam43, tm43]
        repeat' (first | with_reducible exact VwL.nil | with_reducible refine VwL.cons ?_ ?_ | with_reducible exact Vw.anyI | with_reducible exact Vw.strI | with_reducible exact Vw.intI | exact Vw.gndI rfl | exact Vw.slI (by simp [fam43]) rfl | exact Vw.slN (by simp [fam43]) rfl)
      · intro c hc
        have : c = 0 := by simp at hc; omega
        subst this; rfl
      · simp [fam43]
  · rintro e stE ⟨e0, rfl, rfl, rfl⟩
    exact h
end Go.Dc.Kd
