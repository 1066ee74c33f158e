/- stack.In: is an element of a name in a scope? What it answers of any stack. -/
import Derived.Test.YtlhplhncdljicaaBack
import Derived.Test.YtlhplhncdljicaaDcZg
section
set_option linter.unusedVariables false
set_option linter.unusedSimpArgs false
namespace Go.Dc.Kb
open Go.Proofs Go.RowKit
set_option maxRecDepth 100000

/-- A stack and its items, as memory that is only read. -/
def roStk (len : Nat) (at_ : Nat → AV) : Nat → RoRow := fun i => match i with
  | 0 => ⟨26, 1, 1, fun _ => .agg [.sl true 1 0 len .no]⟩
  | 1 => ⟨29, 2, len, at_⟩
  | _ + 2 => ⟨0, 0, 0, fun _ => .undef⟩
def itm (n : Int) (s : List UInt8) : AV := .agg [.int .i64 n, .str s]
noncomputable def as12 : Code := rgA fi12 0
noncomputable def bo12 : Code := rgB fi12 0
theorem blk12 : blockOf fi12 0 = some (.rangeFunc (.tmp 15) #[16, 17] as12 bo12) := by kernel_rfl
/-- The state at the range: t16, t17 are the round's. -/
def tmIn (sc : Int) (nm : List UInt8) (len : Nat) (i x : AV) : List AV :=
  [AV.ptr true 0 0 0, AV.int IntKind.i64 sc, AV.str nm, AV.tup [], AV.ptr false 0 0 0, AV.ptr false 1 0 0,
        AV.ptr false 2 0 0, AV.tup [], AV.tup [], AV.ptr true 0 0 0, AV.bool false, AV.ptr true 0 0 0,
        AV.ptr true 0 0 0, AV.ptr true 0 0 0, AV.sl true 1 0 len Cp.no, AV.fn 63 [] [AV.ptr false 3 0 0], i,
        x, AV.tup [], AV.tup [], AV.tup [], AV.tup [], AV.tup [], AV.tup [], AV.tup [], AV.tup []]
def rwIn (sc : Int) (nm : List UInt8) (len : Nat) (b : Bool) (bx : Option Row) : Rows :=
  [some (Row.lst 3 1 [AV.int IntKind.i64 sc]), some (Row.lst 9 1 [AV.str nm]), some (Row.lst 4 1 [AV.bool b]), bx]
def bxIn (len : Nat) : Option Row := some (Row.lst 24 1 [AV.sl true 1 0 len Cp.no])
def stIn (sc : Int) (nm : List UInt8) (len : Nat) : St := ⟨tmIn sc nm len (.tup []) (.tup []), rwIn sc nm len false (bxIn len)⟩
/-- Does an element end a scope? -/
def endsB (sc : Int) (s : List UInt8) : Bool :=
  bif s == [104, 116, 109, 108] then true else bif s == [116, 97, 98, 108, 101] then true else bif s == [116, 101, 109, 112, 108, 97, 116, 101] then true
  else bif s == [116, 100] then sc != 3 else bif s == [116, 104] then sc != 3 else bif s == [99, 97, 112, 116, 105, 111, 110] then sc != 3
  else bif s == [109, 97, 114, 113, 117, 101, 101] then sc != 3 else bif s == [111, 98, 106, 101, 99, 116] then sc != 3 else bif s == [97, 112, 112, 108, 101, 116] then sc != 3
  else bif s == [111, 108] then sc == 1 else bif s == [117, 108] then sc == 1 else bif s == [98, 117, 116, 116, 111, 110] then sc == 2 else false
def spec47 : CallSpec := fun args h k => match args with
  | [.int .i64 sc, .str s] => k (.bool (endsB sc s)) h
  | _ => False
theorem vc47 (R : Nat → RoRow) (sc : Int) (s : List UInt8) (Q : AV → Prop) : vcd (base R) 10000 47 fi47 [.int .i64 sc, .str s] [] (fun v _ => Q v) =
    (bif s == [104, 116, 109, 108] then Q (AV.bool true)
  else
    bif s == [116, 97, 98, 108, 101] then Q (AV.bool true)
    else
      bif s == [116, 101, 109, 112, 108, 97, 116, 101] then Q (AV.bool true)
      else
        bif s == [116, 100] then Q (AV.bool (sc != 3))
        else
          bif s == [116, 104] then Q (AV.bool (sc != 3))
          else
            bif s == [99, 97, 112, 116, 105, 111, 110] then Q (AV.bool (sc != 3))
            else
              bif s == [109, 97, 114, 113, 117, 101, 101] then Q (AV.bool (sc != 3))
              else
                bif s == [111, 98, 106, 101, 99, 116] then Q (AV.bool (sc != 3))
                else
                  bif s == [97, 112, 112, 108, 101, 116] then Q (AV.bool (sc != 3))
                  else
                    bif s == [111, 108] then Q (AV.bool (sc == 1))
                    else
                      bif s == [117, 108] then Q (AV.bool (sc == 1))
                      else bif s == [98, 117, 116, 116, 111, 110] then Q (AV.bool (sc == 2)) else Q (AV.bool false)) := by kernel_rfl
theorem condP {Q : AV → Prop} (c x y : Bool) : (bif c then Q (.bool x) else Q (.bool y)) = Q (.bool (bif c then x else y)) := by cases c <;> rfl
theorem safe47 (R : Nat → RoRow) (sc : Int) (s : List UInt8) : SafeCall Try.prog R 47 [.int .i64 sc, .str s] [] fun v _ => v = .bool (endsB sc s) := by
  refine byVcd (base_ok R) (f := 47) (fi := fi47) (by kernel_rfl) 10000 (vc47 R sc s (fun v => v = .bool (endsB sc s))) ?_
  have key : ∀ (Q : AV → Prop), Q (.bool (endsB sc s)) → vcd (base R) 10000 47 fi47 [.int .i64 sc, .str s] [] (fun v _ => Q v) := by
    intro Q h
    rw [vc47]
    simp only [condP]
    exact h
  have := key (fun v => v = .bool (endsB sc s)) rfl
  rw [vc47 R sc s (fun v => v = .bool (endsB sc s))] at this
  exact this
theorem spec47_ok (R : Nat → RoRow) : ∀ args h k, spec47 args h k → SafeCall Try.prog R 47 args h k := by
  intro args h k hk
  unfold spec47 at hk
  split at hk
  · rename_i sc s
    refine ((safe47 R sc s).alone rfl (fun v hv => by rw [hv]; rfl) h).mono ?_
    rintro v' h' ⟨rfl, rfl⟩
    exact hk
  · exact hk.elim
noncomputable abbrev envI (R : Nat → RoRow) : Env Prop := (base R).addCall 47 spec47
theorem envI_ok (R : Nat → RoRow) : EnvOK Try.prog (envI R) id := (base_ok R).addCall (f := 47) (fi := fi47) (by kernel_rfl) (spec47_ok R)
theorem vr12 (R : Nat → RoRow) (sc j nd : Int) (nm s : List UInt8) (len : Nat) (Q : Exit → Rows → Prop) : rndR (envI R) 10000 12 as12 bo12 ⟨tmIn sc nm len (.int .i64 j) (itm nd s), rwIn sc nm len false none⟩ (fun e st => Q e st.rows) =
    (bif s == nm then Q .ret (rwIn sc nm len true none ++ [some (Row.lst 29 2 [itm nd s])])
    else bif endsB sc s then Q .ret (rwIn sc nm len false none ++ [some (Row.lst 29 2 [itm nd s])])
    else Q .normal (rwIn sc nm len false none ++ [some (Row.lst 29 2 [itm nd s])])) := by kernel_rfl
theorem hcond {c : Bool} {A B : Prop} (ha : c = true → A) (hb : c = false → B) : cond c A B := by
  cases c
  · exact hb rfl
  · exact ha rfl

/-- What the last so many items say of a scope, the last one first. -/
def outF (sc : Int) (nm : List UInt8) (F : Nat → List UInt8) : Nat → Option Bool
  | 0 => none
  | n + 1 => bif F n == nm then some true else bif endsB sc (F n) then some false else outF sc nm F n
def inB (sc : Int) (nm : List UInt8) (F : Nat → List UInt8) (n : Nat) : Bool := (outF sc nm F n).getD false

theorem loop12 (sc : Int) (nm : List UInt8) (len : Nat) (N : Nat → Int) (F : Nat → List UInt8) {Q : Exit → St → Prop}
    (h : match outF sc nm F len with | some b => Q .ret ⟨tmIn sc nm len (.tup []) (.tup []), rwIn sc nm len b (bxIn len)⟩ | none => Q .normal (stIn sc nm len)) :
    SafeM Try.prog (envI (roStk len fun j => itm (N j) (F j))).R (.block 0 (.rangeFunc (.tmp 15) #[16, 17] as12 bo12)) (stIn sc nm len) Q := by
  refine rangeLoop mixed (envI_ok _) (f := 12) (fun _ => rfl) (gf := 63) (esz := 2) back63 enters63 (fi := fi12) (by kernel_rfl) blk12 (by kernel_rfl) (st := stIn sc nm len) (bx := 3) rfl (rb := .lst 24 1 [AV.sl true 1 0 len Cp.no]) rfl (sv := AV.sl true 1 0 len Cp.no) rfl
    (ds := [3]) (len := len) (els := fun j => itm (N j) (F j)) (by simp) (.inr (.inr ⟨1, 0, .no, rfl, rfl, by simp [roStk, Env.addCall, Env.base], fun j hj => by simp [roStk, Env.addCall, Env.base]⟩))
    (I := fun k rows => outF sc nm F len = outF sc nm F (len - k) ∧ rows = rwIn sc nm len false none)
    (X := fun e rows => e = .ret ∧ ∃ b, outF sc nm F len = some b ∧ rows = rwIn sc nm len b none) ⟨rfl, rfl⟩ 10000 ?_ ?_ ?_
  · rintro k rows hk ⟨ho, rfl⟩
    have e1 := vr12 (roStk len fun j => itm (N j) (F j)) sc ((len - 1 - k : Nat) : Int) (N (len - 1 - k)) nm (F (len - 1 - k)) len
      (fun e rows => ∃ rowsE, (rowsE = rows ∨ FitR 4 rowsE rows) ∧ match e with
        | .normal => outF sc nm F len = outF sc nm F (len - (k + 1)) ∧ rowsE = rwIn sc nm len false none
        | e => e = .ret ∧ ∃ b, outF sc nm F len = some b ∧ rowsE = rwIn sc nm len b none)
    refine e1.symm ▸ ?_
    obtain ⟨q, hq⟩ : ∃ q, len - k = q + 1 := ⟨len - k - 1, by omega⟩
    have hq1 : len - 1 - k = q := by omega
    have hq2 : len - (k + 1) = q := by omega
    rw [hq] at ho
    rw [hq1, hq2]
    simp only [outF] at ho
    refine hcond (fun h1 => ?_) (fun h1 => ?_)
    · rw [h1, cond_true] at ho
      exact ⟨rwIn sc nm len true none, .inr (FitR.pre _ _ rfl (Nat.le_refl _)), rfl, true, ho, rfl⟩
    · rw [h1, cond_false] at ho
      refine hcond (fun h2 => ?_) (fun h2 => ?_)
      · rw [h2, cond_true] at ho
        exact ⟨rwIn sc nm len false none, .inr (FitR.pre _ _ rfl (Nat.le_refl _)), rfl, false, ho, rfl⟩
      · rw [h2, cond_false] at ho
        exact ⟨rwIn sc nm len false none, .inr (FitR.pre _ _ rfl (Nat.le_refl _)), ho, rfl⟩
  · rintro rows ⟨ho, rfl⟩
    rw [Nat.sub_self] at ho
    rw [ho] at h
    exact h
  · rintro e rows ⟨rfl, b, ho, rfl⟩
    rw [ho] at h
    exact h
noncomputable def rl12 (sc : Int) (nm : List UInt8) (len : Nat) (F : Nat → List UInt8) : Nat → Option LoopSp := fun id => match id with
  | 0 => some fun st k => st = stIn sc nm len ∧ match outF sc nm F len with
    | some b => k .ret ⟨tmIn sc nm len (.tup []) (.tup []), rwIn sc nm len b (bxIn len)⟩
    | none => k .normal (stIn sc nm len)
  | _ + 1 => none
theorem vm12 (R : Nat → RoRow) (sc : Int) (nm : List UInt8) (len : Nat) (at_ : Nat → AV) (F : Nat → List UInt8) (Q : AV → Prop) :
    vcm (envI (roStk len at_)) back (rl12 sc nm len F) 10000 12 fi12 [.ptr true 0 0 0, .int .i64 sc, .str nm] [] (fun v _ => Q v) =
    (stIn sc nm len = stIn sc nm len ∧ match outF sc nm F len with | some b => Q (.bool b) | none => Q (.bool false)) := by kernel_rfl
theorem safe12 (sc : Int) (nm : List UInt8) (len : Nat) (N : Nat → Int) (F : Nat → List UInt8) :
    SafeCall Try.prog (roStk len fun j => itm (N j) (F j)) 12 [.ptr true 0 0 0, .int .i64 sc, .str nm] [] fun v _ => v = .bool (inB sc nm F len) := by
  refine SafeCall.vcm (E := envI (roStk len fun j => itm (N j) (F j))) (rl := rl12 sc nm len F) (n := 10000) mixed (envI_ok _) back_ok (fun _ => rfl) ?_ (f := 12) (fi := fi12) (by kernel_rfl) (by kernel_rfl) ?_
  · intro id spec hs body hb st k hk
    cases id with
    | succ i => cases hs
    | zero =>
      simp only [rl12, Option.some.injEq] at hs
      subst hs
      obtain ⟨rfl, hk⟩ := hk
      obtain rfl := blockOf_uniq blk12 (show (0, body) ∈ subs fi12.body from hb)
      exact loop12 sc nm len N F hk
  · refine (vm12 (roStk len fun j => itm (N j) (F j)) sc nm len _ F _).symm ▸ ⟨rfl, ?_⟩
    unfold inB
    cases outF sc nm F len <;> rfl
def nodeOf : AV → Int
  | .agg (.int _ n :: _) => n
  | _ => 0
def nameOf : AV → List UInt8
  | .agg (_ :: .str s :: _) => s
  | _ => []
/-- Of any stack: what it reads is told by its rows. -/
def spec12 : CallSpec := fun args h k => match args with
  | [.ptr false p 0 0, .int .i64 sc, .str nm] => match h.live p with
    | some (.lst 26 1 [.agg [.sl false q 0 len _]]) => match h.live q with
      | some (.gen 29 2 n at_) => n = len ∧ (∀ j, j < len → at_ j = itm (nodeOf (at_ j)) (nameOf (at_ j))) ∧ k (.bool (inB sc nm (fun j => nameOf (at_ j)) len)) h
      | _ => False
    | _ => False
  | _ => False
theorem spec12_ok (R : Nat → RoRow) : ∀ args h k, spec12 args h k → SafeCall Try.prog R 12 args h k := by
  intro args h k hk
  unfold spec12 at hk
  split at hk
  · rename_i p sc nm
    split at hk
    · rename_i q len u hp
      split at hk
      · rename_i n at_ hq
        obtain ⟨rfl, hat, hk⟩ := hk
        have hpq : p ≠ q := by rintro rfl; rw [hp] at hq; cases hq
        refine (SafeCall.reads (R2 := roStk n fun j => itm (nodeOf (at_ j)) (nameOf (at_ j))) (argsL := [.ptr true 0 0 0, .int .i64 sc, .str nm]) (Q := fun v => v = .bool (inB sc nm (fun j => nameOf (at_ j)) n))
          (fun b => if b = p then some 0 else if b = q then some 1 else none) (fun i => match i with | 0 => some p | 1 => some q | _ + 2 => none) ?_ ?_ ?_ (safe12 sc nm n _ _) (fun v hv => by rw [hv]; rfl)).mono ?_
        · intro b i hb
          by_cases h1 : b = p
          · simp [h1] at hb; subst hb; rw [h1]
          · by_cases h2 : b = q
            · simp [h1, h2] at hb
              have : ¬ q = p := fun e => hpq e.symm
              simp [this] at hb; subst hb; rw [h2]
            · simp [h1, h2] at hb
        · intro i
          match i with
          | 0 =>
            refine ⟨_, hp, rfl, rfl, Nat.le_refl _, ?_⟩
            intro j e hj he
            have hj0 : j = 0 := by simp [roStk] at hj; omega
            subst hj0
            simp only [Row.get?, List.getElem?_cons_zero, Option.some.injEq] at he
            subst he
            refine ⟨_, rfl, ?_, trivial⟩
            refine ⟨1, ?_, rfl⟩
            have : ¬ q = p := fun e => hpq e.symm
            simp [this]
          | 1 =>
            refine ⟨_, hq, rfl, rfl, Nat.le_refl _, ?_⟩
            intro j e hj he
            simp only [roStk] at hj
            rw [Row.get_gen hj] at he
            simp only [Option.some.injEq] at he
            subst he
            rw [hat j hj]
            exact ⟨_, rfl, ⟨rfl, rfl⟩, ⟨rfl, rfl⟩, trivial⟩
          | i + 2 => rfl
        · refine ⟨?_, ⟨rfl, rfl⟩, ⟨rfl, rfl⟩, trivial⟩
          exact ⟨0, by simp, rfl⟩
        · rintro v h' ⟨rfl, rfl⟩
          exact hk
      · exact hk.elim
    · exact hk.elim
  · exact hk.elim
end Go.Dc.Kb
end
section
set_option linter.unusedVariables false
namespace Go.Dc.Kb
open Go.Proofs Go.RowKit
set_option maxRecDepth 100000
theorem vc10 (R : Nat → RoRow) (Q : AV → Prop) : vcd (envS R) 10000 10 fi10 [] [] (fun v _ => Q v) =
    (AV.nils = AV.nils ∧
    AV.sl false 3 0 1 false = AV.sl false 3 0 1 false ∧
      AV.sl false 6 0 2 false = AV.sl false 6 0 2 false ∧ Q (AV.bool true)) := by kernel_rfl
theorem safe10 (R : Nat → RoRow) : SafeCall Try.prog R 10 [] [] fun v _ => v = .bool true :=
  byVcd (envS_ok R) (f := 10) (fi := fi10) (by kernel_rfl) 10000 (vc10 R (fun v => v = .bool true)) (by repeat' (first | exact rfl | apply And.intro))
noncomputable abbrev env7 (R : Nat → RoRow) : Env Prop := (envS R).addCall 10 isTrue
theorem env7_ok (R : Nat → RoRow) : EnvOK Try.prog (env7 R) id := (envS_ok R).addCall (f := 10) (fi := fi10) (by kernel_rfl) (isTrue_ok (safe10 R))
theorem vc7 (R : Nat → RoRow) (n : Int) (s : List UInt8) (Q : AV → Prop) : vcd (env7 R) 10000 7 fi7 [.int .i64 n, .str s] [] (fun v _ => Q v) = Q (AV.bool true) := by kernel_rfl
theorem safe7 (R : Nat → RoRow) (n : Int) (s : List UInt8) : SafeCall Try.prog R 7 [.int .i64 n, .str s] [] fun v _ => v = .bool true :=
  byVcd (env7_ok R) (f := 7) (fi := fi7) (by kernel_rfl) 10000 (vc7 R n s (fun v => v = .bool true)) rfl
theorem stackNil_walk (n : Int) (s : ByteArray) (w : World) : Calls Try.prog 7 #[.int .i64 n, .string s] w fun e w' => e = .returned (.bool true) ∧ Go.RowKit.Below w.heap.size w w' :=
  (safe7 roNone n s.data.toList).law mapNone _ w (by simp [DenL, Den]) (roNone_ok w)
end Go.Dc.Kb
end
section
set_option linter.unusedVariables false
set_option linter.unusedSimpArgs false
namespace Go.Dc.Kb
open Go.Proofs Go.RowKit
set_option maxRecDepth 100000
noncomputable def loopB (fi : FI) (id : Nat) : Code := match blockOf fi id with | some (.loop b) => b | _ => .skip
noncomputable def lp3 : Code := loopB fi3 0
theorem blk3 : blockOf fi3 0 = some (.loop lp3) := by kernel_rfl
abbrev roNames (ty n : Nat) (S : Nat → List UInt8) : Nat → RoRow := roL ty 1 n fun j => .str (S j)
def tmF (n : Nat) (nm : List UInt8) (k : Int) : List AV := [.sl true 0 0 n .no, .str nm, .any, .any, .bool false, .ptr false 0 0 0, .int .i64 k] ++ [
  .any, .any, .any, .any, .any, .any, .any, .any, .any, .any, .any, .any, .any, .any, .any, .any, .any, .any, .any, .any, .any, .any, .any, .any, .any, .any, .any, .any,
  .any, .any, .any, .any, .any, .any, .any, .any, .any, .any, .any, .any, .any, .any, .any, .any, .any, .any, .any, .any, .any, .any, .any, .any, .any, .any, .any, .any]
def rwF (S : Nat → List UInt8) (k : Nat) : Rows := [some (.lst 26 1 [.agg [.sl false 1 0 k .no]]), some (.gen 29 2 k fun j => itm (j : Nat) (S j))]
def fam3 (n : Nat) (nm : List UInt8) (S : Nat → List UInt8) (k : Nat) : St := ⟨tmF n nm (k : Nat), rwF S k⟩
noncomputable abbrev envA (R : Nat → RoRow) : Env Prop := ((base R).addCall 12 spec12).addCall 10 isTrue
theorem envA_ok (R : Nat → RoRow) : EnvOK Try.prog (envA R) id :=
  ((base_ok R).addCall (f := 12) (fi := fi12) (by kernel_rfl) (spec12_ok R)).addCall (f := 10) (fi := fi10) (by kernel_rfl) (isTrue_ok (safe10 R))
theorem vr3 (ty n k : Nat) (nm : List UInt8) (S : Nat → List UInt8) (Q : Exit → St → Prop) : rnd (envA (roNames ty n S)) 10000 3 lp3 (fam3 n nm S k) Q =
    (bif decide ((↑k : Int) < (↑n : Int)) then
    bif decide ((↑k : Int) < 500) then
      bif true && decide ((↑k : Int) < (↑n : Int)) then
        bif decide (0 + (↑k : Int).toNat < ((envA (roNames ty n S)).R 0).n) then
          AV.sl false 1 0 k Cp.no = AV.sl false 1 0 k Cp.no ∧
            bif
                decide (0 + k ≤ k) &&
                  (true &&
                    (true &&
                      decide
                        (((Src.gen k fun j => itm (↑(0 + j) : Int) (S (0 + j))).len + 1) * 24 ≤ 140737488355328))) then
              Q Exit.normal
                (St.mk
                  [AV.sl true 0 0 n Cp.no, AV.str nm, AV.any, AV.any, AV.bool false, AV.ptr false 0 0 0,
                    AV.int IntKind.i64 (IntKind.i64.wrap ((↑k : Int) + 1)), AV.any, AV.any, AV.any, AV.any, AV.any,
                    AV.any, AV.int IntKind.i64 (↑k : Int), AV.sl true 0 0 n Cp.no, AV.int IntKind.i64 (↑n : Int),
                    AV.bool (decide ((↑k : Int) < (↑n : Int))), AV.bool true, AV.int IntKind.i64 (↑k : Int),
                    AV.bool (decide ((↑k : Int) < 500)), AV.bool true, AV.int IntKind.i64 (↑k : Int),
                    AV.int IntKind.i64 (IntKind.i64.wrap ((↑k : Int) + 1)), AV.int IntKind.i64 (↑k : Int),
                    AV.sl true 0 0 n Cp.no, AV.int IntKind.i64 (↑k : Int), AV.ptr true 0 (0 + (↑k : Int).toNat) 0,
                    AV.str (S (0 + (↑k : Int).toNat)),
                    AV.agg [AV.int IntKind.i64 (↑k : Int), AV.str (S (0 + (↑k : Int).toNat))], AV.tup [], AV.any,
                    AV.any, AV.any, AV.any, AV.any, AV.any, AV.any, AV.any, AV.any, AV.any, AV.any, AV.any, AV.any,
                    AV.any, AV.any, AV.any, AV.any, AV.any, AV.any, AV.any, AV.any, AV.any, AV.any, AV.any, AV.any,
                    AV.any, AV.any, AV.any, AV.any, AV.any, AV.any, AV.any, AV.any]
                  [some
                      (Row.lst 26 1
                        [AV.agg
                            [AV.sl false 4 0 ((Src.gen k fun j => itm (↑(0 + j) : Int) (S (0 + j))).len + 1) Cp.no]]),
                    none,
                    some (Row.lst 29 2 [AV.agg [AV.int IntKind.i64 (↑k : Int), AV.str (S (0 + (↑k : Int).toNat))]]),
                    some (Row.lst 29 2 [AV.agg [AV.int IntKind.i64 (↑k : Int), AV.str (S (0 + (↑k : Int).toNat))]]),
                    some
                      (Row.gen 29 2 ((Src.gen k fun j => itm (↑(0 + j) : Int) (S (0 + j))).len + 1) fun j =>
                        bif j.blt (Src.gen k fun j => itm (↑(0 + j) : Int) (S (0 + j))).len then
                          AV.agg [AV.int IntKind.i64 (↑(0 + j) : Int), AV.str (S (0 + j))]
                        else
                          (Src.lst [AV.agg [AV.int IntKind.i64 (↑k : Int), AV.str (S (0 + (↑k : Int).toNat))]]).at_
                            (j - (Src.gen k fun j => itm (↑(0 + j) : Int) (S (0 + j))).len))])
            else False
        else False
      else False
    else
      Q (Exit.exit 0)
        (St.mk
          [AV.sl true 0 0 n Cp.no, AV.str nm, AV.any, AV.any, AV.bool false, AV.ptr false 0 0 0,
            AV.int IntKind.i64 (↑k : Int), AV.any, AV.any, AV.any, AV.any, AV.any, AV.any,
            AV.int IntKind.i64 (↑k : Int), AV.sl true 0 0 n Cp.no, AV.int IntKind.i64 (↑n : Int),
            AV.bool (decide ((↑k : Int) < (↑n : Int))), AV.bool true, AV.int IntKind.i64 (↑k : Int),
            AV.bool (decide ((↑k : Int) < 500)), AV.bool false, AV.any, AV.any, AV.any, AV.any, AV.any, AV.any, AV.any,
            AV.any, AV.any, AV.any, AV.any, AV.any, AV.any, AV.any, AV.any, AV.any, AV.any, AV.any, AV.any, AV.any,
            AV.any, AV.any, AV.any, AV.any, AV.any, AV.any, AV.any, AV.any, AV.any, AV.any, AV.any, AV.any, AV.any,
            AV.any, AV.any, AV.any, AV.any, AV.any, AV.any, AV.any, AV.any, AV.any]
          [some (Row.lst 26 1 [AV.agg [AV.sl false 1 0 k Cp.no]]), some (Row.gen 29 2 k fun j => itm (↑j : Int) (S j))])
  else
    Q (Exit.exit 0)
      (St.mk
        [AV.sl true 0 0 n Cp.no, AV.str nm, AV.any, AV.any, AV.bool false, AV.ptr false 0 0 0,
          AV.int IntKind.i64 (↑k : Int), AV.any, AV.any, AV.any, AV.any, AV.any, AV.any, AV.int IntKind.i64 (↑k : Int),
          AV.sl true 0 0 n Cp.no, AV.int IntKind.i64 (↑n : Int), AV.bool (decide ((↑k : Int) < (↑n : Int))),
          AV.bool false, AV.tup [], AV.tup [], AV.bool false, AV.any, AV.any, AV.any, AV.any, AV.any, AV.any, AV.any,
          AV.any, AV.any, AV.any, AV.any, AV.any, AV.any, AV.any, AV.any, AV.any, AV.any, AV.any, AV.any, AV.any,
          AV.any, AV.any, AV.any, AV.any, AV.any, AV.any, AV.any, AV.any, AV.any, AV.any, AV.any, AV.any, AV.any,
          AV.any, AV.any, AV.any, AV.any, AV.any, AV.any, AV.any, AV.any, AV.any]
        [some (Row.lst 26 1 [AV.agg [AV.sl false 1 0 k Cp.no]]), some (Row.gen 29 2 k fun j => itm (↑j : Int) (S j))])) := by kernel_rfl
def st3 (n : Nat) (nm : List UInt8) : St := St.mk [AV.sl true 0 0 n Cp.no, AV.str nm, AV.tup [], AV.tup [], AV.bool false, AV.ptr false 0 0 0,
          AV.int IntKind.i64 0, AV.tup [], AV.tup [], AV.tup [], AV.tup [], AV.bool true, AV.bool false, AV.tup [],
          AV.tup [], AV.tup [], AV.tup [], AV.tup [], AV.tup [], AV.tup [], AV.tup [], AV.tup [], AV.tup [], AV.tup [],
          AV.tup [], AV.tup [], AV.tup [], AV.tup [], AV.tup [], AV.tup [], AV.tup [], AV.tup [], AV.tup [], AV.tup [],
          AV.tup [], AV.tup [], AV.tup [], AV.tup [], AV.tup [], AV.tup [], AV.tup [], AV.tup [], AV.tup [], AV.tup [],
          AV.tup [], AV.tup [], AV.tup [], AV.tup [], AV.tup [], AV.tup [], AV.tup [], AV.tup [], AV.tup [], AV.tup [],
          AV.tup [], AV.tup [], AV.tup [], AV.tup [], AV.tup [], AV.tup [], AV.tup [], AV.tup [], AV.tup []]
        [some (Row.lst 26 1 [AV.agg [AV.nils]])]
def CK (S : Nat → List UInt8) (m : Nat) : Prop := ∀ j : Nat, j < m → itm (j : Nat) (S j) = itm (nodeOf (itm (j : Nat) (S j))) (nameOf (itm (j : Nat) (S j)))
def IB (S : Nat → List UInt8) (nm : List UInt8) (m : Nat) (sc : Int) : Bool := inB sc nm (fun j => nameOf (itm (j : Nat) (S j))) m
noncomputable abbrev envL (ty n m : Nat) (nm : List UInt8) (S : Nat → List UInt8) (S0 : St) : Env Prop := (envA (roNames ty n S)).addLoop 3 0 (fun st k => st = S0 ∧ k .normal (fam3 n nm S m))
theorem vc3 (ty n m : Nat) (nm : List UInt8) (S : Nat → List UInt8) (S0 : St) (Q : AV → Prop) : vcd ((envA (roNames ty n S)).addLoop 3 0 (fun st k => st = S0 ∧ k .normal (fam3 n nm S m))) 10000 3 fi3 [.sl true 0 0 n .no, .str nm] [] (fun v _ => Q v) =
    (St.mk
        [AV.sl true 0 0 n Cp.no, AV.str nm, AV.tup [], AV.tup [], AV.bool false, AV.ptr false 0 0 0,
          AV.int IntKind.i64 0, AV.tup [], AV.tup [], AV.tup [], AV.tup [], AV.bool true, AV.bool false, AV.tup [],
          AV.tup [], AV.tup [], AV.tup [], AV.tup [], AV.tup [], AV.tup [], AV.tup [], AV.tup [], AV.tup [], AV.tup [],
          AV.tup [], AV.tup [], AV.tup [], AV.tup [], AV.tup [], AV.tup [], AV.tup [], AV.tup [], AV.tup [], AV.tup [],
          AV.tup [], AV.tup [], AV.tup [], AV.tup [], AV.tup [], AV.tup [], AV.tup [], AV.tup [], AV.tup [], AV.tup [],
          AV.tup [], AV.tup [], AV.tup [], AV.tup [], AV.tup [], AV.tup [], AV.tup [], AV.tup [], AV.tup [], AV.tup [],
          AV.tup [], AV.tup [], AV.tup [], AV.tup [], AV.tup [], AV.tup [], AV.tup [], AV.tup [], AV.tup []]
        [some (Row.lst 26 1 [AV.agg [AV.nils]])] =
      S0 ∧
    m = m ∧
      CK S m ∧
        m = m ∧
          CK S m ∧
            m = m ∧
              CK S m ∧
                m = m ∧
                  CK S m ∧
                    bif !IB S nm m 1 then
                      bif !IB S nm m 2 then
                        bif !IB S nm m 0 then
                          m = m ∧
                            CK S m ∧
                              Q
                                (AV.bool
                                  (IB S nm m 99 ==
                                    IB S nm m 0))
                        else
                          bif IB S nm m 3 then
                            m = m ∧
                              CK S m ∧
                                Q
                                  (AV.bool
                                    (IB S nm m 99 ==
                                      IB S nm m 0))
                          else Q (AV.bool false)
                      else
                        bif IB S nm m 0 then
                          bif !IB S nm m 0 then
                            m = m ∧
                              CK S m ∧
                                Q
                                  (AV.bool
                                    (IB S nm m 99 ==
                                      IB S nm m 0))
                          else
                            bif IB S nm m 3 then
                              m = m ∧
                                CK S m ∧
                                  Q
                                    (AV.bool
                                      (IB S nm m 99 ==
                                        IB S nm m 0))
                            else Q (AV.bool false)
                        else Q (AV.bool false)
                    else
                      bif IB S nm m 0 then
                        bif !IB S nm m 2 then
                          bif !IB S nm m 0 then
                            m = m ∧
                              CK S m ∧
                                Q
                                  (AV.bool
                                    (IB S nm m 99 ==
                                      IB S nm m 0))
                          else
                            bif IB S nm m 3 then
                              m = m ∧
                                CK S m ∧
                                  Q
                                    (AV.bool
                                      (IB S nm m 99 ==
                                        IB S nm m 0))
                            else Q (AV.bool false)
                        else
                          bif IB S nm m 0 then
                            bif !IB S nm m 0 then
                              m = m ∧
                                CK S m ∧
                                  Q
                                    (AV.bool
                                      (IB S nm m 99 ==
                                        IB S nm m 0))
                            else
                              bif IB S nm m 3 then
                                m = m ∧
                                  CK S m ∧
                                    Q
                                      (AV.bool
                                        (IB S nm m 99 ==
                                          IB S nm m 0))
                              else Q (AV.bool false)
                          else Q (AV.bool false)
                      else Q (AV.bool false)) := by kernel_rfl
def vw3 : Nat → Option Nat := fun c => match c with | 0 => some 0 | 1 => some 4 | _ + 2 => none
def vw3a : Nat → Option Nat := fun c => match c with | 0 => some 0 | _ + 1 => none
def vw3b : Nat → Option Nat := fun c => match c with | 0 => some 0 | 1 => some 1 | _ + 2 => none
theorem inj2 {a : Nat} (h0 : a ≠ 0) (c c' b : Nat) (f : Nat → Option Nat) (hf : f = fun c => match c with | 0 => some 0 | 1 => some a | _ + 2 => none) (h : f c = some b) (h' : f c' = some b) : c = c' := by
  subst hf
  match c, c' with
  | 0, 0 => rfl
  | 1, 1 => rfl
  | 0, 1 => simp at h h'; omega
  | 1, 0 => simp at h h'; omega
  | _ + 2, _ => simp at h
  | 0, _ + 2 => simp at h'
  | 1, _ + 2 => simp at h'
theorem cap24 {k : Nat} (h : k < 500) : (decide (0 + k ≤ k) && (true && (true && decide ((k + 1) * 24 ≤ 140737488355328)))) = true := by simp; omega
theorem subs_loop (b : Code) : subs b = subs (.loop b) := rfl
theorem byRnd {E : Env Prop} (hE : EnvOK Try.prog E id) {f : FuncId} {fi : FI} (hF : E.F f = some fi) {i : Nat} {c : Code} (hb : blockOf fi i = some (.loop c)) {st : St} {k : Exit → St → Prop} (n : Nat) {X : Prop} (e : rnd E n f c st k = X) (hX : X) : Safe Try.prog E.R c st k :=
  Safe.rnd mixed hE hF hb (subs_loop c) n (e.symm ▸ hX)
theorem loop3 (ty n : Nat) (nm : List UInt8) (S : Nat → List UInt8) {Q : Exit → St → Prop} (h : Q .normal (fam3 n nm S (min n 500))) :
    Safe Try.prog (envA (roNames ty n S)).R (.block 0 (.loop lp3)) (st3 n nm) Q := by
  refine (loop_block (I := {k : Nat // k ≤ min n 500}) (fam := fun k => fam3 n nm S k.1) (fun k => 500 - k.1) (X := fun e stE => e = .exit 0 ∧ stE = fam3 n nm S (min n 500)) (i0 := ⟨0, Nat.zero_le _⟩) (f := vw3a) ?_ ?_ ?_ ?_).mono ?_
  · refine ⟨View.of ?_ ?_, ?_⟩
    · intro c o ho
      match c with
      | 0 =>
        cases ho
        exact ViewL.at_ (b := 0) rfl rfl (.lst1 rfl (.aggI (.cons (.slN (by simp [fam3, rwF]) rfl) .nil)))
      | 1 =>
        cases ho
        exact ViewL.void rfl rfl
      | c + 2 => simp [fam3, rwF] at ho
    · intro c c' b _ _ h1 h2
      match c, c' with
      | 0, 0 => rfl
      | 0, _ + 1 => simp [vw3a] at h2
      | _ + 1, _ => simp [vw3a] at h1
    · simp only [fam3, tmF, st3, List.cons_append, List.nil_append]
      repeat' (first | with_reducible exact VwL.nil | with_reducible refine VwL.cons ?_ ?_ | with_reducible exact Vw.anyI | with_reducible exact Vw.strI | with_reducible exact Vw.boolI | with_reducible exact Vw.intI | exact Vw.gndI rfl | exact Vw.ptrI (by simp [rwF]) rfl)
  · intro c hc
    have : c = 0 := by simp [st3] at hc; omega
    subst this; rfl
  · intro i; simp [fam3, rwF, st3]
  · rintro ⟨k, hk⟩
    refine byRnd (envA_ok (roNames ty n S)) (f := 3) (fi := fi3) (by kernel_rfl) blk3 10000 (vr3 ty n k nm S _) ?_
    have done : ∀ ts : List AV, VwL vw3b 2 (tmF n nm (k : Nat)) ts → ¬ (k < n ∧ k < 500) → ∃ stE, Fit (st3 n nm).rows.length stE (St.mk ts (rwF S k)) ∧ (Exit.exit 0 = Exit.exit 0 ∧ stE = fam3 n nm S (min n 500)) := by
      intro ts hts hd
      have hk2 : k = min n 500 := by omega
      refine ⟨fam3 n nm S k, ⟨vw3b, ⟨View.of ?_ ?_, hts⟩, ?_, ?_⟩, rfl, by rw [← hk2]⟩
      · intro c o ho
        match c with
        | 0 =>
          cases ho
          exact ViewL.at_ (b := 0) rfl rfl (.lst1 rfl (.aggI (.cons (.slI (by simp [fam3, rwF]) rfl) .nil)))
        | 1 =>
          cases ho
          exact ViewL.at_ (b := 1) rfl rfl (.gen rfl fun j _ => ⟨rfl, gnd_vw _ _ _ rfl⟩)
        | c + 2 => simp [fam3, rwF] at ho
      · intro c c' b _ _ h1 h2
        exact inj2 (a := 1) (by omega) c c' b vw3b rfl h1 h2
      · intro c hc
        have : c = 0 := by simp [st3] at hc; omega
        subst this; rfl
      · simp [fam3, rwF, st3]
    refine hcond (fun h1 => ?_) (fun h1 => ?_)
    · have h1 : k < n := by simpa using h1
      refine hcond (fun h2 => ?_) (fun h2 => ?_)
      · have h2 : k < 500 := by have := of_decide_eq_true h2; omega
        refine hcond (fun _ => ?_) (fun h3 => by exfalso; simp at h3; omega)
        refine hcond (fun _ => ?_) (fun h3 => by exfalso; have h4 : ¬ (0 + (k : Int).toNat < n) := of_decide_eq_false h3; simp at h4; omega)
        refine ⟨rfl, ?_⟩
        refine hcond (fun _ => ?_) (fun h3 => absurd ((cap24 h2).symm.trans h3) (by simp))
        refine ⟨⟨k + 1, by omega⟩, by show 500 - (k + 1) < 500 - k; omega, vw3, ⟨View.of ?_ ?_, ?_⟩, ?_, ?_⟩
        · intro c o ho
          match c with
          | 0 =>
            cases ho
            exact ViewL.at_ (b := 0) rfl rfl (.lst1 rfl (.aggI (.cons (.slI (by simp [fam3, rwF]) rfl) .nil)))
          | 1 =>
            cases ho
            refine ViewL.at_ (b := 4) rfl rfl (.gen rfl fun j hj => ?_)
            have hj : j < k + 1 := hj
            have e : (bif j.blt (Src.gen k fun j => itm (↑(0 + j) : Int) (S (0 + j))).len then AV.agg [AV.int IntKind.i64 (↑(0 + j) : Int), AV.str (S (0 + j))]
                else (Src.lst [AV.agg [AV.int IntKind.i64 (↑k : Int), AV.str (S (0 + (↑k : Int).toNat))]]).at_ (j - (Src.gen k fun j => itm (↑(0 + j) : Int) (S (0 + j))).len)) = itm (j : Nat) (S j) := by
              by_cases hjk : j < k
              · have : j.blt k = true := by rw [Nat.blt_eq]; exact hjk
                simp [Src.len, this, itm]
              · have : j = k := by omega
                subst this
                have : j.blt j = false := by rw [Bool.eq_false_iff]; intro h; rw [Nat.blt_eq] at h; omega
                simp [Src.len, this, Src.at_, itm]
            rw [e]
            exact ⟨rfl, gnd_vw _ _ _ rfl⟩
          | c + 2 => simp [fam3, rwF] at ho
        · intro c c' b _ _ h1 h2
          exact inj2 (a := 4) (by omega) c c' b vw3 rfl h1 h2
        · have hw : IntKind.i64.wrap ((k : Int) + 1) = ((k + 1 : Nat) : Int) := by
            rw [wrap64_small (by omega) (by omega)]; omega
          simp only [fam3, tmF, List.cons_append, List.nil_append]
          repeat' (first | with_reducible exact VwL.nil | with_reducible refine VwL.cons ?_ ?_ | with_reducible exact Vw.anyI | with_reducible exact Vw.strI | with_reducible exact Vw.boolI | with_reducible exact Vw.intE hw | exact Vw.gndI rfl | exact Vw.ptrI (by simp [rwF]) rfl)
        · intro c hc
          have : c = 0 := by simp [st3] at hc; omega
          subst this; rfl
        · simp [fam3, rwF, st3]
      · have h2 : ¬ k < 500 := by have := of_decide_eq_false h2; omega
        refine done _ ?_ (by omega)
        simp only [tmF, List.cons_append, List.nil_append]
        repeat' (first | with_reducible exact VwL.nil | with_reducible refine VwL.cons ?_ ?_ | with_reducible exact Vw.anyI | with_reducible exact Vw.strI | with_reducible exact Vw.boolI | with_reducible exact Vw.intI | exact Vw.gndI rfl | exact Vw.ptrI (by simp) rfl)
    · have h1 : ¬ k < n := by have := of_decide_eq_false h1; omega
      refine done _ ?_ (by omega)
      simp only [tmF, List.cons_append, List.nil_append]
      repeat' (first | with_reducible exact VwL.nil | with_reducible refine VwL.cons ?_ ?_ | with_reducible exact Vw.anyI | with_reducible exact Vw.strI | with_reducible exact Vw.boolI | with_reducible exact Vw.intI | exact Vw.gndI rfl | exact Vw.ptrI (by simp) rfl)
  · rintro e stE ⟨e0, rfl, rfl, rfl⟩
    exact h
theorem end3 (ty n : Nat) (nm : List UInt8) (S : Nat → List UInt8) : EnvOK Try.prog (envL ty n (min n 500) nm S (st3 n nm)) id :=
  (envA_ok (roNames ty n S)).addLoop (f := 3) (fi := fi3) (by kernel_rfl) (body := .loop lp3) blk3 (by
    rintro st k ⟨rfl, hk⟩
    exact loop3 ty n nm S hk)
theorem CK_ok (S : Nat → List UInt8) (m : Nat) : CK S m := fun _ _ => rfl
/-- What ends one scope ends a narrower one. -/
theorem ends_mono {a b : Int} (ha : (a != 3) = true → (b != 3) = true) (h1 : (a == 1) = true → (b == 1) = true) (h2 : (a == 2) = true → (b == 2) = true) (s : List UInt8) : endsB a s = true → endsB b s = true := by
  have c : ∀ (c x y x' y' : Bool), (x = true → x' = true) → (y = true → y' = true) → (bif c then x else y) = true → (bif c then x' else y') = true := by
    intro c x y x' y' hx hy
    cases c
    · exact hy
    · exact hx
  unfold endsB
  exact c _ _ _ _ _ id (c _ _ _ _ _ id (c _ _ _ _ _ id (c _ _ _ _ _ ha (c _ _ _ _ _ ha (c _ _ _ _ _ ha (c _ _ _ _ _ ha (c _ _ _ _ _ ha (c _ _ _ _ _ ha (c _ _ _ _ _ h1 (c _ _ _ _ _ h1 (c _ _ _ _ _ h2 id)))))))))))
theorem in_mono {a b : Int} (h : ∀ s, endsB b s = true → endsB a s = true) (nm : List UInt8) (F : Nat → List UInt8) : ∀ n, inB a nm F n = true → inB b nm F n = true
  | 0, hh => by simp [inB, outF] at hh
  | n + 1, hh => by
    simp only [inB, outF] at hh ⊢
    cases h1 : (F n == nm) with
    | true => rfl
    | false =>
      rw [h1] at hh
      simp only [cond_false] at hh ⊢
      cases h2 : endsB b (F n) with
      | true => rw [h (F n) h2] at hh; simp at hh
      | false =>
        simp only [cond_false]
        cases h3 : endsB a (F n) with
        | true => rw [h3] at hh; simp at hh
        | false => rw [h3] at hh; exact in_mono h nm F n hh
theorem safe3 (ty n : Nat) (nm : List UInt8) (S : Nat → List UInt8) : SafeCall Try.prog (roNames ty n S) 3 [.sl true 0 0 n .no, .str nm] [] fun v _ => v = .bool true := by
  refine byVcd (E := envL ty n (min n 500) nm S (st3 n nm)) (end3 ty n nm S) (f := 3) (fi := fi3) (by kernel_rfl) 10000 (vc3 ty n (min n 500) nm S (st3 n nm) (fun v => v = .bool true)) ?_
  have hl : IB S nm (min n 500) 1 = true → IB S nm (min n 500) 0 = true := in_mono (fun s => ends_mono (by decide) (by decide) (by decide) s) _ _ _
  have hb : IB S nm (min n 500) 2 = true → IB S nm (min n 500) 0 = true := in_mono (fun s => ends_mono (by decide) (by decide) (by decide) s) _ _ _
  have hu : IB S nm (min n 500) 0 = true → IB S nm (min n 500) 3 = true := in_mono (fun s => ends_mono (by decide) (by decide) (by decide) s) _ _ _
  have h9 : IB S nm (min n 500) 99 = true → IB S nm (min n 500) 0 = true := in_mono (fun s => ends_mono (by decide) (by decide) (by decide) s) _ _ _
  have h9' : IB S nm (min n 500) 0 = true → IB S nm (min n 500) 99 = true := in_mono (fun s => ends_mono (by decide) (by decide) (by decide) s) _ _ _
  have hck := CK_ok S (min n 500)
  refine ⟨rfl, rfl, hck, rfl, hck, rfl, hck, rfl, hck, ?_⟩
  revert hl hb hu h9 h9'
  cases IB S nm (min n 500) 0 <;> cases IB S nm (min n 500) 1 <;> cases IB S nm (min n 500) 2 <;> cases IB S nm (min n 500) 3 <;> cases IB S nm (min n 500) 99 <;> intro hl hb hu h9 h9' <;> simp at hl hb hu h9 h9' <;> simp <;> exact hck
theorem walk_nil (nm : ByteArray) (w : World) : Calls Try.prog 3 #[.slice none 0 0, .string nm] w fun e w' => e = .returned (.bool true) ∧ Go.RowKit.Below w.heap.size w w' := by
  obtain ⟨ty, m, hro, hd⟩ := nilArg w (fun j => .str [])
  exact (safe3 ty 0 nm.data.toList (fun _ => [])).law m _ w (by simp only [DenL]; exact ⟨_, _, rfl, hd, _, _, rfl, by simp [Den], rfl⟩) hro
theorem walk_list (a : Addr) (len cap : Nat) (ss : List ByteArray) (nm : ByteArray) (w : World) (hl : len ≤ cap) (hm : cap ≤ maxLen) (hcell : ∀ i, i < cap → w.cell? (a.add i) = some (.string (ss.getD i ByteArray.empty))) :
    Calls Try.prog 3 #[.slice (some a) len cap, .string nm] w fun e w' => e = .returned (.bool true) ∧ Go.RowKit.Below w.heap.size w w' := by
  obtain ⟨ty, m, hro, hd⟩ := listArg w a len cap (fun j => .str (ss.getD j ByteArray.empty).data.toList) (fun j => .string (ss.getD j ByteArray.empty)) hl hm (fun _ => rfl) (fun m n i => by simp [Den]) hcell
  exact (safe3 ty len nm.data.toList (fun j => (ss.getD j ByteArray.empty).data.toList)).law m _ w (by simp only [DenL]; exact ⟨_, _, rfl, hd, _, _, rfl, by simp [Den], rfl⟩) hro
end Go.Dc.Kb
end
