/- stack.In: is an element of a name in a scope? What it answers of any stack. -/
import Derived.Test.YtlhplhncdljicaaBack
import Derived.Test.YtlhplhncdljicaaDcZg
set_option linter.unusedVariables false
set_option linter.unusedSimpArgs false
namespace Go.Dc.Kb
open Go.Proofs Go.RowKit
set_option maxRecDepth 100000

/-- A stack and its items, as memory that is only read. -/
def roStk (len : Nat) (at_ : Nat → AV) : Nat → RoRow := fun i => match i with
  | 0 => ⟨26, 1, 1, fun _ => .agg [.sl true 1 0 len .no]⟩
  | 1 => ⟨29, 2, len, at_⟩
  | _ + 2 => ⟨0, 0, 0, fun _ => .undef⟩
def itm (n : Int) (s : List UInt8) : AV := .agg [.int .i64 n, .str s]
noncomputable def as12 : Code := rgA fi12 0
noncomputable def bo12 : Code := rgB fi12 0
theorem blk12 : blockOf fi12 0 = some (.rangeFunc (.tmp 15) #[16, 17] as12 bo12) := by kernel_rfl
/-- The state at the range: t16, t17 are the round's. -/
def tmIn (sc : Int) (nm : List UInt8) (len : Nat) (i x : AV) : List AV :=
  [AV.ptr true 0 0 0, AV.int IntKind.i64 sc, AV.str nm, AV.tup [], AV.ptr false 0 0 0, AV.ptr false 1 0 0,
        AV.ptr false 2 0 0, AV.tup [], AV.tup [], AV.ptr true 0 0 0, AV.bool false, AV.ptr true 0 0 0,
        AV.ptr true 0 0 0, AV.ptr true 0 0 0, AV.sl true 1 0 len Cp.no, AV.fn 63 [] [AV.ptr false 3 0 0], i,
        x, AV.tup [], AV.tup [], AV.tup [], AV.tup [], AV.tup [], AV.tup [], AV.tup [], AV.tup []]
def rwIn (sc : Int) (nm : List UInt8) (len : Nat) (b : Bool) (bx : Option Row) : Rows :=
  [some (Row.lst 3 1 [AV.int IntKind.i64 sc]), some (Row.lst 9 1 [AV.str nm]), some (Row.lst 4 1 [AV.bool b]), bx]
def bxIn (len : Nat) : Option Row := some (Row.lst 24 1 [AV.sl true 1 0 len Cp.no])
def stIn (sc : Int) (nm : List UInt8) (len : Nat) : St := ⟨tmIn sc nm len (.tup []) (.tup []), rwIn sc nm len false (bxIn len)⟩
/-- Does an element end a scope? -/
def endsB (sc : Int) (s : List UInt8) : Bool :=
  bif s == [104, 116, 109, 108] then true else bif s == [116, 97, 98, 108, 101] then true else bif s == [116, 101, 109, 112, 108, 97, 116, 101] then true
  else bif s == [116, 100] then sc != 3 else bif s == [116, 104] then sc != 3 else bif s == [99, 97, 112, 116, 105, 111, 110] then sc != 3
  else bif s == [109, 97, 114, 113, 117, 101, 101] then sc != 3 else bif s == [111, 98, 106, 101, 99, 116] then sc != 3 else bif s == [97, 112, 112, 108, 101, 116] then sc != 3
  else bif s == [111, 108] then sc == 1 else bif s == [117, 108] then sc == 1 else bif s == [98, 117, 116, 116, 111, 110] then sc == 2 else false
def spec47 : CallSpec := fun args h k => match args with
  | [.int .i64 sc, .str s] => k (.bool (endsB sc s)) h
  | _ => False
theorem vc47 (R : Nat → RoRow) (sc : Int) (s : List UInt8) (Q : AV → Prop) : vcd (base R) 10000 47 fi47 [.int .i64 sc, .str s] [] (fun v _ => Q v) =
    (bif s == [104, 116, 109, 108] then Q (AV.bool true)
  else
    bif s == [116, 97, 98, 108, 101] then Q (AV.bool true)
    else
      bif s == [116, 101, 109, 112, 108, 97, 116, 101] then Q (AV.bool true)
      else
        bif s == [116, 100] then Q (AV.bool (sc != 3))
        else
          bif s == [116, 104] then Q (AV.bool (sc != 3))
          else
            bif s == [99, 97, 112, 116, 105, 111, 110] then Q (AV.bool (sc != 3))
            else
              bif s == [109, 97, 114, 113, 117, 101, 101] then Q (AV.bool (sc != 3))
              else
                bif s == [111, 98, 106, 101, 99, 116] then Q (AV.bool (sc != 3))
                else
                  bif s == [97, 112, 112, 108, 101, 116] then Q (AV.bool (sc != 3))
                  else
                    bif s == [111, 108] then Q (AV.bool (sc == 1))
                    else
                      bif s == [117, 108] then Q (AV.bool (sc == 1))
                      else bif s == [98, 117, 116, 116, 111, 110] then Q (AV.bool (sc == 2)) else Q (AV.bool false)) := by kernel_rfl
theorem condP {Q : AV → Prop} (c x y : Bool) : (bif c then Q (.bool x) else Q (.bool y)) = Q (.bool (bif c then x else y)) := by cases c <;> rfl
theorem safe47 (R : Nat → RoRow) (sc : Int) (s : List UInt8) : SafeCall Try.prog R 47 [.int .i64 sc, .str s] [] fun v _ => v = .bool (endsB sc s) := by
  refine byVcd (base_ok R) (f := 47) (fi := fi47) (by kernel_rfl) 10000 (vc47 R sc s (fun v => v = .bool (endsB sc s))) ?_
  have key : ∀ (Q : AV → Prop), Q (.bool (endsB sc s)) → vcd (base R) 10000 47 fi47 [.int .i64 sc, .str s] [] (fun v _ => Q v) := by
    intro Q h
    rw [vc47]
    simp only [condP]
    exact h
  have := key (fun v => v = .bool (endsB sc s)) rfl
  rw [vc47 R sc s (fun v => v = .bool (endsB sc s))] at this
  exact this
theorem spec47_ok (R : Nat → RoRow) : ∀ args h k, spec47 args h k → SafeCall Try.prog R 47 args h k := by
  intro args h k hk
  unfold spec47 at hk
  split at hk
  · rename_i sc s
    refine ((safe47 R sc s).alone rfl (fun v hv => by rw [hv]; rfl) h).mono ?_
    rintro v' h' ⟨rfl, rfl⟩
    exact hk
  · exact hk.elim
noncomputable abbrev envI (R : Nat → RoRow) : Env Prop := (base R).addCall 47 spec47
theorem envI_ok (R : Nat → RoRow) : EnvOK Try.prog (envI R) id := (base_ok R).addCall (f := 47) (fi := fi47) (by kernel_rfl) (spec47_ok R)
theorem vr12 (R : Nat → RoRow) (sc j nd : Int) (nm s : List UInt8) (len : Nat) (Q : Exit → Rows → Prop) : rndR (envI R) 10000 12 as12 bo12 ⟨tmIn sc nm len (.int .i64 j) (itm nd s), rwIn sc nm len false none⟩ (fun e st => Q e st.rows) =
    (bif s == nm then Q .ret (rwIn sc nm len true none ++ [some (Row.lst 29 2 [itm nd s])])
    else bif endsB sc s then Q .ret (rwIn sc nm len false none ++ [some (Row.lst 29 2 [itm nd s])])
    else Q .normal (rwIn sc nm len false none ++ [some (Row.lst 29 2 [itm nd s])])) := by kernel_rfl
theorem hcond {c : Bool} {A B : Prop} (ha : c = true → A) (hb : c = false → B) : cond c A B := by
  cases c
  · exact hb rfl
  · exact ha rfl

/-- What the last so many items say of a scope, the last one first. -/
def outF (sc : Int) (nm : List UInt8) (F : Nat → List UInt8) : Nat → Option Bool
  | 0 => none
  | n + 1 => bif F n == nm then some true else bif endsB sc (F n) then some false else outF sc nm F n
def inB (sc : Int) (nm : List UInt8) (F : Nat → List UInt8) (n : Nat) : Bool := (outF sc nm F n).getD false

theorem loop12 (sc : Int) (nm : List UInt8) (len : Nat) (N : Nat → Int) (F : Nat → List UInt8) {Q : Exit → St → Prop}
    (h : match outF sc nm F len with | some b => Q .ret ⟨tmIn sc nm len (.tup []) (.tup []), rwIn sc nm len b (bxIn len)⟩ | none => Q .normal (stIn sc nm len)) :
    SafeM Try.prog (envI (roStk len fun j => itm (N j) (F j))).R (.block 0 (.rangeFunc (.tmp 15) #[16, 17] as12 bo12)) (stIn sc nm len) Q := by
  refine rangeLoop mixed (envI_ok _) (f := 12) (fun _ => rfl) (gf := 63) (esz := 2) back63 enters63 (fi := fi12) (by kernel_rfl) blk12 (by kernel_rfl) (st := stIn sc nm len) (bx := 3) rfl (rb := .lst 24 1 [AV.sl true 1 0 len Cp.no]) rfl (sv := AV.sl true 1 0 len Cp.no) rfl
    (ds := [3]) (len := len) (els := fun j => itm (N j) (F j)) (by simp) (.inr (.inr ⟨1, 0, .no, rfl, rfl, by simp [roStk, Env.addCall, Env.base], fun j hj => by simp [roStk, Env.addCall, Env.base]⟩))
    (I := fun k rows => outF sc nm F len = outF sc nm F (len - k) ∧ rows = rwIn sc nm len false none)
    (X := fun e rows => e = .ret ∧ ∃ b, outF sc nm F len = some b ∧ rows = rwIn sc nm len b none) ⟨rfl, rfl⟩ 10000 ?_ ?_ ?_
  · rintro k rows hk ⟨ho, rfl⟩
    have e1 := vr12 (roStk len fun j => itm (N j) (F j)) sc ((len - 1 - k : Nat) : Int) (N (len - 1 - k)) nm (F (len - 1 - k)) len
      (fun e rows => ∃ rowsE, (rowsE = rows ∨ FitR 4 rowsE rows) ∧ match e with
        | .normal => outF sc nm F len = outF sc nm F (len - (k + 1)) ∧ rowsE = rwIn sc nm len false none
        | e => e = .ret ∧ ∃ b, outF sc nm F len = some b ∧ rowsE = rwIn sc nm len b none)
    refine e1.symm ▸ ?_
    obtain ⟨q, hq⟩ : ∃ q, len - k = q + 1 := ⟨len - k - 1, by omega⟩
    have hq1 : len - 1 - k = q := by omega
    have hq2 : len - (k + 1) = q := by omega
    rw [hq] at ho
    rw [hq1, hq2]
    simp only [outF] at ho
    refine hcond (fun h1 => ?_) (fun h1 => ?_)
    · rw [h1, cond_true] at ho
      exact ⟨rwIn sc nm len true none, .inr (FitR.pre _ _ rfl (Nat.le_refl _)), rfl, true, ho, rfl⟩
    · rw [h1, cond_false] at ho
      refine hcond (fun h2 => ?_) (fun h2 => ?_)
      · rw [h2, cond_true] at ho
        exact ⟨rwIn sc nm len false none, .inr (FitR.pre _ _ rfl (Nat.le_refl _)), rfl, false, ho, rfl⟩
      · rw [h2, cond_false] at ho
        exact ⟨rwIn sc nm len false none, .inr (FitR.pre _ _ rfl (Nat.le_refl _)), ho, rfl⟩
  · rintro rows ⟨ho, rfl⟩
    rw [Nat.sub_self] at ho
    rw [ho] at h
    exact h
  · rintro e rows ⟨rfl, b, ho, rfl⟩
    rw [ho] at h
    exact h
noncomputable def rl12 (sc : Int) (nm : List UInt8) (len : Nat) (F : Nat → List UInt8) : Nat → Option LoopSp := fun id => match id with
  | 0 => some fun st k => st = stIn sc nm len ∧ match outF sc nm F len with
    | some b => k .ret ⟨tmIn sc nm len (.tup []) (.tup []), rwIn sc nm len b (bxIn len)⟩
    | none => k .normal (stIn sc nm len)
  | _ + 1 => none
theorem vm12 (R : Nat → RoRow) (sc : Int) (nm : List UInt8) (len : Nat) (at_ : Nat → AV) (F : Nat → List UInt8) (Q : AV → Prop) :
    vcm (envI (roStk len at_)) back (rl12 sc nm len F) 10000 12 fi12 [.ptr true 0 0 0, .int .i64 sc, .str nm] [] (fun v _ => Q v) =
    (stIn sc nm len = stIn sc nm len ∧ match outF sc nm F len with | some b => Q (.bool b) | none => Q (.bool false)) := by kernel_rfl
theorem safe12 (sc : Int) (nm : List UInt8) (len : Nat) (N : Nat → Int) (F : Nat → List UInt8) :
    SafeCall Try.prog (roStk len fun j => itm (N j) (F j)) 12 [.ptr true 0 0 0, .int .i64 sc, .str nm] [] fun v _ => v = .bool (inB sc nm F len) := by
  refine SafeCall.vcm (E := envI (roStk len fun j => itm (N j) (F j))) (rl := rl12 sc nm len F) (n := 10000) mixed (envI_ok _) back_ok (fun _ => rfl) ?_ (f := 12) (fi := fi12) (by kernel_rfl) (by kernel_rfl) ?_
  · intro id spec hs body hb st k hk
    cases id with
    | succ i => cases hs
    | zero =>
      simp only [rl12, Option.some.injEq] at hs
      subst hs
      obtain ⟨rfl, hk⟩ := hk
      obtain rfl := blockOf_uniq blk12 (show (0, body) ∈ subs fi12.body from hb)
      exact loop12 sc nm len N F hk
  · refine (vm12 (roStk len fun j => itm (N j) (F j)) sc nm len _ F _).symm ▸ ⟨rfl, ?_⟩
    unfold inB
    cases outF sc nm F len <;> rfl
def nodeOf : AV → Int
  | .agg (.int _ n :: _) => n
  | _ => 0
def nameOf : AV → List UInt8
  | .agg (_ :: .str s :: _) => s
  | _ => []
/-- Of any stack: what it reads is told by its rows. -/
def spec12 : CallSpec := fun args h k => match args with
  | [.ptr false p 0 0, .int .i64 sc, .str nm] => match h.live p with
    | some (.lst 26 1 [.agg [.sl false q 0 len _]]) => match h.live q with
      | some (.gen 29 2 n at_) => n = len ∧ (∀ j, j < len → at_ j = itm (nodeOf (at_ j)) (nameOf (at_ j))) ∧ k (.bool (inB sc nm (fun j => nameOf (at_ j)) len)) h
      | _ => False
    | _ => False
  | _ => False
theorem spec12_ok (R : Nat → RoRow) : ∀ args h k, spec12 args h k → SafeCall Try.prog R 12 args h k := by
  intro args h k hk
  unfold spec12 at hk
  split at hk
  · rename_i p sc nm
    split at hk
    · rename_i q len u hp
      split at hk
      · rename_i n at_ hq
        obtain ⟨rfl, hat, hk⟩ := hk
        have hpq : p ≠ q := by rintro rfl; rw [hp] at hq; cases hq
        refine (SafeCall.reads (R2 := roStk n fun j => itm (nodeOf (at_ j)) (nameOf (at_ j))) (argsL := [.ptr true 0 0 0, .int .i64 sc, .str nm]) (Q := fun v => v = .bool (inB sc nm (fun j => nameOf (at_ j)) n))
          (fun b => if b = p then some 0 else if b = q then some 1 else none) (fun i => match i with | 0 => some p | 1 => some q | _ + 2 => none) ?_ ?_ ?_ (safe12 sc nm n _ _) (fun v hv => by rw [hv]; rfl)).mono ?_
        · intro b i hb
          by_cases h1 : b = p
          · simp [h1] at hb; subst hb; rw [h1]
          · by_cases h2 : b = q
            · simp [h1, h2] at hb
              have : ¬ q = p := fun e => hpq e.symm
              simp [this] at hb; subst hb; rw [h2]
            · simp [h1, h2] at hb
        · intro i
          match i with
          | 0 =>
            refine ⟨_, hp, rfl, rfl, Nat.le_refl _, ?_⟩
            intro j e hj he
            have hj0 : j = 0 := by simp [roStk] at hj; omega
            subst hj0
            simp only [Row.get?, List.getElem?_cons_zero, Option.some.injEq] at he
            subst he
            refine ⟨_, rfl, ?_, trivial⟩
            refine ⟨1, ?_, rfl⟩
            have : ¬ q = p := fun e => hpq e.symm
            simp [this]
          | 1 =>
            refine ⟨_, hq, rfl, rfl, Nat.le_refl _, ?_⟩
            intro j e hj he
            simp only [roStk] at hj
            rw [Row.get_gen hj] at he
            simp only [Option.some.injEq] at he
            subst he
            rw [hat j hj]
            exact ⟨_, rfl, ⟨rfl, rfl⟩, ⟨rfl, rfl⟩, trivial⟩
          | i + 2 => rfl
        · refine ⟨?_, ⟨rfl, rfl⟩, ⟨rfl, rfl⟩, trivial⟩
          exact ⟨0, by simp, rfl⟩
        · rintro v h' ⟨rfl, rfl⟩
          exact hk
      · exact hk.elim
    · exact hk.elim
  · exact hk.elim
end Go.Dc.Kb
