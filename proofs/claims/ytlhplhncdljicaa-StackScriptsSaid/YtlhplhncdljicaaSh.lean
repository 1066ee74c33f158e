/- Stacks: what is asked of lists of items, as memory that is only read: states. -/
import Derived.Test.YtlhplhncdljicaaScopes
import Derived.Test.YtlhplhncdljicaaDcXk
section
set_option linter.unusedVariables false
set_option linter.unusedSimpArgs false
namespace Go.Dc.Kb
open Go.Proofs Go.RowKit
set_option maxRecDepth 100000
noncomputable abbrev bx (R : Nat → RoRow) : EnvX := EnvX.base (lookT tl) (lookF fl) R
theorem bx_ok (R : Nat → RoRow) (ds : List Deferred) (HP : AV → Rows → Fz → Prop) : OKX Try.prog (bx R) ds HP := OKX.base tl_ok fl_ok
abbrev noP : AV → Rows → Fz → Prop := fun _ _ _ => False
noncomputable def rx1 (ty z n : Nat) (G : Nat → AV) : Nat → RoRow := fun i => match i with | 0 => ⟨ty, z, n, G⟩ | i + 1 => RX (i + 1)
noncomputable def rx2 (ty z n : Nat) (G : Nat → AV) (ty' z' n' : Nat) (G' : Nat → AV) : Nat → RoRow := fun i => match i with | 0 => ⟨ty, z, n, G⟩ | 1 => ⟨ty', z', n', G'⟩ | i + 2 => RX (i + 2)
theorem RX_frz (F : Fz) (x : Nat) : FrzC F x (RX (x + 15)) := .inr ⟨rfl, by show (mapX.ro (x + 15)).esz = _; rw [mapX_named]⟩
theorem rk_flat {f : Nat → Option Nat} : ∀ {l : List AV}, l.all flat1 = true → All2 (RkVw f) l l
  | [], _ => trivial
  | x :: l, h => by
    simp only [List.all_cons, Bool.and_eq_true] at h
    refine ⟨?_, rk_flat h.2⟩
    have h1 := h.1
    cases x <;> simp [flat1] at h1 <;> exact ⟨rfl, rfl⟩
theorem rk_flatL {f : Nat → Option Nat} : ∀ {l : List AV}, l.all flat1 = true → All2 (RkVw1 f) l l
  | [], _ => trivial
  | x :: l, h => by
    simp only [List.all_cons, Bool.and_eq_true] at h
    refine ⟨?_, rk_flatL h.2⟩
    have h1 := h.1
    cases x <;> simp [flat1] at h1 <;> exact ⟨rfl, rfl⟩
theorem rk_ref {f : Nat → Option Nat} {x : AV} (h : flat x = true) (hn : ∀ l, x ≠ .tup l) : RkVw f x x := by
  cases x
  case agg cs => exact ⟨cs, rfl, rk_flatL (by simpa [flat] using h)⟩
  case tup cs => exact absurd rfl (hn cs)
  all_goals first | exact ⟨rfl, rfl⟩ | simp [flat, flat1] at h
/-- One list is read. -/
theorem reads1 {R : Nat → RoRow} {fn : FuncId} {rest : List AV} {h : Rows} {F : Fz} {Q : AV → Prop} {HP : AV → Rows → Fz → Prop} {ty z n len q : Nat} {c : Cp} {G G' : Nat → AV} (hq : h.live q = some (.gen ty z n G)) (hl : len ≤ n)
    (hG : ∀ j, j < len → RkVw (fun b => bif Nat.beq b q then some 0 else none) (G j) (G' j)) (hrest : rest.all flat1 = true)
    (hs : SafeCallX Try.prog (rx1 ty z len G') fn (.sl true 0 0 len .no :: rest) [] F (fun v _ _ => Q v) noP) (hg : ∀ v, Q v → flat v = true) :
    SafeCallX Try.prog R fn (.sl false q 0 len c :: rest) h F (fun v h' F' => Q v ∧ h' = h ∧ F' = F) HP := by
  refine SafeCallX.reads (R2 := rx1 ty z len G') (argsL := .sl true 0 0 len .no :: rest) (fun b => bif Nat.beq b q then some 0 else none) (fun i => match i with | 0 => some q | _ + 1 => none) ?_ ?_ (fun x => RX_frz F x) ⟨⟨0, by simp [Nat.beq_refl], rfl⟩, rk_flat hrest⟩ hs (fun _ _ _ h => h) hg
  · intro b i hb
    cases hbq : Nat.beq b q with
    | true => simp only [hbq, cond_true, Option.some.injEq] at hb; subst hb; rw [Nat.eq_of_beq_eq_true hbq]; exact ⟨by omega, rfl⟩
    | false => simp [hbq] at hb
  · intro i hi
    match i with
    | 0 =>
      refine ⟨_, hq, rfl, rfl, hl, fun j e hj he => ?_⟩
      have hj' : j < len := hj
      rw [Row.get_gen (by omega)] at he
      simp only [Option.some.injEq] at he
      subst he
      exact hG j hj'
    | i + 1 => rfl
/-- Two lists are read. -/
theorem reads2 {R : Nat → RoRow} {fn : FuncId} {rest : List AV} {h : Rows} {F : Fz} {Q : AV → Prop} {HP : AV → Rows → Fz → Prop} {ty z n len q : Nat} {c : Cp} {G G' : Nat → AV} {ty2 z2 n2 len2 q2 : Nat} {c2 : Cp} {H H' : Nat → AV} (hne : q ≠ q2) (hq : h.live q = some (.gen ty z n G)) (hl : len ≤ n)
    (hq2 : h.live q2 = some (.gen ty2 z2 n2 H)) (hl2 : len2 ≤ n2)
    (hG : ∀ j, j < len → RkVw (fun b => bif Nat.beq b q then some 0 else bif Nat.beq b q2 then some 1 else none) (G j) (G' j)) (hH : ∀ j, j < len2 → RkVw (fun b => bif Nat.beq b q then some 0 else bif Nat.beq b q2 then some 1 else none) (H j) (H' j)) (hrest : rest.all flat1 = true)
    (hs : SafeCallX Try.prog (rx2 ty z len G' ty2 z2 len2 H') fn (.sl true 0 0 len .no :: .sl true 1 0 len2 .no :: rest) [] F (fun v _ _ => Q v) noP) (hg : ∀ v, Q v → flat v = true) :
    SafeCallX Try.prog R fn (.sl false q 0 len c :: .sl false q2 0 len2 c2 :: rest) h F (fun v h' F' => Q v ∧ h' = h ∧ F' = F) HP := by
  have hb2 : Nat.beq q2 q = false := by rw [Bool.eq_false_iff]; exact fun e => hne (Nat.eq_of_beq_eq_true e).symm
  refine SafeCallX.reads (R2 := rx2 ty z len G' ty2 z2 len2 H') (argsL := .sl true 0 0 len .no :: .sl true 1 0 len2 .no :: rest) (fun b => bif Nat.beq b q then some 0 else bif Nat.beq b q2 then some 1 else none) (fun i => match i with | 0 => some q | 1 => some q2 | _ + 2 => none) ?_ ?_ (fun x => RX_frz F x) ⟨⟨0, by simp [Nat.beq_refl], rfl⟩, ⟨1, by simp [Nat.beq_refl, hb2], rfl⟩, rk_flat hrest⟩ hs (fun _ _ _ h => h) hg
  · intro b i hb
    cases hbq : Nat.beq b q with
    | true => simp only [hbq, cond_true, Option.some.injEq] at hb; subst hb; rw [Nat.eq_of_beq_eq_true hbq]; exact ⟨by omega, rfl⟩
    | false =>
      cases hbq2 : Nat.beq b q2 with
      | true => simp only [hbq, hbq2, cond_true, cond_false, Option.some.injEq] at hb; subst hb; rw [Nat.eq_of_beq_eq_true hbq2]; exact ⟨by omega, rfl⟩
      | false => simp [hbq, hbq2] at hb
  · intro i hi
    match i with
    | 0 =>
      refine ⟨_, hq, rfl, rfl, hl, fun j e hj he => ?_⟩
      have hj' : j < len := hj
      rw [Row.get_gen (by omega)] at he
      simp only [Option.some.injEq] at he
      subst he
      exact hG j hj'
    | 1 =>
      refine ⟨_, hq2, rfl, rfl, hl2, fun j e hj he => ?_⟩
      have hj' : j < len2 := hj
      rw [Row.get_gen (by omega)] at he
      simp only [Option.some.injEq] at he
      subst he
      exact hH j hj'
    | i + 2 => rfl
def IsI (F : Nat → AV) (n : Nat) : Prop := ∀ j, j < n → F j = itm (nodeOf (F j)) (nameOf (F j))
theorem IsI.rk {F : Nat → AV} {n : Nat} (h : IsI F n) (f : Nat → Option Nat) (j : Nat) (hj : j < n) : RkVw f (F j) (itm (nodeOf (F j)) (nameOf (F j))) := by rw [h j hj]; exact rk_ref rfl (fun l e => by cases e)
noncomputable abbrev roS (n : Nat) (S : Nat → List UInt8) : Nat → RoRow := rx1 9 1 n fun j => .str (S j)
noncomputable abbrev roI (n : Nat) (N : Nat → Int) (S : Nat → List UInt8) : Nat → RoRow := rx1 57 2 n fun j => itm (N j) (S j)
noncomputable abbrev roJ (n : Nat) (N : Nat → Int) (S : Nat → List UInt8) : Nat → RoRow := rx2 29 2 n (fun j => itm (N j) (S j)) 57 2 n (fun j => itm (N j) (S j))
def tm56 (n : Nat) (s : List UInt8) (b : Bool) (k : Int) : List AV := [.sl true 0 0 n .no, .str s, .any, .any, .bool b, .int .i64 k, .any, .any, .any, .any, .any, .any, .any, .any, .any, .any, .any, .any]
theorem tm56_spr (n : Nat) (s : List UInt8) (b : Bool) (k : Int) : tm56 n s b k = spr [(0, .sl true 0 0 n .no), (1, .str s), (4, .bool b), (5, .int .i64 k)] 0 18 := by kernel_rfl
def tm24 (n : Nat) (s : List UInt8) (r k : Int) : List AV := [.sl true 0 0 n .no, .str s, .any, .any, .int .i64 r, .int .i64 k, .any, .any, .any, .any, .any, .any, .any, .any, .any, .any, .any, .any, .any, .any]
theorem tm24_spr (n : Nat) (s : List UInt8) (r k : Int) : tm24 n s r k = spr [(0, .sl true 0 0 n .no), (1, .str s), (4, .int .i64 r), (5, .int .i64 k)] 0 20 := by kernel_rfl
def tm28 (n : Nat) (s : List UInt8) (k : Int) : List AV := [.sl true 0 0 n .no, .str s, .any, .any, .any, .int .i64 k, .any, .any, .any, .any, .any, .any, .any, .any, .any, .any, .any, .any, .any, .any, .any, .any, .any, .any, .any, .any, .any, .any, .any, .any, .any, .any, .any]
theorem tm28_spr (n : Nat) (s : List UInt8) (k : Int) : tm28 n s k = spr [(0, .sl true 0 0 n .no), (1, .str s), (5, .int .i64 k)] 0 33 := by kernel_rfl
def tm30 (q n m : Nat) (s : List UInt8) (k : Int) : List AV := [.sl true 0 0 n .no, .any, .str s, .any, .any, .any, .bool false, .sl false q 0 m .no, .int .i64 k, .any, .any, .any, .any, .any, .any, .any, .any, .any, .any, .any, .any, .any, .any, .any, .any, .any, .any, .any, .any, .any, .any, .any, .any, .any, .any, .any, .any, .any, .any, .any, .any, .any, .any, .any, .any, .any]
theorem tm30_spr (q n m : Nat) (s : List UInt8) (k : Int) : tm30 q n m s k = spr [(0, .sl true 0 0 n .no), (2, .str s), (6, .bool false), (7, .sl false q 0 m .no), (8, .int .i64 k)] 0 46 := by kernel_rfl
def tm25 (n : Nat) (b : Bool) (k : Int) : List AV := [.sl true 0 0 n .no, .sl true 1 0 n .no, .any, .any, .bool b, .int .i64 k, .any, .any, .any, .any, .any, .any, .any, .any, .any, .any, .any, .any, .any, .any, .any, .any, .any, .any, .any, .any, .any, .any, .any, .any, .any, .any, .any, .any, .any, .any, .any, .any, .any, .any, .any]
theorem tm25_spr (n : Nat) (b : Bool) (k : Int) : tm25 n b k = spr [(0, .sl true 0 0 n .no), (1, .sl true 1 0 n .no), (4, .bool b), (5, .int .i64 k)] 0 41 := by kernel_rfl
def tm27 (n : Nat) (fr : Int) (m : Nat) (k : Int) : List AV := [.sl true 0 0 n .no, .int .i64 fr, .any, .any, .any, .sl false 0 0 m .no, .int .i64 k, .any, .any, .any, .any, .any, .any, .any, .any, .any, .any, .any, .any, .any, .any, .any, .any]
theorem tm27_spr (n : Nat) (fr : Int) (m : Nat) (k : Int) : tm27 n fr m k = spr [(0, .sl true 0 0 n .no), (1, .int .i64 fr), (5, .sl false 0 0 m .no), (6, .int .i64 k)] 0 23 := by kernel_rfl

end Go.Dc.Kb
end
section
set_option linter.unusedVariables false
set_option linter.unusedSimpArgs false
namespace Go.Dc.Kb
open Go.Proofs Go.RowKit
set_option maxRecDepth 100000
def tm56r (n : Nat) (s : List UInt8) : List AV := [.sl true 0 0 n .no, .str s, .any, .any, .bool true, .any, .any, .any, .any, .any, .any, .any, .any, .any, .any, .any, .any, .any]
theorem tm56r_spr (n : Nat) (s : List UInt8) : tm56r n s = spr [(0, .sl true 0 0 n .no), (1, .str s), (4, .bool true)] 0 18 := by kernel_rfl
def tm24r (n : Nat) (s : List UInt8) (r : Int) : List AV := [.sl true 0 0 n .no, .str s, .any, .any, .int .i64 r, .any, .any, .any, .any, .any, .any, .any, .any, .any, .any, .any, .any, .any, .any, .any]
theorem tm24r_spr (n : Nat) (s : List UInt8) (r : Int) : tm24r n s r = spr [(0, .sl true 0 0 n .no), (1, .str s), (4, .int .i64 r)] 0 20 := by kernel_rfl
def tm30r (b : Bool) : List AV := [.any, .any, .any, .any, .any, .any, .bool b, .any, .any, .any, .any, .any, .any, .any, .any, .any, .any, .any, .any, .any, .any, .any, .any, .any, .any, .any, .any, .any, .any, .any, .any, .any, .any, .any, .any, .any, .any, .any, .any, .any, .any, .any, .any, .any, .any, .any]
theorem tm30r_spr (b : Bool) : tm30r b = spr [(6, .bool b)] 0 46 := by kernel_rfl
def anyS (S : Nat → List UInt8) (s : List UInt8) : Nat → Bool
  | 0 => false
  | n + 1 => anyS S s n || (S n == s)
def strsRow1 (q n : Nat) (h : Rows) (S : Nat → List UInt8) : Prop := True
theorem vr56 (n : Nat) (N : Nat → Int) (S : Nat → List UInt8) (s : List UInt8) (k : Nat) (q : Exit → List AV → Rows → Fz → Prop) (F : Fz) : rnx (bx (roS n S)) 1000 56 (loopOf fi56 0) ⟨tm56 n s false (k : Nat), []⟩ (fun e st => q e st.tmps st.rows) F = (bif decide ((↑k : Int) < (↑n : Int)) then bif true && decide ((↑k : Int) < (↑n : Int)) then bif decide (0 + (↑k : Int).toNat < ((bx (roS n S)).R 0).n) then bif S (0 + (↑k : Int).toNat) == s then q Exit.ret [AV.sl true 0 0 n Cp.no, AV.str s, AV.any, AV.any, AV.bool true, AV.int IntKind.i64 (↑k : Int), AV.int IntKind.i64 (↑k : Int), AV.sl true 0 0 n Cp.no, AV.int IntKind.i64 (↑n : Int), AV.bool true, AV.any, AV.any, AV.sl true 0 0 n Cp.no, AV.int IntKind.i64 (↑k : Int), AV.ptr true 0 (0 + (↑k : Int).toNat) 0, AV.str (S (0 + (↑k : Int).toNat)), AV.str s, AV.bool true] [] F else q Exit.normal [AV.sl true 0 0 n Cp.no, AV.str s, AV.any, AV.any, AV.bool false, AV.int IntKind.i64 (IntKind.i64.wrap ((↑k : Int) + 1)), AV.int IntKind.i64 (↑k : Int), AV.sl true 0 0 n Cp.no, AV.int IntKind.i64 (↑n : Int), AV.bool true, AV.int IntKind.i64 (↑k : Int), AV.int IntKind.i64 (IntKind.i64.wrap ((↑k : Int) + 1)), AV.sl true 0 0 n Cp.no, AV.int IntKind.i64 (↑k : Int), AV.ptr true 0 (0 + (↑k : Int).toNat) 0, AV.str (S (0 + (↑k : Int).toNat)), AV.str s, AV.bool false] [] F else False else False else q (Exit.exit 0) [AV.sl true 0 0 n Cp.no, AV.str s, AV.any, AV.any, AV.bool false, AV.int IntKind.i64 (↑k : Int), AV.int IntKind.i64 (↑k : Int), AV.sl true 0 0 n Cp.no, AV.int IntKind.i64 (↑n : Int), AV.bool false, AV.any, AV.any, AV.any, AV.any, AV.any, AV.any, AV.any, AV.any] [] F) := by kernel_rfl
theorem vr24 (n : Nat) (N : Nat → Int) (S : Nat → List UInt8) (s : List UInt8) (k : Nat) (q : Exit → List AV → Rows → Fz → Prop) (F : Fz) : rnx (bx (roI n N S)) 1000 24 (loopOf fi24 0) ⟨tm24 n s 0 (k : Nat), []⟩ (fun e st => q e st.tmps st.rows) F = (bif decide ((↑k : Int) > 0) then bif decide (0 ≤ IntKind.i64.wrap ((↑k : Int) - 1)) && decide (IntKind.i64.wrap ((↑k : Int) - 1) < (↑n : Int)) then bif decide (0 + (IntKind.i64.wrap ((↑k : Int) - 1)).toNat < ((bx (roI n N S)).R 0).n) then bif S (0 + (IntKind.i64.wrap ((↑k : Int) - 1)).toNat) == s then q Exit.ret [AV.sl true 0 0 n Cp.no, AV.str s, AV.any, AV.any, AV.int IntKind.i64 (IntKind.i64.wrap ((↑k : Int) - 1)), AV.int IntKind.i64 (IntKind.i64.wrap ((↑k : Int) - 1)), AV.any, AV.any, AV.int IntKind.i64 (↑k : Int), AV.bool true, AV.int IntKind.i64 (↑k : Int), AV.int IntKind.i64 (IntKind.i64.wrap ((↑k : Int) - 1)), AV.sl true 0 0 n Cp.no, AV.int IntKind.i64 (IntKind.i64.wrap ((↑k : Int) - 1)), AV.ptr true 0 (0 + (IntKind.i64.wrap ((↑k : Int) - 1)).toNat) 0, AV.ptr true 0 (0 + (IntKind.i64.wrap ((↑k : Int) - 1)).toNat) 1, AV.str (S (0 + (IntKind.i64.wrap ((↑k : Int) - 1)).toNat)), AV.str s, AV.bool true, AV.int IntKind.i64 (IntKind.i64.wrap ((↑k : Int) - 1))] [] F else q Exit.normal [AV.sl true 0 0 n Cp.no, AV.str s, AV.any, AV.any, AV.int IntKind.i64 0, AV.int IntKind.i64 (IntKind.i64.wrap ((↑k : Int) - 1)), AV.any, AV.any, AV.int IntKind.i64 (↑k : Int), AV.bool true, AV.int IntKind.i64 (↑k : Int), AV.int IntKind.i64 (IntKind.i64.wrap ((↑k : Int) - 1)), AV.sl true 0 0 n Cp.no, AV.int IntKind.i64 (IntKind.i64.wrap ((↑k : Int) - 1)), AV.ptr true 0 (0 + (IntKind.i64.wrap ((↑k : Int) - 1)).toNat) 0, AV.ptr true 0 (0 + (IntKind.i64.wrap ((↑k : Int) - 1)).toNat) 1, AV.str (S (0 + (IntKind.i64.wrap ((↑k : Int) - 1)).toNat)), AV.str s, AV.bool false, AV.any] [] F else False else False else q (Exit.exit 0) [AV.sl true 0 0 n Cp.no, AV.str s, AV.any, AV.any, AV.int IntKind.i64 0, AV.int IntKind.i64 (↑k : Int), AV.any, AV.any, AV.int IntKind.i64 (↑k : Int), AV.bool false, AV.any, AV.any, AV.any, AV.any, AV.any, AV.any, AV.any, AV.any, AV.any, AV.any] [] F) := by kernel_rfl
theorem vr25 (n : Nat) (N : Nat → Int) (S : Nat → List UInt8) (k : Nat) (q : Exit → List AV → Rows → Fz → Prop) (F : Fz) : rnx (bx (roJ n N S)) 1000 25 (loopOf fi25 0) ⟨tm25 n false (k : Nat), []⟩ (fun e st => q e st.tmps st.rows) F = (bif decide ((↑k : Int) < (↑n : Int)) then bif true && decide ((↑k : Int) < (↑n : Int)) then bif decide (0 + (↑k : Int).toNat < ((bx (roJ n N S)).R 0).n) then bif true && decide ((↑k : Int) < (↑n : Int)) then bif decide (0 + (↑k : Int).toNat < ((bx (roJ n N S)).R 1).n) then bif N (0 + (↑k : Int).toNat) != N (0 + (↑k : Int).toNat) then q Exit.ret [AV.sl true 0 0 n Cp.no, AV.sl true 1 0 n Cp.no, AV.any, AV.any, AV.bool false, AV.int IntKind.i64 (↑k : Int), AV.any, AV.any, AV.any, AV.any, AV.any, AV.int IntKind.i64 (↑k : Int), AV.sl true 0 0 n Cp.no, AV.int IntKind.i64 (↑n : Int), AV.bool true, AV.any, AV.any, AV.sl true 0 0 n Cp.no, AV.int IntKind.i64 (↑k : Int), AV.ptr true 0 (0 + (↑k : Int).toNat) 0, AV.ptr true 0 (0 + (↑k : Int).toNat) 0, AV.int IntKind.i64 (N (0 + (↑k : Int).toNat)), AV.sl true 1 0 n Cp.no, AV.int IntKind.i64 (↑k : Int), AV.ptr true 1 (0 + (↑k : Int).toNat) 0, AV.ptr true 1 (0 + (↑k : Int).toNat) 0, AV.int IntKind.i64 (N (0 + (↑k : Int).toNat)), AV.bool (N (0 + (↑k : Int).toNat) != N (0 + (↑k : Int).toNat)), AV.bool true, AV.tup [], AV.tup [], AV.tup [], AV.tup [], AV.tup [], AV.tup [], AV.tup [], AV.tup [], AV.tup [], AV.tup [], AV.tup [], AV.bool true] [] F else bif true && decide ((↑k : Int) < (↑n : Int)) then bif decide (0 + (↑k : Int).toNat < ((bx (roJ n N S)).R 0).n) then bif true && decide ((↑k : Int) < (↑n : Int)) then bif decide (0 + (↑k : Int).toNat < ((bx (roJ n N S)).R 1).n) then bif !S (0 + (↑k : Int).toNat) == S (0 + (↑k : Int).toNat) then q Exit.ret [AV.sl true 0 0 n Cp.no, AV.sl true 1 0 n Cp.no, AV.any, AV.any, AV.bool false, AV.int IntKind.i64 (↑k : Int), AV.any, AV.any, AV.any, AV.any, AV.any, AV.int IntKind.i64 (↑k : Int), AV.sl true 0 0 n Cp.no, AV.int IntKind.i64 (↑n : Int), AV.bool true, AV.any, AV.any, AV.sl true 0 0 n Cp.no, AV.int IntKind.i64 (↑k : Int), AV.ptr true 0 (0 + (↑k : Int).toNat) 0, AV.ptr true 0 (0 + (↑k : Int).toNat) 0, AV.int IntKind.i64 (N (0 + (↑k : Int).toNat)), AV.sl true 1 0 n Cp.no, AV.int IntKind.i64 (↑k : Int), AV.ptr true 1 (0 + (↑k : Int).toNat) 0, AV.ptr true 1 (0 + (↑k : Int).toNat) 0, AV.int IntKind.i64 (N (0 + (↑k : Int).toNat)), AV.bool (N (0 + (↑k : Int).toNat) != N (0 + (↑k : Int).toNat)), AV.bool false, AV.sl true 0 0 n Cp.no, AV.int IntKind.i64 (↑k : Int), AV.ptr true 0 (0 + (↑k : Int).toNat) 0, AV.ptr true 0 (0 + (↑k : Int).toNat) 1, AV.str (S (0 + (↑k : Int).toNat)), AV.sl true 1 0 n Cp.no, AV.int IntKind.i64 (↑k : Int), AV.ptr true 1 (0 + (↑k : Int).toNat) 0, AV.ptr true 1 (0 + (↑k : Int).toNat) 1, AV.str (S (0 + (↑k : Int).toNat)), AV.bool !S (0 + (↑k : Int).toNat) == S (0 + (↑k : Int).toNat), AV.bool true] [] F else q Exit.normal [AV.sl true 0 0 n Cp.no, AV.sl true 1 0 n Cp.no, AV.any, AV.any, AV.bool false, AV.int IntKind.i64 (IntKind.i64.wrap ((↑k : Int) + 1)), AV.any, AV.any, AV.any, AV.any, AV.any, AV.int IntKind.i64 (↑k : Int), AV.sl true 0 0 n Cp.no, AV.int IntKind.i64 (↑n : Int), AV.bool true, AV.int IntKind.i64 (↑k : Int), AV.int IntKind.i64 (IntKind.i64.wrap ((↑k : Int) + 1)), AV.sl true 0 0 n Cp.no, AV.int IntKind.i64 (↑k : Int), AV.ptr true 0 (0 + (↑k : Int).toNat) 0, AV.ptr true 0 (0 + (↑k : Int).toNat) 0, AV.int IntKind.i64 (N (0 + (↑k : Int).toNat)), AV.sl true 1 0 n Cp.no, AV.int IntKind.i64 (↑k : Int), AV.ptr true 1 (0 + (↑k : Int).toNat) 0, AV.ptr true 1 (0 + (↑k : Int).toNat) 0, AV.int IntKind.i64 (N (0 + (↑k : Int).toNat)), AV.bool (N (0 + (↑k : Int).toNat) != N (0 + (↑k : Int).toNat)), AV.bool false, AV.sl true 0 0 n Cp.no, AV.int IntKind.i64 (↑k : Int), AV.ptr true 0 (0 + (↑k : Int).toNat) 0, AV.ptr true 0 (0 + (↑k : Int).toNat) 1, AV.str (S (0 + (↑k : Int).toNat)), AV.sl true 1 0 n Cp.no, AV.int IntKind.i64 (↑k : Int), AV.ptr true 1 (0 + (↑k : Int).toNat) 0, AV.ptr true 1 (0 + (↑k : Int).toNat) 1, AV.str (S (0 + (↑k : Int).toNat)), AV.bool !S (0 + (↑k : Int).toNat) == S (0 + (↑k : Int).toNat), AV.bool false] [] F else False else False else False else False else False else False else False else False else q (Exit.exit 0) [AV.sl true 0 0 n Cp.no, AV.sl true 1 0 n Cp.no, AV.any, AV.any, AV.bool false, AV.int IntKind.i64 (↑k : Int), AV.any, AV.any, AV.any, AV.any, AV.any, AV.int IntKind.i64 (↑k : Int), AV.sl true 0 0 n Cp.no, AV.int IntKind.i64 (↑n : Int), AV.bool false, AV.any, AV.any, AV.any, AV.any, AV.any, AV.any, AV.any, AV.any, AV.any, AV.any, AV.any, AV.any, AV.any, AV.any, AV.any, AV.any, AV.any, AV.any, AV.any, AV.any, AV.any, AV.any, AV.any, AV.any, AV.any, AV.any] [] F) := by kernel_rfl

end Go.Dc.Kb
end
section
set_option linter.unusedVariables false
set_option linter.unusedSimpArgs false
namespace Go.Dc.Kb
open Go.Proofs Go.RowKit
set_option maxRecDepth 100000
theorem blk56 : blockOf fi56 0 = some (.loop (loopOf fi56 0)) := by kernel_rfl
theorem blk24 : blockOf fi24 0 = some (.loop (loopOf fi24 0)) := by kernel_rfl
theorem blk25 : blockOf fi25 0 = some (.loop (loopOf fi25 0)) := by kernel_rfl

theorem by56 {R : Nat → RoRow} {f : FuncId} {fi : FI} (hF : lookF fl f = some fi) {i : Nat} {c : Code} (hb : blockOf fi i = some (.loop c)) {st : St} {F : Fz} {k : Exit → St → Fz → Prop} {C : Prop} (n : Nat) (he : Dc.rnx (bx R) n f c st k F = C) (hc : C) : SafeX Try.prog R [] c st F k noP :=
  SafeX.by mixed (bx_ok R [] noP) (f := f) hF hb (subs_loop c) n he hc
def spec56L (n : Nat) (S : Nat → List UInt8) (s : List UInt8) : LoopSpX := fun st k F =>
  (n ≤ 4611686018427387904 ∧ nthV st.tmps 0 = .sl true 0 0 n .no ∧ nthV st.tmps 1 = .str s ∧ nthV st.tmps 4 = .bool false ∧ nthV st.tmps 5 = .int .i64 0 ∧ st.tmps.length = 18 ∧ st.rows = []) ∧
  bif anyS S s n then k .ret ⟨tm56r n s, []⟩ F else k .normal ⟨tm56 n s false (n : Nat), []⟩ F
theorem dlt {k n : Nat} (h : k < n) : decide (0 + (k : Int).toNat < n) = true := by simpa using h
theorem fitN {T T' : List AV} {R : Nat → RoRow} {F : Fz} {S : St → Fz → Prop} (h : VwL (fun _ => Option.none) 0 T T') (hs : S ⟨T, []⟩ F) : ToX R [] 0 ⟨T', []⟩ F S := ToX.fit (Fit.nil h) (ToX.here hs)
theorem spec56L_ok (n : Nat) (S : Nat → List UInt8) (s : List UInt8) (st : St) (K : Exit → St → Fz → Prop) (F : Fz) (h : spec56L n S s st K F) : SafeX Try.prog (bx (roS n S)).R [] (.block 0 (.loop (loopOf fi56 0))) st F K noP := by
  obtain ⟨⟨hn, h0, h1, h4, h5, hl, hr⟩, hk⟩ := h
  obtain ⟨T, rows⟩ := st
  simp only at hr h0 h1 h4 h5 hl
  subst hr
  refine SafeX.loop_block (Inv := fun m st' F' => F' = F ∧ ∃ k, k ≤ n ∧ m = n - k ∧ anyS S s k = false ∧ st' = ⟨tm56 n s false (k : Nat), []⟩) ?_ ?_
  · refine fitN (T := tm56 n s false (0 : Nat)) ?_ ⟨n, rfl, 0, Nat.zero_le _, rfl, rfl, rfl⟩
    rw [tm56_spr]
    exact VwL.ofKnown hl ⟨by rw [h0]; exact Vw.gndI rfl, by rw [h1]; exact Vw.strI, by rw [h4]; exact Vw.boolI, by rw [h5]; exact Vw.intI, trivial⟩
  · rintro m st' F' ⟨rfl, k, hkn, rfl, hany, rfl⟩
    refine by56 (f := 56) (fi := fi56) (by kernel_rfl) blk56 1000 (vr56 n (fun _ => 0) S s k (fun e T rows F2 => match e with
      | .normal => ToX (bx (roS n S)).R [] 0 ⟨T, rows⟩ F2 fun st3 F3 => ∃ n', n' < n - k ∧ F3 = F' ∧ ∃ k, k ≤ n ∧ n' = n - k ∧ anyS S s k = false ∧ st3 = ⟨tm56 n s false (k : Nat), []⟩
      | e => ToX (bx (roS n S)).R [] 0 ⟨T, rows⟩ F2 fun st3 F3 => K (blockExit 0 e) st3 F3) F') ?_
    refine hcB2 (fun hd => ?_) (fun hd => ?_)
    · have hkn : k = n := by simp at hd; omega
      subst hkn
      rw [hany] at hk
      refine fitN (T := tm56 k s false (k : Nat)) ?_ hk
      unfold tm56
      (repeat' (first | with_reducible exact VwL.nil | with_reducible refine VwL.cons ?_ ?_ | with_reducible exact Vw.anyI | with_reducible exact Vw.strI | with_reducible exact Vw.boolI | with_reducible exact Vw.intI | with_reducible exact Vw.nilsI | exact Vw.ptrI (by simp) rfl | exact Vw.slI (by simp) rfl | with_reducible refine Vw.aggI ?_ | exact Vw.gndI rfl))
    · have hlt : k < n := by simpa using hd
      have e1 : (0 + (k : Int).toNat) = k := by simp
      have ew := wrapSucc k (by omega)
      refine hcT (by simpa using hlt) (hcT (dlt hlt) ?_)
      rw [e1]
      refine hcB (fun hs => ?_) (fun hs => ?_)
      · have : anyS S s n = true := by
          have : ∀ m, k < m → anyS S s m = true := by
            intro m hm
            induction m with
            | zero => omega
            | succ m ih =>
              unfold anyS
              rcases Nat.lt_or_ge k m with h | h
              · rw [ih h]; rfl
              · obtain rfl : m = k := by omega
                rw [hs]; simp
          exact this n hlt
        rw [this] at hk
        refine fitN (T := tm56r n s) ?_ hk
        unfold tm56r
        (repeat' (first | with_reducible exact VwL.nil | with_reducible refine VwL.cons ?_ ?_ | with_reducible exact Vw.anyI | with_reducible exact Vw.strI | with_reducible exact Vw.boolI | with_reducible exact Vw.intI | with_reducible exact Vw.nilsI | exact Vw.ptrI (by simp) rfl | exact Vw.slI (by simp) rfl | with_reducible refine Vw.aggI ?_ | exact Vw.gndI rfl))
      · rw [ew]
        refine fitN (T := tm56 n s false ((k + 1 : Nat) : Nat)) ?_ ⟨n - (k + 1), by omega, rfl, k + 1, by omega, rfl, by unfold anyS; rw [hany, hs]; rfl, rfl⟩
        unfold tm56
        (repeat' (first | with_reducible exact VwL.nil | with_reducible refine VwL.cons ?_ ?_ | with_reducible exact Vw.anyI | with_reducible exact Vw.strI | with_reducible exact Vw.boolI | with_reducible exact Vw.intI | with_reducible exact Vw.nilsI | exact Vw.ptrI (by simp) rfl | exact Vw.slI (by simp) rfl | with_reducible refine Vw.aggI ?_ | exact Vw.gndI rfl))

def untilF (S : Nat → List UInt8) (s : List UInt8) : Nat → Nat
  | 0 => 0
  | n + 1 => bif S n == s then n else untilF S s n
theorem untilF_none {S : Nat → List UInt8} {s : List UInt8} : ∀ {n : Nat}, anyS S s n = false → untilF S s n = 0
  | 0, _ => rfl
  | n + 1, h => by
    unfold anyS at h
    simp only [Bool.or_eq_false_iff] at h
    unfold untilF
    rw [h.2]
    exact untilF_none h.1
theorem untilF_le (S : Nat → List UInt8) (s : List UInt8) : ∀ n, untilF S s n ≤ n
  | 0 => Nat.le_refl _
  | n + 1 => by
    unfold untilF
    cases S n == s
    · exact Nat.le_succ_of_le (untilF_le S s n)
    · exact Nat.le_succ n
theorem wrapPred (k : Nat) (h : k ≤ 4611686018427387904) : IntKind.i64.wrap (((k + 1 : Nat) : Int) - 1) = (k : Int) := by rw [wrapI64 _ (by omega) (by omega)]; omega
def spec24L (n : Nat) (N : Nat → Int) (S : Nat → List UInt8) (s : List UInt8) : LoopSpX := fun st k F =>
  (n ≤ 4611686018427387904 ∧ nthV st.tmps 0 = .sl true 0 0 n .no ∧ nthV st.tmps 1 = .str s ∧ nthV st.tmps 4 = .int .i64 0 ∧ nthV st.tmps 5 = .int .i64 (n : Nat) ∧ st.tmps.length = 20 ∧ st.rows = []) ∧
  bif anyS S s n then k .ret ⟨tm24r n s (untilF S s n : Nat), []⟩ F else k .normal ⟨tm24 n s 0 (0 : Nat), []⟩ F
theorem spec24L_ok (n : Nat) (N : Nat → Int) (S : Nat → List UInt8) (s : List UInt8) (st : St) (K : Exit → St → Fz → Prop) (F : Fz) (h : spec24L n N S s st K F) : SafeX Try.prog (bx (roI n N S)).R [] (.block 0 (.loop (loopOf fi24 0))) st F K noP := by
  obtain ⟨⟨hn, h0, h1, h4, h5, hl, hr⟩, hk⟩ := h
  obtain ⟨T, rows⟩ := st
  simp only at hr h0 h1 h4 h5 hl
  subst hr
  refine SafeX.loop_block (Inv := fun m st' F' => F' = F ∧ ∃ k, k ≤ n ∧ m = k ∧ anyS S s k = anyS S s n ∧ (anyS S s n = true → untilF S s k = untilF S s n) ∧ st' = ⟨tm24 n s 0 (k : Nat), []⟩) ?_ ?_
  · refine fitN (T := tm24 n s 0 (n : Nat)) ?_ ⟨n, rfl, n, Nat.le_refl _, rfl, rfl, fun _ => rfl, rfl⟩
    rw [tm24_spr]
    exact VwL.ofKnown hl ⟨by rw [h0]; exact Vw.gndI rfl, by rw [h1]; exact Vw.strI, by rw [h4]; exact Vw.intI, by rw [h5]; exact Vw.intI, trivial⟩
  · rintro k st' F' ⟨rfl, k0, hkn, rfl, hany, hun, rfl⟩
    refine by56 (f := 24) (fi := fi24) (by kernel_rfl) blk24 1000 (vr24 n N S s k (fun e T rows F2 => match e with
      | .normal => ToX (bx (roI n N S)).R [] 0 ⟨T, rows⟩ F2 fun st3 F3 => ∃ n', n' < k ∧ F3 = F' ∧ ∃ k, k ≤ n ∧ n' = k ∧ anyS S s k = anyS S s n ∧ (anyS S s n = true → untilF S s k = untilF S s n) ∧ st3 = ⟨tm24 n s 0 (k : Nat), []⟩
      | e => ToX (bx (roI n N S)).R [] 0 ⟨T, rows⟩ F2 fun st3 F3 => K (blockExit 0 e) st3 F3) F') ?_
    cases k with
    | zero =>
      refine hcF (by simp) ?_
      have hk : K .normal ⟨tm24 n s 0 (0 : Nat), []⟩ F' := by rw [← hany] at hk; exact hk
      refine fitN (T := tm24 n s 0 (0 : Nat)) ?_ hk
      unfold tm24
      (repeat' (first | with_reducible exact VwL.nil | with_reducible refine VwL.cons ?_ ?_ | with_reducible exact Vw.anyI | with_reducible exact Vw.strI | with_reducible exact Vw.boolI | with_reducible exact Vw.intI | with_reducible exact Vw.nilsI | exact Vw.ptrI (by simp) rfl | exact Vw.slI (by simp) rfl | with_reducible refine Vw.aggI ?_ | exact Vw.gndI rfl))
    | succ k =>
      have ew := wrapPred k (by omega)
      have e1 : (0 + (k : Int).toNat) = k := by simp
      refine hcT (by simp only [decide_eq_true_eq]; omega) ?_
      rw [ew]
      have hlt : k < n := hkn
      refine hcT (by rw [Bool.and_eq_true]; exact ⟨decide_eq_true (Int.natCast_nonneg k), decide_eq_true (Int.ofNat_lt.2 hlt)⟩) (hcT (dlt hlt) ?_)
      rw [e1]
      refine hcB (fun hs => ?_) (fun hs => ?_)
      · have ha : anyS S s n = true := by rw [← hany]; unfold anyS; rw [hs]; simp
        have hu : untilF S s n = k := by rw [← hun ha]; unfold untilF; rw [hs]; rfl
        rw [ha, hu] at hk
        refine fitN (T := tm24r n s (k : Nat)) ?_ hk
        unfold tm24r
        (repeat' (first | with_reducible exact VwL.nil | with_reducible refine VwL.cons ?_ ?_ | with_reducible exact Vw.anyI | with_reducible exact Vw.strI | with_reducible exact Vw.boolI | with_reducible exact Vw.intI | with_reducible exact Vw.nilsI | exact Vw.ptrI (by simp) rfl | exact Vw.slI (by simp) rfl | with_reducible refine Vw.aggI ?_ | exact Vw.gndI rfl))
      · refine fitN (T := tm24 n s 0 (k : Nat)) ?_ ⟨k, by omega, rfl, k, by omega, rfl, by rw [← hany]; rw [show anyS S s (k + 1) = (anyS S s k || (S k == s)) from rfl, hs]; simp, fun ha => by rw [← hun ha]; rw [show untilF S s (k + 1) = (bif S k == s then k else untilF S s k) from rfl, hs]; rfl, rfl⟩
        unfold tm24
        (repeat' (first | with_reducible exact VwL.nil | with_reducible refine VwL.cons ?_ ?_ | with_reducible exact Vw.anyI | with_reducible exact Vw.strI | with_reducible exact Vw.boolI | with_reducible exact Vw.intI | with_reducible exact Vw.nilsI | exact Vw.ptrI (by simp) rfl | exact Vw.slI (by simp) rfl | with_reducible refine Vw.aggI ?_ | exact Vw.gndI rfl))
def spec25L (n : Nat) (N : Nat → Int) (S : Nat → List UInt8) : LoopSpX := fun st k F =>
  (n ≤ 4611686018427387904 ∧ nthV st.tmps 0 = .sl true 0 0 n .no ∧ nthV st.tmps 1 = .sl true 1 0 n .no ∧ nthV st.tmps 4 = .bool false ∧ nthV st.tmps 5 = .int .i64 0 ∧ st.tmps.length = 41 ∧ st.rows = []) ∧
  k .normal ⟨tm25 n false (n : Nat), []⟩ F
theorem spec25L_ok (n : Nat) (N : Nat → Int) (S : Nat → List UInt8) (st : St) (K : Exit → St → Fz → Prop) (F : Fz) (h : spec25L n N S st K F) : SafeX Try.prog (bx (roJ n N S)).R [] (.block 0 (.loop (loopOf fi25 0))) st F K noP := by
  obtain ⟨⟨hn, h0, h1, h4, h5, hl, hr⟩, hk⟩ := h
  obtain ⟨T, rows⟩ := st
  simp only at hr h0 h1 h4 h5 hl
  subst hr
  refine SafeX.loop_block (Inv := fun m st' F' => F' = F ∧ ∃ k, k ≤ n ∧ m = n - k ∧ st' = ⟨tm25 n false (k : Nat), []⟩) ?_ ?_
  · refine fitN (T := tm25 n false (0 : Nat)) ?_ ⟨n, rfl, 0, Nat.zero_le _, rfl, rfl⟩
    rw [tm25_spr]
    exact VwL.ofKnown hl ⟨by rw [h0]; exact Vw.gndI rfl, by rw [h1]; exact Vw.gndI rfl, by rw [h4]; exact Vw.boolI, by rw [h5]; exact Vw.intI, trivial⟩
  · rintro m st' F' ⟨rfl, k, hkn, rfl, rfl⟩
    refine by56 (f := 25) (fi := fi25) (by kernel_rfl) blk25 1000 (vr25 n N S k (fun e T rows F2 => match e with
      | .normal => ToX (bx (roJ n N S)).R [] 0 ⟨T, rows⟩ F2 fun st3 F3 => ∃ n', n' < n - k ∧ F3 = F' ∧ ∃ k, k ≤ n ∧ n' = n - k ∧ st3 = ⟨tm25 n false (k : Nat), []⟩
      | e => ToX (bx (roJ n N S)).R [] 0 ⟨T, rows⟩ F2 fun st3 F3 => K (blockExit 0 e) st3 F3) F') ?_
    refine hcB2 (fun hd => ?_) (fun hd => ?_)
    · have hkn : k = n := by simp at hd; omega
      subst hkn
      refine fitN (T := tm25 k false (k : Nat)) ?_ hk
      unfold tm25
      (repeat' (first | with_reducible exact VwL.nil | with_reducible refine VwL.cons ?_ ?_ | with_reducible exact Vw.anyI | with_reducible exact Vw.strI | with_reducible exact Vw.boolI | with_reducible exact Vw.intI | with_reducible exact Vw.nilsI | exact Vw.ptrI (by simp) rfl | exact Vw.slI (by simp) rfl | with_reducible refine Vw.aggI ?_ | exact Vw.gndI rfl))
    · have hlt : k < n := by simpa using hd
      have ew := wrapSucc k (by omega)
      have hd2 : (true && decide ((k : Int) < (n : Int))) = true := by simpa using hlt
      refine hcT hd2 (hcT (dlt hlt) (hcT hd2 (hcT (dlt hlt) (hcF (by simp) (hcT hd2 (hcT (dlt hlt) (hcT hd2 (hcT (dlt hlt) (hcF (by simp) ?_)))))))))
      rw [ew]
      refine fitN (T := tm25 n false ((k + 1 : Nat) : Nat)) ?_ ⟨n - (k + 1), by omega, rfl, k + 1, by omega, rfl, rfl⟩
      unfold tm25
      (repeat' (first | with_reducible exact VwL.nil | with_reducible refine VwL.cons ?_ ?_ | with_reducible exact Vw.anyI | with_reducible exact Vw.strI | with_reducible exact Vw.boolI | with_reducible exact Vw.intI | with_reducible exact Vw.nilsI | exact Vw.ptrI (by simp) rfl | exact Vw.slI (by simp) rfl | with_reducible refine Vw.aggI ?_ | exact Vw.gndI rfl))

end Go.Dc.Kb
end
section
set_option linter.unusedVariables false
set_option linter.unusedSimpArgs false
namespace Go.Dc.Kb
open Go.Proofs Go.RowKit
set_option maxRecDepth 100000
theorem vc56 (n : Nat) (S : Nat → List UInt8) (s : List UInt8) (q : AV → Fz → Prop) (F : Fz) : vcx ((bx (roS n S)).addLoop 56 0 (spec56L n S s)) 1000 56 fi56 [.sl true 0 0 n .no, .str s] [] (fun v _ F => q v F) F = ((n.le 4611686018427387904 ∧ AV.sl true 0 0 n Cp.no = AV.sl true 0 0 n Cp.no ∧ AV.str s = AV.str s ∧ AV.bool false = AV.bool false ∧ AV.int IntKind.i64 0 = AV.int IntKind.i64 0 ∧ 18 = 18 ∧ ([] : Rows) = []) ∧ bif anyS S s n then q (AV.bool true) F else q (AV.bool false) F) := by kernel_rfl
theorem vc24 (n : Nat) (N : Nat → Int) (S : Nat → List UInt8) (s : List UInt8) (q : AV → Fz → Prop) (F : Fz) : vcx ((bx (roI n N S)).addLoop 24 0 (spec24L n N S s)) 1000 24 fi24 [.sl true 0 0 n .no, .str s] [] (fun v _ F => q v F) F = ((n.le 4611686018427387904 ∧ AV.sl true 0 0 n Cp.no = AV.sl true 0 0 n Cp.no ∧ AV.str s = AV.str s ∧ AV.int IntKind.i64 0 = AV.int IntKind.i64 0 ∧ AV.int IntKind.i64 (↑n : Int) = AV.int IntKind.i64 (↑n : Int) ∧ 20 = 20 ∧ ([] : Rows) = []) ∧ bif anyS S s n then q (AV.int IntKind.i64 (↑(untilF S s n) : Int)) F else q (AV.int IntKind.i64 0) F) := by kernel_rfl
theorem vc25 (n : Nat) (N : Nat → Int) (S : Nat → List UInt8) (q : AV → Fz → Prop) (F : Fz) : vcx ((bx (roJ n N S)).addLoop 25 0 (spec25L n N S)) 1000 25 fi25 [.sl true 0 0 n .no, .sl true 1 0 n .no] [] (fun v _ F => q v F) F = (bif (↑n : Int) != (↑n : Int) then q (AV.bool false) F else (n.le 4611686018427387904 ∧ AV.sl true 0 0 n Cp.no = AV.sl true 0 0 n Cp.no ∧ AV.sl true 1 0 n Cp.no = AV.sl true 1 0 n Cp.no ∧ AV.bool false = AV.bool false ∧ AV.int IntKind.i64 0 = AV.int IntKind.i64 0 ∧ 41 = 41 ∧ ([] : Rows) = []) ∧ q (AV.bool true) F) := by kernel_rfl

theorem byX {E : EnvX} (hE : OKX Try.prog E [] noP) {f : FuncId} {fi : FI} (hF : E.F f = some fi) {args : List AV} {h : Rows} {F : Fz} {Q : AV → Rows → Fz → Prop} (n : Nat) {C : Prop} (he : Dc.vcx E n f fi args h Q F = C) (hc : C) : SafeCallX Try.prog E.R f args h F Q noP := SafeCallX.by mixed hE hF n he hc
theorem safe56 (n : Nat) (S : Nat → List UInt8) (s : List UInt8) (F : Fz) (hn : n ≤ 4611686018427387904) : SafeCallX Try.prog (roS n S) 56 [.sl true 0 0 n .no, .str s] [] F (fun v _ _ => v = .bool (anyS S s n)) noP := by
  refine byX ((bx_ok (roS n S) [] noP).addLoop (f := 56) (fi := fi56) (by kernel_rfl) blk56 (spec56L_ok n S s)) (f := 56) (fi := fi56) (by kernel_rfl) 1000 (vc56 n S s (fun v _ => v = .bool (anyS S s n)) F) ⟨⟨hn, rfl, rfl, rfl, rfl, rfl, rfl⟩, ?_⟩
  cases anyS S s n <;> rfl
theorem safe24 (n : Nat) (N : Nat → Int) (S : Nat → List UInt8) (s : List UInt8) (F : Fz) (hn : n ≤ 4611686018427387904) : SafeCallX Try.prog (roI n N S) 24 [.sl true 0 0 n .no, .str s] [] F (fun v _ _ => v = .int .i64 (untilF S s n : Nat)) noP := by
  refine byX ((bx_ok (roI n N S) [] noP).addLoop (f := 24) (fi := fi24) (by kernel_rfl) blk24 (spec24L_ok n N S s)) (f := 24) (fi := fi24) (by kernel_rfl) 1000 (vc24 n N S s (fun v _ => v = .int .i64 (untilF S s n : Nat)) F) ⟨⟨hn, rfl, rfl, rfl, rfl, rfl, rfl⟩, ?_⟩
  cases h : anyS S s n
  · rw [untilF_none h]; rfl
  · rfl
theorem safe25 (n : Nat) (N : Nat → Int) (S : Nat → List UInt8) (F : Fz) (hn : n ≤ 4611686018427387904) : SafeCallX Try.prog (roJ n N S) 25 [.sl true 0 0 n .no, .sl true 1 0 n .no] [] F (fun v _ _ => v = .bool true) noP := by
  refine byX ((bx_ok (roJ n N S) [] noP).addLoop (f := 25) (fi := fi25) (by kernel_rfl) blk25 (spec25L_ok n N S)) (f := 25) (fi := fi25) (by kernel_rfl) 1000 (vc25 n N S (fun v _ => v = .bool true) F) ?_
  exact hcF (by simp) ⟨⟨hn, rfl, rfl, rfl, rfl, rfl, rfl⟩, rfl⟩
/-- Is a text among some, that lie in a row of texts? -/
def anyE (G : Nat → AV) (n : Nat) (s : List UInt8) : Bool := anyS (fun j => strOf (G j)) s n
def spec56 : CallSpecX := fun args h k F => match args with
  | [.sl false q 0 n _, .str s] => match h.live q with
    | some (.lst 9 1 els) => (n ≤ els.length ∧ (∀ e ∈ els, ∃ t, e = .str t) ∧ n ≤ 4611686018427387904) ∧ ∀ b, b = anyE (fun j => els.getD j .undef) n s → k (.bool b) h F
    | some (.gen 9 1 m G) => (n ≤ m ∧ (∀ j, j < n → G j = .str (strOf (G j))) ∧ n ≤ 4611686018427387904) ∧ ∀ b, b = anyE G n s → k (.bool b) h F
    | _ => False
  | _ => False
theorem reads1l {R : Nat → RoRow} {fn : FuncId} {rest : List AV} {h : Rows} {F : Fz} {Q : AV → Prop} {HP : AV → Rows → Fz → Prop} {ty z len q : Nat} {els : List AV} {c : Cp} {G' : Nat → AV} (hq : h.live q = some (.lst ty z els)) (hl : len ≤ els.length)
    (hG : ∀ j e, j < len → els[j]? = some e → RkVw (fun b => bif Nat.beq b q then some 0 else none) e (G' j)) (hrest : rest.all flat1 = true)
    (hs : SafeCallX Try.prog (rx1 ty z len G') fn (.sl true 0 0 len .no :: rest) [] F (fun v _ _ => Q v) noP) (hg : ∀ v, Q v → flat v = true) :
    SafeCallX Try.prog R fn (.sl false q 0 len c :: rest) h F (fun v h' F' => Q v ∧ h' = h ∧ F' = F) HP := by
  refine SafeCallX.reads (R2 := rx1 ty z len G') (argsL := .sl true 0 0 len .no :: rest) (fun b => bif Nat.beq b q then some 0 else none) (fun i => match i with | 0 => some q | _ + 1 => none) ?_ ?_ (fun x => RX_frz F x) ⟨⟨0, by simp [Nat.beq_refl], rfl⟩, rk_flat hrest⟩ hs (fun _ _ _ h => h) hg
  · intro b i hb
    cases hbq : Nat.beq b q with
    | true => simp only [hbq, cond_true, Option.some.injEq] at hb; subst hb; rw [Nat.eq_of_beq_eq_true hbq]; exact ⟨by omega, rfl⟩
    | false => simp [hbq] at hb
  · intro i hi
    match i with
    | 0 =>
      refine ⟨_, hq, rfl, rfl, hl, fun j e hj he => ?_⟩
      exact hG j e hj he
    | i + 1 => rfl
theorem spec56_ok (R : Nat → RoRow) (HP : AV → Rows → Fz → Prop) : ∀ args h k F, spec56 args h k F → SafeCallX Try.prog R 56 args h F k HP := by
  intro args h k F hk
  unfold spec56 at hk
  split at hk
  · rename_i q n u s
    split at hk
    · rename_i els hq
      obtain ⟨⟨hl, hels, hn⟩, hk⟩ := hk
      refine (reads1l (HP := HP) hq hl (G' := fun j => .str (strOf (els.getD j .undef))) (fun j e hj he => ?_) rfl (safe56 n (fun j => strOf (els.getD j .undef)) s F hn) (fun v hv => by rw [hv]; rfl)).mono ?_ (fun _ _ _ _ h => h)
      · obtain ⟨t, rfl⟩ := hels e (List.mem_of_getElem? he)
        simp only [List.getD, he, Option.getD_some]
        exact ⟨rfl, rfl⟩
      · rintro v h' F' _ ⟨rfl, rfl, rfl⟩
        exact hk _ rfl
    · rename_i m G hq
      obtain ⟨⟨hl, hG, hn⟩, hk⟩ := hk
      refine (reads1 (HP := HP) hq hl (G' := fun j => .str (strOf (G j))) (fun j hj => by rw [hG j hj]; exact ⟨rfl, rfl⟩) rfl (safe56 n (fun j => strOf (G j)) s F hn) (fun v hv => by rw [hv]; rfl)).mono ?_ (fun _ _ _ _ h => h)
      rintro v h' F' _ ⟨rfl, rfl, rfl⟩
      exact hk _ rfl
    · exact hk.elim
  · exact hk.elim
def spec24 : CallSpecX := fun args h k F => match args with
  | [.sl false q 0 len _, .str s] => match h.live q with
    | some (.gen 57 2 n G) => (len ≤ n ∧ IsI G len ∧ len ≤ 4611686018427387904) ∧ ∀ m, m = untilF (fun j => nameOf (G j)) s len → k (.int .i64 (m : Nat)) h F
    | _ => False
  | _ => False
theorem spec24_ok (R : Nat → RoRow) (HP : AV → Rows → Fz → Prop) : ∀ args h k F, spec24 args h k F → SafeCallX Try.prog R 24 args h F k HP := by
  intro args h k F hk
  unfold spec24 at hk
  split at hk
  · rename_i q len u s
    split at hk
    · rename_i n G hq
      obtain ⟨⟨hl, hG, hn⟩, hk⟩ := hk
      refine (reads1 (HP := HP) hq hl (fun j hj => hG.rk _ j hj) rfl (safe24 len (fun j => nodeOf (G j)) (fun j => nameOf (G j)) s F hn) (fun v hv => by rw [hv]; rfl)).mono ?_ (fun _ _ _ _ h => h)
      rintro v h' F' _ ⟨rfl, rfl, rfl⟩
      exact hk _ rfl
    · exact hk.elim
  · exact hk.elim
/-- Two lists that are the same are told so. -/
def spec25 : CallSpecX := fun args h k F => match args with
  | [.sl false q 0 len _, .sl false q2 0 len2 _] => match h.live q with
    | some (.gen 29 2 n G) => match h.live q2 with
      | some (.gen 57 2 n2 H) => (len2 = len ∧ len ≤ n ∧ len ≤ n2 ∧ IsI G len ∧ (∀ j, j < len → H j = G j) ∧ len ≤ 4611686018427387904) ∧ k (.bool true) h F
      | _ => False
    | _ => False
  | _ => False
theorem spec25_ok (R : Nat → RoRow) (HP : AV → Rows → Fz → Prop) : ∀ args h k F, spec25 args h k F → SafeCallX Try.prog R 25 args h F k HP := by
  intro args h k F hk
  unfold spec25 at hk
  split at hk
  · rename_i q len u q2 len2 u2
    split at hk
    · rename_i n G hq
      split at hk
      · rename_i n2 H hq2
        obtain ⟨⟨rfl, hl, hl2, hG, hH, hn⟩, hk⟩ := hk
        have hne : q ≠ q2 := by rintro rfl; rw [hq] at hq2; cases hq2
        refine (reads2 (HP := HP) hne hq hl hq2 hl2 (fun j hj => hG.rk _ j hj) (fun j hj => by rw [hH j hj]; exact hG.rk _ j hj) (rest := []) rfl (safe25 len2 (fun j => nodeOf (G j)) (fun j => nameOf (G j)) F hn) (fun v hv => by rw [hv]; rfl)).mono ?_ (fun _ _ _ _ h => h)
        rintro v h' F' _ ⟨rfl, rfl, rfl⟩
        exact hk
      · exact hk.elim
    · exact hk.elim
  · exact hk.elim

end Go.Dc.Kb
end
section
set_option linter.unusedVariables false
set_option linter.unusedSimpArgs false
namespace Go.Dc.Kb
open Go.Proofs Go.RowKit
set_option maxRecDepth 100000

noncomputable abbrev env56 (R : Nat → RoRow) : EnvX := (bx R).addCall 56 spec56
theorem env56_ok (R : Nat → RoRow) (HP : AV → Rows → Fz → Prop) : OKX Try.prog (env56 R) [] HP := (bx_ok R [] HP).addCall (f := 56) (fi := fi56) (by kernel_rfl) (spec56_ok R HP)
def impL : List AV := [.str [100, 100], .str [100, 116], .str [108, 105], .str [111, 112, 116, 105, 111, 110], .str [111, 112, 116, 103, 114, 111, 117, 112], .str [112], .str [114, 98], .str [114, 112], .str [114, 116], .str [114, 116, 99]]
def strG (E : Nat → List UInt8) : Nat → AV := fun j => .str (E j)
theorem vr28 (n : Nat) (N : Nat → Int) (S : Nat → List UInt8) (s : List UInt8) (k : Nat) (q : Exit → List AV → Rows → Fz → Prop) (F : Fz) : rnx (env56 (roI n N S)) 1000 28 (loopOf fi28 0) ⟨tm28 n s (k : Nat), []⟩ (fun e st => q e st.tmps st.rows) F = (bif decide ((↑k : Int) > 0) then bif decide (0 ≤ IntKind.i64.wrap ((↑k : Int) - 1)) && decide (IntKind.i64.wrap ((↑k : Int) - 1) < (↑n : Int)) then bif decide (0 + (IntKind.i64.wrap ((↑k : Int) - 1)).toNat < ((env56 (roI n N S)).R 0).n) then bif !S (0 + (IntKind.i64.wrap ((↑k : Int) - 1)).toNat) == s then bif decide (0 ≤ IntKind.i64.wrap ((↑k : Int) - 1)) && decide (IntKind.i64.wrap ((↑k : Int) - 1) < (↑n : Int)) then bif decide (0 + (IntKind.i64.wrap ((↑k : Int) - 1)).toNat < ((env56 (roI n N S)).R 0).n) then (Nat.le 10 10 ∧ (∀ (e : AV), List.Mem e [AV.str [100, 100], AV.str [100, 116], AV.str [108, 105], AV.str [111, 112, 116, 105, 111, 110], AV.str [111, 112, 116, 103, 114, 111, 117, 112], AV.str [112], AV.str [114, 98], AV.str [114, 112], AV.str [114, 116], AV.str [114, 116, 99]] → ∃ (t : List UInt8), e = AV.str t) ∧ Nat.le 10 4611686018427387904) ∧ ∀ (b : Bool), b = anyE (fun (j : Nat) => [AV.str (ByteArray.mk #[100, 100]).data.toList, AV.str (ByteArray.mk #[100, 116]).data.toList, AV.str (ByteArray.mk #[108, 105]).data.toList, AV.str (ByteArray.mk #[111, 112, 116, 105, 111, 110]).data.toList, AV.str (ByteArray.mk #[111, 112, 116, 103, 114, 111, 117, 112]).data.toList, AV.str (ByteArray.mk #[112]).data.toList, AV.str (ByteArray.mk #[114, 98]).data.toList, AV.str (ByteArray.mk #[114, 112]).data.toList, AV.str (ByteArray.mk #[114, 116]).data.toList, AV.str (ByteArray.mk #[114, 116, 99]).data.toList].getD j AV.undef) 10 (S (0 + (IntKind.i64.wrap ((↑k : Int) - 1)).toNat)) → bif b then q Exit.normal [AV.sl true 0 0 n Cp.no, AV.str s, AV.any, AV.any, AV.any, AV.int IntKind.i64 (IntKind.i64.wrap ((↑k : Int) - 1)), AV.any, AV.any, AV.int IntKind.i64 (↑k : Int), AV.bool (decide ((↑k : Int) > 0)), AV.bool true, AV.sl true 0 0 n Cp.no, AV.int IntKind.i64 (↑k : Int), AV.int IntKind.i64 (IntKind.i64.wrap ((↑k : Int) - 1)), AV.ptr true 0 (0 + (IntKind.i64.wrap ((↑k : Int) - 1)).toNat) 0, AV.ptr true 0 (0 + (IntKind.i64.wrap ((↑k : Int) - 1)).toNat) 1, AV.str (S (0 + (IntKind.i64.wrap ((↑k : Int) - 1)).toNat)), AV.str s, AV.bool !S (0 + (IntKind.i64.wrap ((↑k : Int) - 1)).toNat) == s, AV.bool !S (0 + (IntKind.i64.wrap ((↑k : Int) - 1)).toNat) == s, AV.bool true, AV.sl false 0 0 10 Cp.tight, AV.sl true 0 0 n Cp.no, AV.int IntKind.i64 (↑k : Int), AV.int IntKind.i64 (IntKind.i64.wrap ((↑k : Int) - 1)), AV.ptr true 0 (0 + (IntKind.i64.wrap ((↑k : Int) - 1)).toNat) 0, AV.ptr true 0 (0 + (IntKind.i64.wrap ((↑k : Int) - 1)).toNat) 1, AV.str (S (0 + (IntKind.i64.wrap ((↑k : Int) - 1)).toNat)), AV.bool b, AV.bool true, AV.int IntKind.i64 (↑k : Int), AV.int IntKind.i64 (IntKind.i64.wrap ((↑k : Int) - 1)), AV.any] [some (Row.lst 9 1 [AV.str [100, 100], AV.str [100, 116], AV.str [108, 105], AV.str [111, 112, 116, 105, 111, 110], AV.str [111, 112, 116, 103, 114, 111, 117, 112], AV.str [112], AV.str [114, 98], AV.str [114, 112], AV.str [114, 116], AV.str [114, 116, 99]])] F else q (Exit.exit 0) [AV.sl true 0 0 n Cp.no, AV.str s, AV.any, AV.any, AV.any, AV.int IntKind.i64 (↑k : Int), AV.any, AV.any, AV.int IntKind.i64 (↑k : Int), AV.bool (decide ((↑k : Int) > 0)), AV.bool true, AV.sl true 0 0 n Cp.no, AV.int IntKind.i64 (↑k : Int), AV.int IntKind.i64 (IntKind.i64.wrap ((↑k : Int) - 1)), AV.ptr true 0 (0 + (IntKind.i64.wrap ((↑k : Int) - 1)).toNat) 0, AV.ptr true 0 (0 + (IntKind.i64.wrap ((↑k : Int) - 1)).toNat) 1, AV.str (S (0 + (IntKind.i64.wrap ((↑k : Int) - 1)).toNat)), AV.str s, AV.bool !S (0 + (IntKind.i64.wrap ((↑k : Int) - 1)).toNat) == s, AV.bool !S (0 + (IntKind.i64.wrap ((↑k : Int) - 1)).toNat) == s, AV.bool true, AV.sl false 0 0 10 Cp.tight, AV.sl true 0 0 n Cp.no, AV.int IntKind.i64 (↑k : Int), AV.int IntKind.i64 (IntKind.i64.wrap ((↑k : Int) - 1)), AV.ptr true 0 (0 + (IntKind.i64.wrap ((↑k : Int) - 1)).toNat) 0, AV.ptr true 0 (0 + (IntKind.i64.wrap ((↑k : Int) - 1)).toNat) 1, AV.str (S (0 + (IntKind.i64.wrap ((↑k : Int) - 1)).toNat)), AV.bool b, AV.bool false, AV.any, AV.any, AV.any] [some (Row.lst 9 1 [AV.str [100, 100], AV.str [100, 116], AV.str [108, 105], AV.str [111, 112, 116, 105, 111, 110], AV.str [111, 112, 116, 103, 114, 111, 117, 112], AV.str [112], AV.str [114, 98], AV.str [114, 112], AV.str [114, 116], AV.str [114, 116, 99]])] F else False else False else q (Exit.exit 0) [AV.sl true 0 0 n Cp.no, AV.str s, AV.any, AV.any, AV.any, AV.int IntKind.i64 (↑k : Int), AV.any, AV.any, AV.int IntKind.i64 (↑k : Int), AV.bool (decide ((↑k : Int) > 0)), AV.bool true, AV.sl true 0 0 n Cp.no, AV.int IntKind.i64 (↑k : Int), AV.int IntKind.i64 (IntKind.i64.wrap ((↑k : Int) - 1)), AV.ptr true 0 (0 + (IntKind.i64.wrap ((↑k : Int) - 1)).toNat) 0, AV.ptr true 0 (0 + (IntKind.i64.wrap ((↑k : Int) - 1)).toNat) 1, AV.str (S (0 + (IntKind.i64.wrap ((↑k : Int) - 1)).toNat)), AV.str s, AV.bool !S (0 + (IntKind.i64.wrap ((↑k : Int) - 1)).toNat) == s, AV.bool !S (0 + (IntKind.i64.wrap ((↑k : Int) - 1)).toNat) == s, AV.bool false, AV.tup [], AV.tup [], AV.tup [], AV.tup [], AV.tup [], AV.tup [], AV.tup [], AV.tup [], AV.bool false, AV.any, AV.any, AV.any] [] F else False else False else q (Exit.exit 0) [AV.sl true 0 0 n Cp.no, AV.str s, AV.any, AV.any, AV.any, AV.int IntKind.i64 (↑k : Int), AV.any, AV.any, AV.int IntKind.i64 (↑k : Int), AV.bool (decide ((↑k : Int) > 0)), AV.bool false, AV.tup [], AV.tup [], AV.tup [], AV.tup [], AV.tup [], AV.tup [], AV.tup [], AV.tup [], AV.bool false, AV.bool false, AV.tup [], AV.tup [], AV.tup [], AV.tup [], AV.tup [], AV.tup [], AV.tup [], AV.tup [], AV.bool false, AV.any, AV.any, AV.any] [] F) := by kernel_rfl
theorem vr30A (n : Nat) (N : Nat → Int) (S : Nat → List UInt8) (s : List UInt8) (k : Nat) (q : Exit → List AV → Rows → Fz → Prop) (F : Fz)(m : Nat) (E : Nat → List UInt8) : rnx (env56 (roI n N S)) 1000 30 (loopOf fi30 1) ⟨tm30 0 n m s (k : Nat), [some (.gen 9 1 m (strG E))]⟩ (fun e st => q e st.tmps st.rows) F = (bif true && decide ((↑k : Int) < (↑n : Int)) then bif decide (0 + (↑k : Int).toNat < ((env56 (roI n N S)).R 0).n) then bif S (0 + (↑k : Int).toNat) == s then q Exit.ret [AV.sl true 0 0 n Cp.no, AV.any, AV.str s, AV.any, AV.any, AV.any, AV.bool true, AV.sl false 0 0 m Cp.no, AV.int IntKind.i64 (↑k : Int), AV.any, AV.any, AV.any, AV.any, AV.any, AV.any, AV.any, AV.any, AV.any, AV.any, AV.any, AV.any, AV.any, AV.any, AV.any, AV.any, AV.any, AV.any, AV.any, AV.int IntKind.i64 (↑k : Int), AV.bool true, AV.any, AV.any, AV.sl true 0 0 n Cp.no, AV.int IntKind.i64 (↑k : Int), AV.ptr true 0 (0 + (↑k : Int).toNat) 0, AV.ptr true 0 (0 + (↑k : Int).toNat) 1, AV.str (S (0 + (↑k : Int).toNat)), AV.str s, AV.bool true, AV.any, AV.any, AV.any, AV.any, AV.any, AV.any, AV.any] [some (Row.gen 9 1 m fun (j : Nat) => AV.str (E j))] F else bif true && decide ((↑k : Int) < (↑n : Int)) then bif decide (0 + (↑k : Int).toNat < ((env56 (roI n N S)).R 0).n) then (m.le m ∧ (∀ (j : Nat), j.succ.le m → AV.str (E j) = AV.str (strOf (AV.str (E j)))) ∧ m.le 4611686018427387904) ∧ ∀ (b : Bool), b = anyE (strG E) m (S (0 + (↑k : Int).toNat)) → bif b then q Exit.ret [AV.sl true 0 0 n Cp.no, AV.any, AV.str s, AV.any, AV.any, AV.any, AV.bool false, AV.sl false 0 0 m Cp.no, AV.int IntKind.i64 (↑k : Int), AV.any, AV.any, AV.any, AV.any, AV.any, AV.any, AV.any, AV.any, AV.any, AV.any, AV.any, AV.any, AV.any, AV.any, AV.any, AV.any, AV.any, AV.any, AV.any, AV.int IntKind.i64 (↑k : Int), AV.bool true, AV.any, AV.any, AV.sl true 0 0 n Cp.no, AV.int IntKind.i64 (↑k : Int), AV.ptr true 0 (0 + (↑k : Int).toNat) 0, AV.ptr true 0 (0 + (↑k : Int).toNat) 1, AV.str (S (0 + (↑k : Int).toNat)), AV.str s, AV.bool false, AV.sl false 0 0 m Cp.no, AV.sl true 0 0 n Cp.no, AV.int IntKind.i64 (↑k : Int), AV.ptr true 0 (0 + (↑k : Int).toNat) 0, AV.ptr true 0 (0 + (↑k : Int).toNat) 1, AV.str (S (0 + (↑k : Int).toNat)), AV.bool true] [some (Row.gen 9 1 m fun (j : Nat) => AV.str (E j))] F else q Exit.normal [AV.sl true 0 0 n Cp.no, AV.any, AV.str s, AV.any, AV.any, AV.any, AV.bool false, AV.sl false 0 0 m Cp.no, AV.int IntKind.i64 (IntKind.i64.wrap ((↑k : Int) - 1)), AV.any, AV.any, AV.any, AV.any, AV.any, AV.any, AV.any, AV.any, AV.any, AV.any, AV.any, AV.any, AV.any, AV.any, AV.any, AV.any, AV.any, AV.any, AV.any, AV.int IntKind.i64 (↑k : Int), AV.bool true, AV.int IntKind.i64 (↑k : Int), AV.int IntKind.i64 (IntKind.i64.wrap ((↑k : Int) - 1)), AV.sl true 0 0 n Cp.no, AV.int IntKind.i64 (↑k : Int), AV.ptr true 0 (0 + (↑k : Int).toNat) 0, AV.ptr true 0 (0 + (↑k : Int).toNat) 1, AV.str (S (0 + (↑k : Int).toNat)), AV.str s, AV.bool false, AV.sl false 0 0 m Cp.no, AV.sl true 0 0 n Cp.no, AV.int IntKind.i64 (↑k : Int), AV.ptr true 0 (0 + (↑k : Int).toNat) 0, AV.ptr true 0 (0 + (↑k : Int).toNat) 1, AV.str (S (0 + (↑k : Int).toNat)), AV.bool false] [some (Row.gen 9 1 m fun (j : Nat) => AV.str (E j))] F else False else False else False else False) := by kernel_rfl
theorem vz30A (n : Nat) (N : Nat → Int) (S : Nat → List UInt8) (s : List UInt8) (q : Exit → List AV → Rows → Fz → Prop) (F : Fz)(m : Nat) (E : Nat → List UInt8) : rnx (env56 (roI n N S)) 1000 30 (loopOf fi30 1) ⟨tm30 0 n m s (-1), [some (.gen 9 1 m (strG E))]⟩ (fun e st => q e st.tmps st.rows) F = (q (Exit.exit 1) [AV.sl true 0 0 n Cp.no, AV.any, AV.str s, AV.any, AV.any, AV.any, AV.bool false, AV.sl false 0 0 m Cp.no, AV.int IntKind.i64 (-1), AV.any, AV.any, AV.any, AV.any, AV.any, AV.any, AV.any, AV.any, AV.any, AV.any, AV.any, AV.any, AV.any, AV.any, AV.any, AV.any, AV.any, AV.any, AV.any, AV.int IntKind.i64 (-1), AV.bool false, AV.any, AV.any, AV.any, AV.any, AV.any, AV.any, AV.any, AV.any, AV.any, AV.any, AV.any, AV.any, AV.any, AV.any, AV.any, AV.any] [some (Row.gen 9 1 m fun (j : Nat) => AV.str (E j))] F) := by kernel_rfl
theorem vr30B (n : Nat) (N : Nat → Int) (S : Nat → List UInt8) (s : List UInt8) (k : Nat) (q : Exit → List AV → Rows → Fz → Prop) (F : Fz)(m : Nat) (E : Nat → List UInt8) : rnx (env56 (roI n N S)) 1000 30 (loopOf fi30 1) ⟨tm30 2 n m s (k : Nat), [none, none, some (.gen 9 1 m (strG E))]⟩ (fun e st => q e st.tmps st.rows) F = (bif true && decide ((↑k : Int) < (↑n : Int)) then bif decide (0 + (↑k : Int).toNat < ((env56 (roI n N S)).R 0).n) then bif S (0 + (↑k : Int).toNat) == s then q Exit.ret [AV.sl true 0 0 n Cp.no, AV.any, AV.str s, AV.any, AV.any, AV.any, AV.bool true, AV.sl false 2 0 m Cp.no, AV.int IntKind.i64 (↑k : Int), AV.any, AV.any, AV.any, AV.any, AV.any, AV.any, AV.any, AV.any, AV.any, AV.any, AV.any, AV.any, AV.any, AV.any, AV.any, AV.any, AV.any, AV.any, AV.any, AV.int IntKind.i64 (↑k : Int), AV.bool true, AV.any, AV.any, AV.sl true 0 0 n Cp.no, AV.int IntKind.i64 (↑k : Int), AV.ptr true 0 (0 + (↑k : Int).toNat) 0, AV.ptr true 0 (0 + (↑k : Int).toNat) 1, AV.str (S (0 + (↑k : Int).toNat)), AV.str s, AV.bool true, AV.any, AV.any, AV.any, AV.any, AV.any, AV.any, AV.any] [none, none, some (Row.gen 9 1 m fun (j : Nat) => AV.str (E j))] F else bif true && decide ((↑k : Int) < (↑n : Int)) then bif decide (0 + (↑k : Int).toNat < ((env56 (roI n N S)).R 0).n) then (m.le m ∧ (∀ (j : Nat), j.succ.le m → AV.str (E j) = AV.str (strOf (AV.str (E j)))) ∧ m.le 4611686018427387904) ∧ ∀ (b : Bool), b = anyE (strG E) m (S (0 + (↑k : Int).toNat)) → bif b then q Exit.ret [AV.sl true 0 0 n Cp.no, AV.any, AV.str s, AV.any, AV.any, AV.any, AV.bool false, AV.sl false 2 0 m Cp.no, AV.int IntKind.i64 (↑k : Int), AV.any, AV.any, AV.any, AV.any, AV.any, AV.any, AV.any, AV.any, AV.any, AV.any, AV.any, AV.any, AV.any, AV.any, AV.any, AV.any, AV.any, AV.any, AV.any, AV.int IntKind.i64 (↑k : Int), AV.bool true, AV.any, AV.any, AV.sl true 0 0 n Cp.no, AV.int IntKind.i64 (↑k : Int), AV.ptr true 0 (0 + (↑k : Int).toNat) 0, AV.ptr true 0 (0 + (↑k : Int).toNat) 1, AV.str (S (0 + (↑k : Int).toNat)), AV.str s, AV.bool false, AV.sl false 2 0 m Cp.no, AV.sl true 0 0 n Cp.no, AV.int IntKind.i64 (↑k : Int), AV.ptr true 0 (0 + (↑k : Int).toNat) 0, AV.ptr true 0 (0 + (↑k : Int).toNat) 1, AV.str (S (0 + (↑k : Int).toNat)), AV.bool true] [none, none, some (Row.gen 9 1 m fun (j : Nat) => AV.str (E j))] F else q Exit.normal [AV.sl true 0 0 n Cp.no, AV.any, AV.str s, AV.any, AV.any, AV.any, AV.bool false, AV.sl false 2 0 m Cp.no, AV.int IntKind.i64 (IntKind.i64.wrap ((↑k : Int) - 1)), AV.any, AV.any, AV.any, AV.any, AV.any, AV.any, AV.any, AV.any, AV.any, AV.any, AV.any, AV.any, AV.any, AV.any, AV.any, AV.any, AV.any, AV.any, AV.any, AV.int IntKind.i64 (↑k : Int), AV.bool true, AV.int IntKind.i64 (↑k : Int), AV.int IntKind.i64 (IntKind.i64.wrap ((↑k : Int) - 1)), AV.sl true 0 0 n Cp.no, AV.int IntKind.i64 (↑k : Int), AV.ptr true 0 (0 + (↑k : Int).toNat) 0, AV.ptr true 0 (0 + (↑k : Int).toNat) 1, AV.str (S (0 + (↑k : Int).toNat)), AV.str s, AV.bool false, AV.sl false 2 0 m Cp.no, AV.sl true 0 0 n Cp.no, AV.int IntKind.i64 (↑k : Int), AV.ptr true 0 (0 + (↑k : Int).toNat) 0, AV.ptr true 0 (0 + (↑k : Int).toNat) 1, AV.str (S (0 + (↑k : Int).toNat)), AV.bool false] [none, none, some (Row.gen 9 1 m fun (j : Nat) => AV.str (E j))] F else False else False else False else False) := by kernel_rfl
theorem vz30B (n : Nat) (N : Nat → Int) (S : Nat → List UInt8) (s : List UInt8) (q : Exit → List AV → Rows → Fz → Prop) (F : Fz)(m : Nat) (E : Nat → List UInt8) : rnx (env56 (roI n N S)) 1000 30 (loopOf fi30 1) ⟨tm30 2 n m s (-1), [none, none, some (.gen 9 1 m (strG E))]⟩ (fun e st => q e st.tmps st.rows) F = (q (Exit.exit 1) [AV.sl true 0 0 n Cp.no, AV.any, AV.str s, AV.any, AV.any, AV.any, AV.bool false, AV.sl false 2 0 m Cp.no, AV.int IntKind.i64 (-1), AV.any, AV.any, AV.any, AV.any, AV.any, AV.any, AV.any, AV.any, AV.any, AV.any, AV.any, AV.any, AV.any, AV.any, AV.any, AV.any, AV.any, AV.any, AV.any, AV.int IntKind.i64 (-1), AV.bool false, AV.any, AV.any, AV.any, AV.any, AV.any, AV.any, AV.any, AV.any, AV.any, AV.any, AV.any, AV.any, AV.any, AV.any, AV.any, AV.any] [none, none, some (Row.gen 9 1 m fun (j : Nat) => AV.str (E j))] F) := by kernel_rfl

theorem blk28 : blockOf fi28 0 = some (.loop (loopOf fi28 0)) := by kernel_rfl
theorem blk30 : blockOf fi30 1 = some (.loop (loopOf fi30 1)) := by kernel_rfl
theorem by5 {R : Nat → RoRow} {f : FuncId} {fi : FI} (hF : lookF fl f = some fi) {i : Nat} {c : Code} (hb : blockOf fi i = some (.loop c)) {st : St} {F : Fz} {k : Exit → St → Fz → Prop} {C : Prop} (n : Nat) (he : Dc.rnx (env56 R) n f c st k F = C) (hc : C) : SafeX Try.prog R [] c st F k noP :=
  SafeX.by mixed (env56_ok R noP) (f := f) hF hb (subs_loop c) n he hc
def impB (x : List UInt8) : Bool := anyE (fun j => impL.getD j .undef) 10 x
def impF (S : Nat → List UInt8) (s : List UInt8) : Nat → Nat
  | 0 => 0
  | n + 1 => bif (!(S n == s)) && impB (S n) then impF S s n else n + 1
theorem impF_le (S : Nat → List UInt8) (s : List UInt8) : ∀ n, impF S s n ≤ n
  | 0 => Nat.le_refl _
  | n + 1 => by
    unfold impF
    cases (!(S n == s)) && impB (S n)
    · exact Nat.le_refl _
    · exact Nat.le_succ_of_le (impF_le S s n)
theorem impL_strs : ∀ e ∈ impL, ∃ t, e = .str t := by
  intro e he
  unfold impL at he
  simp only [List.mem_cons, List.not_mem_nil, or_false] at he
  rcases he with rfl | rfl | rfl | rfl | rfl | rfl | rfl | rfl | rfl | rfl <;> exact ⟨_, rfl⟩
def spec28L (n : Nat) (N : Nat → Int) (S : Nat → List UInt8) (s : List UInt8) : LoopSpX := fun st k F =>
  (n ≤ 4611686018427387904 ∧ nthV st.tmps 0 = .sl true 0 0 n .no ∧ nthV st.tmps 1 = .str s ∧ nthV st.tmps 5 = .int .i64 (n : Nat) ∧ st.tmps.length = 33 ∧ st.rows = []) ∧
  k .normal ⟨tm28 n s (impF S s n : Nat), []⟩ F
theorem spec28L_ok (n : Nat) (N : Nat → Int) (S : Nat → List UInt8) (s : List UInt8) (st : St) (K : Exit → St → Fz → Prop) (F : Fz) (h : spec28L n N S s st K F) : SafeX Try.prog (env56 (roI n N S)).R [] (.block 0 (.loop (loopOf fi28 0))) st F K noP := by
  obtain ⟨⟨hn, h0, h1, h5, hl, hr⟩, hk⟩ := h
  obtain ⟨T, rows⟩ := st
  simp only at hr h0 h1 h5 hl
  subst hr
  have fitR : ∀ {T T' : List AV} {rows : Rows} {F : Fz} {S' : St → Fz → Prop}, VwL (fun _ => Option.none) 0 T T' → S' ⟨T, []⟩ F → ToX (env56 (roI n N S)).R [] 0 ⟨T', rows⟩ F S' := fun {T T' rows F S'} h hs =>
    ToX.fit (stE := ⟨T, []⟩) ⟨fun _ => Option.none, ⟨⟨fun c b hc => absurd hc (Nat.not_lt_zero _), fun c c' b hc => absurd hc (Nat.not_lt_zero _), fun c r hc => by simp [Rows.live] at hc⟩, h⟩, fun c hc => absurd hc (Nat.not_lt_zero _), Nat.le_refl _⟩ (ToX.here hs)
  refine SafeX.loop_block (Inv := fun m st' F' => F' = F ∧ ∃ k, k ≤ n ∧ m = k ∧ impF S s k = impF S s n ∧ st' = ⟨tm28 n s (k : Nat), []⟩) ?_ ?_
  · refine fitR (T := tm28 n s (n : Nat)) ?_ ⟨n, rfl, n, Nat.le_refl _, rfl, rfl, rfl⟩
    rw [tm28_spr]
    exact VwL.ofKnown hl ⟨by rw [h0]; exact Vw.gndI rfl, by rw [h1]; exact Vw.strI, by rw [h5]; exact Vw.intI, trivial⟩
  · rintro k st' F' ⟨rfl, k0, hkn, rfl, him, rfl⟩
    refine by5 (f := 28) (fi := fi28) (by kernel_rfl) blk28 1000 (vr28 n N S s k (fun e T rows F2 => match e with
      | .normal => ToX (env56 (roI n N S)).R [] 0 ⟨T, rows⟩ F2 fun st3 F3 => ∃ n', n' < k ∧ F3 = F' ∧ ∃ k, k ≤ n ∧ n' = k ∧ impF S s k = impF S s n ∧ st3 = ⟨tm28 n s (k : Nat), []⟩
      | e => ToX (env56 (roI n N S)).R [] 0 ⟨T, rows⟩ F2 fun st3 F3 => K (blockExit 0 e) st3 F3) F') ?_
    cases k with
    | zero =>
      refine hcF (by simp) ?_
      have hk : K .normal ⟨tm28 n s (0 : Nat), []⟩ F' := by rw [← him] at hk; exact hk
      refine fitR (T := tm28 n s (0 : Nat)) ?_ hk
      unfold tm28
      (repeat' (first | with_reducible exact VwL.nil | with_reducible refine VwL.cons ?_ ?_ | with_reducible exact Vw.anyI | with_reducible exact Vw.strI | with_reducible exact Vw.boolI | with_reducible exact Vw.intI | with_reducible exact Vw.nilsI | exact Vw.ptrI (by simp) rfl | exact Vw.slI (by simp) rfl | with_reducible refine Vw.aggI ?_ | exact Vw.gndI rfl))
    | succ k =>
      have ew := wrapPred k (by omega)
      have e1 : (0 + (k : Int).toNat) = k := by simp
      refine hcT (by simp only [decide_eq_true_eq]; omega) ?_
      rw [ew]
      have hlt : k < n := hkn
      have hb : (decide (0 ≤ (k : Int)) && decide ((k : Int) < (n : Int))) = true := by rw [Bool.and_eq_true]; exact ⟨decide_eq_true (Int.natCast_nonneg k), decide_eq_true (Int.ofNat_lt.2 hlt)⟩
      refine hcT hb (hcT (dlt hlt) ?_)
      rw [e1]
      refine hcB (fun hs => ?_) (fun hs => ?_)
      · refine hcT hb (hcT (decide_eq_true hlt) ⟨⟨Nat.le_refl _, impL_strs, Nat.le_of_ble_eq_true rfl⟩, ?_⟩)
        intro b hb2
        have hb2 : b = impB (S k) := hb2
        refine hcB (fun h2 => ?_) (fun h2 => ?_)
        · refine fitR (T := tm28 n s (k : Nat)) ?_ ⟨k, by omega, rfl, k, by omega, rfl, by rw [← him]; rw [show impF S s (k + 1) = (bif (!(S k == s)) && impB (S k) then impF S s k else k + 1) from rfl, hs, ← hb2, h2]; rfl, rfl⟩
          unfold tm28
          (repeat' (first | with_reducible exact VwL.nil | with_reducible refine VwL.cons ?_ ?_ | with_reducible exact Vw.anyI | with_reducible exact Vw.strI | with_reducible exact Vw.boolI | with_reducible exact Vw.intI | with_reducible exact Vw.nilsI | exact Vw.ptrI (by simp) rfl | exact Vw.slI (by simp) rfl | with_reducible refine Vw.aggI ?_ | exact Vw.gndI rfl))
        · have hk : K .normal ⟨tm28 n s ((k + 1 : Nat) : Nat), []⟩ F' := by
            have e : impF S s n = k + 1 := by rw [← him]; rw [show impF S s (k + 1) = (bif (!(S k == s)) && impB (S k) then impF S s k else k + 1) from rfl, hs, ← hb2, h2]; rfl
            rw [e] at hk; exact hk
          refine fitR (T := tm28 n s ((k + 1 : Nat) : Nat)) ?_ hk
          unfold tm28
          (repeat' (first | with_reducible exact VwL.nil | with_reducible refine VwL.cons ?_ ?_ | with_reducible exact Vw.anyI | with_reducible exact Vw.strI | with_reducible exact Vw.boolI | with_reducible exact Vw.intI | with_reducible exact Vw.nilsI | exact Vw.ptrI (by simp) rfl | exact Vw.slI (by simp) rfl | with_reducible refine Vw.aggI ?_ | exact Vw.gndI rfl))
      · have hk : K .normal ⟨tm28 n s ((k + 1 : Nat) : Nat), []⟩ F' := by
          have e : impF S s n = k + 1 := by rw [← him]; rw [show impF S s (k + 1) = (bif (!(S k == s)) && impB (S k) then impF S s k else k + 1) from rfl, hs]; rfl
          rw [e] at hk; exact hk
        refine fitR (T := tm28 n s ((k + 1 : Nat) : Nat)) ?_ hk
        unfold tm28
        (repeat' (first | with_reducible exact VwL.nil | with_reducible refine VwL.cons ?_ ?_ | with_reducible exact Vw.anyI | with_reducible exact Vw.strI | with_reducible exact Vw.boolI | with_reducible exact Vw.intI | with_reducible exact Vw.nilsI | exact Vw.ptrI (by simp) rfl | exact Vw.slI (by simp) rfl | with_reducible refine Vw.aggI ?_ | exact Vw.gndI rfl))
/-- What the last so many items say, the last one first. -/
def outR (S : Nat → List UInt8) (s : List UInt8) (e : List UInt8 → Bool) : Nat → Option Bool
  | 0 => none
  | n + 1 => bif S n == s then some true else bif e (S n) then some false else outR S s e n
def spec30L (n : Nat) (N : Nat → Int) (S : Nat → List UInt8) (s : List UInt8) : LoopSpX := fun st k F =>
  (n ≤ 4611686018427387904 ∧ nthV st.tmps 0 = .sl true 0 0 n .no ∧ nthV st.tmps 2 = .str s ∧ nthV st.tmps 6 = .bool false ∧ nthV st.tmps 8 = .int .i64 ((n : Nat) - 1 : Int) ∧ st.tmps.length = 46) ∧
  match st.rows with
  | [some (.lst 9 1 els)] => match nthV st.tmps 7 with
    | .sl false 0 0 m _ => (m ≤ els.length ∧ m ≤ 100 ∧ (∀ e ∈ els, ∃ t, e = .str t)) ∧ ∀ e : List UInt8 → Bool, (∀ x, e x = anyE (fun j => els.getD j .undef) m x) → (∀ b, outR S s e n = some b → k .ret ⟨tm30r b, [none]⟩ F) ∧ (outR S s e n = none → k .normal ⟨tm30r false, [none]⟩ F)
    | _ => False
  | [_, _, some (.lst 9 1 els)] => match nthV st.tmps 7 with
    | .sl false 2 0 m _ => (m ≤ els.length ∧ m ≤ 100 ∧ (∀ e ∈ els, ∃ t, e = .str t)) ∧ ∀ e : List UInt8 → Bool, (∀ x, e x = anyE (fun j => els.getD j .undef) m x) → (∀ b, outR S s e n = some b → k .ret ⟨tm30r b, [none, none, none]⟩ F) ∧ (outR S s e n = none → k .normal ⟨tm30r false, [none, none, none]⟩ F)
    | _ => False
  | _ => False
theorem anyE_congr {G G' : Nat → AV} {s : List UInt8} : ∀ {n : Nat}, (∀ j, j < n → strOf (G j) = strOf (G' j)) → anyE G n s = anyE G' n s
  | 0, _ => rfl
  | n + 1, h => by
    have ih := anyE_congr (G := G) (G' := G') (s := s) (n := n) (fun j hj => h j (by omega))
    unfold anyE at ih ⊢
    simp only [anyS]
    rw [ih, h n (by omega)]

theorem anyS_congr {S S' : Nat → List UInt8} {s : List UInt8} : ∀ {n : Nat}, (∀ j, j < n → S j = S' j) → anyS S s n = anyS S' s n
  | 0, _ => rfl
  | n + 1, h => by
    simp only [anyS]
    rw [anyS_congr (n := n) (fun j hj => h j (by omega)), h n (by omega)]
theorem vgen {E : Nat → List UInt8} {m : Nat} : (Row.gen 9 1 m fun j => AV.str (E j)) = Row.gen 9 1 m (strG E) := rfl

theorem loop30A (n m : Nat) (N : Nat → Int) (S : Nat → List UInt8) (s : List UInt8) (els : List AV) (T : List AV) (rows : Rows) (K : Exit → St → Fz → Prop) (F : Fz) (hn : n ≤ 4611686018427387904) (hm : m ≤ els.length) (hm1 : m ≤ 100) (hels : ∀ e ∈ els, ∃ t, e = .str t)
    (h0 : nthV T 0 = .sl true 0 0 n .no) (h2 : nthV T 2 = .str s) (h6 : nthV T 6 = .bool false) (h7 : ∃ c, nthV T 7 = .sl false 0 0 m c) (h8 : nthV T 8 = .int .i64 ((n : Nat) - 1 : Int)) (hl : T.length = 46) (hr : rows.length = 1) (hq : Rows.live rows 0 = some (.lst 9 1 els))
    (hk : match outR S s (anyE (fun j => els.getD j .undef) m) n with | some b => K .ret ⟨tm30r b, [none]⟩ F | none => K .normal ⟨tm30r false, [none]⟩ F) :
    SafeX Try.prog (env56 (roI n N S)).R [] (.block 1 (.loop (loopOf fi30 1))) ⟨T, rows⟩ F K noP := by
  have hfit : ∀ {T T' : List AV} {o : Option Row} {F : Fz} {S' : St → Fz → Prop}, VwL some 1 T T' → S' ⟨T, [none]⟩ F → ToX (env56 (roI n N S)).R [] 1 ⟨T', [o]⟩ F S' := fun {T T' o F S'} h hs =>
    ToX.fitS some (stE := ⟨T, [none]⟩) (ViewS.of (fun c o' ho => by
      have := List.mem_of_getElem? ho
      simp only [List.mem_cons, List.not_mem_nil, or_false, or_self] at this
      subst this; exact ViewT.none) (fun c c' b _ _ h1 h2 => by cases h1; cases h2; rfl)) h (fun _ _ => rfl) (Nat.le_refl _) (ToX.here hs)
  obtain ⟨E, hE⟩ : ∃ E : Nat → List UInt8, E = fun j => strOf (els.getD j .undef) := ⟨_, rfl⟩
  have heq : ∀ x, anyE (strG E) m x = anyE (fun j => els.getD j .undef) m x := fun x => anyE_congr (fun j _ => by rw [hE]; rfl)
  have hgen : RowS some 1 (.gen 9 1 m (strG E)) (.lst 9 1 els) := RowS.lstgen hm fun i hi => ⟨rfl, els.getD i .undef, by simp [List.getD, List.getElem?_eq_getElem (show i < els.length by omega)], by
    obtain ⟨t, ht⟩ := hels (els.getD i .undef) (by simp [List.getD, List.getElem?_eq_getElem (show i < els.length by omega)])
    rw [hE]; show Vw _ _ (.str (strOf (els.getD i .undef))) _; rw [ht]; exact Vw.strI⟩
  refine SafeX.loop_block (Inv := fun mm st' F' => F' = F ∧ ∃ k, k ≤ n ∧ mm = k ∧ outR S s (anyE (fun j => els.getD j .undef) m) k = outR S s (anyE (fun j => els.getD j .undef) m) n ∧ st' = ⟨tm30 0 n m s ((k : Nat) - 1 : Int), [some (.gen 9 1 m (strG E))]⟩) ?_ ?_
  · simp only [hr]
    refine ToX.fitS some (stE := ⟨tm30 0 n m s ((n : Nat) - 1 : Int), [some (.gen 9 1 m (strG E))]⟩) (ViewS.of (fun c o ho => ?_) (fun c c' b _ _ h1 h2 => by cases h1; cases h2; rfl)) ?_ (fun _ _ => rfl) (Nat.le_refl _) (ToX.here ⟨n, rfl, n, Nat.le_refl _, rfl, rfl, rfl⟩)
    · match c, ho with
      | 0, ho => cases ho; exact ViewT.at_ (b := 0) rfl hq hgen
      | c + 1, ho => simp at ho
    · rw [tm30_spr]
      obtain ⟨c, h7⟩ := h7
      exact VwL.ofKnown hl ⟨by rw [h0]; exact Vw.gndI rfl, by rw [h2]; exact Vw.strI, by rw [h6]; exact Vw.boolI, by rw [h7]; exact Vw.slE (by simp) rfl, by rw [h8]; exact Vw.intI, trivial⟩
  · simp only [hr]
    rintro k st' F' ⟨rfl, k0, hkn, rfl, him, rfl⟩
    cases k with
    | zero =>
      refine by5 (f := 30) (fi := fi30) (by kernel_rfl) blk30 1000 (vz30A n N S s (fun e T rows F2 => match e with
        | .normal => ToX (env56 (roI n N S)).R [] 1 ⟨T, rows⟩ F2 fun st3 F3 => ∃ n', n' < 0 ∧ F3 = F' ∧ ∃ k, k ≤ n ∧ n' = k ∧ outR S s (anyE (fun j => els.getD j .undef) m) k = outR S s (anyE (fun j => els.getD j .undef) m) n ∧ st3 = ⟨tm30 0 n m s ((k : Nat) - 1 : Int), [some (.gen 9 1 m (strG E))]⟩
        | e => ToX (env56 (roI n N S)).R [] 1 ⟨T, rows⟩ F2 fun st3 F3 => K (blockExit 1 e) st3 F3) F' m E) ?_
      rw [← him] at hk
      refine hfit (T := tm30r false) ?_ hk
      unfold tm30r
      (repeat' (first | with_reducible exact VwL.nil | with_reducible refine VwL.cons ?_ ?_ | with_reducible exact Vw.anyI | with_reducible exact Vw.strI | with_reducible exact Vw.boolI | with_reducible exact Vw.intI | with_reducible exact Vw.nilsI | exact Vw.ptrI (by simp) rfl | exact Vw.slI (by simp) rfl | with_reducible refine Vw.aggI ?_ | exact Vw.gndI rfl))
    | succ k =>
      have e0 : (((k + 1 : Nat) : Int) - 1) = (k : Int) := by omega
      rw [e0]
      refine by5 (f := 30) (fi := fi30) (by kernel_rfl) blk30 1000 (vr30A n N S s k (fun e T rows F2 => match e with
        | .normal => ToX (env56 (roI n N S)).R [] 1 ⟨T, rows⟩ F2 fun st3 F3 => ∃ n', n' < k + 1 ∧ F3 = F' ∧ ∃ k, k ≤ n ∧ n' = k ∧ outR S s (anyE (fun j => els.getD j .undef) m) k = outR S s (anyE (fun j => els.getD j .undef) m) n ∧ st3 = ⟨tm30 0 n m s ((k : Nat) - 1 : Int), [some (.gen 9 1 m (strG E))]⟩
        | e => ToX (env56 (roI n N S)).R [] 1 ⟨T, rows⟩ F2 fun st3 F3 => K (blockExit 1 e) st3 F3) F' m E) ?_
      have e1 : (0 + (k : Int).toNat) = k := by simp
      have hlt : k < n := hkn
      have hb : (true && decide ((k : Int) < (n : Int))) = true := by rw [Bool.true_and]; exact decide_eq_true (Int.ofNat_lt.2 hlt)
      refine hcT hb (hcT (dlt hlt) ?_)
      rw [e1]
      have ho : outR S s (anyE (fun j => els.getD j .undef) m) (k + 1) = (bif S k == s then some true else bif anyE (fun j => els.getD j .undef) m (S k) then some false else outR S s (anyE (fun j => els.getD j .undef) m) k) := rfl
      rw [ho] at him
      refine hcB (fun hs => ?_) (fun hs => ?_)
      · rw [hs, cond_true] at him
        rw [← him] at hk
        refine hfit (T := tm30r true) ?_ hk
        unfold tm30r
        (repeat' (first | with_reducible exact VwL.nil | with_reducible refine VwL.cons ?_ ?_ | with_reducible exact Vw.anyI | with_reducible exact Vw.strI | with_reducible exact Vw.boolI | with_reducible exact Vw.intI | with_reducible exact Vw.nilsI | exact Vw.ptrI (by simp) rfl | exact Vw.slI (by simp) rfl | with_reducible refine Vw.aggI ?_ | exact Vw.gndI rfl))
      · rw [hs, cond_false] at him
        refine hcT hb (hcT (decide_eq_true hlt) ⟨⟨Nat.le_refl _, fun j hj => rfl, (show m ≤ 4611686018427387904 from by omega)⟩, ?_⟩)
        intro b hb2
        rw [heq] at hb2
        refine hcB (fun h2 => ?_) (fun h2 => ?_)
        · rw [← hb2, h2, cond_true] at him
          rw [← him] at hk
          refine hfit (T := tm30r false) ?_ hk
          unfold tm30r
          (repeat' (first | with_reducible exact VwL.nil | with_reducible refine VwL.cons ?_ ?_ | with_reducible exact Vw.anyI | with_reducible exact Vw.strI | with_reducible exact Vw.boolI | with_reducible exact Vw.intI | with_reducible exact Vw.nilsI | exact Vw.ptrI (by simp) rfl | exact Vw.slI (by simp) rfl | with_reducible refine Vw.aggI ?_ | exact Vw.gndI rfl))
        · rw [← hb2, h2, cond_false] at him
          refine ToX.fitS some (stE := ⟨tm30 0 n m s ((k : Nat) - 1 : Int), [some (.gen 9 1 m (strG E))]⟩) (ViewS.of (fun c o ho => ?_) (fun c c' b _ _ h1 h2 => by cases h1; cases h2; rfl)) ?_ (fun _ _ => rfl) (Nat.le_refl _) (ToX.here ⟨k, by omega, rfl, k, by omega, rfl, him, rfl⟩)
          · match c, ho with
            | 0, ho => cases ho; exact ViewT.at_ (b := 0) rfl rfl (RowS.gen (Nat.le_refl _) fun i hi => ⟨rfl, Vw.strI⟩)
            | c + 1, ho => simp at ho
          · have ew : IntKind.i64.wrap ((k : Int) - 1) = (k : Int) - 1 := wrapI64 _ (by omega) (by omega)
            rw [ew]
            unfold tm30
            (repeat' (first | with_reducible exact VwL.nil | with_reducible refine VwL.cons ?_ ?_ | with_reducible exact Vw.anyI | with_reducible exact Vw.strI | with_reducible exact Vw.boolI | with_reducible exact Vw.intI | with_reducible exact Vw.nilsI | exact Vw.ptrI (by simp) rfl | exact Vw.slI (by simp) rfl | with_reducible refine Vw.aggI ?_ | exact Vw.gndI rfl))

theorem loop30B (n m : Nat) (N : Nat → Int) (S : Nat → List UInt8) (s : List UInt8) (els : List AV) (T : List AV) (rows : Rows) (K : Exit → St → Fz → Prop) (F : Fz) (hn : n ≤ 4611686018427387904) (hm : m ≤ els.length) (hm1 : m ≤ 100) (hels : ∀ e ∈ els, ∃ t, e = .str t)
    (h0 : nthV T 0 = .sl true 0 0 n .no) (h2 : nthV T 2 = .str s) (h6 : nthV T 6 = .bool false) (h7 : ∃ c, nthV T 7 = .sl false 2 0 m c) (h8 : nthV T 8 = .int .i64 ((n : Nat) - 1 : Int)) (hl : T.length = 46) (hr : rows.length = 3) (hq : Rows.live rows 2 = some (.lst 9 1 els))
    (hk : match outR S s (anyE (fun j => els.getD j .undef) m) n with | some b => K .ret ⟨tm30r b, [none, none, none]⟩ F | none => K .normal ⟨tm30r false, [none, none, none]⟩ F) :
    SafeX Try.prog (env56 (roI n N S)).R [] (.block 1 (.loop (loopOf fi30 1))) ⟨T, rows⟩ F K noP := by
  have hfit : ∀ {T T' : List AV} {o : Option Row} {F : Fz} {S' : St → Fz → Prop}, VwL some 3 T T' → S' ⟨T, [none, none, none]⟩ F → ToX (env56 (roI n N S)).R [] 3 ⟨T', [none, none, o]⟩ F S' := fun {T T' o F S'} h hs =>
    ToX.fitS some (stE := ⟨T, [none, none, none]⟩) (ViewS.of (fun c o' ho => by
      have := List.mem_of_getElem? ho
      simp only [List.mem_cons, List.not_mem_nil, or_false, or_self] at this
      subst this; exact ViewT.none) (fun c c' b _ _ h1 h2 => by cases h1; cases h2; rfl)) h (fun _ _ => rfl) (Nat.le_refl _) (ToX.here hs)
  obtain ⟨E, hE⟩ : ∃ E : Nat → List UInt8, E = fun j => strOf (els.getD j .undef) := ⟨_, rfl⟩
  have heq : ∀ x, anyE (strG E) m x = anyE (fun j => els.getD j .undef) m x := fun x => anyE_congr (fun j _ => by rw [hE]; rfl)
  have hgen : RowS some 3 (.gen 9 1 m (strG E)) (.lst 9 1 els) := RowS.lstgen hm fun i hi => ⟨rfl, els.getD i .undef, by simp [List.getD, List.getElem?_eq_getElem (show i < els.length by omega)], by
    obtain ⟨t, ht⟩ := hels (els.getD i .undef) (by simp [List.getD, List.getElem?_eq_getElem (show i < els.length by omega)])
    rw [hE]; show Vw _ _ (.str (strOf (els.getD i .undef))) _; rw [ht]; exact Vw.strI⟩
  refine SafeX.loop_block (Inv := fun mm st' F' => F' = F ∧ ∃ k, k ≤ n ∧ mm = k ∧ outR S s (anyE (fun j => els.getD j .undef) m) k = outR S s (anyE (fun j => els.getD j .undef) m) n ∧ st' = ⟨tm30 2 n m s ((k : Nat) - 1 : Int), [none, none, some (.gen 9 1 m (strG E))]⟩) ?_ ?_
  · simp only [hr]
    refine ToX.fitS some (stE := ⟨tm30 2 n m s ((n : Nat) - 1 : Int), [none, none, some (.gen 9 1 m (strG E))]⟩) (ViewS.of (fun c o ho => ?_) (fun c c' b _ _ h1 h2 => by cases h1; cases h2; rfl)) ?_ (fun _ _ => rfl) (Nat.le_refl _) (ToX.here ⟨n, rfl, n, Nat.le_refl _, rfl, rfl, rfl⟩)
    · match c, ho with
      | 0, ho => cases ho; exact ViewT.none
      | 1, ho => cases ho; exact ViewT.none
      | 2, ho => cases ho; exact ViewT.at_ (b := 2) rfl hq hgen
      | c + 3, ho => simp at ho
    · rw [tm30_spr]
      obtain ⟨c, h7⟩ := h7
      exact VwL.ofKnown hl ⟨by rw [h0]; exact Vw.gndI rfl, by rw [h2]; exact Vw.strI, by rw [h6]; exact Vw.boolI, by rw [h7]; exact Vw.slE (by simp) rfl, by rw [h8]; exact Vw.intI, trivial⟩
  · simp only [hr]
    rintro k st' F' ⟨rfl, k0, hkn, rfl, him, rfl⟩
    cases k with
    | zero =>
      refine by5 (f := 30) (fi := fi30) (by kernel_rfl) blk30 1000 (vz30B n N S s (fun e T rows F2 => match e with
        | .normal => ToX (env56 (roI n N S)).R [] 3 ⟨T, rows⟩ F2 fun st3 F3 => ∃ n', n' < 0 ∧ F3 = F' ∧ ∃ k, k ≤ n ∧ n' = k ∧ outR S s (anyE (fun j => els.getD j .undef) m) k = outR S s (anyE (fun j => els.getD j .undef) m) n ∧ st3 = ⟨tm30 2 n m s ((k : Nat) - 1 : Int), [none, none, some (.gen 9 1 m (strG E))]⟩
        | e => ToX (env56 (roI n N S)).R [] 3 ⟨T, rows⟩ F2 fun st3 F3 => K (blockExit 1 e) st3 F3) F' m E) ?_
      rw [← him] at hk
      refine hfit (T := tm30r false) ?_ hk
      unfold tm30r
      (repeat' (first | with_reducible exact VwL.nil | with_reducible refine VwL.cons ?_ ?_ | with_reducible exact Vw.anyI | with_reducible exact Vw.strI | with_reducible exact Vw.boolI | with_reducible exact Vw.intI | with_reducible exact Vw.nilsI | exact Vw.ptrI (by simp) rfl | exact Vw.slI (by simp) rfl | with_reducible refine Vw.aggI ?_ | exact Vw.gndI rfl))
    | succ k =>
      have e0 : (((k + 1 : Nat) : Int) - 1) = (k : Int) := by omega
      rw [e0]
      refine by5 (f := 30) (fi := fi30) (by kernel_rfl) blk30 1000 (vr30B n N S s k (fun e T rows F2 => match e with
        | .normal => ToX (env56 (roI n N S)).R [] 3 ⟨T, rows⟩ F2 fun st3 F3 => ∃ n', n' < k + 1 ∧ F3 = F' ∧ ∃ k, k ≤ n ∧ n' = k ∧ outR S s (anyE (fun j => els.getD j .undef) m) k = outR S s (anyE (fun j => els.getD j .undef) m) n ∧ st3 = ⟨tm30 2 n m s ((k : Nat) - 1 : Int), [none, none, some (.gen 9 1 m (strG E))]⟩
        | e => ToX (env56 (roI n N S)).R [] 3 ⟨T, rows⟩ F2 fun st3 F3 => K (blockExit 1 e) st3 F3) F' m E) ?_
      have e1 : (0 + (k : Int).toNat) = k := by simp
      have hlt : k < n := hkn
      have hb : (true && decide ((k : Int) < (n : Int))) = true := by rw [Bool.true_and]; exact decide_eq_true (Int.ofNat_lt.2 hlt)
      refine hcT hb (hcT (dlt hlt) ?_)
      rw [e1]
      have ho : outR S s (anyE (fun j => els.getD j .undef) m) (k + 1) = (bif S k == s then some true else bif anyE (fun j => els.getD j .undef) m (S k) then some false else outR S s (anyE (fun j => els.getD j .undef) m) k) := rfl
      rw [ho] at him
      refine hcB (fun hs => ?_) (fun hs => ?_)
      · rw [hs, cond_true] at him
        rw [← him] at hk
        refine hfit (T := tm30r true) ?_ hk
        unfold tm30r
        (repeat' (first | with_reducible exact VwL.nil | with_reducible refine VwL.cons ?_ ?_ | with_reducible exact Vw.anyI | with_reducible exact Vw.strI | with_reducible exact Vw.boolI | with_reducible exact Vw.intI | with_reducible exact Vw.nilsI | exact Vw.ptrI (by simp) rfl | exact Vw.slI (by simp) rfl | with_reducible refine Vw.aggI ?_ | exact Vw.gndI rfl))
      · rw [hs, cond_false] at him
        refine hcT hb (hcT (decide_eq_true hlt) ⟨⟨Nat.le_refl _, fun j hj => rfl, (show m ≤ 4611686018427387904 from by omega)⟩, ?_⟩)
        intro b hb2
        rw [heq] at hb2
        refine hcB (fun h2 => ?_) (fun h2 => ?_)
        · rw [← hb2, h2, cond_true] at him
          rw [← him] at hk
          refine hfit (T := tm30r false) ?_ hk
          unfold tm30r
          (repeat' (first | with_reducible exact VwL.nil | with_reducible refine VwL.cons ?_ ?_ | with_reducible exact Vw.anyI | with_reducible exact Vw.strI | with_reducible exact Vw.boolI | with_reducible exact Vw.intI | with_reducible exact Vw.nilsI | exact Vw.ptrI (by simp) rfl | exact Vw.slI (by simp) rfl | with_reducible refine Vw.aggI ?_ | exact Vw.gndI rfl))
        · rw [← hb2, h2, cond_false] at him
          refine ToX.fitS some (stE := ⟨tm30 2 n m s ((k : Nat) - 1 : Int), [none, none, some (.gen 9 1 m (strG E))]⟩) (ViewS.of (fun c o ho => ?_) (fun c c' b _ _ h1 h2 => by cases h1; cases h2; rfl)) ?_ (fun _ _ => rfl) (Nat.le_refl _) (ToX.here ⟨k, by omega, rfl, k, by omega, rfl, him, rfl⟩)
          · match c, ho with
            | 0, ho => cases ho; exact ViewT.none
            | 1, ho => cases ho; exact ViewT.none
            | 2, ho => cases ho; exact ViewT.at_ (b := 2) rfl rfl (RowS.gen (Nat.le_refl _) fun i hi => ⟨rfl, Vw.strI⟩)
            | c + 3, ho => simp at ho
          · have ew : IntKind.i64.wrap ((k : Int) - 1) = (k : Int) - 1 := wrapI64 _ (by omega) (by omega)
            rw [ew]
            unfold tm30
            (repeat' (first | with_reducible exact VwL.nil | with_reducible refine VwL.cons ?_ ?_ | with_reducible exact Vw.anyI | with_reducible exact Vw.strI | with_reducible exact Vw.boolI | with_reducible exact Vw.intI | with_reducible exact Vw.nilsI | exact Vw.ptrI (by simp) rfl | exact Vw.slI (by simp) rfl | with_reducible refine Vw.aggI ?_ | exact Vw.gndI rfl))

theorem outM {o : Option Bool} {A : Bool → Prop} {B : Prop} (h : (∀ b, o = some b → A b) ∧ (o = none → B)) : match o with | some b => A b | none => B := by
  cases o with
  | none => exact h.2 rfl
  | some b => exact h.1 b rfl
theorem spec30L_ok (n : Nat) (N : Nat → Int) (S : Nat → List UInt8) (s : List UInt8) (st : St) (K : Exit → St → Fz → Prop) (F : Fz) (h : spec30L n N S s st K F) : SafeX Try.prog (env56 (roI n N S)).R [] (.block 1 (.loop (loopOf fi30 1))) st F K noP := by
  obtain ⟨⟨hn, h0, h2, h6, h8, hl⟩, h⟩ := h
  obtain ⟨T, rows⟩ := st
  simp only at h0 h2 h6 h8 hl h
  split at h
  · rename_i els
    split at h
    · rename_i m c h7
      obtain ⟨⟨hm, hm1, hels⟩, hk⟩ := h
      exact loop30A n m N S s els T _ K F hn hm hm1 hels h0 h2 h6 ⟨_, h7⟩ h8 hl rfl rfl (by have hh := hk _ (fun _ => rfl); revert hh; cases outR S s (anyE (fun j => els.getD j .undef) m) n with | none => exact fun hh => hh.2 rfl | some b => exact fun hh => hh.1 b rfl)
    · exact h.elim
  · rename_i els
    split at h
    · rename_i m c h7
      obtain ⟨⟨hm, hm1, hels⟩, hk⟩ := h
      exact loop30B n m N S s els T _ K F hn hm hm1 hels h0 h2 h6 ⟨_, h7⟩ h8 hl rfl rfl (by have hh := hk _ (fun _ => rfl); revert hh; cases outR S s (anyE (fun j => els.getD j .undef) m) n with | none => exact fun hh => hh.2 rfl | some b => exact fun hh => hh.1 b rfl)
    · exact h.elim
  · exact h.elim

end Go.Dc.Kb
end
section
set_option linter.unusedVariables false
set_option linter.unusedSimpArgs false
namespace Go.Dc.Kb
open Go.Proofs Go.RowKit
set_option maxRecDepth 100000
theorem vc28 (n : Nat) (N : Nat → Int) (S : Nat → List UInt8) (s : List UInt8) (q : AV → Fz → Prop) (F : Fz) : vcx ((env56 (roI n N S)).addLoop 28 0 (spec28L n N S s)) 1000 28 fi28 [.sl true 0 0 n .no, .str s] [] (fun v _ F => q v F) F = ((n.le 4611686018427387904 ∧ AV.sl true 0 0 n Cp.no = AV.sl true 0 0 n Cp.no ∧ AV.str s = AV.str s ∧ AV.int IntKind.i64 (↑n : Int) = AV.int IntKind.i64 (↑n : Int) ∧ 33 = 33 ∧ ([] : Rows) = []) ∧ q (AV.int IntKind.i64 (↑(impF S s n) : Int)) F) := by kernel_rfl
theorem vc30 (n : Nat) (N : Nat → Int) (S : Nat → List UInt8) (s : List UInt8) (q : AV → Fz → Prop) (F : Fz)(sc : Int) : vcx ((env56 (roI n N S)).addLoop 30 1 (spec30L n N S s)) 1000 30 fi30 [.sl true 0 0 n .no, .int .i64 sc, .str s] [] (fun v _ F => q v F) F = (bif sc == 1 then (n.le 4611686018427387904 ∧ AV.sl true 0 0 n Cp.no = AV.sl true 0 0 n Cp.no ∧ AV.str s = AV.str s ∧ AV.bool false = AV.bool false ∧ AV.int IntKind.i64 (IntKind.i64.wrap ((↑n : Int) - 1)) = AV.int IntKind.i64 ((↑n : Int) - 1) ∧ 46 = 46) ∧ (Nat.le 11 11 ∧ Nat.le 11 100 ∧ ∀ (e : AV), List.Mem e [AV.str [104, 116, 109, 108], AV.str [116, 97, 98, 108, 101], AV.str [116, 101, 109, 112, 108, 97, 116, 101], AV.str [116, 100], AV.str [116, 104], AV.str [99, 97, 112, 116, 105, 111, 110], AV.str [109, 97, 114, 113, 117, 101, 101], AV.str [111, 98, 106, 101, 99, 116], AV.str [97, 112, 112, 108, 101, 116], AV.str [111, 108], AV.str [117, 108]] → ∃ (t : List UInt8), e = AV.str t) ∧ ∀ (e : List UInt8 → Bool), (∀ (x : List UInt8), e x = anyE (fun (j : Nat) => [AV.str (ByteArray.mk #[104, 116, 109, 108]).data.toList, AV.str (ByteArray.mk #[116, 97, 98, 108, 101]).data.toList, AV.str (ByteArray.mk #[116, 101, 109, 112, 108, 97, 116, 101]).data.toList, AV.str (ByteArray.mk #[116, 100]).data.toList, AV.str (ByteArray.mk #[116, 104]).data.toList, AV.str (ByteArray.mk #[99, 97, 112, 116, 105, 111, 110]).data.toList, AV.str (ByteArray.mk #[109, 97, 114, 113, 117, 101, 101]).data.toList, AV.str (ByteArray.mk #[111, 98, 106, 101, 99, 116]).data.toList, AV.str (ByteArray.mk #[97, 112, 112, 108, 101, 116]).data.toList, AV.str (ByteArray.mk #[111, 108]).data.toList, AV.str (ByteArray.mk #[117, 108]).data.toList].getD j AV.undef) 11 x) → (∀ (b : Bool), outR S s e n = some b → q (AV.bool b) F) ∧ (outR S s e n = none → q (AV.bool false) F) else bif sc == 2 then (n.le 4611686018427387904 ∧ AV.sl true 0 0 n Cp.no = AV.sl true 0 0 n Cp.no ∧ AV.str s = AV.str s ∧ AV.bool false = AV.bool false ∧ AV.int IntKind.i64 (IntKind.i64.wrap ((↑n : Int) - 1)) = AV.int IntKind.i64 ((↑n : Int) - 1) ∧ 46 = 46) ∧ (Nat.le 10 10 ∧ Nat.le 10 100 ∧ ∀ (e : AV), List.Mem e [AV.str [104, 116, 109, 108], AV.str [116, 97, 98, 108, 101], AV.str [116, 101, 109, 112, 108, 97, 116, 101], AV.str [116, 100], AV.str [116, 104], AV.str [99, 97, 112, 116, 105, 111, 110], AV.str [109, 97, 114, 113, 117, 101, 101], AV.str [111, 98, 106, 101, 99, 116], AV.str [97, 112, 112, 108, 101, 116], AV.str [98, 117, 116, 116, 111, 110]] → ∃ (t : List UInt8), e = AV.str t) ∧ ∀ (e : List UInt8 → Bool), (∀ (x : List UInt8), e x = anyE (fun (j : Nat) => [AV.str (ByteArray.mk #[104, 116, 109, 108]).data.toList, AV.str (ByteArray.mk #[116, 97, 98, 108, 101]).data.toList, AV.str (ByteArray.mk #[116, 101, 109, 112, 108, 97, 116, 101]).data.toList, AV.str (ByteArray.mk #[116, 100]).data.toList, AV.str (ByteArray.mk #[116, 104]).data.toList, AV.str (ByteArray.mk #[99, 97, 112, 116, 105, 111, 110]).data.toList, AV.str (ByteArray.mk #[109, 97, 114, 113, 117, 101, 101]).data.toList, AV.str (ByteArray.mk #[111, 98, 106, 101, 99, 116]).data.toList, AV.str (ByteArray.mk #[97, 112, 112, 108, 101, 116]).data.toList, AV.str (ByteArray.mk #[98, 117, 116, 116, 111, 110]).data.toList].getD j AV.undef) 10 x) → (∀ (b : Bool), outR S s e n = some b → q (AV.bool b) F) ∧ (outR S s e n = none → q (AV.bool false) F) else bif sc == 3 then (n.le 4611686018427387904 ∧ AV.sl true 0 0 n Cp.no = AV.sl true 0 0 n Cp.no ∧ AV.str s = AV.str s ∧ AV.bool false = AV.bool false ∧ AV.int IntKind.i64 (IntKind.i64.wrap ((↑n : Int) - 1)) = AV.int IntKind.i64 ((↑n : Int) - 1) ∧ 46 = 46) ∧ (Nat.le 3 9 ∧ Nat.le 3 100 ∧ ∀ (e : AV), List.Mem e [AV.str [104, 116, 109, 108], AV.str [116, 97, 98, 108, 101], AV.str [116, 101, 109, 112, 108, 97, 116, 101], AV.str [116, 100], AV.str [116, 104], AV.str [99, 97, 112, 116, 105, 111, 110], AV.str [109, 97, 114, 113, 117, 101, 101], AV.str [111, 98, 106, 101, 99, 116], AV.str [97, 112, 112, 108, 101, 116]] → ∃ (t : List UInt8), e = AV.str t) ∧ ∀ (e : List UInt8 → Bool), (∀ (x : List UInt8), e x = anyE (fun (j : Nat) => [AV.str (ByteArray.mk #[104, 116, 109, 108]).data.toList, AV.str (ByteArray.mk #[116, 97, 98, 108, 101]).data.toList, AV.str (ByteArray.mk #[116, 101, 109, 112, 108, 97, 116, 101]).data.toList, AV.str (ByteArray.mk #[116, 100]).data.toList, AV.str (ByteArray.mk #[116, 104]).data.toList, AV.str (ByteArray.mk #[99, 97, 112, 116, 105, 111, 110]).data.toList, AV.str (ByteArray.mk #[109, 97, 114, 113, 117, 101, 101]).data.toList, AV.str (ByteArray.mk #[111, 98, 106, 101, 99, 116]).data.toList, AV.str (ByteArray.mk #[97, 112, 112, 108, 101, 116]).data.toList].getD j AV.undef) 3 x) → (∀ (b : Bool), outR S s e n = some b → q (AV.bool b) F) ∧ (outR S s e n = none → q (AV.bool false) F) else (n.le 4611686018427387904 ∧ AV.sl true 0 0 n Cp.no = AV.sl true 0 0 n Cp.no ∧ AV.str s = AV.str s ∧ AV.bool false = AV.bool false ∧ AV.int IntKind.i64 (IntKind.i64.wrap ((↑n : Int) - 1)) = AV.int IntKind.i64 ((↑n : Int) - 1) ∧ 46 = 46) ∧ (Nat.le 9 9 ∧ Nat.le 9 100 ∧ ∀ (e : AV), List.Mem e [AV.str [104, 116, 109, 108], AV.str [116, 97, 98, 108, 101], AV.str [116, 101, 109, 112, 108, 97, 116, 101], AV.str [116, 100], AV.str [116, 104], AV.str [99, 97, 112, 116, 105, 111, 110], AV.str [109, 97, 114, 113, 117, 101, 101], AV.str [111, 98, 106, 101, 99, 116], AV.str [97, 112, 112, 108, 101, 116]] → ∃ (t : List UInt8), e = AV.str t) ∧ ∀ (e : List UInt8 → Bool), (∀ (x : List UInt8), e x = anyE (fun (j : Nat) => [AV.str (ByteArray.mk #[104, 116, 109, 108]).data.toList, AV.str (ByteArray.mk #[116, 97, 98, 108, 101]).data.toList, AV.str (ByteArray.mk #[116, 101, 109, 112, 108, 97, 116, 101]).data.toList, AV.str (ByteArray.mk #[116, 100]).data.toList, AV.str (ByteArray.mk #[116, 104]).data.toList, AV.str (ByteArray.mk #[99, 97, 112, 116, 105, 111, 110]).data.toList, AV.str (ByteArray.mk #[109, 97, 114, 113, 117, 101, 101]).data.toList, AV.str (ByteArray.mk #[111, 98, 106, 101, 99, 116]).data.toList, AV.str (ByteArray.mk #[97, 112, 112, 108, 101, 116]).data.toList].getD j AV.undef) 9 x) → (∀ (b : Bool), outR S s e n = some b → q (AV.bool b) F) ∧ (outR S s e n = none → q (AV.bool false) F)) := by kernel_rfl

theorem safe28 (n : Nat) (N : Nat → Int) (S : Nat → List UInt8) (s : List UInt8) (F : Fz) (hn : n ≤ 4611686018427387904) : SafeCallX Try.prog (roI n N S) 28 [.sl true 0 0 n .no, .str s] [] F (fun v _ _ => v = .int .i64 (impF S s n : Nat)) noP := by
  refine byX ((env56_ok (roI n N S) noP).addLoop (f := 28) (fi := fi28) (by kernel_rfl) blk28 (spec28L_ok n N S s)) (f := 28) (fi := fi28) (by kernel_rfl) 1000 (vc28 n N S s (fun v _ => v = .int .i64 (impF S s n : Nat)) F) ⟨⟨hn, rfl, rfl, rfl, rfl, rfl⟩, rfl⟩
theorem bcomm (a b : List UInt8) : (a == b) = (b == a) := by
  cases h : b == a
  · rw [beq_eq_false_iff_ne] at h ⊢; exact fun e => h e.symm
  · rw [beq_iff_eq] at h ⊢; exact h.symm
def L1 : List AV := [.str [104, 116, 109, 108], .str [116, 97, 98, 108, 101], .str [116, 101, 109, 112, 108, 97, 116, 101], .str [116, 100], .str [116, 104], .str [99, 97, 112, 116, 105, 111, 110], .str [109, 97, 114, 113, 117, 101, 101], .str [111, 98, 106, 101, 99, 116], .str [97, 112, 112, 108, 101, 116]]
theorem ends1 (x : List UInt8) : anyE (fun j => (L1 ++ [AV.str [111, 108], AV.str [117, 108]]).getD j AV.undef) 11 x = endsB 1 x := by
  simp only [anyE, anyS, L1, List.cons_append, List.nil_append, List.getD_cons_zero, List.getD_cons_succ, strOf, endsB, bcomm x, Bool.cond_true_left, Bool.false_or, Bool.or_assoc]
  simp
theorem ends2 (x : List UInt8) : anyE (fun j => (L1 ++ [AV.str [98, 117, 116, 116, 111, 110]]).getD j AV.undef) 10 x = endsB 2 x := by
  simp only [anyE, anyS, L1, List.cons_append, List.nil_append, List.getD_cons_zero, List.getD_cons_succ, strOf, endsB, bcomm x, Bool.cond_true_left, Bool.false_or, Bool.or_assoc]
  simp
  by_cases hx : [98, 117, 116, 116, 111, 110] = x
  · subst hx; rfl
  · rw [beq_eq_false_iff_ne.2 hx]; simp
theorem ends3 (x : List UInt8) : anyE (fun j => L1.getD j AV.undef) 3 x = endsB 3 x := by
  simp only [anyE, anyS, L1, List.cons_append, List.nil_append, List.getD_cons_zero, List.getD_cons_succ, strOf, endsB, bcomm x, Bool.cond_true_left, Bool.false_or, Bool.or_assoc]
  simp
theorem ends0 (sc : Int) (h1 : (sc == 1) = false) (h2 : (sc == 2) = false) (h3 : (sc == 3) = false) (x : List UInt8) : anyE (fun j => L1.getD j AV.undef) 9 x = endsB sc x := by
  have h3' : (sc != 3) = true := by simp only [bne, h3, Bool.not_false]
  simp only [anyE, anyS, L1, List.cons_append, List.nil_append, List.getD_cons_zero, List.getD_cons_succ, strOf, endsB, bcomm x, Bool.cond_true_left, Bool.false_or, Bool.or_assoc, h1, h2, h3']
  simp
theorem outR_out (sc : Int) (S : Nat → List UInt8) (s : List UInt8) (e : List UInt8 → Bool) (he : ∀ x, e x = endsB sc x) : ∀ n, outR S s e n = outF sc s S n
  | 0 => rfl
  | n + 1 => by simp only [outR, outF, he, outR_out sc S s e he n]
theorem safe30 (n : Nat) (N : Nat → Int) (S : Nat → List UInt8) (sc : Int) (s : List UInt8) (F : Fz) (hn : n ≤ 4611686018427387904) : SafeCallX Try.prog (roI n N S) 30 [.sl true 0 0 n .no, .int .i64 sc, .str s] [] F (fun v _ _ => v = .bool (inB sc s S n)) noP := by
  refine byX ((env56_ok (roI n N S) noP).addLoop (f := 30) (fi := fi30) (by kernel_rfl) blk30 (spec30L_ok n N S s)) (f := 30) (fi := fi30) (by kernel_rfl) 1000 (vc30 n N S s (fun v _ => v = .bool (inB sc s S n)) F sc) ?_
  have ew : AV.int IntKind.i64 (IntKind.i64.wrap ((n : Int) - 1)) = AV.int IntKind.i64 ((n : Int) - 1) := by rw [wrapI64 _ (by omega) (by omega)]
  have fin : ∀ e : List UInt8 → Bool, (∀ x, e x = endsB sc x) → (∀ b, outR S s e n = some b → AV.bool b = .bool (inB sc s S n)) ∧ (outR S s e n = none → AV.bool false = .bool (inB sc s S n)) := by
    intro e he
    unfold inB
    rw [outR_out sc S s e he n]
    exact ⟨fun b h => by rw [h]; rfl, fun h => by rw [h]; rfl⟩
  have mem : ∀ l : List AV, l.all (fun e => match e with | .str _ => true | _ => false) = true → ∀ e ∈ l, ∃ t, e = AV.str t := by
    intro l hl e he
    have := List.all_eq_true.1 hl e he
    cases e <;> simp at this
    exact ⟨_, rfl⟩
  have nle : ∀ {a b : Nat}, Nat.ble a b = true → Nat.le a b := fun h => Nat.le_of_ble_eq_true h
  refine hcB (fun h1 => ?_) (fun h1 => ?_)
  · refine ⟨⟨hn, rfl, rfl, rfl, ew, rfl⟩, ⟨nle rfl, nle rfl, mem _ rfl⟩, fun e he => fin e (fun x => (he x).trans ?_)⟩
    obtain rfl : sc = 1 := by simpa using h1
    exact ends1 x
  · refine hcB (fun h2 => ?_) (fun h2 => ?_)
    · refine ⟨⟨hn, rfl, rfl, rfl, ew, rfl⟩, ⟨nle rfl, nle rfl, mem _ rfl⟩, fun e he => fin e (fun x => (he x).trans ?_)⟩
      obtain rfl : sc = 2 := by simpa using h2
      exact ends2 x
    · refine hcB (fun h3 => ?_) (fun h3 => ?_)
      · refine ⟨⟨hn, rfl, rfl, rfl, ew, rfl⟩, ⟨nle rfl, nle rfl, mem _ rfl⟩, fun e he => fin e (fun x => (he x).trans ?_)⟩
        obtain rfl : sc = 3 := by simpa using h3
        exact ends3 x
      · refine ⟨⟨hn, rfl, rfl, rfl, ew, rfl⟩, ⟨nle rfl, nle rfl, mem _ rfl⟩, fun e he => fin e (fun x => (he x).trans ?_)⟩
        exact ends0 sc h1 h2 h3 x
def spec28 : CallSpecX := fun args h k F => match args with
  | [.sl false q 0 len _, .str s] => match h.live q with
    | some (.gen 57 2 n G) => (len ≤ n ∧ IsI G len ∧ len ≤ 4611686018427387904) ∧ ∀ m, m = impF (fun j => nameOf (G j)) s len → k (.int .i64 (m : Nat)) h F
    | _ => False
  | _ => False
theorem spec28_ok (R : Nat → RoRow) (HP : AV → Rows → Fz → Prop) : ∀ args h k F, spec28 args h k F → SafeCallX Try.prog R 28 args h F k HP := by
  intro args h k F hk
  unfold spec28 at hk
  split at hk
  · rename_i q len u s
    split at hk
    · rename_i n G hq
      obtain ⟨⟨hl, hG, hn⟩, hk⟩ := hk
      refine (reads1 (HP := HP) hq hl (fun j hj => hG.rk _ j hj) rfl (safe28 len (fun j => nodeOf (G j)) (fun j => nameOf (G j)) s F hn) (fun v hv => by rw [hv]; rfl)).mono ?_ (fun _ _ _ _ h => h)
      rintro v h' F' _ ⟨rfl, rfl, rfl⟩
      exact hk _ rfl
    · exact hk.elim
  · exact hk.elim
def spec30 : CallSpecX := fun args h k F => match args with
  | [.sl false q 0 len _, .int .i64 sc, .str s] => match h.live q with
    | some (.gen 57 2 n G) => (len ≤ n ∧ IsI G len ∧ len ≤ 4611686018427387904) ∧ ∀ b, b = inB sc s (fun j => nameOf (G j)) len → k (.bool b) h F
    | _ => False
  | _ => False
theorem spec30_ok (R : Nat → RoRow) (HP : AV → Rows → Fz → Prop) : ∀ args h k F, spec30 args h k F → SafeCallX Try.prog R 30 args h F k HP := by
  intro args h k F hk
  unfold spec30 at hk
  split at hk
  · rename_i q len u sc s
    split at hk
    · rename_i n G hq
      obtain ⟨⟨hl, hG, hn⟩, hk⟩ := hk
      refine (reads1 (HP := HP) hq hl (fun j hj => hG.rk _ j hj) rfl (safe30 len (fun j => nodeOf (G j)) (fun j => nameOf (G j)) sc s F hn) (fun v hv => by rw [hv]; rfl)).mono ?_ (fun _ _ _ _ h => h)
      rintro v h' F' _ ⟨rfl, rfl, rfl⟩
      exact hk _ rfl
    · exact hk.elim
  · exact hk.elim

end Go.Dc.Kb
end
section
set_option linter.unusedVariables false
set_option linter.unusedSimpArgs false
namespace Go.Dc.Kb
open Go.Proofs Go.RowKit
set_option maxRecDepth 100000

noncomputable def as32 : Code := rgA fi32 0
noncomputable def bo32 : Code := rgB fi32 0
theorem blk32 : blockOf fi32 0 = some (.rangeFunc (.tmp 13) #[14, 15] as32 bo32) := by kernel_rfl
def tm32 (nd : Int) (len : Nat) (i x : AV) : List AV :=
  [AV.ptr true 0 0 0, AV.int IntKind.i64 nd, AV.tup [], AV.ptr false 0 0 0, AV.ptr false 1 0 0, AV.tup [], AV.tup [], AV.ptr true 0 0 0, AV.bool false, AV.ptr true 0 0 0, AV.ptr true 0 0 0, AV.ptr true 0 0 0, AV.sl true 1 0 len Cp.no, AV.fn 63 [] [AV.ptr false 2 0 0], i, x, AV.tup [], AV.tup [], AV.tup [], AV.tup [], AV.tup []]
def rw32 (nd r : Int) (bx : Option Row) : Rows := [some (Row.lst 3 1 [AV.int IntKind.i64 nd]), some (Row.lst 3 1 [AV.int IntKind.i64 r]), bx]
def st32 (nd : Int) (len : Nat) : St := ⟨tm32 nd len (.tup []) (.tup []), rw32 nd 0 (bxIn len)⟩
theorem vr32 (R : Nat → RoRow) (nd j n : Int) (s : List UInt8) (len : Nat) (Q : Exit → Rows → Prop) : rndR (base R) 10000 32 as32 bo32 ⟨tm32 nd len (.int .i64 j) (itm n s), rw32 nd 0 none⟩ (fun e st => Q e st.rows) = (bif n == nd then Q Exit.ret [some (Row.lst 3 1 [AV.int IntKind.i64 nd]), some (Row.lst 3 1 [AV.int IntKind.i64 j]), none, some (Row.lst 29 2 [AV.agg [AV.int IntKind.i64 n, AV.str s]])] else Q Exit.normal [some (Row.lst 3 1 [AV.int IntKind.i64 nd]), some (Row.lst 3 1 [AV.int IntKind.i64 0]), none, some (Row.lst 29 2 [AV.agg [AV.int IntKind.i64 n, AV.str s]])]) := by kernel_rfl
/-- The place of the last one of a number. -/
def lastI (N : Nat → Int) (nd : Int) : Nat → Option Nat
  | 0 => none
  | n + 1 => bif N n == nd then some n else lastI N nd n
def atI (N : Nat → Int) (nd : Int) (n : Nat) : Int := match lastI N nd n with | some k => (k : Nat) | none => -1
theorem loop32 (nd : Int) (len : Nat) (N : Nat → Int) (F : Nat → List UInt8) {Q : Exit → St → Prop}
    (h : match lastI N nd len with | some b => Q .ret ⟨tm32 nd len (.tup []) (.tup []), rw32 nd (b : Nat) (bxIn len)⟩ | none => Q .normal (st32 nd len)) :
    SafeM Try.prog (base (roStk len fun j => itm (N j) (F j))).R (.block 0 (.rangeFunc (.tmp 13) #[14, 15] as32 bo32)) (st32 nd len) Q := by
  refine rangeLoop mixed (base_ok _) (f := 32) (fun _ => rfl) (gf := 63) (esz := 2) back63 enters63 (fi := fi32) (by kernel_rfl) blk32 (by kernel_rfl) (st := st32 nd len) (bx := 2) rfl (rb := .lst 24 1 [AV.sl true 1 0 len Cp.no]) rfl (sv := AV.sl true 1 0 len Cp.no) rfl
    (ds := [2]) (len := len) (els := fun j => itm (N j) (F j)) (by simp) (.inr (.inr ⟨1, 0, .no, rfl, rfl, by simp [roStk, Env.base], fun j hj => by simp [roStk, Env.base]⟩))
    (I := fun k rows => lastI N nd len = lastI N nd (len - k) ∧ rows = rw32 nd 0 none)
    (X := fun e rows => e = .ret ∧ ∃ b : Nat, lastI N nd len = some b ∧ rows = rw32 nd (b : Nat) none) ⟨rfl, rfl⟩ 10000 ?_ ?_ ?_
  · rintro k rows hk ⟨ho, rfl⟩
    have e1 := vr32 (roStk len fun j => itm (N j) (F j)) nd ((len - 1 - k : Nat) : Int) (N (len - 1 - k)) (F (len - 1 - k)) len
      (fun e rows => ∃ rowsE, (rowsE = rows ∨ FitR 3 rowsE rows) ∧ match e with
        | .normal => lastI N nd len = lastI N nd (len - (k + 1)) ∧ rowsE = rw32 nd 0 none
        | e => e = .ret ∧ ∃ b : Nat, lastI N nd len = some b ∧ rowsE = rw32 nd (b : Nat) none)
    refine e1.symm ▸ ?_
    obtain ⟨q, hq⟩ : ∃ q, len - k = q + 1 := ⟨len - k - 1, by omega⟩
    have hq1 : len - 1 - k = q := by omega
    have hq2 : len - (k + 1) = q := by omega
    rw [hq] at ho
    rw [hq1, hq2]
    simp only [lastI] at ho
    refine hcond (fun h1 => ?_) (fun h1 => ?_)
    · rw [h1, cond_true] at ho
      exact ⟨rw32 nd (q : Nat) none, .inr (FitR.pre _ _ rfl (Nat.le_refl _)), rfl, q, ho, rfl⟩
    · rw [h1, cond_false] at ho
      exact ⟨rw32 nd 0 none, .inr (FitR.pre _ _ rfl (Nat.le_refl _)), ho, rfl⟩
  · rintro rows ⟨ho, rfl⟩
    rw [Nat.sub_self] at ho
    rw [ho] at h
    exact h
  · rintro e rows ⟨rfl, b, ho, rfl⟩
    rw [ho] at h
    exact h
noncomputable def rl32 (nd : Int) (len : Nat) (N : Nat → Int) : Nat → Option LoopSp := fun id => match id with
  | 0 => some fun st k => st = st32 nd len ∧ (∀ b : Nat, lastI N nd len = some b → k .ret ⟨tm32 nd len (.tup []) (.tup []), rw32 nd (b : Nat) (bxIn len)⟩) ∧ (lastI N nd len = none → k .normal (st32 nd len))
  | _ + 1 => none
theorem vm32 (R : Nat → RoRow) (nd : Int) (len : Nat) (N : Nat → Int) (at_ : Nat → AV) (Q : AV → Prop) :
    vcm (base (roStk len at_)) back (rl32 nd len N) 10000 32 fi32 [.ptr true 0 0 0, .int .i64 nd] [] (fun v _ => Q v) =
    (st32 nd len = st32 nd len ∧ (∀ b : Nat, lastI N nd len = some b → Q (.int .i64 (b : Nat))) ∧ (lastI N nd len = none → Q (.int .i64 (-1)))) := by kernel_rfl
theorem safe32 (nd : Int) (len : Nat) (N : Nat → Int) (F : Nat → List UInt8) :
    SafeCall Try.prog (roStk len fun j => itm (N j) (F j)) 32 [.ptr true 0 0 0, .int .i64 nd] [] fun v _ => v = .int .i64 (atI N nd len) := by
  refine SafeCall.vcm (E := base (roStk len fun j => itm (N j) (F j))) (rl := rl32 nd len N) (n := 10000) mixed (base_ok _) back_ok (fun _ => rfl) ?_ (f := 32) (fi := fi32) (by kernel_rfl) (by kernel_rfl) ?_
  · intro id spec hs body hb st k hk
    cases id with
    | succ i => cases hs
    | zero =>
      simp only [rl32, Option.some.injEq] at hs
      subst hs
      obtain ⟨rfl, hk1, hk2⟩ := hk
      obtain rfl := blockOf_uniq blk32 (show (0, body) ∈ subs fi32.body from hb)
      refine loop32 nd len N F ?_
      revert hk1 hk2
      cases lastI N nd len with
      | none => exact fun _ h => h rfl
      | some b => exact fun h _ => h b rfl
  · refine (vm32 (roStk len fun j => itm (N j) (F j)) nd len N _ _).symm ▸ ⟨rfl, ?_, ?_⟩
    · intro b hb; unfold atI; rw [hb]
    · intro hb; unfold atI; rw [hb]
/-- Of any stack: what it reads is told by its rows. -/
def spec32 : CallSpec := fun args h k => match args with
  | [.ptr false p 0 0, .int .i64 nd] => match h.live p with
    | some (.lst 26 1 [.agg [.sl false q 0 len _]]) => match h.live q with
      | some (.gen 29 2 n at_) => (len ≤ n ∧ (∀ j, j < len → at_ j = itm (nodeOf (at_ j)) (nameOf (at_ j)))) ∧ ∀ r, r = atI (fun j => nodeOf (at_ j)) nd len → k (.int .i64 r) h
      | _ => False
    | _ => False
  | _ => False
theorem spec32_ok (R : Nat → RoRow) : ∀ args h k, spec32 args h k → SafeCall Try.prog R 32 args h k := by
  intro args h k hk
  unfold spec32 at hk
  split at hk
  · rename_i p nd
    split at hk
    · rename_i q len u hp
      split at hk
      · rename_i n at_ hq
        obtain ⟨⟨hle, hat⟩, hk⟩ := hk
        have hpq : p ≠ q := by rintro rfl; rw [hp] at hq; cases hq
        refine (SafeCall.reads (R2 := roStk len fun j => itm (nodeOf (at_ j)) (nameOf (at_ j))) (argsL := [.ptr true 0 0 0, .int .i64 nd]) (Q := fun v => v = .int .i64 (atI (fun j => nodeOf (at_ j)) nd len))
          (fun b => if b = p then some 0 else if b = q then some 1 else none) (fun i => match i with | 0 => some p | 1 => some q | _ + 2 => none) ?_ ?_ ?_ (safe32 nd len _ _) (fun v hv => by rw [hv]; rfl)).mono ?_
        · intro b i hb
          by_cases h1 : b = p
          · simp [h1] at hb; subst hb; rw [h1]
          · by_cases h2 : b = q
            · simp [h1, h2] at hb
              have : ¬ q = p := fun e => hpq e.symm
              simp [this] at hb; subst hb; rw [h2]
            · simp [h1, h2] at hb
        · intro i
          match i with
          | 0 =>
            refine ⟨_, hp, rfl, rfl, Nat.le_refl _, ?_⟩
            intro j e hj he
            have hj0 : j = 0 := by simp [roStk] at hj; omega
            subst hj0
            simp only [Row.get?, List.getElem?_cons_zero, Option.some.injEq] at he
            subst he
            refine ⟨_, rfl, ?_, trivial⟩
            refine ⟨1, ?_, rfl⟩
            have : ¬ q = p := fun e => hpq e.symm
            simp [this]
          | 1 =>
            refine ⟨_, hq, rfl, rfl, hle, ?_⟩
            intro j e hj he
            simp only [roStk] at hj
            rw [Row.get_gen (by omega)] at he
            simp only [Option.some.injEq] at he
            subst he
            rw [hat j hj]
            exact ⟨_, rfl, ⟨rfl, rfl⟩, ⟨rfl, rfl⟩, trivial⟩
          | i + 2 => rfl
        · refine ⟨?_, ⟨rfl, rfl⟩, trivial⟩
          exact ⟨0, by simp, rfl⟩
        · rintro v h' ⟨rfl, rfl⟩
          exact hk _ rfl
      · exact hk.elim
    · exact hk.elim
  · exact hk.elim

end Go.Dc.Kb
end
