/- Scalars written one behind the other are one text: the walk. -/
import Derived.Test.YtachjlpdnehgiaaDomNil
import Derived.Test.YtachjlpdnehgiaaToks
set_option linter.unusedVariables false
set_option linter.unusedSimpArgs false
namespace Go.Dc.Kd
open Go.Proofs Go.RowKit
set_option maxRecDepth 100000
/-- Two lists of numbers that came in. -/
def ro2 (ty n ty' m : Nat) (F G : Nat → Int) : Nat → RoRow := fun i => match i with | 0 => ⟨ty, 1, n, fun j => .int .i64 (F j)⟩ | 1 => ⟨ty', 1, m, fun j => .int .i64 (G j)⟩ | _ + 2 => ⟨0, 0, 0, fun _ => .undef⟩
noncomputable abbrev env3 (R : Nat → RoRow) : Env Prop := (base R).addCall 14 isTrue
theorem env3_ok (R : Nat → RoRow) : EnvOK Try.prog (env3 R) id := (base_ok R).addCall (f := 14) (fi := fi14) (by kernel_rfl) (isTrue_ok (safe14 R))
noncomputable def loopB' (fi : FI) (id : Nat) : Code := match blockOf fi id with | some (.loop b) => b | _ => .skip
noncomputable def lp3 : Code := loopB' fi3 2
theorem blk3 : blockOf fi3 2 = some (.loop lp3) := by kernel_rfl
def tm3 (n m : Nat) (k : Int) (q len : Nat) (i : Int) : List AV := [.sl true 0 0 n .no, .sl true 1 0 m .no, .any, .any, .any, .ptr false 2 0 0, .ptr false 3 0 0, .int .i64 k, .sl true q 0 len .no, .int .i64 i, .any, .any, .any, .any, .any, .any, .any, .any, .any, .any, .any, .any, .any, .any, .any, .any, .any, .any, .any, .any, .any, .any, .any, .any, .any, .any, .any, .any, .any, .any, .any, .any, .any, .any, .any, .any, .any, .any, .any, .any, .any, .any, .any, .any, .any, .any, .any, .any, .any, .any, .any, .any, .any, .any, .any, .any, .any, .any, .any, .any, .any, .any, .any, .any, .any, .any, .any, .any, .any, .any, .any, .any, .any, .any, .any, .any, .any, .any, .any, .any, .any, .any, .any, .any, .any, .any, .any, .any, .any, .any, .any, .any, .any, .any, .any, .any, .any, .any, .any, .any, .any, .any, .any, .any, .any, .any, .any, .any, .any, .any, .any, .any, .any]
/-- A place: kind, text; parent, first, last, ahead, behind. -/
abbrev plc (kind at_ : Int) (d : List UInt8) (p a b c e : Int) : AV := .agg [.int .i64 kind, .int .i64 at_, .str [], .str d, .nils, .int .i64 p, .int .i64 a, .int .i64 b, .int .i64 c, .int .i64 e]
abbrev rLoose : Option Row := some (.lst 84 5 [.agg [.int .i64 (-1), .int .i64 (-1), .int .i64 (-1), .int .i64 (-1), .int .i64 (-1)]])
abbrev rAll (l : List AV) : Option Row := some (.lst 87 10 l)
abbrev rTree (q n : Nat) (c : Cp) : Option Row := some (.lst 90 1 [.agg [.sl false q 0 n c]])
abbrev rWant (a b : List UInt8) : Option Row := some (.lst 26 2 [.agg [.str a, .str b]])
/-! shapes -/
abbrev rBox : Option Row := some (.lst 32 5 [.agg [.int .i64 4, .int .i64 0, .str [], .str [], .nils]])
def X0 (a b : List UInt8) : Rows := [rLoose, rAll [plc 0 0 [] (-1) (-1) (-1) (-1) (-1)], rTree 1 1 .tight, rWant a b]
def X1 (d : List UInt8) (x : Int) (a b : List UInt8) : Rows := [rLoose, rAll [plc 0 0 [] (-1) (-1) (-1) (-1) (-1)], rTree 4 2 .no, rWant a b, rAll [plc 0 0 [] (-1) (1) (1) (-1) (-1), plc 3 x d (0) (-1) (-1) (-1) (-1)]]
def X2 (a b : List UInt8) : Rows := [rLoose, rAll [plc 0 0 [] (-1) (-1) (-1) (-1) (-1)], rTree 7 2 .no, rWant a b, rBox, rLoose, rAll [plc 4 0 [] (-1) (-1) (-1) (-1) (-1)], rAll [plc 0 0 [] (-1) (1) (1) (-1) (-1), plc 4 0 [] (0) (-1) (-1) (-1) (-1)]]
def X3 (e : List UInt8) (y : Int) (a b : List UInt8) : Rows := [rLoose, rAll [plc 0 0 [] (-1) (-1) (-1) (-1) (-1)], rTree 8 3 .no, rWant a b, rBox, rLoose, rAll [plc 4 0 [] (-1) (-1) (-1) (-1) (-1)], none, rAll [plc 0 0 [] (-1) (1) (2) (-1) (-1), plc 4 0 [] (0) (-1) (-1) (-1) (2), plc 3 y e (0) (-1) (-1) (1) (-1)]]
def X4 (d : List UInt8) (x : Int) (a b : List UInt8) : Rows := [rLoose, rAll [plc 0 0 [] (-1) (-1) (-1) (-1) (-1)], rTree 8 3 .no, rWant a b, none, rBox, rLoose, rAll [plc 4 0 [] (-1) (-1) (-1) (-1) (-1)], rAll [plc 0 0 [] (-1) (1) (2) (-1) (-1), plc 3 x d (0) (-1) (-1) (-1) (2), plc 4 0 [] (0) (-1) (-1) (1) (-1)]]
def X5 (d : List UInt8) (x : Int) (e : List UInt8) (y : Int) (a b : List UInt8) : Rows := [rLoose, rAll [plc 0 0 [] (-1) (-1) (-1) (-1) (-1)], rTree 9 4 .no, rWant a b, none, rBox, rLoose, rAll [plc 4 0 [] (-1) (-1) (-1) (-1) (-1)], none, rAll [plc 0 0 [] (-1) (1) (3) (-1) (-1), plc 3 x d (0) (-1) (-1) (-1) (2), plc 4 0 [] (0) (-1) (-1) (1) (3), plc 3 y e (0) (-1) (-1) (2) (-1)]]
def goodI (v : Int) : Bool := bif decide (v ≤ 1114111) then (bif decide (v < 55296) then true else decide (v > 57343)) else false
def encI (v : Int) : List UInt8 := (Utf8.encode v).data.toList
theorem RowV.lstL {f : Nat → Option Nat} {n : Nat} {t z : Nat} {l l' : List AV} (h1 : (l.all ones) = true) (h2 : VwL f n l l') : RowV f n (.lst t z l) (.lst t z l') where
  ty := rfl
  esz := rfl
  len := h2.length
  get := fun i x hx => by
    simp only [Row.get?] at hx ⊢
    obtain ⟨y, hy, hv⟩ := h2.get hx
    exact ⟨ones_mem (List.all_eq_true.1 h1 x (List.mem_of_getElem? hx)), y, hy, hv⟩
theorem ViewL.gone {f : Nat → Option Nat} {N : Nat} {h : Rows} {c b : Nat} (hf : f c = some b) (hb : b < h.length) : ViewL f N h c none where
  row := fun r hr => by cases hr
  lt := fun b' hb' => by rw [hf] at hb'; cases hb'; exact hb
theorem w32 {v : Int} (h0 : 0 ≤ v) (h1 : v < 2097152) : IntKind.i32.wrap v = v := by
  simp only [IntKind.wrap, IntKind.signed, IntKind.bits] at *
  simp
  omega
/-- One row moved: what lies at 'c0' lies at 'b0'. -/
def mv (c0 b0 : Nat) : Nat → Option Nat := fun c => bif Nat.beq c c0 then some b0 else some c
theorem mv_inj {c0 b0 N : Nat} (hb : N ≤ b0 + 0) (c c' b : Nat) (hc : c < N) (hc' : c' < N) (h1 : mv c0 b0 c = some b) (h2 : mv c0 b0 c' = some b) : c = c' := by
  unfold mv at h1 h2
  cases e1 : Nat.beq c c0 with
  | true =>
    cases e2 : Nat.beq c' c0 with
    | true => exact (Nat.eq_of_beq_eq_true e1).trans (Nat.eq_of_beq_eq_true e2).symm
    | false =>
      rw [e1] at h1; rw [e2] at h2
      simp at h1 h2
      omega
  | false =>
    cases e2 : Nat.beq c' c0 with
    | true =>
      rw [e1] at h1; rw [e2] at h2
      simp at h1 h2
      omega
    | false =>
      rw [e1] at h1; rw [e2] at h2
      simp at h1 h2
      omega
def goodR (r : Int) : Bool := bif decide (0 ≤ r) then (bif decide (r < 55296) then true else (bif decide (57343 < r) then decide (r ≤ 1114111) else false)) else (bif decide (57343 < r) then decide (r ≤ 1114111) else false)
theorem vc54 (R : Nat → RoRow) (r : Int) (Q : AV → Prop) : vcd (base R) 10000 54 fi54 [.int .i32 r] [] (fun v _ => Q v) =
    (bif decide (0 ≤ r) then
    bif decide (r < 55296) then Q (AV.bool true)
    else
      bif decide (57343 < r) then bif decide (r ≤ 1114111) then Q (AV.bool true) else Q (AV.bool false)
      else Q (AV.bool false)
  else
    bif decide (57343 < r) then bif decide (r ≤ 1114111) then Q (AV.bool true) else Q (AV.bool false)
    else Q (AV.bool false)) := by kernel_rfl
theorem safe54 (R : Nat → RoRow) (r : Int) : SafeCall Try.prog R 54 [.int .i32 r] [] fun v _ => v = .bool (goodR r) := by
  refine byVcd' (E := base R) (base_ok R) (f := 54) (fi := fi54) (by kernel_rfl) 10000 (vc54 R r (fun v => v = .bool (goodR r))) ?_
  unfold goodR
  cases decide (0 ≤ r) <;> cases decide (r < 55296) <;> cases decide (57343 < r) <;> cases decide (r ≤ 1114111) <;> exact rfl
def spec54 : CallSpec := fun args h k => match args with
  | [.int .i32 r] => k (.bool (goodR r)) h
  | _ => False
theorem spec54_ok (R : Nat → RoRow) : ∀ args h k, spec54 args h k → SafeCall Try.prog R 54 args h k := by
  intro args h k hk
  unfold spec54 at hk
  split at hk
  · rename_i c
    have h1 : SafeCall Try.prog R 54 [.int .i32 c] [] fun v h => v = .bool (goodR c) ∧ h = [] := by
      refine (safe54 R c).fit ?_
      rintro v h' rfl
      refine ⟨.bool (goodR c), [], ⟨fun _ => none, ⟨fun c b hc => absurd hc (Nat.not_lt_zero _), fun c c' b hc => absurd hc (Nat.not_lt_zero _), fun c r hc => by simp [Rows.live] at hc⟩, Vw.boolI, fun c hc => absurd hc (Nat.not_lt_zero _), Nat.le_refl _⟩, rfl, rfl⟩
    refine (h1.fresh ?_ h).mono ?_
    · exact VwL.cons Vw.intI VwL.nil
    · rintro v'' h'' ⟨v', h', ⟨rfl, rfl⟩, rfl, rfl⟩
      have e : h ++ shiftRows h.length [] = h := by simp [shiftRows]
      rw [e]
      exact hk
  · exact hk.elim
theorem goodRI {v : Int} (h0 : 0 ≤ v) : goodR v = goodI v := by
  unfold goodR goodI
  rw [decide_eq_true h0]
  simp only [cond_true]
  by_cases h1 : v < 55296
  · rw [decide_eq_true h1, decide_eq_true (show v ≤ 1114111 by omega)]; rfl
  · rw [decide_eq_false h1]
    by_cases h2 : v ≤ 1114111
    · rw [decide_eq_true h2]
      by_cases h3 : 57343 < v
      · rw [decide_eq_true h3]; rfl
      · rw [decide_eq_false h3]; rfl
    · rw [decide_eq_false h2]
      cases decide (57343 < v) <;> rfl
noncomputable abbrev env18 (R : Nat → RoRow) : Env Prop := (base R).addCall 54 spec54
theorem env18_ok (R : Nat → RoRow) : EnvOK Try.prog (env18 R) id := (base_ok R).addCall (f := 54) (fi := fi54) (by kernel_rfl) (spec54_ok R)
theorem vX0 (a b : List UInt8) : View some (X0  a b) (X0  a b) := by
  refine View.of ?_ ?_
  · intro c o ho
    match c with
    | 0 => cases ho; exact ViewL.at_ (b := 0) rfl rfl (RowV.lstL rfl (by (repeat' (first | with_reducible exact VwL.nil | with_reducible refine VwL.cons ?_ ?_ | with_reducible exact Vw.anyI | with_reducible exact Vw.strI | with_reducible exact Vw.intI | with_reducible exact Vw.nilsI | with_reducible refine Vw.aggI ?_ | exact Vw.gndI rfl | exact Vw.slI (by simp [X0, X1, X2, X3, X4, X5]) rfl))))
    | 1 => cases ho; exact ViewL.at_ (b := 1) rfl rfl (RowV.lstL rfl (by (repeat' (first | with_reducible exact VwL.nil | with_reducible refine VwL.cons ?_ ?_ | with_reducible exact Vw.anyI | with_reducible exact Vw.strI | with_reducible exact Vw.intI | with_reducible exact Vw.nilsI | with_reducible refine Vw.aggI ?_ | exact Vw.gndI rfl | exact Vw.slI (by simp [X0, X1, X2, X3, X4, X5]) rfl))))
    | 2 => cases ho; exact ViewL.at_ (b := 2) rfl rfl (RowV.lstL rfl (by (repeat' (first | with_reducible exact VwL.nil | with_reducible refine VwL.cons ?_ ?_ | with_reducible exact Vw.anyI | with_reducible exact Vw.strI | with_reducible exact Vw.intI | with_reducible exact Vw.nilsI | with_reducible refine Vw.aggI ?_ | exact Vw.gndI rfl | exact Vw.slI (by simp [X0, X1, X2, X3, X4, X5]) rfl))))
    | 3 => cases ho; exact ViewL.at_ (b := 3) rfl rfl (RowV.lstL rfl (by (repeat' (first | with_reducible exact VwL.nil | with_reducible refine VwL.cons ?_ ?_ | with_reducible exact Vw.anyI | with_reducible exact Vw.strI | with_reducible exact Vw.intI | with_reducible exact Vw.nilsI | with_reducible refine Vw.aggI ?_ | exact Vw.gndI rfl | exact Vw.slI (by simp [X0, X1, X2, X3, X4, X5]) rfl))))
    | c + 4 => simp [X0] at ho
  · intro c c' b _ _ h1 h2
    cases h1; cases h2; rfl
theorem vX1 (d : List UInt8) (x : Int) (a b : List UInt8) : View some (X1 d x a b) (X1 d x a b) := by
  refine View.of ?_ ?_
  · intro c o ho
    match c with
    | 0 => cases ho; exact ViewL.at_ (b := 0) rfl rfl (RowV.lstL rfl (by (repeat' (first | with_reducible exact VwL.nil | with_reducible refine VwL.cons ?_ ?_ | with_reducible exact Vw.anyI | with_reducible exact Vw.strI | with_reducible exact Vw.intI | with_reducible exact Vw.nilsI | with_reducible refine Vw.aggI ?_ | exact Vw.gndI rfl | exact Vw.slI (by simp [X0, X1, X2, X3, X4, X5]) rfl))))
    | 1 => cases ho; exact ViewL.at_ (b := 1) rfl rfl (RowV.lstL rfl (by (repeat' (first | with_reducible exact VwL.nil | with_reducible refine VwL.cons ?_ ?_ | with_reducible exact Vw.anyI | with_reducible exact Vw.strI | with_reducible exact Vw.intI | with_reducible exact Vw.nilsI | with_reducible refine Vw.aggI ?_ | exact Vw.gndI rfl | exact Vw.slI (by simp [X0, X1, X2, X3, X4, X5]) rfl))))
    | 2 => cases ho; exact ViewL.at_ (b := 2) rfl rfl (RowV.lstL rfl (by (repeat' (first | with_reducible exact VwL.nil | with_reducible refine VwL.cons ?_ ?_ | with_reducible exact Vw.anyI | with_reducible exact Vw.strI | with_reducible exact Vw.intI | with_reducible exact Vw.nilsI | with_reducible refine Vw.aggI ?_ | exact Vw.gndI rfl | exact Vw.slI (by simp [X0, X1, X2, X3, X4, X5]) rfl))))
    | 3 => cases ho; exact ViewL.at_ (b := 3) rfl rfl (RowV.lstL rfl (by (repeat' (first | with_reducible exact VwL.nil | with_reducible refine VwL.cons ?_ ?_ | with_reducible exact Vw.anyI | with_reducible exact Vw.strI | with_reducible exact Vw.intI | with_reducible exact Vw.nilsI | with_reducible refine Vw.aggI ?_ | exact Vw.gndI rfl | exact Vw.slI (by simp [X0, X1, X2, X3, X4, X5]) rfl))))
    | 4 => cases ho; exact ViewL.at_ (b := 4) rfl rfl (RowV.lstL rfl (by (repeat' (first | with_reducible exact VwL.nil | with_reducible refine VwL.cons ?_ ?_ | with_reducible exact Vw.anyI | with_reducible exact Vw.strI | with_reducible exact Vw.intI | with_reducible exact Vw.nilsI | with_reducible refine Vw.aggI ?_ | exact Vw.gndI rfl | exact Vw.slI (by simp [X0, X1, X2, X3, X4, X5]) rfl))))
    | c + 5 => simp [X1] at ho
  · intro c c' b _ _ h1 h2
    cases h1; cases h2; rfl
theorem vX2 (a b : List UInt8) : View some (X2  a b) (X2  a b) := by
  refine View.of ?_ ?_
  · intro c o ho
    match c with
    | 0 => cases ho; exact ViewL.at_ (b := 0) rfl rfl (RowV.lstL rfl (by (repeat' (first | with_reducible exact VwL.nil | with_reducible refine VwL.cons ?_ ?_ | with_reducible exact Vw.anyI | with_reducible exact Vw.strI | with_reducible exact Vw.intI | with_reducible exact Vw.nilsI | with_reducible refine Vw.aggI ?_ | exact Vw.gndI rfl | exact Vw.slI (by simp [X0, X1, X2, X3, X4, X5]) rfl))))
    | 1 => cases ho; exact ViewL.at_ (b := 1) rfl rfl (RowV.lstL rfl (by (repeat' (first | with_reducible exact VwL.nil | with_reducible refine VwL.cons ?_ ?_ | with_reducible exact Vw.anyI | with_reducible exact Vw.strI | with_reducible exact Vw.intI | with_reducible exact Vw.nilsI | with_reducible refine Vw.aggI ?_ | exact Vw.gndI rfl | exact Vw.slI (by simp [X0, X1, X2, X3, X4, X5]) rfl))))
    | 2 => cases ho; exact ViewL.at_ (b := 2) rfl rfl (RowV.lstL rfl (by (repeat' (first | with_reducible exact VwL.nil | with_reducible refine VwL.cons ?_ ?_ | with_reducible exact Vw.anyI | with_reducible exact Vw.strI | with_reducible exact Vw.intI | with_reducible exact Vw.nilsI | with_reducible refine Vw.aggI ?_ | exact Vw.gndI rfl | exact Vw.slI (by simp [X0, X1, X2, X3, X4, X5]) rfl))))
    | 3 => cases ho; exact ViewL.at_ (b := 3) rfl rfl (RowV.lstL rfl (by (repeat' (first | with_reducible exact VwL.nil | with_reducible refine VwL.cons ?_ ?_ | with_reducible exact Vw.anyI | with_reducible exact Vw.strI | with_reducible exact Vw.intI | with_reducible exact Vw.nilsI | with_reducible refine Vw.aggI ?_ | exact Vw.gndI rfl | exact Vw.slI (by simp [X0, X1, X2, X3, X4, X5]) rfl))))
    | 4 => cases ho; exact ViewL.at_ (b := 4) rfl rfl (RowV.lstL rfl (by (repeat' (first | with_reducible exact VwL.nil | with_reducible refine VwL.cons ?_ ?_ | with_reducible exact Vw.anyI | with_reducible exact Vw.strI | with_reducible exact Vw.intI | with_reducible exact Vw.nilsI | with_reducible refine Vw.aggI ?_ | exact Vw.gndI rfl | exact Vw.slI (by simp [X0, X1, X2, X3, X4, X5]) rfl))))
    | 5 => cases ho; exact ViewL.at_ (b := 5) rfl rfl (RowV.lstL rfl (by (repeat' (first | with_reducible exact VwL.nil | with_reducible refine VwL.cons ?_ ?_ | with_reducible exact Vw.anyI | with_reducible exact Vw.strI | with_reducible exact Vw.intI | with_reducible exact Vw.nilsI | with_reducible refine Vw.aggI ?_ | exact Vw.gndI rfl | exact Vw.slI (by simp [X0, X1, X2, X3, X4, X5]) rfl))))
    | 6 => cases ho; exact ViewL.at_ (b := 6) rfl rfl (RowV.lstL rfl (by (repeat' (first | with_reducible exact VwL.nil | with_reducible refine VwL.cons ?_ ?_ | with_reducible exact Vw.anyI | with_reducible exact Vw.strI | with_reducible exact Vw.intI | with_reducible exact Vw.nilsI | with_reducible refine Vw.aggI ?_ | exact Vw.gndI rfl | exact Vw.slI (by simp [X0, X1, X2, X3, X4, X5]) rfl))))
    | 7 => cases ho; exact ViewL.at_ (b := 7) rfl rfl (RowV.lstL rfl (by (repeat' (first | with_reducible exact VwL.nil | with_reducible refine VwL.cons ?_ ?_ | with_reducible exact Vw.anyI | with_reducible exact Vw.strI | with_reducible exact Vw.intI | with_reducible exact Vw.nilsI | with_reducible refine Vw.aggI ?_ | exact Vw.gndI rfl | exact Vw.slI (by simp [X0, X1, X2, X3, X4, X5]) rfl))))
    | c + 8 => simp [X2] at ho
  · intro c c' b _ _ h1 h2
    cases h1; cases h2; rfl
theorem vX3 (e : List UInt8) (y : Int) (a b : List UInt8) : View some (X3 e y a b) (X3 e y a b) := by
  refine View.of ?_ ?_
  · intro c o ho
    match c with
    | 0 => cases ho; exact ViewL.at_ (b := 0) rfl rfl (RowV.lstL rfl (by (repeat' (first | with_reducible exact VwL.nil | with_reducible refine VwL.cons ?_ ?_ | with_reducible exact Vw.anyI | with_reducible exact Vw.strI | with_reducible exact Vw.intI | with_reducible exact Vw.nilsI | with_reducible refine Vw.aggI ?_ | exact Vw.gndI rfl | exact Vw.slI (by simp [X0, X1, X2, X3, X4, X5]) rfl))))
    | 1 => cases ho; exact ViewL.at_ (b := 1) rfl rfl (RowV.lstL rfl (by (repeat' (first | with_reducible exact VwL.nil | with_reducible refine VwL.cons ?_ ?_ | with_reducible exact Vw.anyI | with_reducible exact Vw.strI | with_reducible exact Vw.intI | with_reducible exact Vw.nilsI | with_reducible refine Vw.aggI ?_ | exact Vw.gndI rfl | exact Vw.slI (by simp [X0, X1, X2, X3, X4, X5]) rfl))))
    | 2 => cases ho; exact ViewL.at_ (b := 2) rfl rfl (RowV.lstL rfl (by (repeat' (first | with_reducible exact VwL.nil | with_reducible refine VwL.cons ?_ ?_ | with_reducible exact Vw.anyI | with_reducible exact Vw.strI | with_reducible exact Vw.intI | with_reducible exact Vw.nilsI | with_reducible refine Vw.aggI ?_ | exact Vw.gndI rfl | exact Vw.slI (by simp [X0, X1, X2, X3, X4, X5]) rfl))))
    | 3 => cases ho; exact ViewL.at_ (b := 3) rfl rfl (RowV.lstL rfl (by (repeat' (first | with_reducible exact VwL.nil | with_reducible refine VwL.cons ?_ ?_ | with_reducible exact Vw.anyI | with_reducible exact Vw.strI | with_reducible exact Vw.intI | with_reducible exact Vw.nilsI | with_reducible refine Vw.aggI ?_ | exact Vw.gndI rfl | exact Vw.slI (by simp [X0, X1, X2, X3, X4, X5]) rfl))))
    | 4 => cases ho; exact ViewL.at_ (b := 4) rfl rfl (RowV.lstL rfl (by (repeat' (first | with_reducible exact VwL.nil | with_reducible refine VwL.cons ?_ ?_ | with_reducible exact Vw.anyI | with_reducible exact Vw.strI | with_reducible exact Vw.intI | with_reducible exact Vw.nilsI | with_reducible refine Vw.aggI ?_ | exact Vw.gndI rfl | exact Vw.slI (by simp [X0, X1, X2, X3, X4, X5]) rfl))))
    | 5 => cases ho; exact ViewL.at_ (b := 5) rfl rfl (RowV.lstL rfl (by (repeat' (first | with_reducible exact VwL.nil | with_reducible refine VwL.cons ?_ ?_ | with_reducible exact Vw.anyI | with_reducible exact Vw.strI | with_reducible exact Vw.intI | with_reducible exact Vw.nilsI | with_reducible refine Vw.aggI ?_ | exact Vw.gndI rfl | exact Vw.slI (by simp [X0, X1, X2, X3, X4, X5]) rfl))))
    | 6 => cases ho; exact ViewL.at_ (b := 6) rfl rfl (RowV.lstL rfl (by (repeat' (first | with_reducible exact VwL.nil | with_reducible refine VwL.cons ?_ ?_ | with_reducible exact Vw.anyI | with_reducible exact Vw.strI | with_reducible exact Vw.intI | with_reducible exact Vw.nilsI | with_reducible refine Vw.aggI ?_ | exact Vw.gndI rfl | exact Vw.slI (by simp [X0, X1, X2, X3, X4, X5]) rfl))))
    | 7 => cases ho; exact ViewL.gone (b := 7) rfl (by simp [X0, X1, X2, X3, X4, X5])
    | 8 => cases ho; exact ViewL.at_ (b := 8) rfl rfl (RowV.lstL rfl (by (repeat' (first | with_reducible exact VwL.nil | with_reducible refine VwL.cons ?_ ?_ | with_reducible exact Vw.anyI | with_reducible exact Vw.strI | with_reducible exact Vw.intI | with_reducible exact Vw.nilsI | with_reducible refine Vw.aggI ?_ | exact Vw.gndI rfl | exact Vw.slI (by simp [X0, X1, X2, X3, X4, X5]) rfl))))
    | c + 9 => simp [X3] at ho
  · intro c c' b _ _ h1 h2
    cases h1; cases h2; rfl
theorem vX4 (d : List UInt8) (x : Int) (a b : List UInt8) : View some (X4 d x a b) (X4 d x a b) := by
  refine View.of ?_ ?_
  · intro c o ho
    match c with
    | 0 => cases ho; exact ViewL.at_ (b := 0) rfl rfl (RowV.lstL rfl (by (repeat' (first | with_reducible exact VwL.nil | with_reducible refine VwL.cons ?_ ?_ | with_reducible exact Vw.anyI | with_reducible exact Vw.strI | with_reducible exact Vw.intI | with_reducible exact Vw.nilsI | with_reducible refine Vw.aggI ?_ | exact Vw.gndI rfl | exact Vw.slI (by simp [X0, X1, X2, X3, X4, X5]) rfl))))
    | 1 => cases ho; exact ViewL.at_ (b := 1) rfl rfl (RowV.lstL rfl (by (repeat' (first | with_reducible exact VwL.nil | with_reducible refine VwL.cons ?_ ?_ | with_reducible exact Vw.anyI | with_reducible exact Vw.strI | with_reducible exact Vw.intI | with_reducible exact Vw.nilsI | with_reducible refine Vw.aggI ?_ | exact Vw.gndI rfl | exact Vw.slI (by simp [X0, X1, X2, X3, X4, X5]) rfl))))
    | 2 => cases ho; exact ViewL.at_ (b := 2) rfl rfl (RowV.lstL rfl (by (repeat' (first | with_reducible exact VwL.nil | with_reducible refine VwL.cons ?_ ?_ | with_reducible exact Vw.anyI | with_reducible exact Vw.strI | with_reducible exact Vw.intI | with_reducible exact Vw.nilsI | with_reducible refine Vw.aggI ?_ | exact Vw.gndI rfl | exact Vw.slI (by simp [X0, X1, X2, X3, X4, X5]) rfl))))
    | 3 => cases ho; exact ViewL.at_ (b := 3) rfl rfl (RowV.lstL rfl (by (repeat' (first | with_reducible exact VwL.nil | with_reducible refine VwL.cons ?_ ?_ | with_reducible exact Vw.anyI | with_reducible exact Vw.strI | with_reducible exact Vw.intI | with_reducible exact Vw.nilsI | with_reducible refine Vw.aggI ?_ | exact Vw.gndI rfl | exact Vw.slI (by simp [X0, X1, X2, X3, X4, X5]) rfl))))
    | 4 => cases ho; exact ViewL.gone (b := 4) rfl (by simp [X0, X1, X2, X3, X4, X5])
    | 5 => cases ho; exact ViewL.at_ (b := 5) rfl rfl (RowV.lstL rfl (by (repeat' (first | with_reducible exact VwL.nil | with_reducible refine VwL.cons ?_ ?_ | with_reducible exact Vw.anyI | with_reducible exact Vw.strI | with_reducible exact Vw.intI | with_reducible exact Vw.nilsI | with_reducible refine Vw.aggI ?_ | exact Vw.gndI rfl | exact Vw.slI (by simp [X0, X1, X2, X3, X4, X5]) rfl))))
    | 6 => cases ho; exact ViewL.at_ (b := 6) rfl rfl (RowV.lstL rfl (by (repeat' (first | with_reducible exact VwL.nil | with_reducible refine VwL.cons ?_ ?_ | with_reducible exact Vw.anyI | with_reducible exact Vw.strI | with_reducible exact Vw.intI | with_reducible exact Vw.nilsI | with_reducible refine Vw.aggI ?_ | exact Vw.gndI rfl | exact Vw.slI (by simp [X0, X1, X2, X3, X4, X5]) rfl))))
    | 7 => cases ho; exact ViewL.at_ (b := 7) rfl rfl (RowV.lstL rfl (by (repeat' (first | with_reducible exact VwL.nil | with_reducible refine VwL.cons ?_ ?_ | with_reducible exact Vw.anyI | with_reducible exact Vw.strI | with_reducible exact Vw.intI | with_reducible exact Vw.nilsI | with_reducible refine Vw.aggI ?_ | exact Vw.gndI rfl | exact Vw.slI (by simp [X0, X1, X2, X3, X4, X5]) rfl))))
    | 8 => cases ho; exact ViewL.at_ (b := 8) rfl rfl (RowV.lstL rfl (by (repeat' (first | with_reducible exact VwL.nil | with_reducible refine VwL.cons ?_ ?_ | with_reducible exact Vw.anyI | with_reducible exact Vw.strI | with_reducible exact Vw.intI | with_reducible exact Vw.nilsI | with_reducible refine Vw.aggI ?_ | exact Vw.gndI rfl | exact Vw.slI (by simp [X0, X1, X2, X3, X4, X5]) rfl))))
    | c + 9 => simp [X4] at ho
  · intro c c' b _ _ h1 h2
    cases h1; cases h2; rfl
theorem vX5 (d : List UInt8) (x : Int) (e : List UInt8) (y : Int) (a b : List UInt8) : View some (X5 d x e y a b) (X5 d x e y a b) := by
  refine View.of ?_ ?_
  · intro c o ho
    match c with
    | 0 => cases ho; exact ViewL.at_ (b := 0) rfl rfl (RowV.lstL rfl (by (repeat' (first | with_reducible exact VwL.nil | with_reducible refine VwL.cons ?_ ?_ | with_reducible exact Vw.anyI | with_reducible exact Vw.strI | with_reducible exact Vw.intI | with_reducible exact Vw.nilsI | with_reducible refine Vw.aggI ?_ | exact Vw.gndI rfl | exact Vw.slI (by simp [X0, X1, X2, X3, X4, X5]) rfl))))
    | 1 => cases ho; exact ViewL.at_ (b := 1) rfl rfl (RowV.lstL rfl (by (repeat' (first | with_reducible exact VwL.nil | with_reducible refine VwL.cons ?_ ?_ | with_reducible exact Vw.anyI | with_reducible exact Vw.strI | with_reducible exact Vw.intI | with_reducible exact Vw.nilsI | with_reducible refine Vw.aggI ?_ | exact Vw.gndI rfl | exact Vw.slI (by simp [X0, X1, X2, X3, X4, X5]) rfl))))
    | 2 => cases ho; exact ViewL.at_ (b := 2) rfl rfl (RowV.lstL rfl (by (repeat' (first | with_reducible exact VwL.nil | with_reducible refine VwL.cons ?_ ?_ | with_reducible exact Vw.anyI | with_reducible exact Vw.strI | with_reducible exact Vw.intI | with_reducible exact Vw.nilsI | with_reducible refine Vw.aggI ?_ | exact Vw.gndI rfl | exact Vw.slI (by simp [X0, X1, X2, X3, X4, X5]) rfl))))
    | 3 => cases ho; exact ViewL.at_ (b := 3) rfl rfl (RowV.lstL rfl (by (repeat' (first | with_reducible exact VwL.nil | with_reducible refine VwL.cons ?_ ?_ | with_reducible exact Vw.anyI | with_reducible exact Vw.strI | with_reducible exact Vw.intI | with_reducible exact Vw.nilsI | with_reducible refine Vw.aggI ?_ | exact Vw.gndI rfl | exact Vw.slI (by simp [X0, X1, X2, X3, X4, X5]) rfl))))
    | 4 => cases ho; exact ViewL.gone (b := 4) rfl (by simp [X0, X1, X2, X3, X4, X5])
    | 5 => cases ho; exact ViewL.at_ (b := 5) rfl rfl (RowV.lstL rfl (by (repeat' (first | with_reducible exact VwL.nil | with_reducible refine VwL.cons ?_ ?_ | with_reducible exact Vw.anyI | with_reducible exact Vw.strI | with_reducible exact Vw.intI | with_reducible exact Vw.nilsI | with_reducible refine Vw.aggI ?_ | exact Vw.gndI rfl | exact Vw.slI (by simp [X0, X1, X2, X3, X4, X5]) rfl))))
    | 6 => cases ho; exact ViewL.at_ (b := 6) rfl rfl (RowV.lstL rfl (by (repeat' (first | with_reducible exact VwL.nil | with_reducible refine VwL.cons ?_ ?_ | with_reducible exact Vw.anyI | with_reducible exact Vw.strI | with_reducible exact Vw.intI | with_reducible exact Vw.nilsI | with_reducible refine Vw.aggI ?_ | exact Vw.gndI rfl | exact Vw.slI (by simp [X0, X1, X2, X3, X4, X5]) rfl))))
    | 7 => cases ho; exact ViewL.at_ (b := 7) rfl rfl (RowV.lstL rfl (by (repeat' (first | with_reducible exact VwL.nil | with_reducible refine VwL.cons ?_ ?_ | with_reducible exact Vw.anyI | with_reducible exact Vw.strI | with_reducible exact Vw.intI | with_reducible exact Vw.nilsI | with_reducible refine Vw.aggI ?_ | exact Vw.gndI rfl | exact Vw.slI (by simp [X0, X1, X2, X3, X4, X5]) rfl))))
    | 8 => cases ho; exact ViewL.gone (b := 8) rfl (by simp [X0, X1, X2, X3, X4, X5])
    | 9 => cases ho; exact ViewL.at_ (b := 9) rfl rfl (RowV.lstL rfl (by (repeat' (first | with_reducible exact VwL.nil | with_reducible refine VwL.cons ?_ ?_ | with_reducible exact Vw.anyI | with_reducible exact Vw.strI | with_reducible exact Vw.intI | with_reducible exact Vw.nilsI | with_reducible refine Vw.aggI ?_ | exact Vw.gndI rfl | exact Vw.slI (by simp [X0, X1, X2, X3, X4, X5]) rfl))))
    | c + 10 => simp [X5] at ho
  · intro c c' b _ _ h1 h2
    cases h1; cases h2; rfl
theorem enc_le (v : Int) : (Utf8.encode v).data.toList.length ≤ 4 := by
  unfold Utf8.encode
  generalize (if Utf8.valid v = true then v.toNat else Utf8.runeError) = n
  dsimp only
  by_cases h1 : n < 128
  · rw [if_pos (by exact h1)]; simp
  · rw [if_neg (by exact h1)]
    by_cases h2 : n < 2048
    · rw [if_pos (by exact h2)]; simp
    · rw [if_neg (by exact h2)]
      by_cases h3 : n < 65536
      · rw [if_pos (by exact h3)]; simp
      · rw [if_neg (by exact h3)]; simp
theorem vw0 (R : Nat → RoRow) (a b : List UInt8) (v at_ : Int) (Q : AV → Rows → Prop) : vcd (env18 R) 10000 18 fi18 [.ptr false 2 0 0, .int .i64 v, .int .i64 at_, .int .i64 0, .int .i64 (-1)] (X0  a b) Q =
    (bif decide (v < 0) then
    Q (AV.int IntKind.i64 1)
      [some
          (Row.lst 84 5
            [AV.agg
                [AV.int IntKind.i64 (-1), AV.int IntKind.i64 (-1), AV.int IntKind.i64 (-1), AV.int IntKind.i64 (-1),
                  AV.int IntKind.i64 (-1)]]),
        some
          (Row.lst 87 10
            [AV.agg
                [AV.int IntKind.i64 0, AV.int IntKind.i64 0, AV.str [], AV.str [], AV.nils, AV.int IntKind.i64 (-1),
                  AV.int IntKind.i64 (-1), AV.int IntKind.i64 (-1), AV.int IntKind.i64 (-1), AV.int IntKind.i64 (-1)]]),
        some (Row.lst 90 1 [AV.agg [AV.sl false 1 0 1 Cp.tight]]), some (Row.lst 26 2 [AV.agg [AV.str a, AV.str b]])]
  else
    bif decide (v > 1114111) then
      Q (AV.int IntKind.i64 1)
        [some
            (Row.lst 84 5
              [AV.agg
                  [AV.int IntKind.i64 (-1), AV.int IntKind.i64 (-1), AV.int IntKind.i64 (-1), AV.int IntKind.i64 (-1),
                    AV.int IntKind.i64 (-1)]]),
          some
            (Row.lst 87 10
              [AV.agg
                  [AV.int IntKind.i64 0, AV.int IntKind.i64 0, AV.str [], AV.str [], AV.nils, AV.int IntKind.i64 (-1),
                    AV.int IntKind.i64 (-1), AV.int IntKind.i64 (-1), AV.int IntKind.i64 (-1),
                    AV.int IntKind.i64 (-1)]]),
          some (Row.lst 90 1 [AV.agg [AV.sl false 1 0 1 Cp.tight]]), some (Row.lst 26 2 [AV.agg [AV.str a, AV.str b]])]
    else
      bif !goodR (IntKind.i32.wrap v) then
        Q (AV.int IntKind.i64 1)
          [some
              (Row.lst 84 5
                [AV.agg
                    [AV.int IntKind.i64 (-1), AV.int IntKind.i64 (-1), AV.int IntKind.i64 (-1), AV.int IntKind.i64 (-1),
                      AV.int IntKind.i64 (-1)]]),
            some
              (Row.lst 87 10
                [AV.agg
                    [AV.int IntKind.i64 0, AV.int IntKind.i64 0, AV.str [], AV.str [], AV.nils, AV.int IntKind.i64 (-1),
                      AV.int IntKind.i64 (-1), AV.int IntKind.i64 (-1), AV.int IntKind.i64 (-1),
                      AV.int IntKind.i64 (-1)]]),
            some (Row.lst 90 1 [AV.agg [AV.sl false 1 0 1 Cp.tight]]),
            some (Row.lst 26 2 [AV.agg [AV.str a, AV.str b]])]
      else
        AV.agg
              [AV.int IntKind.i64 3, AV.int IntKind.i64 at_, AV.str [],
                AV.str (Utf8.encode (IntKind.i32.wrap v)).data.toList, AV.nils] =
            AV.agg
              [AV.int IntKind.i64 3, AV.int IntKind.i64 at_, AV.str [],
                AV.str (Utf8.encode (IntKind.i32.wrap v)).data.toList, AV.nils] ∧
          AV.sl false 1 0 1 Cp.tight = AV.sl false 1 0 1 Cp.tight ∧
            AV.sl false 1 0 1 Cp.tight = AV.sl false 1 0 1 Cp.tight ∧
              AV.ptr false 7 1 0 = AV.ptr false 7 1 0 ∧
                AV.sl false 7 0 2 Cp.no = AV.sl false 7 0 2 Cp.no ∧
                  Q (AV.int IntKind.i64 0)
                    [some
                        (Row.lst 84 5
                          [AV.agg
                              [AV.int IntKind.i64 (-1), AV.int IntKind.i64 (-1), AV.int IntKind.i64 (-1),
                                AV.int IntKind.i64 (-1), AV.int IntKind.i64 (-1)]]),
                      some
                        (Row.lst 87 10
                          [AV.agg
                              [AV.int IntKind.i64 0, AV.int IntKind.i64 0, AV.str [], AV.str [], AV.nils,
                                AV.int IntKind.i64 (-1), AV.int IntKind.i64 (-1), AV.int IntKind.i64 (-1),
                                AV.int IntKind.i64 (-1), AV.int IntKind.i64 (-1)]]),
                      some (Row.lst 90 1 [AV.agg [AV.sl false 7 0 2 Cp.no]]),
                      some (Row.lst 26 2 [AV.agg [AV.str a, AV.str b]]),
                      some
                        (Row.lst 32 5
                          [AV.agg
                              [AV.int IntKind.i64 3, AV.int IntKind.i64 at_, AV.str [],
                                AV.str (Utf8.encode (IntKind.i32.wrap v)).data.toList, AV.nils]]),
                      some
                        (Row.lst 84 5
                          [AV.agg
                              [AV.int IntKind.i64 (-1), AV.int IntKind.i64 (-1), AV.int IntKind.i64 (-1),
                                AV.int IntKind.i64 (-1), AV.int IntKind.i64 (-1)]]),
                      some
                        (Row.lst 87 10
                          [AV.agg
                              [AV.int IntKind.i64 3, AV.int IntKind.i64 at_, AV.str [],
                                AV.str (Utf8.encode (IntKind.i32.wrap v)).data.toList, AV.nils, AV.int IntKind.i64 (-1),
                                AV.int IntKind.i64 (-1), AV.int IntKind.i64 (-1), AV.int IntKind.i64 (-1),
                                AV.int IntKind.i64 (-1)]]),
                      some
                        (Row.lst 87 10
                          [AV.agg
                              [AV.int IntKind.i64 0, AV.int IntKind.i64 0, AV.str [], AV.str [], AV.nils,
                                AV.int IntKind.i64 (-1), AV.int IntKind.i64 1, AV.int IntKind.i64 1,
                                AV.int IntKind.i64 (-1), AV.int IntKind.i64 (-1)],
                            AV.agg
                              [AV.int IntKind.i64 3, AV.int IntKind.i64 at_, AV.str [],
                                AV.str (Utf8.encode (IntKind.i32.wrap v)).data.toList, AV.nils, AV.int IntKind.i64 0,
                                AV.int IntKind.i64 (-1), AV.int IntKind.i64 (-1), AV.int IntKind.i64 (-1),
                                AV.int IntKind.i64 (-1)]])]) := by kernel_rfl
theorem safe18_0 (R : Nat → RoRow) (a b : List UInt8) (v at_ : Int) (h0 : 0 ≤ v) (h1 : v < 2097152) : SafeCall Try.prog R 18 [.ptr false 2 0 0, .int .i64 v, .int .i64 at_, .int .i64 0, .int .i64 (-1)] (X0  a b) fun r h => (goodI v = true ∧ r = .int .i64 0 ∧ h = X1 (encI v) at_ a b) ∨ (goodI v = false ∧ r = .int .i64 1 ∧ h = X0  a b) := by
  have bad : goodI v = false → ∃ vE hE, FitV 4 vE hE (.int .i64 1) (X0  a b) ∧ ((goodI v = true ∧ vE = .int .i64 0 ∧ hE = X1 (encI v) at_ a b) ∨ (goodI v = false ∧ vE = .int .i64 1 ∧ hE = X0  a b)) :=
    fun hg => ⟨.int .i64 1, X0  a b, ⟨some, vX0  a b, Vw.intI, fun _ _ => rfl, Nat.le_refl _⟩, .inr ⟨hg, rfl, rfl⟩⟩
  have hw := w32 h0 h1
  refine SafeCall.fit (Q := fun r h => ∃ vE hE, FitV 4 vE hE r h ∧ ((goodI v = true ∧ vE = .int .i64 0 ∧ hE = X1 (encI v) at_ a b) ∨ (goodI v = false ∧ vE = .int .i64 1 ∧ hE = X0  a b))) ?_ (fun v' h' h => h)
  refine byVcd' (E := env18 R) (env18_ok R) (f := 18) (fi := fi18) (by kernel_rfl) 10000 (vw0 R  a b v at_ _) ?_
  rw [hw, goodRI h0]
  refine hcond (fun c => by exfalso; have := of_decide_eq_true c; omega) (fun _ => ?_)
  refine hcond (fun c => bad (by unfold goodI; rw [decide_eq_false (show ¬ v ≤ 1114111 by have := of_decide_eq_true c; omega)]; rfl)) (fun _ => ?_)
  refine hcond (fun c => bad (notT c)) (fun hg => ?_)
  have hg := notF hg
  · refine ⟨rfl, rfl, rfl, rfl, rfl, .int .i64 0, X1 (encI v) at_ a b, ⟨mv 4 7, ?_, Vw.intI, fun c hc => ?_, by simp [X0, X1, X2, X3, X4, X5]⟩, .inl ⟨hg, rfl, rfl⟩⟩
    · show View _ (X1 (encI v) at_ a b) _
      refine View.of ?_ ?_
      · intro c o ho
        match c with
        | 0 => cases ho; exact ViewL.at_ (b := 0) rfl rfl (RowV.lstL rfl (by (repeat' (first | with_reducible exact VwL.nil | with_reducible refine VwL.cons ?_ ?_ | with_reducible exact Vw.anyI | with_reducible exact Vw.strI | with_reducible exact Vw.intI | with_reducible exact Vw.nilsI | with_reducible refine Vw.aggI ?_ | exact Vw.gndI rfl | exact Vw.slI (by simp [X0, X1, X2, X3, X4, X5]) rfl))))
        | 1 => cases ho; exact ViewL.at_ (b := 1) rfl rfl (RowV.lstL rfl (by (repeat' (first | with_reducible exact VwL.nil | with_reducible refine VwL.cons ?_ ?_ | with_reducible exact Vw.anyI | with_reducible exact Vw.strI | with_reducible exact Vw.intI | with_reducible exact Vw.nilsI | with_reducible refine Vw.aggI ?_ | exact Vw.gndI rfl | exact Vw.slI (by simp [X0, X1, X2, X3, X4, X5]) rfl))))
        | 2 => cases ho; exact ViewL.at_ (b := 2) rfl rfl (RowV.lstL rfl (by (repeat' (first | with_reducible exact VwL.nil | with_reducible refine VwL.cons ?_ ?_ | with_reducible exact Vw.anyI | with_reducible exact Vw.strI | with_reducible exact Vw.intI | with_reducible exact Vw.nilsI | with_reducible refine Vw.aggI ?_ | exact Vw.gndI rfl | exact Vw.slI (by simp [X0, X1, X2, X3, X4, X5]) rfl))))
        | 3 => cases ho; exact ViewL.at_ (b := 3) rfl rfl (RowV.lstL rfl (by (repeat' (first | with_reducible exact VwL.nil | with_reducible refine VwL.cons ?_ ?_ | with_reducible exact Vw.anyI | with_reducible exact Vw.strI | with_reducible exact Vw.intI | with_reducible exact Vw.nilsI | with_reducible refine Vw.aggI ?_ | exact Vw.gndI rfl | exact Vw.slI (by simp [X0, X1, X2, X3, X4, X5]) rfl))))
        | 4 => cases ho; exact ViewL.at_ (b := 7) rfl rfl (RowV.lstL rfl (by (repeat' (first | with_reducible exact VwL.nil | with_reducible refine VwL.cons ?_ ?_ | with_reducible exact Vw.anyI | with_reducible exact Vw.strI | with_reducible exact Vw.intI | with_reducible exact Vw.nilsI | with_reducible refine Vw.aggI ?_ | exact Vw.gndI rfl | exact Vw.slI (by simp [X0, X1, X2, X3, X4, X5]) rfl))))
        | c + 5 => simp [X1] at ho
      · exact fun c c' b hc hc' h1 h2 => mv_inj (N := 5) (by decide) c c' b hc hc' h1 h2
    · unfold mv
      rw [show Nat.beq c 4 = false from by rw [Bool.eq_false_iff]; intro h; have := Nat.eq_of_beq_eq_true h; omega]
      rfl
theorem vw1 (R : Nat → RoRow) (d : List UInt8) (x : Int) (a b : List UInt8) (v at_ : Int) (Q : AV → Rows → Prop) : vcd (env18 R) 10000 18 fi18 [.ptr false 2 0 0, .int .i64 v, .int .i64 at_, .int .i64 0, .int .i64 (-1)] (X1 d x a b) Q =
    (bif decide (v < 0) then
    Q (AV.int IntKind.i64 1)
      [some
          (Row.lst 84 5
            [AV.agg
                [AV.int IntKind.i64 (-1), AV.int IntKind.i64 (-1), AV.int IntKind.i64 (-1), AV.int IntKind.i64 (-1),
                  AV.int IntKind.i64 (-1)]]),
        some
          (Row.lst 87 10
            [AV.agg
                [AV.int IntKind.i64 0, AV.int IntKind.i64 0, AV.str [], AV.str [], AV.nils, AV.int IntKind.i64 (-1),
                  AV.int IntKind.i64 (-1), AV.int IntKind.i64 (-1), AV.int IntKind.i64 (-1), AV.int IntKind.i64 (-1)]]),
        some (Row.lst 90 1 [AV.agg [AV.sl false 4 0 2 Cp.no]]), some (Row.lst 26 2 [AV.agg [AV.str a, AV.str b]]),
        some
          (Row.lst 87 10
            [AV.agg
                [AV.int IntKind.i64 0, AV.int IntKind.i64 0, AV.str [], AV.str [], AV.nils, AV.int IntKind.i64 (-1),
                  AV.int IntKind.i64 1, AV.int IntKind.i64 1, AV.int IntKind.i64 (-1), AV.int IntKind.i64 (-1)],
              AV.agg
                [AV.int IntKind.i64 3, AV.int IntKind.i64 x, AV.str [], AV.str d, AV.nils, AV.int IntKind.i64 0,
                  AV.int IntKind.i64 (-1), AV.int IntKind.i64 (-1), AV.int IntKind.i64 (-1), AV.int IntKind.i64 (-1)]])]
  else
    bif decide (v > 1114111) then
      Q (AV.int IntKind.i64 1)
        [some
            (Row.lst 84 5
              [AV.agg
                  [AV.int IntKind.i64 (-1), AV.int IntKind.i64 (-1), AV.int IntKind.i64 (-1), AV.int IntKind.i64 (-1),
                    AV.int IntKind.i64 (-1)]]),
          some
            (Row.lst 87 10
              [AV.agg
                  [AV.int IntKind.i64 0, AV.int IntKind.i64 0, AV.str [], AV.str [], AV.nils, AV.int IntKind.i64 (-1),
                    AV.int IntKind.i64 (-1), AV.int IntKind.i64 (-1), AV.int IntKind.i64 (-1),
                    AV.int IntKind.i64 (-1)]]),
          some (Row.lst 90 1 [AV.agg [AV.sl false 4 0 2 Cp.no]]), some (Row.lst 26 2 [AV.agg [AV.str a, AV.str b]]),
          some
            (Row.lst 87 10
              [AV.agg
                  [AV.int IntKind.i64 0, AV.int IntKind.i64 0, AV.str [], AV.str [], AV.nils, AV.int IntKind.i64 (-1),
                    AV.int IntKind.i64 1, AV.int IntKind.i64 1, AV.int IntKind.i64 (-1), AV.int IntKind.i64 (-1)],
                AV.agg
                  [AV.int IntKind.i64 3, AV.int IntKind.i64 x, AV.str [], AV.str d, AV.nils, AV.int IntKind.i64 0,
                    AV.int IntKind.i64 (-1), AV.int IntKind.i64 (-1), AV.int IntKind.i64 (-1),
                    AV.int IntKind.i64 (-1)]])]
    else
      bif !goodR (IntKind.i32.wrap v) then
        Q (AV.int IntKind.i64 1)
          [some
              (Row.lst 84 5
                [AV.agg
                    [AV.int IntKind.i64 (-1), AV.int IntKind.i64 (-1), AV.int IntKind.i64 (-1), AV.int IntKind.i64 (-1),
                      AV.int IntKind.i64 (-1)]]),
            some
              (Row.lst 87 10
                [AV.agg
                    [AV.int IntKind.i64 0, AV.int IntKind.i64 0, AV.str [], AV.str [], AV.nils, AV.int IntKind.i64 (-1),
                      AV.int IntKind.i64 (-1), AV.int IntKind.i64 (-1), AV.int IntKind.i64 (-1),
                      AV.int IntKind.i64 (-1)]]),
            some (Row.lst 90 1 [AV.agg [AV.sl false 4 0 2 Cp.no]]), some (Row.lst 26 2 [AV.agg [AV.str a, AV.str b]]),
            some
              (Row.lst 87 10
                [AV.agg
                    [AV.int IntKind.i64 0, AV.int IntKind.i64 0, AV.str [], AV.str [], AV.nils, AV.int IntKind.i64 (-1),
                      AV.int IntKind.i64 1, AV.int IntKind.i64 1, AV.int IntKind.i64 (-1), AV.int IntKind.i64 (-1)],
                  AV.agg
                    [AV.int IntKind.i64 3, AV.int IntKind.i64 x, AV.str [], AV.str d, AV.nils, AV.int IntKind.i64 0,
                      AV.int IntKind.i64 (-1), AV.int IntKind.i64 (-1), AV.int IntKind.i64 (-1),
                      AV.int IntKind.i64 (-1)]])]
      else
        bif decide (d.length + (Utf8.encode (IntKind.i32.wrap v)).data.toList.length ≤ 9223372036854775807) then
          Q (AV.int IntKind.i64 0)
            [some
                (Row.lst 84 5
                  [AV.agg
                      [AV.int IntKind.i64 (-1), AV.int IntKind.i64 (-1), AV.int IntKind.i64 (-1),
                        AV.int IntKind.i64 (-1), AV.int IntKind.i64 (-1)]]),
              some
                (Row.lst 87 10
                  [AV.agg
                      [AV.int IntKind.i64 0, AV.int IntKind.i64 0, AV.str [], AV.str [], AV.nils,
                        AV.int IntKind.i64 (-1), AV.int IntKind.i64 (-1), AV.int IntKind.i64 (-1),
                        AV.int IntKind.i64 (-1), AV.int IntKind.i64 (-1)]]),
              some (Row.lst 90 1 [AV.agg [AV.sl false 4 0 2 Cp.no]]), some (Row.lst 26 2 [AV.agg [AV.str a, AV.str b]]),
              some
                (Row.lst 87 10
                  [AV.agg
                      [AV.int IntKind.i64 0, AV.int IntKind.i64 0, AV.str [], AV.str [], AV.nils,
                        AV.int IntKind.i64 (-1), AV.int IntKind.i64 1, AV.int IntKind.i64 1, AV.int IntKind.i64 (-1),
                        AV.int IntKind.i64 (-1)],
                    AV.agg
                      [AV.int IntKind.i64 3, AV.int IntKind.i64 x, AV.str [],
                        AV.str (d ++ (Utf8.encode (IntKind.i32.wrap v)).data.toList), AV.nils, AV.int IntKind.i64 0,
                        AV.int IntKind.i64 (-1), AV.int IntKind.i64 (-1), AV.int IntKind.i64 (-1),
                        AV.int IntKind.i64 (-1)]])]
        else False) := by kernel_rfl
theorem safe18_1 (R : Nat → RoRow) (d : List UInt8) (x : Int) (a b : List UInt8) (v at_ : Int) (h0 : 0 ≤ v) (h1 : v < 2097152) (hd : d.length ≤ 1000) : SafeCall Try.prog R 18 [.ptr false 2 0 0, .int .i64 v, .int .i64 at_, .int .i64 0, .int .i64 (-1)] (X1 d x a b) fun r h => (goodI v = true ∧ r = .int .i64 0 ∧ h = X1 (d ++ encI v) x a b) ∨ (goodI v = false ∧ r = .int .i64 1 ∧ h = X1 d x a b) := by
  have bad : goodI v = false → ∃ vE hE, FitV 5 vE hE (.int .i64 1) (X1 d x a b) ∧ ((goodI v = true ∧ vE = .int .i64 0 ∧ hE = X1 (d ++ encI v) x a b) ∨ (goodI v = false ∧ vE = .int .i64 1 ∧ hE = X1 d x a b)) :=
    fun hg => ⟨.int .i64 1, X1 d x a b, ⟨some, vX1 d x a b, Vw.intI, fun _ _ => rfl, Nat.le_refl _⟩, .inr ⟨hg, rfl, rfl⟩⟩
  have hw := w32 h0 h1
  refine SafeCall.fit (Q := fun r h => ∃ vE hE, FitV 5 vE hE r h ∧ ((goodI v = true ∧ vE = .int .i64 0 ∧ hE = X1 (d ++ encI v) x a b) ∨ (goodI v = false ∧ vE = .int .i64 1 ∧ hE = X1 d x a b))) ?_ (fun v' h' h => h)
  refine byVcd' (E := env18 R) (env18_ok R) (f := 18) (fi := fi18) (by kernel_rfl) 10000 (vw1 R d x a b v at_ _) ?_
  rw [hw, goodRI h0]
  refine hcond (fun c => by exfalso; have := of_decide_eq_true c; omega) (fun _ => ?_)
  refine hcond (fun c => bad (by unfold goodI; rw [decide_eq_false (show ¬ v ≤ 1114111 by have := of_decide_eq_true c; omega)]; rfl)) (fun _ => ?_)
  refine hcond (fun c => bad (notT c)) (fun hg => ?_)
  have hg := notF hg
  · refine hcond (fun _ => ?_) (fun c => by exfalso; have := of_decide_eq_false c; have := enc_le v; omega)
    exact ⟨.int .i64 0, X1 (d ++ encI v) x a b, ⟨some, vX1 (d ++ encI v) x a b, Vw.intI, fun _ _ => rfl, Nat.le_refl _⟩, .inl ⟨hg, rfl, rfl⟩⟩
theorem vw2 (R : Nat → RoRow) (a b : List UInt8) (v at_ : Int) (Q : AV → Rows → Prop) : vcd (env18 R) 10000 18 fi18 [.ptr false 2 0 0, .int .i64 v, .int .i64 at_, .int .i64 0, .int .i64 (-1)] (X2  a b) Q =
    (bif decide (v < 0) then
    Q (AV.int IntKind.i64 1)
      [some
          (Row.lst 84 5
            [AV.agg
                [AV.int IntKind.i64 (-1), AV.int IntKind.i64 (-1), AV.int IntKind.i64 (-1), AV.int IntKind.i64 (-1),
                  AV.int IntKind.i64 (-1)]]),
        some
          (Row.lst 87 10
            [AV.agg
                [AV.int IntKind.i64 0, AV.int IntKind.i64 0, AV.str [], AV.str [], AV.nils, AV.int IntKind.i64 (-1),
                  AV.int IntKind.i64 (-1), AV.int IntKind.i64 (-1), AV.int IntKind.i64 (-1), AV.int IntKind.i64 (-1)]]),
        some (Row.lst 90 1 [AV.agg [AV.sl false 7 0 2 Cp.no]]), some (Row.lst 26 2 [AV.agg [AV.str a, AV.str b]]),
        some (Row.lst 32 5 [AV.agg [AV.int IntKind.i64 4, AV.int IntKind.i64 0, AV.str [], AV.str [], AV.nils]]),
        some
          (Row.lst 84 5
            [AV.agg
                [AV.int IntKind.i64 (-1), AV.int IntKind.i64 (-1), AV.int IntKind.i64 (-1), AV.int IntKind.i64 (-1),
                  AV.int IntKind.i64 (-1)]]),
        some
          (Row.lst 87 10
            [AV.agg
                [AV.int IntKind.i64 4, AV.int IntKind.i64 0, AV.str [], AV.str [], AV.nils, AV.int IntKind.i64 (-1),
                  AV.int IntKind.i64 (-1), AV.int IntKind.i64 (-1), AV.int IntKind.i64 (-1), AV.int IntKind.i64 (-1)]]),
        some
          (Row.lst 87 10
            [AV.agg
                [AV.int IntKind.i64 0, AV.int IntKind.i64 0, AV.str [], AV.str [], AV.nils, AV.int IntKind.i64 (-1),
                  AV.int IntKind.i64 1, AV.int IntKind.i64 1, AV.int IntKind.i64 (-1), AV.int IntKind.i64 (-1)],
              AV.agg
                [AV.int IntKind.i64 4, AV.int IntKind.i64 0, AV.str [], AV.str [], AV.nils, AV.int IntKind.i64 0,
                  AV.int IntKind.i64 (-1), AV.int IntKind.i64 (-1), AV.int IntKind.i64 (-1), AV.int IntKind.i64 (-1)]])]
  else
    bif decide (v > 1114111) then
      Q (AV.int IntKind.i64 1)
        [some
            (Row.lst 84 5
              [AV.agg
                  [AV.int IntKind.i64 (-1), AV.int IntKind.i64 (-1), AV.int IntKind.i64 (-1), AV.int IntKind.i64 (-1),
                    AV.int IntKind.i64 (-1)]]),
          some
            (Row.lst 87 10
              [AV.agg
                  [AV.int IntKind.i64 0, AV.int IntKind.i64 0, AV.str [], AV.str [], AV.nils, AV.int IntKind.i64 (-1),
                    AV.int IntKind.i64 (-1), AV.int IntKind.i64 (-1), AV.int IntKind.i64 (-1),
                    AV.int IntKind.i64 (-1)]]),
          some (Row.lst 90 1 [AV.agg [AV.sl false 7 0 2 Cp.no]]), some (Row.lst 26 2 [AV.agg [AV.str a, AV.str b]]),
          some (Row.lst 32 5 [AV.agg [AV.int IntKind.i64 4, AV.int IntKind.i64 0, AV.str [], AV.str [], AV.nils]]),
          some
            (Row.lst 84 5
              [AV.agg
                  [AV.int IntKind.i64 (-1), AV.int IntKind.i64 (-1), AV.int IntKind.i64 (-1), AV.int IntKind.i64 (-1),
                    AV.int IntKind.i64 (-1)]]),
          some
            (Row.lst 87 10
              [AV.agg
                  [AV.int IntKind.i64 4, AV.int IntKind.i64 0, AV.str [], AV.str [], AV.nils, AV.int IntKind.i64 (-1),
                    AV.int IntKind.i64 (-1), AV.int IntKind.i64 (-1), AV.int IntKind.i64 (-1),
                    AV.int IntKind.i64 (-1)]]),
          some
            (Row.lst 87 10
              [AV.agg
                  [AV.int IntKind.i64 0, AV.int IntKind.i64 0, AV.str [], AV.str [], AV.nils, AV.int IntKind.i64 (-1),
                    AV.int IntKind.i64 1, AV.int IntKind.i64 1, AV.int IntKind.i64 (-1), AV.int IntKind.i64 (-1)],
                AV.agg
                  [AV.int IntKind.i64 4, AV.int IntKind.i64 0, AV.str [], AV.str [], AV.nils, AV.int IntKind.i64 0,
                    AV.int IntKind.i64 (-1), AV.int IntKind.i64 (-1), AV.int IntKind.i64 (-1),
                    AV.int IntKind.i64 (-1)]])]
    else
      bif !goodR (IntKind.i32.wrap v) then
        Q (AV.int IntKind.i64 1)
          [some
              (Row.lst 84 5
                [AV.agg
                    [AV.int IntKind.i64 (-1), AV.int IntKind.i64 (-1), AV.int IntKind.i64 (-1), AV.int IntKind.i64 (-1),
                      AV.int IntKind.i64 (-1)]]),
            some
              (Row.lst 87 10
                [AV.agg
                    [AV.int IntKind.i64 0, AV.int IntKind.i64 0, AV.str [], AV.str [], AV.nils, AV.int IntKind.i64 (-1),
                      AV.int IntKind.i64 (-1), AV.int IntKind.i64 (-1), AV.int IntKind.i64 (-1),
                      AV.int IntKind.i64 (-1)]]),
            some (Row.lst 90 1 [AV.agg [AV.sl false 7 0 2 Cp.no]]), some (Row.lst 26 2 [AV.agg [AV.str a, AV.str b]]),
            some (Row.lst 32 5 [AV.agg [AV.int IntKind.i64 4, AV.int IntKind.i64 0, AV.str [], AV.str [], AV.nils]]),
            some
              (Row.lst 84 5
                [AV.agg
                    [AV.int IntKind.i64 (-1), AV.int IntKind.i64 (-1), AV.int IntKind.i64 (-1), AV.int IntKind.i64 (-1),
                      AV.int IntKind.i64 (-1)]]),
            some
              (Row.lst 87 10
                [AV.agg
                    [AV.int IntKind.i64 4, AV.int IntKind.i64 0, AV.str [], AV.str [], AV.nils, AV.int IntKind.i64 (-1),
                      AV.int IntKind.i64 (-1), AV.int IntKind.i64 (-1), AV.int IntKind.i64 (-1),
                      AV.int IntKind.i64 (-1)]]),
            some
              (Row.lst 87 10
                [AV.agg
                    [AV.int IntKind.i64 0, AV.int IntKind.i64 0, AV.str [], AV.str [], AV.nils, AV.int IntKind.i64 (-1),
                      AV.int IntKind.i64 1, AV.int IntKind.i64 1, AV.int IntKind.i64 (-1), AV.int IntKind.i64 (-1)],
                  AV.agg
                    [AV.int IntKind.i64 4, AV.int IntKind.i64 0, AV.str [], AV.str [], AV.nils, AV.int IntKind.i64 0,
                      AV.int IntKind.i64 (-1), AV.int IntKind.i64 (-1), AV.int IntKind.i64 (-1),
                      AV.int IntKind.i64 (-1)]])]
      else
        AV.agg
              [AV.int IntKind.i64 3, AV.int IntKind.i64 at_, AV.str [],
                AV.str (Utf8.encode (IntKind.i32.wrap v)).data.toList, AV.nils] =
            AV.agg
              [AV.int IntKind.i64 3, AV.int IntKind.i64 at_, AV.str [],
                AV.str (Utf8.encode (IntKind.i32.wrap v)).data.toList, AV.nils] ∧
          AV.sl false 7 0 2 Cp.no = AV.sl false 7 0 2 Cp.no ∧
            AV.sl false 7 0 2 Cp.no = AV.sl false 7 0 2 Cp.no ∧
              AV.ptr false 11 2 0 = AV.ptr false 11 2 0 ∧
                AV.sl false 11 0 3 Cp.no = AV.sl false 11 0 3 Cp.no ∧
                  Q (AV.int IntKind.i64 0)
                    [some
                        (Row.lst 84 5
                          [AV.agg
                              [AV.int IntKind.i64 (-1), AV.int IntKind.i64 (-1), AV.int IntKind.i64 (-1),
                                AV.int IntKind.i64 (-1), AV.int IntKind.i64 (-1)]]),
                      some
                        (Row.lst 87 10
                          [AV.agg
                              [AV.int IntKind.i64 0, AV.int IntKind.i64 0, AV.str [], AV.str [], AV.nils,
                                AV.int IntKind.i64 (-1), AV.int IntKind.i64 (-1), AV.int IntKind.i64 (-1),
                                AV.int IntKind.i64 (-1), AV.int IntKind.i64 (-1)]]),
                      some (Row.lst 90 1 [AV.agg [AV.sl false 11 0 3 Cp.no]]),
                      some (Row.lst 26 2 [AV.agg [AV.str a, AV.str b]]),
                      some
                        (Row.lst 32 5
                          [AV.agg [AV.int IntKind.i64 4, AV.int IntKind.i64 0, AV.str [], AV.str [], AV.nils]]),
                      some
                        (Row.lst 84 5
                          [AV.agg
                              [AV.int IntKind.i64 (-1), AV.int IntKind.i64 (-1), AV.int IntKind.i64 (-1),
                                AV.int IntKind.i64 (-1), AV.int IntKind.i64 (-1)]]),
                      some
                        (Row.lst 87 10
                          [AV.agg
                              [AV.int IntKind.i64 4, AV.int IntKind.i64 0, AV.str [], AV.str [], AV.nils,
                                AV.int IntKind.i64 (-1), AV.int IntKind.i64 (-1), AV.int IntKind.i64 (-1),
                                AV.int IntKind.i64 (-1), AV.int IntKind.i64 (-1)]]),
                      none,
                      some
                        (Row.lst 32 5
                          [AV.agg
                              [AV.int IntKind.i64 3, AV.int IntKind.i64 at_, AV.str [],
                                AV.str (Utf8.encode (IntKind.i32.wrap v)).data.toList, AV.nils]]),
                      some
                        (Row.lst 84 5
                          [AV.agg
                              [AV.int IntKind.i64 (-1), AV.int IntKind.i64 (-1), AV.int IntKind.i64 (-1),
                                AV.int IntKind.i64 (-1), AV.int IntKind.i64 (-1)]]),
                      some
                        (Row.lst 87 10
                          [AV.agg
                              [AV.int IntKind.i64 3, AV.int IntKind.i64 at_, AV.str [],
                                AV.str (Utf8.encode (IntKind.i32.wrap v)).data.toList, AV.nils, AV.int IntKind.i64 (-1),
                                AV.int IntKind.i64 (-1), AV.int IntKind.i64 (-1), AV.int IntKind.i64 (-1),
                                AV.int IntKind.i64 (-1)]]),
                      some
                        (Row.lst 87 10
                          [AV.agg
                              [AV.int IntKind.i64 0, AV.int IntKind.i64 0, AV.str [], AV.str [], AV.nils,
                                AV.int IntKind.i64 (-1), AV.int IntKind.i64 1, AV.int IntKind.i64 2,
                                AV.int IntKind.i64 (-1), AV.int IntKind.i64 (-1)],
                            AV.agg
                              [AV.int IntKind.i64 4, AV.int IntKind.i64 0, AV.str [], AV.str [], AV.nils,
                                AV.int IntKind.i64 0, AV.int IntKind.i64 (-1), AV.int IntKind.i64 (-1),
                                AV.int IntKind.i64 (-1), AV.int IntKind.i64 2],
                            AV.agg
                              [AV.int IntKind.i64 3, AV.int IntKind.i64 at_, AV.str [],
                                AV.str (Utf8.encode (IntKind.i32.wrap v)).data.toList, AV.nils, AV.int IntKind.i64 0,
                                AV.int IntKind.i64 (-1), AV.int IntKind.i64 (-1), AV.int IntKind.i64 1,
                                AV.int IntKind.i64 (-1)]])]) := by kernel_rfl
theorem safe18_2 (R : Nat → RoRow) (a b : List UInt8) (v at_ : Int) (h0 : 0 ≤ v) (h1 : v < 2097152) : SafeCall Try.prog R 18 [.ptr false 2 0 0, .int .i64 v, .int .i64 at_, .int .i64 0, .int .i64 (-1)] (X2  a b) fun r h => (goodI v = true ∧ r = .int .i64 0 ∧ h = X3 (encI v) at_ a b) ∨ (goodI v = false ∧ r = .int .i64 1 ∧ h = X2  a b) := by
  have bad : goodI v = false → ∃ vE hE, FitV 8 vE hE (.int .i64 1) (X2  a b) ∧ ((goodI v = true ∧ vE = .int .i64 0 ∧ hE = X3 (encI v) at_ a b) ∨ (goodI v = false ∧ vE = .int .i64 1 ∧ hE = X2  a b)) :=
    fun hg => ⟨.int .i64 1, X2  a b, ⟨some, vX2  a b, Vw.intI, fun _ _ => rfl, Nat.le_refl _⟩, .inr ⟨hg, rfl, rfl⟩⟩
  have hw := w32 h0 h1
  refine SafeCall.fit (Q := fun r h => ∃ vE hE, FitV 8 vE hE r h ∧ ((goodI v = true ∧ vE = .int .i64 0 ∧ hE = X3 (encI v) at_ a b) ∨ (goodI v = false ∧ vE = .int .i64 1 ∧ hE = X2  a b))) ?_ (fun v' h' h => h)
  refine byVcd' (E := env18 R) (env18_ok R) (f := 18) (fi := fi18) (by kernel_rfl) 10000 (vw2 R  a b v at_ _) ?_
  rw [hw, goodRI h0]
  refine hcond (fun c => by exfalso; have := of_decide_eq_true c; omega) (fun _ => ?_)
  refine hcond (fun c => bad (by unfold goodI; rw [decide_eq_false (show ¬ v ≤ 1114111 by have := of_decide_eq_true c; omega)]; rfl)) (fun _ => ?_)
  refine hcond (fun c => bad (notT c)) (fun hg => ?_)
  have hg := notF hg
  · refine ⟨rfl, rfl, rfl, rfl, rfl, .int .i64 0, X3 (encI v) at_ a b, ⟨mv 8 11, ?_, Vw.intI, fun c hc => ?_, by simp [X0, X1, X2, X3, X4, X5]⟩, .inl ⟨hg, rfl, rfl⟩⟩
    · show View _ (X3 (encI v) at_ a b) _
      refine View.of ?_ ?_
      · intro c o ho
        match c with
        | 0 => cases ho; exact ViewL.at_ (b := 0) rfl rfl (RowV.lstL rfl (by (repeat' (first | with_reducible exact VwL.nil | with_reducible refine VwL.cons ?_ ?_ | with_reducible exact Vw.anyI | with_reducible exact Vw.strI | with_reducible exact Vw.intI | with_reducible exact Vw.nilsI | with_reducible refine Vw.aggI ?_ | exact Vw.gndI rfl | exact Vw.slI (by simp [X0, X1, X2, X3, X4, X5]) rfl))))
        | 1 => cases ho; exact ViewL.at_ (b := 1) rfl rfl (RowV.lstL rfl (by (repeat' (first | with_reducible exact VwL.nil | with_reducible refine VwL.cons ?_ ?_ | with_reducible exact Vw.anyI | with_reducible exact Vw.strI | with_reducible exact Vw.intI | with_reducible exact Vw.nilsI | with_reducible refine Vw.aggI ?_ | exact Vw.gndI rfl | exact Vw.slI (by simp [X0, X1, X2, X3, X4, X5]) rfl))))
        | 2 => cases ho; exact ViewL.at_ (b := 2) rfl rfl (RowV.lstL rfl (by (repeat' (first | with_reducible exact VwL.nil | with_reducible refine VwL.cons ?_ ?_ | with_reducible exact Vw.anyI | with_reducible exact Vw.strI | with_reducible exact Vw.intI | with_reducible exact Vw.nilsI | with_reducible refine Vw.aggI ?_ | exact Vw.gndI rfl | exact Vw.slI (by simp [X0, X1, X2, X3, X4, X5]) rfl))))
        | 3 => cases ho; exact ViewL.at_ (b := 3) rfl rfl (RowV.lstL rfl (by (repeat' (first | with_reducible exact VwL.nil | with_reducible refine VwL.cons ?_ ?_ | with_reducible exact Vw.anyI | with_reducible exact Vw.strI | with_reducible exact Vw.intI | with_reducible exact Vw.nilsI | with_reducible refine Vw.aggI ?_ | exact Vw.gndI rfl | exact Vw.slI (by simp [X0, X1, X2, X3, X4, X5]) rfl))))
        | 4 => cases ho; exact ViewL.at_ (b := 4) rfl rfl (RowV.lstL rfl (by (repeat' (first | with_reducible exact VwL.nil | with_reducible refine VwL.cons ?_ ?_ | with_reducible exact Vw.anyI | with_reducible exact Vw.strI | with_reducible exact Vw.intI | with_reducible exact Vw.nilsI | with_reducible refine Vw.aggI ?_ | exact Vw.gndI rfl | exact Vw.slI (by simp [X0, X1, X2, X3, X4, X5]) rfl))))
        | 5 => cases ho; exact ViewL.at_ (b := 5) rfl rfl (RowV.lstL rfl (by (repeat' (first | with_reducible exact VwL.nil | with_reducible refine VwL.cons ?_ ?_ | with_reducible exact Vw.anyI | with_reducible exact Vw.strI | with_reducible exact Vw.intI | with_reducible exact Vw.nilsI | with_reducible refine Vw.aggI ?_ | exact Vw.gndI rfl | exact Vw.slI (by simp [X0, X1, X2, X3, X4, X5]) rfl))))
        | 6 => cases ho; exact ViewL.at_ (b := 6) rfl rfl (RowV.lstL rfl (by (repeat' (first | with_reducible exact VwL.nil | with_reducible refine VwL.cons ?_ ?_ | with_reducible exact Vw.anyI | with_reducible exact Vw.strI | with_reducible exact Vw.intI | with_reducible exact Vw.nilsI | with_reducible refine Vw.aggI ?_ | exact Vw.gndI rfl | exact Vw.slI (by simp [X0, X1, X2, X3, X4, X5]) rfl))))
        | 7 => cases ho; exact ViewL.gone (b := 7) rfl (by simp [X0, X1, X2, X3, X4, X5])
        | 8 => cases ho; exact ViewL.at_ (b := 11) rfl rfl (RowV.lstL rfl (by (repeat' (first | with_reducible exact VwL.nil | with_reducible refine VwL.cons ?_ ?_ | with_reducible exact Vw.anyI | with_reducible exact Vw.strI | with_reducible exact Vw.intI | with_reducible exact Vw.nilsI | with_reducible refine Vw.aggI ?_ | exact Vw.gndI rfl | exact Vw.slI (by simp [X0, X1, X2, X3, X4, X5]) rfl))))
        | c + 9 => simp [X3] at ho
      · exact fun c c' b hc hc' h1 h2 => mv_inj (N := 9) (by decide) c c' b hc hc' h1 h2
    · unfold mv
      rw [show Nat.beq c 8 = false from by rw [Bool.eq_false_iff]; intro h; have := Nat.eq_of_beq_eq_true h; omega]
      rfl
theorem vw3 (R : Nat → RoRow) (e : List UInt8) (y : Int) (a b : List UInt8) (v at_ : Int) (Q : AV → Rows → Prop) : vcd (env18 R) 10000 18 fi18 [.ptr false 2 0 0, .int .i64 v, .int .i64 at_, .int .i64 0, .int .i64 (-1)] (X3 e y a b) Q =
    (bif decide (v < 0) then
    Q (AV.int IntKind.i64 1)
      [some
          (Row.lst 84 5
            [AV.agg
                [AV.int IntKind.i64 (-1), AV.int IntKind.i64 (-1), AV.int IntKind.i64 (-1), AV.int IntKind.i64 (-1),
                  AV.int IntKind.i64 (-1)]]),
        some
          (Row.lst 87 10
            [AV.agg
                [AV.int IntKind.i64 0, AV.int IntKind.i64 0, AV.str [], AV.str [], AV.nils, AV.int IntKind.i64 (-1),
                  AV.int IntKind.i64 (-1), AV.int IntKind.i64 (-1), AV.int IntKind.i64 (-1), AV.int IntKind.i64 (-1)]]),
        some (Row.lst 90 1 [AV.agg [AV.sl false 8 0 3 Cp.no]]), some (Row.lst 26 2 [AV.agg [AV.str a, AV.str b]]),
        some (Row.lst 32 5 [AV.agg [AV.int IntKind.i64 4, AV.int IntKind.i64 0, AV.str [], AV.str [], AV.nils]]),
        some
          (Row.lst 84 5
            [AV.agg
                [AV.int IntKind.i64 (-1), AV.int IntKind.i64 (-1), AV.int IntKind.i64 (-1), AV.int IntKind.i64 (-1),
                  AV.int IntKind.i64 (-1)]]),
        some
          (Row.lst 87 10
            [AV.agg
                [AV.int IntKind.i64 4, AV.int IntKind.i64 0, AV.str [], AV.str [], AV.nils, AV.int IntKind.i64 (-1),
                  AV.int IntKind.i64 (-1), AV.int IntKind.i64 (-1), AV.int IntKind.i64 (-1), AV.int IntKind.i64 (-1)]]),
        none,
        some
          (Row.lst 87 10
            [AV.agg
                [AV.int IntKind.i64 0, AV.int IntKind.i64 0, AV.str [], AV.str [], AV.nils, AV.int IntKind.i64 (-1),
                  AV.int IntKind.i64 1, AV.int IntKind.i64 2, AV.int IntKind.i64 (-1), AV.int IntKind.i64 (-1)],
              AV.agg
                [AV.int IntKind.i64 4, AV.int IntKind.i64 0, AV.str [], AV.str [], AV.nils, AV.int IntKind.i64 0,
                  AV.int IntKind.i64 (-1), AV.int IntKind.i64 (-1), AV.int IntKind.i64 (-1), AV.int IntKind.i64 2],
              AV.agg
                [AV.int IntKind.i64 3, AV.int IntKind.i64 y, AV.str [], AV.str e, AV.nils, AV.int IntKind.i64 0,
                  AV.int IntKind.i64 (-1), AV.int IntKind.i64 (-1), AV.int IntKind.i64 1, AV.int IntKind.i64 (-1)]])]
  else
    bif decide (v > 1114111) then
      Q (AV.int IntKind.i64 1)
        [some
            (Row.lst 84 5
              [AV.agg
                  [AV.int IntKind.i64 (-1), AV.int IntKind.i64 (-1), AV.int IntKind.i64 (-1), AV.int IntKind.i64 (-1),
                    AV.int IntKind.i64 (-1)]]),
          some
            (Row.lst 87 10
              [AV.agg
                  [AV.int IntKind.i64 0, AV.int IntKind.i64 0, AV.str [], AV.str [], AV.nils, AV.int IntKind.i64 (-1),
                    AV.int IntKind.i64 (-1), AV.int IntKind.i64 (-1), AV.int IntKind.i64 (-1),
                    AV.int IntKind.i64 (-1)]]),
          some (Row.lst 90 1 [AV.agg [AV.sl false 8 0 3 Cp.no]]), some (Row.lst 26 2 [AV.agg [AV.str a, AV.str b]]),
          some (Row.lst 32 5 [AV.agg [AV.int IntKind.i64 4, AV.int IntKind.i64 0, AV.str [], AV.str [], AV.nils]]),
          some
            (Row.lst 84 5
              [AV.agg
                  [AV.int IntKind.i64 (-1), AV.int IntKind.i64 (-1), AV.int IntKind.i64 (-1), AV.int IntKind.i64 (-1),
                    AV.int IntKind.i64 (-1)]]),
          some
            (Row.lst 87 10
              [AV.agg
                  [AV.int IntKind.i64 4, AV.int IntKind.i64 0, AV.str [], AV.str [], AV.nils, AV.int IntKind.i64 (-1),
                    AV.int IntKind.i64 (-1), AV.int IntKind.i64 (-1), AV.int IntKind.i64 (-1),
                    AV.int IntKind.i64 (-1)]]),
          none,
          some
            (Row.lst 87 10
              [AV.agg
                  [AV.int IntKind.i64 0, AV.int IntKind.i64 0, AV.str [], AV.str [], AV.nils, AV.int IntKind.i64 (-1),
                    AV.int IntKind.i64 1, AV.int IntKind.i64 2, AV.int IntKind.i64 (-1), AV.int IntKind.i64 (-1)],
                AV.agg
                  [AV.int IntKind.i64 4, AV.int IntKind.i64 0, AV.str [], AV.str [], AV.nils, AV.int IntKind.i64 0,
                    AV.int IntKind.i64 (-1), AV.int IntKind.i64 (-1), AV.int IntKind.i64 (-1), AV.int IntKind.i64 2],
                AV.agg
                  [AV.int IntKind.i64 3, AV.int IntKind.i64 y, AV.str [], AV.str e, AV.nils, AV.int IntKind.i64 0,
                    AV.int IntKind.i64 (-1), AV.int IntKind.i64 (-1), AV.int IntKind.i64 1, AV.int IntKind.i64 (-1)]])]
    else
      bif !goodR (IntKind.i32.wrap v) then
        Q (AV.int IntKind.i64 1)
          [some
              (Row.lst 84 5
                [AV.agg
                    [AV.int IntKind.i64 (-1), AV.int IntKind.i64 (-1), AV.int IntKind.i64 (-1), AV.int IntKind.i64 (-1),
                      AV.int IntKind.i64 (-1)]]),
            some
              (Row.lst 87 10
                [AV.agg
                    [AV.int IntKind.i64 0, AV.int IntKind.i64 0, AV.str [], AV.str [], AV.nils, AV.int IntKind.i64 (-1),
                      AV.int IntKind.i64 (-1), AV.int IntKind.i64 (-1), AV.int IntKind.i64 (-1),
                      AV.int IntKind.i64 (-1)]]),
            some (Row.lst 90 1 [AV.agg [AV.sl false 8 0 3 Cp.no]]), some (Row.lst 26 2 [AV.agg [AV.str a, AV.str b]]),
            some (Row.lst 32 5 [AV.agg [AV.int IntKind.i64 4, AV.int IntKind.i64 0, AV.str [], AV.str [], AV.nils]]),
            some
              (Row.lst 84 5
                [AV.agg
                    [AV.int IntKind.i64 (-1), AV.int IntKind.i64 (-1), AV.int IntKind.i64 (-1), AV.int IntKind.i64 (-1),
                      AV.int IntKind.i64 (-1)]]),
            some
              (Row.lst 87 10
                [AV.agg
                    [AV.int IntKind.i64 4, AV.int IntKind.i64 0, AV.str [], AV.str [], AV.nils, AV.int IntKind.i64 (-1),
                      AV.int IntKind.i64 (-1), AV.int IntKind.i64 (-1), AV.int IntKind.i64 (-1),
                      AV.int IntKind.i64 (-1)]]),
            none,
            some
              (Row.lst 87 10
                [AV.agg
                    [AV.int IntKind.i64 0, AV.int IntKind.i64 0, AV.str [], AV.str [], AV.nils, AV.int IntKind.i64 (-1),
                      AV.int IntKind.i64 1, AV.int IntKind.i64 2, AV.int IntKind.i64 (-1), AV.int IntKind.i64 (-1)],
                  AV.agg
                    [AV.int IntKind.i64 4, AV.int IntKind.i64 0, AV.str [], AV.str [], AV.nils, AV.int IntKind.i64 0,
                      AV.int IntKind.i64 (-1), AV.int IntKind.i64 (-1), AV.int IntKind.i64 (-1), AV.int IntKind.i64 2],
                  AV.agg
                    [AV.int IntKind.i64 3, AV.int IntKind.i64 y, AV.str [], AV.str e, AV.nils, AV.int IntKind.i64 0,
                      AV.int IntKind.i64 (-1), AV.int IntKind.i64 (-1), AV.int IntKind.i64 1,
                      AV.int IntKind.i64 (-1)]])]
      else
        bif decide (e.length + (Utf8.encode (IntKind.i32.wrap v)).data.toList.length ≤ 9223372036854775807) then
          Q (AV.int IntKind.i64 0)
            [some
                (Row.lst 84 5
                  [AV.agg
                      [AV.int IntKind.i64 (-1), AV.int IntKind.i64 (-1), AV.int IntKind.i64 (-1),
                        AV.int IntKind.i64 (-1), AV.int IntKind.i64 (-1)]]),
              some
                (Row.lst 87 10
                  [AV.agg
                      [AV.int IntKind.i64 0, AV.int IntKind.i64 0, AV.str [], AV.str [], AV.nils,
                        AV.int IntKind.i64 (-1), AV.int IntKind.i64 (-1), AV.int IntKind.i64 (-1),
                        AV.int IntKind.i64 (-1), AV.int IntKind.i64 (-1)]]),
              some (Row.lst 90 1 [AV.agg [AV.sl false 8 0 3 Cp.no]]), some (Row.lst 26 2 [AV.agg [AV.str a, AV.str b]]),
              some (Row.lst 32 5 [AV.agg [AV.int IntKind.i64 4, AV.int IntKind.i64 0, AV.str [], AV.str [], AV.nils]]),
              some
                (Row.lst 84 5
                  [AV.agg
                      [AV.int IntKind.i64 (-1), AV.int IntKind.i64 (-1), AV.int IntKind.i64 (-1),
                        AV.int IntKind.i64 (-1), AV.int IntKind.i64 (-1)]]),
              some
                (Row.lst 87 10
                  [AV.agg
                      [AV.int IntKind.i64 4, AV.int IntKind.i64 0, AV.str [], AV.str [], AV.nils,
                        AV.int IntKind.i64 (-1), AV.int IntKind.i64 (-1), AV.int IntKind.i64 (-1),
                        AV.int IntKind.i64 (-1), AV.int IntKind.i64 (-1)]]),
              none,
              some
                (Row.lst 87 10
                  [AV.agg
                      [AV.int IntKind.i64 0, AV.int IntKind.i64 0, AV.str [], AV.str [], AV.nils,
                        AV.int IntKind.i64 (-1), AV.int IntKind.i64 1, AV.int IntKind.i64 2, AV.int IntKind.i64 (-1),
                        AV.int IntKind.i64 (-1)],
                    AV.agg
                      [AV.int IntKind.i64 4, AV.int IntKind.i64 0, AV.str [], AV.str [], AV.nils, AV.int IntKind.i64 0,
                        AV.int IntKind.i64 (-1), AV.int IntKind.i64 (-1), AV.int IntKind.i64 (-1),
                        AV.int IntKind.i64 2],
                    AV.agg
                      [AV.int IntKind.i64 3, AV.int IntKind.i64 y, AV.str [],
                        AV.str (e ++ (Utf8.encode (IntKind.i32.wrap v)).data.toList), AV.nils, AV.int IntKind.i64 0,
                        AV.int IntKind.i64 (-1), AV.int IntKind.i64 (-1), AV.int IntKind.i64 1,
                        AV.int IntKind.i64 (-1)]])]
        else False) := by kernel_rfl
theorem safe18_3 (R : Nat → RoRow) (e : List UInt8) (y : Int) (a b : List UInt8) (v at_ : Int) (h0 : 0 ≤ v) (h1 : v < 2097152) (hd : e.length ≤ 1000) : SafeCall Try.prog R 18 [.ptr false 2 0 0, .int .i64 v, .int .i64 at_, .int .i64 0, .int .i64 (-1)] (X3 e y a b) fun r h => (goodI v = true ∧ r = .int .i64 0 ∧ h = X3 (e ++ encI v) y a b) ∨ (goodI v = false ∧ r = .int .i64 1 ∧ h = X3 e y a b) := by
  have bad : goodI v = false → ∃ vE hE, FitV 9 vE hE (.int .i64 1) (X3 e y a b) ∧ ((goodI v = true ∧ vE = .int .i64 0 ∧ hE = X3 (e ++ encI v) y a b) ∨ (goodI v = false ∧ vE = .int .i64 1 ∧ hE = X3 e y a b)) :=
    fun hg => ⟨.int .i64 1, X3 e y a b, ⟨some, vX3 e y a b, Vw.intI, fun _ _ => rfl, Nat.le_refl _⟩, .inr ⟨hg, rfl, rfl⟩⟩
  have hw := w32 h0 h1
  refine SafeCall.fit (Q := fun r h => ∃ vE hE, FitV 9 vE hE r h ∧ ((goodI v = true ∧ vE = .int .i64 0 ∧ hE = X3 (e ++ encI v) y a b) ∨ (goodI v = false ∧ vE = .int .i64 1 ∧ hE = X3 e y a b))) ?_ (fun v' h' h => h)
  refine byVcd' (E := env18 R) (env18_ok R) (f := 18) (fi := fi18) (by kernel_rfl) 10000 (vw3 R e y a b v at_ _) ?_
  rw [hw, goodRI h0]
  refine hcond (fun c => by exfalso; have := of_decide_eq_true c; omega) (fun _ => ?_)
  refine hcond (fun c => bad (by unfold goodI; rw [decide_eq_false (show ¬ v ≤ 1114111 by have := of_decide_eq_true c; omega)]; rfl)) (fun _ => ?_)
  refine hcond (fun c => bad (notT c)) (fun hg => ?_)
  have hg := notF hg
  · refine hcond (fun _ => ?_) (fun c => by exfalso; have := of_decide_eq_false c; have := enc_le v; omega)
    exact ⟨.int .i64 0, X3 (e ++ encI v) y a b, ⟨some, vX3 (e ++ encI v) y a b, Vw.intI, fun _ _ => rfl, Nat.le_refl _⟩, .inl ⟨hg, rfl, rfl⟩⟩
theorem vw4 (R : Nat → RoRow) (d : List UInt8) (x : Int) (a b : List UInt8) (v at_ : Int) (Q : AV → Rows → Prop) : vcd (env18 R) 10000 18 fi18 [.ptr false 2 0 0, .int .i64 v, .int .i64 at_, .int .i64 0, .int .i64 (-1)] (X4 d x a b) Q =
    (bif decide (v < 0) then
    Q (AV.int IntKind.i64 1)
      [some
          (Row.lst 84 5
            [AV.agg
                [AV.int IntKind.i64 (-1), AV.int IntKind.i64 (-1), AV.int IntKind.i64 (-1), AV.int IntKind.i64 (-1),
                  AV.int IntKind.i64 (-1)]]),
        some
          (Row.lst 87 10
            [AV.agg
                [AV.int IntKind.i64 0, AV.int IntKind.i64 0, AV.str [], AV.str [], AV.nils, AV.int IntKind.i64 (-1),
                  AV.int IntKind.i64 (-1), AV.int IntKind.i64 (-1), AV.int IntKind.i64 (-1), AV.int IntKind.i64 (-1)]]),
        some (Row.lst 90 1 [AV.agg [AV.sl false 8 0 3 Cp.no]]), some (Row.lst 26 2 [AV.agg [AV.str a, AV.str b]]), none,
        some (Row.lst 32 5 [AV.agg [AV.int IntKind.i64 4, AV.int IntKind.i64 0, AV.str [], AV.str [], AV.nils]]),
        some
          (Row.lst 84 5
            [AV.agg
                [AV.int IntKind.i64 (-1), AV.int IntKind.i64 (-1), AV.int IntKind.i64 (-1), AV.int IntKind.i64 (-1),
                  AV.int IntKind.i64 (-1)]]),
        some
          (Row.lst 87 10
            [AV.agg
                [AV.int IntKind.i64 4, AV.int IntKind.i64 0, AV.str [], AV.str [], AV.nils, AV.int IntKind.i64 (-1),
                  AV.int IntKind.i64 (-1), AV.int IntKind.i64 (-1), AV.int IntKind.i64 (-1), AV.int IntKind.i64 (-1)]]),
        some
          (Row.lst 87 10
            [AV.agg
                [AV.int IntKind.i64 0, AV.int IntKind.i64 0, AV.str [], AV.str [], AV.nils, AV.int IntKind.i64 (-1),
                  AV.int IntKind.i64 1, AV.int IntKind.i64 2, AV.int IntKind.i64 (-1), AV.int IntKind.i64 (-1)],
              AV.agg
                [AV.int IntKind.i64 3, AV.int IntKind.i64 x, AV.str [], AV.str d, AV.nils, AV.int IntKind.i64 0,
                  AV.int IntKind.i64 (-1), AV.int IntKind.i64 (-1), AV.int IntKind.i64 (-1), AV.int IntKind.i64 2],
              AV.agg
                [AV.int IntKind.i64 4, AV.int IntKind.i64 0, AV.str [], AV.str [], AV.nils, AV.int IntKind.i64 0,
                  AV.int IntKind.i64 (-1), AV.int IntKind.i64 (-1), AV.int IntKind.i64 1, AV.int IntKind.i64 (-1)]])]
  else
    bif decide (v > 1114111) then
      Q (AV.int IntKind.i64 1)
        [some
            (Row.lst 84 5
              [AV.agg
                  [AV.int IntKind.i64 (-1), AV.int IntKind.i64 (-1), AV.int IntKind.i64 (-1), AV.int IntKind.i64 (-1),
                    AV.int IntKind.i64 (-1)]]),
          some
            (Row.lst 87 10
              [AV.agg
                  [AV.int IntKind.i64 0, AV.int IntKind.i64 0, AV.str [], AV.str [], AV.nils, AV.int IntKind.i64 (-1),
                    AV.int IntKind.i64 (-1), AV.int IntKind.i64 (-1), AV.int IntKind.i64 (-1),
                    AV.int IntKind.i64 (-1)]]),
          some (Row.lst 90 1 [AV.agg [AV.sl false 8 0 3 Cp.no]]), some (Row.lst 26 2 [AV.agg [AV.str a, AV.str b]]),
          none,
          some (Row.lst 32 5 [AV.agg [AV.int IntKind.i64 4, AV.int IntKind.i64 0, AV.str [], AV.str [], AV.nils]]),
          some
            (Row.lst 84 5
              [AV.agg
                  [AV.int IntKind.i64 (-1), AV.int IntKind.i64 (-1), AV.int IntKind.i64 (-1), AV.int IntKind.i64 (-1),
                    AV.int IntKind.i64 (-1)]]),
          some
            (Row.lst 87 10
              [AV.agg
                  [AV.int IntKind.i64 4, AV.int IntKind.i64 0, AV.str [], AV.str [], AV.nils, AV.int IntKind.i64 (-1),
                    AV.int IntKind.i64 (-1), AV.int IntKind.i64 (-1), AV.int IntKind.i64 (-1),
                    AV.int IntKind.i64 (-1)]]),
          some
            (Row.lst 87 10
              [AV.agg
                  [AV.int IntKind.i64 0, AV.int IntKind.i64 0, AV.str [], AV.str [], AV.nils, AV.int IntKind.i64 (-1),
                    AV.int IntKind.i64 1, AV.int IntKind.i64 2, AV.int IntKind.i64 (-1), AV.int IntKind.i64 (-1)],
                AV.agg
                  [AV.int IntKind.i64 3, AV.int IntKind.i64 x, AV.str [], AV.str d, AV.nils, AV.int IntKind.i64 0,
                    AV.int IntKind.i64 (-1), AV.int IntKind.i64 (-1), AV.int IntKind.i64 (-1), AV.int IntKind.i64 2],
                AV.agg
                  [AV.int IntKind.i64 4, AV.int IntKind.i64 0, AV.str [], AV.str [], AV.nils, AV.int IntKind.i64 0,
                    AV.int IntKind.i64 (-1), AV.int IntKind.i64 (-1), AV.int IntKind.i64 1, AV.int IntKind.i64 (-1)]])]
    else
      bif !goodR (IntKind.i32.wrap v) then
        Q (AV.int IntKind.i64 1)
          [some
              (Row.lst 84 5
                [AV.agg
                    [AV.int IntKind.i64 (-1), AV.int IntKind.i64 (-1), AV.int IntKind.i64 (-1), AV.int IntKind.i64 (-1),
                      AV.int IntKind.i64 (-1)]]),
            some
              (Row.lst 87 10
                [AV.agg
                    [AV.int IntKind.i64 0, AV.int IntKind.i64 0, AV.str [], AV.str [], AV.nils, AV.int IntKind.i64 (-1),
                      AV.int IntKind.i64 (-1), AV.int IntKind.i64 (-1), AV.int IntKind.i64 (-1),
                      AV.int IntKind.i64 (-1)]]),
            some (Row.lst 90 1 [AV.agg [AV.sl false 8 0 3 Cp.no]]), some (Row.lst 26 2 [AV.agg [AV.str a, AV.str b]]),
            none,
            some (Row.lst 32 5 [AV.agg [AV.int IntKind.i64 4, AV.int IntKind.i64 0, AV.str [], AV.str [], AV.nils]]),
            some
              (Row.lst 84 5
                [AV.agg
                    [AV.int IntKind.i64 (-1), AV.int IntKind.i64 (-1), AV.int IntKind.i64 (-1), AV.int IntKind.i64 (-1),
                      AV.int IntKind.i64 (-1)]]),
            some
              (Row.lst 87 10
                [AV.agg
                    [AV.int IntKind.i64 4, AV.int IntKind.i64 0, AV.str [], AV.str [], AV.nils, AV.int IntKind.i64 (-1),
                      AV.int IntKind.i64 (-1), AV.int IntKind.i64 (-1), AV.int IntKind.i64 (-1),
                      AV.int IntKind.i64 (-1)]]),
            some
              (Row.lst 87 10
                [AV.agg
                    [AV.int IntKind.i64 0, AV.int IntKind.i64 0, AV.str [], AV.str [], AV.nils, AV.int IntKind.i64 (-1),
                      AV.int IntKind.i64 1, AV.int IntKind.i64 2, AV.int IntKind.i64 (-1), AV.int IntKind.i64 (-1)],
                  AV.agg
                    [AV.int IntKind.i64 3, AV.int IntKind.i64 x, AV.str [], AV.str d, AV.nils, AV.int IntKind.i64 0,
                      AV.int IntKind.i64 (-1), AV.int IntKind.i64 (-1), AV.int IntKind.i64 (-1), AV.int IntKind.i64 2],
                  AV.agg
                    [AV.int IntKind.i64 4, AV.int IntKind.i64 0, AV.str [], AV.str [], AV.nils, AV.int IntKind.i64 0,
                      AV.int IntKind.i64 (-1), AV.int IntKind.i64 (-1), AV.int IntKind.i64 1,
                      AV.int IntKind.i64 (-1)]])]
      else
        AV.agg
              [AV.int IntKind.i64 3, AV.int IntKind.i64 at_, AV.str [],
                AV.str (Utf8.encode (IntKind.i32.wrap v)).data.toList, AV.nils] =
            AV.agg
              [AV.int IntKind.i64 3, AV.int IntKind.i64 at_, AV.str [],
                AV.str (Utf8.encode (IntKind.i32.wrap v)).data.toList, AV.nils] ∧
          AV.sl false 8 0 3 Cp.no = AV.sl false 8 0 3 Cp.no ∧
            AV.sl false 8 0 3 Cp.no = AV.sl false 8 0 3 Cp.no ∧
              AV.ptr false 12 3 0 = AV.ptr false 12 3 0 ∧
                AV.sl false 12 0 4 Cp.no = AV.sl false 12 0 4 Cp.no ∧
                  Q (AV.int IntKind.i64 0)
                    [some
                        (Row.lst 84 5
                          [AV.agg
                              [AV.int IntKind.i64 (-1), AV.int IntKind.i64 (-1), AV.int IntKind.i64 (-1),
                                AV.int IntKind.i64 (-1), AV.int IntKind.i64 (-1)]]),
                      some
                        (Row.lst 87 10
                          [AV.agg
                              [AV.int IntKind.i64 0, AV.int IntKind.i64 0, AV.str [], AV.str [], AV.nils,
                                AV.int IntKind.i64 (-1), AV.int IntKind.i64 (-1), AV.int IntKind.i64 (-1),
                                AV.int IntKind.i64 (-1), AV.int IntKind.i64 (-1)]]),
                      some (Row.lst 90 1 [AV.agg [AV.sl false 12 0 4 Cp.no]]),
                      some (Row.lst 26 2 [AV.agg [AV.str a, AV.str b]]), none,
                      some
                        (Row.lst 32 5
                          [AV.agg [AV.int IntKind.i64 4, AV.int IntKind.i64 0, AV.str [], AV.str [], AV.nils]]),
                      some
                        (Row.lst 84 5
                          [AV.agg
                              [AV.int IntKind.i64 (-1), AV.int IntKind.i64 (-1), AV.int IntKind.i64 (-1),
                                AV.int IntKind.i64 (-1), AV.int IntKind.i64 (-1)]]),
                      some
                        (Row.lst 87 10
                          [AV.agg
                              [AV.int IntKind.i64 4, AV.int IntKind.i64 0, AV.str [], AV.str [], AV.nils,
                                AV.int IntKind.i64 (-1), AV.int IntKind.i64 (-1), AV.int IntKind.i64 (-1),
                                AV.int IntKind.i64 (-1), AV.int IntKind.i64 (-1)]]),
                      none,
                      some
                        (Row.lst 32 5
                          [AV.agg
                              [AV.int IntKind.i64 3, AV.int IntKind.i64 at_, AV.str [],
                                AV.str (Utf8.encode (IntKind.i32.wrap v)).data.toList, AV.nils]]),
                      some
                        (Row.lst 84 5
                          [AV.agg
                              [AV.int IntKind.i64 (-1), AV.int IntKind.i64 (-1), AV.int IntKind.i64 (-1),
                                AV.int IntKind.i64 (-1), AV.int IntKind.i64 (-1)]]),
                      some
                        (Row.lst 87 10
                          [AV.agg
                              [AV.int IntKind.i64 3, AV.int IntKind.i64 at_, AV.str [],
                                AV.str (Utf8.encode (IntKind.i32.wrap v)).data.toList, AV.nils, AV.int IntKind.i64 (-1),
                                AV.int IntKind.i64 (-1), AV.int IntKind.i64 (-1), AV.int IntKind.i64 (-1),
                                AV.int IntKind.i64 (-1)]]),
                      some
                        (Row.lst 87 10
                          [AV.agg
                              [AV.int IntKind.i64 0, AV.int IntKind.i64 0, AV.str [], AV.str [], AV.nils,
                                AV.int IntKind.i64 (-1), AV.int IntKind.i64 1, AV.int IntKind.i64 3,
                                AV.int IntKind.i64 (-1), AV.int IntKind.i64 (-1)],
                            AV.agg
                              [AV.int IntKind.i64 3, AV.int IntKind.i64 x, AV.str [], AV.str d, AV.nils,
                                AV.int IntKind.i64 0, AV.int IntKind.i64 (-1), AV.int IntKind.i64 (-1),
                                AV.int IntKind.i64 (-1), AV.int IntKind.i64 2],
                            AV.agg
                              [AV.int IntKind.i64 4, AV.int IntKind.i64 0, AV.str [], AV.str [], AV.nils,
                                AV.int IntKind.i64 0, AV.int IntKind.i64 (-1), AV.int IntKind.i64 (-1),
                                AV.int IntKind.i64 1, AV.int IntKind.i64 3],
                            AV.agg
                              [AV.int IntKind.i64 3, AV.int IntKind.i64 at_, AV.str [],
                                AV.str (Utf8.encode (IntKind.i32.wrap v)).data.toList, AV.nils, AV.int IntKind.i64 0,
                                AV.int IntKind.i64 (-1), AV.int IntKind.i64 (-1), AV.int IntKind.i64 2,
                                AV.int IntKind.i64 (-1)]])]) := by kernel_rfl
theorem safe18_4 (R : Nat → RoRow) (d : List UInt8) (x : Int) (a b : List UInt8) (v at_ : Int) (h0 : 0 ≤ v) (h1 : v < 2097152) : SafeCall Try.prog R 18 [.ptr false 2 0 0, .int .i64 v, .int .i64 at_, .int .i64 0, .int .i64 (-1)] (X4 d x a b) fun r h => (goodI v = true ∧ r = .int .i64 0 ∧ h = X5 d x (encI v) at_ a b) ∨ (goodI v = false ∧ r = .int .i64 1 ∧ h = X4 d x a b) := by
  have bad : goodI v = false → ∃ vE hE, FitV 9 vE hE (.int .i64 1) (X4 d x a b) ∧ ((goodI v = true ∧ vE = .int .i64 0 ∧ hE = X5 d x (encI v) at_ a b) ∨ (goodI v = false ∧ vE = .int .i64 1 ∧ hE = X4 d x a b)) :=
    fun hg => ⟨.int .i64 1, X4 d x a b, ⟨some, vX4 d x a b, Vw.intI, fun _ _ => rfl, Nat.le_refl _⟩, .inr ⟨hg, rfl, rfl⟩⟩
  have hw := w32 h0 h1
  refine SafeCall.fit (Q := fun r h => ∃ vE hE, FitV 9 vE hE r h ∧ ((goodI v = true ∧ vE = .int .i64 0 ∧ hE = X5 d x (encI v) at_ a b) ∨ (goodI v = false ∧ vE = .int .i64 1 ∧ hE = X4 d x a b))) ?_ (fun v' h' h => h)
  refine byVcd' (E := env18 R) (env18_ok R) (f := 18) (fi := fi18) (by kernel_rfl) 10000 (vw4 R d x a b v at_ _) ?_
  rw [hw, goodRI h0]
  refine hcond (fun c => by exfalso; have := of_decide_eq_true c; omega) (fun _ => ?_)
  refine hcond (fun c => bad (by unfold goodI; rw [decide_eq_false (show ¬ v ≤ 1114111 by have := of_decide_eq_true c; omega)]; rfl)) (fun _ => ?_)
  refine hcond (fun c => bad (notT c)) (fun hg => ?_)
  have hg := notF hg
  · refine ⟨rfl, rfl, rfl, rfl, rfl, .int .i64 0, X5 d x (encI v) at_ a b, ⟨mv 9 12, ?_, Vw.intI, fun c hc => ?_, by simp [X0, X1, X2, X3, X4, X5]⟩, .inl ⟨hg, rfl, rfl⟩⟩
    · show View _ (X5 d x (encI v) at_ a b) _
      refine View.of ?_ ?_
      · intro c o ho
        match c with
        | 0 => cases ho; exact ViewL.at_ (b := 0) rfl rfl (RowV.lstL rfl (by (repeat' (first | with_reducible exact VwL.nil | with_reducible refine VwL.cons ?_ ?_ | with_reducible exact Vw.anyI | with_reducible exact Vw.strI | with_reducible exact Vw.intI | with_reducible exact Vw.nilsI | with_reducible refine Vw.aggI ?_ | exact Vw.gndI rfl | exact Vw.slI (by simp [X0, X1, X2, X3, X4, X5]) rfl))))
        | 1 => cases ho; exact ViewL.at_ (b := 1) rfl rfl (RowV.lstL rfl (by (repeat' (first | with_reducible exact VwL.nil | with_reducible refine VwL.cons ?_ ?_ | with_reducible exact Vw.anyI | with_reducible exact Vw.strI | with_reducible exact Vw.intI | with_reducible exact Vw.nilsI | with_reducible refine Vw.aggI ?_ | exact Vw.gndI rfl | exact Vw.slI (by simp [X0, X1, X2, X3, X4, X5]) rfl))))
        | 2 => cases ho; exact ViewL.at_ (b := 2) rfl rfl (RowV.lstL rfl (by (repeat' (first | with_reducible exact VwL.nil | with_reducible refine VwL.cons ?_ ?_ | with_reducible exact Vw.anyI | with_reducible exact Vw.strI | with_reducible exact Vw.intI | with_reducible exact Vw.nilsI | with_reducible refine Vw.aggI ?_ | exact Vw.gndI rfl | exact Vw.slI (by simp [X0, X1, X2, X3, X4, X5]) rfl))))
        | 3 => cases ho; exact ViewL.at_ (b := 3) rfl rfl (RowV.lstL rfl (by (repeat' (first | with_reducible exact VwL.nil | with_reducible refine VwL.cons ?_ ?_ | with_reducible exact Vw.anyI | with_reducible exact Vw.strI | with_reducible exact Vw.intI | with_reducible exact Vw.nilsI | with_reducible refine Vw.aggI ?_ | exact Vw.gndI rfl | exact Vw.slI (by simp [X0, X1, X2, X3, X4, X5]) rfl))))
        | 4 => cases ho; exact ViewL.gone (b := 4) rfl (by simp [X0, X1, X2, X3, X4, X5])
        | 5 => cases ho; exact ViewL.at_ (b := 5) rfl rfl (RowV.lstL rfl (by (repeat' (first | with_reducible exact VwL.nil | with_reducible refine VwL.cons ?_ ?_ | with_reducible exact Vw.anyI | with_reducible exact Vw.strI | with_reducible exact Vw.intI | with_reducible exact Vw.nilsI | with_reducible refine Vw.aggI ?_ | exact Vw.gndI rfl | exact Vw.slI (by simp [X0, X1, X2, X3, X4, X5]) rfl))))
        | 6 => cases ho; exact ViewL.at_ (b := 6) rfl rfl (RowV.lstL rfl (by (repeat' (first | with_reducible exact VwL.nil | with_reducible refine VwL.cons ?_ ?_ | with_reducible exact Vw.anyI | with_reducible exact Vw.strI | with_reducible exact Vw.intI | with_reducible exact Vw.nilsI | with_reducible refine Vw.aggI ?_ | exact Vw.gndI rfl | exact Vw.slI (by simp [X0, X1, X2, X3, X4, X5]) rfl))))
        | 7 => cases ho; exact ViewL.at_ (b := 7) rfl rfl (RowV.lstL rfl (by (repeat' (first | with_reducible exact VwL.nil | with_reducible refine VwL.cons ?_ ?_ | with_reducible exact Vw.anyI | with_reducible exact Vw.strI | with_reducible exact Vw.intI | with_reducible exact Vw.nilsI | with_reducible refine Vw.aggI ?_ | exact Vw.gndI rfl | exact Vw.slI (by simp [X0, X1, X2, X3, X4, X5]) rfl))))
        | 8 => cases ho; exact ViewL.gone (b := 8) rfl (by simp [X0, X1, X2, X3, X4, X5])
        | 9 => cases ho; exact ViewL.at_ (b := 12) rfl rfl (RowV.lstL rfl (by (repeat' (first | with_reducible exact VwL.nil | with_reducible refine VwL.cons ?_ ?_ | with_reducible exact Vw.anyI | with_reducible exact Vw.strI | with_reducible exact Vw.intI | with_reducible exact Vw.nilsI | with_reducible refine Vw.aggI ?_ | exact Vw.gndI rfl | exact Vw.slI (by simp [X0, X1, X2, X3, X4, X5]) rfl))))
        | c + 10 => simp [X5] at ho
      · exact fun c c' b hc hc' h1 h2 => mv_inj (N := 10) (by decide) c c' b hc hc' h1 h2
    · unfold mv
      rw [show Nat.beq c 9 = false from by rw [Bool.eq_false_iff]; intro h; have := Nat.eq_of_beq_eq_true h; omega]
      rfl
theorem vw5 (R : Nat → RoRow) (d : List UInt8) (x : Int) (e : List UInt8) (y : Int) (a b : List UInt8) (v at_ : Int) (Q : AV → Rows → Prop) : vcd (env18 R) 10000 18 fi18 [.ptr false 2 0 0, .int .i64 v, .int .i64 at_, .int .i64 0, .int .i64 (-1)] (X5 d x e y a b) Q =
    (bif decide (v < 0) then
    Q (AV.int IntKind.i64 1)
      [some
          (Row.lst 84 5
            [AV.agg
                [AV.int IntKind.i64 (-1), AV.int IntKind.i64 (-1), AV.int IntKind.i64 (-1), AV.int IntKind.i64 (-1),
                  AV.int IntKind.i64 (-1)]]),
        some
          (Row.lst 87 10
            [AV.agg
                [AV.int IntKind.i64 0, AV.int IntKind.i64 0, AV.str [], AV.str [], AV.nils, AV.int IntKind.i64 (-1),
                  AV.int IntKind.i64 (-1), AV.int IntKind.i64 (-1), AV.int IntKind.i64 (-1), AV.int IntKind.i64 (-1)]]),
        some (Row.lst 90 1 [AV.agg [AV.sl false 9 0 4 Cp.no]]), some (Row.lst 26 2 [AV.agg [AV.str a, AV.str b]]), none,
        some (Row.lst 32 5 [AV.agg [AV.int IntKind.i64 4, AV.int IntKind.i64 0, AV.str [], AV.str [], AV.nils]]),
        some
          (Row.lst 84 5
            [AV.agg
                [AV.int IntKind.i64 (-1), AV.int IntKind.i64 (-1), AV.int IntKind.i64 (-1), AV.int IntKind.i64 (-1),
                  AV.int IntKind.i64 (-1)]]),
        some
          (Row.lst 87 10
            [AV.agg
                [AV.int IntKind.i64 4, AV.int IntKind.i64 0, AV.str [], AV.str [], AV.nils, AV.int IntKind.i64 (-1),
                  AV.int IntKind.i64 (-1), AV.int IntKind.i64 (-1), AV.int IntKind.i64 (-1), AV.int IntKind.i64 (-1)]]),
        none,
        some
          (Row.lst 87 10
            [AV.agg
                [AV.int IntKind.i64 0, AV.int IntKind.i64 0, AV.str [], AV.str [], AV.nils, AV.int IntKind.i64 (-1),
                  AV.int IntKind.i64 1, AV.int IntKind.i64 3, AV.int IntKind.i64 (-1), AV.int IntKind.i64 (-1)],
              AV.agg
                [AV.int IntKind.i64 3, AV.int IntKind.i64 x, AV.str [], AV.str d, AV.nils, AV.int IntKind.i64 0,
                  AV.int IntKind.i64 (-1), AV.int IntKind.i64 (-1), AV.int IntKind.i64 (-1), AV.int IntKind.i64 2],
              AV.agg
                [AV.int IntKind.i64 4, AV.int IntKind.i64 0, AV.str [], AV.str [], AV.nils, AV.int IntKind.i64 0,
                  AV.int IntKind.i64 (-1), AV.int IntKind.i64 (-1), AV.int IntKind.i64 1, AV.int IntKind.i64 3],
              AV.agg
                [AV.int IntKind.i64 3, AV.int IntKind.i64 y, AV.str [], AV.str e, AV.nils, AV.int IntKind.i64 0,
                  AV.int IntKind.i64 (-1), AV.int IntKind.i64 (-1), AV.int IntKind.i64 2, AV.int IntKind.i64 (-1)]])]
  else
    bif decide (v > 1114111) then
      Q (AV.int IntKind.i64 1)
        [some
            (Row.lst 84 5
              [AV.agg
                  [AV.int IntKind.i64 (-1), AV.int IntKind.i64 (-1), AV.int IntKind.i64 (-1), AV.int IntKind.i64 (-1),
                    AV.int IntKind.i64 (-1)]]),
          some
            (Row.lst 87 10
              [AV.agg
                  [AV.int IntKind.i64 0, AV.int IntKind.i64 0, AV.str [], AV.str [], AV.nils, AV.int IntKind.i64 (-1),
                    AV.int IntKind.i64 (-1), AV.int IntKind.i64 (-1), AV.int IntKind.i64 (-1),
                    AV.int IntKind.i64 (-1)]]),
          some (Row.lst 90 1 [AV.agg [AV.sl false 9 0 4 Cp.no]]), some (Row.lst 26 2 [AV.agg [AV.str a, AV.str b]]),
          none,
          some (Row.lst 32 5 [AV.agg [AV.int IntKind.i64 4, AV.int IntKind.i64 0, AV.str [], AV.str [], AV.nils]]),
          some
            (Row.lst 84 5
              [AV.agg
                  [AV.int IntKind.i64 (-1), AV.int IntKind.i64 (-1), AV.int IntKind.i64 (-1), AV.int IntKind.i64 (-1),
                    AV.int IntKind.i64 (-1)]]),
          some
            (Row.lst 87 10
              [AV.agg
                  [AV.int IntKind.i64 4, AV.int IntKind.i64 0, AV.str [], AV.str [], AV.nils, AV.int IntKind.i64 (-1),
                    AV.int IntKind.i64 (-1), AV.int IntKind.i64 (-1), AV.int IntKind.i64 (-1),
                    AV.int IntKind.i64 (-1)]]),
          none,
          some
            (Row.lst 87 10
              [AV.agg
                  [AV.int IntKind.i64 0, AV.int IntKind.i64 0, AV.str [], AV.str [], AV.nils, AV.int IntKind.i64 (-1),
                    AV.int IntKind.i64 1, AV.int IntKind.i64 3, AV.int IntKind.i64 (-1), AV.int IntKind.i64 (-1)],
                AV.agg
                  [AV.int IntKind.i64 3, AV.int IntKind.i64 x, AV.str [], AV.str d, AV.nils, AV.int IntKind.i64 0,
                    AV.int IntKind.i64 (-1), AV.int IntKind.i64 (-1), AV.int IntKind.i64 (-1), AV.int IntKind.i64 2],
                AV.agg
                  [AV.int IntKind.i64 4, AV.int IntKind.i64 0, AV.str [], AV.str [], AV.nils, AV.int IntKind.i64 0,
                    AV.int IntKind.i64 (-1), AV.int IntKind.i64 (-1), AV.int IntKind.i64 1, AV.int IntKind.i64 3],
                AV.agg
                  [AV.int IntKind.i64 3, AV.int IntKind.i64 y, AV.str [], AV.str e, AV.nils, AV.int IntKind.i64 0,
                    AV.int IntKind.i64 (-1), AV.int IntKind.i64 (-1), AV.int IntKind.i64 2, AV.int IntKind.i64 (-1)]])]
    else
      bif !goodR (IntKind.i32.wrap v) then
        Q (AV.int IntKind.i64 1)
          [some
              (Row.lst 84 5
                [AV.agg
                    [AV.int IntKind.i64 (-1), AV.int IntKind.i64 (-1), AV.int IntKind.i64 (-1), AV.int IntKind.i64 (-1),
                      AV.int IntKind.i64 (-1)]]),
            some
              (Row.lst 87 10
                [AV.agg
                    [AV.int IntKind.i64 0, AV.int IntKind.i64 0, AV.str [], AV.str [], AV.nils, AV.int IntKind.i64 (-1),
                      AV.int IntKind.i64 (-1), AV.int IntKind.i64 (-1), AV.int IntKind.i64 (-1),
                      AV.int IntKind.i64 (-1)]]),
            some (Row.lst 90 1 [AV.agg [AV.sl false 9 0 4 Cp.no]]), some (Row.lst 26 2 [AV.agg [AV.str a, AV.str b]]),
            none,
            some (Row.lst 32 5 [AV.agg [AV.int IntKind.i64 4, AV.int IntKind.i64 0, AV.str [], AV.str [], AV.nils]]),
            some
              (Row.lst 84 5
                [AV.agg
                    [AV.int IntKind.i64 (-1), AV.int IntKind.i64 (-1), AV.int IntKind.i64 (-1), AV.int IntKind.i64 (-1),
                      AV.int IntKind.i64 (-1)]]),
            some
              (Row.lst 87 10
                [AV.agg
                    [AV.int IntKind.i64 4, AV.int IntKind.i64 0, AV.str [], AV.str [], AV.nils, AV.int IntKind.i64 (-1),
                      AV.int IntKind.i64 (-1), AV.int IntKind.i64 (-1), AV.int IntKind.i64 (-1),
                      AV.int IntKind.i64 (-1)]]),
            none,
            some
              (Row.lst 87 10
                [AV.agg
                    [AV.int IntKind.i64 0, AV.int IntKind.i64 0, AV.str [], AV.str [], AV.nils, AV.int IntKind.i64 (-1),
                      AV.int IntKind.i64 1, AV.int IntKind.i64 3, AV.int IntKind.i64 (-1), AV.int IntKind.i64 (-1)],
                  AV.agg
                    [AV.int IntKind.i64 3, AV.int IntKind.i64 x, AV.str [], AV.str d, AV.nils, AV.int IntKind.i64 0,
                      AV.int IntKind.i64 (-1), AV.int IntKind.i64 (-1), AV.int IntKind.i64 (-1), AV.int IntKind.i64 2],
                  AV.agg
                    [AV.int IntKind.i64 4, AV.int IntKind.i64 0, AV.str [], AV.str [], AV.nils, AV.int IntKind.i64 0,
                      AV.int IntKind.i64 (-1), AV.int IntKind.i64 (-1), AV.int IntKind.i64 1, AV.int IntKind.i64 3],
                  AV.agg
                    [AV.int IntKind.i64 3, AV.int IntKind.i64 y, AV.str [], AV.str e, AV.nils, AV.int IntKind.i64 0,
                      AV.int IntKind.i64 (-1), AV.int IntKind.i64 (-1), AV.int IntKind.i64 2,
                      AV.int IntKind.i64 (-1)]])]
      else
        bif decide (e.length + (Utf8.encode (IntKind.i32.wrap v)).data.toList.length ≤ 9223372036854775807) then
          Q (AV.int IntKind.i64 0)
            [some
                (Row.lst 84 5
                  [AV.agg
                      [AV.int IntKind.i64 (-1), AV.int IntKind.i64 (-1), AV.int IntKind.i64 (-1),
                        AV.int IntKind.i64 (-1), AV.int IntKind.i64 (-1)]]),
              some
                (Row.lst 87 10
                  [AV.agg
                      [AV.int IntKind.i64 0, AV.int IntKind.i64 0, AV.str [], AV.str [], AV.nils,
                        AV.int IntKind.i64 (-1), AV.int IntKind.i64 (-1), AV.int IntKind.i64 (-1),
                        AV.int IntKind.i64 (-1), AV.int IntKind.i64 (-1)]]),
              some (Row.lst 90 1 [AV.agg [AV.sl false 9 0 4 Cp.no]]), some (Row.lst 26 2 [AV.agg [AV.str a, AV.str b]]),
              none,
              some (Row.lst 32 5 [AV.agg [AV.int IntKind.i64 4, AV.int IntKind.i64 0, AV.str [], AV.str [], AV.nils]]),
              some
                (Row.lst 84 5
                  [AV.agg
                      [AV.int IntKind.i64 (-1), AV.int IntKind.i64 (-1), AV.int IntKind.i64 (-1),
                        AV.int IntKind.i64 (-1), AV.int IntKind.i64 (-1)]]),
              some
                (Row.lst 87 10
                  [AV.agg
                      [AV.int IntKind.i64 4, AV.int IntKind.i64 0, AV.str [], AV.str [], AV.nils,
                        AV.int IntKind.i64 (-1), AV.int IntKind.i64 (-1), AV.int IntKind.i64 (-1),
                        AV.int IntKind.i64 (-1), AV.int IntKind.i64 (-1)]]),
              none,
              some
                (Row.lst 87 10
                  [AV.agg
                      [AV.int IntKind.i64 0, AV.int IntKind.i64 0, AV.str [], AV.str [], AV.nils,
                        AV.int IntKind.i64 (-1), AV.int IntKind.i64 1, AV.int IntKind.i64 3, AV.int IntKind.i64 (-1),
                        AV.int IntKind.i64 (-1)],
                    AV.agg
                      [AV.int IntKind.i64 3, AV.int IntKind.i64 x, AV.str [], AV.str d, AV.nils, AV.int IntKind.i64 0,
                        AV.int IntKind.i64 (-1), AV.int IntKind.i64 (-1), AV.int IntKind.i64 (-1),
                        AV.int IntKind.i64 2],
                    AV.agg
                      [AV.int IntKind.i64 4, AV.int IntKind.i64 0, AV.str [], AV.str [], AV.nils, AV.int IntKind.i64 0,
                        AV.int IntKind.i64 (-1), AV.int IntKind.i64 (-1), AV.int IntKind.i64 1, AV.int IntKind.i64 3],
                    AV.agg
                      [AV.int IntKind.i64 3, AV.int IntKind.i64 y, AV.str [],
                        AV.str (e ++ (Utf8.encode (IntKind.i32.wrap v)).data.toList), AV.nils, AV.int IntKind.i64 0,
                        AV.int IntKind.i64 (-1), AV.int IntKind.i64 (-1), AV.int IntKind.i64 2,
                        AV.int IntKind.i64 (-1)]])]
        else False) := by kernel_rfl
theorem safe18_5 (R : Nat → RoRow) (d : List UInt8) (x : Int) (e : List UInt8) (y : Int) (a b : List UInt8) (v at_ : Int) (h0 : 0 ≤ v) (h1 : v < 2097152) (hd : e.length ≤ 1000) : SafeCall Try.prog R 18 [.ptr false 2 0 0, .int .i64 v, .int .i64 at_, .int .i64 0, .int .i64 (-1)] (X5 d x e y a b) fun r h => (goodI v = true ∧ r = .int .i64 0 ∧ h = X5 d x (e ++ encI v) y a b) ∨ (goodI v = false ∧ r = .int .i64 1 ∧ h = X5 d x e y a b) := by
  have bad : goodI v = false → ∃ vE hE, FitV 10 vE hE (.int .i64 1) (X5 d x e y a b) ∧ ((goodI v = true ∧ vE = .int .i64 0 ∧ hE = X5 d x (e ++ encI v) y a b) ∨ (goodI v = false ∧ vE = .int .i64 1 ∧ hE = X5 d x e y a b)) :=
    fun hg => ⟨.int .i64 1, X5 d x e y a b, ⟨some, vX5 d x e y a b, Vw.intI, fun _ _ => rfl, Nat.le_refl _⟩, .inr ⟨hg, rfl, rfl⟩⟩
  have hw := w32 h0 h1
  refine SafeCall.fit (Q := fun r h => ∃ vE hE, FitV 10 vE hE r h ∧ ((goodI v = true ∧ vE = .int .i64 0 ∧ hE = X5 d x (e ++ encI v) y a b) ∨ (goodI v = false ∧ vE = .int .i64 1 ∧ hE = X5 d x e y a b))) ?_ (fun v' h' h => h)
  refine byVcd' (E := env18 R) (env18_ok R) (f := 18) (fi := fi18) (by kernel_rfl) 10000 (vw5 R d x e y a b v at_ _) ?_
  rw [hw, goodRI h0]
  refine hcond (fun c => by exfalso; have := of_decide_eq_true c; omega) (fun _ => ?_)
  refine hcond (fun c => bad (by unfold goodI; rw [decide_eq_false (show ¬ v ≤ 1114111 by have := of_decide_eq_true c; omega)]; rfl)) (fun _ => ?_)
  refine hcond (fun c => bad (notT c)) (fun hg => ?_)
  have hg := notF hg
  · refine hcond (fun _ => ?_) (fun c => by exfalso; have := of_decide_eq_false c; have := enc_le v; omega)
    exact ⟨.int .i64 0, X5 d x (e ++ encI v) y a b, ⟨some, vX5 d x (e ++ encI v) y a b, Vw.intI, fun _ _ => rfl, Nat.le_refl _⟩, .inl ⟨hg, rfl, rfl⟩⟩
end Go.Dc.Kd
