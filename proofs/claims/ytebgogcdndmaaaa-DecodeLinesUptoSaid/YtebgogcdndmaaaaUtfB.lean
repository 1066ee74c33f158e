/- The decoder in UTF-8: the first byte of a scalar, told shortly. -/
import Derived.Test.YtebgogcdndmaaaaFeedE
set_option linter.unusedVariables false
set_option linter.unusedSimpArgs false
namespace Go.Dc.Ka
open Go.Proofs Go.RowKit
set_option maxRecDepth 100000
def decU (a b l v lo hi : Int) (out bad : AV) : Option Row := some (.lst 62 9 [.agg [.bool true, .int .i64 a, .int .i64 b, .int .i64 l, .int .i64 v, .int .u8 lo, .int .u8 hi, out, bad]])
def rune (v a : Int) : AV := .agg [.int .i64 v, .int .i64 a]
def diag (a : Int) : AV := .agg [.int .i64 2, .int .i64 a, .str []]
def and8 (x y : Int) : Int := IntKind.i64.wrap (IntKind.u8.wrap ((BitVec.ofInt IntKind.u8.bits x &&& BitVec.ofInt IntKind.u8.bits y).toNat : Int))
def tree2 (x : Int) (K : Int → Int → Prop) : Prop :=
  bif x == 224 then K 160 191 else bif x == 237 then K 128 159 else bif x == 240 then K 144 191 else bif x == 244 then K 128 143 else K 128 191
def cond2 (c d : Bool) (A B : Prop) : Prop := bif c then (bif d then A else B) else B
def capN (n : Nat) (z : Nat) : Bool := decide (0 + n ≤ n) && (true && (true && decide ((n + 1) * z ≤ 140737488355328)))
def app1 (n : Nat) (F : Nat → AV) (e : AV) : Nat → AV := fun j => bif j.blt n then F (0 + j) else (Src.lst [e]).at_ (j - n)
theorem vc47 (R : Nat → RoRow) (x a b v lo hi : Int) (n m : Nat) (F G : Nat → AV) (Q : AV → Rows → Prop) :
    vcd (base R) 10000 47 fi47 [.ptr false 0 0 0, .int .u8 x] [decU a b 0 v lo hi (.sl false 1 0 n .no) (.sl false 2 0 m .no), some (.gen 38 2 n F), some (.gen 75 3 m G)] Q =
    (bif decide (x < 128) then
      bif capN n 16 then tree2 x fun lo hi => Q (.tup []) [decU a a 0 v lo hi (.sl false 4 0 (n + 1) .no) (.sl false 2 0 m .no), none, some (.gen 75 3 m G), some (.lst 38 2 [rune (IntKind.i64.wrap x) a]), some (.gen 38 2 (n + 1) (app1 n F (rune (IntKind.i64.wrap x) a)))]
      else False
    else cond2 (decide (x ≥ 194)) (decide (x ≤ 223)) (tree2 x fun lo hi => Q (.tup []) [decU a a 1 (and8 x 31) lo hi (.sl false 1 0 n .no) (.sl false 2 0 m .no), some (.gen 38 2 n F), some (.gen 75 3 m G)])
      (cond2 (decide (x ≥ 224)) (decide (x ≤ 239)) (tree2 x fun lo hi => Q (.tup []) [decU a a 2 (and8 x 15) lo hi (.sl false 1 0 n .no) (.sl false 2 0 m .no), some (.gen 38 2 n F), some (.gen 75 3 m G)])
      (cond2 (decide (x ≥ 240)) (decide (x ≤ 244)) (tree2 x fun lo hi => Q (.tup []) [decU a a 3 (and8 x 7) lo hi (.sl false 1 0 n .no) (.sl false 2 0 m .no), some (.gen 38 2 n F), some (.gen 75 3 m G)])
        (bif capN n 16 then AV.sl false 2 0 m .no = AV.sl false 2 0 m .no ∧ bif capN m 32 then tree2 x fun lo hi =>
          Q (.tup []) [decU a a 0 v lo hi (.sl false 4 0 (n + 1) .no) (.sl false 6 0 (m + 1) .no), none, none, some (.lst 38 2 [rune 65533 a]), some (.gen 38 2 (n + 1) (app1 n F (rune 65533 a))), some (.lst 75 3 [diag a]), some (.gen 75 3 (m + 1) (app1 m G (diag a)))]
          else False else False)))) := by kernel_rfl
def lowF (x : Int) : Int := if x = 224 then 160 else if x = 240 then 144 else 128
def highF (x : Int) : Int := if x = 237 then 159 else if x = 244 then 143 else 191
def leftF (x : Int) : Int := if 194 ≤ x ∧ x ≤ 223 then 1 else if 224 ≤ x ∧ x ≤ 239 then 2 else if 240 ≤ x ∧ x ≤ 244 then 3 else 0
def valF (x : Int) : Int := if x ≤ 223 then and8 x 31 else if x ≤ 239 then and8 x 15 else and8 x 7
theorem tree2_of {x : Int} {K : Int → Int → Prop} (h : K (lowF x) (highF x)) : tree2 x K := by
  unfold tree2
  unfold lowF highF at h
  refine hcond (fun h1 => ?_) (fun h1 => ?_)
  · have : x = 224 := by simpa using h1
    subst this; exact h
  · have g1 : x ≠ 224 := by simpa using h1
    rw [if_neg g1] at h
    refine hcond (fun h2 => ?_) (fun h2 => ?_)
    · have : x = 237 := by simpa using h2
      subst this; exact h
    · have g2 : x ≠ 237 := by simpa using h2
      rw [if_neg g2] at h
      refine hcond (fun h3 => ?_) (fun h3 => ?_)
      · have : x = 240 := by simpa using h3
        subst this; exact h
      · have g3 : x ≠ 240 := by simpa using h3
        rw [if_neg g3] at h
        refine hcond (fun h4 => ?_) (fun h4 => ?_)
        · have : x = 244 := by simpa using h4
          subst this; exact h
        · have g4 : x ≠ 244 := by simpa using h4
          rw [if_neg g4] at h
          exact h
def snoc (n : Nat) (F : Nat → AV) (e : AV) : Nat → AV := fun j => if j < n then F j else e
/-- The elements are plain. -/
def Plain (n : Nat) (F : Nat → AV) : Prop := ∀ i, i < n → ones (F i) = true ∧ gnd (F i) = true
theorem Plain.snoc {n : Nat} {F : Nat → AV} {e : AV} (h : Plain n F) (h1 : ones e = true) (h2 : gnd e = true) : Plain (n + 1) (Ka.snoc n F e) := by
  intro i hi
  unfold Ka.snoc
  split
  · rename_i hl; exact h i hl
  · exact ⟨h1, h2⟩
theorem app1_eq {n : Nat} {F : Nat → AV} {e : AV} {j : Nat} (hj : j < n + 1) : app1 n F e j = snoc n F e j := by
  unfold app1 snoc
  rcases Nat.lt_or_ge j n with h | h
  · rw [show j.blt n = true by simpa [Nat.blt_eq] using h, if_pos h, Nat.zero_add]; rfl
  · have : j = n := by omega
    subst this
    rw [show j.blt j = false by rw [Bool.eq_false_iff]; simp [Nat.blt_eq], if_neg (by omega), Nat.sub_self]
    rfl
theorem genPlain {f : Nat → Option Nat} {N t z n : Nat} {F : Nat → AV} (h : Plain n F) : RowV f N (.gen t z n F) (.gen t z n F) := .gen rfl fun i hi => ⟨(h i hi).1, gnd_vw f N _ (h i hi).2⟩
theorem genApp {f : Nat → Option Nat} {N t z n : Nat} {F : Nat → AV} {e : AV} (h : Plain n F) (h1 : ones e = true) (h2 : gnd e = true) : RowV f N (.gen t z (n + 1) (snoc n F e)) (.gen t z (n + 1) (app1 n F e)) :=
  .gen rfl fun i hi => ⟨(h.snoc h1 h2 i hi).1, by rw [app1_eq hi]; exact gnd_vw f N _ (h.snoc h1 h2 i hi).2⟩
theorem ViewL.gone {f : Nat → Option Nat} {N : Nat} {h : Rows} {c : Nat} (hl : ∀ b, f c = some b → b < h.length) : ViewL f N h c none where
  row := fun r h0 => by simp at h0
  lt := hl
def rowsA (x a v : Int) (n m : Nat) (F G : Nat → AV) : Rows := [decU a a 0 v (lowF x) (highF x) (.sl false 3 0 (n + 1) .no) (.sl false 2 0 m .no), none, some (.gen 75 3 m G), some (.gen 38 2 (n + 1) (snoc n F (rune x a)))]
def rowsL (x a v : Int) (n m : Nat) (F G : Nat → AV) : Rows := [decU a a (leftF x) (valF x) (lowF x) (highF x) (.sl false 1 0 n .no) (.sl false 2 0 m .no), some (.gen 38 2 n F), some (.gen 75 3 m G)]
def rowsB (x a v : Int) (n m : Nat) (F G : Nat → AV) : Rows := [decU a a 0 v (lowF x) (highF x) (.sl false 3 0 (n + 1) .no) (.sl false 4 0 (m + 1) .no), none, none, some (.gen 38 2 (n + 1) (snoc n F (rune 65533 a))), some (.gen 75 3 (m + 1) (snoc m G (diag a)))]
def fA : Nat → Option Nat := fun c => if c < 3 then some c else if c = 3 then some 4 else none
def fB : Nat → Option Nat := fun c => if c < 3 then some c else if c = 3 then some 4 else if c = 4 then some 6 else none
theorem viewA {x a v : Int} {n m : Nat} {F G : Nat → AV} (hF : Plain n F) (hG : Plain m G) (y : Int) (hy : y = x) :
    View fA (rowsA x a v n m F G) [decU a a 0 v (lowF x) (highF x) (.sl false 4 0 (n + 1) .no) (.sl false 2 0 m .no), none, some (.gen 75 3 m G), some (.lst 38 2 [rune y a]), some (.gen 38 2 (n + 1) (app1 n F (rune y a)))] := by
  subst hy
  refine View.of ?_ ?_
  · intro c o ho
    have hc : c < 4 := (List.getElem?_eq_some_iff.1 ho).1
    show ViewL fA 4 _ _ _
    rcases (by omega : c = 0 ∨ c = 1 ∨ c = 2 ∨ c = 3) with rfl | rfl | rfl | rfl <;> cases ho
    · exact ViewL.at_ (b := 0) rfl rfl (.lst1 rfl (.aggI (.cons .boolI (.cons .intI (.cons .intI (.cons .intI (.cons .intI (.cons .intI (.cons .intI (.cons (.slI (by omega) rfl) (.cons (.slI (by omega) rfl) .nil)))))))))))
    · exact ViewL.gone (fun b hb => by simp [fA] at hb; subst hb; simp)
    · exact ViewL.at_ (b := 2) rfl rfl (genPlain hG)
    · exact ViewL.at_ (b := 4) rfl rfl (genApp hF rfl rfl)
  · intro c c' b hc hc' e e'
    simp only [fA] at e e'
    repeat' split at e
    all_goals repeat' split at e'
    all_goals simp at e e'
    all_goals omega
theorem viewB {x a v : Int} {n m : Nat} {F G : Nat → AV} (hF : Plain n F) (hG : Plain m G) :
    View fB (rowsB x a v n m F G) [decU a a 0 v (lowF x) (highF x) (.sl false 4 0 (n + 1) .no) (.sl false 6 0 (m + 1) .no), none, none, some (.lst 38 2 [rune 65533 a]), some (.gen 38 2 (n + 1) (app1 n F (rune 65533 a))), some (.lst 75 3 [diag a]), some (.gen 75 3 (m + 1) (app1 m G (diag a)))] := by
  refine View.of ?_ ?_
  · intro c o ho
    have hc : c < 5 := (List.getElem?_eq_some_iff.1 ho).1
    show ViewL fB 5 _ _ _
    rcases (by omega : c = 0 ∨ c = 1 ∨ c = 2 ∨ c = 3 ∨ c = 4) with rfl | rfl | rfl | rfl | rfl <;> cases ho
    · exact ViewL.at_ (b := 0) rfl rfl (.lst1 rfl (.aggI (.cons .boolI (.cons .intI (.cons .intI (.cons .intI (.cons .intI (.cons .intI (.cons .intI (.cons (.slI (by omega) rfl) (.cons (.slI (by omega) rfl) .nil)))))))))))
    · exact ViewL.gone (fun b hb => by simp [fB] at hb; subst hb; simp)
    · exact ViewL.gone (fun b hb => by simp [fB] at hb; subst hb; simp)
    · exact ViewL.at_ (b := 4) rfl rfl (genApp hF rfl rfl)
    · exact ViewL.at_ (b := 6) rfl rfl (genApp hG rfl rfl)
  · intro c c' b hc hc' e e'
    simp only [fB] at e e'
    repeat' split at e
    all_goals repeat' split at e'
    all_goals simp at e e'
    all_goals omega
theorem viewL_ {x a v : Int} {n m : Nat} {F G : Nat → AV} (hF : Plain n F) (hG : Plain m G) : View some (rowsL x a v n m F G) (rowsL x a v n m F G) := by
  refine View.of ?_ (fun c c' b _ _ h1 h2 => by simp at h1 h2; omega)
  intro c o ho
  have hc : c < 3 := (List.getElem?_eq_some_iff.1 ho).1
  show ViewL some 3 _ _ _
  rcases (by omega : c = 0 ∨ c = 1 ∨ c = 2) with rfl | rfl | rfl <;> cases ho
  · exact ViewL.at_ (b := 0) rfl rfl (.lst1 rfl (.aggI (.cons .boolI (.cons .intI (.cons .intI (.cons .intI (.cons .intI (.cons .intI (.cons .intI (.cons (.slI (by omega) rfl) (.cons (.slI (by omega) rfl) .nil)))))))))))
  · exact ViewL.at_ (b := 1) rfl rfl (genPlain hF)
  · exact ViewL.at_ (b := 2) rfl rfl (genPlain hG)
end Go.Dc.Ka
