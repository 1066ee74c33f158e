/- The decoder in UTF-8, one byte at a time: the first byte of a scalar, with nothing told yet, and behind one that was wrong. -/
import Derived.Test.YtebgogcdndmaaaaUtfC
import Derived.Test.YtebgogcdndmaaaaDcZh
set_option linter.unusedVariables false
set_option linter.unusedSimpArgs false
namespace Go.Dc.Ka
open Go.Proofs Go.RowKit
set_option maxRecDepth 100000
theorem vc47n (R : Nat → RoRow) (x a b v lo hi : Int) (Q : AV → Rows → Prop) :
    vcd (base R) 10000 47 fi47 [.ptr false 0 0 0, .int .u8 x] [decU a b 0 v lo hi .nils .nils] Q =
    (bif decide (x < 128) then
      tree2 x fun lo hi => Q (.tup []) [decU a a 0 v lo hi (.sl false 2 0 1 .no) .nils, some (.lst 38 2 [rune (IntKind.i64.wrap x) a]), some (.lst 38 2 [rune (IntKind.i64.wrap x) a])]
    else cond2 (decide (x ≥ 194)) (decide (x ≤ 223)) (tree2 x fun lo hi => Q (.tup []) [decU a a 1 (and8 x 31) lo hi .nils .nils])
      (cond2 (decide (x ≥ 224)) (decide (x ≤ 239)) (tree2 x fun lo hi => Q (.tup []) [decU a a 2 (and8 x 15) lo hi .nils .nils])
      (cond2 (decide (x ≥ 240)) (decide (x ≤ 244)) (tree2 x fun lo hi => Q (.tup []) [decU a a 3 (and8 x 7) lo hi .nils .nils])
        (AV.nils = AV.nils ∧ tree2 x fun lo hi =>
          Q (.tup []) [decU a a 0 v lo hi (.sl false 2 0 1 .no) (.sl false 4 0 1 .no), some (.lst 38 2 [rune 65533 a]), some (.lst 38 2 [rune 65533 a]), some (.lst 75 3 [diag a]), some (.lst 75 3 [diag a])])))) := by kernel_rfl
theorem vc47w (R : Nat → RoRow) (x a b v lo hi r0 r1 d0 : Int) (Q : AV → Rows → Prop) :
    vcd (base R) 10000 47 fi47 [.ptr false 0 0 0, .int .u8 x] [decU a b 0 v lo hi (.sl false 1 0 1 .no) (.sl false 2 0 1 .no), some (.lst 38 2 [rune r0 r1]), some (.lst 75 3 [diag d0])] Q =
    (bif decide (x < 128) then
      tree2 x fun lo hi => Q (.tup []) [decU a a 0 v lo hi (.sl false 4 0 2 .no) (.sl false 2 0 1 .no), none, some (.lst 75 3 [diag d0]), some (.lst 38 2 [rune (IntKind.i64.wrap x) a]), some (.lst 38 2 [rune r0 r1, rune (IntKind.i64.wrap x) a])]
    else cond2 (decide (x ≥ 194)) (decide (x ≤ 223)) (tree2 x fun lo hi => Q (.tup []) [decU a a 1 (and8 x 31) lo hi (.sl false 1 0 1 .no) (.sl false 2 0 1 .no), some (.lst 38 2 [rune r0 r1]), some (.lst 75 3 [diag d0])])
      (cond2 (decide (x ≥ 224)) (decide (x ≤ 239)) (tree2 x fun lo hi => Q (.tup []) [decU a a 2 (and8 x 15) lo hi (.sl false 1 0 1 .no) (.sl false 2 0 1 .no), some (.lst 38 2 [rune r0 r1]), some (.lst 75 3 [diag d0])])
      (cond2 (decide (x ≥ 240)) (decide (x ≤ 244)) (tree2 x fun lo hi => Q (.tup []) [decU a a 3 (and8 x 7) lo hi (.sl false 1 0 1 .no) (.sl false 2 0 1 .no), some (.lst 38 2 [rune r0 r1]), some (.lst 75 3 [diag d0])])
        (AV.sl false 2 0 1 .no = AV.sl false 2 0 1 .no ∧ tree2 x fun lo hi =>
          Q (.tup []) [decU a a 0 v lo hi (.sl false 4 0 2 .no) (.sl false 6 0 2 .no), none, none, some (.lst 38 2 [rune 65533 a]), some (.lst 38 2 [rune r0 r1, rune 65533 a]), some (.lst 75 3 [diag a]), some (.lst 75 3 [diag d0, diag a])])))) := by kernel_rfl
def rAn (a y v lo hi : Int) : Rows := [decU a a 0 v lo hi (.sl false 1 0 1 .no) .nils, some (.lst 38 2 [rune y a])]
def rLn (a l v lo hi : Int) : Rows := [decU a a l v lo hi .nils .nils]
def rBn (a v lo hi : Int) : Rows := [decU a a 0 v lo hi (.sl false 1 0 1 .no) (.sl false 2 0 1 .no), some (.lst 38 2 [rune 65533 a]), some (.lst 75 3 [diag a])]
def rAw (a y v lo hi r0 r1 d0 : Int) : Rows := [decU a a 0 v lo hi (.sl false 3 0 2 .no) (.sl false 2 0 1 .no), none, some (.lst 75 3 [diag d0]), some (.lst 38 2 [rune r0 r1, rune y a])]
def rLw (a l v lo hi r0 r1 d0 : Int) : Rows := [decU a a l v lo hi (.sl false 1 0 1 .no) (.sl false 2 0 1 .no), some (.lst 38 2 [rune r0 r1]), some (.lst 75 3 [diag d0])]
def rBw (a v lo hi r0 r1 d0 : Int) : Rows := [decU a a 0 v lo hi (.sl false 3 0 2 .no) (.sl false 4 0 2 .no), none, none, some (.lst 38 2 [rune r0 r1, rune 65533 a]), some (.lst 75 3 [diag d0, diag a])]
/-- One row moved, and one more. -/
def mv2 (c0 b0 c1 b1 : Nat) : Nat → Option Nat := fun c => bif Nat.beq c c0 then some b0 else bif Nat.beq c c1 then some b1 else some c
theorem RowV.lstL {f : Nat → Option Nat} {n : Nat} {t z : Nat} {l l' : List AV} (h1 : (l.all ones) = true) (h2 : VwL f n l l') : RowV f n (.lst t z l) (.lst t z l') where
  ty := rfl
  esz := rfl
  len := h2.length
  get := fun i x hx => by
    simp only [Row.get?] at hx ⊢
    obtain ⟨y, hy, hv⟩ := h2.get hx
    exact ⟨ones_mem (List.all_eq_true.1 h1 x (List.mem_of_getElem? hx)), y, hy, hv⟩
theorem ViewL.gone' {f : Nat → Option Nat} {N : Nat} {h : Rows} {c b : Nat} (hf : f c = some b) (hb : b < h.length) : ViewL f N h c none where
  row := fun r hr => by cases hr
  lt := fun b' hb' => by rw [hf] at hb'; cases hb'; exact hb
theorem injOf {N : Nat} {f : Nat → Option Nat} (h : ∀ c c' : Fin N, f c.1 = f c'.1 → f c.1 ≠ none → c = c') (c c' b : Nat) (hc : c < N) (hc' : c' < N) (h1 : f c = some b) (h2 : f c' = some b) : c = c' := by
  have := h ⟨c, hc⟩ ⟨c', hc'⟩ (h1.trans h2.symm) (by show f c ≠ none; rw [h1]; simp)
  exact congrArg Fin.val this
def NQ (a : Int) (Q : Rows → Prop) : Prop := (∀ y v lo hi, Q (rAn a y v lo hi)) ∧ (∀ l v lo hi, 1 ≤ l → l ≤ 3 → Q (rLn a l v lo hi)) ∧ ∀ v lo hi, Q (rBn a v lo hi)
def WQ (a r0 r1 d0 : Int) (Q : Rows → Prop) : Prop := (∀ y v lo hi, Q (rAw a y v lo hi r0 r1 d0)) ∧ (∀ l v lo hi, 1 ≤ l → l ≤ 3 → Q (rLw a l v lo hi r0 r1 d0)) ∧ ∀ v lo hi, Q (rBw a v lo hi r0 r1 d0)
theorem fitN {n : Nat} {hE h : Rows} {Q : Rows → Prop} (f : Nat → Option Nat) (hV : View f hE h) (hf : ∀ c, c < n → f c = some c) (hl : n ≤ hE.length) (hq : Q hE) : ∃ vE hE, FitV n vE hE (.tup []) h ∧ (vE = .tup [] ∧ Q hE) :=
  ⟨.tup [], hE, ⟨f, hV, Vw.tupI VwL.nil, hf, hl⟩, rfl, hq⟩
theorem safe47n (R : Nat → RoRow) (x a b v lo hi : Int) (Q : Rows → Prop) (hQ : NQ a Q) :
    SafeCall Try.prog R 47 [.ptr false 0 0 0, .int .u8 x] [decU a b 0 v lo hi .nils .nils] fun r h => r = .tup [] ∧ Q h := by
  obtain ⟨hA, hL, hB⟩ := hQ
  refine SafeCall.fit (Q := fun r h => ∃ vE hE, FitV 1 vE hE r h ∧ (vE = .tup [] ∧ Q hE)) ?_ (fun _ _ h => h)
  refine byVcd (base_ok R) (f := 47) (fi := fi47) (by kernel_rfl) 10000 (vc47n R x a b v lo hi _) ?_
  refine hcond (fun _ => tree2_of ?_) (fun _ => ?_)
  · refine fitN (mv2 1 2 1 2) ?_ (fun c hc => by rw [show c = 0 by omega]; rfl) (by simp [rAn]) (hA (IntKind.i64.wrap x) v (lowF x) (highF x))
    refine View.of ?_ ?_
    · intro c o ho
      match c with
      | 0 => cases ho; exact ViewL.at_ (b := 0) rfl rfl (RowV.lst1 rfl (by unfold rAn; (repeat' (first | with_reducible exact VwL.nil | with_reducible refine VwL.cons ?_ ?_ | with_reducible exact Vw.strI | with_reducible exact Vw.boolI | with_reducible exact Vw.intI | with_reducible exact Vw.nilsI | with_reducible refine Vw.aggI ?_ | exact Vw.gndI rfl | exact Vw.slI (by simp) rfl))))
      | 1 => cases ho; exact ViewL.at_ (b := 2) rfl rfl (RowV.lstL rfl (by (repeat' (first | with_reducible exact VwL.nil | with_reducible refine VwL.cons ?_ ?_ | with_reducible exact Vw.strI | with_reducible exact Vw.boolI | with_reducible exact Vw.intI | with_reducible exact Vw.nilsI | with_reducible refine Vw.aggI ?_ | exact Vw.gndI rfl | exact Vw.slI (by simp) rfl))))
      | c + 2 => simp [rAn] at ho
    · exact injOf (N := 2) (by decide)
  · have lead : ∀ l y : Int, 1 ≤ l → l ≤ 3 → tree2 x fun lo hi => ∃ vE hE, FitV 1 vE hE (.tup []) [decU a a l y lo hi .nils .nils] ∧ (vE = .tup [] ∧ Q hE) := by
      intro l y h1 h3
      refine tree2_of (fitN some ?_ (fun _ _ => rfl) (by simp [rLn]) (hL l y (lowF x) (highF x) h1 h3))
      refine View.of ?_ ?_
      · intro c o ho
        match c with
        | 0 => cases ho; exact ViewL.at_ (b := 0) rfl rfl (RowV.lst1 rfl (by (repeat' (first | with_reducible exact VwL.nil | with_reducible refine VwL.cons ?_ ?_ | with_reducible exact Vw.strI | with_reducible exact Vw.boolI | with_reducible exact Vw.intI | with_reducible exact Vw.nilsI | with_reducible refine Vw.aggI ?_ | exact Vw.gndI rfl | exact Vw.slI (by simp) rfl))))
        | c + 1 => simp [rLn] at ho
      · exact fun c c' b _ _ h1 h2 => by cases h1; cases h2; rfl
    refine cond2_of (fun _ _ => lead 1 _ (by decide) (by decide)) (fun _ => ?_)
    refine cond2_of (fun _ _ => lead 2 _ (by decide) (by decide)) (fun _ => ?_)
    refine cond2_of (fun _ _ => lead 3 _ (by decide) (by decide)) (fun _ => ?_)
    refine ⟨rfl, tree2_of ?_⟩
    refine fitN (mv2 1 2 2 4) ?_ (fun c hc => by rw [show c = 0 by omega]; rfl) (by simp [rBn]) (hB v (lowF x) (highF x))
    refine View.of ?_ ?_
    · intro c o ho
      match c with
      | 0 => cases ho; exact ViewL.at_ (b := 0) rfl rfl (RowV.lst1 rfl (by unfold rBn; (repeat' (first | with_reducible exact VwL.nil | with_reducible refine VwL.cons ?_ ?_ | with_reducible exact Vw.strI | with_reducible exact Vw.boolI | with_reducible exact Vw.intI | with_reducible exact Vw.nilsI | with_reducible refine Vw.aggI ?_ | exact Vw.gndI rfl | exact Vw.slI (by simp) rfl))))
      | 1 => cases ho; exact ViewL.at_ (b := 2) rfl rfl (RowV.lstL rfl (by (repeat' (first | with_reducible exact VwL.nil | with_reducible refine VwL.cons ?_ ?_ | with_reducible exact Vw.strI | with_reducible exact Vw.boolI | with_reducible exact Vw.intI | with_reducible exact Vw.nilsI | with_reducible refine Vw.aggI ?_ | exact Vw.gndI rfl | exact Vw.slI (by simp) rfl))))
      | 2 => cases ho; exact ViewL.at_ (b := 4) rfl rfl (RowV.lstL rfl (by (repeat' (first | with_reducible exact VwL.nil | with_reducible refine VwL.cons ?_ ?_ | with_reducible exact Vw.strI | with_reducible exact Vw.boolI | with_reducible exact Vw.intI | with_reducible exact Vw.nilsI | with_reducible refine Vw.aggI ?_ | exact Vw.gndI rfl | exact Vw.slI (by simp) rfl))))
      | c + 3 => simp [rBn] at ho
    · exact injOf (N := 3) (by decide)
theorem safe47w (R : Nat → RoRow) (x a b v lo hi r0 r1 d0 : Int) (Q : Rows → Prop) (hQ : WQ a r0 r1 d0 Q) :
    SafeCall Try.prog R 47 [.ptr false 0 0 0, .int .u8 x] [decU a b 0 v lo hi (.sl false 1 0 1 .no) (.sl false 2 0 1 .no), some (.lst 38 2 [rune r0 r1]), some (.lst 75 3 [diag d0])] fun r h => r = .tup [] ∧ Q h := by
  obtain ⟨hA, hL, hB⟩ := hQ
  refine SafeCall.fit (Q := fun r h => ∃ vE hE, FitV 3 vE hE r h ∧ (vE = .tup [] ∧ Q hE)) ?_ (fun _ _ h => h)
  refine byVcd (base_ok R) (f := 47) (fi := fi47) (by kernel_rfl) 10000 (vc47w R x a b v lo hi r0 r1 d0 _) ?_
  have id3 : ∀ f : Nat → Option Nat, f 0 = some 0 → f 1 = some 1 → f 2 = some 2 → ∀ c, c < 3 → f c = some c := by
    intro f h0 h1 h2 c hc
    match c with
    | 0 => exact h0
    | 1 => exact h1
    | 2 => exact h2
    | c + 3 => omega
  refine hcond (fun _ => tree2_of ?_) (fun _ => ?_)
  · refine fitN (mv2 3 4 3 4) ?_ (id3 _ rfl rfl rfl) (by simp [rAw]) (hA (IntKind.i64.wrap x) v (lowF x) (highF x))
    refine View.of ?_ ?_
    · intro c o ho
      match c with
      | 0 => cases ho; exact ViewL.at_ (b := 0) rfl rfl (RowV.lst1 rfl (by unfold rAw; (repeat' (first | with_reducible exact VwL.nil | with_reducible refine VwL.cons ?_ ?_ | with_reducible exact Vw.strI | with_reducible exact Vw.boolI | with_reducible exact Vw.intI | with_reducible exact Vw.nilsI | with_reducible refine Vw.aggI ?_ | exact Vw.gndI rfl | exact Vw.slI (by simp) rfl))))
      | 1 => cases ho; exact ViewL.gone' (b := 1) rfl (by simp)
      | 2 => cases ho; exact ViewL.at_ (b := 2) rfl rfl (RowV.lstL rfl (by (repeat' (first | with_reducible exact VwL.nil | with_reducible refine VwL.cons ?_ ?_ | with_reducible exact Vw.strI | with_reducible exact Vw.boolI | with_reducible exact Vw.intI | with_reducible exact Vw.nilsI | with_reducible refine Vw.aggI ?_ | exact Vw.gndI rfl | exact Vw.slI (by simp) rfl))))
      | 3 => cases ho; exact ViewL.at_ (b := 4) rfl rfl (RowV.lstL rfl (by (repeat' (first | with_reducible exact VwL.nil | with_reducible refine VwL.cons ?_ ?_ | with_reducible exact Vw.strI | with_reducible exact Vw.boolI | with_reducible exact Vw.intI | with_reducible exact Vw.nilsI | with_reducible refine Vw.aggI ?_ | exact Vw.gndI rfl | exact Vw.slI (by simp) rfl))))
      | c + 4 => simp [rAw] at ho
    · exact injOf (N := 4) (by decide)
  · have lead : ∀ l y : Int, 1 ≤ l → l ≤ 3 → tree2 x fun lo hi => ∃ vE hE, FitV 3 vE hE (.tup []) [decU a a l y lo hi (.sl false 1 0 1 .no) (.sl false 2 0 1 .no), some (.lst 38 2 [rune r0 r1]), some (.lst 75 3 [diag d0])] ∧ (vE = .tup [] ∧ Q hE) := by
      intro l y h1 h3
      refine tree2_of (fitN some ?_ (fun _ _ => rfl) (by simp [rLw]) (hL l y (lowF x) (highF x) h1 h3))
      refine View.of ?_ ?_
      · intro c o ho
        match c with
        | 0 => cases ho; exact ViewL.at_ (b := 0) rfl rfl (RowV.lst1 rfl (by unfold rLw; (repeat' (first | with_reducible exact VwL.nil | with_reducible refine VwL.cons ?_ ?_ | with_reducible exact Vw.strI | with_reducible exact Vw.boolI | with_reducible exact Vw.intI | with_reducible exact Vw.nilsI | with_reducible refine Vw.aggI ?_ | exact Vw.gndI rfl | exact Vw.slI (by simp) rfl))))
        | 1 => cases ho; exact ViewL.at_ (b := 1) rfl rfl (RowV.lstL rfl (by (repeat' (first | with_reducible exact VwL.nil | with_reducible refine VwL.cons ?_ ?_ | with_reducible exact Vw.strI | with_reducible exact Vw.boolI | with_reducible exact Vw.intI | with_reducible exact Vw.nilsI | with_reducible refine Vw.aggI ?_ | exact Vw.gndI rfl | exact Vw.slI (by simp) rfl))))
        | 2 => cases ho; exact ViewL.at_ (b := 2) rfl rfl (RowV.lstL rfl (by (repeat' (first | with_reducible exact VwL.nil | with_reducible refine VwL.cons ?_ ?_ | with_reducible exact Vw.strI | with_reducible exact Vw.boolI | with_reducible exact Vw.intI | with_reducible exact Vw.nilsI | with_reducible refine Vw.aggI ?_ | exact Vw.gndI rfl | exact Vw.slI (by simp) rfl))))
        | c + 3 => simp [rLw] at ho
      · exact fun c c' b _ _ h1 h2 => by cases h1; cases h2; rfl
    refine cond2_of (fun _ _ => lead 1 _ (by decide) (by decide)) (fun _ => ?_)
    refine cond2_of (fun _ _ => lead 2 _ (by decide) (by decide)) (fun _ => ?_)
    refine cond2_of (fun _ _ => lead 3 _ (by decide) (by decide)) (fun _ => ?_)
    refine ⟨rfl, tree2_of ?_⟩
    refine fitN (mv2 3 4 4 6) ?_ (id3 _ rfl rfl rfl) (by simp [rBw]) (hB v (lowF x) (highF x))
    refine View.of ?_ ?_
    · intro c o ho
      match c with
      | 0 => cases ho; exact ViewL.at_ (b := 0) rfl rfl (RowV.lst1 rfl (by unfold rBw; (repeat' (first | with_reducible exact VwL.nil | with_reducible refine VwL.cons ?_ ?_ | with_reducible exact Vw.strI | with_reducible exact Vw.boolI | with_reducible exact Vw.intI | with_reducible exact Vw.nilsI | with_reducible refine Vw.aggI ?_ | exact Vw.gndI rfl | exact Vw.slI (by simp) rfl))))
      | 1 => cases ho; exact ViewL.gone' (b := 1) rfl (by simp)
      | 2 => cases ho; exact ViewL.gone' (b := 2) rfl (by simp)
      | 3 => cases ho; exact ViewL.at_ (b := 4) rfl rfl (RowV.lstL rfl (by (repeat' (first | with_reducible exact VwL.nil | with_reducible refine VwL.cons ?_ ?_ | with_reducible exact Vw.strI | with_reducible exact Vw.boolI | with_reducible exact Vw.intI | with_reducible exact Vw.nilsI | with_reducible refine Vw.aggI ?_ | exact Vw.gndI rfl | exact Vw.slI (by simp) rfl))))
      | 4 => cases ho; exact ViewL.at_ (b := 6) rfl rfl (RowV.lstL rfl (by (repeat' (first | with_reducible exact VwL.nil | with_reducible refine VwL.cons ?_ ?_ | with_reducible exact Vw.strI | with_reducible exact Vw.boolI | with_reducible exact Vw.intI | with_reducible exact Vw.nilsI | with_reducible refine Vw.aggI ?_ | exact Vw.gndI rfl | exact Vw.slI (by simp) rfl))))
      | c + 5 => simp [rBw] at ho
    · exact injOf (N := 5) (by decide)
end Go.Dc.Ka
