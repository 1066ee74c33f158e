/- Feed, where each byte is one scalar: its loop. -/
import Derived.Test.YtebgogcdndmaaaaFeedB
import Derived.Test.YtebgogcdndmaaaaDcYi
set_option linter.unusedVariables false
set_option linter.unusedSimpArgs false
namespace Go.Dc.Ka
open Go.Proofs Go.RowKit
set_option maxRecDepth 100000
theorem hcond {b : Bool} {X Y : Prop} (h1 : b = true → X) (h2 : b = false → Y) : cond b X Y := by
  cases b
  · exact h2 rfl
  · exact h1 rfl
theorem wrap64 (x : Int) (h0 : -9223372036854775808 ≤ x) (h1 : x ≤ 9223372036854775807) : IntKind.i64.wrap x = x := by
  have e : IntKind.i64.wrap x = if (decide (x % 18446744073709551616 ≥ 9223372036854775808)) = true then x % 18446744073709551616 - 18446744073709551616 else x % 18446744073709551616 := rfl
  rw [e]
  simp only [decide_eq_true_eq]
  split <;> omega
theorem wrap8 (x : Int) (h0 : 0 ≤ x) (h1 : x ≤ 255) : IntKind.u8.wrap x = x := by
  have e : IntKind.u8.wrap x = if (false && decide (x % 256 ≥ 128)) = true then x % 256 - 256 else x % 256 := rfl
  rw [e]
  simp only [Bool.false_and, Bool.false_eq_true, if_false]
  omega
def feedV (n : Nat) : Nat → Option Nat := fun c => if c < 4 then some c else if c = 4 then some n else none
theorem feedFit {a : Int} {s : List UInt8} {i : Nat} {T : List AV} {h : Rows} {n : Nat} {at' : Int} {g : Nat → AV} {len : Nat} (hn : 4 ≤ n) 
    (hat : at' = a + (i : Nat)) (hlen : len = i) 
    (h0 : h[0]? = some (decRow at' (.sl false n 0 len .no))) (h1 : h[1]? = some winRow) (h2 : h[2]? = some winRow) (h3 : h[3]? = some (some (.byt 5 s)))
    (h4 : h[n]? = some (some (.gen 38 2 len g))) (hg : ∀ j, j < i → g j = outF a s j)
    (hT : VwL (feedV n) 5 (feedT s i) T) : Fit 4 (feedS a s i) ⟨T, h⟩ := by
  subst hat; subst len
  refine ⟨feedV n, ⟨View.of ?_ ?_, hT⟩, ?_, by simp [feedS]⟩
  · intro c o ho
    have hc : c < 5 := (List.getElem?_eq_some_iff.1 ho).1
    have hN : (feedS a s i).rows.length = 5 := rfl
    rw [hN]
    rcases (by omega : c = 0 ∨ c = 1 ∨ c = 2 ∨ c = 3 ∨ c = 4) with rfl | rfl | rfl | rfl | rfl
    · simp only [feedS, decRow, List.getElem?_cons_zero, Option.some.injEq] at ho
      subst ho
      refine ViewL.at_ (b := 0) rfl h0 (.lst1 rfl ?_)
      simp only [Vw, VwL, feedV]
      refine ⟨_, rfl, _, _, rfl, rfl, _, _, rfl, rfl, _, _, rfl, rfl, _, _, rfl, rfl, _, _, rfl, rfl, _, _, rfl, rfl, _, _, rfl, rfl, _, _, rfl, ⟨by omega, .inl ⟨n, .no, by simp, rfl, Cp.le_refl _⟩⟩, _, _, rfl, rfl, rfl⟩
    · cases ho
      exact ViewL.at_ (b := 1) rfl h1 (.gnd rfl rfl)
    · cases ho
      exact ViewL.at_ (b := 2) rfl h2 (.gnd rfl rfl)
    · cases ho
      exact ViewL.at_ (b := 3) rfl h3 .byt
    · cases ho
      refine ViewL.at_ (b := n) rfl h4 (.gen rfl fun j hj => ⟨rfl, ?_⟩)
      rw [hg j hj]
      exact gnd_vw _ _ _ rfl
  · intro c c' b hc hc' e e'
    simp only [feedV] at e e'
    repeat' split at e
    all_goals repeat' split at e'
    all_goals simp at e e'
    all_goals omega
  · intro c hc
    simp [feedV, hc]
theorem byteI_bd (s : List UInt8) (i : Nat) : 0 ≤ byteI s i ∧ byteI s i ≤ 255 := by
  unfold byteI
  have := (s.getD i 0).toNat_lt
  omega
theorem outOf {a : Int} {s : List UInt8} {i : Nat} {v : Int} (hv : v = winI (byteI s i)) (j : Nat) (hj : j < i + 1) :
    (bif j.blt i then AV.agg [AV.int IntKind.i64 (winI (byteI s (0 + j))), AV.int IntKind.i64 (a + ((0 + j : Nat) : Int))] else (Src.lst [AV.agg [AV.int IntKind.i64 v, AV.int IntKind.i64 (a + (i : Int))]]).at_ (j - i)) = outF a s j := by
  rw [Nat.zero_add]
  rcases Nat.lt_or_ge j i with h | h
  · rw [show j.blt i = true by simpa [Nat.blt_eq] using h]; rfl
  · have : j = i := by omega
    subst this
    rw [show j.blt j = false by rw [Bool.eq_false_iff]; simp [Nat.blt_eq], Nat.sub_self, hv]
    rfl
theorem feedRound (R : Nat → RoRow) (a : Int) (s : List UInt8) (h0 : 0 ≤ a) (h1 : a + s.length ≤ 1099511627776) (i : {i : Nat // i ≤ s.length}) :
    Safe Try.prog R (loopOf fi24 0) (feedS a s i.1) fun e st' => match e with
      | .normal => ∃ i' : {i : Nat // i ≤ s.length}, s.length - i'.1 < s.length - i.1 ∧ Fit 4 (feedS a s i'.1) st'
      | e => ∃ stE, Fit 4 stE st' ∧ (e = .exit 0 ∧ stE = feedS a s s.length) := by
  obtain ⟨i, hi⟩ := i
  refine Safe.rnd mixed (base_ok R) (f := 24) (fi := fi24) (i := 0) (b := .loop (loopOf fi24 0)) (by kernel_rfl) (by kernel_rfl) (by kernel_rfl) 1000 ?_
  rw [round24]
  have hB := byteI_bd s i
  have eB : ((s.getD (0 + (i : Int).toNat) 0).toNat : Int) = byteI s i := by simp [byteI]
  have hw : IntKind.i64.wrap ((i : Int) + 1) = ((i + 1 : Nat) : Int) := by rw [wrap64 ((i : Int) + 1) (by omega) (by omega)]; omega
  rw [eB]
  have hwa : i < s.length → IntKind.i64.wrap (a + (i : Int) + 1) = a + ((i + 1 : Nat) : Int) := fun h => by rw [wrap64 (a + (i : Int) + 1) (by omega) (by omega)]; omega
  refine hcond (fun hlt => ?_) (fun hlt => ?_)
  · have hlt' : i < s.length := Int.ofNat_lt.1 (of_decide_eq_true hlt)
    refine hcond (fun _ => ?_) (fun h => by exfalso; simp at h; omega)
    refine hcond (fun _ => ?_) (fun h => by exfalso; simp at h; omega)
    refine hcond (fun h128 => ?_) (fun h128 => ?_)
    · have h128' := of_decide_eq_true h128
      refine hcond (fun h160 => ?_) (fun h160 => ?_)
      · have h160' := of_decide_eq_true h160
        have hw8 : IntKind.u8.wrap (byteI s i - 128) = byteI s i - 128 := wrap8 _ (by omega) (by omega)
        rw [hw8]
        refine hcond (fun _ => ?_) (fun h => by exfalso; simp at h; omega)
        refine hcond (fun _ => ?_) (fun h => by exfalso; have := of_decide_eq_false h; omega)
        refine hcond (fun _ => ?_) (fun h => by
          exfalso
          have h' : (decide (0 + i ≤ i) && (true && (true && decide ((i + 1) * 16 ≤ 140737488355328)))) = false := h
          simp at h'
          omega)
        refine ⟨⟨i + 1, by omega⟩, by show s.length - (i + 1) < s.length - i; omega, feedFit (n := 6) (by omega) (hwa hlt') rfl rfl rfl rfl rfl rfl ?_ ?_⟩
        · exact outOf (by unfold winI; rw [if_pos ⟨h128', h160'⟩]; simp; rfl)
        · simp only [hw]
          iterate 64 refine VwL.cons (by first | exact Vw.anyI | exact Vw.intI | exact Vw.strI | exact Vw.nilsI | exact Vw.ptrI (by decide) rfl | exact Vw.slI (by decide) rfl) ?_
          exact VwL.nil
      · have h160' := of_decide_eq_false h160
        refine hcond (fun _ => ?_) (fun h => by
          exfalso
          have h' : (decide (0 + i ≤ i) && (true && (true && decide ((i + 1) * 16 ≤ 140737488355328)))) = false := h
          simp at h'
          omega)
        refine ⟨⟨i + 1, by omega⟩, by show s.length - (i + 1) < s.length - i; omega, feedFit (n := 6) (by omega) (hwa hlt') rfl rfl rfl rfl rfl rfl ?_ ?_⟩
        · exact outOf (by rw [wrap64 (byteI s i) (by omega) (by omega)]; unfold winI; rw [if_neg (by omega)])
        · simp only [hw]
          iterate 64 refine VwL.cons (by first | exact Vw.anyI | exact Vw.intI | exact Vw.strI | exact Vw.nilsI | exact Vw.ptrI (by decide) rfl | exact Vw.slI (by decide) rfl) ?_
          exact VwL.nil
    · have h128' := of_decide_eq_false h128
      refine hcond (fun _ => ?_) (fun h => by
        exfalso
        have h' : (decide (0 + i ≤ i) && (true && (true && decide ((i + 1) * 16 ≤ 140737488355328)))) = false := h
        simp at h'
        omega)
      refine ⟨⟨i + 1, by omega⟩, by show s.length - (i + 1) < s.length - i; omega, feedFit (n := 6) (by omega) (hwa hlt') rfl rfl rfl rfl rfl rfl ?_ ?_⟩
      · exact outOf (by rw [wrap64 (byteI s i) (by omega) (by omega)]; unfold winI; rw [if_neg (by omega)])
      · simp only [hw]
        iterate 64 refine VwL.cons (by first | exact Vw.anyI | exact Vw.intI | exact Vw.strI | exact Vw.nilsI | exact Vw.ptrI (by decide) rfl | exact Vw.slI (by decide) rfl) ?_
        exact VwL.nil
  · have hlt' : ¬ i < s.length := fun h => (of_decide_eq_false hlt) (Int.ofNat_lt.2 h)
    have : i = s.length := by omega
    subst this
    refine ⟨feedS a s s.length, feedFit (n := 4) (by omega) rfl rfl rfl rfl rfl rfl rfl (fun j _ => rfl) ?_, rfl, rfl⟩
    iterate 64 refine VwL.cons (by first | exact Vw.anyI | exact Vw.intI | exact Vw.strI | exact Vw.nilsI | exact Vw.ptrI (by decide) rfl | exact Vw.slI (by decide) rfl) ?_
    exact VwL.nil
end Go.Dc.Ka
