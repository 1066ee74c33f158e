/- Longest: what it answers to any text. -/
import Derived.Test.YtebgogcdndmaaaaChM
set_option linter.unusedVariables false
set_option linter.unusedSimpArgs false
namespace Go.Dc.Ka
open Go.Proofs Go.RowKit
set_option maxRecDepth 100000
noncomputable def lfrom (s : List UInt8) : Nat → Option Nat
  | 0 => none
  | n + 1 => bif findB (s.take (n + 1)) then some (findI (s.take (n + 1))) else lfrom s n
noncomputable def lf (s : List UInt8) : Option Nat := lfrom s (min 14 s.length)
theorem findI_lt {s : List UInt8} (h : findB s = true) : findI s < 109 := by
  unfold findB at h
  cases hb : Nat.blt (findI s) 109 with
  | false => rw [hb] at h; simp at h
  | true => simpa [Nat.blt_eq] using hb
theorem pre_eq (s : List UInt8) (n : Nat) : pre s n = s.take n := by
  simp [pre, slHi]
theorem viewG : View some (tabRowsG 0) (tabRowsG 0) := by
  have hG : (tabRowsG 0).length = 110 := by kernel_rfl
  have hm : (tab.map fun e => some (Row.lst 3 1 (e.2.map (AV.int .i64)))).length = 109 := by rw [List.length_map, tab_len]
  refine View.of ?_ (fun c c' b _ _ h1 h2 => by simp at h1 h2; omega)
  intro c o ho
  have ho' := ho
  have hc : c < 110 := by rw [← hG]; exact (List.getElem?_eq_some_iff.1 ho).1
  rw [hG]
  rcases (by omega : c < 109 ∨ c = 109) with h | rfl
  · unfold tabRowsG at ho
    rw [List.getElem?_append_left (by rw [hm]; exact h), List.getElem?_map] at ho
    obtain ⟨e, he, rfl⟩ := Option.map_eq_some_iff.1 ho
    exact ViewL.at_ (b := c) rfl ho' (gndInts _ _ _)
  · unfold tabRowsG at ho
    rw [List.getElem?_append_right (by rw [hm]; exact Nat.le_refl _), hm] at ho
    cases ho
    refine ViewL.at_ (b := 109) rfl ho' (.gen rfl fun i hi => ⟨by simp [ones, tabG, AV.cells, AV.one], ?_⟩)
    exact .aggI (.cons .strI (.cons (.slI (by omega) rfl) .nil))
noncomputable def retS (i : Nat) : St := ⟨[.any, .any, .str (nameAt i), .sl false i 0 (scAt i).length true] ++ List.replicate 47 .any, tabRowsG 0⟩
theorem fitG {T T' : List AV} (h : VwL some 110 T T') : Fit 110 ⟨T, tabRowsG 0⟩ ⟨T', tabRowsG 0⟩ := by
  have hG : (tabRowsG 0).length = 110 := by kernel_rfl
  exact ⟨some, ⟨viewG, by show VwL some (tabRowsG 0).length T T'; rw [hG]; exact h⟩, fun c hc => rfl, by show 110 ≤ (tabRowsG 0).length; rw [hG]; exact Nat.le_refl _⟩
theorem loopRound (R : Nat → RoRow) (s : List UInt8) (n : {n : Nat // n ≤ 14 ∧ n ≤ s.length ∧ lfrom s n = lf s}) :
    Safe Try.prog R (loopOf fi21 2) (fam2 s n.1) fun e st' => match e with
      | .normal => ∃ n' : {n : Nat // n ≤ 14 ∧ n ≤ s.length ∧ lfrom s n = lf s}, n'.1 < n.1 ∧ Fit 110 (fam2 s n'.1) st'
      | e => ∃ stE, Fit 110 stE st' ∧ ((e = .exit 2 ∧ lf s = none ∧ stE = fam2 s 0) ∨ (e = .ret ∧ ∃ i, lf s = some i ∧ stE = retS i)) := by
  obtain ⟨n, hn1, hn2, hn3⟩ := n
  show Safe Try.prog R (loopOf fi21 2) (fam2 s n) _
  refine Safe.rnd mixed (env21_ok R) (f := 21) (fi := fi21) (i := 2) (b := .loop (loopOf fi21 2)) (by kernel_rfl) (by kernel_rfl) (by kernel_rfl) 1000 ?_
  rw [round2, pre_eq]
  refine hcond (fun hp => ?_) (fun hp => ?_)
  · obtain ⟨m, rfl⟩ : ∃ m, n = m + 1 := ⟨n - 1, by have := of_decide_eq_true hp; omega⟩
    have hlf : (bif findB (s.take (m + 1)) then some (findI (s.take (m + 1))) else lfrom s m) = lf s := hn3
    refine hcond (fun _ => ?_) (fun h => by exfalso; simp [slCond] at h; omega)
    refine ⟨rfl, ?_⟩
    refine hcond (fun hB => ?_) (fun hB => ?_)
    · have hI := findI_lt hB
      rw [hB] at hlf
      simp only [cond_true] at hlf
      have e1 : (0 + (0 + ((findI (s.take (m + 1)) : Nat) : Int).toNat)) = findI (s.take (m + 1)) := by simp
      have e2 : (0 + ((findI (s.take (m + 1)) : Nat) : Int).toNat) = findI (s.take (m + 1)) := by simp
      rw [e1, e2]
      refine hcond (fun _ => ?_) (fun h => by exfalso; simp at h; omega)
      refine hcond (fun _ => ?_) (fun h => by exfalso; simp at h; omega)
      refine hcond (fun _ => ?_) (fun h => by exfalso; simp at h; omega)
      refine hcond (fun _ => ?_) (fun h => by exfalso; simp at h; omega)
      refine hcond (fun _ => ?_) (fun h => by exfalso; simp at h; omega)
      refine ⟨rfl, hcond (fun _ => ?_) (fun h => by exfalso; simp at h; omega)⟩
      refine ⟨rfl, retS (findI (s.take (m + 1))), fitG ?_, .inr ⟨rfl, _, hlf.symm, rfl⟩⟩
      iterate 51 refine VwL.cons (by first | exact Vw.anyI | exact Vw.intI | exact Vw.strI | exact Vw.nilsI | exact Vw.slI (by omega) rfl) ?_
      exact VwL.nil
    · rw [hB] at hlf
      simp only [cond_false] at hlf
      have hw : IntKind.i64.wrap (((m + 1 : Nat) : Int) - 1) = (m : Int) := by rw [wrap64 (((m + 1 : Nat) : Int) - 1) (by omega) (by omega)]; omega
      rw [hw]
      refine ⟨⟨m, by omega, by omega, hlf⟩, by show m < m + 1; omega, fitG ?_⟩
      iterate 51 refine VwL.cons (by first | exact Vw.anyI | exact Vw.intI | exact Vw.strI | exact Vw.nilsI | exact Vw.slI (by omega) rfl) ?_
      exact VwL.nil
  · obtain rfl : n = 0 := by have := of_decide_eq_false hp; omega
    refine ⟨fam2 s 0, fitG ?_, .inl ⟨rfl, hn3.symm, rfl⟩⟩
    iterate 51 refine VwL.cons (by first | exact Vw.anyI | exact Vw.intI | exact Vw.strI | exact Vw.nilsI | exact Vw.slI (by omega) rfl) ?_
    exact VwL.nil
end Go.Dc.Ka
