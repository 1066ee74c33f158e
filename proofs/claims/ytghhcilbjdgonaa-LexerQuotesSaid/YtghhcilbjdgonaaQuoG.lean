/- A value in quotes: behind the value. -/
import Derived.Test.YtghhcilbjdgonaaQuoE
set_option linter.unusedVariables false
set_option linter.unusedSimpArgs false
namespace Go.Dc.Kl
open Go.Proofs Go.RowKit
set_option maxRecDepth 100000
theorem v26eQ (R : Nat → RoRow) (q : Int) (u x : List UInt8) (fn j : Nat) (Q : AV → Rows → Prop) : vcd (base R) 1000 26 fi26 [.ptr false 0 0 0, .int .i64 0] (qeQ q u x fn j) Q = (bif decide (j + 6 + 0 < u.length + 6) then Q (AV.int IntKind.i64 (byteI u ((j + 0)))) [some (Row.lst 61 25 [AV.agg [AV.sl false 1 (j + 6) 1 Cp.no, AV.bool true, AV.int IntKind.i64 (↑(u.length + 6) : Int), AV.fn fn [] [], AV.nils, AV.nils, AV.int IntKind.i64 0, AV.str [], AV.int IntKind.i64 0, AV.int IntKind.i64 2, AV.int IntKind.i64 0, AV.int IntKind.i64 0, AV.str [112], AV.str [], AV.sl false 5 0 1 Cp.no, AV.bool false, AV.bool false, AV.sl false 3 0 1 Cp.no, AV.int IntKind.i64 3, AV.sl false 4 0 x.length Cp.no, AV.int IntKind.i64 q, AV.int IntKind.i64 0, AV.nilf, AV.bool false, AV.bool false]]), some (Row.gen 29 2 (u.length + 6) (FQ q u)), some (Row.lst 34 8 [AV.agg [AV.int IntKind.i64 0, AV.int IntKind.i64 0, AV.int IntKind.i64 0, AV.str [], AV.str [], AV.nils, AV.bool false, AV.bool false]]), none, none, some (Row.lst 38 2 [AV.agg [AV.str [97], AV.str x]])] else False) := by kernel_rfl
theorem vreQ (R : Nat → RoRow) (q : Int) (u x : List UInt8) (j : Nat) (sp : LoopSp) (K : Exit → St → Prop) : runL (envE R (qeQ q u x 91 j) (qeQ q u x 46 j)) 12 lp12 3 sp ⟨tm12, qeQ q u x 91 j⟩ K = (SameR [some (Row.lst 61 25 [AV.agg [AV.sl false 1 (j + 6) 1 Cp.no, AV.bool true, AV.int IntKind.i64 (↑(u.length + 6) : Int), AV.fn 91 [] [], AV.nils, AV.nils, AV.int IntKind.i64 0, AV.str [], AV.int IntKind.i64 0, AV.int IntKind.i64 2, AV.int IntKind.i64 0, AV.int IntKind.i64 0, AV.str [112], AV.str [], AV.sl false 5 0 1 Cp.no, AV.bool false, AV.bool false, AV.sl false 3 0 1 Cp.no, AV.int IntKind.i64 3, AV.sl false 4 0 x.length Cp.no, AV.int IntKind.i64 q, AV.int IntKind.i64 0, AV.nilf, AV.bool false, AV.bool false]]), some (Row.gen 29 2 (u.length + 6) (FQ q u)), some (Row.lst 34 8 [AV.agg [AV.int IntKind.i64 0, AV.int IntKind.i64 0, AV.int IntKind.i64 0, AV.str [], AV.str [], AV.nils, AV.bool false, AV.bool false]]), none, none, some (Row.lst 38 2 [AV.agg [AV.str [97], AV.str x]])] [some (Row.lst 61 25 [AV.agg [AV.sl false 1 (j + 6) 1 Cp.no, AV.bool true, AV.int IntKind.i64 (↑(u.length + 6) : Int), AV.fn 91 [] [], AV.nils, AV.nils, AV.int IntKind.i64 0, AV.str [], AV.int IntKind.i64 0, AV.int IntKind.i64 2, AV.int IntKind.i64 0, AV.int IntKind.i64 0, AV.str [112], AV.str [], AV.sl false 5 0 1 Cp.no, AV.bool false, AV.bool false, AV.sl false 3 0 1 Cp.no, AV.int IntKind.i64 3, AV.sl false 4 0 x.length Cp.no, AV.int IntKind.i64 q, AV.int IntKind.i64 0, AV.nilf, AV.bool false, AV.bool false]]), some (Row.gen 29 2 (u.length + 6) (FQ q u)), some (Row.lst 34 8 [AV.agg [AV.int IntKind.i64 0, AV.int IntKind.i64 0, AV.int IntKind.i64 0, AV.str [], AV.str [], AV.nils, AV.bool false, AV.bool false]]), none, none, some (Row.lst 38 2 [AV.agg [AV.str [97], AV.str x]])] ∧ SameR [some (Row.lst 61 25 [AV.agg [AV.sl false 1 (j + 6) 1 Cp.no, AV.bool true, AV.int IntKind.i64 (↑(u.length + 6) : Int), AV.fn 46 [] [], AV.nils, AV.nils, AV.int IntKind.i64 0, AV.str [], AV.int IntKind.i64 0, AV.int IntKind.i64 2, AV.int IntKind.i64 0, AV.int IntKind.i64 0, AV.str [112], AV.str [], AV.sl false 5 0 1 Cp.no, AV.bool false, AV.bool false, AV.sl false 3 0 1 Cp.no, AV.int IntKind.i64 3, AV.sl false 4 0 x.length Cp.no, AV.int IntKind.i64 q, AV.int IntKind.i64 0, AV.nilf, AV.bool false, AV.bool false]]), some (Row.gen 29 2 (u.length + 6) (FQ q u)), some (Row.lst 34 8 [AV.agg [AV.int IntKind.i64 0, AV.int IntKind.i64 0, AV.int IntKind.i64 0, AV.str [], AV.str [], AV.nils, AV.bool false, AV.bool false]]), none, none, some (Row.lst 38 2 [AV.agg [AV.str [97], AV.str x]])] [some (Row.lst 61 25 [AV.agg [AV.sl false 1 (j + 6) 1 Cp.no, AV.bool true, AV.int IntKind.i64 (↑(u.length + 6) : Int), AV.fn 46 [] [], AV.nils, AV.nils, AV.int IntKind.i64 0, AV.str [], AV.int IntKind.i64 0, AV.int IntKind.i64 2, AV.int IntKind.i64 0, AV.int IntKind.i64 0, AV.str [112], AV.str [], AV.sl false 5 0 1 Cp.no, AV.bool false, AV.bool false, AV.sl false 3 0 1 Cp.no, AV.int IntKind.i64 3, AV.sl false 4 0 x.length Cp.no, AV.int IntKind.i64 q, AV.int IntKind.i64 0, AV.nilf, AV.bool false, AV.bool false]]), some (Row.gen 29 2 (u.length + 6) (FQ q u)), some (Row.lst 34 8 [AV.agg [AV.int IntKind.i64 0, AV.int IntKind.i64 0, AV.int IntKind.i64 0, AV.str [], AV.str [], AV.nils, AV.bool false, AV.bool false]]), none, none, some (Row.lst 38 2 [AV.agg [AV.str [97], AV.str x]])] ∧ AV.nils = AV.nils ∧ K (Exit.exit 0) (St.mk [AV.ptr false 0 0 0, AV.any, AV.ptr false 2 0 0, AV.bool false, AV.fn 18 [] [], AV.any, AV.any, AV.any, AV.any, AV.ptr false 0 0 0, AV.ptr false 0 0 0, AV.ptr false 0 0 4, AV.sl false 8 0 1 Cp.no, AV.int IntKind.i64 1, AV.bool false, AV.ptr false 0 0 0, AV.ptr false 0 0 0, AV.ptr false 0 0 3, AV.fn 46 [] [], AV.ptr false 0 0 0, AV.fn 18 [] [], AV.fn 18 [] [], AV.bool false, AV.any, AV.ptr false 0 0 0, AV.fn 18 [] [], AV.ptr false 0 0 0, AV.ptr false 0 0 3, AV.any, AV.any, AV.any, AV.any, AV.any, AV.any, AV.any, AV.any, AV.any, AV.any, AV.any, AV.any, AV.any, AV.any, AV.any] [some (Row.lst 61 25 [AV.agg [AV.sl false 1 (j + 6 + 1) 0 Cp.no, AV.bool true, AV.int IntKind.i64 (↑(u.length + 6) : Int), AV.fn 18 [] [], AV.sl false 8 0 1 Cp.no, AV.nils, AV.int IntKind.i64 0, AV.str [], AV.int IntKind.i64 0, AV.int IntKind.i64 2, AV.int IntKind.i64 0, AV.int IntKind.i64 0, AV.str [112], AV.str [], AV.sl false 5 0 1 Cp.no, AV.bool false, AV.bool false, AV.sl false 3 0 1 Cp.no, AV.int IntKind.i64 3, AV.sl false 4 0 x.length Cp.no, AV.int IntKind.i64 q, AV.int IntKind.i64 0, AV.nilf, AV.bool false, AV.bool false]]), some (Row.gen 29 2 (u.length + 6) (FQ q u)), some (Row.lst 34 8 [AV.agg [AV.int IntKind.i64 0, AV.int IntKind.i64 0, AV.int IntKind.i64 0, AV.str [], AV.str [], AV.nils, AV.bool false, AV.bool false]]), none, none, some (Row.lst 38 2 [AV.agg [AV.str [97], AV.str x]]), some (Row.lst 34 8 [AV.agg [AV.int IntKind.i64 2, AV.int IntKind.i64 0, AV.int IntKind.i64 0, AV.str [112], AV.str [], AV.sl false 5 0 1 Cp.no, AV.bool false, AV.bool false]]), some (Row.lst 34 8 [AV.agg [AV.int IntKind.i64 2, AV.int IntKind.i64 0, AV.int IntKind.i64 0, AV.str [112], AV.str [], AV.sl false 5 0 1 Cp.no, AV.bool false, AV.bool false]]), some (Row.lst 34 8 [AV.agg [AV.int IntKind.i64 2, AV.int IntKind.i64 0, AV.int IntKind.i64 0, AV.str [112], AV.str [], AV.sl false 5 0 1 Cp.no, AV.bool false, AV.bool false]])])) := by kernel_rfl
theorem vw25 {f : Nat → Option Nat} {N : Nat} {x y : List AV} (h : VwL f N x y) : Vw f N (.agg x) (.agg y) := .aggI h
def mpE (r : Nat) : Nat → Option Nat := mvR 5 r
theorem fitE {lo len : Nat} {e : Int} {fn : Nat} {q : Int} {n : Nat} {F : Nat → AV} {x : List UInt8} {T : List AV} {h : Rows} {lo' len' r : Nat} (hF : ∀ j, gnd (F j) = true) (hF1 : ∀ j, ones (F j) = true)
    (hr : 5 ≤ r) (hlo : lo' = lo) (hln : len' = len)
    (h0 : h[0]? = some (some (.lst 61 25 [.agg [.sl false 1 lo' len' .no, .bool true, .int .i64 e, .fn fn [] [], .nils, .nils, .int .i64 0, .str [], .int .i64 0, .int .i64 2, .int .i64 0, .int .i64 0, .str [112], .str [], .sl false r 0 1 .no, .bool false, .bool false, .sl false 3 0 1 .no, .int .i64 3, .sl false 4 0 x.length .no, .int .i64 q, .int .i64 0, .nilf, .bool false, .bool false]])))
    (h1 : h[1]? = some (some (.gen 29 2 n F))) (h2 : h[2]? = some tok0) (h3 : h[3]? = some nameR) (h4 : h[4]? = some (some (.byt 5 x))) (h5 : h[r]? = some (attR x))
    (hT : VwL (mvR 5 r) 6 tm12 T) : Fit 3 ⟨tm12, [lexE2 lo len e fn x.length q, some (.gen 29 2 n F), tok0, none, none, attR x]⟩ ⟨T, h⟩ := by
  subst hlo; subst hln
  have l3 : 3 < h.length := (List.getElem?_eq_some_iff.1 h3).1
  have l4 : 4 < h.length := (List.getElem?_eq_some_iff.1 h4).1
  refine ⟨mvR 5 r, ⟨View.of ?_ (mvR_inj (by show 6 ≤ _; omega) (by show 6 ≤ _; omega)), hT⟩, mvR_lt (by omega), by show 3 ≤ 6; omega⟩
  intro c o ho
  have hc : c < 6 := (List.getElem?_eq_some_iff.1 ho).1
  show ViewL (mvR 5 r) 6 h c o
  rcases (by omega : c = 0 ∨ c = 1 ∨ c = 2 ∨ c = 3 ∨ c = 4 ∨ c = 5) with rfl | rfl | rfl | rfl | rfl | rfl
  · cases ho
    refine ViewL.at_ (b := 0) rfl h0 (.lst1 rfl (.aggI ?_))
    iterate 25 refine VwL.cons (by first | exact Vw.slI (by decide) rfl | exact Vw.gndI rfl) ?_
    exact VwL.nil
  · cases ho
    exact ViewL.at_ (b := 1) rfl h1 (.gen rfl fun i hi => ⟨hF1 i, gnd_vw _ _ _ (hF i)⟩)
  · cases ho
    exact ViewL.at_ (b := 2) rfl h2 (.gnd rfl rfl)
  · cases ho
    exact ViewL.goneR (b := 3) rfl l3
  · cases ho
    exact ViewL.goneR (b := 4) rfl l4
  · cases ho
    exact ViewL.at_ (b := r) rfl h5 (.gnd rfl rfl)
/-- At the beginning of the value. -/
def mp0 : Nat → Option Nat := fun c => bif Nat.beq c 3 then some 6 else bif Nat.beq c 4 then none else some c
theorem fitG0 {q : Int} {u : List UInt8} {T : List AV} {h : Rows}
    (h0 : h[0]? = some (lexV 6 u.length (u.length + 6 : Nat) 85 (.sl false 6 0 1 .no) 3 .nils q)) (h1 : h[1]? = some (some (.gen 29 2 (u.length + 6) (FQ q u)))) (h2 : h[2]? = some tok0) (h6 : h[6]? = some nameR)
    (hT : VwL mp0 5 tm12 T) : Fit 3 ⟨tm12, q85 q u [] 0⟩ ⟨T, h⟩ := by
  refine ⟨mp0, ⟨View.of ?_ ?_, hT⟩, fun c hc => ?_, by show 3 ≤ 5; omega⟩
  · intro c o ho
    have hc : c < 5 := (List.getElem?_eq_some_iff.1 ho).1
    show ViewL mp0 5 h c o
    rcases (by omega : c = 0 ∨ c = 1 ∨ c = 2 ∨ c = 3 ∨ c = 4) with rfl | rfl | rfl | rfl | rfl
    · cases ho
      refine ViewL.at_ (b := 0) rfl h0 (.lst1 rfl (.aggI ?_))
      iterate 25 refine VwL.cons (by first | exact Vw.slI (by decide) rfl | exact Vw.slN (by decide) rfl | exact Vw.gndI rfl) ?_
      exact VwL.nil
    · cases ho
      exact ViewL.at_ (b := 1) rfl h1 (.gen rfl fun i hi => ⟨ones_FQ q u i, gnd_vw _ _ _ (gnd_FQ q u i)⟩)
    · cases ho
      exact ViewL.at_ (b := 2) rfl h2 (.gnd rfl rfl)
    · cases ho
      exact ViewL.at_ (b := 6) rfl h6 (.gnd rfl rfl)
    · cases ho
      exact ViewL.void rfl rfl
  · exact inj_of (N := 5) (by decide)
  · rcases (by omega : c = 0 ∨ c = 1 ∨ c = 2) with rfl | rfl | rfl <;> rfl
theorem specE_ok {R : Nat → RoRow} {h91 h46 : Rows} (h1 : SafeCall Try.prog R 26 [.ptr false 0 0 0, .int .i64 0] h91 fun v h => v = .int .i64 62 ∧ h = h91) (h2 : SafeCall Try.prog R 26 [.ptr false 0 0 0, .int .i64 0] h46 fun v h => v = .int .i64 62 ∧ h = h46) : ∀ args h k, specE h91 h46 args h k → SafeCall Try.prog R 26 args h k := by
  intro args h k hk
  unfold specE at hk
  split at hk
  · exact same_ok h1 hk
  · exact same_ok h2 hk
  · exact hk.no.elim
theorem ahE (R : Nat → RoRow) (q : Int) (u x : List UInt8) (fn j : Nat) (hj : byteI u j = 62) (hl : j < u.length) : SafeCall Try.prog R 26 [.ptr false 0 0 0, .int .i64 0] (qeQ q u x fn j) fun v h => v = .int .i64 62 ∧ h = qeQ q u x fn j := by
  refine byVcd (base_ok R) (f := 26) (fi := fi26) (by kernel_rfl) 1000 (v26eQ R q u x fn j _) ?_
  have hj' : byteI u (j + 0) = 62 := hj
  repeat' (first | exact ⟨by rw [hj'], rfl⟩ | refine hcT (decide_eq_true (by omega)) ?_)
abbrev tokQ : Option Row := some (.lst 34 8 [.agg [.int .i64 2, .int .i64 0, .int .i64 0, .str [112], .str [], .sl false 5 0 1 .no, .bool false, .bool false]])
/-- When the tag is told. -/
def qfQ (q : Int) (u x : List UInt8) (j : Nat) : Rows := [some (.lst 61 25 [.agg [.sl false 1 (j + 6 + 1) 0 .no, .bool true, .int .i64 (u.length + 6 : Nat), .fn 18 [] [], .sl false 6 0 1 .no, .nils, .int .i64 0, .str [], .int .i64 0, .int .i64 2, .int .i64 0, .int .i64 0, .str [112], .str [], .sl false 5 0 1 .no, .bool false, .bool false, .sl false 3 0 1 .no, .int .i64 3, .sl false 4 0 x.length .no, .int .i64 q, .int .i64 0, .nilf, .bool false, .bool false]]), some (.gen 29 2 (u.length + 6) (FQ q u)), tok0, none, none, attR x, tokQ]
theorem finQ (R : Nat → RoRow) (q : Int) (u x : List UInt8) (j : Nat) (hj : byteI u j = 62) (hl : j < u.length) : SafeL Try.prog R 3 lp12 ⟨tm12, qeQ q u x 91 j⟩ fun e st' => e = .exit 0 ∧ Fit 3 ⟨tm12, qfQ q u x j⟩ st' := by
  refine runL_ok mixed ((base_ok R).addCall (f := 26) (fi := fi26) (by kernel_rfl) (specE_ok (ahE R q u x 91 j hj hl) (ahE R q u x 46 j hj hl))) (f := 12) (fi := fi12) (by kernel_rfl) blk12 (subs_loop _) (sp := fun st k => SafeL Try.prog R 3 lp12 st k) (fun _ _ h => h) 3 _ _ ?_
  rw [vreQ]
  refine ⟨⟨rfl⟩, ⟨rfl⟩, rfl, rfl, mvR 6 8, ⟨View.of ?_ (mvR_inj (by show 7 ≤ _; omega) (by show 7 ≤ _; omega)), ?_⟩, mvR_lt (by omega), by show 3 ≤ 7; omega⟩
  · intro c o ho
    have hc : c < 7 := (List.getElem?_eq_some_iff.1 ho).1
    show ViewL (mvR 6 8) 7 _ c o
    rcases (by omega : c = 0 ∨ c = 1 ∨ c = 2 ∨ c = 3 ∨ c = 4 ∨ c = 5 ∨ c = 6) with rfl | rfl | rfl | rfl | rfl | rfl | rfl
    · cases ho
      refine ViewL.at_ (b := 0) rfl rfl (.lst1 rfl (.aggI ?_))
      iterate 25 refine VwL.cons (by first | exact Vw.slI (by decide) rfl | exact Vw.gndI rfl) ?_
      exact VwL.nil
    · cases ho
      exact ViewL.at_ (b := 1) rfl rfl (.gen rfl fun i hi => ⟨ones_FQ q u i, gnd_vw _ _ _ (gnd_FQ q u i)⟩)
    · cases ho
      exact ViewL.at_ (b := 2) rfl rfl (.gnd rfl rfl)
    · cases ho
      exact ViewL.goneR (b := 3) rfl (by show 3 < 9; decide)
    · cases ho
      exact ViewL.goneR (b := 4) rfl (by show 4 < 9; decide)
    · cases ho
      exact ViewL.at_ (b := 5) rfl rfl (.gnd rfl rfl)
    · cases ho
      refine ViewL.at_ (b := 8) rfl rfl (.lst1 rfl (.aggI ?_))
      iterate 8 refine VwL.cons (by first | exact Vw.slI (by decide) rfl | exact Vw.gndI rfl) ?_
      exact VwL.nil
  · show VwL (mvR 6 8) 7 tm12 _
    rw [tm12_spr]
    exact VwL.ofKnown rfl ⟨Vw.ptrI (by decide) rfl, Vw.ptrI (by decide) rfl, Vw.boolI, trivial⟩
end Go.Dc.Kl
