/- A value in quotes: the scalars of a text, the loop. -/
import Derived.Test.YtghhcilbjdgonaaQuoK
set_option linter.unusedVariables false
set_option linter.unusedSimpArgs false
namespace Go.Dc.Kl
open Go.Proofs Go.RowKit
set_option maxRecDepth 100000
theorem vr3d (R : Nat → RoRow) (a b c v w : List UInt8) (i : Nat) (m : Int) (K : Exit → St → Prop) : rnd (base R) 1000 3 lp3d ⟨tm3d v w i m, rows3d a b c w i⟩ K = (bif decide ((↑i : Int) < (↑w.length : Int)) then bif true && decide ((↑i : Int) < (↑w.length : Int)) then bif decide (0 + i ≤ i) && (true && (true && decide (((Src.gen i fun j => rA w (0 + j)).len + 1) * 16 ≤ 140737488355328))) then K Exit.normal (St.mk [AV.any, AV.any, AV.any, AV.str v, AV.any, AV.any, AV.any, AV.str w, AV.ptr false 1 0 0, AV.sl false 4 0 ((Src.gen i fun j => rA w (0 + j)).len + 1) Cp.no, AV.int IntKind.i64 (IntKind.i64.wrap ((↑i : Int) + 1)), AV.any, AV.any, AV.any, AV.any, AV.any, AV.any, AV.any, AV.any, AV.any, AV.any, AV.any, AV.any, AV.any, AV.any, AV.any, AV.any, AV.any, AV.any, AV.any, AV.any, AV.any, AV.any, AV.any, AV.any, AV.any, AV.any, AV.any, AV.any, AV.any, AV.any, AV.any, AV.any, AV.any, AV.any, AV.any, AV.any, AV.any, AV.any, AV.any, AV.any, AV.any, AV.any, AV.any, AV.any, AV.any, AV.any, AV.any, AV.any, AV.any, AV.any, AV.any, AV.any, AV.any, AV.any, AV.any, AV.any, AV.any, AV.any, AV.any, AV.any, AV.any, AV.any, AV.any, AV.any, AV.any, AV.any, AV.sl false 0 0 3 Cp.tight, AV.int IntKind.i64 3, AV.int IntKind.i64 m, AV.any, AV.any, AV.any, AV.any, AV.any, AV.any, AV.any, AV.any, AV.any, AV.any, AV.int IntKind.i64 (↑i : Int), AV.str w, AV.int IntKind.i64 (↑w.length : Int), AV.bool true, AV.int IntKind.i64 (↑i : Int), AV.int IntKind.i64 (IntKind.i64.wrap ((↑i : Int) + 1)), AV.sl false 2 0 i Cp.no, AV.str w, AV.int IntKind.i64 (↑i : Int), AV.int IntKind.u8 (↑(w.getD (↑i : Int).toNat 0).toNat : Int), AV.int IntKind.i64 (IntKind.i64.wrap (↑(w.getD (↑i : Int).toNat 0).toNat : Int)), AV.int IntKind.i64 (↑i : Int), AV.agg [AV.int IntKind.i64 (IntKind.i64.wrap (↑(w.getD (↑i : Int).toNat 0).toNat : Int)), AV.int IntKind.i64 (↑i : Int)], AV.sl false 3 0 1 Cp.tight, AV.sl false 4 0 ((Src.gen i fun j => rA w (0 + j)).len + 1) Cp.no, AV.any, AV.any, AV.any, AV.any, AV.any, AV.any, AV.any, AV.any, AV.any, AV.any, AV.any, AV.any, AV.any, AV.any, AV.any, AV.any, AV.any, AV.any, AV.any, AV.any, AV.any, AV.any, AV.any, AV.any, AV.any, AV.any, AV.any, AV.any, AV.any, AV.any, AV.any, AV.any, AV.any, AV.any, AV.any, AV.any, AV.any, AV.any, AV.any, AV.any, AV.any, AV.any, AV.any, AV.any, AV.any] [some (Row.lst 9 1 [AV.str a, AV.str b, AV.str c]), some (Row.lst 61 25 [AV.agg [AV.nils, AV.bool false, AV.int IntKind.i64 0, AV.fn 18 [] [], AV.nils, AV.nils, AV.int IntKind.i64 0, AV.str [], AV.int IntKind.i64 0, AV.int IntKind.i64 0, AV.int IntKind.i64 0, AV.int IntKind.i64 0, AV.str [], AV.str [], AV.nils, AV.bool false, AV.bool false, AV.nils, AV.int IntKind.i64 0, AV.nils, AV.int IntKind.i64 0, AV.int IntKind.i64 0, AV.nilf, AV.bool false, AV.bool false]]), none, some (Row.lst 29 2 [AV.agg [AV.int IntKind.i64 (IntKind.i64.wrap (↑(w.getD (↑i : Int).toNat 0).toNat : Int)), AV.int IntKind.i64 (↑i : Int)]]), some (Row.gen 29 2 ((Src.gen i fun j => rA w (0 + j)).len + 1) fun j => bif j.blt (Src.gen i fun j => rA w (0 + j)).len then AV.agg [AV.int IntKind.i64 (byteI w (0 + j)), AV.int IntKind.i64 (↑(0 + j) : Int)] else (Src.lst [AV.agg [AV.int IntKind.i64 (IntKind.i64.wrap (↑(w.getD (↑i : Int).toNat 0).toNat : Int)), AV.int IntKind.i64 (↑i : Int)]]).at_ (j - (Src.gen i fun j => rA w (0 + j)).len))]) else False else False else K (Exit.exit 4) (St.mk [AV.any, AV.any, AV.any, AV.str v, AV.any, AV.any, AV.any, AV.str w, AV.ptr false 1 0 0, AV.sl false 2 0 i Cp.no, AV.int IntKind.i64 (↑i : Int), AV.any, AV.any, AV.any, AV.any, AV.any, AV.any, AV.any, AV.any, AV.any, AV.any, AV.any, AV.any, AV.any, AV.any, AV.any, AV.any, AV.any, AV.any, AV.any, AV.any, AV.any, AV.any, AV.any, AV.any, AV.any, AV.any, AV.any, AV.any, AV.any, AV.any, AV.any, AV.any, AV.any, AV.any, AV.any, AV.any, AV.any, AV.any, AV.any, AV.any, AV.any, AV.any, AV.any, AV.any, AV.any, AV.any, AV.any, AV.any, AV.any, AV.any, AV.any, AV.any, AV.any, AV.any, AV.any, AV.any, AV.any, AV.any, AV.any, AV.any, AV.any, AV.any, AV.any, AV.any, AV.any, AV.any, AV.sl false 0 0 3 Cp.tight, AV.int IntKind.i64 3, AV.int IntKind.i64 m, AV.any, AV.any, AV.any, AV.any, AV.any, AV.any, AV.any, AV.any, AV.any, AV.any, AV.int IntKind.i64 (↑i : Int), AV.str w, AV.int IntKind.i64 (↑w.length : Int), AV.bool false, AV.any, AV.any, AV.any, AV.any, AV.any, AV.any, AV.any, AV.any, AV.any, AV.any, AV.any, AV.any, AV.any, AV.any, AV.any, AV.any, AV.any, AV.any, AV.any, AV.any, AV.any, AV.any, AV.any, AV.any, AV.any, AV.any, AV.any, AV.any, AV.any, AV.any, AV.any, AV.any, AV.any, AV.any, AV.any, AV.any, AV.any, AV.any, AV.any, AV.any, AV.any, AV.any, AV.any, AV.any, AV.any, AV.any, AV.any, AV.any, AV.any, AV.any, AV.any, AV.any, AV.any, AV.any, AV.any, AV.any] [some (Row.lst 9 1 [AV.str a, AV.str b, AV.str c]), some (Row.lst 61 25 [AV.agg [AV.nils, AV.bool false, AV.int IntKind.i64 0, AV.fn 18 [] [], AV.nils, AV.nils, AV.int IntKind.i64 0, AV.str [], AV.int IntKind.i64 0, AV.int IntKind.i64 0, AV.int IntKind.i64 0, AV.int IntKind.i64 0, AV.str [], AV.str [], AV.nils, AV.bool false, AV.bool false, AV.nils, AV.int IntKind.i64 0, AV.nils, AV.int IntKind.i64 0, AV.int IntKind.i64 0, AV.nilf, AV.bool false, AV.bool false]]), some (Row.gen 29 2 i fun j => rune (byteI w j) (↑j : Int))])) := by kernel_rfl
theorem gnds {f : Nat → Option Nat} {n t z : Nat} {l : List AV} (h : ∀ e ∈ l, ones e = true ∧ gnd e = true) : RowV f n (.lst t z l) (.lst t z l) where
  ty := rfl
  esz := rfl
  len := rfl
  get := fun i x hx => by
    have hm : x ∈ l := List.mem_of_getElem? hx
    exact ⟨fun a ha => by have := (h x hm).1; unfold ones at this; exact List.all_eq_true.1 this a ha, x, hx, gnd_vw f n x (h x hm).2⟩
theorem strs_ok {f : Nat → Option Nat} {n : Nat} (a b c : List UInt8) : RowV f n (.lst 9 1 [.str a, .str b, .str c]) (.lst 9 1 [.str a, .str b, .str c]) := gnds (fun e he => by
  simp only [List.mem_cons, List.not_mem_nil, or_false] at he
  rcases he with rfl | rfl | rfl <;> exact ⟨rfl, rfl⟩)
noncomputable def fam3d (a b c v w : List UInt8) (m : Int) (i : Nat) : St := ⟨tm3d v w i m, rows3d a b c w i⟩
theorem fit3d {a b c v w : List UInt8} {m : Int} {i : Nat} {T : List AV} {h : Rows} {q len : Nat} {g : Nat → AV} (hq : 2 ≤ q) (hlen : len = i)
    (h0 : h[0]? = some (strs a b c)) (h1 : h[1]? = some (lexR .nils false 0 .nils 0 [])) (h2 : h[q]? = some (some (.gen 29 2 len g))) (hg : ∀ j, j < i → g j = rA w j)
    (hT : VwL (mvR 2 q) 3 (tm3d v w i m) T) : Fit 2 (fam3d a b c v w m i) ⟨T, h⟩ := by
  subst hlen
  refine ⟨mvR 2 q, ⟨View.of ?_ (mvR_inj (by show 3 ≤ _; omega) (by show 3 ≤ _; omega)), hT⟩, mvR_lt (by omega), by show 2 ≤ 3; omega⟩
  intro c' o ho
  have hc : c' < 3 := (List.getElem?_eq_some_iff.1 ho).1
  show ViewL (mvR 2 q) 3 h c' o
  rcases (by omega : c' = 0 ∨ c' = 1 ∨ c' = 2) with rfl | rfl | rfl
  · cases ho; exact ViewL.at_ (b := 0) rfl h0 (strs_ok a b c)
  · cases ho; exact ViewL.at_ (b := 1) rfl h1 (.gnd rfl rfl)
  · cases ho; exact ViewL.at_ (b := q) rfl h2 (gen_plain hg (fun _ => rfl) fun _ => rfl)
theorem round3d (R : Nat → RoRow) (a b c v w : List UInt8) (m : Int) (hw5 : w.length ≤ 5000) (i : {i : Nat // i ≤ w.length}) :
    Safe Try.prog R lp3d (fam3d a b c v w m i.1) fun e st' => match e with
      | .normal => ∃ i' : {i : Nat // i ≤ w.length}, w.length - i'.1 < w.length - i.1 ∧ Fit 2 (fam3d a b c v w m i'.1) st'
      | e => ∃ stE, Fit 2 stE st' ∧ (e = .exit 4 ∧ stE = fam3d a b c v w m w.length) := by
  obtain ⟨i, hi⟩ := i
  refine byRnd (base_ok R) (f := 3) (fi := fi3) (by kernel_rfl) blk3d 1000 (vr3d R a b c v w i m _) ?_
  have eB : ((w.getD (i : Int).toNat 0).toNat : Int) = byteI w i := by simp [byteI]
  have hw : IntKind.i64.wrap ((i : Int) + 1) = ((i + 1 : Nat) : Int) := wrapSucc i (by omega)
  have hB : IntKind.i64.wrap (byteI w i) = byteI w i := wrapI64 _ (by have := byteI_lo w i; omega) (by have := (w.getD i 0).toNat_lt; unfold byteI; omega)
  rw [eB, hw, hB]
  refine hcB (fun hlt => ?_) (fun hlt => ?_)
  · have hlt' : i < w.length := Int.ofNat_lt.1 (of_decide_eq_true hlt)
    refine hcT (by simp; omega) ?_
    refine hcT (by show (decide (0 + i ≤ i) && (true && (true && decide ((i + 1) * 16 ≤ 140737488355328)))) = true; simp; omega) ?_
    refine ⟨⟨i + 1, by omega⟩, by show w.length - (i + 1) < w.length - i; omega, fit3d (q := 4) (by omega) rfl rfl rfl rfl ?_ ?_⟩
    · intro j hj
      exact app_gen (n := i) (F := fun j => rune (byteI w j) (j : Int)) (G := rA w) (fun j _ => by rw [Nat.zero_add]; rfl) rfl j hj
    · rw [tm3d_spr]
      exact VwL.ofKnown rfl ⟨Vw.strI, Vw.strI, Vw.ptrI (by decide) rfl, Vw.slI (by decide) rfl, Vw.intI, Vw.slI (by decide) rfl, Vw.intI, Vw.intI, trivial⟩
  · have hlt' : ¬ i < w.length := fun h => (of_decide_eq_false hlt) (Int.ofNat_lt.2 h)
    have : i = w.length := by omega
    subst this
    refine ⟨fam3d a b c v w m w.length, fit3d (q := 2) (by omega) rfl rfl rfl rfl (fun j _ => rfl) ?_, rfl, rfl⟩
    rw [tm3d_spr]
    exact VwL.ofKnown rfl ⟨Vw.strI, Vw.strI, Vw.ptrI (by decide) rfl, Vw.slI (by decide) rfl, Vw.intI, Vw.slI (by decide) rfl, Vw.intI, Vw.intI, trivial⟩
def r3s (a b c : List UInt8) : Rows := [strs a b c, lexR .nils false 0 .nils 0 []]
theorem spec3d_ok (R : Nat → RoRow) (a b c : List UInt8) : ∀ st k, spec3d a b c st k → Safe Try.prog R (.block 4 (.loop lp3d)) st k := by
  rintro ⟨T0, H0⟩ k hk
  unfold spec3d at hk
  split at hk
  · rename_i w v m e7 e3 e79
    obtain ⟨⟨h8, h9, h10, h77, h78, hl, ⟨hh⟩, ⟨hw5⟩⟩, hk⟩ := hk
    have hh : H0 = r3s a b c := hh
    subst hh
    have hT : VwL (upR 2) 3 (tm3d v w 0 m) T0 := by
      rw [tm3d_spr]
      refine VwL.ofKnown hl ⟨?_, ?_, ?_, ?_, ?_, ?_, ?_, ?_, trivial⟩
      · rw [e3]; exact Vw.strI
      · rw [e7]; exact Vw.strI
      · rw [h8]; exact Vw.ptrI (by decide) rfl
      · rw [h9]; exact Vw.slN (by decide) rfl
      · rw [h10]; exact Vw.intI
      · rw [h77]; exact Vw.slI (by decide) rfl
      · rw [h78]; exact Vw.intI
      · rw [e79]; exact Vw.intI
    have hV : StV (upR 2) (fam3d a b c v w m 0) ⟨T0, r3s a b c⟩ := by
      refine ⟨View.of ?_ (fun c c' b hc hc' => upR_inj c c' b hc hc'), hT⟩
      intro c' o ho
      have hc : c' < 3 := (List.getElem?_eq_some_iff.1 ho).1
      show ViewL (upR 2) 3 _ c' o
      rcases (by omega : c' = 0 ∨ c' = 1 ∨ c' = 2) with rfl | rfl | rfl
      · cases ho; exact ViewL.at_ (b := 0) rfl rfl (strs_ok a b c)
      · cases ho; exact ViewL.at_ (b := 1) rfl rfl (.gnd rfl rfl)
      · cases ho; exact ViewL.void rfl rfl
    have h := loop_block (P := Try.prog) (R := R) (I := {i : Nat // i ≤ w.length}) (fam := fun i => fam3d a b c v w m i.1) (fun i => w.length - i.1) (X := fun e stE => e = .exit 4 ∧ stE = fam3d a b c v w m w.length) (id := 4)
      (i0 := ⟨0, Nat.zero_le _⟩) (st := ⟨T0, r3s a b c⟩) (f := upR 2) hV (fun c hc => upR_lt hc) (fun i => by show 2 ≤ 3; omega) (round3d R a b c v w m hw5)
    refine h.mono ?_
    rintro e st ⟨e0, rfl, rfl, rfl⟩
    exact hk
  · exact hk.elim
noncomputable abbrev env3c (R : Nat → RoRow) (a b c : List UInt8) (n : Nat) (F : Nat → AV) (hE : Rows) : Env Prop := ((base R).addCall 12 (spec12C n F hE)).addLoop 3 4 (spec3d a b c)
end Go.Dc.Kl
