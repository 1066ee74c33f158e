/- Bytes without signs are text: the loop of the tokens when the end is known. -/
import Derived.Test.YtghhcilbjdgonaaTxtJ
set_option linter.unusedVariables false
set_option linter.unusedSimpArgs false
namespace Go.Dc.Kl
open Go.Proofs Go.RowKit
set_option maxRecDepth 100000
theorem vr16a (R : Nat → RoRow) (s : List UInt8) (K : Exit → St → Prop) : rnd (base R) 1000 15 lp15 ⟨tm16 0, w15a s⟩ K = (AV.nils = AV.nils ∧ K Exit.normal (St.mk [AV.any, AV.nils, AV.any, AV.any, AV.nils, AV.nils, AV.ptr false 0 0 0, AV.ptr false 1 0 0, AV.ptr false 2 0 0, AV.sl false 17 0 1 Cp.no, AV.nils, AV.int IntKind.i64 1, AV.any, AV.any, AV.ptr false 15 0 0, AV.bool true, AV.any, AV.any, AV.any, AV.any, AV.any, AV.any, AV.any, AV.any, AV.any, AV.any, AV.any, AV.any, AV.any, AV.any, AV.any, AV.any, AV.any, AV.any, AV.any, AV.any, AV.any, AV.any, AV.any, AV.any, AV.any, AV.any, AV.any, AV.any, AV.any, AV.any, AV.any, AV.any, AV.any, AV.any, AV.any, AV.any, AV.any, AV.any, AV.any, AV.any, AV.any, AV.any, AV.any, AV.any, AV.any, AV.any, AV.any, AV.any, AV.any, AV.any, AV.any, AV.any, AV.any, AV.tup [AV.agg [AV.int IntKind.i64 0, AV.int IntKind.i64 0, AV.int IntKind.i64 1073741824, AV.str [], AV.str [], AV.nils, AV.bool false, AV.bool false], AV.bool true], AV.ptr false 2 0 0, AV.tup [AV.agg [AV.int IntKind.i64 0, AV.int IntKind.i64 0, AV.int IntKind.i64 1073741824, AV.str [], AV.str [], AV.nils, AV.bool false, AV.bool false], AV.bool true], AV.agg [AV.int IntKind.i64 0, AV.int IntKind.i64 0, AV.int IntKind.i64 1073741824, AV.str [], AV.str [], AV.nils, AV.bool false, AV.bool false], AV.bool true, AV.bool true, AV.bool false, AV.sl false 8 0 0 Cp.no, AV.agg [AV.int IntKind.i64 0, AV.int IntKind.i64 0, AV.int IntKind.i64 1073741824, AV.str [], AV.str [], AV.nils, AV.bool false, AV.bool false], AV.sl false 16 0 1 Cp.tight, AV.sl false 17 0 1 Cp.no, AV.ptr false 15 0 0, AV.int IntKind.i64 0, AV.bool false, AV.any, AV.any, AV.any, AV.any, AV.any, AV.any, AV.any, AV.any, AV.any, AV.any, AV.any, AV.any, AV.any] [some (Row.lst 68 9 [AV.agg [AV.bool true, AV.int IntKind.i64 0, AV.int IntKind.i64 0, AV.int IntKind.i64 0, AV.int IntKind.i64 0, AV.int IntKind.u8 0, AV.int IntKind.u8 0, AV.nils, AV.nils]]), some (Row.lst 63 1 [AV.agg [AV.bool false]]), some (Row.lst 61 25 [AV.agg [AV.sl false 6 0 0 Cp.no, AV.bool true, AV.int IntKind.i64 1073741824, AV.fn 29 [] [], AV.sl false 13 1 0 Cp.no, AV.nils, AV.int IntKind.i64 0, AV.str [], AV.int IntKind.i64 0, AV.int IntKind.i64 0, AV.int IntKind.i64 0, AV.int IntKind.i64 0, AV.str [], AV.str [], AV.nils, AV.bool false, AV.bool false, AV.nils, AV.int IntKind.i64 0, AV.nils, AV.int IntKind.i64 0, AV.int IntKind.i64 0, AV.nilf, AV.bool false, AV.bool false]]), none, none, none, some (Row.gen 29 2 0 fun j => rune (byteI s j) (↑j : Int)), none, none, none, some (Row.lst 34 8 [AV.agg [AV.int IntKind.i64 0, AV.int IntKind.i64 0, AV.int IntKind.i64 1073741824, AV.str [], AV.str [], AV.nils, AV.bool false, AV.bool false]]), some (Row.lst 34 8 [AV.agg [AV.int IntKind.i64 0, AV.int IntKind.i64 0, AV.int IntKind.i64 1073741824, AV.str [], AV.str [], AV.nils, AV.bool false, AV.bool false]]), some (Row.lst 34 8 [AV.agg [AV.int IntKind.i64 0, AV.int IntKind.i64 0, AV.int IntKind.i64 1073741824, AV.str [], AV.str [], AV.nils, AV.bool false, AV.bool false]]), some (Row.lst 34 8 [AV.agg [AV.int IntKind.i64 0, AV.int IntKind.i64 0, AV.int IntKind.i64 1073741824, AV.str [], AV.str [], AV.nils, AV.bool false, AV.bool false]]), some (Row.lst 34 8 [AV.agg [AV.int IntKind.i64 0, AV.int IntKind.i64 0, AV.int IntKind.i64 1073741824, AV.str [], AV.str [], AV.nils, AV.bool false, AV.bool false]]), some (Row.lst 34 8 [AV.agg [AV.int IntKind.i64 0, AV.int IntKind.i64 0, AV.int IntKind.i64 1073741824, AV.str [], AV.str [], AV.nils, AV.bool false, AV.bool false]]), some (Row.lst 34 8 [AV.agg [AV.int IntKind.i64 0, AV.int IntKind.i64 0, AV.int IntKind.i64 1073741824, AV.str [], AV.str [], AV.nils, AV.bool false, AV.bool false]]), some (Row.gen 34 8 1 fun j => bif false then AV.agg [AV.int IntKind.i64 1, AV.int IntKind.i64 (byteI s (0 + j)), AV.int IntKind.i64 (↑(0 + j) : Int), AV.str [], AV.str [], AV.nils, AV.bool false, AV.bool false] else (Src.lst [AV.agg [AV.int IntKind.i64 0, AV.int IntKind.i64 0, AV.int IntKind.i64 1073741824, AV.str [], AV.str [], AV.nils, AV.bool false, AV.bool false]]).at_ (j - 0))])) := by kernel_rfl
theorem vr16b (R : Nat → RoRow) (s : List UInt8) (n : Nat) (v b : Int) (K : Exit → St → Prop) : rnd (base R) 1000 15 lp15 ⟨tm16 n, w15b s n v b⟩ K = (AV.sl false 7 1 0 Cp.no = AV.sl false 7 1 0 Cp.no ∧ bif decide (0 + n ≤ n) && (true && (true && decide (((Src.gen n fun j => tkF s (0 + j)).len + 1) * 88 ≤ 140737488355328))) then K Exit.normal (St.mk [AV.any, AV.nils, AV.any, AV.any, AV.nils, AV.nils, AV.ptr false 0 0 0, AV.ptr false 1 0 0, AV.ptr false 2 0 0, AV.sl false 17 0 ((Src.gen n fun j => tkF s (0 + j)).len + 1) Cp.no, AV.nils, AV.int IntKind.i64 1, AV.any, AV.any, AV.ptr false 15 0 0, AV.bool true, AV.any, AV.any, AV.any, AV.any, AV.any, AV.any, AV.any, AV.any, AV.any, AV.any, AV.any, AV.any, AV.any, AV.any, AV.any, AV.any, AV.any, AV.any, AV.any, AV.any, AV.any, AV.any, AV.any, AV.any, AV.any, AV.any, AV.any, AV.any, AV.any, AV.any, AV.any, AV.any, AV.any, AV.any, AV.any, AV.any, AV.any, AV.any, AV.any, AV.any, AV.any, AV.any, AV.any, AV.any, AV.any, AV.any, AV.any, AV.any, AV.any, AV.any, AV.any, AV.any, AV.any, AV.tup [AV.agg [AV.int IntKind.i64 0, AV.int IntKind.i64 0, AV.int IntKind.i64 1073741824, AV.str [], AV.str [], AV.nils, AV.bool false, AV.bool false], AV.bool true], AV.ptr false 2 0 0, AV.tup [AV.agg [AV.int IntKind.i64 0, AV.int IntKind.i64 0, AV.int IntKind.i64 1073741824, AV.str [], AV.str [], AV.nils, AV.bool false, AV.bool false], AV.bool true], AV.agg [AV.int IntKind.i64 0, AV.int IntKind.i64 0, AV.int IntKind.i64 1073741824, AV.str [], AV.str [], AV.nils, AV.bool false, AV.bool false], AV.bool true, AV.bool true, AV.bool false, AV.sl false 8 0 n Cp.no, AV.agg [AV.int IntKind.i64 0, AV.int IntKind.i64 0, AV.int IntKind.i64 1073741824, AV.str [], AV.str [], AV.nils, AV.bool false, AV.bool false], AV.sl false 16 0 1 Cp.tight, AV.sl false 17 0 ((Src.gen n fun j => tkF s (0 + j)).len + 1) Cp.no, AV.ptr false 15 0 0, AV.int IntKind.i64 0, AV.bool false, AV.any, AV.any, AV.any, AV.any, AV.any, AV.any, AV.any, AV.any, AV.any, AV.any, AV.any, AV.any, AV.any] [some (Row.lst 68 9 [AV.agg [AV.bool true, AV.int IntKind.i64 (↑n : Int), AV.int IntKind.i64 (↑(n - 1) : Int), AV.int IntKind.i64 0, AV.int IntKind.i64 0, AV.int IntKind.u8 (loU n), AV.int IntKind.u8 (hiU n), AV.nils, AV.nils]]), some (Row.lst 63 1 [AV.agg [AV.bool false]]), some (Row.lst 61 25 [AV.agg [AV.sl false 6 n 0 Cp.no, AV.bool true, AV.int IntKind.i64 1073741824, AV.fn 29 [] [], AV.sl false 13 1 0 Cp.no, AV.nils, AV.int IntKind.i64 0, AV.str [], AV.int IntKind.i64 0, AV.int IntKind.i64 0, AV.int IntKind.i64 0, AV.int IntKind.i64 0, AV.str [], AV.str [], AV.nils, AV.bool false, AV.bool false, AV.nils, AV.int IntKind.i64 0, AV.nils, AV.int IntKind.i64 0, AV.int IntKind.i64 0, AV.nilf, AV.bool false, AV.bool false]]), none, none, none, some (Row.gen 29 2 n fun j => rune (byteI s j) (↑j : Int)), none, none, none, some (Row.lst 34 8 [AV.agg [AV.int IntKind.i64 0, AV.int IntKind.i64 0, AV.int IntKind.i64 1073741824, AV.str [], AV.str [], AV.nils, AV.bool false, AV.bool false]]), some (Row.lst 34 8 [AV.agg [AV.int IntKind.i64 0, AV.int IntKind.i64 0, AV.int IntKind.i64 1073741824, AV.str [], AV.str [], AV.nils, AV.bool false, AV.bool false]]), some (Row.lst 34 8 [AV.agg [AV.int IntKind.i64 0, AV.int IntKind.i64 0, AV.int IntKind.i64 1073741824, AV.str [], AV.str [], AV.nils, AV.bool false, AV.bool false]]), some (Row.lst 34 8 [AV.agg [AV.int IntKind.i64 0, AV.int IntKind.i64 0, AV.int IntKind.i64 1073741824, AV.str [], AV.str [], AV.nils, AV.bool false, AV.bool false]]), some (Row.lst 34 8 [AV.agg [AV.int IntKind.i64 0, AV.int IntKind.i64 0, AV.int IntKind.i64 1073741824, AV.str [], AV.str [], AV.nils, AV.bool false, AV.bool false]]), some (Row.lst 34 8 [AV.agg [AV.int IntKind.i64 0, AV.int IntKind.i64 0, AV.int IntKind.i64 1073741824, AV.str [], AV.str [], AV.nils, AV.bool false, AV.bool false]]), some (Row.lst 34 8 [AV.agg [AV.int IntKind.i64 0, AV.int IntKind.i64 0, AV.int IntKind.i64 1073741824, AV.str [], AV.str [], AV.nils, AV.bool false, AV.bool false]]), some (Row.gen 34 8 ((Src.gen n fun j => tkF s (0 + j)).len + 1) fun j => bif j.blt (Src.gen n fun j => tkF s (0 + j)).len then AV.agg [AV.int IntKind.i64 1, AV.int IntKind.i64 (byteI s (0 + j)), AV.int IntKind.i64 (↑(0 + j) : Int), AV.str [], AV.str [], AV.nils, AV.bool false, AV.bool false] else (Src.lst [AV.agg [AV.int IntKind.i64 0, AV.int IntKind.i64 0, AV.int IntKind.i64 1073741824, AV.str [], AV.str [], AV.nils, AV.bool false, AV.bool false]]).at_ (j - (Src.gen n fun j => tkF s (0 + j)).len))]) else False) := by kernel_rfl
theorem vr16e (R : Nat → RoRow) (s : List UInt8) (n : Nat) (K : Exit → St → Prop) : rnd (base R) 1000 15 lp15 ⟨tm16e n, w16 s n⟩ K = (K (Exit.exit 2) (St.mk [AV.any, AV.nils, AV.any, AV.any, AV.nils, AV.nils, AV.ptr false 0 0 0, AV.ptr false 1 0 0, AV.ptr false 2 0 0, AV.sl false 11 0 (n + 1) Cp.no, AV.nils, AV.int IntKind.i64 1, AV.any, AV.any, AV.ptr false 13 0 0, AV.bool false, AV.any, AV.any, AV.any, AV.any, AV.any, AV.any, AV.any, AV.any, AV.any, AV.any, AV.any, AV.any, AV.any, AV.any, AV.any, AV.any, AV.any, AV.any, AV.any, AV.any, AV.any, AV.any, AV.any, AV.any, AV.any, AV.any, AV.any, AV.any, AV.any, AV.any, AV.any, AV.any, AV.any, AV.any, AV.any, AV.any, AV.any, AV.any, AV.any, AV.any, AV.any, AV.any, AV.any, AV.any, AV.any, AV.any, AV.any, AV.any, AV.any, AV.any, AV.any, AV.any, AV.any, AV.tup [AV.agg [AV.int IntKind.i64 0, AV.int IntKind.i64 0, AV.int IntKind.i64 0, AV.str [], AV.str [], AV.nils, AV.bool false, AV.bool false], AV.bool false], AV.ptr false 2 0 0, AV.tup [AV.agg [AV.int IntKind.i64 0, AV.int IntKind.i64 0, AV.int IntKind.i64 0, AV.str [], AV.str [], AV.nils, AV.bool false, AV.bool false], AV.bool false], AV.agg [AV.int IntKind.i64 0, AV.int IntKind.i64 0, AV.int IntKind.i64 0, AV.str [], AV.str [], AV.nils, AV.bool false, AV.bool false], AV.bool false, AV.bool false, AV.bool true, AV.any, AV.any, AV.any, AV.any, AV.any, AV.any, AV.any, AV.any, AV.any, AV.any, AV.any, AV.any, AV.any, AV.any, AV.any, AV.any, AV.any, AV.any, AV.any, AV.any] [some (Row.lst 68 9 [AV.agg [AV.bool true, AV.int IntKind.i64 (↑n : Int), AV.int IntKind.i64 (↑(n - 1) : Int), AV.int IntKind.i64 0, AV.int IntKind.i64 0, AV.int IntKind.u8 (loU n), AV.int IntKind.u8 (hiU n), AV.nils, AV.nils]]), some (Row.lst 63 1 [AV.agg [AV.bool false]]), some (Row.lst 61 25 [AV.agg [AV.sl false 6 n 0 Cp.no, AV.bool true, AV.int IntKind.i64 1073741824, AV.fn 29 [] [], AV.sl false 10 1 0 Cp.no, AV.nils, AV.int IntKind.i64 0, AV.str [], AV.int IntKind.i64 0, AV.int IntKind.i64 0, AV.int IntKind.i64 0, AV.int IntKind.i64 0, AV.str [], AV.str [], AV.nils, AV.bool false, AV.bool false, AV.nils, AV.int IntKind.i64 0, AV.nils, AV.int IntKind.i64 0, AV.int IntKind.i64 0, AV.nilf, AV.bool false, AV.bool false]]), none, none, none, some (Row.gen 29 2 n fun j => rune (byteI s j) (↑j : Int)), none, none, none, some (Row.lst 34 8 [AV.agg [AV.int IntKind.i64 0, AV.int IntKind.i64 0, AV.int IntKind.i64 1073741824, AV.str [], AV.str [], AV.nils, AV.bool false, AV.bool false]]), some (Row.gen 34 8 (n + 1) fun j => AV.agg [AV.int IntKind.i64 (bif j.blt n then 1 else 0), AV.int IntKind.i64 (bif j.blt n then byteI s j else 0), AV.int IntKind.i64 (bif j.blt n then (↑j : Int) else 1073741824), AV.str [], AV.str [], AV.nils, AV.bool false, AV.bool false]), some (Row.lst 34 8 [AV.agg [AV.int IntKind.i64 0, AV.int IntKind.i64 0, AV.int IntKind.i64 0, AV.str [], AV.str [], AV.nils, AV.bool false, AV.bool false]]), some (Row.lst 34 8 [AV.agg [AV.int IntKind.i64 0, AV.int IntKind.i64 0, AV.int IntKind.i64 0, AV.str [], AV.str [], AV.nils, AV.bool false, AV.bool false]])])) := by kernel_rfl
def mp16 (q r : Nat) : Nat → Option Nat := fun c => bif Nat.beq c 10 then some q else bif Nat.beq c 11 then some r else some c
theorem mp16_lt (q r c : Nat) (hc : c < 10) : mp16 q r c = some c := by
  unfold mp16
  rw [show Nat.beq c 10 = false by rw [Bool.eq_false_iff]; exact fun e => by have := Nat.eq_of_beq_eq_true e; omega, show Nat.beq c 11 = false by rw [Bool.eq_false_iff]; exact fun e => by have := Nat.eq_of_beq_eq_true e; omega]
  rfl
noncomputable def fam16 (s : List UInt8) (n : Nat) : St := ⟨tm16e n, w16 s n⟩
theorem ones_kE (s : List UInt8) (n j : Nat) : ones (kE s n j) = true := by rfl
theorem gnd_kE (s : List UInt8) (n j : Nat) : gnd (kE s n j) = true := by rfl
theorem fit16 {s : List UInt8} {n : Nat} {T : List AV} {h : Rows} (q r : Nat) {g : Nat → AV} {len : Nat}
    (hin : ∀ c c' x, c < 12 → c' < 12 → mp16 q r c = some x → mp16 q r c' = some x → c = c')
    (hlen : len = n + 1) (hh : 10 ≤ h.length)
    (h0 : h[0]? = some (decI n .nils)) (h1 : h[1]? = some linR) (h2 : h[2]? = some (lexE (.sl false 6 n 0 .no) (.sl false q 1 0 .no)))
    (h6 : h[6]? = some (rowA s n)) (h7 : h[q]? = some (some (.lst 34 8 [tokE]))) (h8 : h[r]? = some (some (.gen 34 8 len g))) (hg : ∀ i, i < n + 1 → g i = kE s n i)
    (hT : VwL (mp16 q r) 12 (tm16e n) T) : Fit 10 (fam16 s n) ⟨T, h⟩ := by
  subst hlen
  refine ⟨mp16 q r, ⟨View.of ?_ (fun c c' x hc hc' => hin c c' x hc hc'), hT⟩, mp16_lt q r, by simp [fam16, w16]⟩
  intro c o ho
  have hc : c < 12 := (List.getElem?_eq_some_iff.1 ho).1
  have hN : (fam16 s n).rows.length = 12 := rfl
  rw [hN]
  rcases (by omega : c = 0 ∨ c = 1 ∨ c = 2 ∨ c = 3 ∨ c = 4 ∨ c = 5 ∨ c = 6 ∨ c = 7 ∨ c = 8 ∨ c = 9 ∨ c = 10 ∨ c = 11) with rfl | rfl | rfl | rfl | rfl | rfl | rfl | rfl | rfl | rfl | rfl | rfl
  · cases ho; exact ViewL.at_ (b := 0) rfl h0 (.gnd rfl rfl)
  · cases ho; exact ViewL.at_ (b := 1) rfl h1 (.gnd rfl rfl)
  · cases ho
    refine ViewL.at_ (b := 2) rfl h2 (.lst1 rfl (.aggI ?_))
    refine .cons (.slI (by decide) rfl) (.cons .boolI (.cons .intI (.cons (Vw.gndI rfl) (.cons (.slI (by decide) rfl) ?_))))
    exact gndL_vw _ _ _ rfl
  · cases ho; exact ViewL.goneR (b := 3) rfl (by show _ < h.length; omega)
  · cases ho; exact ViewL.goneR (b := 4) rfl (by show _ < h.length; omega)
  · cases ho; exact ViewL.goneR (b := 5) rfl (by show _ < h.length; omega)
  · cases ho; exact ViewL.at_ (b := 6) rfl h6 (gen_plain (fun _ _ => rfl) (fun _ => rfl) fun _ => rfl)
  · cases ho; exact ViewL.goneR (b := 7) rfl (by show _ < h.length; omega)
  · cases ho; exact ViewL.goneR (b := 8) rfl (by show _ < h.length; omega)
  · cases ho; exact ViewL.goneR (b := 9) rfl (by show _ < h.length; omega)
  · cases ho; exact ViewL.at_ (b := q) rfl h7 (.gnd rfl rfl)
  · cases ho; exact ViewL.at_ (b := r) rfl h8 (gen_plain hg (gnd_kE s n) (ones_kE s n))
theorem app_kE {s : List UInt8} {n : Nat} (j : Nat) (hj : j < n + 1) : (bif j.blt n then AV.agg [AV.int IntKind.i64 1, AV.int IntKind.i64 (byteI s (0 + j)), AV.int IntKind.i64 ((0 + j : Nat) : Int), AV.str [], AV.str [], AV.nils, AV.bool false, AV.bool false] else (Src.lst [tokE]).at_ (j - n)) = kE s n j := by
  refine app_gen (n := n) (F := tkF s) (G := kE s n) (fun j h => ?_) ?_ j hj
  · rw [Nat.zero_add]; unfold kE; rw [show j.blt n = true by simpa [Nat.blt_eq] using h]; rfl
  · unfold kE; rw [show n.blt n = false by rw [Bool.eq_false_iff]; simp [Nat.blt_eq]]; rfl
theorem roundE (R : Nat → RoRow) (s : List UInt8) (n : Nat) : Safe Try.prog R lp15 (fam16 s n) fun e st' => e = .exit 2 ∧ Fit 10 (fam16 s n) st' := by
  refine byRnd (base_ok R) (f := 15) (fi := fi15) (by kernel_rfl) blk15 1000 (vr16e R s n _) ?_
  refine ⟨rfl, fit16 10 11 (inj_of (by decide)) rfl (by show 10 ≤ 14; omega) rfl rfl rfl rfl rfl rfl (fun _ _ => rfl) ?_⟩
  rw [tm16e_spr]
  exact VwL.ofKnown rfl ⟨Vw.nilsI, Vw.nilsI, Vw.nilsI, Vw.ptrI (by decide) rfl, Vw.ptrI (by decide) rfl, Vw.ptrI (by decide) rfl, Vw.slI (by decide) rfl, Vw.nilsI, Vw.intI, trivial⟩
theorem roundA (R : Nat → RoRow) (s : List UInt8) : Safe Try.prog R lp15 ⟨tm16 0, w15a s⟩ fun e st' => e = .normal ∧ Fit 10 (fam16 s 0) st' := by
  refine byRnd (base_ok R) (f := 15) (fi := fi15) (by kernel_rfl) blk15 1000 (vr16a R s _) ?_
  refine ⟨rfl, rfl, fit16 13 17 (inj_of (by decide)) rfl (by show 10 ≤ 18; omega) rfl rfl rfl rfl rfl rfl (app_kE (n := 0)) ?_⟩
  rw [tm16e_spr]
  exact VwL.ofKnown rfl ⟨Vw.nilsI, Vw.nilsI, Vw.nilsI, Vw.ptrI (by decide) rfl, Vw.ptrI (by decide) rfl, Vw.ptrI (by decide) rfl, Vw.slI (by decide) rfl, Vw.nilsI, Vw.intI, trivial⟩
theorem roundB (R : Nat → RoRow) (s : List UInt8) (n : Nat) (hn : n ≤ 5000) (v b : Int) : Safe Try.prog R lp15 ⟨tm16 n, w15b s n v b⟩ fun e st' => e = .normal ∧ Fit 10 (fam16 s n) st' := by
  refine byRnd (base_ok R) (f := 15) (fi := fi15) (by kernel_rfl) blk15 1000 (vr16b R s n v b _) ?_
  refine ⟨rfl, hcT (by show (decide (0 + n ≤ n) && (true && (true && decide ((n + 1) * 88 ≤ 140737488355328)))) = true; simp; omega) ?_⟩
  refine ⟨rfl, fit16 13 17 (inj_of (by decide)) rfl (by show 10 ≤ 18; omega) rfl rfl rfl rfl rfl rfl app_kE ?_⟩
  rw [tm16e_spr]
  exact VwL.ofKnown rfl ⟨Vw.nilsI, Vw.nilsI, Vw.nilsI, Vw.ptrI (by decide) rfl, Vw.ptrI (by decide) rfl, Vw.ptrI (by decide) rfl, Vw.slI (by decide) rfl, Vw.nilsI, Vw.intI, trivial⟩
noncomputable def famB (c0 : St) (s : List UInt8) (n : Nat) : Bool → St
  | false => c0
  | true => fam16 s n
theorem loop16 (R : Nat → RoRow) (s : List UInt8) (n : Nat) (c0 : St) (hl : c0.rows.length = 10) (h0 : Safe Try.prog R lp15 c0 fun e st' => e = .normal ∧ Fit 10 (fam16 s n) st') (st : St) (hst : StV some c0 st) (hsl : st.rows.length = 10) {k : Exit → St → Prop}
    (hk : k .normal (fam16 s n)) : Safe Try.prog R (.block 2 (.loop lp15)) st k := by
  have h := loop_block (P := Try.prog) (R := R) (I := Bool) (fam := famB c0 s n) (fun b => bif b then 0 else 1) (X := fun e stE => e = .exit 2 ∧ stE = fam16 s n) (id := 2)
    (i0 := false) (st := st) (f := some) hst (fun c _ => rfl) (fun i => by
      rw [hsl]
      cases i with
      | false => exact Nat.le_of_eq hl.symm
      | true => exact (by show 10 ≤ 12; omega)) (fun i => by
      rw [hsl]
      cases i with
      | false =>
        refine h0.mono ?_
        rintro e st' ⟨rfl, hf⟩
        exact ⟨true, by decide, hf⟩
      | true =>
        refine (roundE R s n).mono ?_
        rintro e st' ⟨rfl, hf⟩
        exact ⟨_, hf, rfl, rfl⟩)
  refine h.mono ?_
  rintro e st ⟨e0, rfl, rfl, rfl⟩
  exact hk
structure Rows16 (h0 h : Rows) : Prop where
  hh : h = h0
def spec16 (s : List UInt8) (n : Nat) : LoopSp := fun st k => (nthV st.tmps 1 = .nils ∧ nthV st.tmps 4 = .nils ∧ nthV st.tmps 5 = .nils ∧ nthV st.tmps 6 = .ptr false 0 0 0 ∧ nthV st.tmps 7 = .ptr false 1 0 0 ∧ nthV st.tmps 8 = .ptr false 2 0 0 ∧ nthV st.tmps 9 = .sl false 8 0 n .no ∧ nthV st.tmps 10 = .nils ∧ nthV st.tmps 11 = .int .i64 1 ∧ st.tmps.length = 96) ∧
  match st.rows with
  | _ :: _ :: _ :: _ :: _ :: _ :: _ :: some (.lst _ _ [.agg (_ :: .int .i64 v :: .int .i64 b :: _)]) :: _ => Rows16 (w15b s n v b) st.rows ∧ k .normal (fam16 s n)
  | _ => n = 0 ∧ Rows16 (w15a s) st.rows ∧ k .normal (fam16 s n)
theorem tm16_of {T : List AV} {n : Nat} {N : Nat} (hN : 8 < N) (h1 : nthV T 1 = .nils) (h4 : nthV T 4 = .nils) (h5 : nthV T 5 = .nils) (h6 : nthV T 6 = .ptr false 0 0 0) (h7 : nthV T 7 = .ptr false 1 0 0) (h8 : nthV T 8 = .ptr false 2 0 0) (h9 : nthV T 9 = .sl false 8 0 n .no) (h10 : nthV T 10 = .nils) (h11 : nthV T 11 = .int .i64 1) (hl : T.length = 96) : VwL some N (tm16 n) T := by
  rw [tm16_spr]
  refine VwL.ofKnown hl ⟨?_, ?_, ?_, ?_, ?_, ?_, ?_, ?_, ?_, trivial⟩
  · rw [h1]; exact Vw.nilsI
  · rw [h4]; exact Vw.nilsI
  · rw [h5]; exact Vw.nilsI
  · rw [h6]; exact Vw.ptrI (by omega) rfl
  · rw [h7]; exact Vw.ptrI (by omega) rfl
  · rw [h8]; exact Vw.ptrI (by omega) rfl
  · rw [h9]; exact Vw.slI (by omega) rfl
  · rw [h10]; exact Vw.nilsI
  · rw [h11]; exact Vw.intI
theorem spec16_ok (R : Nat → RoRow) (s : List UInt8) (n : Nat) (hn : n ≤ 5000) : ∀ st k, spec16 s n st k → Safe Try.prog R (.block 2 (.loop lp15)) st k := by
  rintro ⟨T0, H0⟩ k ⟨⟨h1, h4, h5, h6, h7, h8, h9, h10, h11, hl⟩, hk⟩
  have hid : ∀ (h : Rows), (∀ c o, h[c]? = some o → ViewL some h.length h c o) → View some h h := fun h hv => View.of hv (fun c c' b _ _ e1 e2 => by cases e1; cases e2; rfl)
  split at hk
  · obtain ⟨⟨hh⟩, hk⟩ := hk
    rename_i v b _ _ _
    have hh : H0 = w15b s n v b := hh
    subst hh
    refine loop16 R s n ⟨tm16 n, w15b s n v b⟩ rfl (roundB R s n hn v b) ⟨T0, w15b s n v b⟩ ⟨hid _ ?_, tm16_of (by show 8 < 10; omega) h1 h4 h5 h6 h7 h8 h9 h10 h11 hl⟩ rfl hk
    intro c o ho
    have hc : c < 10 := (List.getElem?_eq_some_iff.1 ho).1
    rcases (by omega : c = 0 ∨ c = 1 ∨ c = 2 ∨ c = 3 ∨ c = 4 ∨ c = 5 ∨ c = 6 ∨ c = 7 ∨ c = 8 ∨ c = 9) with rfl | rfl | rfl | rfl | rfl | rfl | rfl | rfl | rfl | rfl
    · cases ho; exact ViewL.at_ (b := 0) rfl rfl (.gnd rfl rfl)
    · cases ho; exact ViewL.at_ (b := 1) rfl rfl (.gnd rfl rfl)
    · cases ho
      refine ViewL.at_ (b := 2) rfl rfl (.lst1 rfl (.aggI ?_))
      refine .cons (.slI (by show 6 < 10; decide) rfl) (.cons .boolI (.cons .intI (.cons (Vw.gndI rfl) (.cons (.slI (by show 7 < 10; decide) rfl) ?_))))
      exact gndL_vw _ _ _ rfl
    · cases ho; exact ViewL.goneR (b := 3) rfl (by show 3 < 10; decide)
    · cases ho; exact ViewL.goneR (b := 4) rfl (by show 4 < 10; decide)
    · cases ho; exact ViewL.goneR (b := 5) rfl (by show 5 < 10; decide)
    · cases ho; exact ViewL.at_ (b := 6) rfl rfl (gen_plain (fun _ _ => rfl) (fun _ => rfl) fun _ => rfl)
    · cases ho; exact ViewL.at_ (b := 7) rfl rfl (.gnd rfl rfl)
    · cases ho; exact ViewL.at_ (b := 8) rfl rfl (gen_plain (fun _ _ => rfl) (fun _ => rfl) fun _ => rfl)
    · cases ho; exact ViewL.goneR (b := 9) rfl (by show 9 < 10; decide)
  · obtain ⟨e, ⟨hh⟩, hk⟩ := hk
    subst e
    have hh : H0 = w15a s := hh
    subst hh
    refine loop16 R s 0 ⟨tm16 0, w15a s⟩ rfl (roundA R s) ⟨T0, w15a s⟩ ⟨hid _ ?_, tm16_of (by show 8 < 10; omega) h1 h4 h5 h6 h7 h8 h9 h10 h11 hl⟩ rfl hk
    intro c o ho
    have hc : c < 10 := (List.getElem?_eq_some_iff.1 ho).1
    rcases (by omega : c = 0 ∨ c = 1 ∨ c = 2 ∨ c = 3 ∨ c = 4 ∨ c = 5 ∨ c = 6 ∨ c = 7 ∨ c = 8 ∨ c = 9) with rfl | rfl | rfl | rfl | rfl | rfl | rfl | rfl | rfl | rfl
    · cases ho; exact ViewL.at_ (b := 0) rfl rfl (.gnd rfl rfl)
    · cases ho; exact ViewL.at_ (b := 1) rfl rfl (.gnd rfl rfl)
    · cases ho
      refine ViewL.at_ (b := 2) rfl rfl (.lst1 rfl (.aggI ?_))
      exact .cons (.slI (by show 6 < 10; decide) rfl) (gndL_vw _ _ _ rfl)
    · cases ho; exact ViewL.goneR (b := 3) rfl (by show 3 < 10; decide)
    · cases ho; exact ViewL.goneR (b := 4) rfl (by show 4 < 10; decide)
    · cases ho; exact ViewL.goneR (b := 5) rfl (by show 5 < 10; decide)
    · cases ho; exact ViewL.at_ (b := 6) rfl rfl (gen_plain (fun _ _ => rfl) (fun _ => rfl) fun _ => rfl)
    · cases ho; exact ViewL.goneR (b := 7) rfl (by show 7 < 10; decide)
    · cases ho; exact ViewL.at_ (b := 8) rfl rfl (gen_plain (fun _ _ => rfl) (fun _ => rfl) fun _ => rfl)
    · cases ho; exact ViewL.goneR (b := 9) rfl (by show 9 < 10; decide)
noncomputable abbrev env15 (R : Nat → RoRow) (s : List UInt8) (n : Nat) : Env Prop := (((base R).addCall 17 (spec17 s)).addCall 20 (spec20 s n)).addLoop 15 2 (spec15L s n (spec16 s n))
theorem env15_ok (R : Nat → RoRow) {s : List UInt8} (hs : Plain s) : EnvOK Try.prog (env15 R s s.length) id :=
  (((base_ok R).addCall (f := 17) (fi := fi17) (by kernel_rfl) (spec17_ok R s hs.toLow)).addCall (f := 20) (fi := fi20) (by kernel_rfl) (spec20_ok R s s.length hs.len hs.cr)).addLoop (f := 15) (fi := fi15) (by kernel_rfl) (body := .loop lp15) blk15 (spec15L_ok R s hs _ (spec16_ok R s s.length hs.len))
end Go.Dc.Kl
