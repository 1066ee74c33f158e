/- Bytes without signs are text: Feed. -/
import Derived.Test.YtghhcilbjdgonaaTxtB
set_option linter.unusedVariables false
set_option linter.unusedSimpArgs false
namespace Go.Dc.Kl
open Go.Proofs Go.RowKit
set_option maxRecDepth 100000
theorem vr17 (R : Nat → RoRow) (s : List UInt8) (i : Nat) (K : Exit → St → Prop) : rnd (env17i R s i) 1000 17 lp17 ⟨tm17 s i, rows17 s i⟩ K = (bif decide ((↑i : Int) < (↑s.length : Int)) then bif true && decide ((↑i : Int) < (↑s.length : Int)) then bif decide (0 + (↑i : Int).toNat < s.length) then Ascii s i [some (Row.lst 68 9 [AV.agg [AV.bool true, AV.int IntKind.i64 (↑i : Int), AV.int IntKind.i64 (↑(i - 1) : Int), AV.int IntKind.i64 0, AV.int IntKind.i64 0, AV.int IntKind.u8 (loU i), AV.int IntKind.u8 (hiU i), AV.sl false 4 0 i Cp.no, AV.nils]]), winRow, winRow, some (Row.byt 5 s), some (Row.gen 29 2 i fun j => rune (byteI s j) (↑j : Int))] (↑(s.getD (0 + (↑i : Int).toNat) 0).toNat : Int) ∧ K Exit.normal (St.mk [AV.ptr false 0 0 0, AV.str s, AV.any, AV.any, AV.nils, AV.nils, AV.ptr false 2 0 0, AV.any, AV.int IntKind.u8 (↑(s.getD (0 + (↑i : Int).toNat) 0).toNat : Int), AV.any, AV.any, AV.any, AV.any, AV.sl false 3 0 s.length Cp.no, AV.int IntKind.i64 (↑s.length : Int), AV.int IntKind.i64 (IntKind.i64.wrap ((↑i : Int) + 1)), AV.bool true, AV.ptr false 3 (0 + (↑i : Int).toNat) 0, AV.int IntKind.u8 (↑(s.getD (0 + (↑i : Int).toNat) 0).toNat : Int), AV.any, AV.any, AV.any, AV.any, AV.any, AV.any, AV.any, AV.any, AV.bool true, AV.ptr false 0 0 0, AV.ptr false 0 0 0, AV.ptr false 0 0 0, AV.bool true, AV.ptr false 0 0 0, AV.int IntKind.u8 (↑(s.getD (0 + (↑i : Int).toNat) 0).toNat : Int), AV.tup [], AV.any, AV.any, AV.any, AV.any, AV.any, AV.any, AV.any, AV.any, AV.any, AV.any, AV.any, AV.any, AV.any, AV.any, AV.any, AV.any, AV.any, AV.ptr false 0 0 0, AV.ptr false 0 0 0, AV.ptr false 0 0 1, AV.int IntKind.i64 (↑i : Int), AV.int IntKind.i64 (IntKind.i64.wrap ((↑i : Int) + 1)), AV.ptr false 0 0 0, AV.ptr false 0 0 1, AV.int IntKind.i64 (IntKind.i64.wrap ((↑i : Int) + 1)), AV.any, AV.any, AV.any, AV.any] [some (Row.lst 68 9 [AV.agg [AV.bool true, AV.int IntKind.i64 (IntKind.i64.wrap ((↑i : Int) + 1)), AV.int IntKind.i64 (↑i : Int), AV.int IntKind.i64 0, AV.int IntKind.i64 0, AV.int IntKind.u8 128, AV.int IntKind.u8 191, AV.sl false 6 0 (i + 1) Cp.no, AV.nils]]), winRow, winRow, some (Row.byt 5 s), none, some (Row.lst 29 2 [AV.agg [AV.int IntKind.i64 (IntKind.i64.wrap (↑(s.getD (0 + (↑i : Int).toNat) 0).toNat : Int)), AV.int IntKind.i64 (↑i : Int)]]), some (Row.gen 29 2 (i + 1) fun j => bif j.blt (Src.gen i fun j => rA s (0 + j)).len then AV.agg [AV.int IntKind.i64 (byteI s (0 + j)), AV.int IntKind.i64 (↑(0 + j) : Int)] else (Src.lst [AV.agg [AV.int IntKind.i64 (IntKind.i64.wrap (↑(s.getD (0 + (↑i : Int).toNat) 0).toNat : Int)), AV.int IntKind.i64 (↑i : Int)]]).at_ (j - (Src.gen i fun j => rA s (0 + j)).len))]) else False else False else K (Exit.exit 0) (St.mk [AV.ptr false 0 0 0, AV.str s, AV.any, AV.any, AV.nils, AV.nils, AV.ptr false 2 0 0, AV.any, AV.any, AV.any, AV.any, AV.any, AV.any, AV.sl false 3 0 s.length Cp.no, AV.int IntKind.i64 (↑s.length : Int), AV.int IntKind.i64 (↑i : Int), AV.bool false, AV.any, AV.any, AV.any, AV.any, AV.any, AV.any, AV.any, AV.any, AV.any, AV.any, AV.any, AV.any, AV.any, AV.any, AV.any, AV.any, AV.any, AV.any, AV.any, AV.any, AV.any, AV.any, AV.any, AV.any, AV.any, AV.any, AV.any, AV.any, AV.any, AV.any, AV.any, AV.any, AV.any, AV.any, AV.any, AV.any, AV.any, AV.any, AV.any, AV.any, AV.any, AV.any, AV.any, AV.any, AV.any, AV.any, AV.any] [some (Row.lst 68 9 [AV.agg [AV.bool true, AV.int IntKind.i64 (↑i : Int), AV.int IntKind.i64 (↑(i - 1) : Int), AV.int IntKind.i64 0, AV.int IntKind.i64 0, AV.int IntKind.u8 (loU i), AV.int IntKind.u8 (hiU i), AV.sl false 4 0 i Cp.no, AV.nils]]), winRow, winRow, some (Row.byt 5 s), some (Row.gen 29 2 i fun j => rune (byteI s j) (↑j : Int))])) := by kernel_rfl
noncomputable def fam17 (s : List UInt8) (i : Nat) : St := ⟨tm17 s i, rows17 s i⟩
theorem gen_plain {n ty z : Nat} {F G : Nat → AV} {f : Nat → Option Nat} {N : Nat} (h : ∀ j, j < n → G j = F j) (hg : ∀ j, gnd (F j) = true) (ho : ∀ j, ones (F j) = true) : RowV f N (.gen ty z n F) (.gen ty z n G) := .gen rfl fun i hi => ⟨ho i, by rw [h i hi]; exact gnd_vw f N _ (hg i)⟩
theorem fit17 {s : List UInt8} {i : Nat} {T : List AV} {h : Rows} {n : Nat} {at' b lo hi : Int} {g : Nat → AV} {len : Nat} (hn : 4 ≤ n)
    (hat : at' = (i : Nat)) (hlen : len = i) (hb : b = ((i - 1 : Nat) : Int)) (hlo : lo = loU i) (hhi : hi = hiU i)
    (h0 : h[0]? = some (decU at' (.int .i64 b) (.int .u8 lo) (.int .u8 hi) (.sl false n 0 len .no))) (h1 : h[1]? = some winRow) (h2 : h[2]? = some winRow) (h3 : h[3]? = some (some (.byt 5 s)))
    (h4 : h[n]? = some (some (.gen 29 2 len g))) (hg : ∀ j, j < i → g j = rA s j)
    (hT : VwL (mvR 4 n) 5 (tm17 s i) T) : Fit 4 (fam17 s i) ⟨T, h⟩ := by
  subst hat; subst len; subst hb; subst hlo; subst hhi
  refine ⟨mvR 4 n, ⟨View.of ?_ (mvR_inj (by show 5 ≤ _; omega) (by show 5 ≤ _; omega)), hT⟩, mvR_lt (by omega), by simp [fam17, rows17]⟩
  intro c o ho
  have hc : c < 5 := (List.getElem?_eq_some_iff.1 ho).1
  have hN : (fam17 s i).rows.length = 5 := rfl
  rw [hN]
  rcases (by omega : c = 0 ∨ c = 1 ∨ c = 2 ∨ c = 3 ∨ c = 4) with rfl | rfl | rfl | rfl | rfl
  · cases ho
    exact ViewL.at_ (b := 0) rfl h0 (.lst1 rfl (.aggI (.cons .boolI (.cons .intI (.cons .intI (.cons .intI (.cons .intI (.cons .intI (.cons .intI (.cons (.slI (by decide) rfl) (.cons .nilsI .nil)))))))))))
  · cases ho
    exact ViewL.at_ (b := 1) rfl h1 (.gnd rfl rfl)
  · cases ho
    exact ViewL.at_ (b := 2) rfl h2 (.gnd rfl rfl)
  · cases ho
    exact ViewL.at_ (b := 3) rfl h3 .byt
  · cases ho
    exact ViewL.at_ (b := n) rfl h4 (gen_plain hg (fun _ => rfl) fun _ => rfl)
def Low (s : List UInt8) : Prop := s.length ≤ 5000 ∧ ∀ i, i < s.length → byteI s i < 128
theorem byteI_lo (s : List UInt8) (i : Nat) : 0 ≤ byteI s i := by unfold byteI; omega
theorem round17 (R : Nat → RoRow) (s : List UInt8) (hs : Low s) (i : {i : Nat // i ≤ s.length}) :
    Safe Try.prog R lp17 (fam17 s i.1) fun e st' => match e with
      | .normal => ∃ i' : {i : Nat // i ≤ s.length}, s.length - i'.1 < s.length - i.1 ∧ Fit 4 (fam17 s i'.1) st'
      | e => ∃ stE, Fit 4 stE st' ∧ (e = .exit 0 ∧ stE = fam17 s s.length) := by
  obtain ⟨i, hi⟩ := i
  refine byRnd (env17i_ok R s i) (f := 17) (fi := fi17) (by kernel_rfl) blk17 1000 (vr17 R s i _) ?_
  obtain ⟨hl, hlow⟩ := hs
  have eB : ((s.getD (0 + (i : Int).toNat) 0).toNat : Int) = byteI s i := by simp [byteI]
  have hw : IntKind.i64.wrap ((i : Int) + 1) = ((i + 1 : Nat) : Int) := wrapSucc i (by omega)
  simp only [eB, hw]
  refine hcB (fun hlt => ?_) (fun hlt => ?_)
  · have hlt' : i < s.length := Int.ofNat_lt.1 (of_decide_eq_true hlt)
    refine hcT (by simp; omega) ?_
    refine hcT (by simp; omega) ?_
    refine ⟨⟨rfl, by omega, byteI_lo s i, hlow i hlt'⟩, ?_⟩
    refine ⟨⟨i + 1, by omega⟩, by show s.length - (i + 1) < s.length - i; omega, fit17 (n := 6) (by omega) rfl rfl rfl rfl rfl rfl rfl rfl rfl rfl ?_ ?_⟩
    · intro j hj
      refine app_gen (n := i) (F := fun j => rune (byteI s j) (j : Int)) (G := rA s) (fun j _ => by rw [Nat.zero_add]; rfl) ?_ j hj
      show AV.agg [AV.int IntKind.i64 (IntKind.i64.wrap (byteI s i)), AV.int IntKind.i64 (i : Int)] = rA s i
      rw [wrapI64 _ (by have := byteI_lo s i; omega) (by have := hlow i hlt'; omega)]
      rfl
    · iterate 64 refine VwL.cons (by first | exact Vw.anyI | exact Vw.intI | exact Vw.strI | exact Vw.nilsI | exact Vw.ptrI (by decide) rfl | exact Vw.slI (by decide) rfl) ?_
      exact VwL.nil
  · have hlt' : ¬ i < s.length := fun h => (of_decide_eq_false hlt) (Int.ofNat_lt.2 h)
    have : i = s.length := by omega
    subst this
    refine ⟨fam17 s s.length, fit17 (n := 4) (by omega) rfl rfl rfl rfl rfl rfl rfl rfl rfl rfl (fun j _ => rfl) ?_, trivial, rfl⟩
    iterate 64 refine VwL.cons (by first | exact Vw.anyI | exact Vw.intI | exact Vw.strI | exact Vw.nilsI | exact Vw.ptrI (by decide) rfl | exact Vw.slI (by decide) rfl) ?_
    exact VwL.nil
def rows17s (s : List UInt8) : Rows := [decU 0 (.int .i64 0) (.int .u8 0) (.int .u8 0) .nils, winRow, winRow, some (.byt 5 s)]
structure Feed0 (s : List UInt8) (h : Rows) : Prop where
  hh : h = rows17s s
theorem tm17_spr (s : List UInt8) : tm17 s 0 = spr [(0, .ptr false 0 0 0), (1, .str s), (4, .nils), (5, .nils), (6, .ptr false 2 0 0), (13, .sl false 3 0 s.length .no), (14, .int .i64 s.length), (15, .int .i64 0)] 0 64 := by kernel_rfl
def spec17L (s : List UInt8) : LoopSp := fun st k => (nthV st.tmps 0 = .ptr false 0 0 0 ∧ nthV st.tmps 1 = .str s ∧ nthV st.tmps 4 = .nils ∧ nthV st.tmps 5 = .nils ∧ nthV st.tmps 6 = .ptr false 2 0 0 ∧ nthV st.tmps 13 = .sl false 3 0 s.length .no ∧ nthV st.tmps 14 = .int .i64 s.length ∧ nthV st.tmps 15 = .int .i64 0 ∧ st.tmps.length = 64 ∧ Feed0 s st.rows) ∧ k .normal (fam17 s s.length)
theorem spec17L_ok (R : Nat → RoRow) (s : List UInt8) (hs : Low s) : ∀ st k, spec17L s st k → Safe Try.prog R (.block 0 (.loop lp17)) st k := by
  rintro ⟨T0, H0⟩ k ⟨⟨h0, h1, h4, h5, h6, h13, h14, h15, hl, ⟨hr⟩⟩, hk⟩
  have hr : H0 = _ := hr
  subst hr
  have hT : VwL (upR 4) 5 (tm17 s 0) T0 := by
    rw [tm17_spr]
    refine VwL.ofKnown hl ⟨?_, ?_, ?_, ?_, ?_, ?_, ?_, ?_, trivial⟩
    · rw [h0]; exact Vw.ptrI (by decide) rfl
    · rw [h1]; exact Vw.strI
    · rw [h4]; exact Vw.nilsI
    · rw [h5]; exact Vw.nilsI
    · rw [h6]; exact Vw.ptrI (by decide) rfl
    · rw [h13]; exact Vw.slI (by decide) rfl
    · rw [h14]; exact Vw.intI
    · rw [h15]; exact Vw.intI
  have hV : StV (upR 4) (fam17 s 0) ⟨T0, rows17s s⟩ := by
    refine ⟨View.of ?_ (fun c c' b hc hc' => upR_inj c c' b hc hc'), hT⟩
    intro c o ho
    have hc : c < 5 := (List.getElem?_eq_some_iff.1 ho).1
    have hN : (fam17 s 0).rows.length = 5 := rfl
    rw [hN]
    rcases (by omega : c = 0 ∨ c = 1 ∨ c = 2 ∨ c = 3 ∨ c = 4) with rfl | rfl | rfl | rfl | rfl
    · cases ho
      exact ViewL.at_ (b := 0) rfl rfl (.lst1 rfl (.aggI (.cons .boolI (.cons (.intE (by simp)) (.cons (.intE (by simp)) (.cons .intI (.cons .intI (.cons .intI (.cons .intI (.cons (.slN (by decide) rfl) (.cons .nilsI .nil)))))))))))
    · cases ho
      exact ViewL.at_ (b := 1) rfl rfl (.gnd rfl rfl)
    · cases ho
      exact ViewL.at_ (b := 2) rfl rfl (.gnd rfl rfl)
    · cases ho
      exact ViewL.at_ (b := 3) rfl rfl .byt
    · cases ho
      exact ViewL.void rfl rfl
  have h := loop_block (P := Try.prog) (R := R) (I := {i : Nat // i ≤ s.length}) (fam := fun i => fam17 s i.1) (fun i => s.length - i.1) (X := fun e stE => e = .exit 0 ∧ stE = fam17 s s.length) (id := 0)
    (i0 := ⟨0, Nat.zero_le _⟩) (st := ⟨T0, rows17s s⟩) (f := upR 4) hV (fun c hc => upR_lt hc) (fun i => by simp [fam17, rows17, rows17s]) (round17 R s hs)
  refine h.mono ?_
  rintro e st ⟨e0, rfl, rfl, rfl⟩
  exact hk
noncomputable abbrev env17 (R : Nat → RoRow) (s : List UInt8) : Env Prop := (base R).addLoop 17 0 (spec17L s)
theorem env17_ok (R : Nat → RoRow) (s : List UInt8) (hs : Low s) : EnvOK Try.prog (env17 R s) id := (base_ok R).addLoop (f := 17) (fi := fi17) (by kernel_rfl) (body := .loop lp17) blk17 (spec17L_ok R s hs)
end Go.Dc.Kl
