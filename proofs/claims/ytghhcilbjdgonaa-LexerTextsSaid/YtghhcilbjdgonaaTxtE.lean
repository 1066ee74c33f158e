/- Bytes without signs are text: Pass. -/
import Derived.Test.YtghhcilbjdgonaaTxtD
set_option linter.unusedVariables false
set_option linter.unusedSimpArgs false
namespace Go.Dc.Kl
open Go.Proofs Go.RowKit
set_option maxRecDepth 100000
theorem vr20 (R : Nat → RoRow) (s : List UInt8) (n i : Nat) (K : Exit → St → Prop) : rnd (base R) 1000 20 lp20 ⟨tm20 n i, rows20 s n i⟩ K = (bif decide ((↑i : Int) < (↑n : Int)) then bif true && decide ((↑i : Int) < (↑n : Int)) then bif decide (0 + (↑i : Int).toNat < n) then bif byteI s (0 + (↑i : Int).toNat) == 13 then bif decide (0 + i ≤ i) && (true && (true && decide (((Src.gen i fun j => rA s (0 + j)).len + 1) * 16 ≤ 140737488355328))) then K Exit.normal (St.mk [AV.ptr false 1 0 0, AV.sl false 4 0 n Cp.no, AV.any, AV.any, AV.nils, AV.sl false 8 0 ((Src.gen i fun j => rA s (0 + j)).len + 1) Cp.no, AV.any, AV.ptr false 6 0 0, AV.bool false, AV.any, AV.any, AV.any, AV.any, AV.sl false 4 0 n Cp.no, AV.int IntKind.i64 (↑n : Int), AV.int IntKind.i64 (IntKind.i64.wrap ((↑i : Int) + 1)), AV.bool true, AV.ptr false 4 (0 + (↑i : Int).toNat) 0, AV.agg [AV.int IntKind.i64 (byteI s (0 + (↑i : Int).toNat)), AV.int IntKind.i64 (↑(0 + (↑i : Int).toNat) : Int)], AV.ptr false 1 0 0, AV.ptr false 1 0 0, AV.ptr false 1 0 0, AV.bool false, AV.bool false, AV.tup [], AV.tup [], AV.tup [], AV.bool false, AV.ptr false 1 0 0, AV.ptr false 6 0 0, AV.int IntKind.i64 (byteI s (0 + (↑i : Int).toNat)), AV.bool (byteI s (0 + (↑i : Int).toNat) == 13), AV.ptr false 1 0 0, AV.ptr false 1 0 0, AV.ptr false 1 0 0, AV.ptr false 1 0 0, AV.ptr false 1 0 0, AV.bool true, AV.ptr false 6 0 0, AV.bool false, AV.bool true, AV.sl false 5 0 i Cp.no, AV.agg [AV.int IntKind.i64 10, AV.int IntKind.i64 (↑(0 + (↑i : Int).toNat) : Int)], AV.sl false 7 0 1 Cp.tight, AV.sl false 8 0 ((Src.gen i fun j => rA s (0 + j)).len + 1) Cp.no, AV.int IntKind.i64 (IntKind.i64.wrap ((↑i : Int) + 1)), AV.any] [some (Row.lst 68 9 [AV.agg [AV.bool true, AV.int IntKind.i64 (↑n : Int), AV.int IntKind.i64 (↑(n - 1) : Int), AV.int IntKind.i64 0, AV.int IntKind.i64 0, AV.int IntKind.u8 (loU n), AV.int IntKind.u8 (hiU n), AV.nils, AV.nils]]), some (Row.lst 63 1 [AV.agg [AV.bool (byteI s (0 + (↑i : Int).toNat) == 13)]]), some (Row.lst 61 25 [AV.agg [AV.nils, AV.bool false, AV.int IntKind.i64 0, AV.fn 18 [] [], AV.nils, AV.nils, AV.int IntKind.i64 0, AV.str [], AV.int IntKind.i64 0, AV.int IntKind.i64 0, AV.int IntKind.i64 0, AV.int IntKind.i64 0, AV.str [], AV.str [], AV.nils, AV.bool false, AV.bool false, AV.nils, AV.int IntKind.i64 0, AV.nils, AV.int IntKind.i64 0, AV.int IntKind.i64 0, AV.nilf, AV.bool false, AV.bool false]]), none, some (Row.gen 29 2 n fun j => rune (byteI s j) (↑j : Int)), none, some (Row.lst 29 2 [AV.agg [AV.int IntKind.i64 10, AV.int IntKind.i64 (↑(0 + (↑i : Int).toNat) : Int)]]), some (Row.lst 29 2 [AV.agg [AV.int IntKind.i64 10, AV.int IntKind.i64 (↑(0 + (↑i : Int).toNat) : Int)]]), some (Row.gen 29 2 ((Src.gen i fun j => rA s (0 + j)).len + 1) fun j => bif j.blt (Src.gen i fun j => rA s (0 + j)).len then AV.agg [AV.int IntKind.i64 (byteI s (0 + j)), AV.int IntKind.i64 (↑(0 + j) : Int)] else (Src.lst [AV.agg [AV.int IntKind.i64 10, AV.int IntKind.i64 (↑(0 + (↑i : Int).toNat) : Int)]]).at_ (j - (Src.gen i fun j => rA s (0 + j)).len))]) else False else bif decide (0 + i ≤ i) && (true && (true && decide (((Src.gen i fun j => rA s (0 + j)).len + 1) * 16 ≤ 140737488355328))) then K Exit.normal (St.mk [AV.ptr false 1 0 0, AV.sl false 4 0 n Cp.no, AV.any, AV.any, AV.nils, AV.sl false 8 0 ((Src.gen i fun j => rA s (0 + j)).len + 1) Cp.no, AV.any, AV.ptr false 6 0 0, AV.bool false, AV.any, AV.any, AV.any, AV.any, AV.sl false 4 0 n Cp.no, AV.int IntKind.i64 (↑n : Int), AV.int IntKind.i64 (IntKind.i64.wrap ((↑i : Int) + 1)), AV.bool true, AV.ptr false 4 (0 + (↑i : Int).toNat) 0, AV.agg [AV.int IntKind.i64 (byteI s (0 + (↑i : Int).toNat)), AV.int IntKind.i64 (↑(0 + (↑i : Int).toNat) : Int)], AV.ptr false 1 0 0, AV.ptr false 1 0 0, AV.ptr false 1 0 0, AV.bool false, AV.bool false, AV.tup [], AV.tup [], AV.tup [], AV.bool false, AV.ptr false 1 0 0, AV.ptr false 6 0 0, AV.int IntKind.i64 (byteI s (0 + (↑i : Int).toNat)), AV.bool (byteI s (0 + (↑i : Int).toNat) == 13), AV.ptr false 1 0 0, AV.ptr false 1 0 0, AV.ptr false 1 0 0, AV.ptr false 1 0 0, AV.ptr false 1 0 0, AV.bool false, AV.any, AV.bool false, AV.bool true, AV.sl false 5 0 i Cp.no, AV.agg [AV.int IntKind.i64 (byteI s (0 + (↑i : Int).toNat)), AV.int IntKind.i64 (↑(0 + (↑i : Int).toNat) : Int)], AV.sl false 7 0 1 Cp.tight, AV.sl false 8 0 ((Src.gen i fun j => rA s (0 + j)).len + 1) Cp.no, AV.int IntKind.i64 (IntKind.i64.wrap ((↑i : Int) + 1)), AV.any] [some (Row.lst 68 9 [AV.agg [AV.bool true, AV.int IntKind.i64 (↑n : Int), AV.int IntKind.i64 (↑(n - 1) : Int), AV.int IntKind.i64 0, AV.int IntKind.i64 0, AV.int IntKind.u8 (loU n), AV.int IntKind.u8 (hiU n), AV.nils, AV.nils]]), some (Row.lst 63 1 [AV.agg [AV.bool (byteI s (0 + (↑i : Int).toNat) == 13)]]), some (Row.lst 61 25 [AV.agg [AV.nils, AV.bool false, AV.int IntKind.i64 0, AV.fn 18 [] [], AV.nils, AV.nils, AV.int IntKind.i64 0, AV.str [], AV.int IntKind.i64 0, AV.int IntKind.i64 0, AV.int IntKind.i64 0, AV.int IntKind.i64 0, AV.str [], AV.str [], AV.nils, AV.bool false, AV.bool false, AV.nils, AV.int IntKind.i64 0, AV.nils, AV.int IntKind.i64 0, AV.int IntKind.i64 0, AV.nilf, AV.bool false, AV.bool false]]), none, some (Row.gen 29 2 n fun j => rune (byteI s j) (↑j : Int)), none, some (Row.lst 29 2 [AV.agg [AV.int IntKind.i64 (byteI s (0 + (↑i : Int).toNat)), AV.int IntKind.i64 (↑(0 + (↑i : Int).toNat) : Int)]]), some (Row.lst 29 2 [AV.agg [AV.int IntKind.i64 (byteI s (0 + (↑i : Int).toNat)), AV.int IntKind.i64 (↑(0 + (↑i : Int).toNat) : Int)]]), some (Row.gen 29 2 ((Src.gen i fun j => rA s (0 + j)).len + 1) fun j => bif j.blt (Src.gen i fun j => rA s (0 + j)).len then AV.agg [AV.int IntKind.i64 (byteI s (0 + j)), AV.int IntKind.i64 (↑(0 + j) : Int)] else (Src.lst [AV.agg [AV.int IntKind.i64 (byteI s (0 + (↑i : Int).toNat)), AV.int IntKind.i64 (↑(0 + (↑i : Int).toNat) : Int)]]).at_ (j - (Src.gen i fun j => rA s (0 + j)).len))]) else False else False else False else K (Exit.exit 0) (St.mk [AV.ptr false 1 0 0, AV.sl false 4 0 n Cp.no, AV.any, AV.any, AV.nils, AV.sl false 5 0 i Cp.no, AV.any, AV.any, AV.any, AV.any, AV.any, AV.any, AV.any, AV.sl false 4 0 n Cp.no, AV.int IntKind.i64 (↑n : Int), AV.int IntKind.i64 (↑i : Int), AV.bool false, AV.any, AV.any, AV.any, AV.any, AV.any, AV.any, AV.any, AV.any, AV.any, AV.any, AV.any, AV.any, AV.any, AV.any, AV.any, AV.any, AV.any, AV.any, AV.any, AV.any, AV.any, AV.any, AV.any, AV.any, AV.any, AV.any, AV.any, AV.any, AV.any, AV.any] [some (Row.lst 68 9 [AV.agg [AV.bool true, AV.int IntKind.i64 (↑n : Int), AV.int IntKind.i64 (↑(n - 1) : Int), AV.int IntKind.i64 0, AV.int IntKind.i64 0, AV.int IntKind.u8 (loU n), AV.int IntKind.u8 (hiU n), AV.nils, AV.nils]]), some (Row.lst 63 1 [AV.agg [AV.bool false]]), some (Row.lst 61 25 [AV.agg [AV.nils, AV.bool false, AV.int IntKind.i64 0, AV.fn 18 [] [], AV.nils, AV.nils, AV.int IntKind.i64 0, AV.str [], AV.int IntKind.i64 0, AV.int IntKind.i64 0, AV.int IntKind.i64 0, AV.int IntKind.i64 0, AV.str [], AV.str [], AV.nils, AV.bool false, AV.bool false, AV.nils, AV.int IntKind.i64 0, AV.nils, AV.int IntKind.i64 0, AV.int IntKind.i64 0, AV.nilf, AV.bool false, AV.bool false]]), none, some (Row.gen 29 2 n fun j => rune (byteI s j) (↑j : Int)), some (Row.gen 29 2 i fun j => rune (byteI s j) (↑j : Int))])) := by kernel_rfl
noncomputable def fam20 (s : List UInt8) (n i : Nat) : St := ⟨tm20 n i, rows20 s n i⟩
theorem fit20 {s : List UInt8} {n i : Nat} {T : List AV} {h : Rows} {q : Nat} {g : Nat → AV} {len : Nat} (hq : 5 ≤ q)
    (hlen : len = i)
    (h0 : h[0]? = some (decI n .nils)) (h1 : h[1]? = some linR) (h2 : h[2]? = some lex0) (h3 : 3 < h.length) (h4 : h[4]? = some (rowA s n))
    (h5 : h[q]? = some (some (.gen 29 2 len g))) (hg : ∀ j, j < i → g j = rA s j)
    (hT : VwL (mvR 5 q) 6 (tm20 n i) T) : Fit 5 (fam20 s n i) ⟨T, h⟩ := by
  subst hlen
  refine ⟨mvR 5 q, ⟨View.of ?_ (mvR_inj (by show 6 ≤ _; omega) (by show 6 ≤ _; omega)), hT⟩, mvR_lt (by omega), by simp [fam20, rows20]⟩
  intro c o ho
  have hc : c < 6 := (List.getElem?_eq_some_iff.1 ho).1
  have hN : (fam20 s n len).rows.length = 6 := rfl
  rw [hN]
  rcases (by omega : c = 0 ∨ c = 1 ∨ c = 2 ∨ c = 3 ∨ c = 4 ∨ c = 5) with rfl | rfl | rfl | rfl | rfl | rfl
  · cases ho
    exact ViewL.at_ (b := 0) rfl h0 (.gnd rfl rfl)
  · cases ho
    exact ViewL.at_ (b := 1) rfl h1 (.gnd rfl rfl)
  · cases ho
    exact ViewL.at_ (b := 2) rfl h2 (.gnd rfl rfl)
  · cases ho
    exact ViewL.goneR (b := 3) rfl h3
  · cases ho
    exact ViewL.at_ (b := 4) rfl h4 (gen_plain (fun _ _ => rfl) (fun _ => rfl) fun _ => rfl)
  · cases ho
    exact ViewL.at_ (b := q) rfl h5 (gen_plain hg (fun _ => rfl) fun _ => rfl)
theorem round20 (R : Nat → RoRow) (s : List UInt8) (n : Nat) (hn : n ≤ 5000) (h13 : ∀ i, i < n → byteI s i ≠ 13) (i : {i : Nat // i ≤ n}) :
    Safe Try.prog R lp20 (fam20 s n i.1) fun e st' => match e with
      | .normal => ∃ i' : {i : Nat // i ≤ n}, n - i'.1 < n - i.1 ∧ Fit 5 (fam20 s n i'.1) st'
      | e => ∃ stE, Fit 5 stE st' ∧ (e = .exit 0 ∧ stE = fam20 s n n) := by
  obtain ⟨i, hi⟩ := i
  refine byRnd (base_ok R) (f := 20) (fi := fi20) (by kernel_rfl) blk20 1000 (vr20 R s n i _) ?_
  have hi0 : 0 + (i : Int).toNat = i := by simp
  have hw : IntKind.i64.wrap ((i : Int) + 1) = ((i + 1 : Nat) : Int) := wrapSucc i (by omega)
  rw [hi0, hw]
  refine hcB (fun hlt => ?_) (fun hlt => ?_)
  · have hlt' : i < n := Int.ofNat_lt.1 (of_decide_eq_true hlt)
    have e13 : (byteI s i == 13) = false := by simpa using h13 i hlt'
    rw [e13]
    refine hcT (by simp; omega) ?_
    refine hcT (by simp; omega) ?_
    refine hcF rfl ?_
    refine hcT (by show (decide (0 + i ≤ i) && (true && (true && decide ((i + 1) * 16 ≤ 140737488355328)))) = true; simp; omega) ?_
    refine ⟨⟨i + 1, by omega⟩, by show n - (i + 1) < n - i; omega, fit20 (q := 8) (by omega) rfl rfl rfl rfl (by simp) rfl rfl ?_ ?_⟩
    · intro j hj
      exact app_gen (n := i) (F := fun j => rune (byteI s j) (j : Int)) (G := rA s) (fun j _ => by rw [Nat.zero_add]; rfl) rfl j hj
    · iterate 47 refine VwL.cons (by first | exact Vw.anyI | exact Vw.intI | exact Vw.strI | exact Vw.nilsI | exact Vw.ptrI (by decide) rfl | exact Vw.slI (by decide) rfl) ?_
      exact VwL.nil
  · have hlt' : ¬ i < n := fun h => (of_decide_eq_false hlt) (Int.ofNat_lt.2 h)
    have : i = n := by omega
    subst this
    refine ⟨fam20 s i i, fit20 (q := 5) (by omega) rfl rfl rfl rfl (by simp) rfl rfl (fun j _ => rfl) ?_, rfl, rfl⟩
    iterate 47 refine VwL.cons (by first | exact Vw.anyI | exact Vw.intI | exact Vw.strI | exact Vw.nilsI | exact Vw.ptrI (by decide) rfl | exact Vw.slI (by decide) rfl) ?_
    exact VwL.nil
def rows20s (s : List UInt8) (n : Nat) : Rows := [decI n .nils, linR, lex0, none, rowA s n]
structure Pass0 (s : List UInt8) (n : Nat) (h : Rows) : Prop where
  hh : h = rows20s s n
def spec20L (s : List UInt8) (n : Nat) : LoopSp := fun st k => (nthV st.tmps 0 = .ptr false 1 0 0 ∧ nthV st.tmps 1 = .sl false 4 0 n .no ∧ nthV st.tmps 4 = .nils ∧ nthV st.tmps 5 = .nils ∧ nthV st.tmps 13 = .sl false 4 0 n .no ∧ nthV st.tmps 14 = .int .i64 n ∧ nthV st.tmps 15 = .int .i64 0 ∧ st.tmps.length = 47 ∧ Pass0 s n st.rows) ∧ k .normal (fam20 s n n)
theorem spec20L_ok (R : Nat → RoRow) (s : List UInt8) (n : Nat) (hn : n ≤ 5000) (h13 : ∀ i, i < n → byteI s i ≠ 13) : ∀ st k, spec20L s n st k → Safe Try.prog R (.block 0 (.loop lp20)) st k := by
  rintro ⟨T0, H0⟩ k ⟨⟨h0, h1, h4, h5, h13', h14, h15, hl, ⟨hr⟩⟩, hk⟩
  have hr : H0 = _ := hr
  subst hr
  have hT : VwL (upR 5) 6 (tm20 n 0) T0 := by
    rw [tm20_spr]
    refine VwL.ofKnown hl ⟨?_, ?_, ?_, ?_, ?_, ?_, ?_, trivial⟩
    · rw [h0]; exact Vw.ptrI (by decide) rfl
    · rw [h1]; exact Vw.slI (by decide) rfl
    · rw [h4]; exact Vw.nilsI
    · rw [h5]; exact Vw.slN (by decide) rfl
    · rw [h13']; exact Vw.slI (by decide) rfl
    · rw [h14]; exact Vw.intI
    · rw [h15]; exact Vw.intI
  have hV : StV (upR 5) (fam20 s n 0) ⟨T0, rows20s s n⟩ := by
    refine ⟨View.of ?_ (fun c c' b hc hc' => upR_inj c c' b hc hc'), hT⟩
    intro c o ho
    have hc : c < 6 := (List.getElem?_eq_some_iff.1 ho).1
    have hN : (fam20 s n 0).rows.length = 6 := rfl
    rw [hN]
    rcases (by omega : c = 0 ∨ c = 1 ∨ c = 2 ∨ c = 3 ∨ c = 4 ∨ c = 5) with rfl | rfl | rfl | rfl | rfl | rfl
    · cases ho
      exact ViewL.at_ (b := 0) rfl rfl (.gnd rfl rfl)
    · cases ho
      exact ViewL.at_ (b := 1) rfl rfl (.gnd rfl rfl)
    · cases ho
      exact ViewL.at_ (b := 2) rfl rfl (.gnd rfl rfl)
    · cases ho
      exact ViewL.goneR (b := 3) rfl (by simp [rows20s])
    · cases ho
      exact ViewL.at_ (b := 4) rfl rfl (gen_plain (fun _ _ => rfl) (fun _ => rfl) fun _ => rfl)
    · cases ho
      exact ViewL.void rfl rfl
  have h := loop_block (P := Try.prog) (R := R) (I := {i : Nat // i ≤ n}) (fam := fun i => fam20 s n i.1) (fun i => n - i.1) (X := fun e stE => e = .exit 0 ∧ stE = fam20 s n n) (id := 0)
    (i0 := ⟨0, Nat.zero_le _⟩) (st := ⟨T0, rows20s s n⟩) (f := upR 5) hV (fun c hc => upR_lt hc) (fun i => by simp [fam20, rows20, rows20s]) (round20 R s n hn h13)
  refine h.mono ?_
  rintro e st ⟨e0, rfl, rfl, rfl⟩
  exact hk
noncomputable abbrev env20 (R : Nat → RoRow) (s : List UInt8) (n : Nat) : Env Prop := (base R).addLoop 20 0 (spec20L s n)
theorem env20_ok (R : Nat → RoRow) (s : List UInt8) (n : Nat) (hn : n ≤ 5000) (h13 : ∀ i, i < n → byteI s i ≠ 13) : EnvOK Try.prog (env20 R s n) id := (base_ok R).addLoop (f := 20) (fi := fi20) (by kernel_rfl) (body := .loop lp20) blk20 (spec20L_ok R s n hn h13)
end Go.Dc.Kl
