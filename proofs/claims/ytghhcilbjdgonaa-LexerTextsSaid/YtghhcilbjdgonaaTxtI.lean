/- Bytes without signs are text: the contracts of Feed, Pass and the loop of the tokens. -/
import Derived.Test.YtghhcilbjdgonaaTxtH
set_option linter.unusedVariables false
set_option linter.unusedSimpArgs false
namespace Go.Dc.Kl
open Go.Proofs Go.RowKit
set_option maxRecDepth 100000
theorem vc17 (R : Nat → RoRow) (s : List UInt8) (Q : AV → Rows → Prop) : vcd (env17 R s) 1000 17 fi17 [.ptr false 0 0 0, .str s] [decU 0 (.int .i64 0) (.int .u8 0) (.int .u8 0) .nils] Q = (bif decide (s.length ≤ 9223372036854775807) then (AV.ptr false 0 0 0 = AV.ptr false 0 0 0 ∧ AV.str s = AV.str s ∧ AV.nils = AV.nils ∧ AV.nils = AV.nils ∧ AV.ptr false 2 0 0 = AV.ptr false 2 0 0 ∧ AV.sl false 3 0 s.length Cp.no = AV.sl false 3 0 s.length Cp.no ∧ AV.int IntKind.i64 (↑s.length : Int) = AV.int IntKind.i64 (↑s.length : Int) ∧ AV.int IntKind.i64 0 = AV.int IntKind.i64 0 ∧ 64 = 64 ∧ Feed0 s [some (Row.lst 68 9 [AV.agg [AV.bool true, AV.int IntKind.i64 0, AV.int IntKind.i64 0, AV.int IntKind.i64 0, AV.int IntKind.i64 0, AV.int IntKind.u8 0, AV.int IntKind.u8 0, AV.nils, AV.nils]]), winRow, winRow, some (Row.byt 5 s)]) ∧ AV.nils = AV.nils ∧ Q (AV.tup [AV.sl false 4 0 s.length Cp.no, AV.nils]) [some (Row.lst 68 9 [AV.agg [AV.bool true, AV.int IntKind.i64 (↑s.length : Int), AV.int IntKind.i64 (↑(s.length - 1) : Int), AV.int IntKind.i64 0, AV.int IntKind.i64 0, AV.int IntKind.u8 (loU s.length), AV.int IntKind.u8 (hiU s.length), AV.nils, AV.nils]]), winRow, winRow, some (Row.byt 5 s), some (Row.gen 29 2 s.length fun j => rune (byteI s j) (↑j : Int))] else False) := by kernel_rfl
theorem vc20 (R : Nat → RoRow) (s : List UInt8) (n : Nat) (Q : AV → Rows → Prop) : vcd (env20 R s n) 1000 20 fi20 [.ptr false 1 0 0, .sl false 4 0 n .no] (rows20s s n) Q = ((AV.ptr false 1 0 0 = AV.ptr false 1 0 0 ∧ AV.sl false 4 0 n Cp.no = AV.sl false 4 0 n Cp.no ∧ AV.nils = AV.nils ∧ AV.nils = AV.nils ∧ AV.sl false 4 0 n Cp.no = AV.sl false 4 0 n Cp.no ∧ AV.int IntKind.i64 (↑n : Int) = AV.int IntKind.i64 (↑n : Int) ∧ AV.int IntKind.i64 0 = AV.int IntKind.i64 0 ∧ 47 = 47 ∧ Pass0 s n [some (Row.lst 68 9 [AV.agg [AV.bool true, AV.int IntKind.i64 (↑n : Int), AV.int IntKind.i64 (↑(n - 1) : Int), AV.int IntKind.i64 0, AV.int IntKind.i64 0, AV.int IntKind.u8 (loU n), AV.int IntKind.u8 (hiU n), AV.nils, AV.nils]]), some (Row.lst 63 1 [AV.agg [AV.bool false]]), some (Row.lst 61 25 [AV.agg [AV.nils, AV.bool false, AV.int IntKind.i64 0, AV.fn 18 [] [], AV.nils, AV.nils, AV.int IntKind.i64 0, AV.str [], AV.int IntKind.i64 0, AV.int IntKind.i64 0, AV.int IntKind.i64 0, AV.int IntKind.i64 0, AV.str [], AV.str [], AV.nils, AV.bool false, AV.bool false, AV.nils, AV.int IntKind.i64 0, AV.nils, AV.int IntKind.i64 0, AV.int IntKind.i64 0, AV.nilf, AV.bool false, AV.bool false]]), none, some (Row.gen 29 2 n fun j => rune (byteI s j) (↑j : Int))]) ∧ Q (AV.sl false 5 0 n Cp.no) [some (Row.lst 68 9 [AV.agg [AV.bool true, AV.int IntKind.i64 (↑n : Int), AV.int IntKind.i64 (↑(n - 1) : Int), AV.int IntKind.i64 0, AV.int IntKind.i64 0, AV.int IntKind.u8 (loU n), AV.int IntKind.u8 (hiU n), AV.nils, AV.nils]]), some (Row.lst 63 1 [AV.agg [AV.bool false]]), some (Row.lst 61 25 [AV.agg [AV.nils, AV.bool false, AV.int IntKind.i64 0, AV.fn 18 [] [], AV.nils, AV.nils, AV.int IntKind.i64 0, AV.str [], AV.int IntKind.i64 0, AV.int IntKind.i64 0, AV.int IntKind.i64 0, AV.int IntKind.i64 0, AV.str [], AV.str [], AV.nils, AV.bool false, AV.bool false, AV.nils, AV.int IntKind.i64 0, AV.nils, AV.int IntKind.i64 0, AV.int IntKind.i64 0, AV.nilf, AV.bool false, AV.bool false]]), none, some (Row.gen 29 2 n fun j => rune (byteI s j) (↑j : Int)), some (Row.gen 29 2 n fun j => rune (byteI s j) (↑j : Int))]) := by kernel_rfl
theorem vc20n (R : Nat → RoRow) (Q : AV → Rows → Prop) : vcd (base R) 1000 20 fi20 [.ptr false 0 0 0, .nils] [linR] Q = (Q AV.nils [some (Row.lst 63 1 [AV.agg [AV.bool false]])]) := by kernel_rfl
theorem Plain.toLow {s : List UInt8} (hs : Plain s) : Low s := ⟨hs.len, hs.low⟩
def feedW : Nat → Option Nat := fun c => if c = 0 then some 0 else if c = 1 then some 4 else none
theorem safe17 (R : Nat → RoRow) (s : List UInt8) (hs : Low s) : SafeCall Try.prog R 17 [.ptr false 0 0 0, .str s] [decU 0 (.int .i64 0) (.int .u8 0) (.int .u8 0) .nils] fun v h => v = .tup [.sl false 1 0 s.length .no, .nils] ∧ h = [decI s.length .nils, rowA s s.length] := by
  have h2 : SafeCall Try.prog (env17 R s).R 17 [.ptr false 0 0 0, .str s] [decU 0 (.int .i64 0) (.int .u8 0) (.int .u8 0) .nils] fun v h => v = .tup [.sl false 4 0 s.length .no, .nils] ∧ h = [decI s.length .nils, winRow, winRow, some (.byt 5 s), rowA s s.length] := by
    refine byVcd (env17_ok R s hs) (f := 17) (fi := fi17) (by kernel_rfl) 1000 (vc17 R s _) ?_
    refine hcT (by have := hs.1; simp; omega) ?_
    exact ⟨⟨rfl, rfl, rfl, rfl, rfl, rfl, rfl, rfl, rfl, ⟨rfl⟩⟩, rfl, rfl, rfl⟩
  refine h2.fit ?_
  rintro v h ⟨rfl, rfl⟩
  refine ⟨_, _, ⟨feedW, View.of ?_ ?_, ?_, ?_, ?_⟩, rfl, rfl⟩
  · intro c o ho
    have hc : c < 2 := (List.getElem?_eq_some_iff.1 ho).1
    rcases (by omega : c = 0 ∨ c = 1) with rfl | rfl
    · cases ho
      exact ViewL.at_ (b := 0) rfl rfl (.gnd rfl rfl)
    · cases ho
      exact ViewL.at_ (b := 4) rfl rfl (.gen rfl fun j _ => ⟨rfl, gnd_vw _ _ _ rfl⟩)
  · intro c c' b hc hc' e e'
    simp only [feedW] at e e'
    repeat' split at e
    all_goals repeat' split at e'
    all_goals simp at e e'
    all_goals omega
  · exact .tupI (.cons (.slI (by simp) rfl) (.cons .nilsI .nil))
  · intro c hc
    have : c = 0 := by simp at hc; exact hc
    subst this
    rfl
  · simp
def r15s : Rows := [decU 0 (.int .i64 0) (.int .u8 0) (.int .u8 0) .nils, linR, lex0]
structure FeedAt (s s' : List UInt8) (h : Rows) : Prop where
  hs : s' = s
  hh : h = r15s
def spec17 (s : List UInt8) : CallSpec := fun args h k => match args with
  | [.ptr false 0 0 0, .str s'] => FeedAt s s' h ∧ k (.tup [.sl false 4 0 s.length .no, .nils]) (rows20s s s.length)
  | _ => False
theorem spec17_ok (R : Nat → RoRow) (s : List UInt8) (hs : Low s) : ∀ args h k, spec17 s args h k → SafeCall Try.prog R 17 args h k := by
  intro args h k hk
  unfold spec17 at hk
  split at hk
  · obtain ⟨⟨rfl, rfl⟩, hk⟩ := hk
    refine ((safe17 R _ hs).focus1 (argsL := [.ptr false 0 0 0, .str _]) (args := [.ptr false 0 0 0, .str _]) (b := 0) rfl (.gnd rfl rfl) (.cons (.ptrI (by simp) rfl) (.cons .strI .nil))).mono ?_
    rintro v h' ⟨rfl, rfl⟩
    exact hk
  · exact hk.elim
theorem safe20 (R : Nat → RoRow) (s : List UInt8) (n : Nat) (hn : n ≤ 5000) (h13 : ∀ i, i < n → byteI s i ≠ 13) : SafeCall Try.prog R 20 [.ptr false 1 0 0, .sl false 4 0 n .no] (rows20s s n) fun v h => v = .sl false 5 0 n .no ∧ h = rows20 s n n := by
  refine byVcd (env20_ok R s n hn h13) (f := 20) (fi := fi20) (by kernel_rfl) 1000 (vc20 R s n _) ?_
  exact ⟨⟨rfl, rfl, rfl, rfl, rfl, rfl, rfl, rfl, ⟨rfl⟩⟩, rfl, rfl⟩
theorem safe20n (R : Nat → RoRow) : SafeCall Try.prog R 20 [.ptr false 0 0 0, .nils] [linR] fun v h => v = .nils ∧ h = [linR] :=
  byVcd (base_ok R) (f := 20) (fi := fi20) (by kernel_rfl) 1000 (vc20n R _) ⟨rfl, rfl⟩
structure PassAt (s : List UInt8) (n m : Nat) (h : Rows) : Prop where
  hm : m = n
  hh : h = rows20s s n
structure LinAt (h : Rows) : Prop where
  hh : h[1]? = some linR
def spec20 (s : List UInt8) (n : Nat) : CallSpec := fun args h k => match args with
  | [.ptr false 1 0 0, .sl false 4 0 m .no] => PassAt s n m h ∧ k (.sl false 5 0 n .no) (rows20 s n n)
  | [.ptr false 1 0 0, .nils] => LinAt h ∧ k .nils (h.set 1 linR ++ [none])
  | _ => False
theorem spec20_ok (R : Nat → RoRow) (s : List UInt8) (n : Nat) (hn : n ≤ 5000) (h13 : ∀ i, i < n → byteI s i ≠ 13) : ∀ args h k, spec20 s n args h k → SafeCall Try.prog R 20 args h k := by
  intro args h k hk
  unfold spec20 at hk
  split at hk
  · obtain ⟨⟨rfl, rfl⟩, hk⟩ := hk
    refine (safe20 R s _ hn h13).mono ?_
    rintro v h' ⟨rfl, rfl⟩
    exact hk
  · obtain ⟨⟨hh⟩, hk⟩ := hk
    refine ((safe20n R).focus1 (argsL := [.ptr false 0 0 0, .nils]) (args := [.ptr false 1 0 0, .nils]) (b := 1) hh (.gnd rfl rfl) (.cons (.ptrI (by simp) rfl) (.cons .nilsI .nil))).mono ?_
    rintro v h' ⟨rfl, rfl⟩
    exact hk
  · exact hk.elim
def r15p (s : List UInt8) (n k : Nat) (g : Nat → AV) : Rows := [decI n .nils, linR, lexR (.sl false 6 0 k .no) false 0 .nils 0 [], none, rowA s n, rowA s n, some (.gen 29 2 k g)]
/-- How the loop begins: what was put in may lie in a row of its own. -/
structure Start15 (s : List UInt8) (n : Nat) (h : Rows) : Prop where
  h : ∃ k g, h = r15p s n k g ∧ k = n ∧ ∀ j, j < n → g j = rA s j
def r15e (s : List UInt8) (n : Nat) (v b : Int) : Rows := [decI n .nils, linR, lexR (.sl false 6 n 0 .no) false 0 (.sl false 7 1 0 .no) 0 [], none, none, none, rowA s n, rowT v b, rowK s n]
def spec15L (s : List UInt8) (n : Nat) (next : LoopSp) : LoopSp := fun st k => match st.rows with
  | _ :: _ :: some (.lst 61 25 [.agg (_ :: .bool false :: _)]) :: _ => (nthV st.tmps 1 = .nils ∧ nthV st.tmps 4 = .nils ∧ nthV st.tmps 5 = .nils ∧ nthV st.tmps 6 = .ptr false 0 0 0 ∧ nthV st.tmps 7 = .ptr false 1 0 0 ∧ nthV st.tmps 8 = .ptr false 2 0 0 ∧ nthV st.tmps 9 = .nils ∧ nthV st.tmps 10 = .nils ∧ nthV st.tmps 11 = .int .i64 0 ∧ st.tmps.length = 96 ∧ Start15 s n st.rows) ∧
    (n = 0 → k .normal ⟨tm15 0, r15a s 0⟩) ∧ (0 < n → ∀ v b, k .normal ⟨tm15 n, r15e s n v b⟩)
  | _ => next st k
def st15 : Nat → Option Nat := fun c => bif Nat.blt c 7 then some c else none
theorem start15 (R : Nat → RoRow) (s : List UInt8) (hs : Plain s) (T0 : List AV) (H0 : Rows) (k : Exit → St → Prop)
    (h1 : nthV T0 1 = .nils) (h4 : nthV T0 4 = .nils) (h5 : nthV T0 5 = .nils) (h6 : nthV T0 6 = .ptr false 0 0 0) (h7 : nthV T0 7 = .ptr false 1 0 0) (h8 : nthV T0 8 = .ptr false 2 0 0) (h9 : nthV T0 9 = .nils) (h10 : nthV T0 10 = .nils) (h11 : nthV T0 11 = .int .i64 0) (hl : T0.length = 96) (hst : Start15 s s.length H0)
    (hk : k .normal (fam15 s s.length s.length)) : Safe Try.prog R (.block 2 (.loop lp15)) ⟨T0, H0⟩ k := by
  obtain ⟨q, g, rfl, hq, hg⟩ := hst
  subst hq
  have hT : VwL (upR 7) 9 (tm15 0) T0 := by
    rw [tm15_spr]
    refine VwL.ofKnown hl ⟨?_, ?_, ?_, ?_, ?_, ?_, ?_, ?_, ?_, trivial⟩
    · rw [h1]; exact Vw.nilsI
    · rw [h4]; exact Vw.nilsI
    · rw [h5]; exact Vw.nilsI
    · rw [h6]; exact Vw.ptrI (by decide) rfl
    · rw [h7]; exact Vw.ptrI (by decide) rfl
    · rw [h8]; exact Vw.ptrI (by decide) rfl
    · rw [h9]; exact Vw.slN (by decide) rfl
    · rw [h10]; exact Vw.nilsI
    · rw [h11]; exact Vw.intI
  have hV : StV (upR 7) (fam15 s s.length 0) ⟨T0, r15p s s.length s.length g⟩ := by
    refine ⟨View.of ?_ (fun c c' b hc hc' => upR_inj c c' b hc hc'), hT⟩
    intro c o ho
    have hc : c < 9 := (List.getElem?_eq_some_iff.1 ho).1
    have hN : (fam15 s s.length 0).rows.length = 9 := rfl
    rw [hN]
    rcases (by omega : c = 0 ∨ c = 1 ∨ c = 2 ∨ c = 3 ∨ c = 4 ∨ c = 5 ∨ c = 6 ∨ c = 7 ∨ c = 8) with rfl | rfl | rfl | rfl | rfl | rfl | rfl | rfl | rfl
    · cases ho; exact ViewL.at_ (b := 0) rfl rfl (.gnd rfl rfl)
    · cases ho; exact ViewL.at_ (b := 1) rfl rfl (.gnd rfl rfl)
    · cases ho
      refine ViewL.at_ (b := 2) rfl rfl (.lst1 rfl (.aggI ?_))
      exact .cons (.slI (by decide) rfl) (gndL_vw _ _ _ rfl)
    · cases ho; exact ViewL.goneR (b := 3) rfl (by show 3 < 7; omega)
    · cases ho; exact ViewL.goneR (b := 4) rfl (by show 4 < 7; omega)
    · cases ho; exact ViewL.goneR (b := 5) rfl (by show 5 < 7; omega)
    · cases ho; exact ViewL.at_ (b := 6) rfl rfl (gen_plain hg (fun _ => rfl) fun _ => rfl)
    · cases ho; exact ViewL.noneR rfl
    · cases ho; exact ViewL.void rfl rfl
  have h := loop_block (P := Try.prog) (R := R) (I := {i : Nat // i ≤ s.length}) (fam := fun i => fam15 s s.length i.1) (fun i => s.length - i.1) (X := fun e stE => e = .exit 2 ∧ stE = fam15 s s.length s.length) (id := 2)
    (i0 := ⟨0, Nat.zero_le _⟩) (st := ⟨T0, r15p s s.length s.length g⟩) (f := upR 7) hV (fun c hc => upR_lt hc) (fun i => by rcases i with ⟨i, hi⟩; cases i <;> simp [fam15, r15a, r15b, r15p]) (round15 R s hs)
  refine h.mono ?_
  rintro e st ⟨e0, rfl, rfl, rfl⟩
  exact hk
theorem spec15L_ok (R : Nat → RoRow) (s : List UInt8) (hs : Plain s) (next : LoopSp) (hn : ∀ st k, next st k → Safe Try.prog R (.block 2 (.loop lp15)) st k) : ∀ st k, spec15L s s.length next st k → Safe Try.prog R (.block 2 (.loop lp15)) st k := by
  rintro ⟨T0, H0⟩ k hk
  unfold spec15L at hk
  split at hk
  · obtain ⟨⟨h1, h4, h5, h6, h7, h8, h9, h10, h11, hl, hst⟩, hk0, hk1⟩ := hk
    refine start15 R s hs T0 H0 k h1 h4 h5 h6 h7 h8 h9 h10 h11 hl hst ?_
    cases e : s.length with
    | zero => exact hk0 e
    | succ m =>
      have := hk1 (by omega) (byteI s m) m
      rw [e] at this
      show k .normal ⟨tm15 (m + 1), r15b s (m + 1) (m + 1) (byteI s m) m⟩
      rw [show r15b s (m + 1) (m + 1) (byteI s m) m = r15e s (m + 1) (byteI s m) m from by unfold r15b r15e; rw [Nat.sub_self]]
      exact this
  · exact hn _ _ hk
end Go.Dc.Kl
