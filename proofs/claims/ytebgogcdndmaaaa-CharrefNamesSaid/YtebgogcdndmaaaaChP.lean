/- charref.Longest: its search, its loops, its contract. -/
import Derived.Test.YtebgogcdndmaaaaChH
/- The comparison by which the table is searched. -/
set_option linter.unusedVariables false
set_option linter.unusedSimpArgs false
namespace Go.Dc.Ka
open Go.Proofs Go.RowKit
set_option maxRecDepth 100000
theorem vc45 (R : Nat → RoRow) (a s : List UInt8) (n m : Nat) (g : Nat → AV) (Q : AV → Rows → Prop) : vcd (envT R) 10000 45 fi45 [.agg [.str a, .sl false 0 0 n true], .str s] [some (.gen 3 1 m g)] Q =
  Q (AV.int IntKind.i64 (Lib.compareBytes a s)) [some (Row.gen 3 1 m g), some (Row.lst 58 2 [AV.agg [AV.str a, AV.sl false 0 0 n true]])] := by kernel_rfl
def intsOf : List AV → Option (List Int)
  | [] => some []
  | .int .i64 x :: l => (intsOf l).map (x :: ·)
  | _ => none
def spec45 : CallSpec := fun args h k => match args with
  | [.agg [.str a, .sl false b 0 n true], .str s] => match h.live b with
    | some (.lst 3 1 l) => match intsOf l with
      | some xs => k (.int .i64 (Lib.compareBytes a s)) h
      | none => False
    | _ => False
  | _ => False
theorem intsOf_map : ∀ {l : List AV} {xs : List Int}, intsOf l = some xs → l = xs.map (AV.int .i64)
  | [], xs, h => by simp only [intsOf, Option.some.injEq] at h; subst h; rfl
  | .int .i64 x :: l, xs, h => by
    simp only [intsOf] at h
    obtain ⟨ys, hy, rfl⟩ := Option.map_eq_some_iff.1 h
    simp only [List.map_cons]
    rw [← intsOf_map hy]
  | .int .u8 _ :: _, _, h => by simp [intsOf] at h
  | .any :: _, _, h => by simp [intsOf] at h
  | .bool _ :: _, _, h => by simp [intsOf] at h
  | .str _ :: _, _, h => by simp [intsOf] at h
  | .ptr .. :: _, _, h => by simp [intsOf] at h
  | .nilp :: _, _, h => by simp [intsOf] at h
  | .sl .. :: _, _, h => by simp [intsOf] at h
  | .nils :: _, _, h => by simp [intsOf] at h
  | .fn .. :: _, _, h => by simp [intsOf] at h
  | .nilf :: _, _, h => by simp [intsOf] at h
  | .ifc .. :: _, _, h => by simp [intsOf] at h
  | .nili :: _, _, h => by simp [intsOf] at h
  | .agg _ :: _, _, h => by simp [intsOf] at h
  | .tup _ :: _, _, h => by simp [intsOf] at h
  | .int .i8 _ :: _, _, h | .int .i16 _ :: _, _, h | .int .i32 _ :: _, _, h | .int .u16 _ :: _, _, h | .int .u32 _ :: _, _, h | .int .u64 _ :: _, _, h => by simp [intsOf] at h
theorem genInts (f : Nat → Option Nat) (n : Nat) (xs : List Int) : RowV f n (.gen 3 1 xs.length fun i => .int .i64 (xs.getD i 0)) (.lst 3 1 (xs.map (AV.int .i64))) where
  ty := rfl
  esz := rfl
  len := by simp [Row.len]
  get := fun i e he => by
    simp only [Row.get?] at he ⊢
    cases hb : Nat.blt i xs.length with
    | false => rw [hb] at he; simp at he
    | true =>
      rw [hb] at he
      simp only [cond_true, Option.some.injEq] at he
      subst he
      have hi : i < xs.length := by simpa [Nat.blt_eq] using hb
      refine ⟨by simp [AV.cells, AV.one], .int .i64 (xs.getD i 0), ?_, .intI⟩
      rw [List.getElem?_map, List.getElem?_eq_getElem hi]
      simp [List.getD, List.getElem?_eq_getElem hi]
theorem spec45_ok (R : Nat → RoRow) : ∀ args h k, spec45 args h k → SafeCall Try.prog R 45 args h k := by
  intro args h k hk
  unfold spec45 at hk
  split at hk
  · rename_i a b n s
    split at hk
    · rename_i l hl
      split at hk
      · rename_i xs hx
        have hx := intsOf_map hx
        subst hx
        have hb : h[b]? = some (some (.lst 3 1 (xs.map (AV.int .i64)))) := by
          unfold Rows.live at hl
          cases e : h[b]? with
          | none => rw [e] at hl; simp at hl
          | some o => rw [e] at hl; simp only [Option.join_some] at hl; rw [hl]
        have h1 : SafeCall Try.prog (envT R).R 45 [.agg [.str a, .sl false 0 0 n true], .str s] [some (.gen 3 1 xs.length fun i => .int .i64 (xs.getD i 0))] fun v h' => v = .int .i64 (Lib.compareBytes a s) ∧ h' = [some (Row.gen 3 1 xs.length fun i => .int .i64 (xs.getD i 0)), some (Row.lst 58 2 [AV.agg [AV.str a, AV.sl false 0 0 n true]])] :=
          byVcd (envT_ok R) (f := 45) (fi := fi45) (by kernel_rfl) 10000 (vc45 R a s n xs.length _ _) ⟨rfl, rfl⟩
        have h2 := h1.focus1 (args := [.agg [.str a, .sl false b 0 n true], .str s]) hb (genInts _ _ xs) (.cons (.aggI (.cons .strI (.cons (.slI (by simp) rfl) .nil))) (.cons .strI .nil))
        have h3 : SafeCall Try.prog R 45 [.agg [.str a, .sl false b 0 n true], .str s] h fun v h' => v = .int .i64 (Lib.compareBytes a s) ∧ h' = h := by
          refine SafeCall.trimV (h2.mono ?_) (fun v hv => by rw [hv]; rfl)
          rintro v h' ⟨rfl, rfl⟩
          refine ⟨rfl, fun hV => ?_⟩
          refine View.setAppend (r' := renRow (g1 b h.length) (.gen 3 1 xs.length fun i => .int .i64 (xs.getD i 0))) hb ⟨rfl, rfl, by simp [Row.len, renRow], ?_⟩ _ hV
          intro i e he
          simp only [Row.get?, List.getElem?_map] at he
          obtain ⟨x, hx, rfl⟩ := Option.map_eq_some_iff.1 he
          have hi : i < xs.length := (List.getElem?_eq_some_iff.1 hx).1
          refine ⟨by simp [AV.cells, AV.one], .int .i64 x, ?_, .intI⟩
          simp only [renRow, Row.get?]
          rw [show Nat.blt i xs.length = true by simpa [Nat.blt_eq] using hi]
          simp [ren, List.getD, hx]
        refine h3.mono ?_
        rintro v h' ⟨rfl, rfl⟩
        exact hk
      · exact hk.elim
    · exact hk.elim
  · exact hk.elim
end Go.Dc.Ka

/- Longest: its first loop. -/
set_option linter.unusedVariables false
set_option linter.unusedSimpArgs false
namespace Go.Dc.Ka
open Go.Proofs Go.RowKit
set_option maxRecDepth 100000
noncomputable abbrev envJ (R : Nat → RoRow) : Env Prop := (envT R).addCall 45 spec45
theorem envJ_ok (R : Nat → RoRow) : EnvOK Try.prog (envJ R) id := (envT_ok R).addCall (f := 45) (fi := fi45) (by kernel_rfl) (spec45_ok R)
noncomputable def start1 (s : List UInt8) : St := ⟨[.str s, .tup [], .str [], .nils, .sl false 109 0 109 true, .int .i64 0, .tup [], .tup [], .tup [], .tup [], .tup [], .sl false 109 0 109 true, .sl false 109 0 109 true, .int .i64 109, .int .i64 0] ++ List.replicate 36 (.tup []), tabRowsG 0⟩
noncomputable def T1 (s : List UInt8) : List AV := [.str s, .tup [], .str [], .nils, .sl false 109 0 109 true, .int .i64 14, .tup [], .ptr false 218 0 0, .tup [], .tup [], .tup [], .sl false 109 0 109 true, .sl false 109 0 109 true, .int .i64 109,
  .int .i64 109, .bool false, .ptr false 109 108 0, tabG 0 108, .int .i64 14, .ptr false 218 0 0, .str (nameAt 108), .int .i64 4, .int .i64 14, .int .i64 109] ++ List.replicate 27 (.tup [])
noncomputable def junk1 : Rows := (List.range 109).map fun i => some (Row.lst 58 2 [tabG 0 i])
theorem run1 (R : Nat → RoRow) (s : List UInt8) (k : Exit → St → Prop) : rnd (envJ R) 10000 21 (.loop (loopOf fi21 0)) (start1 s) k = k (.exit 0) ⟨T1 s, tabRowsG 0 ++ junk1⟩ := by kernel_rfl
noncomputable def end1 (s : List UInt8) : St := ⟨[.str s, .any, .str [], .nils, .sl false 109 0 109 true, .int .i64 14] ++ List.replicate 45 .any, tabRowsG 0⟩
end Go.Dc.Ka

/- The search in the table. -/
set_option linter.unusedVariables false
set_option linter.unusedSimpArgs false
namespace Go.Dc.Ka
open Go.Proofs Go.RowKit
set_option maxRecDepth 100000
noncomputable def bsQ (s : List UInt8) (K : Nat → Prop) (f : Nat) : Nat → Nat → Prop :=
  Nat.rec (fun lo _ => K lo) (fun _ ih lo hi => bif Nat.blt lo hi then bif decide (Lib.compareBytes (nameAt ((lo + hi) / 2)) s < 0) then ih ((lo + hi) / 2 + 1) hi else ih lo ((lo + hi) / 2) else K lo) f
noncomputable def bsI (s : List UInt8) (f : Nat) : Nat → Nat → Nat :=
  Nat.rec (fun lo _ => lo) (fun _ ih lo hi => bif Nat.blt lo hi then bif decide (Lib.compareBytes (nameAt ((lo + hi) / 2)) s < 0) then ih ((lo + hi) / 2 + 1) hi else ih lo ((lo + hi) / 2) else lo) f
theorem bsQ_eq (s : List UInt8) (K : Nat → Prop) : ∀ f lo hi, bsQ s K f lo hi = K (bsI s f lo hi)
  | 0, lo, hi => rfl
  | f + 1, lo, hi => by
    show (bif Nat.blt lo hi then bif decide (Lib.compareBytes (nameAt ((lo + hi) / 2)) s < 0) then bsQ s K f ((lo + hi) / 2 + 1) hi else bsQ s K f lo ((lo + hi) / 2) else K lo) =
      K (bif Nat.blt lo hi then bif decide (Lib.compareBytes (nameAt ((lo + hi) / 2)) s < 0) then bsI s f ((lo + hi) / 2 + 1) hi else bsI s f lo ((lo + hi) / 2) else lo)
    cases Nat.blt lo hi
    · rfl
    · cases decide (Lib.compareBytes (nameAt ((lo + hi) / 2)) s < 0)
      · exact bsQ_eq s K f _ _
      · exact bsQ_eq s K f _ _
noncomputable def findI (s : List UInt8) : Nat := bsI s 8 0 109
noncomputable def findB (s : List UInt8) : Bool := bif Nat.blt (findI s) 109 then Lib.compareBytes (nameAt (findI s)) s == 0 else false
theorem vc36 (R : Nat → RoRow) (s : List UInt8) (Q : AV → Rows → Prop) : vcd (envJ R) 1000 36 fi36 [.sl false 109 0 109 true, .str s] (tabRowsG 0) Q =
  bsQ s (fun i => Q (.tup [.int .i64 i, .bool (bif Nat.blt i 109 then Lib.compareBytes (nameAt i) s == 0 else false)]) (tabRowsG 0)) 8 0 109 := by kernel_rfl
end Go.Dc.Ka

/- Longest: its second loop. -/
set_option linter.unusedVariables false
set_option linter.unusedSimpArgs false
namespace Go.Dc.Ka
open Go.Proofs Go.RowKit
set_option maxRecDepth 100000
noncomputable def spec36 : CallSpec := fun args h k => match args with
  | [.sl false 109 0 109 true, .str s] => h = tabRowsG 0 ∧ k (.tup [.int .i64 (findI s), .bool (findB s)]) h
  | _ => False
theorem spec36_ok (R : Nat → RoRow) : ∀ args h k, spec36 args h k → SafeCall Try.prog R 36 args h k := by
  intro args h k hk
  unfold spec36 at hk
  split at hk
  · rename_i s
    obtain ⟨rfl, hk⟩ := hk
    refine byVcd (envJ_ok R) (f := 36) (fi := fi36) (by kernel_rfl) 1000 (vc36 R s k) ?_
    rw [bsQ_eq]
    exact hk
  · exact hk.elim
theorem safeLoop1 (R : Nat → RoRow) (s : List UInt8) : Safe Try.prog R (.block 0 (.loop (loopOf fi21 0))) (start1 s) fun e st => e = .normal ∧ st = end1 s := by
  have h1 : Safe Try.prog R (.loop (loopOf fi21 0)) (start1 s) fun e st => e = .exit 0 ∧ st = ⟨T1 s, tabRowsG 0 ++ junk1⟩ := by
    refine Safe.rnd mixed (envJ_ok R) (f := 21) (fi := fi21) (i := 0) (b := .loop (loopOf fi21 0)) (by kernel_rfl) (by kernel_rfl) rfl 10000 ?_
    rw [run1]
    exact ⟨rfl, rfl⟩
  have h2 : Safe Try.prog R (.loop (loopOf fi21 0)) (start1 s) fun e st => (e = .exit 0 ∧ st.tmps = (end1 s).tmps) ∧ st.rows = (start1 s).rows := by
    refine Safe.trim (X := fun e T => e = .exit 0 ∧ T = (end1 s).tmps) (h1.mono ?_)
    rintro e st ⟨rfl, rfl⟩
    refine ⟨(end1 s).tmps, ⟨rfl, rfl⟩, ⟨junk1, rfl⟩, ?_⟩
    show VwL some (tabRowsG 0).length _ (T1 s)
    rw [show (tabRowsG 0).length = 110 by kernel_rfl]
    iterate 51 refine VwL.cons (by first | exact Vw.anyI | exact Vw.intI | exact Vw.strI | exact Vw.nilsI | exact Vw.slI (by decide) rfl) ?_
    exact VwL.nil
  refine Safe.block (h2.mono ?_)
  rintro e ⟨T, h⟩ ⟨⟨rfl, h3⟩, h4⟩
  simp only at h3 h4
  subst h3 h4
  exact ⟨rfl, rfl⟩
noncomputable def loop1 : LoopSp := fun st k => match nthV st.tmps 0 with
  | .str s => st = start1 s ∧ k .normal (end1 s)
  | _ => False
theorem loop1_ok (R : Nat → RoRow) : ∀ st k, loop1 st k → Safe Try.prog R (.block 0 (.loop (loopOf fi21 0))) st k := by
  intro st k hk
  unfold loop1 at hk
  split at hk
  · rename_i s _
    obtain ⟨rfl, hk⟩ := hk
    refine (safeLoop1 R s).mono ?_
    rintro e st' ⟨rfl, rfl⟩
    exact hk
  · exact hk.elim
noncomputable abbrev env21 (R : Nat → RoRow) : Env Prop := ((envJ R).addCall 36 spec36).addLoop 21 0 loop1
theorem env21_ok (R : Nat → RoRow) : EnvOK Try.prog (env21 R) id := ((envJ_ok R).addCall (f := 36) (fi := fi36) (by kernel_rfl) (spec36_ok R)).addLoop (f := 21) (fi := fi21) (by kernel_rfl) (body := .loop (loopOf fi21 0)) (by kernel_rfl) (loop1_ok R)
noncomputable def fam2 (s : List UInt8) (n : Nat) : St := ⟨[.str s, .any, .str [], .nils, .sl false 109 0 109 true, .any, .any, .any, .int .i64 n] ++ List.replicate 42 .any, tabRowsG 0⟩
end Go.Dc.Ka

/- Longest: a round of its second loop. -/
set_option linter.unusedVariables false
set_option linter.unusedSimpArgs false
namespace Go.Dc.Ka
open Go.Proofs Go.RowKit
set_option maxRecDepth 100000
/-- The text's first 'n' bytes. -/
def pre (s : List UInt8) (n : Nat) : List UInt8 := List.take (slHi s.length (some (n : Int)) - 0) (List.drop 0 s)
theorem round2 (R : Nat → RoRow) (s : List UInt8) (n : Nat) (k : Exit → St → Prop) : rnd (env21 R) 1000 21 (loopOf fi21 2) (fam2 s n) k =
   (
  bif decide ((↑n : Int) > 0) then
    bif slCond none (some (↑n : Int)) s.length then
      tabRowsG 0 = tabRowsG 0 ∧ bif (findB (pre s n)) then
        bif true && decide ((↑(findI (pre s n)) : Int) < 109) then
          bif decide (0 + (↑(findI (pre s n)) : Int).toNat < 109) then
            bif true && decide ((↑(findI (pre s n)) : Int) < 109) then
              bif decide (0 + (↑(findI (pre s n)) : Int).toNat < 109) then
                bif decide (0 + (↑(findI (pre s n)) : Int).toNat < 109) then
                  AV.sl false (0 + (0 + (↑(findI (pre s n)) : Int).toNat)) 0 (scAt (0 + (↑(findI (pre s n)) : Int).toNat)).length true =
                      AV.sl false (0 + (0 + (↑(findI (pre s n)) : Int).toNat)) 0 (scAt (0 + (↑(findI (pre s n)) : Int).toNat)).length true ∧
                    bif true && decide ((↑(findI (pre s n)) : Int) < 109) then
                      AV.ptr false 109 (0 + (↑(findI (pre s n)) : Int).toNat) 0 = AV.ptr false 109 (0 + (↑(findI (pre s n)) : Int).toNat) 0 ∧
                        k Exit.ret (St.mk [AV.str s, AV.any, AV.str (nameAt (0 + (↑(findI (pre s n)) : Int).toNat)),
                            AV.sl false (0 + (0 + (↑(findI (pre s n)) : Int).toNat)) 0 (scAt (0 + (↑(findI (pre s n)) : Int).toNat)).length true,
                            AV.sl false 109 0 109 true, AV.any, AV.any, AV.any, AV.int IntKind.i64 (↑n : Int),
                            AV.int IntKind.i64 (↑(findI (pre s n)) : Int), AV.bool (findB (pre s n)), AV.any, AV.any, AV.any, AV.any, AV.any, AV.any,
                            AV.any, AV.any, AV.any, AV.any, AV.any, AV.any, AV.any, AV.any, AV.any, AV.any, AV.any,
                            AV.int IntKind.i64 (↑n : Int), AV.bool true, AV.any, AV.any,
                            AV.tup [AV.int IntKind.i64 (↑(findI (pre s n)) : Int), AV.bool (findB (pre s n))], AV.sl false 109 0 109 true, AV.str s,
                            AV.int IntKind.i64 (↑n : Int),
                            AV.str (List.take (slHi s.length (some (↑n : Int)) - 0) (List.drop 0 s)),
                            AV.tup [AV.int IntKind.i64 (↑(findI (pre s n)) : Int), AV.bool (findB (pre s n))], AV.int IntKind.i64 (↑(findI (pre s n)) : Int), AV.bool (findB (pre s n)),
                            AV.bool true, AV.sl false 109 0 109 true, AV.int IntKind.i64 (↑(findI (pre s n)) : Int),
                            AV.ptr false 109 (0 + (↑(findI (pre s n)) : Int).toNat) 0, AV.ptr false 109 (0 + (↑(findI (pre s n)) : Int).toNat) 0,
                            AV.str (nameAt (0 + (↑(findI (pre s n)) : Int).toNat)), AV.sl false 109 0 109 true,
                            AV.int IntKind.i64 (↑(findI (pre s n)) : Int), AV.ptr false 109 (0 + (↑(findI (pre s n)) : Int).toNat) 0,
                            AV.ptr false 109 (0 + (↑(findI (pre s n)) : Int).toNat) 1,
                            AV.sl false (0 + (0 + (↑(findI (pre s n)) : Int).toNat)) 0 (scAt (0 + (↑(findI (pre s n)) : Int).toNat)).length true] (tabRowsG 0))
                    else False
                else False
              else False
            else False
          else False
        else False
      else
        k Exit.normal (St.mk [AV.str s, AV.any, AV.str [], AV.nils, AV.sl false 109 0 109 true, AV.any, AV.any, AV.any,
            AV.int IntKind.i64 (IntKind.i64.wrap ((↑n : Int) - 1)), AV.int IntKind.i64 (↑(findI (pre s n)) : Int), AV.bool (findB (pre s n)), AV.any,
            AV.any, AV.any, AV.any, AV.any, AV.any, AV.any, AV.any, AV.any, AV.any, AV.any, AV.any, AV.any, AV.any,
            AV.any, AV.any, AV.any, AV.int IntKind.i64 (↑n : Int), AV.bool true, AV.int IntKind.i64 (↑n : Int),
            AV.int IntKind.i64 (IntKind.i64.wrap ((↑n : Int) - 1)), AV.tup [AV.int IntKind.i64 (↑(findI (pre s n)) : Int), AV.bool (findB (pre s n))],
            AV.sl false 109 0 109 true, AV.str s, AV.int IntKind.i64 (↑n : Int),
            AV.str (List.take (slHi s.length (some (↑n : Int)) - 0) (List.drop 0 s)),
            AV.tup [AV.int IntKind.i64 (↑(findI (pre s n)) : Int), AV.bool (findB (pre s n))], AV.int IntKind.i64 (↑(findI (pre s n)) : Int), AV.bool (findB (pre s n)), AV.bool false,
            AV.any, AV.any, AV.any, AV.any, AV.any, AV.any, AV.any, AV.any, AV.any, AV.any] (tabRowsG 0))
    else False
  else
    k (Exit.exit 2) (St.mk [AV.str s, AV.any, AV.str [], AV.nils, AV.sl false 109 0 109 true, AV.any, AV.any, AV.any,
        AV.int IntKind.i64 (↑n : Int), AV.any, AV.any, AV.any, AV.any, AV.any, AV.any, AV.any, AV.any, AV.any, AV.any,
        AV.any, AV.any, AV.any, AV.any, AV.any, AV.any, AV.any, AV.any, AV.any, AV.int IntKind.i64 (↑n : Int),
        AV.bool false, AV.any, AV.any, AV.any, AV.any, AV.any, AV.any, AV.any, AV.any, AV.any, AV.any, AV.any, AV.any,
        AV.any, AV.any, AV.any, AV.any, AV.any, AV.any, AV.any, AV.any, AV.any] (tabRowsG 0))
) := by kernel_rfl
end Go.Dc.Ka

/- Longest: what it answers to any text. -/
set_option linter.unusedVariables false
set_option linter.unusedSimpArgs false
namespace Go.Dc.Ka
open Go.Proofs Go.RowKit
set_option maxRecDepth 100000
noncomputable def lfrom (s : List UInt8) : Nat → Option Nat
  | 0 => none
  | n + 1 => bif findB (s.take (n + 1)) then some (findI (s.take (n + 1))) else lfrom s n
noncomputable def lf (s : List UInt8) : Option Nat := lfrom s (min 14 s.length)
theorem findI_lt {s : List UInt8} (h : findB s = true) : findI s < 109 := by
  unfold findB at h
  cases hb : Nat.blt (findI s) 109 with
  | false => rw [hb] at h; simp at h
  | true => simpa [Nat.blt_eq] using hb
theorem pre_eq (s : List UInt8) (n : Nat) : pre s n = s.take n := by
  simp [pre, slHi]
theorem viewG : View some (tabRowsG 0) (tabRowsG 0) := by
  have hG : (tabRowsG 0).length = 110 := by kernel_rfl
  have hm : (tab.map fun e => some (Row.lst 3 1 (e.2.map (AV.int .i64)))).length = 109 := by rw [List.length_map, tab_len]
  refine View.of ?_ (fun c c' b _ _ h1 h2 => by simp at h1 h2; omega)
  intro c o ho
  have ho' := ho
  have hc : c < 110 := by rw [← hG]; exact (List.getElem?_eq_some_iff.1 ho).1
  rw [hG]
  rcases (by omega : c < 109 ∨ c = 109) with h | rfl
  · unfold tabRowsG at ho
    rw [List.getElem?_append_left (by rw [hm]; exact h), List.getElem?_map] at ho
    obtain ⟨e, he, rfl⟩ := Option.map_eq_some_iff.1 ho
    exact ViewL.at_ (b := c) rfl ho' (gndInts _ _ _)
  · unfold tabRowsG at ho
    rw [List.getElem?_append_right (by rw [hm]; exact Nat.le_refl _), hm] at ho
    cases ho
    refine ViewL.at_ (b := 109) rfl ho' (.gen rfl fun i hi => ⟨by simp [ones, tabG, AV.cells, AV.one], ?_⟩)
    exact .aggI (.cons .strI (.cons (.slI (by omega) rfl) .nil))
noncomputable def retS (i : Nat) : St := ⟨[.any, .any, .str (nameAt i), .sl false i 0 (scAt i).length true] ++ List.replicate 47 .any, tabRowsG 0⟩
theorem fitG {T T' : List AV} (h : VwL some 110 T T') : Fit 110 ⟨T, tabRowsG 0⟩ ⟨T', tabRowsG 0⟩ := by
  have hG : (tabRowsG 0).length = 110 := by kernel_rfl
  exact ⟨some, ⟨viewG, by show VwL some (tabRowsG 0).length T T'; rw [hG]; exact h⟩, fun c hc => rfl, by show 110 ≤ (tabRowsG 0).length; rw [hG]; exact Nat.le_refl _⟩
theorem loopRound (R : Nat → RoRow) (s : List UInt8) (n : {n : Nat // n ≤ 14 ∧ n ≤ s.length ∧ lfrom s n = lf s}) :
    Safe Try.prog R (loopOf fi21 2) (fam2 s n.1) fun e st' => match e with
      | .normal => ∃ n' : {n : Nat // n ≤ 14 ∧ n ≤ s.length ∧ lfrom s n = lf s}, n'.1 < n.1 ∧ Fit 110 (fam2 s n'.1) st'
      | e => ∃ stE, Fit 110 stE st' ∧ ((e = .exit 2 ∧ lf s = none ∧ stE = fam2 s 0) ∨ (e = .ret ∧ ∃ i, lf s = some i ∧ stE = retS i)) := by
  obtain ⟨n, hn1, hn2, hn3⟩ := n
  show Safe Try.prog R (loopOf fi21 2) (fam2 s n) _
  refine Safe.rnd mixed (env21_ok R) (f := 21) (fi := fi21) (i := 2) (b := .loop (loopOf fi21 2)) (by kernel_rfl) (by kernel_rfl) (by kernel_rfl) 1000 ?_
  rw [round2, pre_eq]
  refine hcond (fun hp => ?_) (fun hp => ?_)
  · obtain ⟨m, rfl⟩ : ∃ m, n = m + 1 := ⟨n - 1, by have := of_decide_eq_true hp; omega⟩
    have hlf : (bif findB (s.take (m + 1)) then some (findI (s.take (m + 1))) else lfrom s m) = lf s := hn3
    refine hcond (fun _ => ?_) (fun h => by exfalso; simp [slCond] at h; omega)
    refine ⟨rfl, ?_⟩
    refine hcond (fun hB => ?_) (fun hB => ?_)
    · have hI := findI_lt hB
      rw [hB] at hlf
      simp only [cond_true] at hlf
      have e1 : (0 + (0 + ((findI (s.take (m + 1)) : Nat) : Int).toNat)) = findI (s.take (m + 1)) := by simp
      have e2 : (0 + ((findI (s.take (m + 1)) : Nat) : Int).toNat) = findI (s.take (m + 1)) := by simp
      rw [e1, e2]
      refine hcond (fun _ => ?_) (fun h => by exfalso; simp at h; omega)
      refine hcond (fun _ => ?_) (fun h => by exfalso; simp at h; omega)
      refine hcond (fun _ => ?_) (fun h => by exfalso; simp at h; omega)
      refine hcond (fun _ => ?_) (fun h => by exfalso; simp at h; omega)
      refine hcond (fun _ => ?_) (fun h => by exfalso; simp at h; omega)
      refine ⟨rfl, hcond (fun _ => ?_) (fun h => by exfalso; simp at h; omega)⟩
      refine ⟨rfl, retS (findI (s.take (m + 1))), fitG ?_, .inr ⟨rfl, _, hlf.symm, rfl⟩⟩
      iterate 51 refine VwL.cons (by first | exact Vw.anyI | exact Vw.intI | exact Vw.strI | exact Vw.nilsI | exact Vw.slI (by omega) rfl) ?_
      exact VwL.nil
    · rw [hB] at hlf
      simp only [cond_false] at hlf
      have hw : IntKind.i64.wrap (((m + 1 : Nat) : Int) - 1) = (m : Int) := by rw [wrap64 (((m + 1 : Nat) : Int) - 1) (by omega) (by omega)]; omega
      rw [hw]
      refine ⟨⟨m, by omega, by omega, hlf⟩, by show m < m + 1; omega, fitG ?_⟩
      iterate 51 refine VwL.cons (by first | exact Vw.anyI | exact Vw.intI | exact Vw.strI | exact Vw.nilsI | exact Vw.slI (by omega) rfl) ?_
      exact VwL.nil
  · obtain rfl : n = 0 := by have := of_decide_eq_false hp; omega
    refine ⟨fam2 s 0, fitG ?_, .inl ⟨rfl, hn3.symm, rfl⟩⟩
    iterate 51 refine VwL.cons (by first | exact Vw.anyI | exact Vw.intI | exact Vw.strI | exact Vw.nilsI | exact Vw.slI (by omega) rfl) ?_
    exact VwL.nil
end Go.Dc.Ka

/- Longest: a call of it. -/
set_option linter.unusedVariables false
set_option linter.unusedSimpArgs false
namespace Go.Dc.Ka
open Go.Proofs Go.RowKit
set_option maxRecDepth 100000
def minI (s : List UInt8) : Int := if false = true then if (s.length : Int) > 14 then (s.length : Int) else 14 else if (s.length : Int) < 14 then (s.length : Int) else 14
theorem minI_eq (s : List UInt8) : minI s = ((min 14 s.length : Nat) : Int) := by
  unfold minI
  rw [if_neg (by simp)]
  split <;> omega
noncomputable def start2 (s : List UInt8) : St := ⟨[.str s, .any, .str [], .nils, .sl false 109 0 109 true, .int .i64 14, .any, .any, .int .i64 (minI s)] ++ List.replicate 15 .any ++ [.int .i64 14, .str s, .int .i64 s.length, .int .i64 (minI s)] ++ List.replicate 23 .any, tabRowsG 0⟩
theorem safeLoop2 (R : Nat → RoRow) (s : List UInt8) : Safe Try.prog R (.block 2 (.loop (loopOf fi21 2))) (start2 s) fun e st => (e = .normal ∧ lf s = none ∧ st = fam2 s 0) ∨ (e = .ret ∧ ∃ i, lf s = some i ∧ st = retS i) := by
  have hG : (tabRowsG 0).length = 110 := by kernel_rfl
  have h := loop_block (P := Try.prog) (R := R) (I := {n : Nat // n ≤ 14 ∧ n ≤ s.length ∧ lfrom s n = lf s}) (fam := fun n => fam2 s n.1) (fun n => n.1)
    (X := fun e stE => (e = .exit 2 ∧ lf s = none ∧ stE = fam2 s 0) ∨ (e = .ret ∧ ∃ i, lf s = some i ∧ stE = retS i)) (id := 2)
    (i0 := ⟨min 14 s.length, Nat.min_le_left _ _, Nat.min_le_right _ _, rfl⟩) (st := start2 s) (f := some)
    ⟨viewG, by
      show VwL some (tabRowsG 0).length (fam2 s (min 14 s.length)).tmps _
      rw [hG]
      iterate 51 refine VwL.cons (by first | exact Vw.anyI | exact Vw.intI | exact Vw.strI | exact Vw.nilsI | exact Vw.slI (by omega) rfl | exact Vw.intE (minI_eq s)) ?_
      exact VwL.nil⟩ (fun c hc => rfl) (fun n => Nat.le_refl _) (by
      intro n
      show Safe Try.prog R (loopOf fi21 2) (fam2 s n.1) _
      have hN : (start2 s).rows.length = 110 := hG
      rw [hN]
      exact loopRound R s n)
  refine h.mono ?_
  rintro e st ⟨e0, rfl, ⟨rfl, h1, rfl⟩ | ⟨rfl, h1⟩⟩
  · exact .inl ⟨rfl, h1, rfl⟩
  · exact .inr ⟨rfl, h1⟩
noncomputable def loop2 : LoopSp := fun st k => match nthV st.tmps 0 with
  | .str s => st = start2 s ∧ bif (lf s).isSome then k .ret (retS ((lf s).getD 0)) else k .normal (fam2 s 0)
  | _ => False
theorem loop2_ok (R : Nat → RoRow) : ∀ st k, loop2 st k → Safe Try.prog R (.block 2 (.loop (loopOf fi21 2))) st k := by
  intro st k hk
  unfold loop2 at hk
  split at hk
  · rename_i s _
    obtain ⟨rfl, hk⟩ := hk
    refine (safeLoop2 R s).mono ?_
    rintro e st' (⟨rfl, h1, rfl⟩ | ⟨rfl, i, h1, rfl⟩)
    · rw [h1] at hk; exact hk
    · rw [h1] at hk; exact hk
  · exact hk.elim
noncomputable abbrev env21b (R : Nat → RoRow) : Env Prop := (env21 R).addLoop 21 2 loop2
theorem env21b_ok (R : Nat → RoRow) : EnvOK Try.prog (env21b R) id := (env21_ok R).addLoop (f := 21) (fi := fi21) (by kernel_rfl) (body := .loop (loopOf fi21 2)) (by kernel_rfl) (loop2_ok R)
theorem vc21 (R : Nat → RoRow) (s : List UInt8) (Q : AV → Rows → Prop) : vcd (env21b R) 10000 21 fi21 [.str s] [] Q =
    (start1 s = start1 s ∧ start2 s = start2 s ∧ bif (lf s).isSome then Q (.tup [.str (nameAt ((lf s).getD 0)), .sl false ((lf s).getD 0) 0 (scAt ((lf s).getD 0)).length true]) (tabRowsG 0) else Q (.tup [.str [], .nils]) (tabRowsG 0)) := by kernel_rfl
end Go.Dc.Ka

/- Longest: its contract. -/
set_option linter.unusedVariables false
set_option linter.unusedSimpArgs false
namespace Go.Dc.Ka
open Go.Proofs Go.RowKit
set_option maxRecDepth 100000
theorem lfrom_lt {s : List UInt8} : ∀ {n i : Nat}, lfrom s n = some i → i < 109
  | 0, i, h => by simp [lfrom] at h
  | n + 1, i, h => by
    have h' : (bif findB (s.take (n + 1)) then some (findI (s.take (n + 1))) else lfrom s n) = some i := h
    cases hb : findB (s.take (n + 1)) with
    | true => rw [hb] at h'; simp only [cond_true, Option.some.injEq] at h'; rw [← h']; exact findI_lt hb
    | false => rw [hb] at h'; exact lfrom_lt h'
noncomputable def lname (s : List UInt8) : List UInt8 := match lf s with | some i => nameAt i | none => []
noncomputable def lsca (s : List UInt8) : List Int := match lf s with | some i => scAt i | none => []
noncomputable def lrow (s : List UInt8) : Option Row := some (.gen 3 1 (lsca s).length fun j => .int .i64 ((lsca s).getD j 0))
theorem tab_row (i : Nat) (hi : i < 109) : (tabRowsG 0)[i]? = some (some (.lst 3 1 ((scAt i).map (AV.int .i64)))) := by
  have hm : (tab.map fun e => some (Row.lst 3 1 (e.2.map (AV.int .i64)))).length = 109 := by rw [List.length_map, tab_len]
  unfold tabRowsG
  rw [List.getElem?_append_left (by rw [hm]; exact hi), List.getElem?_map]
  have h : tab[i]? = some (tab.getD i ([], [])) := by
    rw [List.getD, List.getElem?_eq_getElem (by rw [tab_len]; exact hi)]
    rfl
  rw [h]
  rfl
theorem safe21 (R : Nat → RoRow) (s : List UInt8) : SafeCall Try.prog R 21 [.str s] [] fun v h => v = .tup [.str (lname s), .sl false 0 0 (lsca s).length false] ∧ h = [lrow s] := by
  have h0 : SafeCall Try.prog (env21b R).R 21 [.str s] [] fun v h => (∃ i, lf s = some i ∧ v = .tup [.str (nameAt i), .sl false i 0 (scAt i).length true] ∧ h = tabRowsG 0) ∨ (lf s = none ∧ v = .tup [.str [], .nils] ∧ h = tabRowsG 0) := by
    refine byVcd (env21b_ok R) (f := 21) (fi := fi21) (by kernel_rfl) 10000 (vc21 R s _) ⟨rfl, rfl, ?_⟩
    cases h : lf s with
    | some i => exact .inl ⟨i, rfl, rfl, rfl⟩
    | none => exact .inr ⟨rfl, rfl, rfl⟩
  refine h0.fit ?_
  rintro v h (⟨i, hi, rfl, rfl⟩ | ⟨hi, rfl, rfl⟩)
  · have hlt := lfrom_lt hi
    have e1 : lname s = nameAt i := by unfold lname; rw [hi]
    have e2 : lsca s = scAt i := by unfold lsca; rw [hi]
    refine ⟨_, _, ⟨fun c => some i, View.of ?_ ?_, ?_, fun c hc => absurd hc (Nat.not_lt_zero c), Nat.zero_le _⟩, rfl, rfl⟩
    · intro c o ho
      cases c with
      | zero =>
        simp only [List.getElem?_cons_zero, Option.some.injEq, lrow, e2] at ho
        subst ho
        exact ViewL.at_ (b := i) rfl (tab_row i hlt) (genInts _ _ _)
      | succ c => simp at ho
    · intro c c' b hc hc' _ _
      simp at hc hc'
      omega
    · rw [e1, e2]
      exact .tupI (.cons .strI (.cons (.slE (by simp) rfl) .nil))
  · have e1 : lname s = [] := by unfold lname; rw [hi]
    have e2 : lsca s = [] := by unfold lsca; rw [hi]
    refine ⟨_, _, ⟨fun c => Option.none, View.of ?_ ?_, ?_, fun c hc => absurd hc (Nat.not_lt_zero c), Nat.zero_le _⟩, rfl, rfl⟩
    · intro c o ho
      cases c with
      | zero =>
        simp only [List.getElem?_cons_zero, Option.some.injEq, lrow, e2] at ho
        subst ho
        exact ViewL.void rfl rfl
      | succ c => simp at ho
    · intro c c' b hc hc' h1 _
      simp at h1
    · rw [e1, e2]
      exact .tupI (.cons .strI (.cons (.slV (by simp) rfl) .nil))
noncomputable def spec21 : CallSpec := fun args h k => match args with
  | [.str s] => k (.tup [.str (lname s), .sl false h.length 0 (lsca s).length false]) (h ++ [lrow s])
  | _ => False
theorem spec21_ok (R : Nat → RoRow) : ∀ args h k, spec21 args h k → SafeCall Try.prog R 21 args h k := by
  intro args h k hk
  unfold spec21 at hk
  split at hk
  · rename_i s
    refine ((safe21 R s).fresh (.cons .strI .nil) h).mono ?_
    rintro v'' h'' ⟨v', h', ⟨rfl, rfl⟩, rfl, rfl⟩
    exact hk
  · exact hk.elim
end Go.Dc.Ka
