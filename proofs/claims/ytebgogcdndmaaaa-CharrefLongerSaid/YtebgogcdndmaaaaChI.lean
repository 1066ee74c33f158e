/- The comparison by which the table is searched. -/
import Derived.Test.YtebgogcdndmaaaaChH
set_option linter.unusedVariables false
set_option linter.unusedSimpArgs false
namespace Go.Dc.Ka
open Go.Proofs Go.RowKit
set_option maxRecDepth 100000
theorem vc45 (R : Nat → RoRow) (a s : List UInt8) (n m : Nat) (g : Nat → AV) (Q : AV → Rows → Prop) : vcd (envT R) 10000 45 fi45 [.agg [.str a, .sl false 0 0 n true], .str s] [some (.gen 3 1 m g)] Q =
  Q (AV.int IntKind.i64 (Lib.compareBytes a s)) [some (Row.gen 3 1 m g), some (Row.lst 58 2 [AV.agg [AV.str a, AV.sl false 0 0 n true]])] := by kernel_rfl
def intsOf : List AV → Option (List Int)
  | [] => some []
  | .int .i64 x :: l => (intsOf l).map (x :: ·)
  | _ => none
def spec45 : CallSpec := fun args h k => match args with
  | [.agg [.str a, .sl false b 0 n true], .str s] => match h.live b with
    | some (.lst 3 1 l) => match intsOf l with
      | some xs => k (.int .i64 (Lib.compareBytes a s)) h
      | none => False
    | _ => False
  | _ => False
theorem intsOf_map : ∀ {l : List AV} {xs : List Int}, intsOf l = some xs → l = xs.map (AV.int .i64)
  | [], xs, h => by simp only [intsOf, Option.some.injEq] at h; subst h; rfl
  | .int .i64 x :: l, xs, h => by
    simp only [intsOf] at h
    obtain ⟨ys, hy, rfl⟩ := Option.map_eq_some_iff.1 h
    simp only [List.map_cons]
    rw [← intsOf_map hy]
  | .int .u8 _ :: _, _, h => by simp [intsOf] at h
  | .any :: _, _, h => by simp [intsOf] at h
  | .bool _ :: _, _, h => by simp [intsOf] at h
  | .str _ :: _, _, h => by simp [intsOf] at h
  | .ptr .. :: _, _, h => by simp [intsOf] at h
  | .nilp :: _, _, h => by simp [intsOf] at h
  | .sl .. :: _, _, h => by simp [intsOf] at h
  | .nils :: _, _, h => by simp [intsOf] at h
  | .fn .. :: _, _, h => by simp [intsOf] at h
  | .nilf :: _, _, h => by simp [intsOf] at h
  | .ifc .. :: _, _, h => by simp [intsOf] at h
  | .nili :: _, _, h => by simp [intsOf] at h
  | .agg _ :: _, _, h => by simp [intsOf] at h
  | .tup _ :: _, _, h => by simp [intsOf] at h
  | .int .i8 _ :: _, _, h | .int .i16 _ :: _, _, h | .int .i32 _ :: _, _, h | .int .u16 _ :: _, _, h | .int .u32 _ :: _, _, h | .int .u64 _ :: _, _, h => by simp [intsOf] at h
theorem genInts (f : Nat → Option Nat) (n : Nat) (xs : List Int) : RowV f n (.gen 3 1 xs.length fun i => .int .i64 (xs.getD i 0)) (.lst 3 1 (xs.map (AV.int .i64))) where
  ty := rfl
  esz := rfl
  len := by simp [Row.len]
  get := fun i e he => by
    simp only [Row.get?] at he ⊢
    cases hb : Nat.blt i xs.length with
    | false => rw [hb] at he; simp at he
    | true =>
      rw [hb] at he
      simp only [cond_true, Option.some.injEq] at he
      subst he
      have hi : i < xs.length := by simpa [Nat.blt_eq] using hb
      refine ⟨by simp [AV.cells, AV.one], .int .i64 (xs.getD i 0), ?_, .intI⟩
      rw [List.getElem?_map, List.getElem?_eq_getElem hi]
      simp [List.getD, List.getElem?_eq_getElem hi]
theorem spec45_ok (R : Nat → RoRow) : ∀ args h k, spec45 args h k → SafeCall Try.prog R 45 args h k := by
  intro args h k hk
  unfold spec45 at hk
  split at hk
  · rename_i a b n s
    split at hk
    · rename_i l hl
      split at hk
      · rename_i xs hx
        have hx := intsOf_map hx
        subst hx
        have hb : h[b]? = some (some (.lst 3 1 (xs.map (AV.int .i64)))) := by
          unfold Rows.live at hl
          cases e : h[b]? with
          | none => rw [e] at hl; simp at hl
          | some o => rw [e] at hl; simp only [Option.join_some] at hl; rw [hl]
        have h1 : SafeCall Try.prog (envT R).R 45 [.agg [.str a, .sl false 0 0 n true], .str s] [some (.gen 3 1 xs.length fun i => .int .i64 (xs.getD i 0))] fun v h' => v = .int .i64 (Lib.compareBytes a s) ∧ h' = [some (Row.gen 3 1 xs.length fun i => .int .i64 (xs.getD i 0)), some (Row.lst 58 2 [AV.agg [AV.str a, AV.sl false 0 0 n true]])] :=
          byVcd (envT_ok R) (f := 45) (fi := fi45) (by kernel_rfl) 10000 (vc45 R a s n xs.length _ _) ⟨rfl, rfl⟩
        have h2 := h1.focus1 (args := [.agg [.str a, .sl false b 0 n true], .str s]) hb (genInts _ _ xs) (.cons (.aggI (.cons .strI (.cons (.slI (by simp) rfl) .nil))) (.cons .strI .nil))
        have h3 : SafeCall Try.prog R 45 [.agg [.str a, .sl false b 0 n true], .str s] h fun v h' => v = .int .i64 (Lib.compareBytes a s) ∧ h' = h := by
          refine SafeCall.trimV (h2.mono ?_) (fun v hv => by rw [hv]; rfl)
          rintro v h' ⟨rfl, rfl⟩
          refine ⟨rfl, fun hV => ?_⟩
          refine View.setAppend (r' := renRow (g1 b h.length) (.gen 3 1 xs.length fun i => .int .i64 (xs.getD i 0))) hb ⟨rfl, rfl, by simp [Row.len, renRow], ?_⟩ _ hV
          intro i e he
          simp only [Row.get?, List.getElem?_map] at he
          obtain ⟨x, hx, rfl⟩ := Option.map_eq_some_iff.1 he
          have hi : i < xs.length := (List.getElem?_eq_some_iff.1 hx).1
          refine ⟨by simp [AV.cells, AV.one], .int .i64 x, ?_, .intI⟩
          simp only [renRow, Row.get?]
          rw [show Nat.blt i xs.length = true by simpa [Nat.blt_eq] using hi]
          simp [ren, List.getD, hx]
        refine h3.mono ?_
        rintro v h' ⟨rfl, rfl⟩
        exact hk
      · exact hk.elim
    · exact hk.elim
  · exact hk.elim
end Go.Dc.Ka
