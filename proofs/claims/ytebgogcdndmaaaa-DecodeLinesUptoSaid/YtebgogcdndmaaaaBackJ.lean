/- The decoder in UTF-8, told exactly: Feed as a contract. -/
import Derived.Test.YtebgogcdndmaaaaBackI
set_option linter.unusedVariables false
set_option linter.unusedSimpArgs false
namespace Go.Dc.Ka
open Go.Proofs Go.RowKit
set_option maxRecDepth 100000
theorem vc24u (R : Nat → RoRow) (s : List UInt8) (Q : AV → Rows → Prop) : vcd (env24U R s) 10000 24 fi24 [.ptr false 0 0 0, .str s] [decU 0 0 0 0 0 0 .nils .nils] Q = (bif decide (s.length ≤ 9223372036854775807) then (St.mk [AV.ptr false 0 0 0, AV.str s, AV.tup [], AV.tup [], AV.nils, AV.nils, AV.ptr false 2 0 0, AV.tup [], AV.tup [], AV.ptr false 0 0 0, AV.bool false, AV.agg [AV.int IntKind.i64 8364, AV.int IntKind.i64 129, AV.int IntKind.i64 8218, AV.int IntKind.i64 402, AV.int IntKind.i64 8222, AV.int IntKind.i64 8230, AV.int IntKind.i64 8224, AV.int IntKind.i64 8225, AV.int IntKind.i64 710, AV.int IntKind.i64 8240, AV.int IntKind.i64 352, AV.int IntKind.i64 8249, AV.int IntKind.i64 338, AV.int IntKind.i64 141, AV.int IntKind.i64 381, AV.int IntKind.i64 143, AV.int IntKind.i64 144, AV.int IntKind.i64 8216, AV.int IntKind.i64 8217, AV.int IntKind.i64 8220, AV.int IntKind.i64 8221, AV.int IntKind.i64 8226, AV.int IntKind.i64 8211, AV.int IntKind.i64 8212, AV.int IntKind.i64 732, AV.int IntKind.i64 8482, AV.int IntKind.i64 353, AV.int IntKind.i64 8250, AV.int IntKind.i64 339, AV.int IntKind.i64 157, AV.int IntKind.i64 382, AV.int IntKind.i64 376], AV.str s, AV.sl false 3 0 s.length Cp.no, AV.int IntKind.i64 (↑s.length : Int), AV.int IntKind.i64 0, AV.tup [], AV.tup [], AV.tup [], AV.tup [], AV.tup [], AV.tup [], AV.tup [], AV.tup [], AV.tup [], AV.tup [], AV.tup [], AV.tup [], AV.tup [], AV.tup [], AV.tup [], AV.tup [], AV.tup [], AV.tup [], AV.tup [], AV.tup [], AV.tup [], AV.tup [], AV.tup [], AV.tup [], AV.tup [], AV.tup [], AV.tup [], AV.tup [], AV.tup [], AV.tup [], AV.tup [], AV.tup [], AV.tup [], AV.tup [], AV.tup [], AV.tup [], AV.tup [], AV.tup [], AV.tup [], AV.tup [], AV.tup [], AV.tup [], AV.tup [], AV.tup [], AV.tup [], AV.tup [], AV.tup [], AV.tup []] [some (Row.lst 62 9 [AV.agg [AV.bool true, AV.int IntKind.i64 0, AV.int IntKind.i64 0, AV.int IntKind.i64 0, AV.int IntKind.i64 0, AV.int IntKind.u8 0, AV.int IntKind.u8 0, AV.nils, AV.nils]]), winRow, winRow, some (Row.byt 5 s)] = St.mk [AV.ptr false 0 0 0, AV.str s, AV.tup [], AV.tup [], AV.nils, AV.nils, AV.ptr false 2 0 0, AV.tup [], AV.tup [], AV.ptr false 0 0 0, AV.bool false, AV.agg [AV.int IntKind.i64 8364, AV.int IntKind.i64 129, AV.int IntKind.i64 8218, AV.int IntKind.i64 402, AV.int IntKind.i64 8222, AV.int IntKind.i64 8230, AV.int IntKind.i64 8224, AV.int IntKind.i64 8225, AV.int IntKind.i64 710, AV.int IntKind.i64 8240, AV.int IntKind.i64 352, AV.int IntKind.i64 8249, AV.int IntKind.i64 338, AV.int IntKind.i64 141, AV.int IntKind.i64 381, AV.int IntKind.i64 143, AV.int IntKind.i64 144, AV.int IntKind.i64 8216, AV.int IntKind.i64 8217, AV.int IntKind.i64 8220, AV.int IntKind.i64 8221, AV.int IntKind.i64 8226, AV.int IntKind.i64 8211, AV.int IntKind.i64 8212, AV.int IntKind.i64 732, AV.int IntKind.i64 8482, AV.int IntKind.i64 353, AV.int IntKind.i64 8250, AV.int IntKind.i64 339, AV.int IntKind.i64 157, AV.int IntKind.i64 382, AV.int IntKind.i64 376], AV.str s, AV.sl false 3 0 s.length Cp.no, AV.int IntKind.i64 (↑s.length : Int), AV.int IntKind.i64 0, AV.tup [], AV.tup [], AV.tup [], AV.tup [], AV.tup [], AV.tup [], AV.tup [], AV.tup [], AV.tup [], AV.tup [], AV.tup [], AV.tup [], AV.tup [], AV.tup [], AV.tup [], AV.tup [], AV.tup [], AV.tup [], AV.tup [], AV.tup [], AV.tup [], AV.tup [], AV.tup [], AV.tup [], AV.tup [], AV.tup [], AV.tup [], AV.tup [], AV.tup [], AV.tup [], AV.tup [], AV.tup [], AV.tup [], AV.tup [], AV.tup [], AV.tup [], AV.tup [], AV.tup [], AV.tup [], AV.tup [], AV.tup [], AV.tup [], AV.tup [], AV.tup [], AV.tup [], AV.tup [], AV.tup [], AV.tup []] [some (Row.lst 62 9 [AV.agg [AV.bool true, AV.int IntKind.i64 0, AV.int IntKind.i64 0, AV.int IntKind.i64 0, AV.int IntKind.i64 0, AV.int IntKind.u8 0, AV.int IntKind.u8 0, AV.nils, AV.nils]]), winRow, winRow, some (Row.byt 5 s)] ∧ s.length.le 100000 ∧ okD 0 s d0) ∧ ∀ (b l v lo hi : Int) (out : List (Int × Int)), foldD 0 s d0 = DS.mk b l v lo hi out → AV.nils = AV.nils ∧ Q (AV.tup [AV.sl false 4 0 out.length Cp.no, AV.nils]) [some (Row.lst 62 9 [AV.agg [AV.bool true, AV.int IntKind.i64 (↑s.length : Int), AV.int IntKind.i64 b, AV.int IntKind.i64 l, AV.int IntKind.i64 v, AV.int IntKind.u8 lo, AV.int IntKind.u8 hi, AV.nils, AV.nils]]), winRow, winRow, some (Row.byt 5 s), some (Row.gen 38 2 out.length fun j => rune (out.getD j (0, 0)).fst (out.getD j (0, 0)).snd)] else False) := by kernel_rfl
theorem safe24U (R : Nat → RoRow) (s : List UInt8) (hs : s.length ≤ 100000) (hok : okD 0 s d0) :
    SafeCall Try.prog R 24 [.ptr false 0 0 0, .str s] [decU 0 0 0 0 0 0 .nils .nils] fun r h => ∃ b l v lo hi out, EndU s b l v lo hi out ∧ r = .tup [.sl false 1 0 out.length .no, .nils] ∧ h = [decU (s.length : Int) b l v lo hi .nils .nils, some (.gen 38 2 out.length (outG out))] := by
  have h2 : SafeCall Try.prog (env24U R s).R 24 [.ptr false 0 0 0, .str s] [decU 0 0 0 0 0 0 .nils .nils] fun r h => ∃ b l v lo hi out, EndU s b l v lo hi out ∧ r = .tup [.sl false 4 0 out.length .no, .nils] ∧ h = [decU (s.length : Int) b l v lo hi .nils .nils, winRow, winRow, some (.byt 5 s), some (.gen 38 2 out.length (outG out))] := by
    refine byVcd (env24U_ok R s) (f := 24) (fi := fi24) (by kernel_rfl) 10000 (vc24u R s _) ?_
    rw [decide_eq_true (show s.length ≤ 9223372036854775807 by omega)]
    refine ⟨⟨rfl, hs, hok⟩, ?_⟩
    intro b l v lo hi out he
    exact ⟨rfl, b, l, v, lo, hi, out, he, rfl, rfl⟩
  refine h2.fit ?_
  rintro r h ⟨b, l, v, lo, hi, out, he, rfl, rfl⟩
  refine ⟨_, _, ⟨feedW, View.of ?_ ?_, ?_, ?_, ?_⟩, b, l, v, lo, hi, out, he, rfl, rfl⟩
  · intro c o ho
    have hc : c < 2 := (List.getElem?_eq_some_iff.1 ho).1
    rcases (by omega : c = 0 ∨ c = 1) with rfl | rfl
    · cases ho
      exact ViewL.at_ (b := 0) rfl rfl (.gnd rfl rfl)
    · cases ho
      exact ViewL.at_ (b := 4) rfl rfl (.gen rfl fun j _ => ⟨rfl, gnd_vw _ _ _ rfl⟩)
  · intro c c' b hc hc' e e'
    simp only [feedW] at e e'
    repeat' split at e
    all_goals repeat' split at e'
    all_goals simp at e e'
    all_goals omega
  · exact .tupI (.cons (.slI (by simp) rfl) (.cons .nilsI .nil))
  · intro c hc
    have : c = 0 := by simp at hc; exact hc
    subst this
    rfl
  · simp
/-- Feed, of a text that is well written, by a decoder that is new. -/
def spec24U : CallSpec := fun args h k => match args with
  | [.ptr false c 0 0, .str s] => (h[c]? = some (decU 0 0 0 0 0 0 .nils .nils) ∧ s.length ≤ 100000 ∧ okD 0 s d0 ∧ (foldD 0 s d0).l = 0) ∧
      ∀ b v lo hi out, EndU s b 0 v lo hi out → k (.tup [.sl false (h.length + 1) 0 out.length .no, .nils]) (h.set c (decU (s.length : Int) b 0 v lo hi .nils .nils) ++ [none, some (.gen 38 2 out.length (outG out))])
  | _ => False
theorem spec24U_ok (R : Nat → RoRow) : ∀ args h k, spec24U args h k → SafeCall Try.prog R 24 args h k := by
  intro args h k hk
  unfold spec24U at hk
  split at hk
  · rename_i c s
    obtain ⟨⟨hc, hs, hok, hl⟩, hk⟩ := hk
    have h1 : SafeCall Try.prog R 24 [.ptr false 0 0 0, .str s] [decU 0 0 0 0 0 0 .nils .nils] fun r h' => ∃ o tl, (∃ b l v lo hi out, EndU s b l v lo hi out ∧ r = .tup [.sl false 1 0 out.length .no, .nils] ∧ o = decU (s.length : Int) b l v lo hi .nils .nils ∧ tl = [some (.gen 38 2 out.length (outG out))]) ∧ h' = o :: tl :=
      (safe24U R s hs hok).mono fun r h' ⟨b, l, v, lo, hi, out, he, e1, e2⟩ => ⟨_, _, ⟨b, l, v, lo, hi, out, he, e1, rfl, rfl⟩, e2⟩
    refine (h1.focus1Q (argsL := [.ptr false 0 0 0, .str s]) (args := [.ptr false c 0 0, .str s]) hc (.gnd rfl rfl) (.cons (.ptrI (by simp) rfl) (.cons .strI .nil))).mono ?_
    rintro v'' h'' ⟨V, o, tl, ⟨b, l, v', lo, hi, out, he, rfl, rfl, rfl⟩, rfl, rfl⟩
    have hl0 : l = 0 := by
      rw [show foldD 0 s d0 = _ from he] at hl
      exact hl
    subst hl0
    exact hk b v' lo hi out he
  · exact hk.elim
noncomputable abbrev env8 (R : Nat → RoRow) : Env Prop := ((base R).addCall 22 isTrue).addCall 24 spec24U
theorem env8_ok (R : Nat → RoRow) : EnvOK Try.prog (env8 R) id :=
  ((base_ok R).addCall (f := 22) (fi := fi22) (by kernel_rfl) (isTrue_ok (safe22 R))).addCall (f := 24) (fi := fi24) (by kernel_rfl) (spec24U_ok R)
noncomputable def lp8 : Code := loopOf fi8 0
theorem blk8 : blockOf fi8 0 = some (.loop lp8) := by kernel_rfl
noncomputable def lp8b : Code := loopOf fi8 2
theorem blk8b : blockOf fi8 2 = some (.loop lp8b) := by kernel_rfl
def tm8 (n : Nat) (s : List UInt8) (m : Nat) (i : Int) : List AV := [.sl true 0 0 n .no, .any, .any, .str s, .sl false 0 0 m .no, .int .i64 i, .any, .any, .any, .any, .any, .any, .any, .any, .any, .any, .any, .any, .any, .any, .any, .any, .any, .any, .any, .any, .any, .any, .any, .any, .any, .any, .any, .any, .any, .any, .any, .any, .any, .any, .any, .any, .any, .any, .any, .any, .any, .any, .any, .any, .any, .any, .any, .any, .any, .any, .any, .any, .any, .any, .any, .any, .any, .any, .any, .any, .any, .any, .any, .any, .any, .any, .any, .any, .any, .any, .any, .any, .any, .any, .any, .any, .any, .any, .any, .any, .any, .any, .any, .any, .any, .any, .any, .any, .any]
def tm8b (m k : Nat) (i : Int) : List AV := [.any, .any, .any, .any, .sl false 0 0 m .no, .any, .any, .any, .sl false 3 0 k .no, .any, .any, .any, .int .i64 i, .any, .any, .any, .any, .any, .any, .any, .any, .any, .any, .any, .any, .any, .any, .any, .any, .any, .any, .any, .any, .any, .any, .any, .any, .any, .any, .any, .any, .any, .any, .any, .any, .any, .any, .any, .any, .any, .any, .any, .any, .any, .any, .any, .any, .any, .any, .any, .any, .any, .any, .any, .any, .any, .any, .any, .any, .any, .any, .any, .any, .any, .any, .any, .any, .any, .any, .any, .any, .any, .any, .any, .any, .any, .any, .any, .any, .any, .any, .any, .any, .any, .any]
/-- Numbers that came in. -/
def roI (ty n : Nat) (F : Nat → Int) : Nat → RoRow := roL ty 1 n fun i => .int .i64 (F i)
end Go.Dc.Ka
