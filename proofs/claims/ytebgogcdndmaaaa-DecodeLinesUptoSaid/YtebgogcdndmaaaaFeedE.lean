/- Calls of Feed, where each byte is one scalar; what the statements of decode ask first is true. -/
import Derived.Test.YtebgogcdndmaaaaFeedD
import Derived.Test.YtebgogcdndmaaaaDcYi
set_option linter.unusedVariables false
set_option linter.unusedSimpArgs false
namespace Go.Dc.Ka
open Go.Proofs Go.RowKit
set_option maxRecDepth 100000
theorem byVcd {E : Env Prop} (hE : EnvOK Try.prog E id) {f : FuncId} {fi : FI} (hF : E.F f = some fi) {args : List AV} {h : Rows} {Q : AV → Rows → Prop} (n : Nat) {X : Prop} (e : vcd E n f fi args h Q = X) (hX : X) : SafeCall Try.prog E.R f args h Q :=
  SafeCall.vcd mixed hE hF n (e.symm ▸ hX)
def isTrue : CallSpec := fun args h k => match args with | [] => k (.bool true) h | _ => False
theorem isTrue_ok {R : Nat → RoRow} {f : FuncId} (h1 : SafeCall Try.prog R f [] [] fun v _ => v = .bool true) : ∀ args h k, isTrue args h k → SafeCall Try.prog R f args h k := by
  intro args h k hk
  unfold isTrue at hk
  split at hk
  · refine (h1.alone (by kernel_rfl) (fun v hv => by rw [hv]; rfl) h).mono ?_
    rintro v' h' ⟨rfl, rfl⟩
    exact hk
  · exact hk.elim
theorem vc22 (R : Nat → RoRow) (Q : AV → Prop) : vcd (base R) 10000 22 fi22 [] [] (fun v _ => Q v) =
    (AV.nils = AV.nils ∧ AV.nils = AV.nils ∧ Q (AV.bool true)) := by kernel_rfl
theorem safe22 (R : Nat → RoRow) : SafeCall Try.prog R 22 [] [] fun v _ => v = .bool true :=
  byVcd (base_ok R) (f := 22) (fi := fi22) (by kernel_rfl) 10000 (vc22 R (fun v => v = .bool true)) (by repeat' (first | exact rfl | apply And.intro))
theorem vc24 (R : Nat → RoRow) (a : Int) (s : List UInt8) (Q : AV → Rows → Prop) : vcd (env24 R) 10000 24 fi24 [.ptr false 0 0 0, .str s] [decRow a .nils] Q =
    (bif decide (s.length ≤ 9223372036854775807) then
    ((a - 0).NonNeg ∧
        (1099511627776 - (a + (↑s.length : Int))).NonNeg ∧
          St.mk
              [AV.ptr false 0 0 0, AV.str s, AV.tup [], AV.tup [], AV.nils, AV.nils, AV.ptr false 2 0 0, AV.tup [],
                AV.tup [], AV.ptr false 0 0 0, AV.bool false,
                AV.agg
                  [AV.int IntKind.i64 8364, AV.int IntKind.i64 129, AV.int IntKind.i64 8218, AV.int IntKind.i64 402,
                    AV.int IntKind.i64 8222, AV.int IntKind.i64 8230, AV.int IntKind.i64 8224, AV.int IntKind.i64 8225,
                    AV.int IntKind.i64 710, AV.int IntKind.i64 8240, AV.int IntKind.i64 352, AV.int IntKind.i64 8249,
                    AV.int IntKind.i64 338, AV.int IntKind.i64 141, AV.int IntKind.i64 381, AV.int IntKind.i64 143,
                    AV.int IntKind.i64 144, AV.int IntKind.i64 8216, AV.int IntKind.i64 8217, AV.int IntKind.i64 8220,
                    AV.int IntKind.i64 8221, AV.int IntKind.i64 8226, AV.int IntKind.i64 8211, AV.int IntKind.i64 8212,
                    AV.int IntKind.i64 732, AV.int IntKind.i64 8482, AV.int IntKind.i64 353, AV.int IntKind.i64 8250,
                    AV.int IntKind.i64 339, AV.int IntKind.i64 157, AV.int IntKind.i64 382, AV.int IntKind.i64 376],
                AV.str s, AV.sl false 3 0 s.length .no, AV.int IntKind.i64 (↑s.length : Int), AV.int IntKind.i64 0,
                AV.tup [], AV.tup [], AV.tup [], AV.tup [], AV.tup [], AV.tup [], AV.tup [], AV.tup [], AV.tup [],
                AV.tup [], AV.tup [], AV.tup [], AV.tup [], AV.tup [], AV.tup [], AV.tup [], AV.tup [], AV.tup [],
                AV.tup [], AV.tup [], AV.tup [], AV.tup [], AV.tup [], AV.tup [], AV.tup [], AV.tup [], AV.tup [],
                AV.tup [], AV.tup [], AV.tup [], AV.tup [], AV.tup [], AV.tup [], AV.tup [], AV.tup [], AV.tup [],
                AV.tup [], AV.tup [], AV.tup [], AV.tup [], AV.tup [], AV.tup [], AV.tup [], AV.tup [], AV.tup [],
                AV.tup [], AV.tup [], AV.tup []]
              [some
                  (Row.lst 62 9
                    [AV.agg
                        [AV.bool false, AV.int IntKind.i64 a, AV.int IntKind.i64 0, AV.int IntKind.i64 0,
                          AV.int IntKind.i64 0, AV.int IntKind.u8 0, AV.int IntKind.u8 0, AV.nils, AV.nils]]),
                some
                  (Row.lst 63 32
                    [AV.agg
                        [AV.int IntKind.i64 8364, AV.int IntKind.i64 129, AV.int IntKind.i64 8218,
                          AV.int IntKind.i64 402, AV.int IntKind.i64 8222, AV.int IntKind.i64 8230,
                          AV.int IntKind.i64 8224, AV.int IntKind.i64 8225, AV.int IntKind.i64 710,
                          AV.int IntKind.i64 8240, AV.int IntKind.i64 352, AV.int IntKind.i64 8249,
                          AV.int IntKind.i64 338, AV.int IntKind.i64 141, AV.int IntKind.i64 381,
                          AV.int IntKind.i64 143, AV.int IntKind.i64 144, AV.int IntKind.i64 8216,
                          AV.int IntKind.i64 8217, AV.int IntKind.i64 8220, AV.int IntKind.i64 8221,
                          AV.int IntKind.i64 8226, AV.int IntKind.i64 8211, AV.int IntKind.i64 8212,
                          AV.int IntKind.i64 732, AV.int IntKind.i64 8482, AV.int IntKind.i64 353,
                          AV.int IntKind.i64 8250, AV.int IntKind.i64 339, AV.int IntKind.i64 157,
                          AV.int IntKind.i64 382, AV.int IntKind.i64 376]]),
                some
                  (Row.lst 63 32
                    [AV.agg
                        [AV.int IntKind.i64 8364, AV.int IntKind.i64 129, AV.int IntKind.i64 8218,
                          AV.int IntKind.i64 402, AV.int IntKind.i64 8222, AV.int IntKind.i64 8230,
                          AV.int IntKind.i64 8224, AV.int IntKind.i64 8225, AV.int IntKind.i64 710,
                          AV.int IntKind.i64 8240, AV.int IntKind.i64 352, AV.int IntKind.i64 8249,
                          AV.int IntKind.i64 338, AV.int IntKind.i64 141, AV.int IntKind.i64 381,
                          AV.int IntKind.i64 143, AV.int IntKind.i64 144, AV.int IntKind.i64 8216,
                          AV.int IntKind.i64 8217, AV.int IntKind.i64 8220, AV.int IntKind.i64 8221,
                          AV.int IntKind.i64 8226, AV.int IntKind.i64 8211, AV.int IntKind.i64 8212,
                          AV.int IntKind.i64 732, AV.int IntKind.i64 8482, AV.int IntKind.i64 353,
                          AV.int IntKind.i64 8250, AV.int IntKind.i64 339, AV.int IntKind.i64 157,
                          AV.int IntKind.i64 382, AV.int IntKind.i64 376]]),
                some (Row.byt 5 s)] =
            St.mk
              [AV.ptr false 0 0 0, AV.str s, AV.tup [], AV.tup [], AV.nils, AV.nils, AV.ptr false 2 0 0, AV.tup [],
                AV.tup [], AV.ptr false 0 0 0, AV.bool false,
                AV.agg
                  [AV.int IntKind.i64 8364, AV.int IntKind.i64 129, AV.int IntKind.i64 8218, AV.int IntKind.i64 402,
                    AV.int IntKind.i64 8222, AV.int IntKind.i64 8230, AV.int IntKind.i64 8224, AV.int IntKind.i64 8225,
                    AV.int IntKind.i64 710, AV.int IntKind.i64 8240, AV.int IntKind.i64 352, AV.int IntKind.i64 8249,
                    AV.int IntKind.i64 338, AV.int IntKind.i64 141, AV.int IntKind.i64 381, AV.int IntKind.i64 143,
                    AV.int IntKind.i64 144, AV.int IntKind.i64 8216, AV.int IntKind.i64 8217, AV.int IntKind.i64 8220,
                    AV.int IntKind.i64 8221, AV.int IntKind.i64 8226, AV.int IntKind.i64 8211, AV.int IntKind.i64 8212,
                    AV.int IntKind.i64 732, AV.int IntKind.i64 8482, AV.int IntKind.i64 353, AV.int IntKind.i64 8250,
                    AV.int IntKind.i64 339, AV.int IntKind.i64 157, AV.int IntKind.i64 382, AV.int IntKind.i64 376],
                AV.str s, AV.sl false 3 0 s.length .no, AV.int IntKind.i64 (↑s.length : Int), AV.int IntKind.i64 0,
                AV.tup [], AV.tup [], AV.tup [], AV.tup [], AV.tup [], AV.tup [], AV.tup [], AV.tup [], AV.tup [],
                AV.tup [], AV.tup [], AV.tup [], AV.tup [], AV.tup [], AV.tup [], AV.tup [], AV.tup [], AV.tup [],
                AV.tup [], AV.tup [], AV.tup [], AV.tup [], AV.tup [], AV.tup [], AV.tup [], AV.tup [], AV.tup [],
                AV.tup [], AV.tup [], AV.tup [], AV.tup [], AV.tup [], AV.tup [], AV.tup [], AV.tup [], AV.tup [],
                AV.tup [], AV.tup [], AV.tup [], AV.tup [], AV.tup [], AV.tup [], AV.tup [], AV.tup [], AV.tup [],
                AV.tup [], AV.tup [], AV.tup []]
              [some
                  (Row.lst 62 9
                    [AV.agg
                        [AV.bool false, AV.int IntKind.i64 a, AV.int IntKind.i64 0, AV.int IntKind.i64 0,
                          AV.int IntKind.i64 0, AV.int IntKind.u8 0, AV.int IntKind.u8 0, AV.nils, AV.nils]]),
                some
                  (Row.lst 63 32
                    [AV.agg
                        [AV.int IntKind.i64 8364, AV.int IntKind.i64 129, AV.int IntKind.i64 8218,
                          AV.int IntKind.i64 402, AV.int IntKind.i64 8222, AV.int IntKind.i64 8230,
                          AV.int IntKind.i64 8224, AV.int IntKind.i64 8225, AV.int IntKind.i64 710,
                          AV.int IntKind.i64 8240, AV.int IntKind.i64 352, AV.int IntKind.i64 8249,
                          AV.int IntKind.i64 338, AV.int IntKind.i64 141, AV.int IntKind.i64 381,
                          AV.int IntKind.i64 143, AV.int IntKind.i64 144, AV.int IntKind.i64 8216,
                          AV.int IntKind.i64 8217, AV.int IntKind.i64 8220, AV.int IntKind.i64 8221,
                          AV.int IntKind.i64 8226, AV.int IntKind.i64 8211, AV.int IntKind.i64 8212,
                          AV.int IntKind.i64 732, AV.int IntKind.i64 8482, AV.int IntKind.i64 353,
                          AV.int IntKind.i64 8250, AV.int IntKind.i64 339, AV.int IntKind.i64 157,
                          AV.int IntKind.i64 382, AV.int IntKind.i64 376]]),
                some
                  (Row.lst 63 32
                    [AV.agg
                        [AV.int IntKind.i64 8364, AV.int IntKind.i64 129, AV.int IntKind.i64 8218,
                          AV.int IntKind.i64 402, AV.int IntKind.i64 8222, AV.int IntKind.i64 8230,
                          AV.int IntKind.i64 8224, AV.int IntKind.i64 8225, AV.int IntKind.i64 710,
                          AV.int IntKind.i64 8240, AV.int IntKind.i64 352, AV.int IntKind.i64 8249,
                          AV.int IntKind.i64 338, AV.int IntKind.i64 141, AV.int IntKind.i64 381,
                          AV.int IntKind.i64 143, AV.int IntKind.i64 144, AV.int IntKind.i64 8216,
                          AV.int IntKind.i64 8217, AV.int IntKind.i64 8220, AV.int IntKind.i64 8221,
                          AV.int IntKind.i64 8226, AV.int IntKind.i64 8211, AV.int IntKind.i64 8212,
                          AV.int IntKind.i64 732, AV.int IntKind.i64 8482, AV.int IntKind.i64 353,
                          AV.int IntKind.i64 8250, AV.int IntKind.i64 339, AV.int IntKind.i64 157,
                          AV.int IntKind.i64 382, AV.int IntKind.i64 376]]),
                some (Row.byt 5 s)]) ∧
      AV.nils = AV.nils ∧
        Q (AV.tup [AV.sl false 4 0 s.length .no, AV.nils])
          [some
              (Row.lst 62 9
                [AV.agg
                    [AV.bool false, AV.int IntKind.i64 (a + (↑s.length : Int)), AV.int IntKind.i64 0,
                      AV.int IntKind.i64 0, AV.int IntKind.i64 0, AV.int IntKind.u8 0, AV.int IntKind.u8 0, AV.nils,
                      AV.nils]]),
            some
              (Row.lst 63 32
                [AV.agg
                    [AV.int IntKind.i64 8364, AV.int IntKind.i64 129, AV.int IntKind.i64 8218, AV.int IntKind.i64 402,
                      AV.int IntKind.i64 8222, AV.int IntKind.i64 8230, AV.int IntKind.i64 8224,
                      AV.int IntKind.i64 8225, AV.int IntKind.i64 710, AV.int IntKind.i64 8240, AV.int IntKind.i64 352,
                      AV.int IntKind.i64 8249, AV.int IntKind.i64 338, AV.int IntKind.i64 141, AV.int IntKind.i64 381,
                      AV.int IntKind.i64 143, AV.int IntKind.i64 144, AV.int IntKind.i64 8216, AV.int IntKind.i64 8217,
                      AV.int IntKind.i64 8220, AV.int IntKind.i64 8221, AV.int IntKind.i64 8226,
                      AV.int IntKind.i64 8211, AV.int IntKind.i64 8212, AV.int IntKind.i64 732, AV.int IntKind.i64 8482,
                      AV.int IntKind.i64 353, AV.int IntKind.i64 8250, AV.int IntKind.i64 339, AV.int IntKind.i64 157,
                      AV.int IntKind.i64 382, AV.int IntKind.i64 376]]),
            some
              (Row.lst 63 32
                [AV.agg
                    [AV.int IntKind.i64 8364, AV.int IntKind.i64 129, AV.int IntKind.i64 8218, AV.int IntKind.i64 402,
                      AV.int IntKind.i64 8222, AV.int IntKind.i64 8230, AV.int IntKind.i64 8224,
                      AV.int IntKind.i64 8225, AV.int IntKind.i64 710, AV.int IntKind.i64 8240, AV.int IntKind.i64 352,
                      AV.int IntKind.i64 8249, AV.int IntKind.i64 338, AV.int IntKind.i64 141, AV.int IntKind.i64 381,
                      AV.int IntKind.i64 143, AV.int IntKind.i64 144, AV.int IntKind.i64 8216, AV.int IntKind.i64 8217,
                      AV.int IntKind.i64 8220, AV.int IntKind.i64 8221, AV.int IntKind.i64 8226,
                      AV.int IntKind.i64 8211, AV.int IntKind.i64 8212, AV.int IntKind.i64 732, AV.int IntKind.i64 8482,
                      AV.int IntKind.i64 353, AV.int IntKind.i64 8250, AV.int IntKind.i64 339, AV.int IntKind.i64 157,
                      AV.int IntKind.i64 382, AV.int IntKind.i64 376]]),
            some (Row.byt 5 s),
            some
              (Row.gen 38 2 s.length fun i =>
                AV.agg [AV.int IntKind.i64 (winI (byteI s i)), AV.int IntKind.i64 (a + (↑i : Int))])]
  else False) := by kernel_rfl
def feedW : Nat → Option Nat := fun c => if c = 0 then some 0 else if c = 1 then some 4 else none
theorem safe24 (R : Nat → RoRow) (a : Int) (s : List UInt8) (h0 : 0 ≤ a) (h1 : a + s.length ≤ 1099511627776) :
    SafeCall Try.prog R 24 [.ptr false 0 0 0, .str s] [decRow a .nils] fun v h => v = .tup [.sl false 1 0 s.length .no, .nils] ∧ h = [decRow (a + s.length) .nils, some (.gen 38 2 s.length (outF a s))] := by
  have h2 : SafeCall Try.prog (env24 R).R 24 [.ptr false 0 0 0, .str s] [decRow a .nils] fun v h => v = .tup [.sl false 4 0 s.length .no, .nils] ∧ h = [decRow (a + s.length) .nils, winRow, winRow, some (.byt 5 s), some (.gen 38 2 s.length (outF a s))] := by
    refine byVcd (env24_ok R) (f := 24) (fi := fi24) (by kernel_rfl) 10000 (vc24 R a s _) ?_
    rw [decide_eq_true (show s.length ≤ 9223372036854775807 by omega)]
    refine ⟨⟨Int.le_def.1 h0, Int.le_def.1 h1, rfl⟩, ?_⟩
    repeat' (first | exact rfl | apply And.intro)
  refine h2.fit ?_
  rintro v h ⟨rfl, rfl⟩
  refine ⟨_, _, ⟨feedW, View.of ?_ ?_, ?_, ?_, ?_⟩, rfl, rfl⟩
  · intro c o ho
    have hc : c < 2 := (List.getElem?_eq_some_iff.1 ho).1
    rcases (by omega : c = 0 ∨ c = 1) with rfl | rfl
    · cases ho
      exact ViewL.at_ (b := 0) rfl rfl (.gnd rfl rfl)
    · cases ho
      exact ViewL.at_ (b := 4) rfl rfl (.gen rfl fun j _ => ⟨rfl, gnd_vw _ _ _ rfl⟩)
  · intro c c' b hc hc' e e'
    simp only [feedW] at e e'
    repeat' split at e
    all_goals repeat' split at e'
    all_goals simp at e e'
    all_goals omega
  · exact .tupI (.cons (.slI (by simp) rfl) (.cons .nilsI .nil))
  · intro c hc
    have : c = 0 := by simp at hc; exact hc
    subst this
    rfl
  · simp
def spec24 : CallSpec := fun args h k => match args with
  | [.ptr false b 0 0, .str s] => match h.live b with
    | some (.lst _ _ [.agg (_ :: .int _ a :: _)]) => (h[b]? = some (decRow a .nils) ∧ 0 ≤ a ∧ a + s.length ≤ 1099511627776) ∧
        k (.tup [.sl false (h.length + 1) 0 s.length .no, .nils]) (h.set b (decRow (a + s.length) .nils) ++ [none, some (.gen 38 2 s.length (outF a s))])
    | _ => False
  | _ => False
theorem spec24_ok (R : Nat → RoRow) : ∀ args h k, spec24 args h k → SafeCall Try.prog R 24 args h k := by
  intro args h k hk
  unfold spec24 at hk
  split at hk
  · rename_i b s
    split at hk
    · obtain ⟨⟨hb, h0, h1⟩, hk⟩ := hk
      refine ((safe24 R _ s h0 h1).focus1 (argsL := [.ptr false 0 0 0, .str s]) (args := [.ptr false b 0 0, .str s]) hb (.gnd rfl rfl) (.cons (.ptrI (by simp) rfl) (.cons .strI .nil))).mono ?_
      rintro v h' ⟨rfl, rfl⟩
      exact hk
    · exact hk.elim
  · exact hk.elim
noncomputable abbrev env9 (R : Nat → RoRow) : Env Prop := ((base R).addCall 22 isTrue).addCall 24 spec24
theorem env9_ok (R : Nat → RoRow) : EnvOK Try.prog (env9 R) id :=
  ((base_ok R).addCall (f := 22) (fi := fi22) (by kernel_rfl) (isTrue_ok (safe22 R))).addCall (f := 24) (fi := fi24) (by kernel_rfl) (spec24_ok R)
end Go.Dc.Ka
