/- Feed of one byte, in both codings, as a contract. -/
import Derived.Test.YtebgogcdndmaaaaUtfP
set_option linter.unusedVariables false
set_option linter.unusedSimpArgs false
namespace Go.Dc.Ka
open Go.Proofs Go.RowKit
set_option maxRecDepth 100000
theorem vcB24 (R : Nat → RoRow) (c : UInt8) (a : Int) (Q : AV → Rows → Prop) : vcd (env38 R) 10000 24 fi24 [.ptr false 0 0 0, .str [c]] [decRow a .nils] Q = (bif decide ((↑([c].getD (0 + Int.toNat 0) 0).toNat : Int) ≥ 128) then bif decide ((↑([c].getD (0 + Int.toNat 0) 0).toNat : Int) < 160) then bif decide (0 ≤ IntKind.u8.wrap ((↑([c].getD (0 + Int.toNat 0) 0).toNat : Int) - 128)) && decide (IntKind.u8.wrap ((↑([c].getD (0 + Int.toNat 0) 0).toNat : Int) - 128) < 32) then bif decide (0 + (IntKind.u8.wrap ((↑([c].getD (0 + Int.toNat 0) 0).toNat : Int) - 128)).toNat * 1 < 32) then AV.nils = AV.nils ∧ Q (AV.tup [AV.sl false 5 0 1 Cp.no, AV.nils]) [some (Row.lst 62 9 [AV.agg [AV.bool false, AV.int IntKind.i64 (IntKind.i64.wrap (a + 1)), AV.int IntKind.i64 0, AV.int IntKind.i64 0, AV.int IntKind.i64 0, AV.int IntKind.u8 0, AV.int IntKind.u8 0, AV.nils, AV.nils]]), some (Row.lst 63 32 [AV.agg [AV.int IntKind.i64 8364, AV.int IntKind.i64 129, AV.int IntKind.i64 8218, AV.int IntKind.i64 402, AV.int IntKind.i64 8222, AV.int IntKind.i64 8230, AV.int IntKind.i64 8224, AV.int IntKind.i64 8225, AV.int IntKind.i64 710, AV.int IntKind.i64 8240, AV.int IntKind.i64 352, AV.int IntKind.i64 8249, AV.int IntKind.i64 338, AV.int IntKind.i64 141, AV.int IntKind.i64 381, AV.int IntKind.i64 143, AV.int IntKind.i64 144, AV.int IntKind.i64 8216, AV.int IntKind.i64 8217, AV.int IntKind.i64 8220, AV.int IntKind.i64 8221, AV.int IntKind.i64 8226, AV.int IntKind.i64 8211, AV.int IntKind.i64 8212, AV.int IntKind.i64 732, AV.int IntKind.i64 8482, AV.int IntKind.i64 353, AV.int IntKind.i64 8250, AV.int IntKind.i64 339, AV.int IntKind.i64 157, AV.int IntKind.i64 382, AV.int IntKind.i64 376]]), some (Row.lst 63 32 [AV.agg [AV.int IntKind.i64 8364, AV.int IntKind.i64 129, AV.int IntKind.i64 8218, AV.int IntKind.i64 402, AV.int IntKind.i64 8222, AV.int IntKind.i64 8230, AV.int IntKind.i64 8224, AV.int IntKind.i64 8225, AV.int IntKind.i64 710, AV.int IntKind.i64 8240, AV.int IntKind.i64 352, AV.int IntKind.i64 8249, AV.int IntKind.i64 338, AV.int IntKind.i64 141, AV.int IntKind.i64 381, AV.int IntKind.i64 143, AV.int IntKind.i64 144, AV.int IntKind.i64 8216, AV.int IntKind.i64 8217, AV.int IntKind.i64 8220, AV.int IntKind.i64 8221, AV.int IntKind.i64 8226, AV.int IntKind.i64 8211, AV.int IntKind.i64 8212, AV.int IntKind.i64 732, AV.int IntKind.i64 8482, AV.int IntKind.i64 353, AV.int IntKind.i64 8250, AV.int IntKind.i64 339, AV.int IntKind.i64 157, AV.int IntKind.i64 382, AV.int IntKind.i64 376]]), some (Row.byt 5 [c]), some (Row.lst 38 2 [AV.agg [AV.int IntKind.i64 ([8364, 129, 8218, 402, 8222, 8230, 8224, 8225, 710, 8240, 352, 8249, 338, 141, 381, 143, 144, 8216, 8217, 8220, 8221, 8226, 8211, 8212, 732, 8482, 353, 8250, 339, 157, 382, 376].getD (0 + (IntKind.u8.wrap ((↑([c].getD (0 + Int.toNat 0) 0).toNat : Int) - 128)).toNat * 1) 0), AV.int IntKind.i64 a]]), some (Row.lst 38 2 [AV.agg [AV.int IntKind.i64 ([8364, 129, 8218, 402, 8222, 8230, 8224, 8225, 710, 8240, 352, 8249, 338, 141, 381, 143, 144, 8216, 8217, 8220, 8221, 8226, 8211, 8212, 732, 8482, 353, 8250, 339, 157, 382, 376].getD (0 + (IntKind.u8.wrap ((↑([c].getD (0 + Int.toNat 0) 0).toNat : Int) - 128)).toNat * 1) 0), AV.int IntKind.i64 a]])] else False else False else AV.nils = AV.nils ∧ Q (AV.tup [AV.sl false 5 0 1 Cp.no, AV.nils]) [some (Row.lst 62 9 [AV.agg [AV.bool false, AV.int IntKind.i64 (IntKind.i64.wrap (a + 1)), AV.int IntKind.i64 0, AV.int IntKind.i64 0, AV.int IntKind.i64 0, AV.int IntKind.u8 0, AV.int IntKind.u8 0, AV.nils, AV.nils]]), some (Row.lst 63 32 [AV.agg [AV.int IntKind.i64 8364, AV.int IntKind.i64 129, AV.int IntKind.i64 8218, AV.int IntKind.i64 402, AV.int IntKind.i64 8222, AV.int IntKind.i64 8230, AV.int IntKind.i64 8224, AV.int IntKind.i64 8225, AV.int IntKind.i64 710, AV.int IntKind.i64 8240, AV.int IntKind.i64 352, AV.int IntKind.i64 8249, AV.int IntKind.i64 338, AV.int IntKind.i64 141, AV.int IntKind.i64 381, AV.int IntKind.i64 143, AV.int IntKind.i64 144, AV.int IntKind.i64 8216, AV.int IntKind.i64 8217, AV.int IntKind.i64 8220, AV.int IntKind.i64 8221, AV.int IntKind.i64 8226, AV.int IntKind.i64 8211, AV.int IntKind.i64 8212, AV.int IntKind.i64 732, AV.int IntKind.i64 8482, AV.int IntKind.i64 353, AV.int IntKind.i64 8250, AV.int IntKind.i64 339, AV.int IntKind.i64 157, AV.int IntKind.i64 382, AV.int IntKind.i64 376]]), some (Row.lst 63 32 [AV.agg [AV.int IntKind.i64 8364, AV.int IntKind.i64 129, AV.int IntKind.i64 8218, AV.int IntKind.i64 402, AV.int IntKind.i64 8222, AV.int IntKind.i64 8230, AV.int IntKind.i64 8224, AV.int IntKind.i64 8225, AV.int IntKind.i64 710, AV.int IntKind.i64 8240, AV.int IntKind.i64 352, AV.int IntKind.i64 8249, AV.int IntKind.i64 338, AV.int IntKind.i64 141, AV.int IntKind.i64 381, AV.int IntKind.i64 143, AV.int IntKind.i64 144, AV.int IntKind.i64 8216, AV.int IntKind.i64 8217, AV.int IntKind.i64 8220, AV.int IntKind.i64 8221, AV.int IntKind.i64 8226, AV.int IntKind.i64 8211, AV.int IntKind.i64 8212, AV.int IntKind.i64 732, AV.int IntKind.i64 8482, AV.int IntKind.i64 353, AV.int IntKind.i64 8250, AV.int IntKind.i64 339, AV.int IntKind.i64 157, AV.int IntKind.i64 382, AV.int IntKind.i64 376]]), some (Row.byt 5 [c]), some (Row.lst 38 2 [AV.agg [AV.int IntKind.i64 (IntKind.i64.wrap (↑([c].getD (0 + Int.toNat 0) 0).toNat : Int)), AV.int IntKind.i64 a]]), some (Row.lst 38 2 [AV.agg [AV.int IntKind.i64 (IntKind.i64.wrap (↑([c].getD (0 + Int.toNat 0) 0).toNat : Int)), AV.int IntKind.i64 a]])] else AV.nils = AV.nils ∧ Q (AV.tup [AV.sl false 5 0 1 Cp.no, AV.nils]) [some (Row.lst 62 9 [AV.agg [AV.bool false, AV.int IntKind.i64 (IntKind.i64.wrap (a + 1)), AV.int IntKind.i64 0, AV.int IntKind.i64 0, AV.int IntKind.i64 0, AV.int IntKind.u8 0, AV.int IntKind.u8 0, AV.nils, AV.nils]]), some (Row.lst 63 32 [AV.agg [AV.int IntKind.i64 8364, AV.int IntKind.i64 129, AV.int IntKind.i64 8218, AV.int IntKind.i64 402, AV.int IntKind.i64 8222, AV.int IntKind.i64 8230, AV.int IntKind.i64 8224, AV.int IntKind.i64 8225, AV.int IntKind.i64 710, AV.int IntKind.i64 8240, AV.int IntKind.i64 352, AV.int IntKind.i64 8249, AV.int IntKind.i64 338, AV.int IntKind.i64 141, AV.int IntKind.i64 381, AV.int IntKind.i64 143, AV.int IntKind.i64 144, AV.int IntKind.i64 8216, AV.int IntKind.i64 8217, AV.int IntKind.i64 8220, AV.int IntKind.i64 8221, AV.int IntKind.i64 8226, AV.int IntKind.i64 8211, AV.int IntKind.i64 8212, AV.int IntKind.i64 732, AV.int IntKind.i64 8482, AV.int IntKind.i64 353, AV.int IntKind.i64 8250, AV.int IntKind.i64 339, AV.int IntKind.i64 157, AV.int IntKind.i64 382, AV.int IntKind.i64 376]]), some (Row.lst 63 32 [AV.agg [AV.int IntKind.i64 8364, AV.int IntKind.i64 129, AV.int IntKind.i64 8218, AV.int IntKind.i64 402, AV.int IntKind.i64 8222, AV.int IntKind.i64 8230, AV.int IntKind.i64 8224, AV.int IntKind.i64 8225, AV.int IntKind.i64 710, AV.int IntKind.i64 8240, AV.int IntKind.i64 352, AV.int IntKind.i64 8249, AV.int IntKind.i64 338, AV.int IntKind.i64 141, AV.int IntKind.i64 381, AV.int IntKind.i64 143, AV.int IntKind.i64 144, AV.int IntKind.i64 8216, AV.int IntKind.i64 8217, AV.int IntKind.i64 8220, AV.int IntKind.i64 8221, AV.int IntKind.i64 8226, AV.int IntKind.i64 8211, AV.int IntKind.i64 8212, AV.int IntKind.i64 732, AV.int IntKind.i64 8482, AV.int IntKind.i64 353, AV.int IntKind.i64 8250, AV.int IntKind.i64 339, AV.int IntKind.i64 157, AV.int IntKind.i64 382, AV.int IntKind.i64 376]]), some (Row.byt 5 [c]), some (Row.lst 38 2 [AV.agg [AV.int IntKind.i64 (IntKind.i64.wrap (↑([c].getD (0 + Int.toNat 0) 0).toNat : Int)), AV.int IntKind.i64 a]]), some (Row.lst 38 2 [AV.agg [AV.int IntKind.i64 (IntKind.i64.wrap (↑([c].getD (0 + Int.toNat 0) 0).toNat : Int)), AV.int IntKind.i64 a]])]) := by kernel_rfl
theorem fitB {Q : AV → Rows → Prop} {a : Int} {h : Rows} {bad : AV} {i k : Nat} {R : List AV} (hi0 : i ≠ 0) (hd : h[0]? = some (decRow a .nils)) (hr : h[i]? = some (some (.lst 38 2 R))) (hR : R.all (fun e => ones e && gnd e) = true)
    (hq : Q (.tup [.sl false 1 0 k .no, .any]) [decRow a .nils, some (.lst 38 2 R)]) :
    ∃ vE hE, FitV 1 vE hE (.tup [.sl false i 0 k .no, bad]) h ∧ Q vE hE := by
  refine ⟨_, _, ⟨mvF i, ?_, Vw.tupI (VwL.cons (Vw.slI (by simp) rfl) (VwL.cons Vw.anyI VwL.nil)), fun c hc => by rw [show c = 0 by omega]; rfl, by simp⟩, hq⟩
  refine View.of ?_ ?_
  · intro c o ho
    match c with
    | 0 => cases ho; exact ViewL.at_ (b := 0) rfl hd (RowV.lst1 rfl (by (repeat' (first | with_reducible exact VwL.nil | with_reducible refine VwL.cons ?_ ?_ | with_reducible exact Vw.strI | with_reducible exact Vw.boolI | with_reducible exact Vw.intI | with_reducible exact Vw.nilsI | with_reducible refine Vw.aggI ?_ | exact Vw.gndI rfl | exact Vw.slI (by simp) rfl))))
    | 1 => cases ho; exact ViewL.at_ (b := i) rfl hr (RowV.lstG hR)
    | c + 2 => simp at ho
  · intro c c' b hc hc' e e'
    match c, c' with
    | 0, 0 => rfl
    | 1, 1 => rfl
    | 0, 1 => simp [mvF] at e e'; omega
    | 1, 0 => simp [mvF] at e e'; omega
    | c + 2, _ => have hc : c + 2 < 2 := hc; omega
    | _, c' + 2 => have hc' : c' + 2 < 2 := hc'; omega
theorem safeB24 (R : Nat → RoRow) (c : UInt8) (a : Int) (Q : AV → Rows → Prop) (hQ : ∀ y, Q (.tup [.sl false 1 0 1 .no, .any]) [decRow (IntKind.i64.wrap (a + 1)) .nils, some (.lst 38 2 [rune y a])]) :
    SafeCall Try.prog R 24 [.ptr false 0 0 0, .str [c]] [decRow a .nils] Q := by
  refine SafeCall.fit (Q := fun r h => ∃ vE hE, FitV 1 vE hE r h ∧ Q vE hE) ?_ (fun _ _ h => h)
  refine byVcd (env38_ok R) (f := 24) (fi := fi24) (by kernel_rfl) 10000 (vcB24 R c a _) ?_
  have e : [c].getD (0 + Int.toNat 0) 0 = c := rfl
  rw [e]
  have hc : c.toNat < 256 := c.toNat_lt
  refine hcond (fun c1 => ?_) (fun c1 => ?_)
  · have c1 : (c.toNat : Int) ≥ 128 := of_decide_eq_true c1
    refine hcond (fun c2 => ?_) (fun c2 => ?_)
    · have c2 : (c.toNat : Int) < 160 := of_decide_eq_true c2
      have hw : IntKind.u8.wrap ((c.toNat : Int) - 128) = (c.toNat : Int) - 128 := wrap8 _ (by omega) (by omega)
      rw [hw]
      refine hcond (fun _ => ?_) (fun c3 => by exfalso; simp at c3; omega)
      refine hcond (fun _ => ?_) (fun c3 => by exfalso; have := of_decide_eq_false c3; omega)
      exact ⟨rfl, fitB (by decide) rfl rfl rfl (hQ _)⟩
    · exact ⟨rfl, fitB (by decide) rfl rfl rfl (hQ _)⟩
  · exact ⟨rfl, fitB (by decide) rfl rfl rfl (hQ _)⟩
def FC (a b l : Int) (Q : AV → Rows → Prop) : Prop :=
  (0 < l → ∀ y v lo hi, Q (.tup [.sl false 1 0 2 .no, .any]) [decU (IntKind.i64.wrap (a + 1)) a 0 v lo hi .nils .nils, some (.lst 38 2 [rune 65533 b, rune y a])]) ∧
  (0 < l → ∀ l' b' y v lo hi, (l' = 0 ∨ (1 ≤ l' ∧ l' ≤ 3 ∧ b' = a)) → Q (.tup [.sl false 1 0 1 .no, .any]) [decU (IntKind.i64.wrap (a + 1)) b' l' v lo hi .nils .nils, some (.lst 38 2 [rune y b])]) ∧
  (l = 0 → ∀ y v lo hi, Q (.tup [.sl false 1 0 1 .no, .any]) [decU (IntKind.i64.wrap (a + 1)) a 0 v lo hi .nils .nils, some (.lst 38 2 [rune y a])]) ∧
  (l = 0 → ∀ l' v lo hi, 1 ≤ l' → l' ≤ 3 → Q (.tup [.nils, .any]) [decU (IntKind.i64.wrap (a + 1)) a l' v lo hi .nils .nils]) ∧
  (0 < l → IntKind.i64.wrap (l - 1) ≠ 0 → ∀ v lo hi, Q (.tup [.nils, .any]) [decU (IntKind.i64.wrap (a + 1)) b (IntKind.i64.wrap (l - 1)) v lo hi .nils .nils])
/-- Feed, of one byte. -/
def spec24S : CallSpec := fun args h k => match args with
  | [.ptr false d 0 0, .str p] => match h[d]? with
    | some (some (.lst 62 9 [.agg [.bool true, .int .i64 a, .int .i64 b, .int .i64 l, .int .i64 v, .int .u8 lo, .int .u8 hi, .nils, .nils]])) =>
      p.length = 1 ∧ 0 ≤ l ∧ FC a b l fun r h' => k (ren (ext (one1 d) 1 h.length) r) (merged (one1 d) 1 1 h h')
    | some (some (.lst 62 9 [.agg [.bool false, .int .i64 a, .int .i64 b, .int .i64 l, .int .i64 v, .int .u8 lo, .int .u8 hi, .nils, .nils]])) =>
      p.length = 1 ∧ b = 0 ∧ l = 0 ∧ v = 0 ∧ lo = 0 ∧ hi = 0 ∧ ∀ y, k (ren (ext (one1 d) 1 h.length) (.tup [.sl false 1 0 1 .no, .any])) (merged (one1 d) 1 1 h [decRow (IntKind.i64.wrap (a + 1)) .nils, some (.lst 38 2 [rune y a])])
    | _ => False
  | _ => False
theorem len1 {p : List UInt8} (h : p.length = 1) : ∃ c, p = [c] := by
  match p with
  | [c] => exact ⟨c, rfl⟩
  | [] => simp at h
  | _ :: _ :: _ => simp at h
theorem one1_view {d : Nat} {h : Rows} {r : Row} {e : AV} (hr : r = .lst 62 9 [e]) (hd : h[d]? = some (some r)) (h1 : ones e = true) (h2 : Vw (one1 d) 1 e e) : View (one1 d) [some r] h := by
  subst hr
  refine View.of ?_ ?_
  · intro c o ho
    match c with
    | 0 => cases ho; exact ViewL.at_ (b := d) rfl hd (RowV.lst1 h1 h2)
    | c + 1 => simp at ho
  · intro c c' b hc hc' e e'
    have hc : c < 1 := hc
    have hc' : c' < 1 := hc'
    omega
theorem spec24S_ok (R : Nat → RoRow) : ∀ args h k, spec24S args h k → SafeCall Try.prog R 24 args h k := by
  intro args h k hk
  unfold spec24S at hk
  split at hk
  · rename_i d p
    split at hk
    · rename_i a b l v lo hi hd
      obtain ⟨hp, hl, h1, h2, h3, h4, h5⟩ := hk
      obtain ⟨c, rfl⟩ := len1 hp
      have hs := safeF24 R c a b l v lo hi hl (fun r h' => k (ren (ext (one1 d) 1 h.length) r) (merged (one1 d) 1 1 h h')) ⟨h1, h2, h3, h4, h5⟩
      have hV : View (one1 d) [decU a b l v lo hi .nils .nils] h := one1_view rfl hd rfl (by (repeat' (first | with_reducible exact VwL.nil | with_reducible refine VwL.cons ?_ ?_ | with_reducible exact Vw.strI | with_reducible exact Vw.boolI | with_reducible exact Vw.intI | with_reducible exact Vw.nilsI | with_reducible refine Vw.aggI ?_ | exact Vw.gndI rfl | exact Vw.slI (by simp) rfl)))
      refine (SafeCall.focus (f := one1 d) hV (argsL := [.ptr false 0 0 0, .str [c]]) ?_ hs).mono ?_
      · exact VwL.cons (Vw.ptrI (by simp) rfl) (VwL.cons Vw.strI VwL.nil)
      · rintro v'' h'' ⟨v', h', hq', rfl, rfl⟩
        exact hq'
    · rename_i a b l v lo hi hd
      obtain ⟨hp, rfl, rfl, rfl, rfl, rfl, hQ⟩ := hk
      obtain ⟨c, rfl⟩ := len1 hp
      have hs := safeB24 R c a (fun r h' => k (ren (ext (one1 d) 1 h.length) r) (merged (one1 d) 1 1 h h')) hQ
      have hV : View (one1 d) [decRow a .nils] h := one1_view rfl hd rfl (by (repeat' (first | with_reducible exact VwL.nil | with_reducible refine VwL.cons ?_ ?_ | with_reducible exact Vw.strI | with_reducible exact Vw.boolI | with_reducible exact Vw.intI | with_reducible exact Vw.nilsI | with_reducible refine Vw.aggI ?_ | exact Vw.gndI rfl | exact Vw.slI (by simp) rfl)))
      refine (SafeCall.focus (f := one1 d) hV (argsL := [.ptr false 0 0 0, .str [c]]) ?_ hs).mono ?_
      · exact VwL.cons (Vw.ptrI (by simp) rfl) (VwL.cons Vw.strI VwL.nil)
      · rintro v'' h'' ⟨v', h', hq', rfl, rfl⟩
        exact hq'
    · exact hk.elim
  · exact hk.elim
noncomputable abbrev env7 (R : Nat → RoRow) : Env Prop := ((base R).addCall 22 isTrue).addCall 24 spec24S
theorem env7_ok (R : Nat → RoRow) : EnvOK Try.prog (env7 R) id :=
  ((base_ok R).addCall (f := 22) (fi := fi22) (by kernel_rfl) (isTrue_ok (safe22 R))).addCall (f := 24) (fi := fi24) (by kernel_rfl) (spec24S_ok R)
noncomputable def lp7 : Code := loopOf fi7 0
theorem blk7 : blockOf fi7 0 = some (.loop lp7) := by kernel_rfl
def tm7 (s : List UInt8) (cd n q i : Int) : List AV := [.str s, .int .i64 cd, .any, .any, .any, .ptr false 0 0 0, .int .i64 n, .int .i64 q, .int .i64 i, .any, .any, .any, .any, .any, .any, .any, .any, .any, .any, .any, .any, .any, .any, .any, .any, .any, .any, .any, .any, .any, .any, .any, .any, .any, .any, .any, .any, .any, .any, .any, .any, .any, .any, .any, .any, .any, .any, .any, .any, .any, .any, .any, .any, .any, .any, .any, .any, .any, .any, .any, .any, .any, .any, .any, .any, .any, .any, .any, .any, .any, .any, .any, .any, .any, .any, .any, .any, .any, .any, .any, .any, .any, .any, .any, .any, .any, .any, .any, .any, .any, .any, .any, .any, .any, .any, .any, .any, .any, .any, .any, .any, .any, .any, .any, .any, .any, .any, .any, .any, .any]
def famU (s : List UInt8) (cd n q b l v lo hi : Int) (i : Nat) : St := ⟨tm7 s cd n q (i : Nat), [decU (i : Nat) b l v lo hi .nils .nils]⟩
def famB (s : List UInt8) (cd n q : Int) (i : Nat) : St := ⟨tm7 s cd n q (i : Nat), [decRow (i : Nat) .nils]⟩
end Go.Dc.Ka
