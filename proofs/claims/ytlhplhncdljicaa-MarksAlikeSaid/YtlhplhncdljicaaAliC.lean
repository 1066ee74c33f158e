/- Are two entries alike: pair as a contract; what the comparisons read. -/
import Derived.Test.YtlhplhncdljicaaAliB
set_option linter.unusedVariables false
set_option linter.unusedSimpArgs false
namespace Go.Dc.Kb
open Go.Proofs Go.RowKit
set_option maxRecDepth 100000
theorem vc140 (t n : Nat) (N V : Nat → Tx) (t' m : Nat) (N' V' : Nat → Tx) (wh at_ nd : Int) (nm : Tx) (D : List At) (i : Nat) (Q : AV → Rows → Prop) : vcd ((base (ro2A t n N V t' m N' V')).addLoop 14 0 (spec14o 0 n wh at_ nd nm D i)) 1000 14 fi14 [actA wh at_ nd nm 0 n] [] Q = ((AV.str nm = AV.str nm ∧ AV.int IntKind.i64 nd = AV.int IntKind.i64 nd ∧ AV.str nm = AV.str nm ∧ AV.int IntKind.i64 nd = AV.int IntKind.i64 nd ∧ AV.str nm = AV.str nm ∧ AV.int IntKind.i64 nd = AV.int IntKind.i64 nd ∧ AV.str nm = AV.str nm ∧ AV.int IntKind.i64 nd = AV.int IntKind.i64 nd ∧ AV.str nm = AV.str nm ∧ AV.int IntKind.i64 nd = AV.int IntKind.i64 nd ∧ (AV.ptr false 0 0 0 = AV.ptr false 0 0 0 ∧ AV.ptr false 1 0 0 = AV.ptr false 1 0 0 ∧ AV.ptr false 2 0 0 = AV.ptr false 2 0 0 ∧ AV.ptr false 4 0 0 = AV.ptr false 4 0 0 ∧ AV.int IntKind.i64 0 = AV.int IntKind.i64 0 ∧ 93 = 93 ∧ RowsAre [some (Row.lst 34 5 [AV.agg [AV.int IntKind.i64 wh, AV.int IntKind.i64 at_, AV.int IntKind.i64 nd, AV.str nm, AV.sl true 0 0 n Cp.no]]), some (Row.lst 37 3 [AV.agg [AV.int IntKind.i64 0, AV.str [], AV.nils]]), some (Row.lst 40 3 [AV.agg [AV.int IntKind.i64 0, AV.str [], AV.nils]]), some (Row.lst 37 3 [AV.agg [AV.int IntKind.i64 nd, AV.str nm, AV.nils]]), some (Row.lst 40 3 [AV.agg [AV.int IntKind.i64 nd, AV.str nm, AV.nils]])] [some (Row.lst 34 5 [AV.agg [AV.int IntKind.i64 wh, AV.int IntKind.i64 at_, AV.int IntKind.i64 nd, AV.str nm, AV.sl true 0 0 n Cp.no]]), some (Row.lst 37 3 [AV.agg [AV.int IntKind.i64 0, AV.str [], AV.nils]]), some (Row.lst 40 3 [AV.agg [AV.int IntKind.i64 0, AV.str [], AV.nils]]), some (Row.lst 37 3 [AV.agg [AV.int IntKind.i64 nd, AV.str nm, AV.nils]]), some (Row.lst 40 3 [AV.agg [AV.int IntKind.i64 nd, AV.str nm, AV.nils]])]) ∧ AV.agg [AV.int IntKind.i64 nd, AV.str nm, AV.sl false 6 0 D.length Cp.no] = AV.agg [AV.int IntKind.i64 nd, AV.str nm, AV.sl false 6 0 D.length Cp.no] ∧ Q (AV.tup [AV.agg [AV.int IntKind.i64 nd, AV.str nm, AV.sl false 5 0 D.length Cp.no], AV.agg [AV.int IntKind.i64 nd, AV.str nm, AV.sl false 6 0 D.length Cp.no]]) [some (Row.lst 34 5 [AV.agg [AV.int IntKind.i64 wh, AV.int IntKind.i64 at_, AV.int IntKind.i64 nd, AV.str nm, AV.sl true 0 0 n Cp.no]]), some (Row.lst 37 3 [AV.agg [AV.int IntKind.i64 nd, AV.str nm, AV.sl false 5 0 D.length Cp.no]]), some (Row.lst 40 3 [AV.agg [AV.int IntKind.i64 nd, AV.str nm, AV.sl false 6 0 D.length Cp.no]]), some (Row.lst 37 3 [AV.agg [AV.int IntKind.i64 nd, AV.str nm, AV.sl false 5 0 D.length Cp.no]]), some (Row.lst 40 3 [AV.agg [AV.int IntKind.i64 nd, AV.str nm, AV.sl false 6 0 D.length Cp.no]]), some (Row.gen 90 2 D.length fun j => AV.agg [AV.str (D.getD j ([], [])).fst, AV.str (D.getD j ([], [])).snd]), some (Row.gen 88 2 D.length fun j => AV.agg [AV.str (D.getD j ([], [])).fst, AV.str (D.getD j ([], [])).snd])]) ∧ AV.str nm = AV.str nm ∧ AV.int IntKind.i64 nd = AV.int IntKind.i64 nd ∧ AV.str nm = AV.str nm ∧ AV.int IntKind.i64 nd = AV.int IntKind.i64 nd ∧ AV.str nm = AV.str nm ∧ AV.int IntKind.i64 nd = AV.int IntKind.i64 nd ∧ AV.str nm = AV.str nm ∧ AV.int IntKind.i64 nd = AV.int IntKind.i64 nd ∧ AV.str nm = AV.str nm ∧ AV.int IntKind.i64 nd = AV.int IntKind.i64 nd ∧ (AV.ptr false 0 0 0 = AV.ptr false 0 0 0 ∧ AV.ptr false 1 0 0 = AV.ptr false 1 0 0 ∧ AV.ptr false 2 0 0 = AV.ptr false 2 0 0 ∧ AV.ptr false 3 0 0 = AV.ptr false 3 0 0 ∧ AV.int IntKind.i64 0 = AV.int IntKind.i64 0 ∧ 93 = 93 ∧ RowsAre [some (Row.lst 34 5 [AV.agg [AV.int IntKind.i64 wh, AV.int IntKind.i64 at_, AV.int IntKind.i64 nd, AV.str nm, AV.sl true 0 0 n Cp.no]]), some (Row.lst 37 3 [AV.agg [AV.int IntKind.i64 0, AV.str [], AV.nils]]), some (Row.lst 40 3 [AV.agg [AV.int IntKind.i64 0, AV.str [], AV.nils]]), some (Row.lst 40 3 [AV.agg [AV.int IntKind.i64 nd, AV.str nm, AV.nils]]), some (Row.lst 37 3 [AV.agg [AV.int IntKind.i64 nd, AV.str nm, AV.nils]])] [some (Row.lst 34 5 [AV.agg [AV.int IntKind.i64 wh, AV.int IntKind.i64 at_, AV.int IntKind.i64 nd, AV.str nm, AV.sl true 0 0 n Cp.no]]), some (Row.lst 37 3 [AV.agg [AV.int IntKind.i64 0, AV.str [], AV.nils]]), some (Row.lst 40 3 [AV.agg [AV.int IntKind.i64 0, AV.str [], AV.nils]]), some (Row.lst 40 3 [AV.agg [AV.int IntKind.i64 nd, AV.str nm, AV.nils]]), some (Row.lst 37 3 [AV.agg [AV.int IntKind.i64 nd, AV.str nm, AV.nils]])]) ∧ AV.agg [AV.int IntKind.i64 nd, AV.str nm, AV.sl false 6 0 D.length Cp.no] = AV.agg [AV.int IntKind.i64 nd, AV.str nm, AV.sl false 6 0 D.length Cp.no] ∧ Q (AV.tup [AV.agg [AV.int IntKind.i64 nd, AV.str nm, AV.sl false 5 0 D.length Cp.no], AV.agg [AV.int IntKind.i64 nd, AV.str nm, AV.sl false 6 0 D.length Cp.no]]) [some (Row.lst 34 5 [AV.agg [AV.int IntKind.i64 wh, AV.int IntKind.i64 at_, AV.int IntKind.i64 nd, AV.str nm, AV.sl true 0 0 n Cp.no]]), some (Row.lst 37 3 [AV.agg [AV.int IntKind.i64 nd, AV.str nm, AV.sl false 5 0 D.length Cp.no]]), some (Row.lst 40 3 [AV.agg [AV.int IntKind.i64 nd, AV.str nm, AV.sl false 6 0 D.length Cp.no]]), some (Row.lst 40 3 [AV.agg [AV.int IntKind.i64 nd, AV.str nm, AV.sl false 6 0 D.length Cp.no]]), some (Row.lst 37 3 [AV.agg [AV.int IntKind.i64 nd, AV.str nm, AV.sl false 5 0 D.length Cp.no]]), some (Row.gen 90 2 D.length fun j => AV.agg [AV.str (D.getD j ([], [])).fst, AV.str (D.getD j ([], [])).snd]), some (Row.gen 88 2 D.length fun j => AV.agg [AV.str (D.getD j ([], [])).fst, AV.str (D.getD j ([], [])).snd])]) := by kernel_rfl
theorem vc141 (t n : Nat) (N V : Nat → Tx) (t' m : Nat) (N' V' : Nat → Tx) (wh at_ nd : Int) (nm : Tx) (D : List At) (i : Nat) (Q : AV → Rows → Prop) : vcd ((base (ro2A t n N V t' m N' V')).addLoop 14 0 (spec14o 1 m wh at_ nd nm D i)) 1000 14 fi14 [actA wh at_ nd nm 1 m] [] Q = ((AV.str nm = AV.str nm ∧ AV.int IntKind.i64 nd = AV.int IntKind.i64 nd ∧ AV.str nm = AV.str nm ∧ AV.int IntKind.i64 nd = AV.int IntKind.i64 nd ∧ AV.str nm = AV.str nm ∧ AV.int IntKind.i64 nd = AV.int IntKind.i64 nd ∧ AV.str nm = AV.str nm ∧ AV.int IntKind.i64 nd = AV.int IntKind.i64 nd ∧ AV.str nm = AV.str nm ∧ AV.int IntKind.i64 nd = AV.int IntKind.i64 nd ∧ (AV.ptr false 0 0 0 = AV.ptr false 0 0 0 ∧ AV.ptr false 1 0 0 = AV.ptr false 1 0 0 ∧ AV.ptr false 2 0 0 = AV.ptr false 2 0 0 ∧ AV.ptr false 4 0 0 = AV.ptr false 4 0 0 ∧ AV.int IntKind.i64 0 = AV.int IntKind.i64 0 ∧ 93 = 93 ∧ RowsAre [some (Row.lst 34 5 [AV.agg [AV.int IntKind.i64 wh, AV.int IntKind.i64 at_, AV.int IntKind.i64 nd, AV.str nm, AV.sl true 1 0 m Cp.no]]), some (Row.lst 37 3 [AV.agg [AV.int IntKind.i64 0, AV.str [], AV.nils]]), some (Row.lst 40 3 [AV.agg [AV.int IntKind.i64 0, AV.str [], AV.nils]]), some (Row.lst 37 3 [AV.agg [AV.int IntKind.i64 nd, AV.str nm, AV.nils]]), some (Row.lst 40 3 [AV.agg [AV.int IntKind.i64 nd, AV.str nm, AV.nils]])] [some (Row.lst 34 5 [AV.agg [AV.int IntKind.i64 wh, AV.int IntKind.i64 at_, AV.int IntKind.i64 nd, AV.str nm, AV.sl true 1 0 m Cp.no]]), some (Row.lst 37 3 [AV.agg [AV.int IntKind.i64 0, AV.str [], AV.nils]]), some (Row.lst 40 3 [AV.agg [AV.int IntKind.i64 0, AV.str [], AV.nils]]), some (Row.lst 37 3 [AV.agg [AV.int IntKind.i64 nd, AV.str nm, AV.nils]]), some (Row.lst 40 3 [AV.agg [AV.int IntKind.i64 nd, AV.str nm, AV.nils]])]) ∧ AV.agg [AV.int IntKind.i64 nd, AV.str nm, AV.sl false 6 0 D.length Cp.no] = AV.agg [AV.int IntKind.i64 nd, AV.str nm, AV.sl false 6 0 D.length Cp.no] ∧ Q (AV.tup [AV.agg [AV.int IntKind.i64 nd, AV.str nm, AV.sl false 5 0 D.length Cp.no], AV.agg [AV.int IntKind.i64 nd, AV.str nm, AV.sl false 6 0 D.length Cp.no]]) [some (Row.lst 34 5 [AV.agg [AV.int IntKind.i64 wh, AV.int IntKind.i64 at_, AV.int IntKind.i64 nd, AV.str nm, AV.sl true 1 0 m Cp.no]]), some (Row.lst 37 3 [AV.agg [AV.int IntKind.i64 nd, AV.str nm, AV.sl false 5 0 D.length Cp.no]]), some (Row.lst 40 3 [AV.agg [AV.int IntKind.i64 nd, AV.str nm, AV.sl false 6 0 D.length Cp.no]]), some (Row.lst 37 3 [AV.agg [AV.int IntKind.i64 nd, AV.str nm, AV.sl false 5 0 D.length Cp.no]]), some (Row.lst 40 3 [AV.agg [AV.int IntKind.i64 nd, AV.str nm, AV.sl false 6 0 D.length Cp.no]]), some (Row.gen 90 2 D.length fun j => AV.agg [AV.str (D.getD j ([], [])).fst, AV.str (D.getD j ([], [])).snd]), some (Row.gen 88 2 D.length fun j => AV.agg [AV.str (D.getD j ([], [])).fst, AV.str (D.getD j ([], [])).snd])]) ∧ AV.str nm = AV.str nm ∧ AV.int IntKind.i64 nd = AV.int IntKind.i64 nd ∧ AV.str nm = AV.str nm ∧ AV.int IntKind.i64 nd = AV.int IntKind.i64 nd ∧ AV.str nm = AV.str nm ∧ AV.int IntKind.i64 nd = AV.int IntKind.i64 nd ∧ AV.str nm = AV.str nm ∧ AV.int IntKind.i64 nd = AV.int IntKind.i64 nd ∧ AV.str nm = AV.str nm ∧ AV.int IntKind.i64 nd = AV.int IntKind.i64 nd ∧ (AV.ptr false 0 0 0 = AV.ptr false 0 0 0 ∧ AV.ptr false 1 0 0 = AV.ptr false 1 0 0 ∧ AV.ptr false 2 0 0 = AV.ptr false 2 0 0 ∧ AV.ptr false 3 0 0 = AV.ptr false 3 0 0 ∧ AV.int IntKind.i64 0 = AV.int IntKind.i64 0 ∧ 93 = 93 ∧ RowsAre [some (Row.lst 34 5 [AV.agg [AV.int IntKind.i64 wh, AV.int IntKind.i64 at_, AV.int IntKind.i64 nd, AV.str nm, AV.sl true 1 0 m Cp.no]]), some (Row.lst 37 3 [AV.agg [AV.int IntKind.i64 0, AV.str [], AV.nils]]), some (Row.lst 40 3 [AV.agg [AV.int IntKind.i64 0, AV.str [], AV.nils]]), some (Row.lst 40 3 [AV.agg [AV.int IntKind.i64 nd, AV.str nm, AV.nils]]), some (Row.lst 37 3 [AV.agg [AV.int IntKind.i64 nd, AV.str nm, AV.nils]])] [some (Row.lst 34 5 [AV.agg [AV.int IntKind.i64 wh, AV.int IntKind.i64 at_, AV.int IntKind.i64 nd, AV.str nm, AV.sl true 1 0 m Cp.no]]), some (Row.lst 37 3 [AV.agg [AV.int IntKind.i64 0, AV.str [], AV.nils]]), some (Row.lst 40 3 [AV.agg [AV.int IntKind.i64 0, AV.str [], AV.nils]]), some (Row.lst 40 3 [AV.agg [AV.int IntKind.i64 nd, AV.str nm, AV.nils]]), some (Row.lst 37 3 [AV.agg [AV.int IntKind.i64 nd, AV.str nm, AV.nils]])]) ∧ AV.agg [AV.int IntKind.i64 nd, AV.str nm, AV.sl false 6 0 D.length Cp.no] = AV.agg [AV.int IntKind.i64 nd, AV.str nm, AV.sl false 6 0 D.length Cp.no] ∧ Q (AV.tup [AV.agg [AV.int IntKind.i64 nd, AV.str nm, AV.sl false 5 0 D.length Cp.no], AV.agg [AV.int IntKind.i64 nd, AV.str nm, AV.sl false 6 0 D.length Cp.no]]) [some (Row.lst 34 5 [AV.agg [AV.int IntKind.i64 wh, AV.int IntKind.i64 at_, AV.int IntKind.i64 nd, AV.str nm, AV.sl true 1 0 m Cp.no]]), some (Row.lst 37 3 [AV.agg [AV.int IntKind.i64 nd, AV.str nm, AV.sl false 5 0 D.length Cp.no]]), some (Row.lst 40 3 [AV.agg [AV.int IntKind.i64 nd, AV.str nm, AV.sl false 6 0 D.length Cp.no]]), some (Row.lst 40 3 [AV.agg [AV.int IntKind.i64 nd, AV.str nm, AV.sl false 6 0 D.length Cp.no]]), some (Row.lst 37 3 [AV.agg [AV.int IntKind.i64 nd, AV.str nm, AV.sl false 5 0 D.length Cp.no]]), some (Row.gen 90 2 D.length fun j => AV.agg [AV.str (D.getD j ([], [])).fst, AV.str (D.getD j ([], [])).snd]), some (Row.gen 88 2 D.length fun j => AV.agg [AV.str (D.getD j ([], [])).fst, AV.str (D.getD j ([], [])).snd])]) := by kernel_rfl

def twoR (D : List At) : Rows := [some (.gen 90 2 D.length (atL D)), some (.gen 88 2 D.length (atL D))]
theorem fit14 (nd : Int) (nm : Tx) (D : List At) {h : Rows} (h5 : h[5]? = some (some (.gen 90 2 D.length (atL D)))) (h6 : h[6]? = some (some (.gen 88 2 D.length (atL D)))) :
    ∃ vE hE, FitV 0 vE hE (.tup [entA nd nm (.sl false 5 0 D.length .no), entA nd nm (.sl false 6 0 D.length .no)]) h ∧ (vE = .tup [entA nd nm (.sl false 0 0 D.length .no), entA nd nm (.sl false 1 0 D.length .no)] ∧ hE = twoR D) := by
  refine ⟨_, _, ⟨fun c => some (c + 5), View.of ?_ ?_, ?_, fun c hc => absurd hc (Nat.not_lt_zero _), Nat.zero_le _⟩, rfl, rfl⟩
  · intro c o ho
    match c with
    | 0 => cases ho; exact ViewL.at_ (b := 5) rfl h5 (atL_row D)
    | 1 => cases ho; exact ViewL.at_ (b := 6) rfl h6 (atL_row D)
    | c + 2 => simp [twoR] at ho
  · intro c c' b _ _ e e'
    injection e with e
    injection e' with e'
    omega
  · exact .tupI (.cons (.aggI (.cons .intI (.cons .strI (.cons (.slI (by simp [twoR]) rfl) .nil)))) (.cons (.aggI (.cons .intI (.cons .strI (.cons (.slI (by simp [twoR]) rfl) .nil)))) .nil))

theorem spec14o0_ok (t n : Nat) (N V : Nat → Tx) (t' m : Nat) (N' V' : Nat → Tx) (wh at_ nd : Int) (nm : Tx) :
    ∀ st k, spec14o 0 n wh at_ nd nm (dd N V (min n 20)) (min n 20) st k → Safe Try.prog (base (ro2A t n N V t' m N' V')).R (.block 0 (.loop lp14o)) st k := by
  intro st k hk
  unfold spec14o at hk
  split at hk
  · rename_i t4
    obtain ⟨⟨t1, t2, t3, t5, t6, hl, ⟨hr⟩⟩, hk⟩ := hk
    refine loop14o0a t n N V t' m N' V' wh at_ nd nm st ?_ hr hk
    rw [tm14o_spr]
    refine VwL.ofKnown hl ⟨?_, ?_, ?_, ?_, ?_, ?_, trivial⟩
    · rw [t1]; exact Vw.ptrI (by decide) rfl
    · rw [t2]; exact Vw.ptrI (by decide) rfl
    · rw [t3]; exact Vw.ptrI (by decide) rfl
    · rw [t4]; exact Vw.ptrI (by decide) rfl
    · rw [t5]; exact Vw.ptrI (by decide) rfl
    · rw [t6]; exact Vw.intI
  · rename_i t4
    obtain ⟨⟨t1, t2, t3, t5, t6, hl, ⟨hr⟩⟩, hk⟩ := hk
    refine loop14o0b t n N V t' m N' V' wh at_ nd nm st ?_ hr hk
    rw [tm14o_spr]
    refine VwL.ofKnown hl ⟨?_, ?_, ?_, ?_, ?_, ?_, trivial⟩
    · rw [t1]; exact Vw.ptrI (by decide) rfl
    · rw [t2]; exact Vw.ptrI (by decide) rfl
    · rw [t3]; exact Vw.ptrI (by decide) rfl
    · rw [t4]; exact Vw.ptrI (by decide) rfl
    · rw [t5]; exact Vw.ptrI (by decide) rfl
    · rw [t6]; exact Vw.intI
  · exact hk.elim
theorem safe140 (t n : Nat) (N V : Nat → Tx) (t' m : Nat) (N' V' : Nat → Tx) (wh at_ nd : Int) (nm : Tx) : SafeCall Try.prog (ro2A t n N V t' m N' V') 14 [actA wh at_ nd nm 0 n] [] fun v h =>
    v = .tup [entA nd nm (.sl false 0 0 (dd N V (min n 20)).length .no), entA nd nm (.sl false 1 0 (dd N V (min n 20)).length .no)] ∧ h = twoR (dd N V (min n 20)) := by
  refine SafeCall.fit (Q := fun v h => ∃ vE hE, FitV 0 vE hE v h ∧ (vE = .tup [entA nd nm (.sl false 0 0 (dd N V (min n 20)).length .no), entA nd nm (.sl false 1 0 (dd N V (min n 20)).length .no)] ∧ hE = twoR (dd N V (min n 20)))) ?_ (fun _ _ h => h)
  refine byVcd ((base_ok _).addLoop (f := 14) (fi := fi14) (by kernel_rfl) (body := .loop lp14o) blk14o (spec14o0_ok t n N V t' m N' V' wh at_ nd nm)) (f := 14) (fi := fi14) (by kernel_rfl) 1000 (vc140 t n N V t' m N' V' wh at_ nd nm (dd N V (min n 20)) (min n 20) _) ?_
  repeat' (first | exact RowsAre.mk rfl | exact fit14 _ _ _ rfl rfl | apply And.intro | exact rfl)

theorem spec14o1_ok (t n : Nat) (N V : Nat → Tx) (t' m : Nat) (N' V' : Nat → Tx) (wh at_ nd : Int) (nm : Tx) :
    ∀ st k, spec14o 1 m wh at_ nd nm (dd N' V' (min m 20)) (min m 20) st k → Safe Try.prog (base (ro2A t n N V t' m N' V')).R (.block 0 (.loop lp14o)) st k := by
  intro st k hk
  unfold spec14o at hk
  split at hk
  · rename_i t4
    obtain ⟨⟨t1, t2, t3, t5, t6, hl, ⟨hr⟩⟩, hk⟩ := hk
    refine loop14o1a t n N V t' m N' V' wh at_ nd nm st ?_ hr hk
    rw [tm14o_spr]
    refine VwL.ofKnown hl ⟨?_, ?_, ?_, ?_, ?_, ?_, trivial⟩
    · rw [t1]; exact Vw.ptrI (by decide) rfl
    · rw [t2]; exact Vw.ptrI (by decide) rfl
    · rw [t3]; exact Vw.ptrI (by decide) rfl
    · rw [t4]; exact Vw.ptrI (by decide) rfl
    · rw [t5]; exact Vw.ptrI (by decide) rfl
    · rw [t6]; exact Vw.intI
  · rename_i t4
    obtain ⟨⟨t1, t2, t3, t5, t6, hl, ⟨hr⟩⟩, hk⟩ := hk
    refine loop14o1b t n N V t' m N' V' wh at_ nd nm st ?_ hr hk
    rw [tm14o_spr]
    refine VwL.ofKnown hl ⟨?_, ?_, ?_, ?_, ?_, ?_, trivial⟩
    · rw [t1]; exact Vw.ptrI (by decide) rfl
    · rw [t2]; exact Vw.ptrI (by decide) rfl
    · rw [t3]; exact Vw.ptrI (by decide) rfl
    · rw [t4]; exact Vw.ptrI (by decide) rfl
    · rw [t5]; exact Vw.ptrI (by decide) rfl
    · rw [t6]; exact Vw.intI
  · exact hk.elim
theorem safe141 (t n : Nat) (N V : Nat → Tx) (t' m : Nat) (N' V' : Nat → Tx) (wh at_ nd : Int) (nm : Tx) : SafeCall Try.prog (ro2A t n N V t' m N' V') 14 [actA wh at_ nd nm 1 m] [] fun v h =>
    v = .tup [entA nd nm (.sl false 0 0 (dd N' V' (min m 20)).length .no), entA nd nm (.sl false 1 0 (dd N' V' (min m 20)).length .no)] ∧ h = twoR (dd N' V' (min m 20)) := by
  refine SafeCall.fit (Q := fun v h => ∃ vE hE, FitV 0 vE hE v h ∧ (vE = .tup [entA nd nm (.sl false 0 0 (dd N' V' (min m 20)).length .no), entA nd nm (.sl false 1 0 (dd N' V' (min m 20)).length .no)] ∧ hE = twoR (dd N' V' (min m 20)))) ?_ (fun _ _ h => h)
  refine byVcd ((base_ok _).addLoop (f := 14) (fi := fi14) (by kernel_rfl) (body := .loop lp14o) blk14o (spec14o1_ok t n N V t' m N' V' wh at_ nd nm)) (f := 14) (fi := fi14) (by kernel_rfl) 1000 (vc141 t n N V t' m N' V' wh at_ nd nm (dd N' V' (min m 20)) (min m 20) _) ?_
  repeat' (first | exact RowsAre.mk rfl | exact fit14 _ _ _ rfl rfl | apply And.intro | exact rfl)

def ro2D (t : Nat) (D : List At) (t' : Nat) (D' : List At) : Nat → RoRow := fun i => match i with | 0 => ⟨t, 2, D.length, atL D⟩ | 1 => ⟨t', 2, D'.length, atL D'⟩ | _ + 2 => ⟨0, 0, 0, fun _ => .undef⟩
def rB (a b : Tx) : Rows := [some (.lst 90 2 [.agg [.str a, .str b]])]
def isIn (D : List At) (a b : Tx) : Bool := D.any fun p => a == p.1 && b == p.2
def r15 (nd nd' : Int) (nm nm' : Tx) (n m : Nat) : Rows := [some (.lst 37 3 [entA nd nm (.sl true 0 0 n .no)]), some (.lst 37 3 [entA nd' nm' (.sl true 1 0 m .no)])]
def r16 (nd nd' : Int) (nm nm' : Tx) (n m : Nat) : Rows := [some (.lst 40 3 [entA nd nm (.sl true 0 0 n .no)]), some (.lst 40 3 [entA nd' nm' (.sl true 1 0 m .no)])]
def spec48 (D' : List At) : CallSpec := fun args h k => match args with
  | [.sl true 1 0 m .no, .agg [.str a, .str b]] => m = D'.length ∧ k (.bool (isIn D' a b)) h
  | _ => False
def tm64r (j : Int) : List AV := [.any, .any, .any, .any, .int .i64 j, .any, .any, .any, .any, .any, .any, .any, .any, .any, .any, .any, .any, .any, .any]
def tm15r  : List AV := [.any, .any, .any, .any, .bool false, .any, .any, .any, .any, .any, .any, .any, .any, .any, .any, .any, .any, .any, .any, .any, .any, .any, .any, .any, .any, .any, .any, .any, .any, .any, .any, .any, .any, .any]
def allIn (D D' : List At) : Bool := D.all fun p => isIn D' p.1 p.2
def cnt (D D' : List At) : Nat → Nat
  | 0 => 0
  | i + 1 => bif isIn D' (D.getD i ([], [])).1 (D.getD i ([], [])).2 then cnt D D' i + 1 else cnt D D' i
def spec64 (D' : List At) (a b : Tx) : LoopSp := fun st k =>
  (nthV st.tmps 0 = .sl true 1 0 D'.length .no ∧ nthV st.tmps 3 = .ptr false 0 0 0 ∧ nthV st.tmps 7 = .int .i64 D'.length ∧ nthV st.tmps 8 = .int .i64 0 ∧ st.tmps.length = 19 ∧ RowsAre st.rows (rB a b)) ∧
  (isIn D' a b = true → ∀ j : Nat, k .ret ⟨tm64r j, rB a b⟩) ∧ (isIn D' a b = false → k .normal ⟨tm64 D'.length (D'.length : Nat), rB a b⟩)
def spec64C (D' : List At) : CallSpec := fun args h k => match args with
  | [.sl true 1 0 m .no, .agg [.str a, .str b]] => m = D'.length ∧ (isIn D' a b = true → ∀ j : Nat, k (.int .i64 j) h) ∧ (isIn D' a b = false → k (.int .i64 (-1)) h)
  | _ => False
def spec15L (D D' : List At) (h0 : Rows) : LoopSp := fun st k =>
  (nthV st.tmps 2 = .ptr false 0 0 0 ∧ nthV st.tmps 3 = .ptr false 1 0 0 ∧ nthV st.tmps 22 = .sl true 0 0 D.length .no ∧ nthV st.tmps 23 = .int .i64 D.length ∧ nthV st.tmps 24 = .int .i64 0 ∧ st.tmps.length = 34 ∧ RowsAre st.rows h0) ∧
  (allIn D D' = false → k .ret ⟨tm15r, h0⟩) ∧ (allIn D D' = true → k .normal ⟨tm15 D.length (D.length : Nat), h0⟩)
def spec16i (P : Prop) (h0 : Rows) (c i c' : Int) : LoopSp := fun st k =>
  (P ∧ nthV st.tmps 2 = .ptr false 0 0 0 ∧ nthV st.tmps 3 = .ptr false 1 0 0 ∧ nthV st.tmps 5 = .int .i64 c ∧ nthV st.tmps 6 = .int .i64 i ∧ nthV st.tmps 7 = .int .i64 0 ∧ st.tmps.length = 54 ∧ RowsAre st.rows h0) ∧ k .normal ⟨tm16o c' i, h0⟩
def spec16o (h0 : Rows) (c i : Int) : LoopSp := fun st k =>
  (nthV st.tmps 2 = .ptr false 0 0 0 ∧ nthV st.tmps 3 = .ptr false 1 0 0 ∧ nthV st.tmps 5 = .int .i64 0 ∧ nthV st.tmps 6 = .int .i64 0 ∧ st.tmps.length = 54 ∧ RowsAre st.rows h0) ∧ k .normal ⟨tm16o c i, h0⟩
end Go.Dc.Kb
