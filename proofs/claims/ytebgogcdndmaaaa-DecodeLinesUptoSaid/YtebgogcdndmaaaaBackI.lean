/- The decoder in UTF-8, told exactly: Feed's loop. -/
import Derived.Test.YtebgogcdndmaaaaBackH
set_option linter.unusedVariables false
set_option linter.unusedSimpArgs false
namespace Go.Dc.Ka
open Go.Proofs Go.RowKit
set_option maxRecDepth 100000
theorem vr24u (R : Nat → RoRow) (s : List UInt8) (a b l v lo hi : Int) (n i : Nat) (F : Nat → AV) (k : Exit → St → Prop) : rnd (envG R s) 10000 24 lp24 ⟨feedT s i, rowsF a b l v lo hi s n F⟩ k = (bif decide ((↑i : Int) < (↑s.length : Int)) then bif true && decide ((↑i : Int) < (↑s.length : Int)) then bif decide (0 + (↑i : Int).toNat < s.length) then (n = n ∧ winRow = winRow ∧ winRow = winRow ∧ some (Row.byt 5 s) = some (Row.byt 5 s) ∧ n.le 1000000 ∧ (∀ (i : Nat), i.succ.le n → ones (F i) = true ∧ gnd (F i) = true) ∧ (l = 0 ∧ 0 ≤ (↑(s.getD (0 + (↑i : Int).toNat) 0).toNat : Int) ∧ (↑(s.getD (0 + (↑i : Int).toNat) 0).toNat : Int) ≤ 255 ∧ ((↑(s.getD (0 + (↑i : Int).toNat) 0).toNat : Int) < 128 ∨ leftF (↑(s.getD (0 + (↑i : Int).toNat) 0).toNat : Int) ≠ 0) ∨ 0 < l ∧ l ≤ 3 ∧ lo ≤ (↑(s.getD (0 + (↑i : Int).toNat) 0).toNat : Int) ∧ (↑(s.getD (0 + (↑i : Int).toNat) 0).toNat : Int) ≤ hi)) ∧ (∀ (b' v' lo' hi' e0 e1 : Int), l = 0 ∧ (↑(s.getD (0 + (↑i : Int).toNat) 0).toNat : Int) < 128 ∧ b' = a ∧ v' = v ∧ lo' = lowF (↑(s.getD (0 + (↑i : Int).toNat) 0).toNat : Int) ∧ hi' = highF (↑(s.getD (0 + (↑i : Int).toNat) 0).toNat : Int) ∧ e0 = (↑(s.getD (0 + (↑i : Int).toNat) 0).toNat : Int) ∧ e1 = a ∨ l = 1 ∧ b' = b ∧ v' = nxt v (↑(s.getD (0 + (↑i : Int).toNat) 0).toNat : Int) ∧ lo' = 128 ∧ hi' = 191 ∧ e0 = nxt v (↑(s.getD (0 + (↑i : Int).toNat) 0).toNat : Int) ∧ e1 = b → k Exit.normal (St.mk [AV.ptr false 0 0 0, AV.str s, AV.any, AV.any, AV.nils, AV.nils, AV.ptr false 2 0 0, AV.any, AV.int IntKind.u8 (↑(s.getD (0 + (↑i : Int).toNat) 0).toNat : Int), AV.any, AV.any, AV.any, AV.any, AV.sl false 3 0 s.length Cp.no, AV.int IntKind.i64 (↑s.length : Int), AV.int IntKind.i64 (IntKind.i64.wrap ((↑i : Int) + 1)), AV.bool true, AV.ptr false 3 (0 + (↑i : Int).toNat) 0, AV.int IntKind.u8 (↑(s.getD (0 + (↑i : Int).toNat) 0).toNat : Int), AV.any, AV.any, AV.any, AV.any, AV.any, AV.any, AV.any, AV.any, AV.bool true, AV.ptr false 0 0 0, AV.ptr false 0 0 0, AV.ptr false 0 0 0, AV.bool true, AV.ptr false 0 0 0, AV.int IntKind.u8 (↑(s.getD (0 + (↑i : Int).toNat) 0).toNat : Int), AV.tup [], AV.any, AV.any, AV.any, AV.any, AV.any, AV.any, AV.any, AV.any, AV.any, AV.any, AV.any, AV.any, AV.any, AV.any, AV.any, AV.any, AV.any, AV.ptr false 0 0 0, AV.ptr false 0 0 0, AV.ptr false 0 0 1, AV.int IntKind.i64 a, AV.int IntKind.i64 (IntKind.i64.wrap (a + 1)), AV.ptr false 0 0 0, AV.ptr false 0 0 1, AV.int IntKind.i64 (IntKind.i64.wrap ((↑i : Int) + 1)), AV.any, AV.any, AV.any, AV.any] [some (Row.lst 62 9 [AV.agg [AV.bool true, AV.int IntKind.i64 (IntKind.i64.wrap (a + 1)), AV.int IntKind.i64 b', AV.int IntKind.i64 0, AV.int IntKind.i64 v', AV.int IntKind.u8 lo', AV.int IntKind.u8 hi', AV.sl false 5 0 (n + 1) Cp.no, AV.nils]]), winRow, winRow, some (Row.byt 5 s), none, some (Row.gen 38 2 (n + 1) fun j => if j < n then F j else AV.agg [AV.int IntKind.i64 e0, AV.int IntKind.i64 e1])])) ∧ ∀ (b' l' v' lo' hi' : Int), l = 0 ∧ ¬(↑(s.getD (0 + (↑i : Int).toNat) 0).toNat : Int) < 128 ∧ b' = a ∧ l' = leftF (↑(s.getD (0 + (↑i : Int).toNat) 0).toNat : Int) ∧ v' = valF (↑(s.getD (0 + (↑i : Int).toNat) 0).toNat : Int) ∧ lo' = lowF (↑(s.getD (0 + (↑i : Int).toNat) 0).toNat : Int) ∧ hi' = highF (↑(s.getD (0 + (↑i : Int).toNat) 0).toNat : Int) ∨ 0 < l ∧ l ≠ 1 ∧ b' = b ∧ l' = l - 1 ∧ v' = nxt v (↑(s.getD (0 + (↑i : Int).toNat) 0).toNat : Int) ∧ lo' = 128 ∧ hi' = 191 → k Exit.normal (St.mk [AV.ptr false 0 0 0, AV.str s, AV.any, AV.any, AV.nils, AV.nils, AV.ptr false 2 0 0, AV.any, AV.int IntKind.u8 (↑(s.getD (0 + (↑i : Int).toNat) 0).toNat : Int), AV.any, AV.any, AV.any, AV.any, AV.sl false 3 0 s.length Cp.no, AV.int IntKind.i64 (↑s.length : Int), AV.int IntKind.i64 (IntKind.i64.wrap ((↑i : Int) + 1)), AV.bool true, AV.ptr false 3 (0 + (↑i : Int).toNat) 0, AV.int IntKind.u8 (↑(s.getD (0 + (↑i : Int).toNat) 0).toNat : Int), AV.any, AV.any, AV.any, AV.any, AV.any, AV.any, AV.any, AV.any, AV.bool true, AV.ptr false 0 0 0, AV.ptr false 0 0 0, AV.ptr false 0 0 0, AV.bool true, AV.ptr false 0 0 0, AV.int IntKind.u8 (↑(s.getD (0 + (↑i : Int).toNat) 0).toNat : Int), AV.tup [], AV.any, AV.any, AV.any, AV.any, AV.any, AV.any, AV.any, AV.any, AV.any, AV.any, AV.any, AV.any, AV.any, AV.any, AV.any, AV.any, AV.any, AV.ptr false 0 0 0, AV.ptr false 0 0 0, AV.ptr false 0 0 1, AV.int IntKind.i64 a, AV.int IntKind.i64 (IntKind.i64.wrap (a + 1)), AV.ptr false 0 0 0, AV.ptr false 0 0 1, AV.int IntKind.i64 (IntKind.i64.wrap ((↑i : Int) + 1)), AV.any, AV.any, AV.any, AV.any] [some (Row.lst 62 9 [AV.agg [AV.bool true, AV.int IntKind.i64 (IntKind.i64.wrap (a + 1)), AV.int IntKind.i64 b', AV.int IntKind.i64 l', AV.int IntKind.i64 v', AV.int IntKind.u8 lo', AV.int IntKind.u8 hi', AV.sl false 4 0 n Cp.no, AV.nils]]), winRow, winRow, some (Row.byt 5 s), some (Row.gen 38 2 n F)]) else False else False else k (Exit.exit 0) (St.mk [AV.ptr false 0 0 0, AV.str s, AV.any, AV.any, AV.nils, AV.nils, AV.ptr false 2 0 0, AV.any, AV.any, AV.any, AV.any, AV.any, AV.any, AV.sl false 3 0 s.length Cp.no, AV.int IntKind.i64 (↑s.length : Int), AV.int IntKind.i64 (↑i : Int), AV.bool false, AV.any, AV.any, AV.any, AV.any, AV.any, AV.any, AV.any, AV.any, AV.any, AV.any, AV.any, AV.any, AV.any, AV.any, AV.any, AV.any, AV.any, AV.any, AV.any, AV.any, AV.any, AV.any, AV.any, AV.any, AV.any, AV.any, AV.any, AV.any, AV.any, AV.any, AV.any, AV.any, AV.any, AV.any, AV.any, AV.any, AV.any, AV.any, AV.any, AV.any, AV.any, AV.any, AV.any, AV.any, AV.any, AV.any, AV.any] [some (Row.lst 62 9 [AV.agg [AV.bool true, AV.int IntKind.i64 a, AV.int IntKind.i64 b, AV.int IntKind.i64 l, AV.int IntKind.i64 v, AV.int IntKind.u8 lo, AV.int IntKind.u8 hi, AV.sl false 4 0 n Cp.no, AV.nils]]), winRow, winRow, some (Row.byt 5 s), some (Row.gen 38 2 n F)])) := by kernel_rfl
theorem byRndI {E : Env Prop} (hE : EnvOK Try.prog E id) {f : FuncId} {fi : FI} (hF : E.F f = some fi) {i : Nat} {c : Code} (hb : blockOf fi i = some (.loop c)) {st : St} {k : Exit → St → Prop} (n : Nat) {X : Prop} (e : rnd E n f c st k = X) (hX : X) : Safe Try.prog E.R c st k :=
  Safe.rnd mixed hE hF hb (subs_loop c) n (e.symm ▸ hX)
def outG (l : List (Int × Int)) : Nat → AV := fun j => rune (l.getD j (0, 0)).1 (l.getD j (0, 0)).2
theorem outG_plain (l : List (Int × Int)) (n : Nat) : Plain n (outG l) := fun i _ => ⟨rfl, rfl⟩
theorem outG_snoc (l : List (Int × Int)) (e0 e1 : Int) (j : Nat) (hj : j < l.length + 1) : (if j < l.length then outG l j else AV.agg [AV.int IntKind.i64 e0, AV.int IntKind.i64 e1]) = outG (l ++ [(e0, e1)]) j := by
  unfold outG
  by_cases h : j < l.length
  · rw [if_pos h]
    simp [List.getD, List.getElem?_append_left h]
  · have : j = l.length := by omega
    subst this
    rw [if_neg h]
    simp [List.getD, rune]
noncomputable def famU24 (s : List UInt8) (a : Nat) (d : DS) : St := ⟨feedT s a, rowsF (a : Int) d.b d.l d.v d.lo d.hi s d.out.length (outG d.out)⟩
theorem told_step {a x : Int} {d : DS} {b' v' lo' hi' e0 e1 : Int} (h : ToldB a d.b d.l d.v x b' v' lo' hi' e0 e1) : stepD a x d = ⟨b', 0, v', lo', hi', d.out ++ [(e0, e1)]⟩ := by
  unfold stepD
  rcases h with ⟨h1, h2, rfl, rfl, rfl, rfl, rfl, rfl⟩ | ⟨h1, rfl, rfl, rfl, rfl, rfl, rfl⟩
  · rw [if_pos h1, if_pos h2]
  · rw [if_neg (by omega), if_pos h1]
theorem quiet_step {a x : Int} {d : DS} {b' l' v' lo' hi' : Int} (h : QuietB a d.b d.l d.v x b' l' v' lo' hi') : stepD a x d = ⟨b', l', v', lo', hi', d.out⟩ := by
  unfold stepD
  rcases h with ⟨h1, h2, rfl, rfl, rfl, rfl, rfl⟩ | ⟨h0, h1, rfl, rfl, rfl, rfl, rfl⟩
  · rw [if_pos h1, if_neg h2]
  · rw [if_neg (by omega), if_neg h1]
theorem feedFitU {a b l v lo hi : Int} {s : List UInt8} {i : Nat} {T : List AV} {h : Rows} {m n : Nat} {F g : Nat → AV} (hm : 4 ≤ m)
    (h0 : h[0]? = some (decU a b l v lo hi (.sl false m 0 n .no) .nils)) (h1 : h[1]? = some winRow) (h2 : h[2]? = some winRow) (h3 : h[3]? = some (some (.byt 5 s)))
    (h4 : h[m]? = some (some (.gen 38 2 n g))) (hg : ∀ j, j < n → g j = F j) (hF : Plain n F)
    (hT : VwL (feedV m) 5 (feedT s i) T) : Fit 4 ⟨feedT s i, rowsF a b l v lo hi s n F⟩ ⟨T, h⟩ := by
  refine ⟨feedV m, ⟨View.of ?_ ?_, hT⟩, ?_, by simp [rowsF]⟩
  · intro c o ho
    have hc : c < 5 := (List.getElem?_eq_some_iff.1 ho).1
    show ViewL _ 5 _ _ _
    rcases (by omega : c = 0 ∨ c = 1 ∨ c = 2 ∨ c = 3 ∨ c = 4) with rfl | rfl | rfl | rfl | rfl
    · simp only [rowsF, decU, List.getElem?_cons_zero, Option.some.injEq] at ho
      subst ho
      refine ViewL.at_ (b := 0) rfl h0 (.lst1 rfl ?_)
      simp only [Vw, VwL, feedV]
      refine ⟨_, rfl, _, _, rfl, rfl, _, _, rfl, rfl, _, _, rfl, rfl, _, _, rfl, rfl, _, _, rfl, rfl, _, _, rfl, rfl, _, _, rfl, rfl, _, _, rfl, ⟨by omega, .inl ⟨m, .no, by simp, rfl, Cp.le_refl _⟩⟩, _, _, rfl, rfl, rfl⟩
    · cases ho
      exact ViewL.at_ (b := 1) rfl h1 (.gnd rfl rfl)
    · cases ho
      exact ViewL.at_ (b := 2) rfl h2 (.gnd rfl rfl)
    · cases ho
      exact ViewL.at_ (b := 3) rfl h3 .byt
    · cases ho
      refine ViewL.at_ (b := m) rfl h4 (.gen rfl fun j hj => ⟨(hF j hj).1, ?_⟩)
      rw [hg j hj]
      exact gnd_vw _ _ _ (hF j hj).2
  · intro c c' b hc hc' e e'
    simp only [feedV] at e e'
    repeat' split at e
    all_goals repeat' split at e'
    all_goals simp at e e'
    all_goals omega
  · intro c hc
    simp [feedV, hc]
theorem round24u (R : Nat → RoRow) (s : List UInt8) (hs : s.length ≤ 100000) (hok : okD 0 s d0) (i : {i : Nat // i ≤ s.length}) :
    Safe Try.prog R lp24 (famU24 s i.1 (atD s d0 i.1)) fun e st' => match e with
      | .normal => ∃ i' : {i : Nat // i ≤ s.length}, s.length - i'.1 < s.length - i.1 ∧ Fit 4 (famU24 s i'.1 (atD s d0 i'.1)) st'
      | e => ∃ stE, Fit 4 stE st' ∧ (e = .exit 0 ∧ stE = famU24 s s.length (atD s d0 s.length)) := by
  obtain ⟨i, hi⟩ := i
  have hlen : (atD s d0 i).out.length ≤ i := by have := atD_len s d0 i; simp [d0] at this; exact this
  refine byRndI (envG_ok R s) (f := 24) (fi := fi24) (by kernel_rfl) blk24 10000 (vr24u R s (i : Int) _ _ _ _ _ _ i _ _) ?_
  have hw : IntKind.i64.wrap ((i : Int) + 1) = ((i + 1 : Nat) : Int) := by rw [wrap64 ((i : Int) + 1) (by omega) (by omega)]; omega
  have eB : ((s.getD (0 + (i : Int).toNat) 0).toNat : Int) = byteI s i := by simp [byteI]
  rw [eB, hw]
  have hB := byteI_bd s i
  refine hcond (fun hlt => ?_) (fun hlt => ?_)
  · have hlt' : i < s.length := Int.ofNat_lt.1 (of_decide_eq_true hlt)
    have hgd := atD_good s d0 i hlt' hok
    refine hcond (fun _ => ?_) (fun h => by exfalso; simp at h; omega)
    refine hcond (fun _ => ?_) (fun h => by exfalso; simp at h; omega)
    refine ⟨⟨rfl, rfl, rfl, rfl, by show (atD s d0 i).out.length ≤ 1000000; omega, outG_plain _ _, hgd⟩, ?_, ?_⟩
    · intro b' v' lo' hi' e0 e1 ht
      refine ⟨⟨i + 1, by omega⟩, by show s.length - (i + 1) < s.length - i; omega, ?_⟩
      have e : atD s d0 (i + 1) = ⟨b', 0, v', lo', hi', (atD s d0 i).out ++ [(e0, e1)]⟩ := (atD_succ s d0 i hlt').trans (told_step ht)
      show Fit 4 (famU24 s (i + 1) (atD s d0 (i + 1))) _
      rw [e]
      unfold famU24
      simp only []
      rw [show ((atD s d0 i).out ++ [(e0, e1)]).length = (atD s d0 i).out.length + 1 by simp]
      refine feedFitU (m := 5) (by omega) rfl rfl rfl rfl rfl (fun j hj => outG_snoc _ e0 e1 j hj) (outG_plain _ _) ?_
      iterate 64 refine VwL.cons (by first | exact Vw.anyI | exact Vw.intI | exact Vw.strI | exact Vw.nilsI | exact Vw.ptrI (by decide) rfl | exact Vw.slI (by decide) rfl) ?_
      exact VwL.nil
    · intro b' l' v' lo' hi' ht
      refine ⟨⟨i + 1, by omega⟩, by show s.length - (i + 1) < s.length - i; omega, ?_⟩
      have e : atD s d0 (i + 1) = ⟨b', l', v', lo', hi', (atD s d0 i).out⟩ := (atD_succ s d0 i hlt').trans (quiet_step ht)
      show Fit 4 (famU24 s (i + 1) (atD s d0 (i + 1))) _
      rw [e]
      refine feedFitU (m := 4) (by omega) rfl rfl rfl rfl rfl (fun j hj => rfl) (outG_plain _ _) ?_
      iterate 64 refine VwL.cons (by first | exact Vw.anyI | exact Vw.intI | exact Vw.strI | exact Vw.nilsI | exact Vw.ptrI (by decide) rfl | exact Vw.slI (by decide) rfl) ?_
      exact VwL.nil
  · have hlt' : ¬ i < s.length := fun h => (of_decide_eq_false hlt) (Int.ofNat_lt.2 h)
    have : i = s.length := by omega
    subst this
    refine ⟨famU24 s s.length (atD s d0 s.length), feedFitU (m := 4) (by omega) rfl rfl rfl rfl rfl (fun j hj => rfl) (outG_plain _ _) ?_, rfl, rfl⟩
    iterate 64 refine VwL.cons (by first | exact Vw.anyI | exact Vw.intI | exact Vw.strI | exact Vw.nilsI | exact Vw.ptrI (by decide) rfl | exact Vw.slI (by decide) rfl) ?_
    exact VwL.nil
noncomputable def feedStartU (s : List UInt8) : St := ⟨(feedStart 0 s).tmps, [decU 0 0 0 0 0 0 .nils .nils, winRow, winRow, some (.byt 5 s)]⟩
theorem startFitU (s : List UInt8) : StV feedV0 (famU24 s 0 d0) (feedStartU s) := by
  refine ⟨View.of ?_ ?_, ?_⟩
  · intro c o ho
    have hc : c < 5 := (List.getElem?_eq_some_iff.1 ho).1
    have hN : (famU24 s 0 d0).rows.length = 5 := rfl
    rw [hN]
    rcases (by omega : c = 0 ∨ c = 1 ∨ c = 2 ∨ c = 3 ∨ c = 4) with rfl | rfl | rfl | rfl | rfl
    · simp only [famU24, rowsF, decU, List.getElem?_cons_zero, Option.some.injEq] at ho
      subst ho
      refine ViewL.at_ (b := 0) rfl rfl (.lst1 rfl ?_)
      refine .aggI (.cons .boolI (.cons (.intE (by simp)) (.cons .intI (.cons .intI (.cons .intI (.cons .intI (.cons .intI (.cons (.slN (by decide) rfl) (.cons .nilsI .nil)))))))))
    · cases ho
      exact ViewL.at_ (b := 1) rfl rfl (.gnd rfl rfl)
    · cases ho
      exact ViewL.at_ (b := 2) rfl rfl (.gnd rfl rfl)
    · cases ho
      exact ViewL.at_ (b := 3) rfl rfl .byt
    · cases ho
      exact ViewL.void rfl rfl
  · intro c c' b hc hc' e e'
    simp only [feedV0] at e e'
    repeat' split at e
    all_goals repeat' split at e'
    all_goals simp at e e'
    all_goals omega
  · show VwL feedV0 5 (feedT s 0) _
    iterate 64 refine VwL.cons (by first | exact Vw.anyI | exact Vw.intI | exact Vw.strI | exact Vw.nilsI | exact Vw.ptrI (by decide) rfl | exact Vw.slI (by decide) rfl) ?_
    exact VwL.nil
theorem feedLoopU (R : Nat → RoRow) (s : List UInt8) (hs : s.length ≤ 100000) (hok : okD 0 s d0) :
    Safe Try.prog R (.block 0 (.loop lp24)) (feedStartU s) fun e st => e = .normal ∧ st = famU24 s s.length (atD s d0 s.length) := by
  have h := loop_block (P := Try.prog) (R := R) (I := {i : Nat // i ≤ s.length}) (fam := fun i => famU24 s i.1 (atD s d0 i.1)) (fun i => s.length - i.1) (X := fun e stE => e = .exit 0 ∧ stE = famU24 s s.length (atD s d0 s.length)) (id := 0)
    (i0 := ⟨0, Nat.zero_le _⟩) (st := feedStartU s) (f := feedV0) (startFitU s) (fun c hc => if_pos hc) (fun i => by simp [famU24, rowsF, feedStartU]) (round24u R s hs hok)
  refine h.mono ?_
  rintro e st ⟨e0, rfl, rfl, rfl⟩
  exact ⟨rfl, rfl⟩
/-- What is known behind a text. -/
def EndU (s : List UInt8) (b l v lo hi : Int) (out : List (Int × Int)) : Prop := foldD 0 s d0 = ⟨b, l, v, lo, hi, out⟩
theorem atD_all (s : List UInt8) (d : DS) : atD s d s.length = foldD 0 s d := by unfold atD; rw [List.take_length]
noncomputable def loop24U (s : List UInt8) : LoopSp := fun st k => (st = feedStartU s ∧ s.length ≤ 100000 ∧ okD 0 s d0) ∧
  ∀ b l v lo hi out, EndU s b l v lo hi out → k .normal ⟨feedT s s.length, rowsF (s.length : Int) b l v lo hi s out.length (outG out)⟩
theorem loop24U_ok (R : Nat → RoRow) (s : List UInt8) : ∀ st k, loop24U s st k → Safe Try.prog R (.block 0 (.loop lp24)) st k := by
  rintro st k ⟨⟨rfl, hs, hok⟩, hk⟩
  refine (feedLoopU R s hs hok).mono ?_
  rintro e st' ⟨rfl, rfl⟩
  exact hk _ _ _ _ _ _ (atD_all s d0).symm
noncomputable abbrev env24U (R : Nat → RoRow) (s : List UInt8) : Env Prop := (base R).addLoop 24 0 (loop24U s)
theorem env24U_ok (R : Nat → RoRow) (s : List UInt8) : EnvOK Try.prog (env24U R s) id := (base_ok R).addLoop (f := 24) (fi := fi24) (by kernel_rfl) (body := .loop lp24) blk24 (loop24U_ok R s)
end Go.Dc.Ka
