/- Expressions: is a kind among some? -/
import Derived.Test.YtfajmjhijanggaaM
import Derived.Test.YtfajmjhijanggaaDcXg
import Derived.Test.YtfajmjhijanggaaK0
section
set_option linter.unusedVariables false
set_option linter.unusedSimpArgs false
namespace Go.Dc.Ke
open Go.Proofs Go.RowKit Go.Shelf
set_option maxRecDepth 100000
abbrev irow (K : List Int) : Row := .gen 3 1 K.length fun i => .int .i64 (K.getD i 0)
theorem irow_g (K : List Int) : RowG (irow K) := ⟨fun f n => .gen rfl fun i _ => ⟨rfl, gnd_vw _ _ _ rfl⟩, fun g => rfl⟩
noncomputable abbrev tm49 (n : Nat) (x : Int) (i : Int) : List AV := [.sl false 0 0 n .no, .int .i64 x, .any, .any, .any, .any, .any, .int .i64 (n : Nat), .int .i64 i, .any, .any, .any, .any, .any, .any, .any, .any, .any, .any]
noncomputable abbrev fam49 (K : List Int) (x : Int) (i : Nat) : St := ⟨tm49 K.length x (i : Nat), [some (irow K)]⟩
theorem tm49_spr (n : Nat) (x i : Int) : tm49 n x i = spr [(0, .sl false 0 0 n .no), (1, .int .i64 x), (7, .int .i64 (n : Nat)), (8, .int .i64 i)] 0 19 := by kernel_rfl
end Go.Dc.Ke
end
section
set_option linter.unusedVariables false
set_option linter.unusedSimpArgs false
namespace Go.Dc.Ke
open Go.Proofs Go.RowKit Go.Shelf
set_option maxRecDepth 100000
theorem vr49 (R : Nat → RoRow) (K : List Int) (x : Int) (i : Nat) (k : Exit → St → Prop) : rnd (base R) 1000 49 (loopOf fi49 0) (fam49 K x i) k = (bif decide ((↑i : Int) < (↑K.length : Int)) then bif true && decide ((↑i : Int) < (↑K.length : Int)) then bif decide (0 + (↑i : Int).toNat < K.length) then bif x == K.getD (0 + (↑i : Int).toNat) 0 then k Exit.ret (St.mk [AV.sl false 0 0 K.length Cp.no, AV.int IntKind.i64 x, AV.any, AV.any, AV.int IntKind.i64 (↑i : Int), AV.int IntKind.i64 (↑i : Int), AV.any, AV.int IntKind.i64 (↑K.length : Int), AV.int IntKind.i64 (↑i : Int), AV.bool true, AV.int IntKind.i64 (↑i : Int), AV.int IntKind.i64 x, AV.sl false 0 0 K.length Cp.no, AV.int IntKind.i64 (↑i : Int), AV.ptr false 0 (0 + (↑i : Int).toNat) 0, AV.int IntKind.i64 (K.getD (0 + (↑i : Int).toNat) 0), AV.bool true, AV.int IntKind.i64 (↑i : Int), AV.any] [some (Row.gen 3 1 K.length fun (i : Nat) => AV.int IntKind.i64 (K.getD i 0))]) else k Exit.normal (St.mk [AV.sl false 0 0 K.length Cp.no, AV.int IntKind.i64 x, AV.any, AV.any, AV.any, AV.int IntKind.i64 (↑i : Int), AV.any, AV.int IntKind.i64 (↑K.length : Int), AV.int IntKind.i64 (IntKind.i64.wrap ((↑i : Int) + 1)), AV.bool true, AV.int IntKind.i64 (↑i : Int), AV.int IntKind.i64 x, AV.sl false 0 0 K.length Cp.no, AV.int IntKind.i64 (↑i : Int), AV.ptr false 0 (0 + (↑i : Int).toNat) 0, AV.int IntKind.i64 (K.getD (0 + (↑i : Int).toNat) 0), AV.bool false, AV.any, AV.int IntKind.i64 (IntKind.i64.wrap ((↑i : Int) + 1))] [some (Row.gen 3 1 K.length fun (i : Nat) => AV.int IntKind.i64 (K.getD i 0))]) else False else False else k (Exit.exit 0) (St.mk [AV.sl false 0 0 K.length Cp.no, AV.int IntKind.i64 x, AV.any, AV.any, AV.any, AV.any, AV.any, AV.int IntKind.i64 (↑K.length : Int), AV.int IntKind.i64 (↑i : Int), AV.bool false, AV.any, AV.any, AV.any, AV.any, AV.any, AV.any, AV.any, AV.any, AV.any] [some (Row.gen 3 1 K.length fun (i : Nat) => AV.int IntKind.i64 (K.getD i 0))])) := by kernel_rfl
noncomputable abbrev out49r (K : List Int) (i : Nat) : St := ⟨[.any, .any, .any, .any, .int .i64 (i : Nat), .any, .any, .any, .any, .any, .any, .any, .any, .any, .any, .any, .any, .any, .any], [some (irow K)]⟩
noncomputable abbrev out49n (K : List Int) : St := ⟨[.any, .any, .any, .any, .any, .any, .any, .any, .any, .any, .any, .any, .any, .any, .any, .any, .any, .any, .any], [some (irow K)]⟩
def lp49 (K : List Int) (x : Int) : LoopSp := fun st k => st.tmps.length = 19 ∧ nthV st.tmps 0 = .sl false 0 0 K.length .no ∧ nthV st.tmps 1 = .int .i64 x ∧ nthV st.tmps 7 = .int .i64 (K.length : Nat) ∧ nthV st.tmps 8 = .int .i64 0 ∧ st.rows = [some (irow K)] ∧ (∀ i : Nat, K.contains x = true → k .ret (out49r K i)) ∧ (K.contains x = false → k .normal (out49n K))
theorem loop49 (R : Nat → RoRow) (K : List Int) (x : Int) (hK : K.length ≤ 100000) : ∀ st k, lp49 K x st k → Safe Try.prog R (.block 0 (.loop (loopOf fi49 0))) st k := by
  rintro ⟨TM, rows⟩ k ⟨h0, h1, h2, h3, h4, h5, hr, hn⟩
  simp only at h0 h1 h2 h3 h4 h5
  subst h5
  refine (loop_block (I := {i : Nat // i ≤ K.length ∧ ∀ j, j < i → (x == K.getD j 0) = false}) (fam := fun i => fam49 K x i.1) (fun i => K.length - i.1) (X := fun e st => (e = .ret ∧ K.contains x = true ∧ ∃ i, st = out49r K i) ∨ (e = .exit 0 ∧ K.contains x = false ∧ st = out49n K)) (i0 := ⟨0, Nat.zero_le _, fun j hj => absurd hj (Nat.not_lt_zero _)⟩) (f := some) ?_ ?_ ?_ ?_).mono ?_
  · refine ⟨View.preX (L := [some (irow K)]) (tl := []) (fun c q h => by rw [live1 h]; exact (irow_g _).vw _ _), ?_⟩
    show VwL some 1 (tm49 K.length x 0) TM
    rw [tm49_spr]
    exact VwL.ofKnown h0 ⟨by rw [h1]; exact Vw.slI (by decide) rfl, by rw [h2]; exact Vw.intI, by rw [h3]; exact Vw.intI, by rw [h4]; exact Vw.intI, trivial⟩
  · intro c _; rfl
  · intro i; exact Nat.le_refl _
  · rintro ⟨i, hi, hne⟩
    refine Safe.by mixed (base_ok R) (f := 49) (fi := fi49) (i := 0) (by kernel_rfl) (b := .loop (loopOf fi49 0)) (by kernel_rfl) (subs_loop _) 1000 (vr49 R K x i _) ?_
    refine hcB (fun h => hcT h (hcT (by simp at h ⊢; exact h) (hcB (fun hx => ?_) fun hx => ?_))) fun h => ?_
    · have hlt : i < K.length := by have := of_decide_eq_true h; omega
      have hx' : (x == K.getD i 0) = true := by simpa using hx
      refine ⟨out49r K i, Fit.row1 (irow_g K) (by (repeat' (first | with_reducible exact VwL.nil | with_reducible refine VwL.cons ?_ ?_ | with_reducible exact Vw.anyI | with_reducible exact Vw.strI | with_reducible exact Vw.boolI | with_reducible exact Vw.intI | with_reducible exact Vw.nilsI | exact Vw.ptrI (by simp) rfl | exact Vw.slI (by simp) rfl | with_reducible refine Vw.aggI ?_ | exact Vw.gndI rfl))), .inl ⟨rfl, ?_, i, rfl⟩⟩
      have e := eq_of_beq hx'
      rw [List.contains_iff_mem]
      rw [e, List.getD_eq_getElem?_getD, List.getElem?_eq_getElem hlt]
      exact List.getElem_mem hlt
    · have hlt : i < K.length := by have := of_decide_eq_true h; omega
      have hx' : (x == K.getD i 0) = false := by simpa using hx
      refine ⟨⟨i + 1, hlt, fun j hj => ?_⟩, by show K.length - (i + 1) < K.length - i; omega, ?_⟩
      · rcases Nat.lt_or_ge j i with h1 | h1
        · exact hne j h1
        · have : j = i := by omega
          subst this; exact hx'
      · rw [wrapSucc i (by omega)]
        exact Fit.row1 (irow_g K) (by (repeat' (first | with_reducible exact VwL.nil | with_reducible refine VwL.cons ?_ ?_ | with_reducible exact Vw.anyI | with_reducible exact Vw.strI | with_reducible exact Vw.boolI | with_reducible exact Vw.intI | with_reducible exact Vw.nilsI | exact Vw.ptrI (by simp) rfl | exact Vw.slI (by simp) rfl | with_reducible refine Vw.aggI ?_ | exact Vw.gndI rfl)))
    · have hge : K.length ≤ i := by have := of_decide_eq_false h; omega
      refine ⟨out49n K, Fit.row1 (irow_g K) (by (repeat' (first | with_reducible exact VwL.nil | with_reducible refine VwL.cons ?_ ?_ | with_reducible exact Vw.anyI | with_reducible exact Vw.strI | with_reducible exact Vw.boolI | with_reducible exact Vw.intI | with_reducible exact Vw.nilsI | exact Vw.ptrI (by simp) rfl | exact Vw.slI (by simp) rfl | with_reducible refine Vw.aggI ?_ | exact Vw.gndI rfl))), .inr ⟨rfl, ?_, rfl⟩⟩
      rw [Bool.eq_false_iff]
      intro hc
      rw [List.contains_iff_mem] at hc
      obtain ⟨j, hj, e⟩ := List.mem_iff_getElem.1 hc
      have := hne j (by omega)
      rw [List.getD_eq_getElem?_getD, List.getElem?_eq_getElem hj] at this
      simp [e] at this
  · rintro e st ⟨e0, rfl, ⟨rfl, hc, i, rfl⟩ | ⟨rfl, hc, rfl⟩⟩
    · exact hr i hc
    · exact hn hc
noncomputable abbrev env42 (R : Nat → RoRow) (K : List Int) (x : Int) : Env Prop := (base R).addLoop 49 0 (lp49 K x)
theorem env42_ok (R : Nat → RoRow) (K : List Int) (x : Int) (hK : K.length ≤ 100000) : EnvOK Try.prog (env42 R K x) id := (base_ok R).addLoop (f := 49) (fi := fi49) (by kernel_rfl) (i := 0) (body := .loop (loopOf fi49 0)) (by kernel_rfl) (loop49 R K x hK)
theorem vc42 (R : Nat → RoRow) (K : List Int) (x : Int) (k : AV → Rows → Prop) : vcd (env42 R K x) 1000 42 fi42 [.sl false 0 0 K.length .no, .int .i64 x] [some (irow K)] k = (19 = 19 ∧ AV.sl false 0 0 K.length Cp.no = AV.sl false 0 0 K.length Cp.no ∧ AV.int IntKind.i64 x = AV.int IntKind.i64 x ∧ AV.int IntKind.i64 (↑K.length : Int) = AV.int IntKind.i64 (↑K.length : Int) ∧ AV.int IntKind.i64 0 = AV.int IntKind.i64 0 ∧ [some (Row.gen 3 1 K.length fun (i : Nat) => AV.int IntKind.i64 (K.getD i 0))] = [some (Row.gen 3 1 K.length fun (i : Nat) => AV.int IntKind.i64 (K.getD i 0))] ∧ (∀ (i : Nat), K.contains x = true → k (AV.bool true) [some (Row.gen 3 1 K.length fun (i : Nat) => AV.int IntKind.i64 (K.getD i 0))]) ∧ (K.contains x = false → k (AV.bool false) [some (Row.gen 3 1 K.length fun (i : Nat) => AV.int IntKind.i64 (K.getD i 0))])) := by kernel_rfl
theorem safe42 (R : Nat → RoRow) (K : List Int) (x : Int) (hK : K.length ≤ 100000) : SafeCall Try.prog R 42 [.sl false 0 0 K.length .no, .int .i64 x] [some (irow K)] fun v h => v = .bool (K.contains x) ∧ h = [some (irow K)] :=
  SafeCall.by mixed (env42_ok R K x hK) (f := 42) (fi := fi42) (by kernel_rfl) 1000 (vc42 R K x _) ⟨rfl, rfl, rfl, rfl, rfl, rfl, fun i hc => ⟨by rw [hc], rfl⟩, fun hc => ⟨by rw [hc], rfl⟩⟩
/-- Is it among them? -/
def spec42 : CallSpec := fun args h k => match args with
  | [.sl false b 0 n _, .int .i64 x] => ∃ K : List Int, K.length = n ∧ n ≤ 100000 ∧ h.live b = some (irow K) ∧ k (.bool (K.contains x)) h
  | _ => False
theorem spec42_ok (R : Nat → RoRow) : ∀ args h k, spec42 args h k → SafeCall Try.prog R 42 args h k := by
  intro args h k hk
  unfold spec42 at hk
  split at hk
  · rename_i b n u x
    obtain ⟨K, rfl, hn, hb, hk⟩ := hk
    refine (SafeCall.at1 (Q := fun v r' => v = .bool (K.contains x) ∧ r' = irow K) hb (irow_g K) (VwL.cons (Vw.slE (by decide) rfl) (VwL.cons Vw.intI VwL.nil)) ((safe42 R K x hn).mono ?_)).mono ?_
    · rintro v h' ⟨rfl, rfl⟩
      exact ⟨_, _, rfl, rfl, irow_g K, rfl, rfl⟩
    · rintro v h' ⟨r', rfl, rfl, rfl⟩
      rw [live_set_self hb]; exact hk
  · exact hk.elim
end Go.Dc.Ke
end
section
set_option linter.unusedVariables false
set_option linter.unusedSimpArgs false
namespace Go.Dc.Ke
open Go.Proofs Go.RowKit Go.Shelf
set_option maxRecDepth 100000
abbrev kA : List Int := [4, 5, 6]
abbrev kB : List Int := [6, 5]
abbrev kC : List Int := [5]
def marksW : List UInt8 := [42, 43, 63]
mutual
/-- The one text of an expression. -/
def shw : Tr → List UInt8
  | .mk k w kids => if k = 1 then w else if k = 2 then 64 :: w else if k = 3 then txtW else if k = 4 then Lib.join (shwL kA kids) [32] else if k = 6 then Lib.join (shwL kB kids) [38] else if k = 5 then Lib.join (shwL kC kids) [124]
    else if k = 7 ∨ k = 8 ∨ k = 9 then Lib.join (shwL kA kids) [] ++ (marksW.drop (k - 7)).take 1 else [40, 41]
def shwL (K : List Int) : List Tr → List (List UInt8)
  | [] => []
  | t :: ts => (bif K.contains ((t.kind : Nat) : Int) then [40] ++ shw t ++ [41] else shw t) :: shwL K ts
end
def wth (K : List Int) (t : Tr) : List UInt8 := bif K.contains ((t.kind : Nat) : Int) then [40] ++ shw t ++ [41] else shw t
theorem shwL_map (K : List Int) : ∀ ts, shwL K ts = ts.map (wth K)
  | [] => rfl
  | t :: ts => by simp only [shwL, List.map_cons, shwL_map K ts, wth]
abbrev srow (L : List (List UInt8)) : Row := .gen 9 1 L.length fun i => .str (L.getD i [])
/-- The kids are read under the number 5. -/
abbrev e5row (k : Int) (w : List UInt8) (n : Nat) : Row := .lst 25 3 [.agg [.int .i64 k, .str w, .sl true 5 0 n .no]]
def spec13o (t : Tr) (x : Nat) : CallSpecX := fun args h k => match args with
  | [a] => fun F => a = exprV t x ∧ TAt F t x ∧ ∀ F', Up F F' → k (.str (shw t)) h F'
  | _ => botX
noncomputable abbrev env35 (R : Nat → RoRow) (t : Tr) (x : Nat) : EnvX := ((bx R).addCall 42 (liftC spec42)).addCall 13 (spec13o t x)
noncomputable abbrev tm25 (sg : List UInt8) (nk n : Nat) (m : Nat) : List AV := [.any, .str sg, .sl false 0 0 nk .no, .any, .any, .any, .any, .sl false 2 0 m .no, .any, .any, .any, .sl true 5 0 n .no, .int .i64 (n : Nat), .int .i64 (m : Nat), .any, .any, .any, .any, .any, .any, .any, .any, .any, .any, .any, .any, .any]
noncomputable abbrev fam25 (K : List Int) (sg : List UInt8) (k : Int) (w : List UInt8) (l : List (Tr × Nat)) (L : List (List UInt8)) : St := ⟨tm25 sg K.length l.length L.length, [some (irow K), some (e5row k w l.length), some (srow L)]⟩
/-- The kids' texts. -/
def spec35k (K : List Int) (l : List (Tr × Nat)) : CallSpecX := fun args h k => match args with
  | [a, .sl false b 0 n _] => fun F => TAts F l ∧ ∃ i : Nat, i < l.length ∧ a = exprV (l.getD i dT).1 (l.getD i dT).2 ∧ n = K.length ∧ h.live b = some (irow K) ∧ ∀ F', Up F F' → k (.str (wth K (l.getD i dT).1)) h F'
  | _ => botX
noncomputable abbrev env25 (R : Nat → RoRow) (K : List Int) (l : List (Tr × Nat)) : EnvX := ((bx (updR R 5 (kidR l))).addCall 36 (liftC spec36)).addCall 35 (spec35k K l)
def lp25 (K : List Int) (sg : List UInt8) (kk : Int) (w : List UInt8) (l : List (Tr × Nat)) : LoopSpX := fun st k F =>
  st.tmps.length = 27 ∧ nthV st.tmps 1 = .str sg ∧ nthV st.tmps 2 = .sl false 0 0 K.length .no ∧ nthV st.tmps 7 = .nils ∧ nthV st.tmps 11 = .sl true 5 0 l.length .no ∧ nthV st.tmps 12 = .int .i64 (l.length : Nat) ∧ nthV st.tmps 13 = .int .i64 0 ∧
  st.rows = [some (irow K), some (e5row kk w l.length)] ∧ TAts F l ∧ ∀ F', Up F F' → k .normal (fam25 K sg kk w l (l.map fun p => wth K p.1)) F'
noncomputable abbrev env25l (R : Nat → RoRow) (K : List Int) (sg : List UInt8) (kk : Int) (w : List UInt8) (l : List (Tr × Nat)) : EnvX := (env25 R K l).addLoop 25 0 (lp25 K sg kk w l)
end Go.Dc.Ke
end
section
set_option linter.unusedVariables false
set_option linter.unusedSimpArgs false
namespace Go.Dc.Ke
open Go.Proofs Go.RowKit Go.Shelf
set_option maxRecDepth 100000
/-- Nothing is read under the number 5. -/
structure Free (R : Nat → RoRow) : Prop where
  n : (R 5).n = 0
  q : Quits R 5
theorem nm_expr {t : Tr} {x : Nat} : nmL 5 0 [exprV t x] = [exprV t x] := by kernel_rfl
/-- What Show answers of an expression that lies so. -/
def ShowOK (t : Tr) : Prop := ∀ (R : Nat → RoRow), Free R → ∀ (x : Nat) (F : Fz) (k HP : AV → Rows → Fz → Prop), IsT F t x → (∀ F', Up F F' → k (.str (shw t)) [] F') → SafeCallX Try.prog R 13 [exprV t x] [] F k HP
theorem show_at {t : Tr} (hs : ShowOK t) {R : Nat → RoRow} (hR : Free R) {x : Nat} {F : Fz} (hx : IsT F t x) (h : Rows) (k HP : AV → Rows → Fz → Prop) (hk : ∀ F', Up F F' → k (.str (shw t)) h F') : SafeCallX Try.prog R 13 [exprV t x] h F k HP := by
  refine (SafeCallX.at0 (Q := fun v F' => v = .str (shw t) ∧ Up F F') (HP := fun _ _ => False) rfl (hs R hR x F _ _ hx fun F' hu => ⟨rfl, rfl, hu⟩)).mono ?_ ?_
  · rintro v h' F' _ ⟨rfl, rfl, hu⟩; exact hk F' hu
  · rintro v h' F' _ ⟨_, h⟩; exact h.elim
theorem show_un {t : Tr} (hs : ShowOK t) {R : Nat → RoRow} (hR : Free R) {ro : RoRow} {x : Nat} {F : Fz} (hx : IsT F t x) (h : Rows) (k HP : AV → Rows → Fz → Prop) (hk : ∀ F', Up F F' → k (.str (shw t)) h F') : SafeCallX Try.prog (updR R 5 ro) 13 [exprV t x] h F k HP := by
  have h0 : SafeCallX Try.prog (updR R 5 ro) 13 [exprV t x] [] F (fun v h' F' => gnd v = true ∧ (v = .str (shw t) ∧ Up F F')) (fun v h' F' => gnd v = true ∧ False) := by
    refine SafeCallX.unread (Q := fun v h' F' => v = .str (shw t) ∧ h' = [] ∧ Up F F') (HP := fun _ _ _ => False) (by decide) hR.n hR.q nm_expr rfl (hs R hR x F _ _ hx fun F' hu => ⟨rfl, rfl, hu⟩) ?_ ?_
    · rintro v h' F' _ ⟨rfl, rfl, hu⟩; exact ⟨rfl, rfl, rfl, rfl, hu⟩
    · rintro v h' F' _ h; exact h.elim
  refine (SafeCallX.at0 rfl h0).mono ?_ ?_
  · rintro v h' F' _ ⟨rfl, rfl, hu⟩; exact hk F' hu
  · rintro v h' F' _ ⟨_, h⟩; exact h.elim
theorem vc35 (R : Nat → RoRow) (K : List Int) (t : Tr) (x : Nat) (k : AV → Rows → Fz → Prop) (F : Fz) : vcx (env35 R t x) 1000 35 fi35 [exprV t x, .sl false 0 0 K.length .no] [some (irow K)] k F =
    (∃ (K_1 : List Int), K_1.length = K.length ∧ K.length ≤ 100000 ∧ some (irow K) = some (irow K_1) ∧
          bif K_1.contains ((t.kind : Nat) : Int) then
            exprV t x = exprV t x ∧ TAt F t x ∧ ∀ F', Up F F' →
              bif decide (1 + (shw t).length ≤ 9223372036854775807) then
                bif decide (([40] ++ shw t).length + 1 ≤ 9223372036854775807) then k (.str ([40] ++ shw t ++ [41])) [some (irow K), some (erow t x)] F'
                else False
              else False
          else exprV t x = exprV t x ∧ TAt F t x ∧ ∀ F', Up F F' → k (.str (shw t)) [some (irow K), some (erow t x)] F') := by kernel_rfl
theorem env35_ok {R : Nat → RoRow} {t : Tr} (hs : ShowOK t) (hR : Free R) {ro : RoRow} (x : Nat) (HP : HPt) : OKX Try.prog (env35 (updR R 5 ro) t x) [] HP :=
  ((bx_ok _ [] HP).addCall (f := 42) (fi := fi42) (by kernel_rfl) (liftC_ok (spec42_ok _))).addCall (f := 13) (fi := fi13) (by kernel_rfl) (by
    intro args h k F hk
    unfold spec13o at hk
    split at hk
    · obtain ⟨rfl, hx, hk⟩ := hk
      exact show_un hs hR hx.is h k HP hk
    · exact hk.elim)
theorem vr25 (R : Nat → RoRow) (K : List Int) (sg : List UInt8) (kk : Int) (w : List UInt8) (l : List (Tr × Nat)) (L : List (List UInt8)) (k : Exit → St → Fz → Prop) (F : Fz) : rnx (env25 R K l) 1000 25 (loopOf fi25 0) (fam25 K sg kk w l L) k F = (bif decide ((↑L.length : Int) < (↑l.length : Int)) then bif true && decide ((↑L.length : Int) < (↑l.length : Int)) then bif decide (0 + (↑L.length : Int).toNat < ((env25 R K l).R 5).n) then TAts F l ∧ ∃ (i : Nat), i.succ.le l.length ∧ AV.agg [AV.int IntKind.i64 (↑(l.getD (0 + (↑L.length : Int).toNat) dT).fst.kind : Int), AV.str (l.getD (0 + (↑L.length : Int).toNat) dT).fst.word, AV.sl true ((l.getD (0 + (↑L.length : Int).toNat) dT).snd + 15) 0 (l.getD (0 + (↑L.length : Int).toNat) dT).fst.kids.length Cp.no] = AV.agg [AV.int IntKind.i64 (↑(l.getD i dT).fst.kind : Int), AV.str (l.getD i dT).fst.word, AV.sl true ((l.getD i dT).snd + 15) 0 (l.getD i dT).fst.kids.length Cp.no] ∧ K.length = K.length ∧ some (Row.gen 3 1 K.length fun (i : Nat) => AV.int IntKind.i64 (K.getD i 0)) = some (Row.gen 3 1 K.length fun (i : Nat) => AV.int IntKind.i64 (K.getD i 0)) ∧ ∀ (F' : Fz), Up F F' → bif decide (0 + L.length ≤ L.length) && (true && (true && decide (((Src.gen L.length fun (j : Nat) => AV.str (L.getD (0 + j) [])).len + 1) * 16 ≤ 140737488355328))) then k Exit.normal (St.mk [AV.any, AV.str sg, AV.sl false 0 0 K.length Cp.no, AV.any, AV.any, AV.any, AV.any, AV.sl false 5 0 ((Src.gen L.length fun (j : Nat) => AV.str (L.getD (0 + j) [])).len + 1) Cp.no, AV.any, AV.ptr false 3 0 0, AV.any, AV.sl true 5 0 l.length Cp.no, AV.int IntKind.i64 (↑l.length : Int), AV.int IntKind.i64 (IntKind.i64.wrap ((↑L.length : Int) + 1)), AV.bool true, AV.ptr true 5 (0 + (↑L.length : Int).toNat) 0, AV.agg [AV.int IntKind.i64 (↑(l.getD (0 + (↑L.length : Int).toNat) dT).fst.kind : Int), AV.str (l.getD (0 + (↑L.length : Int).toNat) dT).fst.word, AV.sl true ((l.getD (0 + (↑L.length : Int).toNat) dT).snd + 15) 0 (l.getD (0 + (↑L.length : Int).toNat) dT).fst.kids.length Cp.no], AV.sl false 2 0 L.length Cp.no, AV.agg [AV.int IntKind.i64 (↑(l.getD (0 + (↑L.length : Int).toNat) dT).fst.kind : Int), AV.str (l.getD (0 + (↑L.length : Int).toNat) dT).fst.word, AV.sl true ((l.getD (0 + (↑L.length : Int).toNat) dT).snd + 15) 0 (l.getD (0 + (↑L.length : Int).toNat) dT).fst.kids.length Cp.no], AV.sl false 0 0 K.length Cp.no, AV.str (wth K (l.getD i dT).fst), AV.sl false 4 0 1 Cp.tight, AV.sl false 5 0 ((Src.gen L.length fun (j : Nat) => AV.str (L.getD (0 + j) [])).len + 1) Cp.no, AV.int IntKind.i64 (IntKind.i64.wrap ((↑L.length : Int) + 1)), AV.any, AV.any, AV.any] [some (Row.gen 3 1 K.length fun (i : Nat) => AV.int IntKind.i64 (K.getD i 0)), some (Row.lst 25 3 [AV.agg [AV.int IntKind.i64 kk, AV.str w, AV.sl true 5 0 l.length Cp.no]]), none, some (Row.lst 25 3 [AV.agg [AV.int IntKind.i64 (↑(l.getD (0 + (↑L.length : Int).toNat) dT).fst.kind : Int), AV.str (l.getD (0 + (↑L.length : Int).toNat) dT).fst.word, AV.sl true ((l.getD (0 + (↑L.length : Int).toNat) dT).snd + 15) 0 (l.getD (0 + (↑L.length : Int).toNat) dT).fst.kids.length Cp.no]]), some (Row.lst 9 1 [AV.str (wth K (l.getD i dT).fst)]), some (Row.gen 9 1 ((Src.gen L.length fun (j : Nat) => AV.str (L.getD (0 + j) [])).len + 1) fun (j : Nat) => bif j.blt (Src.gen L.length fun (j : Nat) => AV.str (L.getD (0 + j) [])).len then AV.str (L.getD (0 + j) []) else (Src.lst [AV.str (wth K (l.getD i dT).fst)]).at_ (j - (Src.gen L.length fun (j : Nat) => AV.str (L.getD (0 + j) [])).len))]) F' else False else False else False else k (Exit.exit 0) (St.mk [AV.any, AV.str sg, AV.sl false 0 0 K.length Cp.no, AV.any, AV.any, AV.any, AV.any, AV.sl false 2 0 L.length Cp.no, AV.any, AV.any, AV.any, AV.sl true 5 0 l.length Cp.no, AV.int IntKind.i64 (↑l.length : Int), AV.int IntKind.i64 (↑L.length : Int), AV.bool false, AV.any, AV.any, AV.any, AV.any, AV.any, AV.any, AV.any, AV.any, AV.any, AV.any, AV.any, AV.any] [some (Row.gen 3 1 K.length fun (i : Nat) => AV.int IntKind.i64 (K.getD i 0)), some (Row.lst 25 3 [AV.agg [AV.int IntKind.i64 kk, AV.str w, AV.sl true 5 0 l.length Cp.no]]), some (Row.gen 9 1 L.length fun (i : Nat) => AV.str (L.getD i []))]) F) := by kernel_rfl
theorem vc25 (R : Nat → RoRow) (K : List Int) (sg : List UInt8) (kk : Int) (w : List UInt8) (l : List (Tr × Nat)) (k : AV → Rows → Fz → Prop) (F : Fz) : vcx (env25l R K sg kk w l) 1000 25 fi25 [.agg [.int .i64 kk, .str w, .sl true 5 0 l.length .no], .str sg, .sl false 0 0 K.length .no] [some (irow K)] k F = (27 = 27 ∧ AV.str sg = AV.str sg ∧ AV.sl false 0 0 K.length Cp.no = AV.sl false 0 0 K.length Cp.no ∧ AV.nils = AV.nils ∧ AV.sl true 5 0 l.length Cp.no = AV.sl true 5 0 l.length Cp.no ∧ AV.int IntKind.i64 (↑l.length : Int) = AV.int IntKind.i64 (↑l.length : Int) ∧ AV.int IntKind.i64 0 = AV.int IntKind.i64 0 ∧ [some (Row.gen 3 1 K.length fun (i : Nat) => AV.int IntKind.i64 (K.getD i 0)), some (Row.lst 25 3 [AV.agg [AV.int IntKind.i64 kk, AV.str w, AV.sl true 5 0 l.length Cp.no]])] = [some (Row.gen 3 1 K.length fun (i : Nat) => AV.int IntKind.i64 (K.getD i 0)), some (Row.lst 25 3 [AV.agg [AV.int IntKind.i64 kk, AV.str w, AV.sl true 5 0 l.length Cp.no]])] ∧ TAts F l ∧ ∀ (F' : Fz), Up F F' → (List.map (fun (p : Tr × Nat) => wth K p.fst) l).length = (List.map (fun (p : Tr × Nat) => wth K p.fst) l).length ∧ (∀ (j : Nat), j.succ.le (List.map (fun (p : Tr × Nat) => wth K p.fst) l).length → AV.str ((List.map (fun (p : Tr × Nat) => wth K p.fst) l).getD j []) = AV.str (strOf (AV.str ((List.map (fun (p : Tr × Nat) => wth K p.fst) l).getD j [])))) ∧ (List.map (fun (p : Tr × Nat) => wth K p.fst) l).length.le 140737488355328 ∧ (Lib.join (strsOf (List.map (fun (p : Tr × Nat) => wth K p.fst) l).length fun (i : Nat) => AV.str ((List.map (fun (p : Tr × Nat) => wth K p.fst) l).getD i [])) sg).length.le 140737488355328 ∧ k (AV.str (Lib.join (strsOf (List.map (fun (p : Tr × Nat) => wth K p.fst) l).length fun (i : Nat) => AV.str ((List.map (fun (p : Tr × Nat) => wth K p.fst) l).getD i [])) sg)) [some (Row.gen 3 1 K.length fun (i : Nat) => AV.int IntKind.i64 (K.getD i 0)), some (Row.lst 25 3 [AV.agg [AV.int IntKind.i64 kk, AV.str w, AV.sl true 5 0 l.length Cp.no]]), some (Row.gen 9 1 (List.map (fun (p : Tr × Nat) => wth K p.fst) l).length fun (i : Nat) => AV.str ((List.map (fun (p : Tr × Nat) => wth K p.fst) l).getD i []))] F') := by kernel_rfl
theorem safe35 {R : Nat → RoRow} {t : Tr} (hs : ShowOK t) (hR : Free R) (ro : RoRow) (K : List Int) (hK : K.length ≤ 100000) (hl : (shw t).length ≤ 1000000) {x : Nat} {F : Fz} (hx : IsT F t x) (k HP : AV → Rows → Fz → Prop) (hk : ∀ F', Up F F' → k (.str (wth K t)) [some (irow K)] F') :
    SafeCallX Try.prog (updR R 5 ro) 35 [exprV t x, .sl false 0 0 K.length .no] [some (irow K)] F k HP := by
  refine SafeCallX.post (Q := fun v h F' => v = .str (wth K t) ∧ (∃ tl, h = some (irow K) :: tl) ∧ Up F F') (HP := fun _ _ _ => False) ?_ ?_ ?_
  · refine SafeCallX.by mixed (env35_ok hs hR x _) (f := 35) (fi := fi35) (by kernel_rfl) 1000 (vc35 _ K t x _ F) ⟨K, rfl, hK, rfl, hcB (fun h => ⟨rfl, ⟨hx⟩, fun F' hu => ?_⟩) fun h => ⟨rfl, ⟨hx⟩, fun F' hu => ?_⟩⟩
    · refine hcT (by simp; omega) (hcT (by simp; omega) ⟨?_, ⟨_, rfl⟩, hu⟩)
      unfold wth; rw [h]; rfl
    · refine ⟨?_, ⟨_, rfl⟩, hu⟩
      unfold wth; rw [h]; rfl
  · rintro v h' F' _ ⟨rfl, ⟨tl, rfl⟩, hu⟩
    exact ToV.fit (FitV.row1 (irow_g K) rfl) (ToV.here (hk F' hu))
  · rintro v h' F' _ h; exact h.elim
theorem spec35k_ok {R : Nat → RoRow} (hR : Free R) (ro : RoRow) (K : List Int) (hK : K.length ≤ 100000) (l : List (Tr × Nat)) (hs : ∀ p ∈ l, ShowOK p.1 ∧ (shw p.1).length ≤ 1000000) (HP : HPt) : ∀ args h k F, spec35k K l args h k F → SafeCallX Try.prog (updR R 5 ro) 35 args h F k HP := by
  intro args h k F hk
  unfold spec35k at hk
  split at hk
  · rename_i a b n u
    obtain ⟨hts, i, hi, rfl, rfl, hb, hk⟩ := hk
    have hm : l.getD i dT ∈ l := by
      rw [List.getD_eq_getElem?_getD, List.getElem?_eq_getElem hi]
      exact List.getElem_mem hi
    obtain ⟨h1, h2⟩ := hs _ hm
    refine (SafeCallX.at1 (Q := fun v r' F' => v = .str (wth K (l.getD i dT).1) ∧ r' = irow K ∧ Up F F') (HP := fun _ _ _ => False) hb (irow_g K) (VwL.cons (Vw.gndI rfl) (VwL.cons (Vw.slE (by decide) rfl) VwL.nil)) (safe35 h1 hR ro K hK h2 (hts.is _ hm) _ _ fun F' hu => ⟨_, [], rfl, rfl, irow_g K, rfl, rfl, hu⟩)).mono ?_ ?_
    · rintro v h' F' _ ⟨r', rfl, rfl, rfl, hu⟩
      rw [live_set_self hb]; exact hk F' hu
    · rintro v h' F' _ ⟨r', _, h⟩; exact h.elim
  · exact hk.elim
theorem env25_ok {R : Nat → RoRow} (hR : Free R) (K : List Int) (hK : K.length ≤ 100000) (l : List (Tr × Nat)) (hs : ∀ p ∈ l, ShowOK p.1 ∧ (shw p.1).length ≤ 1000000) (HP : HPt) : OKX Try.prog (env25 R K l) [] HP :=
  ((bx_ok _ [] HP).addCall (f := 36) (fi := fi36) (by kernel_rfl) (liftC_ok (spec36_ok _))).addCall (f := 35) (fi := fi35) (by kernel_rfl) (spec35k_ok hR (kidR l) K hK l hs HP)
theorem srow_g (L : List (List UInt8)) : RowG (srow L) := ⟨fun f n => .gen rfl fun i _ => ⟨rfl, gnd_vw _ _ _ rfl⟩, fun g => rfl⟩
theorem e5row_g (k : Int) (w : List UInt8) (n : Nat) : RowG (e5row k w n) := .lst1' rfl rfl
theorem srow_app {f : Nat → Option Nat} {n : Nat} (L : List (List UInt8)) (v : List UInt8) : RowV f n (srow (L ++ [v])) (.gen 9 1 (L.length + 1) fun j => bif j.blt L.length then .str (L.getD (0 + j) []) else (Src.lst [.str v]).at_ (j - L.length)) := by
  refine .gen (by simp) fun i hi => ⟨rfl, ?_⟩
  have hi : i < L.length + 1 := by simpa using hi
  have := app_gen (F := fun j => .str (L.getD j [])) (G := fun i => .str ((L ++ [v]).getD i [])) (n := L.length) (e := .str v) (fun j hj => by
    simp only [Nat.zero_add]
    rw [List.getD_eq_getElem?_getD, List.getD_eq_getElem?_getD, List.getElem?_append_left hj]) (by simp) i hi
  rw [this]
  exact gnd_vw _ _ _ rfl
theorem tm25_spr (sg : List UInt8) (nk n m : Nat) : tm25 sg nk n m = spr [(1, .str sg), (2, .sl false 0 0 nk .no), (7, .sl false 2 0 m .no), (11, .sl true 5 0 n .no), (12, .int .i64 (n : Nat)), (13, .int .i64 (m : Nat))] 0 27 := by kernel_rfl
theorem loop25 {R : Nat → RoRow} (hR : Free R) (K : List Int) (hK : K.length ≤ 100000) (sg : List UInt8) (kk : Int) (w : List UInt8) (l : List (Tr × Nat)) (hl : l.length ≤ 100000) (hs : ∀ p ∈ l, ShowOK p.1 ∧ (shw p.1).length ≤ 1000000) (HP : HPt) :
    ∀ st k F, lp25 K sg kk w l st k F → SafeX Try.prog (updR R 5 (kidR l)) [] (.block 0 (.loop (loopOf fi25 0))) st F k HP := by
  rintro ⟨TM, rows⟩ k F ⟨h0, h1, h2, h3, h4, h5, h6, h7, hts, hk⟩
  simp only at h0 h1 h2 h3 h4 h5 h6 h7
  subst h7
  let W := l.map fun p => wth K p.1
  have hW : W.length = l.length := by simp [W]
  refine SafeX.loop_block (Inv := fun n st F' => Up F F' ∧ ∃ i, i ≤ l.length ∧ n = l.length - i ∧ st = fam25 K sg kk w l (W.take i)) ?_ ?_
  · refine ToX.fit (stE := fam25 K sg kk w l (W.take 0)) ⟨upR 2, ⟨View.of ?_ upR_inj, ?_⟩, fun c hc => upR_lt hc, by simp⟩ (ToX.here ⟨_, Up.refl F, 0, Nat.zero_le _, rfl, rfl⟩)
    · intro c o ho
      match c with
      | 0 => cases ho; exact ViewL.at_ (b := 0) rfl rfl ((irow_g K).vw _ _)
      | 1 => cases ho; exact ViewL.at_ (b := 1) rfl rfl ((e5row_g _ _ _).vw _ _)
      | 2 => cases ho; exact ViewL.void rfl rfl
      | c + 3 => cases ho
    · show VwL (upR 2) 3 (tm25 sg K.length l.length 0) TM
      rw [tm25_spr]
      exact VwL.ofKnown h0 ⟨by rw [h1]; exact Vw.strI, by rw [h2]; exact Vw.slI (by decide) rfl, by rw [h3]; exact Vw.slN (by decide) rfl, by rw [h4]; exact Vw.gndI rfl, by rw [h5]; exact Vw.intI, by rw [h6]; exact Vw.intI, trivial⟩
  · rintro n st' F' ⟨hu, i, hi, rfl, rfl⟩
    have hlen : (W.take i).length = i := by rw [List.length_take, hW]; omega
    refine SafeX.by mixed (env25_ok hR K hK l hs HP) (f := 25) (fi := fi25) (i := 0) (by kernel_rfl) (b := .loop (loopOf fi25 0)) (by kernel_rfl) (subs_loop _) 1000 (vr25 R K sg kk w l (W.take i) _ F') ?_
    have hi2 : (0 + (((W.take i).length : Nat) : Int).toNat) = i := by rw [hlen]; simp
    refine hcB (fun h => hcT h (hcT ?_ ?_)) fun h => ?_
    · have hlt : i < l.length := by have := of_decide_eq_true h; rw [hlen] at this; omega
      rw [hi2]
      exact decide_eq_true hlt
    · have hlt : i < l.length := by have := of_decide_eq_true h; rw [hlen] at this; omega
      refine ⟨hts.le hu, i, hlt, by rw [hi2], rfl, rfl, fun F2 hu2 => hcT (capOK (by rw [hlen]; omega)) ?_⟩
      have eW : W.take (i + 1) = W.take i ++ [wth K (l.getD i dT).1] := by
        have hlt' : i < W.length := by rw [hW]; exact hlt
        rw [List.take_add_one, List.getElem?_eq_getElem hlt']
        simp [W, List.getD_eq_getElem?_getD, List.getElem?_eq_getElem hlt]
      refine ToX.fit (stE := fam25 K sg kk w l (W.take (i + 1))) ⟨mvR 2 5, ⟨View.of ?_ (mvR_inj (by simp) (by simp)), ?_⟩, mvR_lt (n := 2) (by decide), by simp⟩ (ToX.here ⟨l.length - (i + 1), by omega, hu.trans hu2, i + 1, hlt, rfl, rfl⟩)
      · intro c o ho
        match c with
        | 0 => cases ho; exact ViewL.at_ (b := 0) rfl rfl ((irow_g K).vw _ _)
        | 1 => cases ho; exact ViewL.at_ (b := 1) rfl rfl ((e5row_g _ _ _).vw _ _)
        | 2 => cases ho; rw [eW]; exact ViewL.at_ (b := 5) rfl rfl (srow_app (W.take i) _)
        | c + 3 => cases ho
      · have e : (W.take (i + 1)).length = (W.take i).length + 1 := by rw [eW]; simp
        show VwL (mvR 2 5) 3 (tm25 sg K.length l.length (W.take (i + 1)).length) _
        rw [e, wrapSucc _ (by rw [hlen]; omega)]
        (repeat' (first | with_reducible exact VwL.nil | with_reducible refine VwL.cons ?_ ?_ | with_reducible exact Vw.anyI | with_reducible exact Vw.strI | with_reducible exact Vw.boolI | with_reducible exact Vw.intI | with_reducible exact Vw.nilsI | exact Vw.ptrI (by simp) rfl | exact Vw.slI (by simp) rfl | with_reducible refine Vw.aggI ?_ | exact Vw.gndI rfl))
    · have hge : l.length ≤ i := by have := of_decide_eq_false h; rw [hlen] at this; omega
      have eW : W.take i = W := List.take_of_length_le (by rw [hW]; exact hge)
      refine ToX.fit (stE := fam25 K sg kk w l (W.take i)) ⟨some, ⟨View.preX (L := [some (irow K), some (e5row kk w l.length), some (srow (W.take i))]) (tl := []) (rowG3 (irow_g K) (e5row_g _ _ _) (srow_g _)), by (repeat' (first | with_reducible exact VwL.nil | with_reducible refine VwL.cons ?_ ?_ | with_reducible exact Vw.anyI | with_reducible exact Vw.strI | with_reducible exact Vw.boolI | with_reducible exact Vw.intI | with_reducible exact Vw.nilsI | exact Vw.ptrI (by simp) rfl | exact Vw.slI (by simp) rfl | with_reducible refine Vw.aggI ?_ | exact Vw.gndI rfl))⟩, fun _ _ => rfl, by simp⟩ (ToX.here ?_)
      rw [eW]
      exact hk F' hu
end Go.Dc.Ke
end
section
set_option linter.unusedVariables false
set_option linter.unusedSimpArgs false
namespace Go.Dc.Ke
open Go.Proofs Go.RowKit Go.Shelf
set_option maxRecDepth 100000
structure JLen (t : Tr) (K : List Int) (sg : List UInt8) : Prop where
  le : (Lib.join (shwL K t.kids) sg).length ≤ 1000000
def jn (t : Tr) (K : List Int) (sg : List UInt8) : List UInt8 := Lib.join (shwL K t.kids) sg
structure LRow (h : Rows) (b n : Nat) (K : List Int) : Prop where
  live : h.live b = some (.lst 3 1 (K.map (.int .i64)))
  len : n = K.length
  le : n ≤ 100000
def spec25 (t : Tr) (x : Nat) : CallSpecX := fun args h k => match args with
  | [a, .str sg, .sl false b 0 n _] => fun F => a = exprV t x ∧ TAt F t x ∧ ∃ K : List Int, LRow h b n K ∧ JLen t K sg ∧ ∀ F', Up F F' → k (.str (jn t K sg)) (h.set b (some (irow K))) F'
  | _ => botX
noncomputable abbrev env13 (R : Nat → RoRow) (t : Tr) (x : Nat) : EnvX := (bx R).addCall 25 (spec25 t x)
end Go.Dc.Ke
end
section
set_option linter.unusedVariables false
set_option linter.unusedSimpArgs false
namespace Go.Dc.Ke
open Go.Proofs Go.RowKit Go.Shelf
set_option maxRecDepth 100000
theorem vc13_0 (R : Nat → RoRow) (w : List UInt8) (kids : List Tr) (x : Nat) (k : AV → Fz → Prop) (F : Fz) : vcx (env13 R (.mk 0 w kids) x) 1000 13 fi13 [exprV (.mk 0 w kids) x] [] (fun v _ => k v) F = (k (AV.str [40, 41]) F) := by kernel_rfl
theorem vc13_1 (R : Nat → RoRow) (w : List UInt8) (kids : List Tr) (x : Nat) (k : AV → Fz → Prop) (F : Fz) : vcx (env13 R (.mk 1 w kids) x) 1000 13 fi13 [exprV (.mk 1 w kids) x] [] (fun v _ => k v) F = (k (AV.str (Tr.mk 1 w kids).word) F) := by kernel_rfl
theorem vc13_2 (R : Nat → RoRow) (w : List UInt8) (kids : List Tr) (x : Nat) (k : AV → Fz → Prop) (F : Fz) : vcx (env13 R (.mk 2 w kids) x) 1000 13 fi13 [exprV (.mk 2 w kids) x] [] (fun v _ => k v) F = (bif decide (1 + w.length ≤ 9223372036854775807) then k (.str (64 :: w)) F else False) := by kernel_rfl
theorem vc13_3 (R : Nat → RoRow) (w : List UInt8) (kids : List Tr) (x : Nat) (k : AV → Fz → Prop) (F : Fz) : vcx (env13 R (.mk 3 w kids) x) 1000 13 fi13 [exprV (.mk 3 w kids) x] [] (fun v _ => k v) F = (k (AV.str [35, 116, 101, 120, 116]) F) := by kernel_rfl
theorem vc13_4 (R : Nat → RoRow) (w : List UInt8) (kids : List Tr) (x : Nat) (k : AV → Fz → Prop) (F : Fz) : vcx (env13 R (.mk 4 w kids) x) 1000 13 fi13 [exprV (.mk 4 w kids) x] [] (fun v _ => k v) F = (AV.agg [AV.int IntKind.i64 4, AV.str (Tr.mk 4 w kids).word, AV.sl true (x + 15) 0 (Tr.mk 4 w kids).kids.length Cp.no] = AV.agg [AV.int IntKind.i64 4, AV.str (Tr.mk 4 w kids).word, AV.sl true (x + 15) 0 (Tr.mk 4 w kids).kids.length Cp.no] ∧ TAt F (Tr.mk 4 w kids) x ∧ ∃ (K : List Int), LRow [some (Row.lst 25 3 [AV.agg [AV.int IntKind.i64 4, AV.str (Tr.mk 4 w kids).word, AV.sl true (x + 15) 0 (Tr.mk 4 w kids).kids.length Cp.no]]), some (Row.lst 3 1 [AV.int IntKind.i64 4, AV.int IntKind.i64 5, AV.int IntKind.i64 6])] 1 3 K ∧ JLen (Tr.mk 4 w kids) K [32] ∧ ∀ (F' : Fz), Up F F' → k (AV.str (jn (Tr.mk 4 w kids) K [32])) F') := by kernel_rfl
theorem vc13_5 (R : Nat → RoRow) (w : List UInt8) (kids : List Tr) (x : Nat) (k : AV → Fz → Prop) (F : Fz) : vcx (env13 R (.mk 5 w kids) x) 1000 13 fi13 [exprV (.mk 5 w kids) x] [] (fun v _ => k v) F = (AV.agg [AV.int IntKind.i64 5, AV.str (Tr.mk 5 w kids).word, AV.sl true (x + 15) 0 (Tr.mk 5 w kids).kids.length Cp.no] = AV.agg [AV.int IntKind.i64 5, AV.str (Tr.mk 5 w kids).word, AV.sl true (x + 15) 0 (Tr.mk 5 w kids).kids.length Cp.no] ∧ TAt F (Tr.mk 5 w kids) x ∧ ∃ (K : List Int), LRow [some (Row.lst 25 3 [AV.agg [AV.int IntKind.i64 5, AV.str (Tr.mk 5 w kids).word, AV.sl true (x + 15) 0 (Tr.mk 5 w kids).kids.length Cp.no]]), some (Row.lst 3 1 [AV.int IntKind.i64 5])] 1 1 K ∧ JLen (Tr.mk 5 w kids) K [124] ∧ ∀ (F' : Fz), Up F F' → k (AV.str (jn (Tr.mk 5 w kids) K [124])) F') := by kernel_rfl
theorem vc13_6 (R : Nat → RoRow) (w : List UInt8) (kids : List Tr) (x : Nat) (k : AV → Fz → Prop) (F : Fz) : vcx (env13 R (.mk 6 w kids) x) 1000 13 fi13 [exprV (.mk 6 w kids) x] [] (fun v _ => k v) F = (AV.agg [AV.int IntKind.i64 6, AV.str (Tr.mk 6 w kids).word, AV.sl true (x + 15) 0 (Tr.mk 6 w kids).kids.length Cp.no] = AV.agg [AV.int IntKind.i64 6, AV.str (Tr.mk 6 w kids).word, AV.sl true (x + 15) 0 (Tr.mk 6 w kids).kids.length Cp.no] ∧ TAt F (Tr.mk 6 w kids) x ∧ ∃ (K : List Int), LRow [some (Row.lst 25 3 [AV.agg [AV.int IntKind.i64 6, AV.str (Tr.mk 6 w kids).word, AV.sl true (x + 15) 0 (Tr.mk 6 w kids).kids.length Cp.no]]), some (Row.lst 3 1 [AV.int IntKind.i64 6, AV.int IntKind.i64 5])] 1 2 K ∧ JLen (Tr.mk 6 w kids) K [38] ∧ ∀ (F' : Fz), Up F F' → k (AV.str (jn (Tr.mk 6 w kids) K [38])) F') := by kernel_rfl
theorem vc13_7 (R : Nat → RoRow) (w : List UInt8) (kids : List Tr) (x : Nat) (k : AV → Fz → Prop) (F : Fz) : vcx (env13 R (.mk 7 w kids) x) 1000 13 fi13 [exprV (.mk 7 w kids) x] [] (fun v _ => k v) F = (AV.str [42] = AV.str [42] ∧ AV.int IntKind.i64 7 = AV.int IntKind.i64 7 ∧ AV.int IntKind.i64 7 = AV.int IntKind.i64 7 ∧ AV.agg [AV.int IntKind.i64 7, AV.str (Tr.mk 7 w kids).word, AV.sl true (x + 15) 0 (Tr.mk 7 w kids).kids.length Cp.no] = AV.agg [AV.int IntKind.i64 7, AV.str (Tr.mk 7 w kids).word, AV.sl true (x + 15) 0 (Tr.mk 7 w kids).kids.length Cp.no] ∧ AV.agg [AV.int IntKind.i64 7, AV.str (Tr.mk 7 w kids).word, AV.sl true (x + 15) 0 (Tr.mk 7 w kids).kids.length Cp.no] = AV.agg [AV.int IntKind.i64 7, AV.str (Tr.mk 7 w kids).word, AV.sl true (x + 15) 0 (Tr.mk 7 w kids).kids.length Cp.no] ∧ TAt F (Tr.mk 7 w kids) x ∧ ∃ (K : List Int), LRow [some (Row.lst 25 3 [AV.agg [AV.int IntKind.i64 7, AV.str (Tr.mk 7 w kids).word, AV.sl true (x + 15) 0 (Tr.mk 7 w kids).kids.length Cp.no]]), some (Row.lst 3 1 [AV.int IntKind.i64 4, AV.int IntKind.i64 5, AV.int IntKind.i64 6])] 1 3 K ∧ JLen (Tr.mk 7 w kids) K [] ∧ ∀ (F' : Fz), Up F F' → AV.str [42] = AV.str [42] ∧ AV.int IntKind.i64 7 = AV.int IntKind.i64 7 ∧ AV.int IntKind.i64 7 = AV.int IntKind.i64 7 ∧ bif decide ((jn (Tr.mk 7 w kids) K []).length + 1 ≤ 9223372036854775807) then k (AV.str (jn (Tr.mk 7 w kids) K [] ++ [42])) F' else False) := by kernel_rfl
theorem vc13_8 (R : Nat → RoRow) (w : List UInt8) (kids : List Tr) (x : Nat) (k : AV → Fz → Prop) (F : Fz) : vcx (env13 R (.mk 8 w kids) x) 1000 13 fi13 [exprV (.mk 8 w kids) x] [] (fun v _ => k v) F = (AV.str [43] = AV.str [43] ∧ AV.int IntKind.i64 8 = AV.int IntKind.i64 8 ∧ AV.int IntKind.i64 8 = AV.int IntKind.i64 8 ∧ AV.agg [AV.int IntKind.i64 8, AV.str (Tr.mk 8 w kids).word, AV.sl true (x + 15) 0 (Tr.mk 8 w kids).kids.length Cp.no] = AV.agg [AV.int IntKind.i64 8, AV.str (Tr.mk 8 w kids).word, AV.sl true (x + 15) 0 (Tr.mk 8 w kids).kids.length Cp.no] ∧ AV.agg [AV.int IntKind.i64 8, AV.str (Tr.mk 8 w kids).word, AV.sl true (x + 15) 0 (Tr.mk 8 w kids).kids.length Cp.no] = AV.agg [AV.int IntKind.i64 8, AV.str (Tr.mk 8 w kids).word, AV.sl true (x + 15) 0 (Tr.mk 8 w kids).kids.length Cp.no] ∧ TAt F (Tr.mk 8 w kids) x ∧ ∃ (K : List Int), LRow [some (Row.lst 25 3 [AV.agg [AV.int IntKind.i64 8, AV.str (Tr.mk 8 w kids).word, AV.sl true (x + 15) 0 (Tr.mk 8 w kids).kids.length Cp.no]]), some (Row.lst 3 1 [AV.int IntKind.i64 4, AV.int IntKind.i64 5, AV.int IntKind.i64 6])] 1 3 K ∧ JLen (Tr.mk 8 w kids) K [] ∧ ∀ (F' : Fz), Up F F' → AV.str [43] = AV.str [43] ∧ AV.int IntKind.i64 8 = AV.int IntKind.i64 8 ∧ AV.int IntKind.i64 8 = AV.int IntKind.i64 8 ∧ bif decide ((jn (Tr.mk 8 w kids) K []).length + 1 ≤ 9223372036854775807) then k (AV.str (jn (Tr.mk 8 w kids) K [] ++ [43])) F' else False) := by kernel_rfl
theorem vc13_9 (R : Nat → RoRow) (w : List UInt8) (kids : List Tr) (x : Nat) (k : AV → Fz → Prop) (F : Fz) : vcx (env13 R (.mk 9 w kids) x) 1000 13 fi13 [exprV (.mk 9 w kids) x] [] (fun v _ => k v) F = (AV.str [63] = AV.str [63] ∧ AV.int IntKind.i64 9 = AV.int IntKind.i64 9 ∧ AV.int IntKind.i64 9 = AV.int IntKind.i64 9 ∧ AV.agg [AV.int IntKind.i64 9, AV.str (Tr.mk 9 w kids).word, AV.sl true (x + 15) 0 (Tr.mk 9 w kids).kids.length Cp.no] = AV.agg [AV.int IntKind.i64 9, AV.str (Tr.mk 9 w kids).word, AV.sl true (x + 15) 0 (Tr.mk 9 w kids).kids.length Cp.no] ∧ AV.agg [AV.int IntKind.i64 9, AV.str (Tr.mk 9 w kids).word, AV.sl true (x + 15) 0 (Tr.mk 9 w kids).kids.length Cp.no] = AV.agg [AV.int IntKind.i64 9, AV.str (Tr.mk 9 w kids).word, AV.sl true (x + 15) 0 (Tr.mk 9 w kids).kids.length Cp.no] ∧ TAt F (Tr.mk 9 w kids) x ∧ ∃ (K : List Int), LRow [some (Row.lst 25 3 [AV.agg [AV.int IntKind.i64 9, AV.str (Tr.mk 9 w kids).word, AV.sl true (x + 15) 0 (Tr.mk 9 w kids).kids.length Cp.no]]), some (Row.lst 3 1 [AV.int IntKind.i64 4, AV.int IntKind.i64 5, AV.int IntKind.i64 6])] 1 3 K ∧ JLen (Tr.mk 9 w kids) K [] ∧ ∀ (F' : Fz), Up F F' → AV.str [63] = AV.str [63] ∧ AV.int IntKind.i64 9 = AV.int IntKind.i64 9 ∧ AV.int IntKind.i64 9 = AV.int IntKind.i64 9 ∧ bif decide ((jn (Tr.mk 9 w kids) K []).length + 1 ≤ 9223372036854775807) then k (AV.str (jn (Tr.mk 9 w kids) K [] ++ [63])) F' else False) := by kernel_rfl
mutual
/-- Of the ten kinds, with not too many kids. -/
def Nice : Tr → Prop
  | .mk k w kids => k ≤ 9 ∧ kids.length ≤ 100000 ∧ w.length ≤ 100000 ∧ (k ≤ 3 → kids = []) ∧ Nices kids
def Nices : List Tr → Prop
  | [] => True
  | t :: ts => Nice t ∧ Nices ts
end
theorem Nices.mem : ∀ {ts : List Tr}, Nices ts → ∀ t ∈ ts, Nice t
  | [], _, t, h => by cases h
  | u :: ts, hn, t, h => by
    simp only [Nices] at hn
    rcases List.mem_cons.1 h with rfl | h
    · exact hn.1
    · exact Nices.mem hn.2 t h
theorem join_mem_len (sep : List UInt8) : ∀ (L : List (List UInt8)), ∀ y ∈ L, y.length ≤ (Lib.join L sep).length := by
  have tail : ∀ (r : List (List UInt8)), ∀ y ∈ r, y.length ≤ (Lib.joinTail sep r).length := by
    intro r
    induction r with
    | nil => intro y h; cases h
    | cons z r ih =>
      intro y h
      unfold Lib.joinTail at ih ⊢
      simp only [List.map_cons, List.flatten_cons, List.length_append]
      rcases List.mem_cons.1 h with rfl | h
      · omega
      · have := ih y h; omega
  intro L
  cases L with
  | nil => intro y h; cases h
  | cons z r =>
    intro y h
    rw [Lib.join_cons, List.length_append]
    rcases List.mem_cons.1 h with rfl | h
    · omega
    · have := tail r y h; omega
theorem IsT.kids {F : Fz} {k : Nat} {w : List UInt8} {kids : List Tr} {x : Nat} (h : IsT F (.mk k w kids) x) : ∃ l : List (Tr × Nat), l.map Prod.fst = kids ∧ Frz F x (kidR l) ∧ TAts F l := by
  simp only [IsT] at h
  obtain ⟨xs, h1, h2, h3⟩ := h
  refine ⟨kids.zip xs, ?_, h2, ⟨?_⟩⟩
  · exact List.map_fst_zip (by omega)
  · have key : ∀ (ts : List Tr) (xs : List Nat), IsTs F ts xs → ∀ p ∈ ts.zip xs, IsT F p.1 p.2 := by
      intro ts
      induction ts with
      | nil => intro xs _ p hp; simp at hp
      | cons t ts ih =>
        intro xs h p hp
        simp only [IsTs] at h
        cases xs with
        | nil => simp at hp
        | cons x xs =>
          simp only [List.zip_cons_cons, List.mem_cons] at hp
          rcases hp with rfl | hp
          · exact h.1
          · exact ih xs h.2 p hp
    exact key _ _ h3
theorem nm25 (kk : Int) (w sg : List UInt8) (n nk x : Nat) : nmL 5 x [.agg [.int .i64 kk, .str w, .sl true 5 0 n .no], .str sg, .sl false 0 0 nk .no] = [.agg [.int .i64 kk, .str w, tok x n], .str sg, .sl false 0 0 nk .no] := by kernel_rfl
theorem nmi (K : List Int) (x : Nat) : nmRows 5 x [some (irow K)] = [some (irow K)] := by kernel_rfl
theorem env25l_ok {R : Nat → RoRow} (hR : Free R) (K : List Int) (hK : K.length ≤ 100000) (sg : List UInt8) (kk : Int) (w : List UInt8) (l : List (Tr × Nat)) (hl : l.length ≤ 100000) (hs : ∀ p ∈ l, ShowOK p.1 ∧ (shw p.1).length ≤ 1000000) (HP : HPt) : OKX Try.prog (env25l R K sg kk w l) [] HP :=
  (env25_ok hR K hK l hs HP).addLoop (f := 25) (fi := fi25) (by kernel_rfl) (i := 0) (body := .loop (loopOf fi25 0)) (by kernel_rfl) (loop25 hR K hK sg kk w l hl hs HP)
theorem safe25 {R : Nat → RoRow} (hR : Free R) (K : List Int) (hK : K.length ≤ 100000) (sg : List UInt8) (kk : Int) (w : List UInt8) (l : List (Tr × Nat)) (hl : l.length ≤ 100000) (hs : ∀ p ∈ l, ShowOK p.1 ∧ (shw p.1).length ≤ 1000000) {x : Nat} {F : Fz} (hfr : Frz F x (kidR l)) (hts : TAts F l)
    (hj : (Lib.join (l.map fun p => wth K p.1) sg).length ≤ 1000000) (k HP : AV → Rows → Fz → Prop) (hk : ∀ F', Up F F' → k (.str (Lib.join (l.map fun p => wth K p.1) sg)) [some (irow K)] F') :
    SafeCallX Try.prog R 25 [.agg [.int .i64 kk, .str w, tok x l.length], .str sg, .sl false 0 0 K.length .no] [some (irow K)] F k HP := by
  have inner : SafeCallX Try.prog (updR R 5 (kidR l)) 25 [.agg [.int .i64 kk, .str w, .sl true 5 0 l.length .no], .str sg, .sl false 0 0 K.length .no] [some (irow K)] F (fun v h F' => v = .str (Lib.join (l.map fun p => wth K p.1) sg) ∧ h = [some (irow K)] ∧ Up F F') (fun _ _ _ => False) := by
    refine SafeCallX.post (Q := fun v h F' => v = .str (Lib.join (l.map fun p => wth K p.1) sg) ∧ (∃ tl, h = some (irow K) :: tl) ∧ Up F F') (HP := fun _ _ _ => False) ?_ ?_ ?_
    · refine SafeCallX.by mixed (env25l_ok hR K hK sg kk w l hl hs _) (f := 25) (fi := fi25) (by kernel_rfl) 1000 (vc25 R K sg kk w l _ F) ⟨rfl, rfl, rfl, rfl, rfl, rfl, rfl, rfl, hts, fun F' hu => ?_⟩
      have e := strsOf_row (l.map fun p => wth K p.1)
      refine ⟨rfl, fun j hj => rfl, ?_, ?_, ?_, ⟨_, rfl⟩, hu⟩
      · show (l.map fun p => wth K p.1).length ≤ 140737488355328
        simp; omega
      · show (Lib.join _ sg).length ≤ 140737488355328
        rw [e]; omega
      · rw [e]
    · rintro v h' F' _ ⟨rfl, ⟨tl, rfl⟩, hu⟩
      exact ToV.fit (FitV.row1 (irow_g K) rfl) (ToV.here ⟨rfl, rfl, hu⟩)
    · rintro v h' F' _ h; exact h.elim
  have := SafeCallX.swap (by decide) hfr hR.n hR.q inner (Q1 := k) (HP1 := HP) (by rintro v h' F' _ ⟨rfl, rfl, hu⟩; exact ⟨rfl, nmi K x, hk F' hu⟩) (fun v h' F' _ h => h.elim)
  rwa [nm25, nmi] at this
theorem kids_len {t : Tr} {l : List (Tr × Nat)} (h : l.map Prod.fst = t.kids) : t.kids.length = l.length := by rw [← h, List.length_map]
theorem lrow_view {h : Rows} {b n : Nat} {K : List Int} {f : Nat → Option Nat} {N : Nat} : RowV f N (irow K) (.lst 3 1 (K.map (.int .i64))) where
  ty := rfl
  esz := rfl
  len := by simp [Row.len]
  get := fun i e he => by
    simp only [Row.get?] at he ⊢
    cases hb : Nat.blt i K.length with
    | false => rw [hb] at he; cases he
    | true =>
      rw [hb] at he; cases he
      have hi := blt_of hb
      refine ⟨fun a ha => ones_mem (e := .int .i64 (K.getD i 0)) rfl a ha, .int .i64 (K.getD i 0), ?_, Vw.intI⟩
      rw [List.getElem?_map, List.getElem?_eq_getElem hi, List.getD_eq_getElem?_getD, List.getElem?_eq_getElem hi]
      rfl
theorem spec25_ok {R : Nat → RoRow} (hR : Free R) (t : Tr) (hn : t.kids.length ≤ 100000) (hs : ∀ u ∈ t.kids, ShowOK u ∧ (shw u).length ≤ 1000000) (x : Nat) (HP : HPt) : ∀ args h k F, spec25 t x args h k F → SafeCallX Try.prog R 25 args h F k HP := by
  intro args h k F hk
  unfold spec25 at hk
  split at hk
  · rename_i a sg b n u
    obtain ⟨rfl, ⟨hx⟩, K, ⟨hb, rfl, hK⟩, ⟨hj⟩, hk⟩ := hk
    obtain ⟨kd, w, kids⟩ := t
    obtain ⟨l, hl, hfr, hts⟩ := hx.kids
    have hl' : l.map Prod.fst = kids := hl
    have hlen : kids.length = l.length := by rw [← hl', List.length_map]
    have hS : shwL K kids = l.map fun p => wth K p.1 := by rw [shwL_map, ← hl', List.map_map]; rfl
    have hj' : (Lib.join (l.map fun p => wth K p.1) sg).length ≤ 1000000 := by rw [← hS]; exact hj
    have main := safe25 hR K hK sg ((kd : Nat) : Int) w l (by rw [← hlen]; exact hn) (fun p hp => hs p.1 (by show p.1 ∈ kids; rw [← hl']; exact List.mem_map_of_mem hp)) hfr hts hj' (fun v h' F' => ∃ r' tl, h' = some r' :: tl ∧ gnd v = true ∧ RowG r' ∧ (v = .str (jn (.mk kd w kids) K sg) ∧ r' = irow K ∧ Up F F')) (fun v h' F' => ∃ r' tl, h' = some r' :: tl ∧ gnd v = true ∧ RowG r' ∧ False) (fun F' hu => ⟨_, [], rfl, rfl, irow_g K, by unfold jn; rw [← hS]; rfl, rfl, hu⟩)
    rw [← hlen] at main
    refine (SafeCallX.at1v (b := b) hb (irow_g K) (lrow_view (h := h) (b := b) (n := 0)) (VwL.cons (Vw.gndI rfl) (VwL.cons Vw.strI (VwL.cons (Vw.slE (by decide) rfl) VwL.nil))) main).mono ?_ ?_
    · rintro v h' F' _ ⟨r', rfl, rfl, rfl, hu⟩; exact hk F' hu
    · rintro v h' F' _ ⟨r', _, h⟩; exact h.elim
  · exact hk.elim
theorem env13_ok {R : Nat → RoRow} (hR : Free R) (t : Tr) (hn : t.kids.length ≤ 100000) (hs : ∀ u ∈ t.kids, ShowOK u ∧ (shw u).length ≤ 1000000) (x : Nat) (HP : HPt) : OKX Try.prog (env13 R t x) [] HP :=
  (bx_ok R [] HP).addCall (f := 25) (fi := fi25) (by kernel_rfl) (spec25_ok hR t hn hs x HP)
theorem lrA (o : Option Row) : LRow [o, some (.lst 3 1 [.int .i64 4, .int .i64 5, .int .i64 6])] 1 3 kA := ⟨rfl, rfl, by decide⟩
theorem lrB (o : Option Row) : LRow [o, some (.lst 3 1 [.int .i64 6, .int .i64 5])] 1 2 kB := ⟨rfl, rfl, by decide⟩
theorem lrC (o : Option Row) : LRow [o, some (.lst 3 1 [.int .i64 5])] 1 1 kC := ⟨rfl, rfl, by decide⟩
theorem wth_len {K : List Int} {t : Tr} : (shw t).length ≤ (wth K t).length := by
  unfold wth
  cases K.contains ((t.kind : Nat) : Int) <;> simp <;> omega
theorem kid_lens {kids : List Tr} {K : List Int} {sep : List UInt8} {n : Nat} (h : (Lib.join (shwL K kids) sep).length ≤ n) : ∀ u ∈ kids, (shw u).length ≤ n := by
  intro u hu
  have h1 := join_mem_len sep (shwL K kids) (wth K u) (by rw [shwL_map]; exact List.mem_map_of_mem hu)
  have h2 := wth_len (K := K) (t := u)
  omega
theorem show_lit {R : Nat → RoRow} {kd : Nat} {w : List UInt8} {kids : List Tr} {x : Nat} {F : Fz} {k HP : AV → Rows → Fz → Prop} {S : List UInt8} (h : SafeCallX Try.prog R 13 [exprV (.mk kd w kids) x] [] F (fun v _ F' => v = .str S ∧ Up F F') (fun _ _ _ => False)) (hk : ∀ F', Up F F' → k (.str S) [] F') : SafeCallX Try.prog R 13 [exprV (.mk kd w kids) x] [] F k HP := by
  refine SafeCallX.post h ?_ ?_
  · rintro v h' F' _ ⟨rfl, hu⟩
    exact ToV.fit (vE := .str S) (hE := []) ⟨fun _ => none, ⟨fun c b hc => absurd hc (Nat.not_lt_zero _), fun c c' b hc => absurd hc (Nat.not_lt_zero _), fun c r hc => by simp [Rows.live] at hc⟩, gnd_vw _ _ _ rfl, fun c hc => absurd hc (Nat.not_lt_zero _), Nat.le_refl _⟩ (ToV.here (hk F' hu))
  · rintro v h' F' _ h; exact h.elim
theorem show_step (kd : Nat) (w : List UInt8) (kids : List Tr) (hn : Nice (.mk kd w kids)) (hl : (shw (.mk kd w kids)).length ≤ 1000000) (ih : ∀ u ∈ kids, (shw u).length ≤ 1000000 → ShowOK u) : ShowOK (.mk kd w kids) := by
  intro R hR x F k HP hx hk
  simp only [Nice] at hn
  obtain ⟨h9, hkl, hwl, h3, hnk⟩ := hn
  have env : (∀ u ∈ kids, (shw u).length ≤ 1000000) → OKX Try.prog (env13 R (.mk kd w kids) x) [] HP0 := fun h => env13_ok hR (.mk kd w kids) hkl (fun u hu => ⟨ih u hu (h u hu), h u hu⟩) x _
  have e0 : OKX Try.prog (env13 R (.mk kd w []) x) [] HP0 := env13_ok hR (.mk kd w []) (by show 0 ≤ 100000; decide) (fun u hu => by cases hu) x _
  match kd, h9 with
  | 0, _ =>
    cases h3 (by omega)
    exact show_lit (SafeCallX.by mixed e0 (f := 13) (fi := fi13) (by kernel_rfl) 1000 (vc13_0 R w [] x _ F) ⟨rfl, Up.refl F⟩) hk
  | 1, _ =>
    cases h3 (by omega)
    exact show_lit (SafeCallX.by mixed e0 (f := 13) (fi := fi13) (by kernel_rfl) 1000 (vc13_1 R w [] x _ F) ⟨rfl, Up.refl F⟩) hk
  | 2, _ =>
    cases h3 (by omega)
    exact show_lit (SafeCallX.by mixed e0 (f := 13) (fi := fi13) (by kernel_rfl) 1000 (vc13_2 R w [] x _ F) (hcT (decide_eq_true (by omega)) ⟨rfl, Up.refl F⟩)) hk
  | 3, _ =>
    cases h3 (by omega)
    exact show_lit (SafeCallX.by mixed e0 (f := 13) (fi := fi13) (by kernel_rfl) 1000 (vc13_3 R w [] x _ F) ⟨rfl, Up.refl F⟩) hk
  | 4, _ =>
    have e : shw (.mk 4 w kids) = Lib.join (shwL kA kids) [32] := rfl
    rw [e] at hl
    refine show_lit (SafeCallX.by mixed (env (kid_lens hl)) (f := 13) (fi := fi13) (by kernel_rfl) 1000 (vc13_4 R w kids x _ F) ?_) hk
    exact ⟨rfl, ⟨hx⟩, kA, lrA _, ⟨hl⟩, fun F' hu => ⟨rfl, hu⟩⟩
  | 5, _ =>
    have e : shw (.mk 5 w kids) = Lib.join (shwL kC kids) [124] := rfl
    rw [e] at hl
    refine show_lit (SafeCallX.by mixed (env (kid_lens hl)) (f := 13) (fi := fi13) (by kernel_rfl) 1000 (vc13_5 R w kids x _ F) ?_) hk
    exact ⟨rfl, ⟨hx⟩, kC, lrC _, ⟨hl⟩, fun F' hu => ⟨rfl, hu⟩⟩
  | 6, _ =>
    have e : shw (.mk 6 w kids) = Lib.join (shwL kB kids) [38] := rfl
    rw [e] at hl
    refine show_lit (SafeCallX.by mixed (env (kid_lens hl)) (f := 13) (fi := fi13) (by kernel_rfl) 1000 (vc13_6 R w kids x _ F) ?_) hk
    exact ⟨rfl, ⟨hx⟩, kB, lrB _, ⟨hl⟩, fun F' hu => ⟨rfl, hu⟩⟩
  | 7, _ =>
    have e : shw (.mk 7 w kids) = Lib.join (shwL kA kids) [] ++ [42] := rfl
    rw [e, List.length_append] at hl
    have hl2 : (Lib.join (shwL kA kids) []).length ≤ 1000000 := by simp at hl; omega
    refine show_lit (SafeCallX.by mixed (env (kid_lens hl2)) (f := 13) (fi := fi13) (by kernel_rfl) 1000 (vc13_7 R w kids x _ F) ?_) hk
    refine ⟨rfl, rfl, rfl, rfl, rfl, ⟨hx⟩, kA, lrA _, ⟨hl2⟩, fun F' hu => ⟨rfl, rfl, rfl, hcT ?_ ⟨rfl, hu⟩⟩⟩
    exact decide_eq_true (by show (Lib.join (shwL kA kids) []).length + 1 ≤ _; omega)
  | 8, _ =>
    have e : shw (.mk 8 w kids) = Lib.join (shwL kA kids) [] ++ [43] := rfl
    rw [e, List.length_append] at hl
    have hl2 : (Lib.join (shwL kA kids) []).length ≤ 1000000 := by simp at hl; omega
    refine show_lit (SafeCallX.by mixed (env (kid_lens hl2)) (f := 13) (fi := fi13) (by kernel_rfl) 1000 (vc13_8 R w kids x _ F) ?_) hk
    refine ⟨rfl, rfl, rfl, rfl, rfl, ⟨hx⟩, kA, lrA _, ⟨hl2⟩, fun F' hu => ⟨rfl, rfl, rfl, hcT ?_ ⟨rfl, hu⟩⟩⟩
    exact decide_eq_true (by show (Lib.join (shwL kA kids) []).length + 1 ≤ _; omega)
  | 9, _ =>
    have e : shw (.mk 9 w kids) = Lib.join (shwL kA kids) [] ++ [63] := rfl
    rw [e, List.length_append] at hl
    have hl2 : (Lib.join (shwL kA kids) []).length ≤ 1000000 := by simp at hl; omega
    refine show_lit (SafeCallX.by mixed (env (kid_lens hl2)) (f := 13) (fi := fi13) (by kernel_rfl) 1000 (vc13_9 R w kids x _ F) ?_) hk
    refine ⟨rfl, rfl, rfl, rfl, rfl, ⟨hx⟩, kA, lrA _, ⟨hl2⟩, fun F' hu => ⟨rfl, rfl, rfl, hcT ?_ ⟨rfl, hu⟩⟩⟩
    exact decide_eq_true (by show (Lib.join (shwL kA kids) []).length + 1 ≤ _; omega)
  | k + 10, h => omega
end Go.Dc.Ke
end
section
set_option linter.unusedVariables false
set_option linter.unusedSimpArgs false
namespace Go.Dc.Ke
open Go.Proofs Go.RowKit Go.Shelf
set_option maxRecDepth 100000
mutual
theorem showOK : ∀ (t : Tr), Nice t → (shw t).length ≤ 1000000 → ShowOK t
  | .mk k w kids, hn, hl => show_step k w kids hn hl (showOKs kids (by simp only [Nice] at hn; exact hn.2.2.2.2))
theorem showOKs : ∀ (ts : List Tr), Nices ts → ∀ u ∈ ts, (shw u).length ≤ 1000000 → ShowOK u
  | [], _, u, h, _ => by cases h
  | t :: ts, hn, u, h, hl => by
    simp only [Nices] at hn
    rcases List.mem_cons.1 h with e | h
    · rw [e]; exact showOK t hn.1 (by rw [← e]; exact hl)
    · exact showOKs ts hn.2 u h hl
end
mutual
def sz : Tr → Nat
  | .mk k w kids => 1 + w.length + szs kids
def szs : List Tr → Nat
  | [] => 0
  | t :: ts => sz t + szs ts
end
mutual
/-- Of the ten kinds; the first four have no kids. -/
def Kinds : Tr → Prop
  | .mk k w kids => k ≤ 9 ∧ (k ≤ 3 → kids = []) ∧ Kindss kids
def Kindss : List Tr → Prop
  | [] => True
  | t :: ts => Kinds t ∧ Kindss ts
end
theorem sz_pos (t : Tr) : 1 ≤ sz t := by cases t; simp only [sz]; omega
theorem szs_len : ∀ (ts : List Tr), ts.length ≤ szs ts
  | [] => Nat.le_refl _
  | t :: ts => by simp only [szs, List.length_cons]; have := szs_len ts; have := sz_pos t; omega
theorem szs_app : ∀ (l : List Tr) (t : Tr), szs (l ++ [t]) = szs l + sz t
  | [], t => by simp [szs]
  | u :: l, t => by simp only [List.cons_append, szs]; rw [szs_app l t]; omega
theorem Kindss.app : ∀ {l : List Tr} {t : Tr}, Kindss l → Kinds t → Kindss (l ++ [t])
  | [], t, _, h => by simp only [List.nil_append, Kindss]; exact ⟨h, trivial⟩
  | u :: l, t, hl, h => by simp only [List.cons_append, Kindss] at hl ⊢; exact ⟨hl.1, Kindss.app hl.2 h⟩
mutual
theorem nice_of : ∀ (t : Tr), Kinds t → sz t ≤ 100000 → Nice t
  | .mk k w kids, hk, hs => by
    simp only [Kinds] at hk
    simp only [sz] at hs
    simp only [Nice]
    have := szs_len kids
    exact ⟨hk.1, by omega, by omega, hk.2.1, nices_of kids hk.2.2 (by omega)⟩
theorem nices_of : ∀ (ts : List Tr), Kindss ts → szs ts ≤ 100000 → Nices ts
  | [], _, _ => by simp only [Nices]
  | t :: ts, hk, hs => by
    simp only [Kindss] at hk
    simp only [szs] at hs
    simp only [Nices]
    exact ⟨nice_of t hk.1 (by omega), nices_of ts hk.2 (by omega)⟩
end
theorem lens_cons (x : List UInt8) (xs : List (List UInt8)) : Lib.lens (x :: xs) = x.length + Lib.lens xs := by simp [Lib.lens]
theorem lens_join (sep : List UInt8) (hsep : sep.length ≤ 1) : ∀ L : List (List UInt8), (Lib.join L sep).length ≤ Lib.lens L + L.length := by
  intro L
  cases L with
  | nil => simp [Lib.join_nil]
  | cons z r =>
    rw [Lib.join_cons, List.length_append, Lib.joinTail_length]
    have : sep.length * r.length ≤ 1 * r.length := Nat.mul_le_mul_right _ hsep
    rw [lens_cons, List.length_cons]
    omega
mutual
theorem shw_len : ∀ (t : Tr), (shw t).length + 3 ≤ 8 * sz t
  | .mk k w kids => by
    have h1 : ∀ (K : List Int) (sep : List UInt8), sep.length ≤ 1 → (Lib.join (shwL K kids) sep).length ≤ 8 * szs kids := by
      intro K sep hsep
      have h2 := lens_join sep hsep (shwL K kids)
      have h3 := shwL_len K kids
      omega
    simp only [shw, sz]
    have hA := h1 kA [32] (by simp)
    have hB := h1 kB [38] (by simp)
    have hC := h1 kC [124] (by simp)
    have hD := h1 kA [] (by simp)
    split
    · omega
    split
    · simp only [List.length_cons]; omega
    split
    · simp only [txtW, List.length_cons, List.length_nil]; omega
    split
    · omega
    split
    · omega
    split
    · omega
    split
    · have : ((marksW.drop (k - 7)).take 1).length ≤ 1 := by simp; omega
      rw [List.length_append]; omega
    · simp only [List.length_cons, List.length_nil]; omega
theorem shwL_len : ∀ (K : List Int) (ts : List Tr), Lib.lens (shwL K ts) + (shwL K ts).length ≤ 8 * szs ts
  | K, [] => by simp [shwL, Lib.lens, szs]
  | K, t :: ts => by
    have h1 := shw_len t
    have h2 := shwL_len K ts
    simp only [shwL, szs]
    have h3 : (bif K.contains ((t.kind : Nat) : Int) then [40] ++ shw t ++ [41] else shw t).length ≤ (shw t).length + 2 := by
      cases K.contains ((t.kind : Nat) : Int) <;> simp <;> omega
    rw [lens_cons, List.length_cons]
    omega
end
/-! ### The parser's -/
/-- What a part of the parser tells is of the right kinds, and not bigger than what it has read. -/
def Fits (s : List UInt8) (r : Nat → PR) : Prop := ∀ a, a ≤ s.length → ∀ t a1, r a = .ok t a1 → Kinds t ∧ sz t + 1 ≤ 4 * (a1 - a)
section
variable {s : List UInt8} {n : Nat} {alt : Nat → PR}
theorem sub_len {a e : Nat} (h : e ≤ s.length) : (sub s a e).length ≤ e - a := by unfold sub; simp; omega
theorem pWord_fits {kd a : Nat} (hk : kd ≤ 9) (ha : a ≤ s.length) {t : Tr} {a1 : Nat} (h : pWord s kd a = .ok t a1) : Kinds t ∧ sz t + 1 ≤ 4 * (a1 - a) := by
  have hg := pWord_goes ha h
  unfold pWord at h
  cases hb : Nat.beq (scan wordly s a) a with
  | true => rw [hb] at h; cases h
  | false =>
    rw [hb] at h
    cases h
    have h3 := sub_len (s := s) (a := a) (e := scan wordly s a) hg.2
    simp only [Kinds, Kindss, sz, szs]
    exact ⟨⟨hk, fun _ => trivial, trivial⟩, by omega⟩
theorem pBr_fits (hA : Fits s alt) (hG : Goes s alt) {a : Nat} (ha : a < s.length) {t : Tr} {a1 : Nat} (h : pBr s n alt a = .ok t a1) : Kinds t ∧ sz t + 1 ≤ 4 * (a1 - a) := by
  unfold pBr at h
  cases hb : Nat.beq n 16 with
  | true => rw [hb] at h; cases h
  | false =>
    rw [hb] at h
    simp only [cond_false] at h
    have h0 := blk_ge (s := s) (a + 1)
    have h1 := blk_le (s := s) (a := a + 1) ha
    cases hc : hbI s (blk s (a + 1)) == 41 with
    | true =>
      rw [hc] at h
      cases h
      simp only [Kinds, Kindss, sz, szs]
      exact ⟨⟨by omega, fun _ => trivial, trivial⟩, by simp; omega⟩
    | false =>
      rw [hc] at h
      simp only [cond_false] at h
      obtain ⟨t1, a2, h2, h3⟩ := PR.bind_ok h
      obtain ⟨h4, h5⟩ := hG _ h1 _ _ h2
      obtain ⟨h6, h7⟩ := hA _ h1 _ _ h2
      cases hd : hbI s a2 == 41 with
      | true =>
        rw [hd] at h3
        cases h3
        exact ⟨h6, by omega⟩
      | false => rw [hd] at h3; cases h3
theorem pAtom_fits (hA : Fits s alt) (hG : Goes s alt) {a : Nat} (ha : a ≤ s.length) {t : Tr} {a1 : Nat} (h : pAtom s n alt a = .ok t a1) : Kinds t ∧ sz t + 1 ≤ 4 * (a1 - a) := by
  unfold pAtom at h
  cases h1 : hbI s a == 64 with
  | true =>
    rw [h1] at h
    have := pWord_fits (by omega) (hb_lt h1 (by decide)) h
    exact ⟨this.1, by omega⟩
  | false =>
    rw [h1] at h
    simp only [cond_false] at h
    cases h2 : hbI s a == 35 with
    | true =>
      rw [h2] at h
      simp only [cond_true] at h
      cases h3 : (exN s txtW a).1 with
      | true =>
        rw [h3] at h
        cases h
        have := exN_ok txtW a ha (by decide) h3
        have e : txtW.length = 5 := rfl
        rw [e] at this
        simp only [Kinds, Kindss, sz, szs]
        exact ⟨⟨by omega, fun _ => trivial, trivial⟩, by simp; omega⟩
      | false => rw [h3] at h; cases h
    | false =>
      rw [h2] at h
      simp only [cond_false] at h
      cases h3 : hbI s a == 40 with
      | true =>
        rw [h3] at h
        exact pBr_fits hA hG (hb_lt h3 (by decide)) h
      | false =>
        rw [h3] at h
        exact pWord_fits (by omega) ha h
theorem pMarks_fits : ∀ (f : Nat) (t : Tr) (a c : Nat), a ≤ s.length → c < a → Kinds t → sz t + 1 ≤ 4 * (a - c) → Kinds (pMarks s f t a).1 ∧ sz (pMarks s f t a).1 + 1 ≤ 4 * ((pMarks s f t a).2 - c)
  | 0, t, a, c, ha, hc, hk, hz => ⟨hk, hz⟩
  | f + 1, t, a, c, ha, hc, hk, hz => by
    unfold pMarks
    cases h : markOf (hbI s a) with
    | none => exact ⟨hk, hz⟩
    | some k =>
      have h1 := markOf_lt h
      have h2 := blk_ge (s := s) (a + 1)
      refine pMarks_fits f (.mk (7 + k) [] [t]) (blk s (a + 1)) c (blk_le h1.1) (by omega) ?_ ?_
      · simp only [Kinds, Kindss]
        exact ⟨by omega, fun h => by omega, hk, trivial⟩
      · simp only [sz, szs, List.length_nil]; omega
theorem pItem_fits (hA : Fits s alt) (hG : Goes s alt) {a : Nat} (ha : a ≤ s.length) {t : Tr} {a1 : Nat} (h : pItem s n alt a = .ok t a1) : Kinds t ∧ sz t + 1 ≤ 4 * (a1 - a) := by
  obtain ⟨t1, a2, h1, h2⟩ := PR.bind_ok h
  have h3 := pAtom_goes hG ha h1
  have h5 := pAtom_fits hA hG ha h1
  cases h2
  have h4 := blk_ge (s := s) a2
  exact pMarks_fits (s.length + 1) t1 (blk s a2) a (blk_le h3.2) (by omega) h5.1 (by omega)
theorem rowT_fits {kd : Nat} (hk : 4 ≤ kd ∧ kd ≤ 9) {l : List Tr} {d : Nat} (hl : Kindss l) (hz : szs l + l.length ≤ 4 * d) (hne : l ≠ []) : Kinds (rowT kd l) ∧ sz (rowT kd l) + 1 ≤ 4 * d := by
  match l with
  | [] => exact absurd rfl hne
  | [t] =>
    simp only [Kindss] at hl
    simp only [szs, List.length_cons, List.length_nil] at hz
    exact ⟨hl.1, by show sz t + 1 ≤ _; omega⟩
  | t :: u :: l =>
    simp only [rowT, Kinds, sz, List.length_nil]
    refine ⟨⟨hk.2, fun h => by omega, hl⟩, ?_⟩
    simp only [szs, List.length_cons] at hz ⊢
    omega
theorem pSeqs_fits (hA : Fits s alt) (hG : Goes s alt) : ∀ (f : Nat) (l : List Tr) (a c : Nat), a ≤ s.length → c ≤ a → l ≠ [] → Kindss l → szs l + l.length ≤ 4 * (a - c) → ∀ t a1, pSeqs s n alt f l a = .ok t a1 → Kinds t ∧ sz t + 1 ≤ 4 * (a1 - c)
  | 0, l, a, c, ha, hc, hne, hk, hz, t, a1, h => by cases h; exact rowT_fits (by omega) hk hz hne
  | f + 1, l, a, c, ha, hc, hne, hk, hz, t, a1, h => by
    unfold pSeqs at h
    cases hb : begins (hbI s a) with
    | false => rw [hb] at h; cases h; exact rowT_fits (by omega) hk hz hne
    | true =>
      rw [hb] at h
      obtain ⟨t1, a2, h1, h2⟩ := PR.bind_ok h
      have h3 := pItem_goes hG ha h1
      have h4 := pItem_fits hA hG ha h1
      exact pSeqs_fits hA hG f _ a2 c h3.2 (by omega) (by simp) (hk.app h4.1) (by rw [szs_app]; simp only [List.length_append, List.length_cons, List.length_nil]; omega) _ _ h2
theorem pSeq_fits (hA : Fits s alt) (hG : Goes s alt) : Fits s (pSeq s n alt) := by
  intro a ha t a1 h
  obtain ⟨t1, a2, h1, h2⟩ := PR.bind_ok h
  have h0 := blk_ge (s := s) a
  have h3 := pItem_goes hG (blk_le ha) h1
  have h4 := pItem_fits hA hG (blk_le ha) h1
  exact pSeqs_fits hA hG _ [t1] a2 a h3.2 (by omega) (by simp) (by simp only [Kindss]; exact ⟨h4.1, trivial⟩) (by simp only [szs, List.length_cons, List.length_nil]; omega) _ _ h2
theorem pJoins_fits {sg : Int} (hs : sg ≠ 0) {kd : Nat} (hkd : 4 ≤ kd ∧ kd ≤ 9) {part : Nat → PR} (hP : Fits s part) (hG : Goes s part) : ∀ (f : Nat) (l : List Tr) (a c : Nat), a ≤ s.length → c ≤ a → l ≠ [] → Kindss l → szs l + l.length ≤ 4 * (a - c) → ∀ t a1, pJoins s sg kd part f l a = .ok t a1 → Kinds t ∧ sz t + 1 ≤ 4 * (a1 - c)
  | 0, l, a, c, ha, hc, hne, hk, hz, t, a1, h => by cases h; exact rowT_fits hkd hk hz hne
  | f + 1, l, a, c, ha, hc, hne, hk, hz, t, a1, h => by
    unfold pJoins at h
    cases hb : hbI s a == sg with
    | false => rw [hb] at h; cases h; exact rowT_fits hkd hk hz hne
    | true =>
      rw [hb] at h
      obtain ⟨t1, a2, h1, h2⟩ := PR.bind_ok h
      have hlt := hb_lt hb hs
      have h3 := hG (a + 1) hlt _ _ h1
      have h4 := hP (a + 1) hlt _ _ h1
      exact pJoins_fits hs hkd hP hG f _ a2 c h3.2 (by omega) (by simp) (hk.app h4.1) (by rw [szs_app]; simp only [List.length_append, List.length_cons, List.length_nil]; omega) _ _ h2
theorem pJoin_fits {sg : Int} (hs : sg ≠ 0) {kd : Nat} (hkd : 4 ≤ kd ∧ kd ≤ 9) {part : Nat → PR} (hP : Fits s part) (hG : Goes s part) : Fits s (pJoin s sg kd part) := by
  intro a ha t a1 h
  obtain ⟨t1, a2, h1, h2⟩ := PR.bind_ok h
  have h3 := hG a ha _ _ h1
  have h4 := hP a ha _ _ h1
  exact pJoins_fits hs hkd hP hG _ [t1] a2 a h3.2 (by omega) (by simp) (by simp only [Kindss]; exact ⟨h4.1, trivial⟩) (by simp only [szs, List.length_cons, List.length_nil]; omega) _ _ h2
theorem pAltD_fits : ∀ d, Fits s (pAltD s d)
  | 0 => fun a ha t a1 h => by cases h
  | d + 1 => pJoin_fits (by decide) (by omega) (pJoin_fits (by decide) (by omega) (pSeq_fits (pAltD_fits d) (pAltD_goes d)) (pSeq_goes (pAltD_goes d))) (pAll_goes (pAltD_goes d))
theorem parse_fits {t : Tr} (h : parse s = .ok t 0) : Nice t ∧ (shw t).length ≤ 10000 ∧ sz t ≤ 1024 := by
  unfold parse at h
  cases hb : decide (s.length > 256) with
  | true => rw [hb] at h; cases h
  | false =>
    rw [hb] at h
    simp only [cond_false] at h
    obtain ⟨t1, a1, h1, h2⟩ := PR.bind_ok h
    have h3 := pAltD_fits (s := s) 17 0 (Nat.zero_le _) _ _ h1
    have h4 := pAltD_goes (s := s) 17 0 (Nat.zero_le _) _ _ h1
    cases hc : decide (a1 < s.length) with
    | true => rw [hc] at h2; cases h2
    | false =>
      rw [hc] at h2
      cases h2
      have := of_decide_eq_false hb
      have h5 := shw_len t
      exact ⟨nice_of t h3.1 (by omega), by omega, by omega⟩
end
end Go.Dc.Ke
end
section
set_option linter.unusedVariables false
set_option linter.unusedSimpArgs false
namespace Go.Dc.Ke
open Go.Proofs Go.RowKit Go.Shelf
set_option maxRecDepth 100000
def spec10 : CallSpecX := fun args h k => match args with
  | [.str s] => fun F => (∀ t, parse s = .ok t 0 → ∀ x F', Up F F' → TAt F' t x → k (.tup [exprV t x, .int .i64 0, .int .i64 0]) h F') ∧
      (∀ a c, parse s = .err a c → ∀ F', Up F F' → k (.tup [.agg [.int .i64 0, .str [], .nils], .int .i64 (a : Nat), .int .i64 (c : Nat)]) h F')
  | _ => botX
theorem spec10_ok (R : Nat → RoRow) (HP : HPt) : ∀ args h k F, spec10 args h k F → SafeCallX Try.prog R 10 args h F k HP := by
  intro args h k F hk
  unfold spec10 at hk
  split at hk
  · rename_i s
    refine (SafeCallX.at0 (Q := fun v F' => k v h F') (HP := fun _ _ => False) rfl (safe10 R s F _ _ ⟨?_, ?_⟩)).mono ?_ ?_
    · intro t ht x F' hu hx; exact ⟨rfl, hk.1 t ht x F' hu hx⟩
    · intro a c hc F' hu; exact ⟨rfl, hk.2 a c hc F' hu⟩
    · rintro v h' F' _ ⟨rfl, h⟩; exact h
    · rintro v h' F' _ ⟨_, h⟩; exact h.elim
  · exact hk.elim
structure NiceT (t : Tr) : Prop where
  nice : Nice t
  len : (shw t).length ≤ 10000
def spec13 : CallSpecX := fun args h k => match args with
  | [a] => fun F => ∃ (t : Tr) (x : Nat), a = exprV t x ∧ TAt F t x ∧ NiceT t ∧ ∀ F', Up F F' → k (.str (shw t)) h F'
  | _ => botX
theorem spec13_ok {R : Nat → RoRow} (hR : Free R) (HP : HPt) : ∀ args h k F, spec13 args h k F → SafeCallX Try.prog R 13 args h F k HP := by
  intro args h k F hk
  unfold spec13 at hk
  split at hk
  · obtain ⟨t, x, rfl, hx, hn, hk⟩ := hk
    exact show_at (showOK t hn.nice (by have := hn.len; omega)) hR hx.is h k HP hk
  · exact hk.elim
noncomputable abbrev envS (R : Nat → RoRow) : EnvX := ((bx R).addCall 10 spec10).addCall 13 spec13
theorem envS_ok {R : Nat → RoRow} (hR : Free R) (HP : HPt) : OKX Try.prog (envS R) [] HP :=
  ((bx_ok R [] HP).addCall (f := 10) (fi := fi10) (by kernel_rfl) (spec10_ok R HP)).addCall (f := 13) (fi := fi13) (by kernel_rfl) (spec13_ok hR HP)
def spk : List UInt8 := [97, 32, 40, 98, 124, 99, 41, 42, 32, 38, 32, 35, 116, 101, 120, 116]
def spkT : Tr := .mk 6 [] [.mk 4 [] [.mk 1 [97] [], .mk 7 [] [.mk 5 [] [.mk 1 [98] [], .mk 1 [99] []]]], .mk 3 [] []]
theorem parse_spk : parse spk = .ok spkT 0 := by kernel_rfl
theorem shw_spk : shw spkT = [97, 32, 40, 98, 124, 99, 41, 42, 38, 35, 116, 101, 120, 116] := by kernel_rfl
def nst : Nat → List UInt8
  | 0 => [97]
  | n + 1 => 40 :: (nst n ++ [41])
def pnT : PR := .ok (.mk 1 [97] []) 0
end Go.Dc.Ke
end
section
set_option linter.unusedVariables false
set_option linter.unusedSimpArgs false
namespace Go.Dc.Ke
open Go.Proofs Go.RowKit Go.Shelf
set_option maxRecDepth 100000
def spec9 : CallSpecX := fun args h k => match args with
  | [] => fun F => ∀ F', Up F F' → k (.bool true) h F'
  | _ => botX
noncomputable abbrev envZ (R : Nat → RoRow) : EnvX := (envS R).addCall 9 spec9
noncomputable abbrev tm4 (m : Int) (s : List UInt8) (i : Int) : List AV := [.int .i64 m, .any, .any, .str s, .int .i64 i, .any, .any, .any, .any, .any, .any, .any, .any, .any, .any, .any, .any, .any, .any, .any, .any, .any, .any, .any, .any, .any, .any, .any, .any, .any, .any, .any, .any, .any, .any, .any, .any, .any, .any, .any, .any, .any, .any, .any, .any, .any]
noncomputable abbrev fam4 (m i : Nat) : St := ⟨tm4 (m : Nat) (nst i) (i : Nat), []⟩
def lp4 (mI : Int) (m : Nat) : LoopSpX := fun st k F => mI = (m : Nat) ∧ st.tmps.length = 46 ∧ nthV st.tmps 0 = .int .i64 mI ∧ nthV st.tmps 3 = .str [97] ∧ nthV st.tmps 4 = .int .i64 0 ∧ st.rows = [] ∧ k .normal (fam4 m m) F
end Go.Dc.Ke
end
section
set_option linter.unusedVariables false
set_option linter.unusedSimpArgs false
namespace Go.Dc.Ke
open Go.Proofs Go.RowKit Go.Shelf
set_option maxRecDepth 100000
theorem vc9 (R : Nat → RoRow) (k : AV → Rows → Fz → Prop) (F : Fz) : vcx (envS R) 1000 9 fi9 [] [] k F = ((∀ (t : Tr), PR.ok (Tr.mk 6 [] [Tr.mk 4 [] [Tr.mk 1 [97] [], Tr.mk 7 [] [Tr.mk 5 [] [Tr.mk 1 [98] [], Tr.mk 1 [99] []]]], Tr.mk 3 [] []]) 0 = PR.ok t 0 → ∀ (x : Nat) (F' : Fz), Up F F' → TAt F' t x → bif (↑t.kind : Int) == 6 then bif (↑t.kids.length : Int) == 2 then ∃ (t_1 : Tr), ∃ (x_1 : Nat), AV.agg [AV.int IntKind.i64 (↑t.kind : Int), AV.str t.word, AV.sl true (x + 15) 0 t.kids.length Cp.no] = AV.agg [AV.int IntKind.i64 (↑t_1.kind : Int), AV.str t_1.word, AV.sl true (x_1 + 15) 0 t_1.kids.length Cp.no] ∧ TAt F' t_1 x_1 ∧ NiceT t_1 ∧ ∀ (F'_1 : Fz), Up F' F'_1 → k (AV.bool (shw t_1 == [97, 32, 40, 98, 124, 99, 41, 42, 38, 35, 116, 101, 120, 116])) [some (Row.lst 25 3 [AV.agg [AV.int IntKind.i64 (↑t.kind : Int), AV.str t.word, AV.sl true (x + 15) 0 t.kids.length Cp.no]])] F'_1 else k (AV.bool false) [some (Row.lst 25 3 [AV.agg [AV.int IntKind.i64 (↑t.kind : Int), AV.str t.word, AV.sl true (x + 15) 0 t.kids.length Cp.no]])] F' else k (AV.bool false) [some (Row.lst 25 3 [AV.agg [AV.int IntKind.i64 (↑t.kind : Int), AV.str t.word, AV.sl true (x + 15) 0 t.kids.length Cp.no]])] F') ∧ ∀ (a c : Nat), PR.ok (Tr.mk 6 [] [Tr.mk 4 [] [Tr.mk 1 [97] [], Tr.mk 7 [] [Tr.mk 5 [] [Tr.mk 1 [98] [], Tr.mk 1 [99] []]]], Tr.mk 3 [] []]) 0 = PR.err a c → ∀ (F' : Fz), Up F F' → bif (↑c : Int) == 0 then bif (↑a : Int) == 0 then k (AV.bool false) [some (Row.lst 25 3 [AV.agg [AV.int IntKind.i64 0, AV.str [], AV.nils]])] F' else k (AV.bool false) [some (Row.lst 25 3 [AV.agg [AV.int IntKind.i64 0, AV.str [], AV.nils]])] F' else k (AV.bool false) [some (Row.lst 25 3 [AV.agg [AV.int IntKind.i64 0, AV.str [], AV.nils]])] F') := by kernel_rfl
theorem vc4 (R : Nat → RoRow) (n mI : Int) (m : Nat) (k : AV → Fz → Prop) (F : Fz) : vcx ((envZ R).addLoop 4 0 (lp4 mI m)) 1000 4 fi4 [.int .i64 n] [] (fun v _ => k v) F = (∀ (F' : Fz), Up F F' → mI = (↑m : Int) ∧ 46 = 46 ∧ AV.int IntKind.i64 (IntKind.i64.wrap (↑(BitVec.ofInt IntKind.i64.bits n &&& BitVec.ofInt IntKind.i64.bits 31).toNat : Int)) = AV.int IntKind.i64 mI ∧ AV.str [97] = AV.str [97] ∧ AV.int IntKind.i64 0 = AV.int IntKind.i64 0 ∧ ([] : Rows) = [] ∧ (∀ (t : Tr), parse (nst m) = PR.ok t 0 → ∀ (x : Nat) (F'_1 : Fz), Up F' F'_1 → TAt F'_1 t x → bif decide ((↑m : Int) > 16) then k (AV.bool false) F'_1 else bif (↑t.kind : Int) == 1 then k (AV.bool (t.word == [97])) F'_1 else k (AV.bool false) F'_1) ∧ ∀ (a c : Nat), parse (nst m) = PR.err a c → ∀ (F'_1 : Fz), Up F' F'_1 → bif decide ((↑m : Int) > 16) then bif (↑c : Int) == 5 then k (AV.bool ((↑a : Int) == 16)) F'_1 else k (AV.bool false) F'_1 else bif (↑c : Int) == 0 then k (AV.bool false) F'_1 else k (AV.bool false) F'_1) := by kernel_rfl
theorem spkT_nice : NiceT spkT := ⟨by simp [spkT, Nice, Nices], by rw [shw_spk]; decide⟩
theorem nil_fit {R : Nat → RoRow} {v : AV} {h : Rows} {F : Fz} {S : AV → Rows → Fz → Prop} (hg : gnd v = true) (hs : S v [] F) : ToV R 0 v h F S :=
  ToV.fit (vE := v) (hE := []) ⟨fun _ => none, ⟨fun c b hc => absurd hc (Nat.not_lt_zero _), fun c c' b hc => absurd hc (Nat.not_lt_zero _), fun c r hc => by simp [Rows.live] at hc⟩, gnd_vw _ _ _ hg, fun c hc => absurd hc (Nat.not_lt_zero _), Nat.le_refl _⟩ (ToV.here hs)
theorem safe9 {R : Nat → RoRow} (hR : Free R) (F : Fz) (HP : HPt) : SafeCallX Try.prog R 9 [] [] F (fun v h F' => gnd v = true ∧ (v = .bool true ∧ Up F F')) (fun v h F' => gnd v = true ∧ False) := by
  refine SafeCallX.post (Q := fun v h F' => v = .bool true ∧ Up F F') (HP := fun _ _ _ => False) ?_ ?_ ?_
  · refine SafeCallX.by mixed (envS_ok hR _) (f := 9) (fi := fi9) (by kernel_rfl) 1000 (vc9 R _ F) ⟨?_, ?_⟩
    · intro t ht x F' hu hx
      cases ht
      refine hcT rfl (hcT rfl ⟨spkT, x, rfl, hx, spkT_nice, fun F2 hu2 => ⟨?_, hu.trans hu2⟩⟩)
      rw [shw_spk]; rfl
    · intro a c h; cases h
  · rintro v h' F' _ ⟨rfl, hu⟩; exact nil_fit rfl ⟨rfl, rfl, hu⟩
  · rintro v h' F' _ h; exact h.elim
theorem spec9_ok {R : Nat → RoRow} (hR : Free R) (HP : HPt) : ∀ args h k F, spec9 args h k F → SafeCallX Try.prog R 9 args h F k HP := by
  intro args h k F hk
  unfold spec9 at hk
  split at hk
  · refine (SafeCallX.at0 rfl (safe9 hR F HP)).mono ?_ ?_
    · rintro v h' F' _ ⟨rfl, rfl, hu⟩; exact hk F' hu
    · rintro v h' F' _ ⟨_, h⟩; exact h.elim
  · exact hk.elim
theorem envZ_ok {R : Nat → RoRow} (hR : Free R) (HP : HPt) : OKX Try.prog (envZ R) [] HP :=
  (envS_ok hR HP).addCall (f := 9) (fi := fi9) (by kernel_rfl) (spec9_ok hR HP)
/-! the nest -/
noncomputable abbrev tm4o (m : Int) (s : List UInt8) (i : Int) (a b c d e f : AV) : List AV := [.int .i64 m, .any, .any, .str s, .int .i64 i, .any, .any, .any, .any, .any, .any, .any, a, b, c, d, e, f]
theorem vr4 (R : Nat → RoRow) (m i : Nat) (k : Exit → St → Fz → Prop) (F : Fz) : rnx (bx R) 1000 4 (loopOf fi4 0) (fam4 m i) k F =
    (bif decide ((i : Int) < (m : Int)) then
      bif decide (1 + (nst i).length ≤ 9223372036854775807) then
        bif decide (([40] ++ nst i).length + 1 ≤ 9223372036854775807) then
          k .normal ⟨[.int .i64 (m : Nat), .any, .any, .str ([40] ++ nst i ++ [41]), .int .i64 (IntKind.i64.wrap ((i : Int) + 1)), .any, .any, .any, .any, .any, .any, .any, .int .i64 (i : Int), .int .i64 (m : Int), .bool true, .int .i64 (i : Int), .int .i64 (IntKind.i64.wrap ((i : Int) + 1)), .str (nst i), .str ([40] ++ nst i), .str ([40] ++ nst i ++ [41]), .any, .any, .any, .any, .any, .any, .any, .any, .any, .any, .any, .any, .any, .any, .any, .any, .any, .any, .any, .any, .any, .any, .any, .any, .any, .any], []⟩ F
        else False
      else False
    else k (.exit 0) ⟨[.int .i64 (m : Nat), .any, .any, .str (nst i), .int .i64 (i : Nat), .any, .any, .any, .any, .any, .any, .any, .int .i64 (i : Int), .int .i64 (m : Int), .bool false, .any, .any, .any, .any, .any, .any, .any, .any, .any, .any, .any, .any, .any, .any, .any, .any, .any, .any, .any, .any, .any, .any, .any, .any, .any, .any, .any, .any, .any, .any, .any], []⟩ F) := by kernel_rfl
theorem nst_len : ∀ i, (nst i).length = 2 * i + 1
  | 0 => rfl
  | i + 1 => by simp [nst, nst_len i]; omega
theorem tm4_spr (m : Int) (s : List UInt8) (i : Int) : tm4 m s i = spr [(0, .int .i64 m), (3, .str s), (4, .int .i64 i)] 0 46 := by kernel_rfl
theorem loop4 (R : Nat → RoRow) (HP : HPt) (mI : Int) (m : Nat) (hm : m ≤ 31) : ∀ st k F, lp4 mI m st k F → SafeX Try.prog R [] (.block 0 (.loop (loopOf fi4 0))) st F k HP := by
  rintro ⟨TM, rows⟩ k F ⟨rfl, h0, h1, h2, h3, h4, hk⟩
  simp only at h0 h1 h2 h3 h4
  subst h4
  refine SafeX.loop_block (Inv := fun n st F' => F' = F ∧ ∃ i, i ≤ m ∧ n = m - i ∧ st = fam4 m i) ?_ ?_
  · refine ToX.fit (stE := fam4 m 0) (Fit.nil ?_) (ToX.here ⟨_, rfl, 0, Nat.zero_le _, rfl, rfl⟩)
    show VwL _ 0 (tm4 (m : Nat) [97] 0) TM
    rw [tm4_spr]
    exact VwL.ofKnown h0 ⟨by rw [h1]; exact Vw.intI, by rw [h2]; exact Vw.strI, by rw [h3]; exact Vw.intI, trivial⟩
  · rintro n st' F' ⟨rfl, i, hi, rfl, rfl⟩
    refine SafeX.by mixed (bx_ok R [] HP) (f := 4) (fi := fi4) (i := 0) (by kernel_rfl) (b := .loop (loopOf fi4 0)) (by kernel_rfl) (subs_loop _) 1000 (vr4 R m i _ F') ?_
    have hl := nst_len i
    refine hcB (fun h => hcT (decide_eq_true (by omega)) (hcT (decide_eq_true (by simp; omega)) ?_)) fun h => ?_
    · have hlt : i < m := by have := of_decide_eq_true h; omega
      refine ToX.fit (stE := fam4 m (i + 1)) (Fit.nil ?_) (ToX.here ⟨m - (i + 1), by omega, rfl, i + 1, hlt, rfl, rfl⟩)
      rw [wrapSucc i (by omega)]
      have e : nst (i + 1) = [40] ++ nst i ++ [41] := rfl
      show VwL _ 0 (tm4 (m : Nat) (nst (i + 1)) ((i + 1 : Nat) : Int)) _
      rw [e]
      (repeat' (first | with_reducible exact VwL.nil | with_reducible refine VwL.cons ?_ ?_ | with_reducible exact Vw.anyI | with_reducible exact Vw.strI | with_reducible exact Vw.boolI | with_reducible exact Vw.intI | with_reducible exact Vw.nilsI | exact Vw.ptrI (by simp) rfl | exact Vw.slI (by simp) rfl | with_reducible refine Vw.aggI ?_ | exact Vw.gndI rfl))
    · have hge : i = m := by have := of_decide_eq_false h; omega
      subst hge
      refine ToX.fit (stE := fam4 i i) (Fit.nil (by (repeat' (first | with_reducible exact VwL.nil | with_reducible refine VwL.cons ?_ ?_ | with_reducible exact Vw.anyI | with_reducible exact Vw.strI | with_reducible exact Vw.boolI | with_reducible exact Vw.intI | with_reducible exact Vw.nilsI | exact Vw.ptrI (by simp) rfl | exact Vw.slI (by simp) rfl | with_reducible refine Vw.aggI ?_ | exact Vw.gndI rfl)))) (ToX.here hk)
theorem and31 (n : Int) : ∃ m : Nat, m ≤ 31 ∧ IntKind.i64.wrap (((BitVec.ofInt IntKind.i64.bits n &&& BitVec.ofInt IntKind.i64.bits 31).toNat : Nat) : Int) = (m : Nat) := by
  refine ⟨(BitVec.ofInt IntKind.i64.bits n &&& BitVec.ofInt IntKind.i64.bits 31).toNat, ?_, ?_⟩
  · rw [BitVec.toNat_and]
    have : (BitVec.ofInt IntKind.i64.bits 31).toNat = 31 := by decide
    rw [this]
    exact Nat.and_le_right
  · have h : (BitVec.ofInt IntKind.i64.bits n &&& BitVec.ofInt IntKind.i64.bits 31).toNat ≤ 31 := by
      rw [BitVec.toNat_and]
      have : (BitVec.ofInt IntKind.i64.bits 31).toNat = 31 := by decide
      rw [this]
      exact Nat.and_le_right
    rw [wrapI64 _ (by omega) (by omega)]
theorem pn0 : parse (nst 0) = .ok (.mk 1 [97] []) 0 := by kernel_rfl
theorem pn1 : parse (nst 1) = .ok (.mk 1 [97] []) 0 := by kernel_rfl
theorem pn2 : parse (nst 2) = .ok (.mk 1 [97] []) 0 := by kernel_rfl
theorem pn3 : parse (nst 3) = .ok (.mk 1 [97] []) 0 := by kernel_rfl
theorem pn4 : parse (nst 4) = .ok (.mk 1 [97] []) 0 := by kernel_rfl
theorem pn5 : parse (nst 5) = .ok (.mk 1 [97] []) 0 := by kernel_rfl
theorem pn6 : parse (nst 6) = .ok (.mk 1 [97] []) 0 := by kernel_rfl
theorem pn7 : parse (nst 7) = .ok (.mk 1 [97] []) 0 := by kernel_rfl
theorem pn8 : parse (nst 8) = .ok (.mk 1 [97] []) 0 := by kernel_rfl
theorem pn9 : parse (nst 9) = .ok (.mk 1 [97] []) 0 := by kernel_rfl
theorem pn10 : parse (nst 10) = .ok (.mk 1 [97] []) 0 := by kernel_rfl
theorem pn11 : parse (nst 11) = .ok (.mk 1 [97] []) 0 := by kernel_rfl
theorem pn12 : parse (nst 12) = .ok (.mk 1 [97] []) 0 := by kernel_rfl
theorem pn13 : parse (nst 13) = .ok (.mk 1 [97] []) 0 := by kernel_rfl
theorem pn14 : parse (nst 14) = .ok (.mk 1 [97] []) 0 := by kernel_rfl
theorem pn15 : parse (nst 15) = .ok (.mk 1 [97] []) 0 := by kernel_rfl
theorem pn16 : parse (nst 16) = .ok (.mk 1 [97] []) 0 := by kernel_rfl
theorem pn17 : parse (nst 17) = .err 16 5 := by kernel_rfl
theorem pn18 : parse (nst 18) = .err 16 5 := by kernel_rfl
theorem pn19 : parse (nst 19) = .err 16 5 := by kernel_rfl
theorem pn20 : parse (nst 20) = .err 16 5 := by kernel_rfl
theorem pn21 : parse (nst 21) = .err 16 5 := by kernel_rfl
theorem pn22 : parse (nst 22) = .err 16 5 := by kernel_rfl
theorem pn23 : parse (nst 23) = .err 16 5 := by kernel_rfl
theorem pn24 : parse (nst 24) = .err 16 5 := by kernel_rfl
theorem pn25 : parse (nst 25) = .err 16 5 := by kernel_rfl
theorem pn26 : parse (nst 26) = .err 16 5 := by kernel_rfl
theorem pn27 : parse (nst 27) = .err 16 5 := by kernel_rfl
theorem pn28 : parse (nst 28) = .err 16 5 := by kernel_rfl
theorem pn29 : parse (nst 29) = .err 16 5 := by kernel_rfl
theorem pn30 : parse (nst 30) = .err 16 5 := by kernel_rfl
theorem pn31 : parse (nst 31) = .err 16 5 := by kernel_rfl
theorem pn : ∀ m, m ≤ 31 → parse (nst m) = if m ≤ 16 then .ok (.mk 1 [97] []) 0 else .err 16 5 := by
  intro m hm
  match m, hm with
  | 0, _ => exact pn0
  | 1, _ => exact pn1
  | 2, _ => exact pn2
  | 3, _ => exact pn3
  | 4, _ => exact pn4
  | 5, _ => exact pn5
  | 6, _ => exact pn6
  | 7, _ => exact pn7
  | 8, _ => exact pn8
  | 9, _ => exact pn9
  | 10, _ => exact pn10
  | 11, _ => exact pn11
  | 12, _ => exact pn12
  | 13, _ => exact pn13
  | 14, _ => exact pn14
  | 15, _ => exact pn15
  | 16, _ => exact pn16
  | 17, _ => exact pn17
  | 18, _ => exact pn18
  | 19, _ => exact pn19
  | 20, _ => exact pn20
  | 21, _ => exact pn21
  | 22, _ => exact pn22
  | 23, _ => exact pn23
  | 24, _ => exact pn24
  | 25, _ => exact pn25
  | 26, _ => exact pn26
  | 27, _ => exact pn27
  | 28, _ => exact pn28
  | 29, _ => exact pn29
  | 30, _ => exact pn30
  | 31, _ => exact pn31
  | m + 32, h => omega
theorem free_RX : Free RX := ⟨rfl, RX_quits 5⟩
theorem nests_ok (n : Int) : SafeCallX Try.prog RX 4 [.int .i64 n] [] Fz.empty (fun v _ _ => v = .bool true) (fun _ _ _ => False) := by
  obtain ⟨m, hm, e⟩ := and31 n
  refine SafeCallX.by mixed ((envZ_ok free_RX _).addLoop (f := 4) (fi := fi4) (by kernel_rfl) (i := 0) (body := .loop (loopOf fi4 0)) (by kernel_rfl) (loop4 RX _ (m : Nat) m hm)) (f := 4) (fi := fi4) (by kernel_rfl) 1000 (vc4 RX n (m : Nat) m (fun v _ => v = .bool true) _) ?_
  intro F' hu
  refine ⟨rfl, rfl, by rw [e], rfl, rfl, rfl, ?_, ?_⟩
  · intro t ht x F2 hu2 hx
    rw [pn m hm] at ht
    split at ht
    · rename_i h
      cases ht
      exact hcF (by simp; omega) (hcT rfl rfl)
    · cases ht
  · intro a c hc F2 hu2
    rw [pn m hm] at hc
    split at hc
    · cases hc
    · rename_i h
      cases hc
      exact hcT (by simp; omega) (hcT rfl rfl)
theorem nests_walk (n : Int) (w : World) : Calls Try.prog 4 #[.int .i64 n] w fun e w' => e = .returned (.bool true) ∧ Below w.heap.size w w' :=
  (nests_ok n).law #[.int .i64 n] w (by simp [DenL, Den])
#print axioms nests_walk
end Go.Dc.Ke
end
section
set_option linter.unusedVariables false
set_option linter.unusedSimpArgs false
namespace Go.Dc.Ke
def stp (c : Int) : Int := if c = 40 then 1 else if c = 41 then -1 else 0
/-- How deep in brackets a place is. -/
def lv (s : List UInt8) : Nat → Int
  | 0 => 0
  | a + 1 => lv s a + stp (hbI s a)
def sgn (c : UInt8) : Bool := c == 40 || c == 41 || c == 124 || c == 38
def hd (l : List UInt8) : Int := match l with | [] => 0 | c :: _ => (c.toNat : Nat)
theorem hbI_drop (s : List UInt8) (a : Nat) : hbI s a = hd (s.drop a) := by
  rcases Nat.lt_or_ge a s.length with h | h
  · rw [List.drop_eq_getElem_cons h]
    simp [hbI, hd, List.getD, List.getElem?_eq_getElem h]
  · rw [List.drop_eq_nil_of_le h, hbI_end (by omega)]; rfl
theorem drop_scan (p : Int → Bool) (s : List UInt8) (a : Nat) : s.drop (scan p s a) = (s.drop a).dropWhile fun c => p (c.toNat : Nat) := by
  unfold scan
  rw [← List.drop_drop]
  generalize s.drop a = l
  induction l with
  | nil => rfl
  | cons c l ih =>
    rw [List.takeWhile_cons, List.dropWhile_cons]
    split
    · simpa using ih
    · rfl
theorem sub_scan (p : Int → Bool) (s : List UInt8) (a : Nat) : sub s a (scan p s a) = (s.drop a).takeWhile fun c => p (c.toNat : Nat) := by
  unfold sub scan
  rw [Nat.add_sub_cancel_left]
  generalize s.drop a = l
  induction l with
  | nil => rfl
  | cons c l ih =>
    rw [List.takeWhile_cons]
    split
    · simpa using ih
    · rfl
theorem scan_lv {p : Int → Bool} (hp : ∀ c, p c = true → stp c = 0) (h0 : p 0 = false) (s : List UInt8) : ∀ (k a : Nat), s.length - a ≤ k → lv s (scan p s a) = lv s a
  | 0, a, hk => by
    rw [scan_stop]
    rw [hbI_end (by omega)]; exact h0
  | k + 1, a, hk => by
    cases h : p (hbI s a) with
    | false => rw [scan_stop h]
    | true =>
      have ha := hbI_lt h0 h
      rw [← scan_step ha h, scan_lv hp h0 s k (a + 1) (by omega)]
      show lv s a + stp (hbI s a) = _
      rw [hp _ h]; omega
theorem blk_lv (s : List UInt8) (a : Nat) : lv s (blk s a) = lv s a := scan_lv (fun c h => by have : c = 32 := eq_of_beq h; subst this; decide) (by decide) s _ a (Nat.le_refl _)
theorem wordly_stp (c : Int) (h : wordly c = true) : stp c = 0 := by
  unfold stp
  split
  · rename_i e; subst e; exact absurd h (by decide)
  · split
    · rename_i e; subst e; exact absurd h (by decide)
    · rfl
theorem word_lv (s : List UInt8) (a : Nat) : lv s (scan wordly s a) = lv s a := scan_lv wordly_stp (by decide) s _ a (Nat.le_refl _)

/-- How the rest of a text answers to the rest of another: anywhere (T), where no blank stands (E), in a word (X). -/
structure TX (T E X : List UInt8 → List UInt8 → Prop) : Prop where
  blk : ∀ {l l'}, T l l' → E (l.dropWhile fun c => isB (c.toNat : Nat)) (l'.dropWhile fun c => isB (c.toNat : Nat))
  hd : ∀ {l l'}, E l l' → (∃ c t t', l = c :: t ∧ l' = c :: t' ∧ T t t') ∨ (l = [] ∧ (l' = [] ∨ ∃ t', l' = 41 :: t'))
  xs : ∀ {c t l'}, E (c :: t) l' → sgn c = false → X (c :: t) l'
  cons : ∀ {c t l'}, X (c :: t) l' → sgn c = false → ∃ t', l' = c :: t' ∧ X t t'
  stop : ∀ {l l'}, X l l' → (∀ c t, l = c :: t → wordly (c.toNat : Nat) = false) → T l l' ∧ (∀ c t', l' = c :: t' → wordly (c.toNat : Nat) = false)
  toT : ∀ {l l'}, X l l' → T l l'
  eT : ∀ {l l'}, E l l' → T l l'
theorem wordly_sgn {c : UInt8} (h : wordly (c.toNat : Nat) = true) : sgn c = false := by
  unfold sgn
  rw [Bool.eq_false_iff]
  intro h'
  simp only [Bool.or_eq_true, beq_iff_eq] at h'
  rcases h' with ((e | e) | e) | e <;> (subst e; exact absurd h (by decide))
section
variable {T E X : List UInt8 → List UInt8 → Prop} (hT : TX T E X)
include hT
theorem TX.word : ∀ {l l'}, X l l' → (l.takeWhile fun c => wordly (c.toNat : Nat)) = (l'.takeWhile fun c => wordly (c.toNat : Nat)) ∧ T (l.dropWhile fun c => wordly (c.toNat : Nat)) (l'.dropWhile fun c => wordly (c.toNat : Nat))
  | [], l', h => by
    obtain ⟨h1, h2⟩ := hT.stop h (by simp)
    cases l' with
    | nil => exact ⟨rfl, h1⟩
    | cons c t =>
      have := h2 c t rfl
      simp only [List.takeWhile_cons, List.dropWhile_cons, this, List.takeWhile_nil, List.dropWhile_nil]
      exact ⟨rfl, h1⟩
  | c :: t, l', h => by
    cases hw : wordly (c.toNat : Nat) with
    | true =>
      obtain ⟨t', rfl, h1⟩ := hT.cons h (wordly_sgn hw)
      have ih := TX.word h1
      simp only [List.takeWhile_cons, List.dropWhile_cons, hw, if_true]
      exact ⟨by rw [ih.1], ih.2⟩
    | false =>
      obtain ⟨h1, h2⟩ := hT.stop h (by intro c' t' e; cases e; exact hw)
      simp only [List.takeWhile_cons, List.dropWhile_cons, hw]
      cases l' with
      | nil => exact ⟨rfl, h1⟩
      | cons c' t' =>
        have := h2 c' t' rfl
        simp only [List.takeWhile_cons, List.dropWhile_cons, this]
        exact ⟨rfl, h1⟩
end
/-- Places of two texts that answer to each other. -/
structure At (s s' : List UInt8) (T : List UInt8 → List UInt8 → Prop) (a a' : Nat) : Prop where
  le : a ≤ s.length
  le' : a' ≤ s'.length
  rel : T (s.drop a) (s'.drop a')
section
variable {s s' : List UInt8} {T E X : List UInt8 → List UInt8 → Prop} (hT : TX T E X)
include hT
theorem At.blk {a a' : Nat} (h : At s s' T a a') : At s s' E (blk s a) (Ke.blk s' a') :=
  ⟨blk_le h.le, blk_le h.le', by unfold Ke.blk; rw [drop_scan, drop_scan]; exact hT.blk h.rel⟩
theorem At.hd {a a' : Nat} (h : At s s' E a a') : (a < s.length ∧ a' < s'.length ∧ hbI s' a' = hbI s a ∧ At s s' T (a + 1) (a' + 1)) ∨ (a = s.length ∧ hbI s a = 0 ∧ (hbI s' a' = 0 ∨ hbI s' a' = 41)) := by
  rcases hT.hd h.rel with ⟨c, t, t', e1, e2, h1⟩ | ⟨e1, e2⟩
  · have l1 : a < s.length := by
      rcases Nat.lt_or_ge a s.length with h | h
      · exact h
      · rw [List.drop_eq_nil_of_le h] at e1; cases e1
    have l2 : a' < s'.length := by
      rcases Nat.lt_or_ge a' s'.length with h | h
      · exact h
      · rw [List.drop_eq_nil_of_le h] at e2; cases e2
    refine .inl ⟨l1, l2, ?_, l1, l2, ?_⟩
    · rw [hbI_drop, hbI_drop, e1, e2]; rfl
    · have d1 : s.drop (a + 1) = t := by rw [← List.drop_drop, e1]; rfl
      have d2 : s'.drop (a' + 1) = t' := by rw [← List.drop_drop, e2]; rfl
      rw [d1, d2]; exact h1
  · refine .inr ⟨?_, ?_, ?_⟩
    · have := congrArg List.length e1
      simp only [List.length_drop, List.length_nil] at this
      have := h.le
      omega
    · rw [hbI_drop, e1]; rfl
    · rcases e2 with e2 | ⟨t', e2⟩
      · exact .inl (by rw [hbI_drop, e2]; rfl)
      · exact .inr (by rw [hbI_drop, e2]; rfl)
theorem At.same {a a' : Nat} (h : At s s' E a a') {c : Int} (h0 : c ≠ 0) (h1 : c ≠ 41) : (hbI s' a' == c) = (hbI s a == c) := by
  rcases h.hd hT with ⟨_, _, e, _⟩ | ⟨_, e, e'⟩
  · rw [e]
  · rw [e]
    have : ((0 : Int) == c) = false := by rw [beq_eq_false_iff_ne]; exact fun e => h0 e.symm
    rw [this]
    rcases e' with e' | e'
    · rw [e']; exact this
    · rw [e', beq_eq_false_iff_ne]; exact fun e => h1 e.symm
theorem At.begins {a a' : Nat} (h : At s s' E a a') : begins (hbI s' a') = begins (hbI s a) := by
  rcases h.hd hT with ⟨_, _, e, _⟩ | ⟨_, e, e'⟩
  · rw [e]
  · rw [e]
    rcases e' with e' | e'
    · rw [e']
    · rw [e']; decide
theorem At.markOf {a a' : Nat} (h : At s s' E a a') : markOf (hbI s' a') = markOf (hbI s a) := by
  rcases h.hd hT with ⟨_, _, e, _⟩ | ⟨_, e, e'⟩
  · rw [e]
  · rw [e]
    rcases e' with e' | e'
    · rw [e']
    · rw [e']; decide
theorem At.next {a a' : Nat} (h : At s s' E a a') {c : Int} (hc : (hbI s a == c) = true) (h0 : c ≠ 0) : At s s' T (a + 1) (a' + 1) ∧ hbI s' a' = c := by
  have := hb_lt hc h0
  rcases h.hd hT with ⟨_, _, e, h1⟩ | ⟨e, _⟩
  · exact ⟨h1, e.trans (eq_of_beq hc)⟩
  · omega
/-- In a word. -/
theorem At.toX {a a' : Nat} (h : At s s' E a a') (hl : a < s.length) (hs : sgn (s.getD a 0) = false) : At s s' X a a' := by
  refine ⟨h.le, h.le', ?_⟩
  have h1 := h.rel
  rw [List.drop_eq_getElem_cons hl] at h1 ⊢
  refine hT.xs h1 ?_
  simpa [List.getD, List.getElem?_eq_getElem hl] using hs
theorem At.cons {a a' : Nat} (h : At s s' X a a') (hl : a < s.length) (hs : sgn (s.getD a 0) = false) : a' < s'.length ∧ hbI s' a' = hbI s a ∧ At s s' X (a + 1) (a' + 1) := by
  have h1 := h.rel
  have d1 := List.drop_eq_getElem_cons hl
  rw [d1] at h1
  obtain ⟨t', e2, h2⟩ := hT.cons h1 (by simpa [List.getD, List.getElem?_eq_getElem hl] using hs)
  have l2 : a' < s'.length := by
    rcases Nat.lt_or_ge a' s'.length with h | h
    · exact h
    · rw [List.drop_eq_nil_of_le h] at e2; cases e2
  have d2 : s'.drop (a' + 1) = t' := by rw [← List.drop_drop, e2]; rfl
  exact ⟨l2, by rw [hbI_drop, hbI_drop, e2, d1]; rfl, hl, l2, by rw [d2]; exact h2⟩
theorem At.word {a a' : Nat} (h : At s s' X a a') : sub s a (scan wordly s a) = sub s' a' (scan wordly s' a') ∧ At s s' T (scan wordly s a) (scan wordly s' a') ∧ Nat.beq (scan wordly s' a') a' = Nat.beq (scan wordly s a) a := by
  have := hT.word h.rel
  refine ⟨by rw [sub_scan, sub_scan]; exact this.1, ⟨scan_le h.le, scan_le h.le', by rw [drop_scan, drop_scan]; exact this.2⟩, ?_⟩
  unfold scan
  rw [this.1]
  generalize (List.takeWhile _ _).length = k
  cases k with
  | zero => simp
  | succ k =>
    have hf : ∀ b : Nat, Nat.beq (b + (k + 1)) b = false := fun b => by
      cases h : Nat.beq (b + (k + 1)) b with
      | false => rfl
      | true => have := Nat.eq_of_beq_eq_true h; omega
    rw [hf, hf]
end
theorem hb_sgn {s : List UInt8} {a : Nat} {c : Int} (hc : (hbI s a == c) = true) (h1 : c ≠ 40) (h2 : c ≠ 41) (h3 : c ≠ 124) (h4 : c ≠ 38) : sgn (s.getD a 0) = false := by
  have e := eq_of_beq hc
  unfold sgn
  rw [Bool.eq_false_iff]
  intro h'
  have e' : c = (((s.getD a 0).toNat : Nat) : Int) := by rw [← e]; simp [hbI]
  simp only [Bool.or_eq_true, beq_iff_eq] at h'
  rcases h' with ((h | h) | h) | h <;> (rw [h] at e'; first | exact h1 e' | exact h2 e' | exact h3 e' | exact h4 e')
section
variable {s s' : List UInt8} {T E X : List UInt8 → List UInt8 → Prop} (hT : TX T E X)
include hT
theorem pWord_sim {a a' kd : Nat} (h : At s s' X a a') {t : Tr} {a1 : Nat} (hp : pWord s kd a = .ok t a1) : ∃ a1', pWord s' kd a' = .ok t a1' ∧ At s s' T a1 a1' ∧ lv s a1 = lv s a := by
  obtain ⟨e, h1, h2⟩ := h.word hT
  unfold pWord at hp ⊢
  rw [h2]
  cases hb : Nat.beq (scan wordly s a) a with
  | true => rw [hb] at hp; cases hp
  | false =>
    rw [hb] at hp
    cases hp
    exact ⟨_, by rw [← e]; rfl, h1, word_lv s a⟩
theorem exN_sim : ∀ (w : List UInt8) (a a' : Nat), At s s' X a a' → (∀ c ∈ w, sgn c = false ∧ (c.toNat : Int) ≠ 0 ∧ stp (c.toNat : Int) = 0) → (exN s w a).1 = true → (exN s' w a').1 = true ∧ At s s' X (exN s w a).2 (exN s' w a').2 ∧ lv s (exN s w a).2 = lv s a
  | [], a, a', h, _, _ => ⟨rfl, h, rfl⟩
  | c :: w, a, a', h, hw, hx => by
    unfold exN at hx ⊢
    obtain ⟨w1, w2, w3⟩ := hw c (by simp)
    cases hb : hbI s a == ((c.toNat : Nat) : Int) with
    | false => rw [hb] at hx; cases hx
    | true =>
      rw [hb] at hx
      have hl := hb_lt hb w2
      have hs : sgn (s.getD a 0) = false := by
        have e := eq_of_beq hb
        have : s.getD a 0 = c := by
          have e' : (((s.getD a 0).toNat : Nat) : Int) = ((c.toNat : Nat) : Int) := by rw [← e]; simp [hbI]
          exact UInt8.toNat_inj.1 (by omega)
        rw [this]; exact w1
      obtain ⟨l2, e2, h2⟩ := h.cons hT hl hs
      have ih := exN_sim w (a + 1) (a' + 1) h2 (fun d hd => hw d (by simp [hd])) hx
      rw [e2, hb]
      refine ⟨ih.1, ih.2.1, ih.2.2.trans ?_⟩
      show lv s a + stp (hbI s a) = _
      rw [eq_of_beq hb, w3]; omega
end
end Go.Dc.Ke
end
section
set_option linter.unusedVariables false
set_option linter.unusedSimpArgs false
namespace Go.Dc.Ke
theorem pWord_begins {s : List UInt8} {kd a : Nat} {t : Tr} {a1 : Nat} (h : pWord s kd a = .ok t a1) : wordly (hbI s a) = true := by
  cases hw : wordly (hbI s a) with
  | true => rfl
  | false =>
    unfold pWord at h
    rw [scan_stop hw, Nat.beq_refl] at h
    cases h
theorem wordly_at {s : List UInt8} {a : Nat} (h : wordly (hbI s a) = true) : sgn (s.getD a 0) = false := by
  refine wordly_sgn ?_
  have : hbI s a = (((s.getD a 0).toNat : Nat) : Int) := by simp [hbI]
  rw [← this]; exact h
theorem pSeq_lt {s : List UInt8} {n : Nat} {alt : Nat → PR} (hA : Goes s alt) {a : Nat} (ha : a ≤ s.length) {t : Tr} {a1 : Nat} (h : pSeq s n alt a = .ok t a1) : a < s.length := by
  obtain ⟨t1, a2, h1, h2⟩ := PR.bind_ok h
  have h0 := blk_ge (s := s) a
  have h3 := pItem_goes hA (blk_le ha) h1
  omega
theorem pJoin_lt {s : List UInt8} {sg : Int} {kd : Nat} {part : Nat → PR} (hP : ∀ a, a ≤ s.length → ∀ t a1, part a = .ok t a1 → a < s.length) {a : Nat} (ha : a ≤ s.length) {t : Tr} {a1 : Nat} (h : pJoin s sg kd part a = .ok t a1) : a < s.length := by
  obtain ⟨t1, a2, h1, h2⟩ := PR.bind_ok h
  exact hP a ha _ _ h1
theorem pAltD_lt {s : List UInt8} : ∀ d a, a ≤ s.length → ∀ t a1, pAltD s d a = .ok t a1 → a < s.length
  | 0, a, ha, t, a1, h => by cases h
  | d + 1, a, ha, t, a1, h => pJoin_lt (fun a ha t a1 h => pJoin_lt (fun a ha t a1 h => pSeq_lt (pAltD_goes d) ha h) ha h) ha h
theorem markOf_stp {c : Int} {k : Nat} (h : markOf c = some k) : stp c = 0 := by
  unfold stp
  split
  · rename_i e; subst e; cases h
  · split
    · rename_i e; subst e; cases h
    · rfl
/-- What one parser tells at a place the other one tells at the place that answers to it. -/
def Sim (s s' : List UInt8) (T E : List UInt8 → List UInt8 → Prop) (CC : Nat → Prop) (r r' : Nat → PR) : Prop :=
  ∀ a a', At s s' T a a' → CC a → ∀ t a1, r a = .ok t a1 → ∃ a1', r' a' = .ok t a1' ∧ At s s' E a1 a1' ∧ lv s a1 = lv s a
section
variable {s s' : List UInt8} {T E X : List UInt8 → List UInt8 → Prop} (hT : TX T E X)
variable {n n' : Nat} {alt alt' : Nat → PR} {CC CI : Nat → Prop}
variable (hC : ∀ a b, lv s a = lv s b → CC a → CC b) (hI : ∀ a b, lv s a = lv s b → CI a → CI b)
variable (hB : ∀ a : Nat, (hbI s a == 40) = true → CC a → Nat.beq n 16 = false → Nat.beq n' 16 = false ∧ CI (a + 1))
variable (hA : Sim s s' T E CI alt alt') (hL : ∀ a, a ≤ s.length → ∀ t a1, alt a = .ok t a1 → a < s.length)
variable (hG : Goes s alt) (hG' : Goes s' alt')
include hT
theorem At.eT {a a' : Nat} (h : At s s' E a a') : At s s' T a a' := ⟨h.le, h.le', hT.eT h.rel⟩
theorem At.xT {a a' : Nat} (h : At s s' X a a') : At s s' T a a' := ⟨h.le, h.le', hT.toT h.rel⟩
include hI hB hA hL in
theorem pBr_sim {a a' : Nat} (h : At s s' E a a') (hp : (hbI s a == 40) = true) (hc : CC a) {t : Tr} {a1 : Nat} (hk : pBr s n alt a = .ok t a1) : ∃ a1', pBr s' n' alt' a' = .ok t a1' ∧ At s s' T a1 a1' ∧ lv s a1 = lv s a := by
  unfold pBr at hk ⊢
  cases hn : Nat.beq n 16 with
  | true => rw [hn] at hk; cases hk
  | false =>
    rw [hn] at hk
    obtain ⟨hn', hci⟩ := hB a hp hc hn
    rw [hn']
    simp only [cond_false] at hk ⊢
    have hx := (h.next hT hp (by decide)).1
    have hE := hx.blk hT
    have l0 : lv s (blk s (a + 1)) = lv s a + 1 := by
      rw [blk_lv]
      show lv s a + stp (hbI s a) = _
      rw [eq_of_beq hp]; rfl
    cases hd : hbI s (blk s (a + 1)) == 41 with
    | true =>
      rw [hd] at hk
      cases hk
      obtain ⟨h1, h2⟩ := hE.next hT hd (by decide)
      rw [h2]
      refine ⟨_, rfl, h1, ?_⟩
      show lv s (blk s (a + 1)) + stp _ = _
      rw [eq_of_beq hd, l0]
      show lv s a + 1 + -1 = _
      omega
    | false =>
      rw [hd] at hk
      simp only [cond_false] at hk
      obtain ⟨t1, a2, h1, h2⟩ := PR.bind_ok hk
      have hlt := hL _ hE.le _ _ h1
      have he : hbI s' (blk s' (a' + 1)) = hbI s (blk s (a + 1)) := by
        rcases hE.hd hT with ⟨_, _, e, _⟩ | ⟨e, _⟩
        · exact e
        · omega
      rw [he, hd]
      simp only [cond_false]
      obtain ⟨a2', h3, h4, h5⟩ := hA _ _ (hE.eT hT) (hI (a + 1) _ (blk_lv s (a + 1)).symm hci) _ _ h1
      rw [h3]
      show ∃ a1', (bif hbI s' a2' == 41 then PR.ok t1 (a2' + 1) else .err a2' 3) = .ok t a1' ∧ _
      cases hd2 : hbI s a2 == 41 with
      | true =>
        rw [hd2] at h2
        cases h2
        obtain ⟨h6, h7⟩ := h4.next hT hd2 (by decide)
        rw [h7]
        refine ⟨_, rfl, h6, ?_⟩
        show lv s a2 + stp _ = _
        rw [eq_of_beq hd2, h5, l0]
        show lv s a + 1 + -1 = _
        omega
      | false => rw [hd2] at h2; cases h2
include hI hB hA hL in
theorem pAtom_sim {a a' : Nat} (h : At s s' E a a') (hc : CC a) {t : Tr} {a1 : Nat} (hk : pAtom s n alt a = .ok t a1) : ∃ a1', pAtom s' n' alt' a' = .ok t a1' ∧ At s s' T a1 a1' ∧ lv s a1 = lv s a := by
  unfold pAtom at hk ⊢
  rw [h.same hT (c := 64) (by decide) (by decide), h.same hT (c := 35) (by decide) (by decide), h.same hT (c := 40) (by decide) (by decide)]
  cases h1 : hbI s a == 64 with
  | true =>
    rw [h1] at hk
    simp only [cond_true] at hk ⊢
    have hs := hb_sgn h1 (by decide) (by decide) (by decide) (by decide)
    have hl := hb_lt h1 (by decide)
    obtain ⟨_, _, hX⟩ := (h.toX hT hl hs).cons hT hl hs
    obtain ⟨a1', e1, e2, e3⟩ := pWord_sim hT hX hk
    refine ⟨a1', e1, e2, e3.trans ?_⟩
    show lv s a + stp (hbI s a) = _
    rw [eq_of_beq h1]
    show lv s a + 0 = _
    omega
  | false =>
    rw [h1] at hk
    simp only [cond_false] at hk ⊢
    cases h2 : hbI s a == 35 with
    | true =>
      rw [h2] at hk
      simp only [cond_true] at hk ⊢
      have hs := hb_sgn h2 (by decide) (by decide) (by decide) (by decide)
      have hl := hb_lt h2 (by decide)
      cases h3 : (exN s txtW a).1 with
      | true =>
        rw [h3] at hk
        cases hk
        obtain ⟨e1, e2, e3⟩ := exN_sim hT txtW a a' (h.toX hT hl hs) (by decide) h3
        rw [e1]
        exact ⟨_, rfl, e2.xT hT, e3⟩
      | false => rw [h3] at hk; cases hk
    | false =>
      rw [h2] at hk
      simp only [cond_false] at hk ⊢
      cases h3 : hbI s a == 40 with
      | true =>
        rw [h3] at hk
        exact pBr_sim hT hI hB hA hL h h3 hc hk
      | false =>
        rw [h3] at hk
        simp only [cond_false] at hk ⊢
        have hw := pWord_begins hk
        exact pWord_sim hT (h.toX hT (hbI_lt (p := wordly) (by decide) hw) (wordly_at hw)) hk
theorem pMarks_sim : ∀ (f f' : Nat) (t : Tr) (a a' : Nat), At s s' E a a' → s.length + 1 ≤ f + a → s'.length + 1 ≤ f' + a' →
    (pMarks s' f' t a').1 = (pMarks s f t a).1 ∧ At s s' E (pMarks s f t a).2 (pMarks s' f' t a').2 ∧ lv s (pMarks s f t a).2 = lv s a
  | 0, f', t, a, a', h, hf, hf' => by have := h.le; omega
  | f + 1, 0, t, a, a', h, hf, hf' => by have := h.le'; omega
  | f + 1, f' + 1, t, a, a', h, hf, hf' => by
    unfold pMarks
    rw [h.markOf hT]
    cases hm : markOf (hbI s a) with
    | none => exact ⟨rfl, h, rfl⟩
    | some k =>
      simp only []
      have h1 := (markOf_lt hm).1
      rcases h.hd hT with ⟨_, _, _, hx⟩ | ⟨e, _⟩
      · have g1 := blk_ge (s := s) (a + 1)
        have g2 := blk_ge (s := s') (a' + 1)
        obtain ⟨e1, e2, e3⟩ := pMarks_sim f f' (.mk (7 + k) [] [t]) _ _ (hx.blk hT) (by omega) (by omega)
        refine ⟨e1, e2, e3.trans ?_⟩
        rw [blk_lv]
        show lv s a + stp (hbI s a) = _
        rw [markOf_stp hm]; omega
      · omega
include hI hB hA hL in
theorem pItem_sim {a a' : Nat} (h : At s s' E a a') (hc : CC a) {t : Tr} {a1 : Nat} (hk : pItem s n alt a = .ok t a1) : ∃ a1', pItem s' n' alt' a' = .ok t a1' ∧ At s s' E a1 a1' ∧ lv s a1 = lv s a := by
  obtain ⟨t1, a2, h1, h2⟩ := PR.bind_ok hk
  obtain ⟨a2', h3, h4, h5⟩ := pAtom_sim hT hI hB hA hL h hc h1
  cases h2
  unfold pItem
  rw [h3]
  obtain ⟨e1, e2, e3⟩ := pMarks_sim hT (s.length + 1) (s'.length + 1) t1 _ _ (h4.blk hT) (by omega) (by omega)
  refine ⟨_, ?_, e2, e3.trans ((blk_lv s a2).trans h5)⟩
  show PR.ok _ _ = _
  rw [e1]
include hC hI hB hA hL hG hG' in
theorem pSeqs_sim : ∀ (f f' : Nat) (l : List Tr) (a a' : Nat), At s s' E a a' → CC a → s.length + 1 ≤ f + a → s'.length + 1 ≤ f' + a' → ∀ t a1, pSeqs s n alt f l a = .ok t a1 → ∃ a1', pSeqs s' n' alt' f' l a' = .ok t a1' ∧ At s s' E a1 a1' ∧ lv s a1 = lv s a
  | 0, f', l, a, a', h, hc, hf, hf', t, a1, hk => by have := h.le; omega
  | f + 1, 0, l, a, a', h, hc, hf, hf', t, a1, hk => by have := h.le'; omega
  | f + 1, f' + 1, l, a, a', h, hc, hf, hf', t, a1, hk => by
    unfold pSeqs at hk ⊢
    rw [h.begins hT]
    cases hb : begins (hbI s a) with
    | false => rw [hb] at hk; cases hk; exact ⟨_, rfl, h, rfl⟩
    | true =>
      rw [hb] at hk
      simp only [cond_true] at hk ⊢
      obtain ⟨t1, a2, h1, h2⟩ := PR.bind_ok hk
      obtain ⟨a2', h3, h4, h5⟩ := pItem_sim hT hI hB hA hL h hc h1
      rw [h3]
      have g1 := pItem_goes hG h.le h1
      have g2 := pItem_goes hG' h.le' h3
      obtain ⟨a3', e1, e2, e3⟩ := pSeqs_sim f f' (l ++ [t1]) a2 a2' h4 (hC _ _ h5.symm hc) (by omega) (by omega) _ _ h2
      exact ⟨a3', e1, e2, e3.trans h5⟩
include hC hI hB hA hL hG hG' in
theorem pSeq_sim : Sim s s' T E CC (pSeq s n alt) (pSeq s' n' alt') := by
  intro a a' h hc t a1 hk
  obtain ⟨t1, a2, h1, h2⟩ := PR.bind_ok hk
  obtain ⟨a2', h3, h4, h5⟩ := pItem_sim hT hI hB hA hL (h.blk hT) (hC _ _ (blk_lv s a).symm hc) h1
  have l1 : lv s a2 = lv s a := h5.trans (blk_lv s a)
  obtain ⟨a3', e1, e2, e3⟩ := pSeqs_sim hT hC hI hB hA hL hG hG' (s.length + 1) (s'.length + 1) [t1] a2 a2' h4 (hC _ _ l1.symm hc) (by omega) (by omega) _ _ h2
  refine ⟨a3', ?_, e2, e3.trans l1⟩
  unfold pSeq
  rw [h3]
  exact e1
end
section
variable {s s' : List UInt8} {T E X : List UInt8 → List UInt8 → Prop} (hT : TX T E X)
variable {part part' : Nat → PR} {CC : Nat → Prop} (hC : ∀ a b, lv s a = lv s b → CC a → CC b)
variable (hP : Sim s s' T E CC part part') (hG : Goes s part) (hG' : Goes s' part')
variable {sg : Int} (h0 : sg ≠ 0) (h1 : sg ≠ 41) (h2 : stp sg = 0) {kd : Nat}
include hT hC hP hG hG' h0 h1 h2
theorem pJoins_sim : ∀ (f f' : Nat) (l : List Tr) (a a' : Nat), At s s' E a a' → CC a → s.length + 1 ≤ f + a → s'.length + 1 ≤ f' + a' → ∀ t a1, pJoins s sg kd part f l a = .ok t a1 → ∃ a1', pJoins s' sg kd part' f' l a' = .ok t a1' ∧ At s s' E a1 a1' ∧ lv s a1 = lv s a
  | 0, f', l, a, a', h, hc, hf, hf', t, a1, hk => by have := h.le; omega
  | f + 1, 0, l, a, a', h, hc, hf, hf', t, a1, hk => by have := h.le'; omega
  | f + 1, f' + 1, l, a, a', h, hc, hf, hf', t, a1, hk => by
    unfold pJoins at hk ⊢
    rw [h.same hT h0 h1]
    cases hb : hbI s a == sg with
    | false => rw [hb] at hk; cases hk; exact ⟨_, rfl, h, rfl⟩
    | true =>
      rw [hb] at hk
      simp only [cond_true] at hk ⊢
      obtain ⟨t1, a2, g1, g2⟩ := PR.bind_ok hk
      have hx := (h.next hT hb h0).1
      have l0 : lv s (a + 1) = lv s a := by
        show lv s a + stp (hbI s a) = _
        rw [eq_of_beq hb, h2]; omega
      obtain ⟨a2', h3, h4, h5⟩ := hP _ _ hx (hC _ _ l0.symm hc) _ _ g1
      rw [h3]
      have l1 := h5.trans l0
      have k1 := hG _ hx.le _ _ g1
      have k2 := hG' _ hx.le' _ _ h3
      obtain ⟨a3', e1, e2, e3⟩ := pJoins_sim f f' (l ++ [t1]) a2 a2' h4 (hC _ _ l1.symm hc) (by omega) (by omega) _ _ g2
      exact ⟨a3', e1, e2, e3.trans l1⟩
theorem pJoin_sim : Sim s s' T E CC (pJoin s sg kd part) (pJoin s' sg kd part') := by
  intro a a' h hc t a1 hk
  obtain ⟨t1, a2, g1, g2⟩ := PR.bind_ok hk
  obtain ⟨a2', h3, h4, h5⟩ := hP _ _ h hc _ _ g1
  obtain ⟨a3', e1, e2, e3⟩ := pJoins_sim hT hC hP hG hG' h0 h1 h2 (s.length + 1) (s'.length + 1) [t1] a2 a2' h4 (hC _ _ h5.symm hc) (by omega) (by omega) _ _ g2
  refine ⟨a3', ?_, e2, e3.trans h5⟩
  unfold pJoin
  rw [h3]
  exact e1
end
/-- So many brackets suffice. -/
def Rm (s : List UInt8) (d d' a : Nat) : Prop := d' = d ∨ (∀ i, lv s i ≤ 14) ∧ 15 - lv s a ≤ (d' : Int)
theorem Rm.at {s : List UInt8} {d d' : Nat} (a b : Nat) (e : lv s a = lv s b) (h : Rm s d d' a) : Rm s d d' b := by
  rcases h with h | ⟨h1, h2⟩
  · exact .inl h
  · exact .inr ⟨h1, by rw [← e]; exact h2⟩
theorem pAltD_sim {s s' : List UInt8} {T E X : List UInt8 → List UInt8 → Prop} (hT : TX T E X) : ∀ d d', Sim s s' T E (Rm s d d') (pAltD s d) (pAltD s' d')
  | 0, d' => fun a a' h hc t a1 hk => by cases hk
  | d + 1, 0 => fun a a' h hc t a1 hk => by
    rcases hc with hc | ⟨h1, h2⟩
    · omega
    · have := h1 a; omega
  | d + 1, d' + 1 => by
    have hB : ∀ a : Nat, (hbI s a == 40) = true → Rm s (d + 1) (d' + 1) a → Nat.beq (16 - d) 16 = false → Nat.beq (16 - d') 16 = false ∧ Rm s d d' (a + 1) := by
      intro a ha hc hn
      rcases hc with hc | ⟨h1, h2⟩
      · have : d' = d := by omega
        subst this
        exact ⟨hn, .inl rfl⟩
      · have h3 : lv s (a + 1) = lv s a + 1 := by
          show lv s a + stp (hbI s a) = _
          rw [eq_of_beq ha]; rfl
        have h4 := h1 (a + 1)
        refine ⟨?_, .inr ⟨h1, by omega⟩⟩
        cases hb : Nat.beq (16 - d') 16 with
        | false => rfl
        | true => have := Nat.eq_of_beq_eq_true hb; omega
    have q := pSeq_sim (s := s) (s' := s') (n := 16 - d) (n' := 16 - d') hT Rm.at Rm.at hB (pAltD_sim hT d d') (pAltD_lt d) (pAltD_goes d) (pAltD_goes d')
    have r := pJoin_sim hT Rm.at q (pSeq_goes (pAltD_goes d)) (pSeq_goes (pAltD_goes d')) (sg := 38) (by decide) (by decide) (by decide) (kd := 6)
    exact pJoin_sim hT Rm.at r (pAll_goes (pAltD_goes d)) (pAll_goes (pAltD_goes d')) (sg := 124) (by decide) (by decide) (by decide) (kd := 5)
end Go.Dc.Ke
end
section
set_option linter.unusedVariables false
set_option linter.unusedSimpArgs false
namespace Go.Dc.Ke
theorem blk_idem (s : List UInt8) (a : Nat) : blk s (blk s a) = blk s a := by
  refine scan_stop ?_
  have h := drop_scan isB s a
  rw [hbI_drop]
  unfold blk
  rw [h]
  generalize s.drop a = l
  induction l with
  | nil => rfl
  | cons c l ih =>
    rw [List.dropWhile_cons]
    split
    · exact ih
    · rename_i h; exact Bool.eq_false_iff.2 h
theorem pSeq_begins {s : List UInt8} {n : Nat} {alt : Nat → PR} {a : Nat} {t : Tr} {a1 : Nat} (h : pSeq s n alt a = .ok t a1) : begins (hbI s (blk s a)) = true := by
  obtain ⟨t1, a2, h1, h2⟩ := PR.bind_ok h
  obtain ⟨t3, a3, h3, h4⟩ := PR.bind_ok h1
  unfold pAtom at h3
  unfold begins
  cases e1 : hbI s (blk s a) == 64 with
  | true => simp
  | false =>
    rw [e1] at h3
    cases e2 : hbI s (blk s a) == 35 with
    | true => simp
    | false =>
      rw [e2] at h3
      cases e3 : hbI s (blk s a) == 40 with
      | true => simp
      | false =>
        rw [e3] at h3
        have := pWord_begins h3
        rw [this]; rfl
theorem pAltD_begins {s : List UInt8} : ∀ d a t a1, pAltD s d a = .ok t a1 → begins (hbI s (blk s a)) = true
  | 0, a, t, a1, h => by cases h
  | d + 1, a, t, a1, h => by
    obtain ⟨t1, a2, h1, h2⟩ := PR.bind_ok h
    obtain ⟨t3, a3, h3, h4⟩ := PR.bind_ok h1
    exact pSeq_begins h3
theorem pSeq_blk (s : List UInt8) (n : Nat) (alt : Nat → PR) (a : Nat) : pSeq s n alt (blk s a) = pSeq s n alt a := by unfold pSeq; rw [blk_idem]
theorem pAltD_blk (s : List UInt8) : ∀ d a, begins (hbI s (blk s a)) = true → pAltD s (d + 1) (blk s a) = pAltD s (d + 1) a := by
  intro d a h
  show pJoin _ _ _ _ _ = pJoin _ _ _ _ _
  unfold pJoin
  show PR.bind (pJoin _ _ _ _ _) _ = PR.bind (pJoin _ _ _ _ _) _
  unfold pJoin
  rw [pSeq_blk]
theorem parse_ok {s : List UInt8} {t : Tr} {a : Nat} (h : parse s = .ok t a) : a = 0 ∧ s.length ≤ 256 ∧ pAltD s 17 0 = .ok t s.length := by
  unfold parse at h
  cases h1 : decide (s.length > 256) with
  | true => rw [h1] at h; cases h
  | false =>
    rw [h1] at h
    simp only [cond_false] at h
    obtain ⟨t1, a1, h2, h3⟩ := PR.bind_ok h
    have g := (pAltD_goes 17 0 (Nat.zero_le _) _ _ h2).2
    cases h4 : decide (a1 < s.length) with
    | true => rw [h4] at h3; cases h3
    | false =>
      rw [h4] at h3
      cases h3
      have := of_decide_eq_false h1
      have := of_decide_eq_false h4
      have e : a1 = s.length := by omega
      rw [e] at h2
      exact ⟨rfl, by omega, h2⟩
theorem parse_of {s : List UInt8} {t : Tr} (hl : s.length ≤ 256) (h : pAltD s 17 0 = .ok t s.length) : parse s = .ok t 0 := by
  unfold parse
  rw [decide_eq_false (by omega), h]
  show (bif decide (s.length < s.length) then _ else _) = _
  rw [decide_eq_false (by omega)]; rfl
/-! ### With a bracket behind it -/
def TB (q l l' : List UInt8) : Prop := l' = l ++ 41 :: q
theorem dropB (q : List UInt8) : ∀ l : List UInt8, ((l ++ 41 :: q).dropWhile fun c => isB (c.toNat : Nat)) = (l.dropWhile fun c => isB (c.toNat : Nat)) ++ 41 :: q
  | [] => rfl
  | c :: l => by
    rw [List.cons_append, List.dropWhile_cons, List.dropWhile_cons]
    split
    · exact dropB q l
    · rfl
theorem tb_ok (q : List UInt8) : TX (TB q) (TB q) (TB q) where
  blk := fun {l l'} h => by rw [show l' = _ from h]; exact dropB q l
  hd := fun {l l'} h => by
    rw [show l' = _ from h]
    cases l with
    | nil => exact .inr ⟨rfl, .inr ⟨q, rfl⟩⟩
    | cons c t => exact .inl ⟨c, t, t ++ 41 :: q, rfl, rfl, rfl⟩
  xs := fun h _ => h
  cons := fun {c t l'} h _ => ⟨t ++ 41 :: q, h, rfl⟩
  stop := fun {l l'} h hs => ⟨h, by
    rw [show l' = _ from h]
    intro c t' e
    cases l with
    | nil => cases e; decide
    | cons c1 t => cases e; exact hs _ _ rfl⟩
  toT := fun h => h
  eT := fun h => h
theorem inner {p s q : List UInt8} {t : Tr} (hp : parse s = .ok t 0) (hl : ∀ i, lv s i ≤ 14) : pAltD (p ++ (s ++ 41 :: q)) 16 p.length = .ok t (p.length + s.length) := by
  obtain ⟨_, _, h⟩ := parse_ok hp
  have h0 : lv s 0 = 0 := rfl
  obtain ⟨a1, h1, h2, _⟩ := pAltD_sim (tb_ok q) 17 16 0 p.length (s := s) (s' := p ++ (s ++ 41 :: q)) ⟨Nat.zero_le _, by simp, by simp [TB]⟩ (.inr ⟨hl, by rw [h0]; decide⟩) _ _ h
  have h3 := h2.rel
  rw [List.drop_eq_nil_of_le (Nat.le_refl _)] at h3
  have h4 := congrArg List.length (show _ = [] ++ 41 :: q from h3)
  have h5 := h2.le'
  simp only [List.length_drop, List.length_append, List.length_cons, List.length_nil] at h4 h5
  have e : a1 = p.length + s.length := by omega
  rw [← e]; exact h1
theorem hb_mid (p l : List UInt8) (k : Nat) (h : k = p.length) : hbI (p ++ l) (k : Nat) = hd l := by
  rw [hbI_drop, h, List.drop_left]
theorem br_all {p s q : List UInt8} {t : Tr} (hp : parse s = .ok t 0) (hl : ∀ i, lv s i ≤ 14) (hq : hd q = 0 ∨ hd q = 124) :
    pAll (p ++ 40 :: (s ++ 41 :: q)) 0 (pAltD (p ++ 40 :: (s ++ 41 :: q)) 16) p.length = .ok t (p.length + s.length + 2) := by
  have e0 : p ++ 40 :: (s ++ 41 :: q) = (p ++ [40]) ++ (s ++ 41 :: q) := by simp
  have e1 : p ++ 40 :: (s ++ 41 :: q) = (p ++ 40 :: s) ++ 41 :: q := by simp
  have e2 : p ++ 40 :: (s ++ 41 :: q) = (p ++ 40 :: s ++ [41]) ++ q := by simp
  have hin := inner (p := p ++ [40]) (q := q) hp hl
  rw [← e0] at hin
  have b0 : hbI (p ++ 40 :: (s ++ 41 :: q)) (p.length : Nat) = 40 := hb_mid p _ _ rfl
  have b1 : hbI (p ++ 40 :: (s ++ 41 :: q)) ((p.length + 1 + s.length : Nat)) = 41 := by rw [e1]; exact hb_mid _ _ _ (by simp; omega)
  have b2 : hbI (p ++ 40 :: (s ++ 41 :: q)) ((p.length + s.length + 2 : Nat)) = hd q := by rw [e2]; exact hb_mid _ _ _ (by simp; omega)
  generalize hS : p ++ 40 :: (s ++ 41 :: q) = S at hin b0 b1 b2 ⊢
  have hk : (p ++ [40]).length = p.length + 1 := by simp
  rw [hk] at hin
  have hbeg := pAltD_begins 16 _ _ _ hin
  have n41 : (hbI S (blk S (p.length + 1)) == 41) = false := by
    cases h : hbI S (blk S (p.length + 1)) == 41 with
    | false => rfl
    | true => rw [eq_of_beq h] at hbeg; exact absurd hbeg (by decide)
  have hbr : pBr S 0 (pAltD S 16) p.length = .ok t (p.length + s.length + 2) := by
    unfold pBr
    rw [n41, pAltD_blk S 15 _ hbeg, hin]
    show (bif hbI S ((p.length + 1 + s.length : Nat)) == 41 then PR.ok t (p.length + 1 + s.length + 1) else _) = _
    rw [b1]
    show PR.ok t _ = _
    rw [show p.length + 1 + s.length + 1 = p.length + s.length + 2 by omega]
  have hat : pAtom S 0 (pAltD S 16) p.length = .ok t (p.length + s.length + 2) := by
    unfold pAtom
    rw [b0]; exact hbr
  have hbk : blk S (p.length + s.length + 2) = p.length + s.length + 2 := scan_stop (by rw [b2]; rcases hq with h | h <;> (rw [h]; decide))
  have hit : pItem S 0 (pAltD S 16) p.length = .ok t (p.length + s.length + 2) := by
    unfold pItem
    rw [hat]
    show PR.ok _ _ = _
    rw [hbk]
    have hm : pMarks S (S.length + 1) t (p.length + s.length + 2) = (t, p.length + s.length + 2) := by
      unfold pMarks
      rw [b2]
      rcases hq with h | h <;> (rw [h]; rfl)
    rw [hm]
  have hbp : blk S p.length = p.length := scan_stop (by rw [b0]; decide)
  have hsq : pSeq S 0 (pAltD S 16) p.length = .ok t (p.length + s.length + 2) := by
    unfold pSeq
    rw [hbp, hit]
    show pSeqs S 0 (pAltD S 16) (S.length + 1) [t] _ = _
    unfold pSeqs
    rw [b2]
    rcases hq with h | h <;> (rw [h]; rfl)
  unfold pAll pJoin
  rw [hsq]
  show pJoins S 38 6 _ (S.length + 1) [t] _ = _
  unfold pJoins
  rw [b2]
  rcases hq with h | h <;> (rw [h]; rfl)
theorem parse_one {s : List UInt8} {t : Tr} (hp : parse s = .ok t 0) (hl : ∀ i, lv s i ≤ 14) (hn : s.length + 2 ≤ 256) : parse (40 :: (s ++ [41])) = .ok t 0 := by
  refine parse_of (by simp; omega) ?_
  have h := br_all (p := []) (q := []) hp hl (.inl rfl)
  have e : ([] : List UInt8) ++ 40 :: (s ++ 41 :: []) = 40 :: (s ++ [41]) := rfl
  rw [e] at h
  have h' : pAll (40 :: (s ++ [41])) 0 (pAltD (40 :: (s ++ [41])) 16) 0 = .ok t (s.length + 2) := by
    rw [show s.length + 2 = ([] : List UInt8).length + s.length + 2 by simp]; exact h
  have hlen : (40 :: (s ++ [41])).length = s.length + 2 := by simp
  show pJoin _ _ _ _ _ = _
  unfold pJoin
  rw [show (16 - 16 : Nat) = 0 from rfl, h', hlen]
  show pJoins _ 124 5 _ (s.length + 2 + 1) [t] (s.length + 2) = _
  unfold pJoins
  rw [hbI_end (by rw [hlen]; exact Int.le_refl _)]; rfl
theorem parse_two {s u : List UInt8} {t v : Tr} (hp : parse s = .ok t 0) (hq : parse u = .ok v 0) (hl : ∀ i, lv s i ≤ 14) (hm : ∀ i, lv u i ≤ 14) (hn : s.length + u.length + 5 ≤ 256) :
    parse (40 :: (s ++ 41 :: 124 :: 40 :: (u ++ [41]))) = .ok (.mk 5 [] [t, v]) 0 := by
  have hlen : (40 :: (s ++ 41 :: 124 :: 40 :: (u ++ [41]))).length = s.length + u.length + 5 := by simp; omega
  refine parse_of (by rw [hlen]; exact hn) ?_
  have h1 := br_all (p := []) (q := 124 :: 40 :: (u ++ [41])) hp hl (.inr rfl)
  have h2 := br_all (p := 40 :: (s ++ [41, 124])) (q := []) hq hm (.inl rfl)
  have e1 : ([] : List UInt8) ++ 40 :: (s ++ 41 :: 124 :: 40 :: (u ++ [41])) = 40 :: (s ++ 41 :: 124 :: 40 :: (u ++ [41])) := rfl
  have e2 : (40 :: (s ++ [41, 124])) ++ 40 :: (u ++ 41 :: []) = 40 :: (s ++ 41 :: 124 :: 40 :: (u ++ [41])) := by simp
  have e3 : 40 :: (s ++ 41 :: 124 :: 40 :: (u ++ [41])) = (40 :: (s ++ [41])) ++ (124 :: 40 :: (u ++ [41])) := by simp
  rw [e1] at h1
  rw [e2] at h2
  have b : hbI (40 :: (s ++ 41 :: 124 :: 40 :: (u ++ [41]))) ((s.length + 2 : Nat)) = 124 := by rw [e3]; exact hb_mid _ _ _ (by simp)
  have l1 : ([] : List UInt8).length + s.length + 2 = s.length + 2 := by simp
  have l2 : (40 :: (s ++ [41, 124])).length = s.length + 2 + 1 := by simp
  rw [l1] at h1
  rw [l2] at h2
  generalize hS : 40 :: (s ++ 41 :: 124 :: 40 :: (u ++ [41])) = S at h1 h2 b hlen ⊢
  show pJoin S 124 5 (pAll S 0 (pAltD S 16)) 0 = _
  unfold pJoin
  rw [show pAll S 0 (pAltD S 16) 0 = .ok t (s.length + 2) from h1]
  show pJoins S 124 5 _ (S.length + 1) [t] (s.length + 2) = _
  unfold pJoins
  rw [b]
  show PR.bind (pAll S 0 (pAltD S 16) (s.length + 2 + 1)) _ = _
  rw [h2]
  show pJoins S 124 5 _ S.length ([t] ++ [v]) (s.length + 2 + 1 + u.length + 2) = _
  have hz : s.length + 2 + 1 + u.length + 2 = S.length := by rw [hlen]; omega
  rw [hz]
  have hS1 : S.length = S.length - 1 + 1 := by omega
  generalize hf : S.length - 1 = f at hS1
  have : ∀ (f a : Nat), hbI S a = 0 → pJoins S 124 5 (pAll S 0 (pAltD S 16)) (f + 1) ([t] ++ [v]) a = .ok (.mk 5 [] [t, v]) a := by
    intro f a h
    unfold pJoins
    rw [h]; rfl
  have h3 := this f S.length (hbI_end (Int.le_refl _))
  rw [← hS1] at h3
  exact h3
/-! ### With blanks around the signs -/
def img (p : Nat) : List UInt8 → List UInt8
  | [] => []
  | c :: l => (bif sgn c then List.replicate p 32 ++ c :: List.replicate p 32 else [c]) ++ img p l
theorem img_cons (p : Nat) (c : UInt8) (l : List UInt8) : img p (c :: l) = (bif sgn c then List.replicate p 32 ++ c :: List.replicate p 32 else [c]) ++ img p l := rfl
def EI (p : Nat) (l l' : List UInt8) : Prop := (l = [] ∧ l' = []) ∨ ∃ c t t', l = c :: t ∧ l' = c :: t' ∧ c ≠ 32 ∧ (∃ j, t' = List.replicate j 32 ++ (img p t ++ List.replicate p 32)) ∧ (sgn c = false → t' = img p t ++ List.replicate p 32)
def TI (p : Nat) (l l' : List UInt8) : Prop := (∃ j, l' = List.replicate j 32 ++ (img p l ++ List.replicate p 32)) ∨ EI p l l'
def XI (p : Nat) (l l' : List UInt8) : Prop := l' = img p l ++ List.replicate p 32
theorem drop_rep (l : List UInt8) : ∀ j, ((List.replicate j 32 ++ l).dropWhile fun c => isB (c.toNat : Nat)) = l.dropWhile fun c => isB (c.toNat : Nat)
  | 0 => rfl
  | j + 1 => by
    rw [List.replicate_succ, List.cons_append, List.dropWhile_cons]
    exact drop_rep l j
theorem isB_ne {c : UInt8} (h : c ≠ 32) : isB (c.toNat : Nat) = false := by
  unfold isB
  rw [beq_eq_false_iff_ne]
  intro e
  exact h (UInt8.toNat_inj.1 (by have : ((32 : UInt8).toNat : Int) = 32 := rfl; omega))
theorem ti_blk (p : Nat) : ∀ (l : List UInt8) (j : Nat), EI p (l.dropWhile fun c => isB (c.toNat : Nat)) ((List.replicate j 32 ++ (img p l ++ List.replicate p 32)).dropWhile fun c => isB (c.toNat : Nat))
  | [], j => by
    rw [drop_rep]
    refine .inl ⟨rfl, ?_⟩
    have := drop_rep [] p
    rw [List.append_nil] at this
    exact this
  | c :: t, j => by
    rw [drop_rep]
    by_cases hc : c = 32
    · subst hc
      have := ti_blk p t 0
      exact this
    · rw [List.dropWhile_cons, isB_ne hc]
      refine .inr ?_
      rw [img_cons]
      cases hs : sgn c with
      | true =>
        refine ⟨c, t, List.replicate p 32 ++ (img p t ++ List.replicate p 32), rfl, ?_, hc, ⟨p, rfl⟩, fun h => by rw [hs] at h; cases h⟩
        simp only [hs, cond_true, List.append_assoc, List.cons_append]
        rw [drop_rep, List.dropWhile_cons, isB_ne hc]; rfl
      | false =>
        refine ⟨c, t, img p t ++ List.replicate p 32, rfl, ?_, hc, ⟨0, rfl⟩, fun _ => rfl⟩
        simp only [hs, cond_false, List.append_assoc, List.cons_append, List.nil_append]
        rw [List.dropWhile_cons, isB_ne hc]; rfl
theorem rep_head {p : Nat} {c : UInt8} {t l : List UInt8} (h : List.replicate p 32 ++ l = c :: t) : (p = 0 ∧ l = c :: t) ∨ c = 32 := by
  cases p with
  | zero => exact .inl ⟨rfl, h⟩
  | succ p => rw [List.replicate_succ] at h; cases h; exact .inr rfl
theorem ti_ok (p : Nat) : TX (TI p) (EI p) (XI p) where
  blk := fun {l l'} h => by
    rcases h with ⟨j, e⟩ | h
    · rw [e]; exact ti_blk p l j
    · rcases h with ⟨e1, e2⟩ | ⟨c, t, t', e1, e2, hc, h1, h2⟩
      · subst e1; subst e2; exact .inl ⟨rfl, rfl⟩
      · subst e1; subst e2
        rw [List.dropWhile_cons, List.dropWhile_cons, isB_ne hc]
        exact .inr ⟨c, t, t', rfl, rfl, hc, h1, h2⟩
  hd := fun {l l'} h => by
    rcases h with ⟨e1, e2⟩ | ⟨c, t, t', e1, e2, hc, h1, h2⟩
    · exact .inr ⟨e1, .inl e2⟩
    · exact .inl ⟨c, t, t', e1, e2, .inl h1⟩
  xs := fun {c t l'} h hs => by
    rcases h with ⟨e1, e2⟩ | ⟨c1, t1, t', e1, e2, hc, h1, h2⟩
    · cases e1
    · cases e1
      rw [e2, h2 hs]
      unfold XI
      rw [img_cons, hs]; rfl
  cons := fun {c t l'} h hs => by
    refine ⟨img p t ++ List.replicate p 32, ?_, rfl⟩
    rw [show l' = _ from h]
    show img p (c :: t) ++ _ = _
    rw [img_cons, hs]; rfl
  stop := fun {l l'} h hs => ⟨.inl ⟨0, h⟩, by
    rw [show l' = _ from h]
    intro c t' e
    cases l with
    | nil =>
      have e' : List.replicate p 32 ++ ([] : List UInt8) = c :: t' := by rw [List.append_nil]; exact e
      rcases rep_head e' with ⟨_, e⟩ | e
      · cases e
      · subst e; decide
    | cons c1 t =>
      have h1 := hs c1 t rfl
      rw [img_cons] at e
      cases hsg : sgn c1 with
      | true =>
        rw [hsg] at e
        simp only [cond_true, List.append_assoc, List.cons_append] at e
        rcases rep_head e with ⟨_, e⟩ | e
        · cases e; exact h1
        · subst e; decide
      | false =>
        rw [hsg] at e
        cases e
        exact h1⟩
  toT := fun h => .inl ⟨0, h⟩
  eT := fun h => .inr h
theorem parse_img {s : List UInt8} {t : Tr} (p : Nat) (hp : parse s = .ok t 0) (hn : (List.replicate p 32 ++ (img p s ++ List.replicate p 32)).length ≤ 256) : parse (List.replicate p 32 ++ (img p s ++ List.replicate p 32)) = .ok t 0 := by
  obtain ⟨_, _, h⟩ := parse_ok hp
  obtain ⟨a1, h1, h2, _⟩ := pAltD_sim (ti_ok p) 17 17 0 0 (s := s) (s' := List.replicate p 32 ++ (img p s ++ List.replicate p 32)) ⟨Nat.zero_le _, Nat.zero_le _, .inl ⟨p, rfl⟩⟩ (.inl rfl) _ _ h
  have h3 := h2.rel
  rw [List.drop_eq_nil_of_le (Nat.le_refl _)] at h3
  have h4 : List.drop a1 (List.replicate p 32 ++ (img p s ++ List.replicate p 32)) = [] := by
    rcases h3 with ⟨_, e⟩ | ⟨c, t, t', e, _⟩
    · exact e
    · cases e
  have h5 := congrArg List.length h4
  have h6 := h2.le'
  rw [List.length_drop, List.length_nil] at h5
  have e : a1 = (List.replicate p 32 ++ (img p s ++ List.replicate p 32)).length := by omega
  rw [e] at h1
  exact parse_of hn h1
end Go.Dc.Ke
end
section
set_option linter.unusedVariables false
set_option linter.unusedSimpArgs false
namespace Go.Dc.Ke
open Go.Proofs Go.RowKit Go.Shelf
set_option maxRecDepth 100000
noncomputable abbrev tm5 (s P B : List UInt8) (c i : Int) : List AV := [.str s, .any, .any, .any, .any, .ptr false 0 0 0, .any, .int .i64 c, .str P, .str B, .int .i64 i, .any, .any, .any, .any, .any, .any, .any, .any, .any, .any, .any, .any, .any, .any, .any, .any, .any, .any, .any, .any, .any, .any, .any, .any, .any, .any, .any, .any, .any, .any, .any, .any, .any, .any, .any, .any, .any, .any, .any, .any, .any, .any, .any, .any, .any, .any, .any, .any, .any, .any, .any, .any, .any, .any, .any, .any, .any, .any, .any, .any, .any, .any, .any, .any, .any, .any, .any, .any, .any, .any, .any, .any, .any, .any, .any, .any, .any, .any, .any, .any]
noncomputable abbrev fam5 (s P B : List UInt8) (c : Int) (i : Nat) (d : AV) : St := ⟨tm5 s P B c (i : Nat), [some (.gen 25 3 1 fun _ => d)]⟩
def lp5 (s P Bn : List UInt8) : LoopSpX := fun st k F => match nthV st.tmps 7 with
  | .int .i64 c => st.tmps.length = 91 ∧ nthV st.tmps 0 = .str s ∧ nthV st.tmps 5 = .ptr false 0 0 0 ∧ nthV st.tmps 8 = .str P ∧ nthV st.tmps 9 = .str P ∧ nthV st.tmps 10 = .int .i64 0 ∧ (∃ d, st.rows = [some (.lst 25 3 [d])] ∧ gnd d = true ∧ ones d = true) ∧ k .normal ⟨tm5 s P Bn c s.length, st.rows⟩ F
  | _ => False
end Go.Dc.Ke
end
section
set_option linter.unusedVariables false
set_option linter.unusedSimpArgs false
namespace Go.Dc.Ke
open Go.Proofs Go.RowKit Go.Shelf
set_option maxRecDepth 100000
theorem vr5 (R : Nat → RoRow) (s P B : List UInt8) (c : Int) (i : Nat) (d : AV) (k : Exit → St → Fz → Prop) (F : Fz) : rnx (bx R) 1000 5 (loopOf fi5 0) (fam5 s P B c i d) k F = (bif decide ((↑i : Int) < (↑s.length : Int)) then bif slCond (some (↑i : Int)) (some (IntKind.i64.wrap ((↑i : Int) + 1))) s.length then bif List.take (slHi s.length (some (IntKind.i64.wrap ((↑i : Int) + 1))) - slLo (some (↑i : Int))) (List.drop (slLo (some (↑i : Int))) s) == [124] then bif decide (P.length + (List.take (slHi s.length (some (IntKind.i64.wrap ((↑i : Int) + 1))) - slLo (some (↑i : Int))) (List.drop (slLo (some (↑i : Int))) s)).length ≤ 9223372036854775807) then bif decide ((P ++ List.take (slHi s.length (some (IntKind.i64.wrap ((↑i : Int) + 1))) - slLo (some (↑i : Int))) (List.drop (slLo (some (↑i : Int))) s)).length + P.length ≤ 9223372036854775807) then bif decide (B.length + (P ++ List.take (slHi s.length (some (IntKind.i64.wrap ((↑i : Int) + 1))) - slLo (some (↑i : Int))) (List.drop (slLo (some (↑i : Int))) s) ++ P).length ≤ 9223372036854775807) then k Exit.normal (St.mk [AV.str s, AV.any, AV.any, AV.any, AV.any, AV.ptr false 0 0 0, AV.any, AV.int IntKind.i64 c, AV.str P, AV.str (B ++ (P ++ List.take (slHi s.length (some (IntKind.i64.wrap ((↑i : Int) + 1))) - slLo (some (↑i : Int))) (List.drop (slLo (some (↑i : Int))) s) ++ P)), AV.int IntKind.i64 (IntKind.i64.wrap ((↑i : Int) + 1)), AV.str (P ++ List.take (slHi s.length (some (IntKind.i64.wrap ((↑i : Int) + 1))) - slLo (some (↑i : Int))) (List.drop (slLo (some (↑i : Int))) s) ++ P), AV.any, AV.any, AV.any, AV.any, AV.any, AV.any, AV.any, AV.any, AV.any, AV.any, AV.any, AV.any, AV.any, AV.any, AV.any, AV.any, AV.any, AV.int IntKind.i64 (↑i : Int), AV.str s, AV.int IntKind.i64 (↑s.length : Int), AV.bool true, AV.int IntKind.i64 (↑i : Int), AV.int IntKind.i64 (IntKind.i64.wrap ((↑i : Int) + 1)), AV.str s, AV.int IntKind.i64 (↑i : Int), AV.int IntKind.i64 (↑i : Int), AV.int IntKind.i64 (IntKind.i64.wrap ((↑i : Int) + 1)), AV.str (List.take (slHi s.length (some (IntKind.i64.wrap ((↑i : Int) + 1))) - slLo (some (↑i : Int))) (List.drop (slLo (some (↑i : Int))) s)), AV.str (List.take (slHi s.length (some (IntKind.i64.wrap ((↑i : Int) + 1))) - slLo (some (↑i : Int))) (List.drop (slLo (some (↑i : Int))) s)), AV.bool (List.take (slHi s.length (some (IntKind.i64.wrap ((↑i : Int) + 1))) - slLo (some (↑i : Int))) (List.drop (slLo (some (↑i : Int))) s) == [124]), AV.bool true, AV.tup [], AV.tup [], AV.bool true, AV.bool true, AV.tup [], AV.tup [], AV.bool true, AV.bool true, AV.tup [], AV.tup [], AV.bool true, AV.str P, AV.str (List.take (slHi s.length (some (IntKind.i64.wrap ((↑i : Int) + 1))) - slLo (some (↑i : Int))) (List.drop (slLo (some (↑i : Int))) s)), AV.str (P ++ List.take (slHi s.length (some (IntKind.i64.wrap ((↑i : Int) + 1))) - slLo (some (↑i : Int))) (List.drop (slLo (some (↑i : Int))) s)), AV.str P, AV.str (P ++ List.take (slHi s.length (some (IntKind.i64.wrap ((↑i : Int) + 1))) - slLo (some (↑i : Int))) (List.drop (slLo (some (↑i : Int))) s) ++ P), AV.str B, AV.str (P ++ List.take (slHi s.length (some (IntKind.i64.wrap ((↑i : Int) + 1))) - slLo (some (↑i : Int))) (List.drop (slLo (some (↑i : Int))) s) ++ P), AV.str (B ++ (P ++ List.take (slHi s.length (some (IntKind.i64.wrap ((↑i : Int) + 1))) - slLo (some (↑i : Int))) (List.drop (slLo (some (↑i : Int))) s) ++ P)), AV.any, AV.any, AV.any, AV.any, AV.any, AV.any, AV.any, AV.any, AV.any, AV.any, AV.any, AV.any, AV.any, AV.any, AV.any, AV.any, AV.any, AV.any, AV.any, AV.any, AV.any, AV.any, AV.any, AV.any, AV.any, AV.any, AV.any, AV.any, AV.any] [some (Row.gen 25 3 1 fun (x : Nat) => d)]) F else False else False else False else bif List.take (slHi s.length (some (IntKind.i64.wrap ((↑i : Int) + 1))) - slLo (some (↑i : Int))) (List.drop (slLo (some (↑i : Int))) s) == [38] then bif decide (P.length + (List.take (slHi s.length (some (IntKind.i64.wrap ((↑i : Int) + 1))) - slLo (some (↑i : Int))) (List.drop (slLo (some (↑i : Int))) s)).length ≤ 9223372036854775807) then bif decide ((P ++ List.take (slHi s.length (some (IntKind.i64.wrap ((↑i : Int) + 1))) - slLo (some (↑i : Int))) (List.drop (slLo (some (↑i : Int))) s)).length + P.length ≤ 9223372036854775807) then bif decide (B.length + (P ++ List.take (slHi s.length (some (IntKind.i64.wrap ((↑i : Int) + 1))) - slLo (some (↑i : Int))) (List.drop (slLo (some (↑i : Int))) s) ++ P).length ≤ 9223372036854775807) then k Exit.normal (St.mk [AV.str s, AV.any, AV.any, AV.any, AV.any, AV.ptr false 0 0 0, AV.any, AV.int IntKind.i64 c, AV.str P, AV.str (B ++ (P ++ List.take (slHi s.length (some (IntKind.i64.wrap ((↑i : Int) + 1))) - slLo (some (↑i : Int))) (List.drop (slLo (some (↑i : Int))) s) ++ P)), AV.int IntKind.i64 (IntKind.i64.wrap ((↑i : Int) + 1)), AV.str (P ++ List.take (slHi s.length (some (IntKind.i64.wrap ((↑i : Int) + 1))) - slLo (some (↑i : Int))) (List.drop (slLo (some (↑i : Int))) s) ++ P), AV.any, AV.any, AV.any, AV.any, AV.any, AV.any, AV.any, AV.any, AV.any, AV.any, AV.any, AV.any, AV.any, AV.any, AV.any, AV.any, AV.any, AV.int IntKind.i64 (↑i : Int), AV.str s, AV.int IntKind.i64 (↑s.length : Int), AV.bool true, AV.int IntKind.i64 (↑i : Int), AV.int IntKind.i64 (IntKind.i64.wrap ((↑i : Int) + 1)), AV.str s, AV.int IntKind.i64 (↑i : Int), AV.int IntKind.i64 (↑i : Int), AV.int IntKind.i64 (IntKind.i64.wrap ((↑i : Int) + 1)), AV.str (List.take (slHi s.length (some (IntKind.i64.wrap ((↑i : Int) + 1))) - slLo (some (↑i : Int))) (List.drop (slLo (some (↑i : Int))) s)), AV.str (List.take (slHi s.length (some (IntKind.i64.wrap ((↑i : Int) + 1))) - slLo (some (↑i : Int))) (List.drop (slLo (some (↑i : Int))) s)), AV.bool (List.take (slHi s.length (some (IntKind.i64.wrap ((↑i : Int) + 1))) - slLo (some (↑i : Int))) (List.drop (slLo (some (↑i : Int))) s) == [124]), AV.bool false, AV.str (List.take (slHi s.length (some (IntKind.i64.wrap ((↑i : Int) + 1))) - slLo (some (↑i : Int))) (List.drop (slLo (some (↑i : Int))) s)), AV.bool (List.take (slHi s.length (some (IntKind.i64.wrap ((↑i : Int) + 1))) - slLo (some (↑i : Int))) (List.drop (slLo (some (↑i : Int))) s) == [38]), AV.bool (List.take (slHi s.length (some (IntKind.i64.wrap ((↑i : Int) + 1))) - slLo (some (↑i : Int))) (List.drop (slLo (some (↑i : Int))) s) == [38]), AV.bool true, AV.tup [], AV.tup [], AV.bool true, AV.bool true, AV.tup [], AV.tup [], AV.bool true, AV.str P, AV.str (List.take (slHi s.length (some (IntKind.i64.wrap ((↑i : Int) + 1))) - slLo (some (↑i : Int))) (List.drop (slLo (some (↑i : Int))) s)), AV.str (P ++ List.take (slHi s.length (some (IntKind.i64.wrap ((↑i : Int) + 1))) - slLo (some (↑i : Int))) (List.drop (slLo (some (↑i : Int))) s)), AV.str P, AV.str (P ++ List.take (slHi s.length (some (IntKind.i64.wrap ((↑i : Int) + 1))) - slLo (some (↑i : Int))) (List.drop (slLo (some (↑i : Int))) s) ++ P), AV.str B, AV.str (P ++ List.take (slHi s.length (some (IntKind.i64.wrap ((↑i : Int) + 1))) - slLo (some (↑i : Int))) (List.drop (slLo (some (↑i : Int))) s) ++ P), AV.str (B ++ (P ++ List.take (slHi s.length (some (IntKind.i64.wrap ((↑i : Int) + 1))) - slLo (some (↑i : Int))) (List.drop (slLo (some (↑i : Int))) s) ++ P)), AV.any, AV.any, AV.any, AV.any, AV.any, AV.any, AV.any, AV.any, AV.any, AV.any, AV.any, AV.any, AV.any, AV.any, AV.any, AV.any, AV.any, AV.any, AV.any, AV.any, AV.any, AV.any, AV.any, AV.any, AV.any, AV.any, AV.any, AV.any, AV.any] [some (Row.gen 25 3 1 fun (x : Nat) => d)]) F else False else False else False else bif List.take (slHi s.length (some (IntKind.i64.wrap ((↑i : Int) + 1))) - slLo (some (↑i : Int))) (List.drop (slLo (some (↑i : Int))) s) == [40] then bif decide (P.length + (List.take (slHi s.length (some (IntKind.i64.wrap ((↑i : Int) + 1))) - slLo (some (↑i : Int))) (List.drop (slLo (some (↑i : Int))) s)).length ≤ 9223372036854775807) then bif decide ((P ++ List.take (slHi s.length (some (IntKind.i64.wrap ((↑i : Int) + 1))) - slLo (some (↑i : Int))) (List.drop (slLo (some (↑i : Int))) s)).length + P.length ≤ 9223372036854775807) then bif decide (B.length + (P ++ List.take (slHi s.length (some (IntKind.i64.wrap ((↑i : Int) + 1))) - slLo (some (↑i : Int))) (List.drop (slLo (some (↑i : Int))) s) ++ P).length ≤ 9223372036854775807) then k Exit.normal (St.mk [AV.str s, AV.any, AV.any, AV.any, AV.any, AV.ptr false 0 0 0, AV.any, AV.int IntKind.i64 c, AV.str P, AV.str (B ++ (P ++ List.take (slHi s.length (some (IntKind.i64.wrap ((↑i : Int) + 1))) - slLo (some (↑i : Int))) (List.drop (slLo (some (↑i : Int))) s) ++ P)), AV.int IntKind.i64 (IntKind.i64.wrap ((↑i : Int) + 1)), AV.str (P ++ List.take (slHi s.length (some (IntKind.i64.wrap ((↑i : Int) + 1))) - slLo (some (↑i : Int))) (List.drop (slLo (some (↑i : Int))) s) ++ P), AV.any, AV.any, AV.any, AV.any, AV.any, AV.any, AV.any, AV.any, AV.any, AV.any, AV.any, AV.any, AV.any, AV.any, AV.any, AV.any, AV.any, AV.int IntKind.i64 (↑i : Int), AV.str s, AV.int IntKind.i64 (↑s.length : Int), AV.bool true, AV.int IntKind.i64 (↑i : Int), AV.int IntKind.i64 (IntKind.i64.wrap ((↑i : Int) + 1)), AV.str s, AV.int IntKind.i64 (↑i : Int), AV.int IntKind.i64 (↑i : Int), AV.int IntKind.i64 (IntKind.i64.wrap ((↑i : Int) + 1)), AV.str (List.take (slHi s.length (some (IntKind.i64.wrap ((↑i : Int) + 1))) - slLo (some (↑i : Int))) (List.drop (slLo (some (↑i : Int))) s)), AV.str (List.take (slHi s.length (some (IntKind.i64.wrap ((↑i : Int) + 1))) - slLo (some (↑i : Int))) (List.drop (slLo (some (↑i : Int))) s)), AV.bool (List.take (slHi s.length (some (IntKind.i64.wrap ((↑i : Int) + 1))) - slLo (some (↑i : Int))) (List.drop (slLo (some (↑i : Int))) s) == [124]), AV.bool false, AV.str (List.take (slHi s.length (some (IntKind.i64.wrap ((↑i : Int) + 1))) - slLo (some (↑i : Int))) (List.drop (slLo (some (↑i : Int))) s)), AV.bool (List.take (slHi s.length (some (IntKind.i64.wrap ((↑i : Int) + 1))) - slLo (some (↑i : Int))) (List.drop (slLo (some (↑i : Int))) s) == [38]), AV.bool (List.take (slHi s.length (some (IntKind.i64.wrap ((↑i : Int) + 1))) - slLo (some (↑i : Int))) (List.drop (slLo (some (↑i : Int))) s) == [38]), AV.bool false, AV.str (List.take (slHi s.length (some (IntKind.i64.wrap ((↑i : Int) + 1))) - slLo (some (↑i : Int))) (List.drop (slLo (some (↑i : Int))) s)), AV.bool (List.take (slHi s.length (some (IntKind.i64.wrap ((↑i : Int) + 1))) - slLo (some (↑i : Int))) (List.drop (slLo (some (↑i : Int))) s) == [40]), AV.bool (List.take (slHi s.length (some (IntKind.i64.wrap ((↑i : Int) + 1))) - slLo (some (↑i : Int))) (List.drop (slLo (some (↑i : Int))) s) == [40]), AV.bool true, AV.tup [], AV.tup [], AV.bool true, AV.str P, AV.str (List.take (slHi s.length (some (IntKind.i64.wrap ((↑i : Int) + 1))) - slLo (some (↑i : Int))) (List.drop (slLo (some (↑i : Int))) s)), AV.str (P ++ List.take (slHi s.length (some (IntKind.i64.wrap ((↑i : Int) + 1))) - slLo (some (↑i : Int))) (List.drop (slLo (some (↑i : Int))) s)), AV.str P, AV.str (P ++ List.take (slHi s.length (some (IntKind.i64.wrap ((↑i : Int) + 1))) - slLo (some (↑i : Int))) (List.drop (slLo (some (↑i : Int))) s) ++ P), AV.str B, AV.str (P ++ List.take (slHi s.length (some (IntKind.i64.wrap ((↑i : Int) + 1))) - slLo (some (↑i : Int))) (List.drop (slLo (some (↑i : Int))) s) ++ P), AV.str (B ++ (P ++ List.take (slHi s.length (some (IntKind.i64.wrap ((↑i : Int) + 1))) - slLo (some (↑i : Int))) (List.drop (slLo (some (↑i : Int))) s) ++ P)), AV.any, AV.any, AV.any, AV.any, AV.any, AV.any, AV.any, AV.any, AV.any, AV.any, AV.any, AV.any, AV.any, AV.any, AV.any, AV.any, AV.any, AV.any, AV.any, AV.any, AV.any, AV.any, AV.any, AV.any, AV.any, AV.any, AV.any, AV.any, AV.any] [some (Row.gen 25 3 1 fun (x : Nat) => d)]) F else False else False else False else bif List.take (slHi s.length (some (IntKind.i64.wrap ((↑i : Int) + 1))) - slLo (some (↑i : Int))) (List.drop (slLo (some (↑i : Int))) s) == [41] then bif decide (P.length + (List.take (slHi s.length (some (IntKind.i64.wrap ((↑i : Int) + 1))) - slLo (some (↑i : Int))) (List.drop (slLo (some (↑i : Int))) s)).length ≤ 9223372036854775807) then bif decide ((P ++ List.take (slHi s.length (some (IntKind.i64.wrap ((↑i : Int) + 1))) - slLo (some (↑i : Int))) (List.drop (slLo (some (↑i : Int))) s)).length + P.length ≤ 9223372036854775807) then bif decide (B.length + (P ++ List.take (slHi s.length (some (IntKind.i64.wrap ((↑i : Int) + 1))) - slLo (some (↑i : Int))) (List.drop (slLo (some (↑i : Int))) s) ++ P).length ≤ 9223372036854775807) then k Exit.normal (St.mk [AV.str s, AV.any, AV.any, AV.any, AV.any, AV.ptr false 0 0 0, AV.any, AV.int IntKind.i64 c, AV.str P, AV.str (B ++ (P ++ List.take (slHi s.length (some (IntKind.i64.wrap ((↑i : Int) + 1))) - slLo (some (↑i : Int))) (List.drop (slLo (some (↑i : Int))) s) ++ P)), AV.int IntKind.i64 (IntKind.i64.wrap ((↑i : Int) + 1)), AV.str (P ++ List.take (slHi s.length (some (IntKind.i64.wrap ((↑i : Int) + 1))) - slLo (some (↑i : Int))) (List.drop (slLo (some (↑i : Int))) s) ++ P), AV.any, AV.any, AV.any, AV.any, AV.any, AV.any, AV.any, AV.any, AV.any, AV.any, AV.any, AV.any, AV.any, AV.any, AV.any, AV.any, AV.any, AV.int IntKind.i64 (↑i : Int), AV.str s, AV.int IntKind.i64 (↑s.length : Int), AV.bool true, AV.int IntKind.i64 (↑i : Int), AV.int IntKind.i64 (IntKind.i64.wrap ((↑i : Int) + 1)), AV.str s, AV.int IntKind.i64 (↑i : Int), AV.int IntKind.i64 (↑i : Int), AV.int IntKind.i64 (IntKind.i64.wrap ((↑i : Int) + 1)), AV.str (List.take (slHi s.length (some (IntKind.i64.wrap ((↑i : Int) + 1))) - slLo (some (↑i : Int))) (List.drop (slLo (some (↑i : Int))) s)), AV.str (List.take (slHi s.length (some (IntKind.i64.wrap ((↑i : Int) + 1))) - slLo (some (↑i : Int))) (List.drop (slLo (some (↑i : Int))) s)), AV.bool (List.take (slHi s.length (some (IntKind.i64.wrap ((↑i : Int) + 1))) - slLo (some (↑i : Int))) (List.drop (slLo (some (↑i : Int))) s) == [124]), AV.bool false, AV.str (List.take (slHi s.length (some (IntKind.i64.wrap ((↑i : Int) + 1))) - slLo (some (↑i : Int))) (List.drop (slLo (some (↑i : Int))) s)), AV.bool (List.take (slHi s.length (some (IntKind.i64.wrap ((↑i : Int) + 1))) - slLo (some (↑i : Int))) (List.drop (slLo (some (↑i : Int))) s) == [38]), AV.bool (List.take (slHi s.length (some (IntKind.i64.wrap ((↑i : Int) + 1))) - slLo (some (↑i : Int))) (List.drop (slLo (some (↑i : Int))) s) == [38]), AV.bool false, AV.str (List.take (slHi s.length (some (IntKind.i64.wrap ((↑i : Int) + 1))) - slLo (some (↑i : Int))) (List.drop (slLo (some (↑i : Int))) s)), AV.bool (List.take (slHi s.length (some (IntKind.i64.wrap ((↑i : Int) + 1))) - slLo (some (↑i : Int))) (List.drop (slLo (some (↑i : Int))) s) == [40]), AV.bool (List.take (slHi s.length (some (IntKind.i64.wrap ((↑i : Int) + 1))) - slLo (some (↑i : Int))) (List.drop (slLo (some (↑i : Int))) s) == [40]), AV.bool false, AV.str (List.take (slHi s.length (some (IntKind.i64.wrap ((↑i : Int) + 1))) - slLo (some (↑i : Int))) (List.drop (slLo (some (↑i : Int))) s)), AV.bool (List.take (slHi s.length (some (IntKind.i64.wrap ((↑i : Int) + 1))) - slLo (some (↑i : Int))) (List.drop (slLo (some (↑i : Int))) s) == [41]), AV.bool true, AV.str P, AV.str (List.take (slHi s.length (some (IntKind.i64.wrap ((↑i : Int) + 1))) - slLo (some (↑i : Int))) (List.drop (slLo (some (↑i : Int))) s)), AV.str (P ++ List.take (slHi s.length (some (IntKind.i64.wrap ((↑i : Int) + 1))) - slLo (some (↑i : Int))) (List.drop (slLo (some (↑i : Int))) s)), AV.str P, AV.str (P ++ List.take (slHi s.length (some (IntKind.i64.wrap ((↑i : Int) + 1))) - slLo (some (↑i : Int))) (List.drop (slLo (some (↑i : Int))) s) ++ P), AV.str B, AV.str (P ++ List.take (slHi s.length (some (IntKind.i64.wrap ((↑i : Int) + 1))) - slLo (some (↑i : Int))) (List.drop (slLo (some (↑i : Int))) s) ++ P), AV.str (B ++ (P ++ List.take (slHi s.length (some (IntKind.i64.wrap ((↑i : Int) + 1))) - slLo (some (↑i : Int))) (List.drop (slLo (some (↑i : Int))) s) ++ P)), AV.any, AV.any, AV.any, AV.any, AV.any, AV.any, AV.any, AV.any, AV.any, AV.any, AV.any, AV.any, AV.any, AV.any, AV.any, AV.any, AV.any, AV.any, AV.any, AV.any, AV.any, AV.any, AV.any, AV.any, AV.any, AV.any, AV.any, AV.any, AV.any] [some (Row.gen 25 3 1 fun (x : Nat) => d)]) F else False else False else False else bif decide (B.length + (List.take (slHi s.length (some (IntKind.i64.wrap ((↑i : Int) + 1))) - slLo (some (↑i : Int))) (List.drop (slLo (some (↑i : Int))) s)).length ≤ 9223372036854775807) then k Exit.normal (St.mk [AV.str s, AV.any, AV.any, AV.any, AV.any, AV.ptr false 0 0 0, AV.any, AV.int IntKind.i64 c, AV.str P, AV.str (B ++ List.take (slHi s.length (some (IntKind.i64.wrap ((↑i : Int) + 1))) - slLo (some (↑i : Int))) (List.drop (slLo (some (↑i : Int))) s)), AV.int IntKind.i64 (IntKind.i64.wrap ((↑i : Int) + 1)), AV.str (List.take (slHi s.length (some (IntKind.i64.wrap ((↑i : Int) + 1))) - slLo (some (↑i : Int))) (List.drop (slLo (some (↑i : Int))) s)), AV.any, AV.any, AV.any, AV.any, AV.any, AV.any, AV.any, AV.any, AV.any, AV.any, AV.any, AV.any, AV.any, AV.any, AV.any, AV.any, AV.any, AV.int IntKind.i64 (↑i : Int), AV.str s, AV.int IntKind.i64 (↑s.length : Int), AV.bool true, AV.int IntKind.i64 (↑i : Int), AV.int IntKind.i64 (IntKind.i64.wrap ((↑i : Int) + 1)), AV.str s, AV.int IntKind.i64 (↑i : Int), AV.int IntKind.i64 (↑i : Int), AV.int IntKind.i64 (IntKind.i64.wrap ((↑i : Int) + 1)), AV.str (List.take (slHi s.length (some (IntKind.i64.wrap ((↑i : Int) + 1))) - slLo (some (↑i : Int))) (List.drop (slLo (some (↑i : Int))) s)), AV.str (List.take (slHi s.length (some (IntKind.i64.wrap ((↑i : Int) + 1))) - slLo (some (↑i : Int))) (List.drop (slLo (some (↑i : Int))) s)), AV.bool (List.take (slHi s.length (some (IntKind.i64.wrap ((↑i : Int) + 1))) - slLo (some (↑i : Int))) (List.drop (slLo (some (↑i : Int))) s) == [124]), AV.bool false, AV.str (List.take (slHi s.length (some (IntKind.i64.wrap ((↑i : Int) + 1))) - slLo (some (↑i : Int))) (List.drop (slLo (some (↑i : Int))) s)), AV.bool (List.take (slHi s.length (some (IntKind.i64.wrap ((↑i : Int) + 1))) - slLo (some (↑i : Int))) (List.drop (slLo (some (↑i : Int))) s) == [38]), AV.bool (List.take (slHi s.length (some (IntKind.i64.wrap ((↑i : Int) + 1))) - slLo (some (↑i : Int))) (List.drop (slLo (some (↑i : Int))) s) == [38]), AV.bool false, AV.str (List.take (slHi s.length (some (IntKind.i64.wrap ((↑i : Int) + 1))) - slLo (some (↑i : Int))) (List.drop (slLo (some (↑i : Int))) s)), AV.bool (List.take (slHi s.length (some (IntKind.i64.wrap ((↑i : Int) + 1))) - slLo (some (↑i : Int))) (List.drop (slLo (some (↑i : Int))) s) == [40]), AV.bool (List.take (slHi s.length (some (IntKind.i64.wrap ((↑i : Int) + 1))) - slLo (some (↑i : Int))) (List.drop (slLo (some (↑i : Int))) s) == [40]), AV.bool false, AV.str (List.take (slHi s.length (some (IntKind.i64.wrap ((↑i : Int) + 1))) - slLo (some (↑i : Int))) (List.drop (slLo (some (↑i : Int))) s)), AV.bool (List.take (slHi s.length (some (IntKind.i64.wrap ((↑i : Int) + 1))) - slLo (some (↑i : Int))) (List.drop (slLo (some (↑i : Int))) s) == [41]), AV.bool false, AV.any, AV.any, AV.any, AV.any, AV.any, AV.str B, AV.str (List.take (slHi s.length (some (IntKind.i64.wrap ((↑i : Int) + 1))) - slLo (some (↑i : Int))) (List.drop (slLo (some (↑i : Int))) s)), AV.str (B ++ List.take (slHi s.length (some (IntKind.i64.wrap ((↑i : Int) + 1))) - slLo (some (↑i : Int))) (List.drop (slLo (some (↑i : Int))) s)), AV.any, AV.any, AV.any, AV.any, AV.any, AV.any, AV.any, AV.any, AV.any, AV.any, AV.any, AV.any, AV.any, AV.any, AV.any, AV.any, AV.any, AV.any, AV.any, AV.any, AV.any, AV.any, AV.any, AV.any, AV.any, AV.any, AV.any, AV.any, AV.any] [some (Row.gen 25 3 1 fun (x : Nat) => d)]) F else False else False else k (Exit.exit 0) (St.mk [AV.str s, AV.any, AV.any, AV.any, AV.any, AV.ptr false 0 0 0, AV.any, AV.int IntKind.i64 c, AV.str P, AV.str B, AV.int IntKind.i64 (↑i : Int), AV.any, AV.any, AV.any, AV.any, AV.any, AV.any, AV.any, AV.any, AV.any, AV.any, AV.any, AV.any, AV.any, AV.any, AV.any, AV.any, AV.any, AV.any, AV.int IntKind.i64 (↑i : Int), AV.str s, AV.int IntKind.i64 (↑s.length : Int), AV.bool false, AV.any, AV.any, AV.any, AV.any, AV.any, AV.any, AV.any, AV.any, AV.any, AV.any, AV.any, AV.any, AV.any, AV.any, AV.any, AV.any, AV.any, AV.any, AV.any, AV.any, AV.any, AV.any, AV.any, AV.any, AV.any, AV.any, AV.any, AV.any, AV.any, AV.any, AV.any, AV.any, AV.any, AV.any, AV.any, AV.any, AV.any, AV.any, AV.any, AV.any, AV.any, AV.any, AV.any, AV.any, AV.any, AV.any, AV.any, AV.any, AV.any, AV.any, AV.any, AV.any, AV.any, AV.any, AV.any, AV.any, AV.any, AV.any] [some (Row.gen 25 3 1 fun (x : Nat) => d)]) F) := by kernel_rfl
theorem vc5 (R : Nat → RoRow) (s P Bn : List UInt8) (n : Int) (k : AV → Fz → Prop) (F : Fz) : vcx ((envZ R).addLoop 5 0 (lp5 s P Bn)) 1000 5 fi5 [.str s, .int .i64 n] [] (fun v _ => k v) F = (∀ (F' : Fz), Up F F' → (∀ (t : Tr), parse s = PR.ok t 0 → ∀ (x : Nat) (F'_1 : Fz), Up F' F'_1 → TAt F'_1 t x → bif slCond none (some ((IntKind.i64.wrap (n.tmod 5 + 5)).tmod 5)) 4 then 91 = 91 ∧ AV.str s = AV.str s ∧ AV.ptr false 0 0 0 = AV.ptr false 0 0 0 ∧ AV.str (List.take (slHi 4 (some ((IntKind.i64.wrap (n.tmod 5 + 5)).tmod 5)) - 0) [32, 32, 32, 32]) = AV.str P ∧ AV.str (List.take (slHi 4 (some ((IntKind.i64.wrap (n.tmod 5 + 5)).tmod 5)) - 0) [32, 32, 32, 32]) = AV.str P ∧ AV.int IntKind.i64 0 = AV.int IntKind.i64 0 ∧ (∃ (d : AV), [some (Row.lst 25 3 [AV.agg [AV.int IntKind.i64 (↑t.kind : Int), AV.str t.word, AV.sl true (x + 15) 0 t.kids.length Cp.no]])] = [some (Row.lst 25 3 [d])] ∧ gnd d = true ∧ ones d = true) ∧ bif decide (Bn.length + P.length ≤ 9223372036854775807) then bif decide ((↑(Bn ++ P).length : Int) > 256) then k (AV.bool true) F'_1 else (∀ (t_1 : Tr), parse (Bn ++ P) = PR.ok t_1 0 → ∀ (x_1 : Nat) (F' : Fz), Up F'_1 F' → TAt F' t_1 x_1 → ∃ (t_2 : Tr), ∃ (x_2 : Nat), AV.agg [AV.int IntKind.i64 (↑t_1.kind : Int), AV.str t_1.word, AV.sl true (x_1 + 15) 0 t_1.kids.length Cp.no] = AV.agg [AV.int IntKind.i64 (↑t_2.kind : Int), AV.str t_2.word, AV.sl true (x_2 + 15) 0 t_2.kids.length Cp.no] ∧ TAt F' t_2 x_2 ∧ NiceT t_2 ∧ ∀ (F'_2 : Fz), Up F' F'_2 → AV.agg [AV.int IntKind.i64 (↑t.kind : Int), AV.str t.word, AV.sl true (x + 15) 0 t.kids.length Cp.no] = AV.agg [AV.int IntKind.i64 (↑t.kind : Int), AV.str t.word, AV.sl true (x + 15) 0 t.kids.length Cp.no] ∧ ∃ (t_3 : Tr), ∃ (x_3 : Nat), AV.agg [AV.int IntKind.i64 (↑t.kind : Int), AV.str t.word, AV.sl true (x + 15) 0 t.kids.length Cp.no] = AV.agg [AV.int IntKind.i64 (↑t_3.kind : Int), AV.str t_3.word, AV.sl true (x_3 + 15) 0 t_3.kids.length Cp.no] ∧ TAt F'_2 t_3 x_3 ∧ NiceT t_3 ∧ ∀ (F' : Fz), Up F'_2 F' → k (AV.bool (shw t_2 == shw t_3)) F') ∧ ∀ (a c : Nat), parse (Bn ++ P) = PR.err a c → ∀ (F' : Fz), Up F'_1 F' → bif (↑c : Int) == 0 then bif (↑a : Int) == 0 then ∃ (t_1 : Tr), ∃ (x_1 : Nat), AV.agg [AV.int IntKind.i64 0, AV.str [], AV.nils] = AV.agg [AV.int IntKind.i64 (↑t_1.kind : Int), AV.str t_1.word, AV.sl true (x_1 + 15) 0 t_1.kids.length Cp.no] ∧ TAt F' t_1 x_1 ∧ NiceT t_1 ∧ ∀ (F'_2 : Fz), Up F' F'_2 → AV.agg [AV.int IntKind.i64 (↑t.kind : Int), AV.str t.word, AV.sl true (x + 15) 0 t.kids.length Cp.no] = AV.agg [AV.int IntKind.i64 (↑t.kind : Int), AV.str t.word, AV.sl true (x + 15) 0 t.kids.length Cp.no] ∧ ∃ (t_2 : Tr), ∃ (x_2 : Nat), AV.agg [AV.int IntKind.i64 (↑t.kind : Int), AV.str t.word, AV.sl true (x + 15) 0 t.kids.length Cp.no] = AV.agg [AV.int IntKind.i64 (↑t_2.kind : Int), AV.str t_2.word, AV.sl true (x_2 + 15) 0 t_2.kids.length Cp.no] ∧ TAt F'_2 t_2 x_2 ∧ NiceT t_2 ∧ ∀ (F' : Fz), Up F'_2 F' → k (AV.bool (shw t_1 == shw t_2)) F' else k (AV.bool false) F' else k (AV.bool false) F' else False else False) ∧ ∀ (a c : Nat), parse s = PR.err a c → ∀ (F'_1 : Fz), Up F' F'_1 → bif slCond none (some ((IntKind.i64.wrap (n.tmod 5 + 5)).tmod 5)) 4 then 91 = 91 ∧ AV.str s = AV.str s ∧ AV.ptr false 0 0 0 = AV.ptr false 0 0 0 ∧ AV.str (List.take (slHi 4 (some ((IntKind.i64.wrap (n.tmod 5 + 5)).tmod 5)) - 0) [32, 32, 32, 32]) = AV.str P ∧ AV.str (List.take (slHi 4 (some ((IntKind.i64.wrap (n.tmod 5 + 5)).tmod 5)) - 0) [32, 32, 32, 32]) = AV.str P ∧ AV.int IntKind.i64 0 = AV.int IntKind.i64 0 ∧ (∃ (d : AV), [some (Row.lst 25 3 [AV.agg [AV.int IntKind.i64 0, AV.str [], AV.nils]])] = [some (Row.lst 25 3 [d])] ∧ gnd d = true ∧ ones d = true) ∧ bif decide (Bn.length + P.length ≤ 9223372036854775807) then bif (↑c : Int) != 0 then k (AV.bool true) F'_1 else bif decide ((↑(Bn ++ P).length : Int) > 256) then k (AV.bool true) F'_1 else (∀ (t : Tr), parse (Bn ++ P) = PR.ok t 0 → ∀ (x : Nat) (F' : Fz), Up F'_1 F' → TAt F' t x → ∃ (t_1 : Tr), ∃ (x_1 : Nat), AV.agg [AV.int IntKind.i64 (↑t.kind : Int), AV.str t.word, AV.sl true (x + 15) 0 t.kids.length Cp.no] = AV.agg [AV.int IntKind.i64 (↑t_1.kind : Int), AV.str t_1.word, AV.sl true (x_1 + 15) 0 t_1.kids.length Cp.no] ∧ TAt F' t_1 x_1 ∧ NiceT t_1 ∧ ∀ (F'_2 : Fz), Up F' F'_2 → AV.agg [AV.int IntKind.i64 0, AV.str [], AV.nils] = AV.agg [AV.int IntKind.i64 0, AV.str [], AV.nils] ∧ ∃ (t : Tr), ∃ (x : Nat), AV.agg [AV.int IntKind.i64 0, AV.str [], AV.nils] = AV.agg [AV.int IntKind.i64 (↑t.kind : Int), AV.str t.word, AV.sl true (x + 15) 0 t.kids.length Cp.no] ∧ TAt F'_2 t x ∧ NiceT t ∧ ∀ (F' : Fz), Up F'_2 F' → k (AV.bool (shw t_1 == shw t)) F') ∧ ∀ (a c : Nat), parse (Bn ++ P) = PR.err a c → ∀ (F' : Fz), Up F'_1 F' → bif (↑c : Int) == 0 then bif (↑a : Int) == 0 then ∃ (t : Tr), ∃ (x : Nat), AV.agg [AV.int IntKind.i64 0, AV.str [], AV.nils] = AV.agg [AV.int IntKind.i64 (↑t.kind : Int), AV.str t.word, AV.sl true (x + 15) 0 t.kids.length Cp.no] ∧ TAt F' t x ∧ NiceT t ∧ ∀ (F'_2 : Fz), Up F' F'_2 → AV.agg [AV.int IntKind.i64 0, AV.str [], AV.nils] = AV.agg [AV.int IntKind.i64 0, AV.str [], AV.nils] ∧ ∃ (t_1 : Tr), ∃ (x : Nat), AV.agg [AV.int IntKind.i64 0, AV.str [], AV.nils] = AV.agg [AV.int IntKind.i64 (↑t_1.kind : Int), AV.str t_1.word, AV.sl true (x + 15) 0 t_1.kids.length Cp.no] ∧ TAt F'_2 t_1 x ∧ NiceT t_1 ∧ ∀ (F' : Fz), Up F'_2 F' → k (AV.bool (shw t == shw t_1)) F' else k (AV.bool false) F' else k (AV.bool false) F' else False else False) := by kernel_rfl
theorem drow_g {d : AV} (h1 : ones d = true) (h2 : gnd d = true) : RowG (.gen 25 3 1 fun _ => d) := ⟨fun f n => .gen rfl fun i _ => ⟨h1, gnd_vw _ _ _ h2⟩, fun g => by simp only [renRow, gnd_ren g d h2]⟩
theorem drow_in {f : Nat → Option Nat} {n : Nat} {d : AV} (h1 : ones d = true) (h2 : gnd d = true) : RowV f n (.gen 25 3 1 fun _ => d) (.lst 25 3 [d]) where
  ty := rfl
  esz := rfl
  len := rfl
  get := fun i e he => by
    simp only [Row.get?] at he ⊢
    match i with
    | 0 => cases he; exact ⟨fun a ha => ones_mem (e := d) h1 a ha, d, rfl, gnd_vw _ _ _ h2⟩
    | i + 1 => cases he
theorem drow_out {f : Nat → Option Nat} {n : Nat} {d : AV} (h1 : ones d = true) (h2 : gnd d = true) : RowV f n (.lst 25 3 [d]) (.gen 25 3 1 fun _ => d) where
  ty := rfl
  esz := rfl
  len := rfl
  get := fun i e he => by
    simp only [Row.get?] at he ⊢
    match i with
    | 0 => cases he; exact ⟨fun a ha => ones_mem (e := d) h1 a ha, d, rfl, gnd_vw _ _ _ h2⟩
    | i + 1 => cases he
theorem Fit.rowTo {r r' : Row} {T T' : List AV} {tl : Rows} (hr : RowV some 1 r r') (hT : VwL some 1 T T') : Fit 1 ⟨T, [some r]⟩ ⟨T', some r' :: tl⟩ := by
  refine ⟨some, ⟨⟨fun c b hc hb => ?_, fun c c' b _ _ h h' => by cases h; cases h'; rfl, fun c q hc => ?_⟩, hT⟩, fun _ _ => rfl, Nat.le_refl _⟩
  · cases hb; have : c < 1 := hc; simp; omega
  · match c with
    | 0 => cases hc; exact .inl ⟨0, r', rfl, rfl, hr⟩
    | c + 1 => simp [Rows.live] at hc
theorem img_app (p : Nat) (c : UInt8) : ∀ l : List UInt8, img p (l ++ [c]) = img p l ++ (bif sgn c then List.replicate p 32 ++ c :: List.replicate p 32 else [c])
  | [] => by simp [img]
  | b :: l => by
    rw [List.cons_append, img_cons, img_cons, img_app p c l, List.append_assoc]
theorem img_len (p : Nat) (hp : p ≤ 4) : ∀ l : List UInt8, (img p l).length ≤ 9 * l.length
  | [] => Nat.le_refl _
  | b :: l => by
    have := img_len p hp l
    rw [img_cons]
    cases sgn b <;> simp <;> omega
theorem tm5_spr (s P B : List UInt8) (c i : Int) : tm5 s P B c i = spr [(0, .str s), (5, .ptr false 0 0 0), (7, .int .i64 c), (8, .str P), (9, .str B), (10, .int .i64 i)] 0 91 := by kernel_rfl
theorem cut1 {s : List UInt8} {i : Nat} (h : i < s.length) (hs : s.length ≤ 140737488351232) : slCond (some (i : Int)) (some (IntKind.i64.wrap ((i : Int) + 1))) s.length = true ∧ List.take (slHi s.length (some (IntKind.i64.wrap ((i : Int) + 1))) - slLo (some (i : Int))) (List.drop (slLo (some (i : Int))) s) = [s[i]] := by
  rw [wrapSucc i (by omega)]
  constructor
  · simp [slCond]; omega
  · show List.take ((((i + 1 : Nat) : Int)).toNat - ((i : Int)).toNat) (List.drop ((i : Int)).toNat s) = _
    rw [Int.toNat_natCast, Int.toNat_natCast, show i + 1 - i = 1 by omega, List.drop_eq_getElem_cons h]
    rfl
theorem one_eq (a b : UInt8) : ([a] == [b]) = (a == b) := by simp
theorem loop5 (R : Nat → RoRow) (HP : HPt) (s : List UInt8) (hs : s.length ≤ 140737488351232) (p : Nat) (hp : p ≤ 4) : ∀ st k F, lp5 s (List.replicate p 32) (List.replicate p 32 ++ img p s) st k F → SafeX Try.prog R [] (.block 0 (.loop (loopOf fi5 0))) st F k HP := by
  rintro ⟨TM, rows⟩ k F h
  unfold lp5 at h
  split at h
  · rename_i c hc
    obtain ⟨h0, h1, h2, h3, h4, h5, ⟨d, hr, hg, ho⟩, hk⟩ := h
    simp only at h0 h1 h2 h3 h4 h5 hr hc
    subst hr
    let P : List UInt8 := List.replicate p 32
    have hPl : P.length = p := by simp [P]
    let B : Nat → List UInt8 := fun i => P ++ img p (s.take i)
    have hBl : ∀ i, i ≤ s.length → (B i).length ≤ 4 + 9 * s.length := fun i hi => by
      have := img_len p hp (s.take i)
      rw [List.length_take] at this
      simp only [B, List.length_append, hPl]
      omega
    refine SafeX.loop_block (Inv := fun n st F' => F' = F ∧ ∃ i, i ≤ s.length ∧ n = s.length - i ∧ st = fam5 s P (B i) c i d) ?_ ?_
    · refine ToX.fit (stE := fam5 s P (B 0) c 0 d) (Fit.rowTo (drow_in ho hg) ?_) (ToX.here ⟨_, rfl, 0, Nat.zero_le _, rfl, rfl⟩)
      show VwL _ 1 (tm5 s P (B 0) c 0) TM
      have hB0 : B 0 = P := by simp [B, img]
      rw [hB0, tm5_spr]
      exact VwL.ofKnown h0 ⟨by rw [h1]; exact Vw.strI, by rw [h2]; exact Vw.ptrI (by decide) rfl, by rw [hc]; exact Vw.intI, by rw [h3]; exact Vw.strI, by rw [h4]; exact Vw.strI, by rw [h5]; exact Vw.intI, trivial⟩
    · rintro n st' F' ⟨rfl, i, hi, rfl, rfl⟩
      refine SafeX.by mixed (bx_ok R [] HP) (f := 5) (fi := fi5) (i := 0) (by kernel_rfl) (b := .loop (loopOf fi5 0)) (by kernel_rfl) (subs_loop _) 1000 (vr5 R s P (B i) c i d _ F') ?_
      refine hcB (fun h => ?_) fun h => ?_
      · have hlt : i < s.length := by have := of_decide_eq_true h; omega
        obtain ⟨c1, c2⟩ := cut1 hlt hs
        have hb := hBl i hi
        have eS : s.take (i + 1) = s.take i ++ [s[i]] := by rw [List.take_add_one, List.getElem?_eq_getElem hlt]; rfl
        rw [c1, c2, one_eq, one_eq, one_eq, one_eq]
        have big : sgn s[i] = true → B (i + 1) = B i ++ (P ++ [s[i]] ++ P) := fun hsg => by
          simp only [B, eS, img_app, hsg, cond_true, P]; simp
        have small : sgn s[i] = false → B (i + 1) = B i ++ [s[i]] := fun hsg => by
          simp only [B, eS, img_app, hsg, cond_false]; simp
        have e1 := wrapSucc i (by omega)
        have q1 : P.length + [s[i]].length ≤ 9223372036854775807 := by rw [hPl]; simp; omega
        have q2 : (P ++ [s[i]]).length + P.length ≤ 9223372036854775807 := by simp [hPl]; omega
        have q3 : (B i).length + (P ++ [s[i]] ++ P).length ≤ 9223372036854775807 := by simp [hPl]; omega
        have q4 : (B i).length + [s[i]].length ≤ 9223372036854775807 := by simp; omega
        have sg : sgn s[i] = (s[i] == 40 || s[i] == 41 || s[i] == 124 || s[i] == 38) := rfl
        have goB : ∀ {T : List AV} {S : St → Fz → Prop}, sgn s[i] = true → VwL some 1 (tm5 s P (B i ++ (P ++ [s[i]] ++ P)) c ((i + 1 : Nat) : Int)) T → S (fam5 s P (B (i + 1)) c (i + 1) d) F' → ToX R [] 1 ⟨T, [some (.gen 25 3 1 fun _ => d)]⟩ F' S := fun hsg hv hS =>
          ToX.fit (stE := fam5 s P (B (i + 1)) c (i + 1) d) (Fit.row1 (drow_g ho hg) (by rw [big hsg]; exact hv)) (ToX.here hS)
        have goS : ∀ {T : List AV} {S : St → Fz → Prop}, sgn s[i] = false → VwL some 1 (tm5 s P (B i ++ [s[i]]) c ((i + 1 : Nat) : Int)) T → S (fam5 s P (B (i + 1)) c (i + 1) d) F' → ToX R [] 1 ⟨T, [some (.gen 25 3 1 fun _ => d)]⟩ F' S := fun hsg hv hS =>
          ToX.fit (stE := fam5 s P (B (i + 1)) c (i + 1) d) (Fit.row1 (drow_g ho hg) (by rw [small hsg]; exact hv)) (ToX.here hS)
        refine hcT rfl (hcB (fun g1 => ?_) fun g1 => hcB (fun g2 => ?_) fun g2 => hcB (fun g3 => ?_) fun g3 => hcB (fun g4 => ?_) fun g4 => ?_)
        · refine hcT (decide_eq_true q1) (hcT (decide_eq_true q2) (hcT (decide_eq_true q3) ?_))
          rw [e1]
          exact goB (by rw [sg, g1]; simp) (by (repeat' (first | with_reducible exact VwL.nil | with_reducible refine VwL.cons ?_ ?_ | with_reducible exact Vw.anyI | with_reducible exact Vw.strI | with_reducible exact Vw.boolI | with_reducible exact Vw.intI | with_reducible exact Vw.nilsI | exact Vw.ptrI (by simp) rfl | exact Vw.slI (by simp) rfl | with_reducible refine Vw.aggI ?_ | exact Vw.gndI rfl))) ⟨s.length - (i + 1), by omega, rfl, i + 1, hlt, rfl, rfl⟩
        · refine hcT (decide_eq_true q1) (hcT (decide_eq_true q2) (hcT (decide_eq_true q3) ?_))
          rw [e1]
          exact goB (by rw [sg, g2]; simp) (by (repeat' (first | with_reducible exact VwL.nil | with_reducible refine VwL.cons ?_ ?_ | with_reducible exact Vw.anyI | with_reducible exact Vw.strI | with_reducible exact Vw.boolI | with_reducible exact Vw.intI | with_reducible exact Vw.nilsI | exact Vw.ptrI (by simp) rfl | exact Vw.slI (by simp) rfl | with_reducible refine Vw.aggI ?_ | exact Vw.gndI rfl))) ⟨s.length - (i + 1), by omega, rfl, i + 1, hlt, rfl, rfl⟩
        · refine hcT (decide_eq_true q1) (hcT (decide_eq_true q2) (hcT (decide_eq_true q3) ?_))
          rw [e1]
          exact goB (by rw [sg, g3]; simp) (by (repeat' (first | with_reducible exact VwL.nil | with_reducible refine VwL.cons ?_ ?_ | with_reducible exact Vw.anyI | with_reducible exact Vw.strI | with_reducible exact Vw.boolI | with_reducible exact Vw.intI | with_reducible exact Vw.nilsI | exact Vw.ptrI (by simp) rfl | exact Vw.slI (by simp) rfl | with_reducible refine Vw.aggI ?_ | exact Vw.gndI rfl))) ⟨s.length - (i + 1), by omega, rfl, i + 1, hlt, rfl, rfl⟩
        · refine hcT (decide_eq_true q1) (hcT (decide_eq_true q2) (hcT (decide_eq_true q3) ?_))
          rw [e1]
          exact goB (by rw [sg, g4]; simp) (by (repeat' (first | with_reducible exact VwL.nil | with_reducible refine VwL.cons ?_ ?_ | with_reducible exact Vw.anyI | with_reducible exact Vw.strI | with_reducible exact Vw.boolI | with_reducible exact Vw.intI | with_reducible exact Vw.nilsI | exact Vw.ptrI (by simp) rfl | exact Vw.slI (by simp) rfl | with_reducible refine Vw.aggI ?_ | exact Vw.gndI rfl))) ⟨s.length - (i + 1), by omega, rfl, i + 1, hlt, rfl, rfl⟩
        · refine hcT (decide_eq_true q4) ?_
          rw [e1]
          exact goS (by rw [sg, g1, g2, g3, g4]; rfl) (by (repeat' (first | with_reducible exact VwL.nil | with_reducible refine VwL.cons ?_ ?_ | with_reducible exact Vw.anyI | with_reducible exact Vw.strI | with_reducible exact Vw.boolI | with_reducible exact Vw.intI | with_reducible exact Vw.nilsI | exact Vw.ptrI (by simp) rfl | exact Vw.slI (by simp) rfl | with_reducible refine Vw.aggI ?_ | exact Vw.gndI rfl))) ⟨s.length - (i + 1), by omega, rfl, i + 1, hlt, rfl, rfl⟩
      · have hge : i = s.length := by have := of_decide_eq_false h; omega
        subst hge
        refine ToX.fit (stE := ⟨tm5 s P (B s.length) c s.length, [some (.lst 25 3 [d])]⟩) (Fit.rowTo (drow_out ho hg) (by (repeat' (first | with_reducible exact VwL.nil | with_reducible refine VwL.cons ?_ ?_ | with_reducible exact Vw.anyI | with_reducible exact Vw.strI | with_reducible exact Vw.boolI | with_reducible exact Vw.intI | with_reducible exact Vw.nilsI | exact Vw.ptrI (by simp) rfl | exact Vw.slI (by simp) rfl | with_reducible refine Vw.aggI ?_ | exact Vw.gndI rfl)))) (ToX.here ?_)
        have hB : B s.length = P ++ img p s := by simp only [B, List.take_length]
        rw [hB]
        exact hk
  · exact h.elim
end Go.Dc.Ke
end
section
set_option linter.unusedVariables false
set_option linter.unusedSimpArgs false
namespace Go.Dc.Ke
open Go.Proofs Go.RowKit Go.Shelf
set_option maxRecDepth 100000
/-! ### What goes wrong has a code -/
def NZ (r : PR) : Prop := ∀ a c, r = .err a c → c ≠ 0
theorem NZ.ok {t : Tr} {a : Nat} : NZ (.ok t a) := fun _ _ h => by cases h
theorem NZ.err {a c : Nat} (h : c ≠ 0) : NZ (.err a c) := fun _ _ e => by cases e; exact h
theorem NZ.bind {r : PR} {k : Tr → Nat → PR} (h : NZ r) (hk : ∀ t a, NZ (k t a)) : NZ (r.bind k) := by
  cases r with
  | ok t a => exact hk t a
  | err a c => exact h
theorem NZ.cond {b : Bool} {x y : PR} (hx : NZ x) (hy : NZ y) : NZ (bif b then x else y) := by cases b <;> assumption
section
variable {s : List UInt8} {n : Nat} {alt : Nat → PR} (hA : ∀ a, NZ (alt a))
include hA
theorem pAtom_nz (a : Nat) : NZ (pAtom s n alt a) :=
  .cond (.cond (.err (by decide)) .ok) (.cond (.cond .ok (.err (by decide))) (.cond (.cond (.err (by decide)) (.cond .ok (.bind (hA _) fun _ _ => .cond .ok (.err (by decide))))) (.cond (.err (by decide)) .ok)))
theorem pItem_nz (a : Nat) : NZ (pItem s n alt a) := .bind (pAtom_nz hA a) fun _ _ => .ok
theorem pSeqs_nz : ∀ f l a, NZ (pSeqs s n alt f l a)
  | 0, l, a => .ok
  | f + 1, l, a => .cond (.bind (pItem_nz hA a) fun _ _ => pSeqs_nz f _ _) .ok
theorem pSeq_nz (a : Nat) : NZ (pSeq s n alt a) := .bind (pItem_nz hA _) fun _ _ => pSeqs_nz hA _ _ _
end
section
variable {s : List UInt8} {sg : Int} {kd : Nat} {part : Nat → PR} (hP : ∀ a, NZ (part a))
include hP
theorem pJoins_nz : ∀ f l a, NZ (pJoins s sg kd part f l a)
  | 0, l, a => .ok
  | f + 1, l, a => .cond (.bind (hP _) fun _ _ => pJoins_nz f _ _) .ok
theorem pJoin_nz (a : Nat) : NZ (pJoin s sg kd part a) := .bind (hP _) fun _ _ => pJoins_nz hP _ _ _
end
theorem pAltD_nz {s : List UInt8} : ∀ d a, NZ (pAltD s d a)
  | 0, a => .err (by decide)
  | d + 1, a => pJoin_nz (fun a => pJoin_nz (fun a => pSeq_nz (pAltD_nz d) a) a) a
theorem parse_nz (s : List UInt8) : NZ (parse s) := .cond (.err (by decide)) (.bind (pAltD_nz 17 0) fun _ _ => .cond (.err (by decide)) .ok)
theorem TAt.le {F F' : Fz} {t : Tr} {x : Nat} (h : TAt F t x) (hu : Up F F') : TAt F' t x := ⟨IsT.le hu.le t x h.is⟩
theorem parse_nice {s : List UInt8} {t : Tr} (h : parse s = .ok t 0) : NiceT t := ⟨(parse_fits h).1, (parse_fits h).2.1⟩
theorem five (n : Int) : ∃ p : Nat, p ≤ 4 ∧ (IntKind.i64.wrap (n.tmod 5 + 5)).tmod 5 = (p : Nat) := by
  have h1 := Int.tmod_lt_of_pos n (b := 5) (by decide)
  have h2 : -5 < n.tmod 5 := by
    have := Int.tmod_lt_of_pos (-n) (b := 5) (by decide)
    rw [Int.neg_tmod] at this
    omega
  rw [wrapI64 _ (by omega) (by omega)]
  refine ⟨((n.tmod 5 + 5).tmod 5).toNat, ?_, ?_⟩
  · have := Int.tmod_lt_of_pos (n.tmod 5 + 5) (b := 5) (by decide)
    have := Int.tmod_nonneg (a := n.tmod 5 + 5) 5 (by omega)
    omega
  · have := Int.tmod_nonneg (a := n.tmod 5 + 5) 5 (by omega)
    omega
theorem pad4 {p : Nat} (hp : p ≤ 4) : slCond none (some ((p : Nat) : Int)) 4 = true ∧ List.take (slHi 4 (some ((p : Nat) : Int)) - 0) [32, 32, 32, 32] = List.replicate p (32 : UInt8) := by
  match p, hp with
  | 0, _ => exact ⟨rfl, rfl⟩
  | 1, _ => exact ⟨rfl, rfl⟩
  | 2, _ => exact ⟨rfl, rfl⟩
  | 3, _ => exact ⟨rfl, rfl⟩
  | 4, _ => exact ⟨rfl, rfl⟩
  | p + 5, h => omega
theorem free_RX' : Free RX := ⟨rfl, RX_quits 5⟩
theorem blanks_ok (s : List UInt8) (hs : s.length ≤ 140737488351232) (n : Int) : SafeCallX Try.prog RX 5 [.str s, .int .i64 n] [] Fz.empty (fun v _ _ => v = .bool true) (fun _ _ _ => False) := by
  obtain ⟨p, hp, e⟩ := five n
  obtain ⟨e1, e2⟩ := pad4 hp
  refine SafeCallX.by mixed ((envZ_ok free_RX' _).addLoop (f := 5) (fi := fi5) (by kernel_rfl) (i := 0) (body := .loop (loopOf fi5 0)) (by kernel_rfl) (loop5 RX _ s hs p hp)) (f := 5) (fi := fi5) (by kernel_rfl) 1000 (vc5 RX s (List.replicate p 32) (List.replicate p 32 ++ img p s) n (fun v _ => v = .bool true) _) ?_
  have hl : (List.replicate p (32 : UInt8) ++ img p s).length + (List.replicate p (32 : UInt8)).length ≤ 9223372036854775807 := by
    have := img_len p hp s
    simp; omega
  intro F0 hu0
  rw [e, e1, e2]
  refine ⟨?_, ?_⟩
  · intro t ht x F1 hu1 hx
    refine hcT rfl ⟨rfl, rfl, rfl, rfl, rfl, rfl, ⟨_, rfl, rfl, rfl⟩, hcT (decide_eq_true hl) (hcB (fun h => rfl) fun h => ?_)⟩
    have hn : (List.replicate p (32 : UInt8) ++ (img p s ++ List.replicate p 32)).length ≤ 256 := by
      have := of_decide_eq_false h
      rw [List.append_assoc] at this
      omega
    have hp2 : parse ((List.replicate p (32 : UInt8) ++ img p s) ++ List.replicate p 32) = .ok t 0 := by rw [List.append_assoc]; exact parse_img p ht hn
    refine ⟨?_, ?_⟩
    · intro t1 ht1 x1 F2 hu2 hx1
      have et : t1 = t := by rw [hp2] at ht1; cases ht1; rfl
      subst et
      refine ⟨t1, x1, rfl, hx1, parse_nice ht, fun F3 hu3 => ⟨rfl, t1, x, rfl, (hx.le hu2).le hu3, parse_nice ht, fun F4 hu4 => ?_⟩⟩
      rw [beq_self_eq_true]
    · intro a c hc
      rw [hp2] at hc; cases hc
  · intro a c hc F1 hu1
    have hz := parse_nz s a c hc
    refine hcT rfl ⟨rfl, rfl, rfl, rfl, rfl, rfl, ⟨_, rfl, rfl, rfl⟩, hcT (decide_eq_true hl) (hcT (by simp; omega) rfl)⟩
theorem blanks_walk (s : ByteArray) (hs : s.size ≤ 140737488351232) (n : Int) (w : World) : Calls Try.prog 5 #[.string s, .int .i64 n] w fun e w' => e = .returned (.bool true) ∧ Below w.heap.size w w' :=
  (blanks_ok s.data.toList (by simpa using hs) n).law #[.string s, .int .i64 n] w (by simp [DenL, Den])
#print axioms blanks_walk
end Go.Dc.Ke
end
section
set_option linter.unusedVariables false
set_option linter.unusedSimpArgs false
namespace Go.Dc.Ke
open Go.Proofs Go.RowKit Go.Shelf
set_option maxRecDepth 100000
noncomputable abbrev tm17 (s : List UInt8) (l m i : Int) : List AV := [.str s, .any, .any, .int .i64 l, .int .i64 m, .int .i64 i, .any, .any, .any, .any, .any, .any, .any, .any, .any, .any, .any, .any, .any, .any, .any, .any, .any, .any, .any, .any, .any]
noncomputable abbrev fam17 (s : List UInt8) (l m : Int) (i : Nat) : St := ⟨tm17 s l m (i : Nat), []⟩
def lp17 (s : List UInt8) (l m : Int) : LoopSpX := fun st k F => st.tmps.length = 27 ∧ nthV st.tmps 0 = .str s ∧ nthV st.tmps 3 = .int .i64 0 ∧ nthV st.tmps 4 = .int .i64 0 ∧ nthV st.tmps 5 = .int .i64 0 ∧ st.rows = [] ∧ k .normal (fam17 s l m s.length) F
/-! how big -/
mutual
def size : Tr → Nat
  | .mk _ _ kids => 1 + sizes kids
def sizes : List Tr → Nat
  | [] => 0
  | t :: ts => size t + sizes ts
end
noncomputable abbrev tm15 (acc : Int) (n : Nat) (i : Int) : List AV := [.any, .any, .any, .int .i64 acc, .any, .any, .any, .sl true 5 0 n .no, .int .i64 (n : Nat), .int .i64 i, .any, .any, .any, .any, .any, .any, .any, .any, .any]
noncomputable abbrev fam15 (k : Int) (w : List UInt8) (n : Nat) (acc i : Nat) : St := ⟨tm15 (acc : Nat) n (i : Nat), [some (e5row k w n)]⟩
/-- The kids' sizes. -/
def spec15k (l : List (Tr × Nat)) : CallSpecX := fun args h k => match args with
  | [a] => fun F => TAts F l ∧ ∃ i : Nat, i < l.length ∧ a = exprV (l.getD i dT).1 (l.getD i dT).2 ∧ ∀ F', Up F F' → k (.int .i64 (size (l.getD i dT).1 : Nat)) h F'
  | _ => botX
noncomputable abbrev env15 (R : Nat → RoRow) (l : List (Tr × Nat)) : EnvX := (bx (updR R 5 (kidR l))).addCall 15 (spec15k l)
def lp15 (kk : Int) (w : List UInt8) (l : List (Tr × Nat)) : LoopSpX := fun st k F =>
  st.tmps.length = 19 ∧ nthV st.tmps 3 = .int .i64 1 ∧ nthV st.tmps 7 = .sl true 5 0 l.length .no ∧ nthV st.tmps 8 = .int .i64 (l.length : Nat) ∧ nthV st.tmps 9 = .int .i64 0 ∧
  st.rows = [some (e5row kk w l.length)] ∧ TAts F l ∧ ∀ F', Up F F' → k .normal (fam15 kk w l.length (1 + sizes (l.map Prod.fst)) l.length) F'
end Go.Dc.Ke
end
section
set_option linter.unusedVariables false
set_option linter.unusedSimpArgs false
namespace Go.Dc.Ke
open Go.Proofs Go.RowKit Go.Shelf
set_option maxRecDepth 100000
theorem vr17 (R : Nat → RoRow) (s : List UInt8) (l m : Int) (i : Nat) (k : Exit → St → Fz → Prop) (F : Fz) : rnx (bx R) 1000 17 (loopOf fi17 0) (fam17 s l m i) k F = (bif decide ((↑i : Int) < (↑s.length : Int)) then bif true && decide ((↑i : Int) < (↑s.length : Int)) then bif (↑(s.getD (↑i : Int).toNat 0).toNat : Int) == 40 then k Exit.normal (St.mk [AV.str s, AV.any, AV.any, AV.int IntKind.i64 (IntKind.i64.wrap (l + 1)), AV.int IntKind.i64 (if true = true then if IntKind.i64.wrap (l + 1) > m then IntKind.i64.wrap (l + 1) else m else if IntKind.i64.wrap (l + 1) < m then IntKind.i64.wrap (l + 1) else m), AV.int IntKind.i64 (IntKind.i64.wrap ((↑i : Int) + 1)), AV.int IntKind.i64 (↑i : Int), AV.str s, AV.int IntKind.i64 (↑s.length : Int), AV.bool true, AV.int IntKind.i64 (↑i : Int), AV.int IntKind.i64 (IntKind.i64.wrap ((↑i : Int) + 1)), AV.str s, AV.int IntKind.i64 (↑i : Int), AV.int IntKind.u8 (↑(s.getD (↑i : Int).toNat 0).toNat : Int), AV.bool true, AV.bool ((↑(s.getD (↑i : Int).toNat 0).toNat : Int) == 40), AV.int IntKind.i64 l, AV.int IntKind.i64 (IntKind.i64.wrap (l + 1)), AV.int IntKind.i64 m, AV.int IntKind.i64 (IntKind.i64.wrap (l + 1)), AV.int IntKind.i64 (if true = true then if IntKind.i64.wrap (l + 1) > m then IntKind.i64.wrap (l + 1) else m else if IntKind.i64.wrap (l + 1) < m then IntKind.i64.wrap (l + 1) else m), AV.any, AV.any, AV.any, AV.any, AV.any] []) F else bif (↑(s.getD (↑i : Int).toNat 0).toNat : Int) == 41 then k Exit.normal (St.mk [AV.str s, AV.any, AV.any, AV.int IntKind.i64 (IntKind.i64.wrap (l - 1)), AV.int IntKind.i64 m, AV.int IntKind.i64 (IntKind.i64.wrap ((↑i : Int) + 1)), AV.int IntKind.i64 (↑i : Int), AV.str s, AV.int IntKind.i64 (↑s.length : Int), AV.bool true, AV.int IntKind.i64 (↑i : Int), AV.int IntKind.i64 (IntKind.i64.wrap ((↑i : Int) + 1)), AV.str s, AV.int IntKind.i64 (↑i : Int), AV.int IntKind.u8 (↑(s.getD (↑i : Int).toNat 0).toNat : Int), AV.bool false, AV.bool ((↑(s.getD (↑i : Int).toNat 0).toNat : Int) == 40), AV.any, AV.any, AV.any, AV.any, AV.any, AV.bool true, AV.bool ((↑(s.getD (↑i : Int).toNat 0).toNat : Int) == 41), AV.int IntKind.i64 l, AV.int IntKind.i64 (IntKind.i64.wrap (l - 1)), AV.any] []) F else k Exit.normal (St.mk [AV.str s, AV.any, AV.any, AV.int IntKind.i64 l, AV.int IntKind.i64 m, AV.int IntKind.i64 (IntKind.i64.wrap ((↑i : Int) + 1)), AV.int IntKind.i64 (↑i : Int), AV.str s, AV.int IntKind.i64 (↑s.length : Int), AV.bool true, AV.int IntKind.i64 (↑i : Int), AV.int IntKind.i64 (IntKind.i64.wrap ((↑i : Int) + 1)), AV.str s, AV.int IntKind.i64 (↑i : Int), AV.int IntKind.u8 (↑(s.getD (↑i : Int).toNat 0).toNat : Int), AV.bool false, AV.bool ((↑(s.getD (↑i : Int).toNat 0).toNat : Int) == 40), AV.any, AV.any, AV.any, AV.any, AV.any, AV.bool false, AV.bool ((↑(s.getD (↑i : Int).toNat 0).toNat : Int) == 41), AV.any, AV.any, AV.any] []) F else False else k (Exit.exit 0) (St.mk [AV.str s, AV.any, AV.any, AV.int IntKind.i64 l, AV.int IntKind.i64 m, AV.int IntKind.i64 (↑i : Int), AV.int IntKind.i64 (↑i : Int), AV.str s, AV.int IntKind.i64 (↑s.length : Int), AV.bool false, AV.any, AV.any, AV.any, AV.any, AV.any, AV.any, AV.any, AV.any, AV.any, AV.any, AV.any, AV.any, AV.any, AV.any, AV.any, AV.any, AV.any] []) F) := by kernel_rfl
theorem vc17 (R : Nat → RoRow) (s : List UInt8) (l m : Int) (k : AV → Rows → Fz → Prop) (F : Fz) : vcx ((bx R).addLoop 17 0 (lp17 s l m)) 1000 17 fi17 [.str s] [] k F = (27 = 27 ∧ AV.str s = AV.str s ∧ AV.int IntKind.i64 0 = AV.int IntKind.i64 0 ∧ AV.int IntKind.i64 0 = AV.int IntKind.i64 0 ∧ AV.int IntKind.i64 0 = AV.int IntKind.i64 0 ∧ ([] : Rows) = [] ∧ k (AV.int IntKind.i64 m) [] F) := by kernel_rfl
theorem vr15 (R : Nat → RoRow) (kk : Int) (w : List UInt8) (l : List (Tr × Nat)) (acc i : Nat) (k : Exit → St → Fz → Prop) (F : Fz) : rnx (env15 R l) 1000 15 (loopOf fi15 0) (fam15 kk w l.length acc i) k F = (bif decide ((↑i : Int) < (↑l.length : Int)) then bif true && decide ((↑i : Int) < (↑l.length : Int)) then bif decide (0 + (↑i : Int).toNat < ((env15 R l).R 5).n) then TAts F l ∧ ∃ (i_1 : Nat), i_1.succ.le l.length ∧ AV.agg [AV.int IntKind.i64 (↑(l.getD (0 + (↑i : Int).toNat) dT).fst.kind : Int), AV.str (l.getD (0 + (↑i : Int).toNat) dT).fst.word, AV.sl true ((l.getD (0 + (↑i : Int).toNat) dT).snd + 15) 0 (l.getD (0 + (↑i : Int).toNat) dT).fst.kids.length Cp.no] = AV.agg [AV.int IntKind.i64 (↑(l.getD i_1 dT).fst.kind : Int), AV.str (l.getD i_1 dT).fst.word, AV.sl true ((l.getD i_1 dT).snd + 15) 0 (l.getD i_1 dT).fst.kids.length Cp.no] ∧ ∀ (F' : Fz), Up F F' → k Exit.normal (St.mk [AV.any, AV.any, AV.any, AV.int IntKind.i64 (IntKind.i64.wrap ((↑acc : Int) + (↑(size (l.getD i_1 dT).fst) : Int))), AV.any, AV.ptr false 1 0 0, AV.any, AV.sl true 5 0 l.length Cp.no, AV.int IntKind.i64 (↑l.length : Int), AV.int IntKind.i64 (IntKind.i64.wrap ((↑i : Int) + 1)), AV.bool true, AV.ptr true 5 (0 + (↑i : Int).toNat) 0, AV.agg [AV.int IntKind.i64 (↑(l.getD (0 + (↑i : Int).toNat) dT).fst.kind : Int), AV.str (l.getD (0 + (↑i : Int).toNat) dT).fst.word, AV.sl true ((l.getD (0 + (↑i : Int).toNat) dT).snd + 15) 0 (l.getD (0 + (↑i : Int).toNat) dT).fst.kids.length Cp.no], AV.int IntKind.i64 (↑acc : Int), AV.agg [AV.int IntKind.i64 (↑(l.getD (0 + (↑i : Int).toNat) dT).fst.kind : Int), AV.str (l.getD (0 + (↑i : Int).toNat) dT).fst.word, AV.sl true ((l.getD (0 + (↑i : Int).toNat) dT).snd + 15) 0 (l.getD (0 + (↑i : Int).toNat) dT).fst.kids.length Cp.no], AV.int IntKind.i64 (↑(size (l.getD i_1 dT).fst) : Int), AV.int IntKind.i64 (IntKind.i64.wrap ((↑acc : Int) + (↑(size (l.getD i_1 dT).fst) : Int))), AV.int IntKind.i64 (IntKind.i64.wrap ((↑i : Int) + 1)), AV.any] [some (Row.lst 25 3 [AV.agg [AV.int IntKind.i64 kk, AV.str w, AV.sl true 5 0 l.length Cp.no]]), some (Row.lst 25 3 [AV.agg [AV.int IntKind.i64 (↑(l.getD (0 + (↑i : Int).toNat) dT).fst.kind : Int), AV.str (l.getD (0 + (↑i : Int).toNat) dT).fst.word, AV.sl true ((l.getD (0 + (↑i : Int).toNat) dT).snd + 15) 0 (l.getD (0 + (↑i : Int).toNat) dT).fst.kids.length Cp.no]])]) F' else False else False else k (Exit.exit 0) (St.mk [AV.any, AV.any, AV.any, AV.int IntKind.i64 (↑acc : Int), AV.any, AV.any, AV.any, AV.sl true 5 0 l.length Cp.no, AV.int IntKind.i64 (↑l.length : Int), AV.int IntKind.i64 (↑i : Int), AV.bool false, AV.any, AV.any, AV.any, AV.any, AV.any, AV.any, AV.any, AV.any] [some (Row.lst 25 3 [AV.agg [AV.int IntKind.i64 kk, AV.str w, AV.sl true 5 0 l.length Cp.no]])]) F) := by kernel_rfl
theorem vc15 (R : Nat → RoRow) (kk : Int) (w : List UInt8) (l : List (Tr × Nat)) (k : AV → Rows → Fz → Prop) (F : Fz) : vcx ((env15 R l).addLoop 15 0 (lp15 kk w l)) 1000 15 fi15 [.agg [.int .i64 kk, .str w, .sl true 5 0 l.length .no]] [] k F = (19 = 19 ∧ AV.int IntKind.i64 1 = AV.int IntKind.i64 1 ∧ AV.sl true 5 0 l.length Cp.no = AV.sl true 5 0 l.length Cp.no ∧ AV.int IntKind.i64 (↑l.length : Int) = AV.int IntKind.i64 (↑l.length : Int) ∧ AV.int IntKind.i64 0 = AV.int IntKind.i64 0 ∧ [some (Row.lst 25 3 [AV.agg [AV.int IntKind.i64 kk, AV.str w, AV.sl true 5 0 l.length Cp.no]])] = [some (Row.lst 25 3 [AV.agg [AV.int IntKind.i64 kk, AV.str w, AV.sl true 5 0 l.length Cp.no]])] ∧ TAts F l ∧ ∀ (F' : Fz), Up F F' → k (AV.int IntKind.i64 (↑(1 + sizes (List.map Prod.fst l)) : Int)) [some (Row.lst 25 3 [AV.agg [AV.int IntKind.i64 kk, AV.str w, AV.sl true 5 0 l.length Cp.no]])] F') := by kernel_rfl
def mx (s : List UInt8) : Nat → Int
  | 0 => 0
  | a + 1 => if hbI s a = 40 then (if lv s (a + 1) > mx s a then lv s (a + 1) else mx s a) else mx s a
theorem stp_le (c : Int) : -1 ≤ stp c ∧ stp c ≤ 1 := by unfold stp; split <;> (try split) <;> omega
theorem lv_le (s : List UInt8) : ∀ a : Nat, -(a : Int) ≤ lv s a ∧ lv s a ≤ a
  | 0 => by simp [lv]
  | a + 1 => by
    have h1 := lv_le s a
    have h2 := stp_le (hbI s a)
    have : lv s (a + 1) = lv s a + stp (hbI s a) := rfl
    omega
theorem mx_le (s : List UInt8) : ∀ a : Nat, 0 ≤ mx s a ∧ lv s a ≤ mx s a ∧ mx s a ≤ a
  | 0 => by simp [lv, mx]
  | a + 1 => by
    have h1 := mx_le s a
    have h2 := lv_le s (a + 1)
    have e : lv s (a + 1) = lv s a + stp (hbI s a) := rfl
    unfold mx
    split
    · split <;> omega
    · rename_i h
      have : stp (hbI s a) ≤ 0 := by
        unfold stp
        rw [if_neg h]
        split <;> omega
      omega
theorem mx_step (s : List UInt8) (a : Nat) : mx s a ≤ mx s (a + 1) := by
  rw [mx]
  split
  · split <;> omega
  · omega
theorem mx_mono (s : List UInt8) (a : Nat) : ∀ d, mx s a ≤ mx s (a + d)
  | 0 => Int.le_refl _
  | d + 1 => Int.le_trans (mx_mono s a d) (mx_step s (a + d))
theorem lv_end (s : List UInt8) : ∀ d, lv s (s.length + d) = lv s s.length
  | 0 => rfl
  | d + 1 => by
    show lv s (s.length + d) + stp (hbI s ((s.length + d : Nat))) = _
    rw [lv_end s d, hbI_end (by omega)]
    show lv s s.length + 0 = _
    omega
theorem lv_mx (s : List UInt8) (i : Nat) : lv s i ≤ mx s s.length := by
  rcases Nat.le_total i s.length with h | h
  · have h1 := mx_mono s i (s.length - i)
    rw [show i + (s.length - i) = s.length by omega] at h1
    exact Int.le_trans (mx_le s i).2.1 h1
  · have h1 := lv_end s (i - s.length)
    rw [show s.length + (i - s.length) = i by omega] at h1
    rw [h1]; exact (mx_le s _).2.1
theorem tm17_spr (s : List UInt8) (l m i : Int) : tm17 s l m i = spr [(0, .str s), (3, .int .i64 l), (4, .int .i64 m), (5, .int .i64 i)] 0 27 := by kernel_rfl
theorem loop17 (R : Nat → RoRow) (HP : HPt) (s : List UInt8) (hs : s.length ≤ 140737488351232) : ∀ st k F, lp17 s (lv s s.length) (mx s s.length) st k F → SafeX Try.prog R [] (.block 0 (.loop (loopOf fi17 0))) st F k HP := by
  rintro ⟨TM, rows⟩ k F ⟨h0, h1, h2, h3, h4, h5, hk⟩
  simp only at h0 h1 h2 h3 h4 h5
  subst h5
  refine SafeX.loop_block (Inv := fun n st F' => F' = F ∧ ∃ i, i ≤ s.length ∧ n = s.length - i ∧ st = fam17 s (lv s i) (mx s i) i) ?_ ?_
  · refine ToX.fit (stE := fam17 s (lv s 0) (mx s 0) 0) (Fit.nil ?_) (ToX.here ⟨_, rfl, 0, Nat.zero_le _, rfl, rfl⟩)
    show VwL _ 0 (tm17 s 0 0 0) TM
    rw [tm17_spr]
    exact VwL.ofKnown h0 ⟨by rw [h1]; exact Vw.strI, by rw [h2]; exact Vw.intI, by rw [h3]; exact Vw.intI, by rw [h4]; exact Vw.intI, trivial⟩
  · rintro n st' F' ⟨rfl, i, hi, rfl, rfl⟩
    refine SafeX.by mixed (bx_ok R [] HP) (f := 17) (fi := fi17) (i := 0) (by kernel_rfl) (b := .loop (loopOf fi17 0)) (by kernel_rfl) (subs_loop _) 1000 (vr17 R s (lv s i) (mx s i) i _ F') ?_
    have hlv := lv_le s i
    have el : lv s (i + 1) = lv s i + stp (hbI s i) := rfl
    have eh : ((s.getD ((i : Nat) : Int).toNat 0).toNat : Int) = hbI s i := rfl
    refine hcB (fun h => hcT h ?_) fun h => ?_
    · have hlt : i < s.length := by have := of_decide_eq_true h; omega
      rw [eh, wrapSucc i (by omega)]
      refine hcB (fun g => ?_) fun g => hcB (fun g2 => ?_) fun g2 => ?_
      · have gi := eq_of_beq g
        have e1 : lv s (i + 1) = lv s i + 1 := by rw [el, gi]; rfl
        have em : mx s (i + 1) = if lv s i + 1 > mx s i then lv s i + 1 else mx s i := by rw [mx, if_pos gi, e1]
        rw [wrapI64 _ (by omega) (by omega), if_pos rfl, ← em, ← e1]
        refine ToX.fit (stE := fam17 s (lv s (i + 1)) (mx s (i + 1)) (i + 1)) (Fit.nil ?_) (ToX.here ⟨s.length - (i + 1), by omega, rfl, i + 1, hlt, rfl, rfl⟩)
        show VwL _ 0 (tm17 s (lv s (i + 1)) (mx s (i + 1)) ((i + 1 : Nat) : Int)) _
        (repeat' (first | with_reducible exact VwL.nil | with_reducible refine VwL.cons ?_ ?_ | with_reducible exact Vw.anyI | with_reducible exact Vw.strI | with_reducible exact Vw.boolI | with_reducible exact Vw.intI | with_reducible exact Vw.nilsI | exact Vw.ptrI (by simp) rfl | exact Vw.slI (by simp) rfl | with_reducible refine Vw.aggI ?_ | exact Vw.gndI rfl))
      · have gi := eq_of_beq g2
        have e1 : lv s (i + 1) = lv s i - 1 := by rw [el, gi]; show lv s i + -1 = _; omega
        have em : mx s (i + 1) = mx s i := by rw [mx, if_neg (by rw [gi]; decide)]
        rw [wrapI64 _ (by omega) (by omega), ← em, ← e1]
        refine ToX.fit (stE := fam17 s (lv s (i + 1)) (mx s (i + 1)) (i + 1)) (Fit.nil ?_) (ToX.here ⟨s.length - (i + 1), by omega, rfl, i + 1, hlt, rfl, rfl⟩)
        show VwL _ 0 (tm17 s (lv s (i + 1)) (mx s (i + 1)) ((i + 1 : Nat) : Int)) _
        (repeat' (first | with_reducible exact VwL.nil | with_reducible refine VwL.cons ?_ ?_ | with_reducible exact Vw.anyI | with_reducible exact Vw.strI | with_reducible exact Vw.boolI | with_reducible exact Vw.intI | with_reducible exact Vw.nilsI | exact Vw.ptrI (by simp) rfl | exact Vw.slI (by simp) rfl | with_reducible refine Vw.aggI ?_ | exact Vw.gndI rfl))
      · have n1 : hbI s i ≠ 40 := fun e => by rw [e] at g; cases g
        have n2 : hbI s i ≠ 41 := fun e => by rw [e] at g2; cases g2
        have e1 : lv s (i + 1) = lv s i := by
          rw [el]; unfold stp; rw [if_neg n1, if_neg n2]; omega
        have em : mx s (i + 1) = mx s i := by rw [mx, if_neg n1]
        rw [← em, ← e1]
        refine ToX.fit (stE := fam17 s (lv s (i + 1)) (mx s (i + 1)) (i + 1)) (Fit.nil ?_) (ToX.here ⟨s.length - (i + 1), by omega, rfl, i + 1, hlt, rfl, rfl⟩)
        show VwL _ 0 (tm17 s (lv s (i + 1)) (mx s (i + 1)) ((i + 1 : Nat) : Int)) _
        (repeat' (first | with_reducible exact VwL.nil | with_reducible refine VwL.cons ?_ ?_ | with_reducible exact Vw.anyI | with_reducible exact Vw.strI | with_reducible exact Vw.boolI | with_reducible exact Vw.intI | with_reducible exact Vw.nilsI | exact Vw.ptrI (by simp) rfl | exact Vw.slI (by simp) rfl | with_reducible refine Vw.aggI ?_ | exact Vw.gndI rfl))
    · have hge : i = s.length := by have := of_decide_eq_false h; omega
      subst hge
      refine ToX.fit (stE := fam17 s (lv s s.length) (mx s s.length) s.length) (Fit.nil (by (repeat' (first | with_reducible exact VwL.nil | with_reducible refine VwL.cons ?_ ?_ | with_reducible exact Vw.anyI | with_reducible exact Vw.strI | with_reducible exact Vw.boolI | with_reducible exact Vw.intI | with_reducible exact Vw.nilsI | exact Vw.ptrI (by simp) rfl | exact Vw.slI (by simp) rfl | with_reducible refine Vw.aggI ?_ | exact Vw.gndI rfl)))) (ToX.here hk)
def spec17 : CallSpecX := fun args h k => match args with
  | [.str s] => fun F => s.length ≤ 140737488351232 ∧ k (.int .i64 (mx s s.length)) h F
  | _ => botX
theorem spec17_ok (R : Nat → RoRow) (HP : HPt) : ∀ args h k F, spec17 args h k F → SafeCallX Try.prog R 17 args h F k HP := by
  intro args h k F hk
  unfold spec17 at hk
  split at hk
  · rename_i s
    obtain ⟨hs, hk⟩ := hk
    have main : SafeCallX Try.prog R 17 [.str s] [] F (fun v h' F' => gnd v = true ∧ (v = .int .i64 (mx s s.length) ∧ F' = F)) (fun v h' F' => gnd v = true ∧ False) := by
      refine SafeCallX.post (Q := fun v h' F' => v = .int .i64 (mx s s.length) ∧ F' = F) (HP := fun _ _ _ => False) ?_ ?_ ?_
      · exact SafeCallX.by mixed ((bx_ok R [] _).addLoop (f := 17) (fi := fi17) (by kernel_rfl) (i := 0) (body := .loop (loopOf fi17 0)) (by kernel_rfl) (loop17 R _ s hs)) (f := 17) (fi := fi17) (by kernel_rfl) 1000 (vc17 R s _ _ _ F) ⟨rfl, rfl, rfl, rfl, rfl, rfl, rfl, rfl⟩
      · rintro v h' F' _ ⟨rfl, rfl⟩; exact nil_fit rfl ⟨rfl, rfl, rfl⟩
      · rintro v h' F' _ h; exact h.elim
    refine (SafeCallX.at0 rfl main).mono ?_ ?_
    · rintro v h' F' _ ⟨rfl, rfl, rfl⟩; exact hk
    · rintro v h' F' _ ⟨_, h⟩; exact h.elim
  · exact hk.elim
/-! ### Size -/
def SizeOK (t : Tr) : Prop := ∀ (R : Nat → RoRow), Free R → ∀ (x : Nat) (F : Fz) (k HP : AV → Rows → Fz → Prop), IsT F t x → (∀ F', Up F F' → k (.int .i64 (size t : Nat)) [] F') → SafeCallX Try.prog R 15 [exprV t x] [] F k HP
theorem size_at {t : Tr} (hs : SizeOK t) {R : Nat → RoRow} (hR : Free R) {x : Nat} {F : Fz} (hx : IsT F t x) (h : Rows) (k HP : AV → Rows → Fz → Prop) (hk : ∀ F', Up F F' → k (.int .i64 (size t : Nat)) h F') : SafeCallX Try.prog R 15 [exprV t x] h F k HP := by
  refine (SafeCallX.at0 (Q := fun v F' => v = .int .i64 (size t : Nat) ∧ Up F F') (HP := fun _ _ => False) rfl (hs R hR x F _ _ hx fun F' hu => ⟨rfl, rfl, hu⟩)).mono ?_ ?_
  · rintro v h' F' _ ⟨rfl, rfl, hu⟩; exact hk F' hu
  · rintro v h' F' _ ⟨_, h⟩; exact h.elim
theorem size_un {t : Tr} (hs : SizeOK t) {R : Nat → RoRow} (hR : Free R) {ro : RoRow} {x : Nat} {F : Fz} (hx : IsT F t x) (h : Rows) (k HP : AV → Rows → Fz → Prop) (hk : ∀ F', Up F F' → k (.int .i64 (size t : Nat)) h F') : SafeCallX Try.prog (updR R 5 ro) 15 [exprV t x] h F k HP := by
  have h0 : SafeCallX Try.prog (updR R 5 ro) 15 [exprV t x] [] F (fun v h' F' => gnd v = true ∧ (v = .int .i64 (size t : Nat) ∧ Up F F')) (fun v h' F' => gnd v = true ∧ False) := by
    refine SafeCallX.unread (Q := fun v h' F' => v = .int .i64 (size t : Nat) ∧ h' = [] ∧ Up F F') (HP := fun _ _ _ => False) (by decide) hR.n hR.q nm_expr rfl (hs R hR x F _ _ hx fun F' hu => ⟨rfl, rfl, hu⟩) ?_ ?_
    · rintro v h' F' _ ⟨rfl, rfl, hu⟩; exact ⟨rfl, rfl, rfl, rfl, hu⟩
    · rintro v h' F' _ h; exact h.elim
  refine (SafeCallX.at0 rfl h0).mono ?_ ?_
  · rintro v h' F' _ ⟨rfl, rfl, hu⟩; exact hk F' hu
  · rintro v h' F' _ ⟨_, h⟩; exact h.elim
theorem getD_mem {l : List (Tr × Nat)} {i : Nat} (hi : i < l.length) : l.getD i dT ∈ l := by
  rw [List.getD_eq_getElem?_getD, List.getElem?_eq_getElem hi]
  exact List.getElem_mem hi
theorem spec15k_ok {R : Nat → RoRow} (hR : Free R) (ro : RoRow) (l : List (Tr × Nat)) (hs : ∀ p ∈ l, SizeOK p.1) (HP : HPt) : ∀ args h k F, spec15k l args h k F → SafeCallX Try.prog (updR R 5 ro) 15 args h F k HP := by
  intro args h k F hk
  unfold spec15k at hk
  split at hk
  · obtain ⟨hts, i, hi, rfl, hk⟩ := hk
    have hm := getD_mem hi
    exact size_un (hs _ hm) hR (hts.is _ hm) h k HP hk
  · exact hk.elim
theorem env15_ok {R : Nat → RoRow} (hR : Free R) (l : List (Tr × Nat)) (hs : ∀ p ∈ l, SizeOK p.1) (HP : HPt) : OKX Try.prog (env15 R l) [] HP :=
  (bx_ok _ [] HP).addCall (f := 15) (fi := fi15) (by kernel_rfl) (spec15k_ok hR (kidR l) l hs HP)
theorem sizes_app : ∀ (l : List Tr) (t : Tr), sizes (l ++ [t]) = sizes l + size t
  | [], t => by simp [sizes]
  | u :: l, t => by simp only [List.cons_append, sizes, sizes_app l t]; omega
theorem size_pos (t : Tr) : 1 ≤ size t := by cases t; simp only [size]; omega
theorem sizes_len : ∀ l : List Tr, l.length ≤ sizes l
  | [] => Nat.le_refl _
  | t :: l => by have := size_pos t; have := sizes_len l; simp only [sizes, List.length_cons]; omega
theorem sizes_mem : ∀ (l : List Tr), ∀ t ∈ l, size t ≤ sizes l
  | u :: l, t, h => by
    simp only [sizes]
    rcases List.mem_cons.1 h with rfl | h
    · omega
    · have := sizes_mem l t h; omega
theorem tm15_spr (acc : Int) (n : Nat) (i : Int) : tm15 acc n i = spr [(3, .int .i64 acc), (7, .sl true 5 0 n .no), (8, .int .i64 (n : Nat)), (9, .int .i64 i)] 0 19 := by kernel_rfl
theorem loop15 {R : Nat → RoRow} (hR : Free R) (kk : Int) (w : List UInt8) (l : List (Tr × Nat)) (hl : sizes (l.map Prod.fst) ≤ 100000) (hs : ∀ p ∈ l, SizeOK p.1) (HP : HPt) :
    ∀ st k F, lp15 kk w l st k F → SafeX Try.prog (updR R 5 (kidR l)) [] (.block 0 (.loop (loopOf fi15 0))) st F k HP := by
  rintro ⟨TM, rows⟩ k F ⟨h0, h1, h2, h3, h4, h5, hts, hk⟩
  simp only at h0 h1 h2 h3 h4 h5
  subst h5
  have hn : l.length ≤ 100000 := by have := sizes_len (l.map Prod.fst); rw [List.length_map] at this; omega
  let A : Nat → Nat := fun i => 1 + sizes ((l.map Prod.fst).take i)
  have hA : ∀ i, i < l.length → A (i + 1) = A i + size (l.getD i dT).1 := fun i hi => by
    have hi' : i < (l.map Prod.fst).length := by rw [List.length_map]; exact hi
    simp only [A]
    rw [List.take_add_one, List.getElem?_eq_getElem hi']
    show 1 + sizes (_ ++ [_]) = _
    rw [sizes_app, List.getElem_map, List.getD_eq_getElem?_getD, List.getElem?_eq_getElem hi]
    show 1 + (_ + size l[i].fst) = _ + size l[i].fst
    omega
  have hAe : A l.length = 1 + sizes (l.map Prod.fst) := by
    simp only [A]; rw [List.take_of_length_le (by simp)]
  have hAb : ∀ d i, i + d = l.length → A i ≤ A l.length := by
    intro d
    induction d with
    | zero => intro i h; have : i = l.length := by omega
              subst this; exact Nat.le_refl _
    | succ d ih => intro i h; have := ih (i + 1) (by omega); rw [hA i (by omega)] at this; omega
  refine SafeX.loop_block (Inv := fun n st F' => Up F F' ∧ ∃ i, i ≤ l.length ∧ n = l.length - i ∧ st = fam15 kk w l.length (A i) i) ?_ ?_
  · refine ToX.fit (stE := fam15 kk w l.length (A 0) 0) (Fit.row1 (e5row_g _ _ _) ?_) (ToX.here ⟨_, Up.refl F, 0, Nat.zero_le _, rfl, rfl⟩)
    show VwL some 1 (tm15 1 l.length 0) TM
    rw [tm15_spr]
    exact VwL.ofKnown h0 ⟨by rw [h1]; exact Vw.intI, by rw [h2]; exact Vw.gndI rfl, by rw [h3]; exact Vw.intI, by rw [h4]; exact Vw.intI, trivial⟩
  · rintro n st' F' ⟨hu, i, hi, rfl, rfl⟩
    refine SafeX.by mixed (env15_ok hR l hs HP) (f := 15) (fi := fi15) (i := 0) (by kernel_rfl) (b := .loop (loopOf fi15 0)) (by kernel_rfl) (subs_loop _) 1000 (vr15 R kk w l (A i) i _ F') ?_
    have hi2 : (0 + ((i : Nat) : Int).toNat) = i := by simp
    refine hcB (fun h => hcT h (hcT ?_ ?_)) fun h => ?_
    · have hlt : i < l.length := by have := of_decide_eq_true h; omega
      rw [hi2]
      exact decide_eq_true hlt
    · have hlt : i < l.length := by have := of_decide_eq_true h; omega
      refine ⟨hts.le hu, i, hlt, by rw [hi2], fun F2 hu2 => ?_⟩
      have b := hAb (l.length - (i + 1)) (i + 1) (by omega)
      have e := hA i hlt
      have e2 : ((A i : Nat) : Int) + ((size (l.getD i dT).1 : Nat) : Int) = ((A (i + 1) : Nat) : Int) := by rw [e]; omega
      rw [e2, wrapI64 _ (by omega) (by omega), wrapSucc i (by omega)]
      refine ToX.fit (stE := fam15 kk w l.length (A (i + 1)) (i + 1)) (Fit.row1 (e5row_g _ _ _) ?_) (ToX.here ⟨l.length - (i + 1), by omega, hu.trans hu2, i + 1, hlt, rfl, rfl⟩)
      show VwL some 1 (tm15 ((A (i + 1) : Nat) : Int) l.length ((i + 1 : Nat) : Int)) _
      (repeat' (first | with_reducible exact VwL.nil | with_reducible refine VwL.cons ?_ ?_ | with_reducible exact Vw.anyI | with_reducible exact Vw.strI | with_reducible exact Vw.boolI | with_reducible exact Vw.intI | with_reducible exact Vw.nilsI | exact Vw.ptrI (by simp) rfl | exact Vw.slI (by simp) rfl | with_reducible refine Vw.aggI ?_ | exact Vw.gndI rfl))
    · have hge : i = l.length := by have := of_decide_eq_false h; omega
      subst hge
      refine ToX.fit (stE := fam15 kk w l.length (A l.length) l.length) (Fit.row1 (e5row_g _ _ _) (by (repeat' (first | with_reducible exact VwL.nil | with_reducible refine VwL.cons ?_ ?_ | with_reducible exact Vw.anyI | with_reducible exact Vw.strI | with_reducible exact Vw.boolI | with_reducible exact Vw.intI | with_reducible exact Vw.nilsI | exact Vw.ptrI (by simp) rfl | exact Vw.slI (by simp) rfl | with_reducible refine Vw.aggI ?_ | exact Vw.gndI rfl)))) (ToX.here ?_)
      rw [hAe]
      exact hk F' hu
theorem size_step (kd : Nat) (w : List UInt8) (kids : List Tr) (hl : sizes kids ≤ 100000) (hs : ∀ u ∈ kids, SizeOK u) : SizeOK (.mk kd w kids) := by
  intro R hR x F k HP hx hk
  obtain ⟨l, hl', hfr, hts⟩ := hx.kids
  have hlen : kids.length = l.length := by rw [← hl', List.length_map]
  have hm : ∀ p ∈ l, SizeOK p.1 := fun p hp => hs p.1 (by rw [← hl']; exact List.mem_map_of_mem hp)
  have inner : SafeCallX Try.prog (updR R 5 (kidR l)) 15 [.agg [.int .i64 ((kd : Nat) : Int), .str w, .sl true 5 0 l.length .no]] [] F (fun v h F' => v = .int .i64 (size (.mk kd w kids) : Nat) ∧ h = [] ∧ Up F F') (fun _ _ _ => False) := by
    refine SafeCallX.post (Q := fun v h F' => v = .int .i64 (size (.mk kd w kids) : Nat) ∧ Up F F') (HP := fun _ _ _ => False) ?_ ?_ ?_
    · refine SafeCallX.by mixed ((env15_ok hR l hm _).addLoop (f := 15) (fi := fi15) (by kernel_rfl) (i := 0) (body := .loop (loopOf fi15 0)) (by kernel_rfl) (loop15 hR _ w l (by rw [hl']; exact hl) hm _)) (f := 15) (fi := fi15) (by kernel_rfl) 1000 (vc15 R _ w l _ F) ⟨rfl, rfl, rfl, rfl, rfl, rfl, hts, fun F' hu => ⟨?_, hu⟩⟩
      rw [hl']; rfl
    · rintro v h' F' _ ⟨rfl, hu⟩; exact nil_fit rfl ⟨rfl, rfl, hu⟩
    · rintro v h' F' _ h; exact h.elim
  have := SafeCallX.swap (by decide) hfr hR.n hR.q inner (Q1 := k) (HP1 := HP) (by rintro v h' F' _ ⟨rfl, rfl, hu⟩; exact ⟨rfl, rfl, hk F' hu⟩) (fun v h' F' _ h => h.elim)
  have e : nmL 5 x [.agg [.int .i64 ((kd : Nat) : Int), .str w, .sl true 5 0 l.length .no]] = [exprV (.mk kd w kids) x] := by
    show [AV.agg [.int .i64 ((kd : Nat) : Int), .str w, tok x l.length]] = _
    rw [← hlen]; rfl
  rw [e] at this
  exact this
mutual
theorem sizeOK : ∀ (t : Tr), size t ≤ 100000 → SizeOK t
  | .mk k w kids, h => size_step k w kids (by simp only [size] at h; omega) (sizeOKs kids (by simp only [size] at h; omega))
theorem sizeOKs : ∀ (ts : List Tr), sizes ts ≤ 100000 → ∀ u ∈ ts, SizeOK u
  | [], _, u, h => by cases h
  | t :: ts, hl, u, h => by
    simp only [sizes] at hl
    rcases List.mem_cons.1 h with e | h
    · rw [e]; exact sizeOK t (by omega)
    · exact sizeOKs ts (by omega) u h
end
mutual
theorem size_sz : ∀ (t : Tr), size t ≤ sz t
  | .mk k w kids => by have := sizes_szs kids; simp only [size, sz]; omega
theorem sizes_szs : ∀ (ts : List Tr), sizes ts ≤ szs ts
  | [] => Nat.le_refl _
  | t :: ts => by have := size_sz t; have := sizes_szs ts; simp only [sizes, szs]; omega
end
def spec15 : CallSpecX := fun args h k => match args with
  | [a] => fun F => ∃ (t : Tr) (x : Nat), a = exprV t x ∧ TAt F t x ∧ size t ≤ 100000 ∧ ∀ F', Up F F' → k (.int .i64 (size t : Nat)) h F'
  | _ => botX
theorem spec15_ok {R : Nat → RoRow} (hR : Free R) (HP : HPt) : ∀ args h k F, spec15 args h k F → SafeCallX Try.prog R 15 args h F k HP := by
  intro args h k F hk
  unfold spec15 at hk
  split at hk
  · obtain ⟨t, x, rfl, hx, hn, hk⟩ := hk
    exact size_at (sizeOK t hn) hR hx.is h k HP hk
  · exact hk.elim
end Go.Dc.Ke
end
section
set_option linter.unusedVariables false
set_option linter.unusedSimpArgs false
namespace Go.Dc.Ke
open Go.Proofs Go.RowKit Go.Shelf
set_option maxRecDepth 100000
/-- Behind the first so many parts. -/
def tailC : Nat → Code → Code
  | 0, c => c
  | n + 1, .seq x y => tailC n y
  | _, c => c
/-- A run of the first so many parts, one behind the other. -/
noncomputable def chain (E : EnvX) (m : Nat) (f : FuncId) (Q : Exit → St → Fz → Prop) (K : St → Fz → Prop) : Nat → Code → St → Fz → Prop
  | 0, _, st => K st
  | n + 1, .seq x y, st => rnx E m f x st fun e st' => match e with | .normal => chain E m f Q K n y st' | e => Q e st'
  | _ + 1, _, _ => fun _ => False
theorem chain_ok {E : EnvX} {HP : AV → Rows → Fz → Prop} (hE : OKX Try.prog E [] HP) {f : FuncId} {Q : Exit → St → Fz → Prop} {K : St → Fz → Prop} (m : Nat) :
    ∀ (n : Nat) (c : Code) (st : St) (F : Fz), (∀ p ∈ subs c, p ∈ E.subsOf f) → (∀ st F, K st F → SafeX Try.prog E.R [] (tailC n c) st F Q HP) → chain E m f Q K n c st F → SafeX Try.prog E.R [] c st F Q HP
  | 0, c, st, F, _, hK, h => hK st F h
  | n + 1, .seq x y, st, F, hc, hK, h => by
    refine SafeX.seq ((SafeX.rnx mixed hE (fun p hp => hc p (by simp only [subs]; exact List.mem_append_left _ hp)) m h).mono ?_ fun _ _ _ h => h)
    intro e st' F' he
    cases e with
    | normal => exact chain_ok hE m n y st' F' (fun p hp => hc p (by simp only [subs]; exact List.mem_append_right _ hp)) hK he
    | _ => exact he
  | n + 1, .skip, st, F, _, _, h => h.elim
  | n + 1, .region _ _ _, st, F, _, _, h => h.elim
  | n + 1, .cond _ _ _, st, F, _, _, h => h.elim
  | n + 1, .block _ _, st, F, _, _, h => h.elim
  | n + 1, .loop _, st, F, _, _, h => h.elim
  | n + 1, .exit _, st, F, _, _, h => h.elim
  | n + 1, .goto _, st, F, _, _, h => h.elim
  | n + 1, .label _, st, F, _, _, h => h.elim
  | n + 1, .ret, st, F, _, _, h => h.elim
  | n + 1, .rangeFunc _ _ _ _, st, F, _, _, h => h.elim
noncomputable abbrev envJ (R : Nat → RoRow) : EnvX := ((envZ R).addCall 15 spec15).addCall 17 spec17
theorem envJ_ok {R : Nat → RoRow} (hR : Free R) (HP : HPt) : OKX Try.prog (envJ R) [] HP :=
  ((envZ_ok hR HP).addCall (f := 15) (fi := fi15) (by kernel_rfl) (spec15_ok hR HP)).addCall (f := 17) (fi := fi17) (by kernel_rfl) (spec17_ok R HP)
/-! the kids are read under the number 5 -/
inductive SzB (l : List (Tr × Nat)) (F : Fz) : AV → Nat → Prop
  | tok (t : Tr) (x : Nat) (hx : TAt F t x) (hn : size t ≤ 100000) : SzB l F (exprV t x) (size t)
  | five (kd : Int) (w : List UInt8) (hn : sizes (l.map Prod.fst) ≤ 100000) (hts : TAts F l) : SzB l F (.agg [.int .i64 kd, .str w, .sl true 5 0 l.length .no]) (1 + sizes (l.map Prod.fst))
def spec15u (l : List (Tr × Nat)) : CallSpecX := fun args h k => match args with
  | [a] => fun F => ∃ n : Nat, SzB l F a n ∧ ∀ F', Up F F' → k (.int .i64 (n : Nat)) h F'
  | _ => botX
noncomputable abbrev envB (R : Nat → RoRow) (l : List (Tr × Nat)) : EnvX := ((bx (updR R 5 (kidR l))).addCall 13 spec13).addCall 15 (spec15u l)
theorem spec13u_ok {R : Nat → RoRow} (hR : Free R) (ro : RoRow) (HP : HPt) : ∀ args h k F, spec13 args h k F → SafeCallX Try.prog (updR R 5 ro) 13 args h F k HP := by
  intro args h k F hk
  unfold spec13 at hk
  split at hk
  · obtain ⟨t, x, rfl, hx, hn, hk⟩ := hk
    exact show_un (showOK t hn.nice (by have := hn.len; omega)) hR hx.is h k HP hk
  · exact hk.elim
theorem spec15u_ok {R : Nat → RoRow} (hR : Free R) (l : List (Tr × Nat)) (HP : HPt) : ∀ args h k F, spec15u l args h k F → SafeCallX Try.prog (updR R 5 (kidR l)) 15 args h F k HP := by
  intro args h k F hk
  unfold spec15u at hk
  split at hk
  · obtain ⟨n, hz, hk⟩ := hk
    cases hz with
    | tok t x hx hn => exact size_un (sizeOK t hn) hR hx.is h k HP hk
    | five kd w hn hts =>
      have hm : ∀ p ∈ l, SizeOK p.1 := fun p hp => sizeOK _ (by have := sizes_mem (l.map Prod.fst) p.1 (List.mem_map_of_mem hp); omega)
      have main : SafeCallX Try.prog (updR R 5 (kidR l)) 15 [.agg [.int .i64 kd, .str w, .sl true 5 0 l.length .no]] [] F (fun v h' F' => gnd v = true ∧ (v = .int .i64 (1 + sizes (l.map Prod.fst) : Nat) ∧ Up F F')) (fun v h' F' => gnd v = true ∧ False) := by
        refine SafeCallX.post (Q := fun v h F' => v = .int .i64 (1 + sizes (l.map Prod.fst) : Nat) ∧ Up F F') (HP := fun _ _ _ => False) ?_ ?_ ?_
        · exact SafeCallX.by mixed ((env15_ok hR l hm _).addLoop (f := 15) (fi := fi15) (by kernel_rfl) (i := 0) (body := .loop (loopOf fi15 0)) (by kernel_rfl) (loop15 hR _ w l hn hm _)) (f := 15) (fi := fi15) (by kernel_rfl) 1000 (vc15 R _ w l _ F) ⟨rfl, rfl, rfl, rfl, rfl, rfl, hts, fun F' hu => ⟨rfl, hu⟩⟩
        · rintro v h' F' _ ⟨rfl, hu⟩; exact nil_fit rfl ⟨rfl, rfl, hu⟩
        · rintro v h' F' _ h; exact h.elim
      refine (SafeCallX.at0 rfl main).mono ?_ ?_
      · rintro v h' F' _ ⟨rfl, rfl, hu⟩; exact hk F' hu
      · rintro v h' F' _ ⟨_, h⟩; exact h.elim
  · exact hk.elim
theorem envB_ok {R : Nat → RoRow} (hR : Free R) (l : List (Tr × Nat)) (HP : HPt) : OKX Try.prog (envB R l) [] HP :=
  ((bx_ok _ [] HP).addCall (f := 13) (fi := fi13) (by kernel_rfl) (spec13u_ok hR (kidR l) HP)).addCall (f := 15) (fi := fi15) (by kernel_rfl) (spec15u_ok hR l HP)
noncomputable abbrev tmB : List AV := [.any, .any, .any, .any, .any, .ptr false 0 0 0, .any, .any, .ptr false 1 0 0, .any, .any, .any, .any, .any, .ptr false 3 0 0, .any, .any, .any, .any, .any, .any, .any, .any, .any, .any, .any, .any, .any, .any, .any, .any, .any, .any, .any, .any, .any, .any, .any, .any, .any, .any, .any, .any, .any, .any, .any, .any, .any, .any, .any, .any, .any, .any, .any, .any, .any, .any, .any, .any, .any, .any, .any, .any, .any, .any, .any, .any, .any, .any, .any, .any, .any, .any, .any, .any, .any, .any, .any, .any, .any, .any, .any, .any, .any, .any, .any, .any, .any, .any, .any, .any, .any, .any, .any, .any, .any, .any, .any, .any, .any, .any, .any, .any, .any, .any, .any, .any, .any, .any, .any, .any, .any, .any, .any, .any, .any, .any, .any, .any, .any, .any, .any, .any, .any, .any, .any, .any]
noncomputable abbrev stB (t u v : Tr) (x y z : Nat) (kd : Int) (w : List UInt8) (n : Nat) : St := ⟨tmB, [some (.lst 25 3 [exprV t x]), some (.lst 25 3 [exprV u y]), some (.lst 25 3 [exprV v z]), some (.lst 25 3 [.agg [.int .i64 kd, .str w, .sl true 5 0 n .no]])]⟩
noncomputable abbrev stZ : St := ⟨spr [(4, .bool true)] 0 127, [none, none, none, none]⟩
end Go.Dc.Ke
end
section
set_option linter.unusedVariables false
set_option linter.unusedSimpArgs false
namespace Go.Dc.Ke
open Go.Proofs Go.RowKit Go.Shelf
set_option maxRecDepth 100000
theorem vh7 (R : Nat → RoRow) (s u : List UInt8) (q : Exit → AV → Fz → Prop) (kk : Nat → AV → AV → AV → Rows → Fz → Prop) (F : Fz) : chain (envJ R) 1000 7 (fun e st => q e (nthV st.tmps 4)) (fun st => kk st.tmps.length (nthV st.tmps 5) (nthV st.tmps 8) (nthV st.tmps 14) st.rows) 8 fi7.body ⟨enterT [.str s, .str u] fi7.ntmps, []⟩ F = (∀ (F' : Fz), Up F F' → (∀ (t : Tr), parse s = PR.ok t 0 → ∀ (x : Nat) (F'_1 : Fz), Up F' F'_1 → TAt F'_1 t x → (∀ (t_1 : Tr), parse u = PR.ok t_1 0 → ∀ (x_1 : Nat) (F' : Fz), Up F'_1 F' → TAt F' t_1 x_1 → bif decide (IntKind.i64.wrap ((↑s.length : Int) + (↑u.length : Int)) > 251) then q Exit.ret (AV.bool true) F' else s.length.le 140737488351232 ∧ bif decide (mx s s.length > 14) then q Exit.ret (AV.bool true) F' else u.length.le 140737488351232 ∧ bif decide (mx u u.length > 14) then q Exit.ret (AV.bool true) F' else bif decide (1 + s.length ≤ 9223372036854775807) then bif decide ((40 :: s).length + 1 ≤ 9223372036854775807) then (∀ (t_2 : Tr), parse (40 :: (s ++ [41])) = PR.ok t_2 0 → ∀ (x_2 : Nat) (F'_2 : Fz), Up F' F'_2 → TAt F'_2 t_2 x_2 → bif decide (1 + s.length ≤ 9223372036854775807) then bif decide ((40 :: s).length + 3 ≤ 9223372036854775807) then bif decide ((40 :: (s ++ [41, 124, 40])).length + u.length ≤ 9223372036854775807) then bif decide ((40 :: (((s ++ [41, 124, 40])) ++ u)).length + 1 ≤ 9223372036854775807) then (∀ (t_3 : Tr), parse (40 :: (((((s ++ [41, 124, 40])) ++ u)) ++ [41])) = PR.ok t_3 0 → ∀ (x_3 : Nat) (F' : Fz), Up F'_2 F' → TAt F' t_3 x_3 → ∃ (t_4 : Tr), ∃ (x_4 : Nat), AV.agg [AV.int IntKind.i64 (↑t_2.kind : Int), AV.str t_2.word, AV.sl true (x_2 + 15) 0 t_2.kids.length Cp.no] = AV.agg [AV.int IntKind.i64 (↑t_4.kind : Int), AV.str t_4.word, AV.sl true (x_4 + 15) 0 t_4.kids.length Cp.no] ∧ TAt F' t_4 x_4 ∧ NiceT t_4 ∧ ∀ (F'_3 : Fz), Up F' F'_3 → AV.agg [AV.int IntKind.i64 (↑t.kind : Int), AV.str t.word, AV.sl true (x + 15) 0 t.kids.length Cp.no] = AV.agg [AV.int IntKind.i64 (↑t.kind : Int), AV.str t.word, AV.sl true (x + 15) 0 t.kids.length Cp.no] ∧ ∃ (t_5 : Tr), ∃ (x_5 : Nat), AV.agg [AV.int IntKind.i64 (↑t.kind : Int), AV.str t.word, AV.sl true (x + 15) 0 t.kids.length Cp.no] = AV.agg [AV.int IntKind.i64 (↑t_5.kind : Int), AV.str t_5.word, AV.sl true (x_5 + 15) 0 t_5.kids.length Cp.no] ∧ TAt F'_3 t_5 x_5 ∧ NiceT t_5 ∧ ∀ (F' : Fz), Up F'_3 F' → bif !shw t_4 == shw t_5 then q Exit.ret (AV.bool false) F' else bif (↑t_3.kind : Int) != 5 then q Exit.ret (AV.bool false) F' else bif (↑t_3.kids.length : Int) != 2 then q Exit.ret (AV.bool false) F' else kk 127 (AV.ptr false 0 0 0) (AV.ptr false 1 0 0) (AV.ptr false 3 0 0) [some (Row.lst 25 3 [AV.agg [AV.int IntKind.i64 (↑t.kind : Int), AV.str t.word, AV.sl true (x + 15) 0 t.kids.length Cp.no]]), some (Row.lst 25 3 [AV.agg [AV.int IntKind.i64 (↑t_1.kind : Int), AV.str t_1.word, AV.sl true (x_1 + 15) 0 t_1.kids.length Cp.no]]), some (Row.lst 25 3 [AV.agg [AV.int IntKind.i64 (↑t_2.kind : Int), AV.str t_2.word, AV.sl true (x_2 + 15) 0 t_2.kids.length Cp.no]]), some (Row.lst 25 3 [AV.agg [AV.int IntKind.i64 (↑t_3.kind : Int), AV.str t_3.word, AV.sl true (x_3 + 15) 0 t_3.kids.length Cp.no]])] F') ∧ ∀ (a c : Nat), parse (40 :: (((((s ++ [41, 124, 40])) ++ u)) ++ [41])) = PR.err a c → ∀ (F' : Fz), Up F'_2 F' → bif (↑c : Int) != 0 then q Exit.ret (AV.bool false) F' else ∃ (t_3 : Tr), ∃ (x_3 : Nat), AV.agg [AV.int IntKind.i64 (↑t_2.kind : Int), AV.str t_2.word, AV.sl true (x_2 + 15) 0 t_2.kids.length Cp.no] = AV.agg [AV.int IntKind.i64 (↑t_3.kind : Int), AV.str t_3.word, AV.sl true (x_3 + 15) 0 t_3.kids.length Cp.no] ∧ TAt F' t_3 x_3 ∧ NiceT t_3 ∧ ∀ (F'_3 : Fz), Up F' F'_3 → AV.agg [AV.int IntKind.i64 (↑t.kind : Int), AV.str t.word, AV.sl true (x + 15) 0 t.kids.length Cp.no] = AV.agg [AV.int IntKind.i64 (↑t.kind : Int), AV.str t.word, AV.sl true (x + 15) 0 t.kids.length Cp.no] ∧ ∃ (t_4 : Tr), ∃ (x_4 : Nat), AV.agg [AV.int IntKind.i64 (↑t.kind : Int), AV.str t.word, AV.sl true (x + 15) 0 t.kids.length Cp.no] = AV.agg [AV.int IntKind.i64 (↑t_4.kind : Int), AV.str t_4.word, AV.sl true (x_4 + 15) 0 t_4.kids.length Cp.no] ∧ TAt F'_3 t_4 x_4 ∧ NiceT t_4 ∧ ∀ (F' : Fz), Up F'_3 F' → bif !shw t_3 == shw t_4 then q Exit.ret (AV.bool false) F' else q Exit.ret (AV.bool false) F' else False else False else False else False) ∧ ∀ (a c : Nat), parse (40 :: (s ++ [41])) = PR.err a c → ∀ (F'_2 : Fz), Up F' F'_2 → bif decide (1 + s.length ≤ 9223372036854775807) then bif decide ((40 :: s).length + 3 ≤ 9223372036854775807) then bif decide ((40 :: (s ++ [41, 124, 40])).length + u.length ≤ 9223372036854775807) then bif decide ((40 :: (((s ++ [41, 124, 40])) ++ u)).length + 1 ≤ 9223372036854775807) then (∀ (t_2 : Tr), parse (40 :: (((((s ++ [41, 124, 40])) ++ u)) ++ [41])) = PR.ok t_2 0 → ∀ (x_2 : Nat) (F' : Fz), Up F'_2 F' → TAt F' t_2 x_2 → bif (↑c : Int) != 0 then q Exit.ret (AV.bool false) F' else ∃ (t_3 : Tr), ∃ (x_3 : Nat), AV.agg [AV.int IntKind.i64 0, AV.str [], AV.nils] = AV.agg [AV.int IntKind.i64 (↑t_3.kind : Int), AV.str t_3.word, AV.sl true (x_3 + 15) 0 t_3.kids.length Cp.no] ∧ TAt F' t_3 x_3 ∧ NiceT t_3 ∧ ∀ (F'_3 : Fz), Up F' F'_3 → AV.agg [AV.int IntKind.i64 (↑t.kind : Int), AV.str t.word, AV.sl true (x + 15) 0 t.kids.length Cp.no] = AV.agg [AV.int IntKind.i64 (↑t.kind : Int), AV.str t.word, AV.sl true (x + 15) 0 t.kids.length Cp.no] ∧ ∃ (t_4 : Tr), ∃ (x_4 : Nat), AV.agg [AV.int IntKind.i64 (↑t.kind : Int), AV.str t.word, AV.sl true (x + 15) 0 t.kids.length Cp.no] = AV.agg [AV.int IntKind.i64 (↑t_4.kind : Int), AV.str t_4.word, AV.sl true (x_4 + 15) 0 t_4.kids.length Cp.no] ∧ TAt F'_3 t_4 x_4 ∧ NiceT t_4 ∧ ∀ (F' : Fz), Up F'_3 F' → bif !shw t_3 == shw t_4 then q Exit.ret (AV.bool false) F' else bif (↑t_2.kind : Int) != 5 then q Exit.ret (AV.bool false) F' else bif (↑t_2.kids.length : Int) != 2 then q Exit.ret (AV.bool false) F' else kk 127 (AV.ptr false 0 0 0) (AV.ptr false 1 0 0) (AV.ptr false 3 0 0) [some (Row.lst 25 3 [AV.agg [AV.int IntKind.i64 (↑t.kind : Int), AV.str t.word, AV.sl true (x + 15) 0 t.kids.length Cp.no]]), some (Row.lst 25 3 [AV.agg [AV.int IntKind.i64 (↑t_1.kind : Int), AV.str t_1.word, AV.sl true (x_1 + 15) 0 t_1.kids.length Cp.no]]), some (Row.lst 25 3 [AV.agg [AV.int IntKind.i64 0, AV.str [], AV.nils]]), some (Row.lst 25 3 [AV.agg [AV.int IntKind.i64 (↑t_2.kind : Int), AV.str t_2.word, AV.sl true (x_2 + 15) 0 t_2.kids.length Cp.no]])] F') ∧ ∀ (a c_1 : Nat), parse (40 :: (((((s ++ [41, 124, 40])) ++ u)) ++ [41])) = PR.err a c_1 → ∀ (F' : Fz), Up F'_2 F' → bif (↑c : Int) != 0 then q Exit.ret (AV.bool false) F' else bif (↑c_1 : Int) != 0 then q Exit.ret (AV.bool false) F' else ∃ (t_2 : Tr), ∃ (x_2 : Nat), AV.agg [AV.int IntKind.i64 0, AV.str [], AV.nils] = AV.agg [AV.int IntKind.i64 (↑t_2.kind : Int), AV.str t_2.word, AV.sl true (x_2 + 15) 0 t_2.kids.length Cp.no] ∧ TAt F' t_2 x_2 ∧ NiceT t_2 ∧ ∀ (F'_3 : Fz), Up F' F'_3 → AV.agg [AV.int IntKind.i64 (↑t.kind : Int), AV.str t.word, AV.sl true (x + 15) 0 t.kids.length Cp.no] = AV.agg [AV.int IntKind.i64 (↑t.kind : Int), AV.str t.word, AV.sl true (x + 15) 0 t.kids.length Cp.no] ∧ ∃ (t_3 : Tr), ∃ (x_3 : Nat), AV.agg [AV.int IntKind.i64 (↑t.kind : Int), AV.str t.word, AV.sl true (x + 15) 0 t.kids.length Cp.no] = AV.agg [AV.int IntKind.i64 (↑t_3.kind : Int), AV.str t_3.word, AV.sl true (x_3 + 15) 0 t_3.kids.length Cp.no] ∧ TAt F'_3 t_3 x_3 ∧ NiceT t_3 ∧ ∀ (F' : Fz), Up F'_3 F' → bif !shw t_2 == shw t_3 then q Exit.ret (AV.bool false) F' else q Exit.ret (AV.bool false) F' else False else False else False else False else False else False) ∧ ∀ (a c : Nat), parse u = PR.err a c → ∀ (F' : Fz), Up F'_1 F' → bif (↑c : Int) != 0 then q Exit.ret (AV.bool true) F' else bif decide (IntKind.i64.wrap ((↑s.length : Int) + (↑u.length : Int)) > 251) then q Exit.ret (AV.bool true) F' else s.length.le 140737488351232 ∧ bif decide (mx s s.length > 14) then q Exit.ret (AV.bool true) F' else u.length.le 140737488351232 ∧ bif decide (mx u u.length > 14) then q Exit.ret (AV.bool true) F' else bif decide (1 + s.length ≤ 9223372036854775807) then bif decide ((40 :: s).length + 1 ≤ 9223372036854775807) then (∀ (t_1 : Tr), parse (40 :: (s ++ [41])) = PR.ok t_1 0 → ∀ (x_1 : Nat) (F'_2 : Fz), Up F' F'_2 → TAt F'_2 t_1 x_1 → bif decide (1 + s.length ≤ 9223372036854775807) then bif decide ((40 :: s).length + 3 ≤ 9223372036854775807) then bif decide ((40 :: (s ++ [41, 124, 40])).length + u.length ≤ 9223372036854775807) then bif decide ((40 :: (((s ++ [41, 124, 40])) ++ u)).length + 1 ≤ 9223372036854775807) then (∀ (t_2 : Tr), parse (40 :: (((((s ++ [41, 124, 40])) ++ u)) ++ [41])) = PR.ok t_2 0 → ∀ (x_2 : Nat) (F' : Fz), Up F'_2 F' → TAt F' t_2 x_2 → ∃ (t_3 : Tr), ∃ (x_3 : Nat), AV.agg [AV.int IntKind.i64 (↑t_1.kind : Int), AV.str t_1.word, AV.sl true (x_1 + 15) 0 t_1.kids.length Cp.no] = AV.agg [AV.int IntKind.i64 (↑t_3.kind : Int), AV.str t_3.word, AV.sl true (x_3 + 15) 0 t_3.kids.length Cp.no] ∧ TAt F' t_3 x_3 ∧ NiceT t_3 ∧ ∀ (F'_3 : Fz), Up F' F'_3 → AV.agg [AV.int IntKind.i64 (↑t.kind : Int), AV.str t.word, AV.sl true (x + 15) 0 t.kids.length Cp.no] = AV.agg [AV.int IntKind.i64 (↑t.kind : Int), AV.str t.word, AV.sl true (x + 15) 0 t.kids.length Cp.no] ∧ ∃ (t_4 : Tr), ∃ (x_4 : Nat), AV.agg [AV.int IntKind.i64 (↑t.kind : Int), AV.str t.word, AV.sl true (x + 15) 0 t.kids.length Cp.no] = AV.agg [AV.int IntKind.i64 (↑t_4.kind : Int), AV.str t_4.word, AV.sl true (x_4 + 15) 0 t_4.kids.length Cp.no] ∧ TAt F'_3 t_4 x_4 ∧ NiceT t_4 ∧ ∀ (F' : Fz), Up F'_3 F' → bif !shw t_3 == shw t_4 then q Exit.ret (AV.bool false) F' else bif (↑t_2.kind : Int) != 5 then q Exit.ret (AV.bool false) F' else bif (↑t_2.kids.length : Int) != 2 then q Exit.ret (AV.bool false) F' else kk 127 (AV.ptr false 0 0 0) (AV.ptr false 1 0 0) (AV.ptr false 3 0 0) [some (Row.lst 25 3 [AV.agg [AV.int IntKind.i64 (↑t.kind : Int), AV.str t.word, AV.sl true (x + 15) 0 t.kids.length Cp.no]]), some (Row.lst 25 3 [AV.agg [AV.int IntKind.i64 0, AV.str [], AV.nils]]), some (Row.lst 25 3 [AV.agg [AV.int IntKind.i64 (↑t_1.kind : Int), AV.str t_1.word, AV.sl true (x_1 + 15) 0 t_1.kids.length Cp.no]]), some (Row.lst 25 3 [AV.agg [AV.int IntKind.i64 (↑t_2.kind : Int), AV.str t_2.word, AV.sl true (x_2 + 15) 0 t_2.kids.length Cp.no]])] F') ∧ ∀ (a c : Nat), parse (40 :: (((((s ++ [41, 124, 40])) ++ u)) ++ [41])) = PR.err a c → ∀ (F' : Fz), Up F'_2 F' → bif (↑c : Int) != 0 then q Exit.ret (AV.bool false) F' else ∃ (t_2 : Tr), ∃ (x_2 : Nat), AV.agg [AV.int IntKind.i64 (↑t_1.kind : Int), AV.str t_1.word, AV.sl true (x_1 + 15) 0 t_1.kids.length Cp.no] = AV.agg [AV.int IntKind.i64 (↑t_2.kind : Int), AV.str t_2.word, AV.sl true (x_2 + 15) 0 t_2.kids.length Cp.no] ∧ TAt F' t_2 x_2 ∧ NiceT t_2 ∧ ∀ (F'_3 : Fz), Up F' F'_3 → AV.agg [AV.int IntKind.i64 (↑t.kind : Int), AV.str t.word, AV.sl true (x + 15) 0 t.kids.length Cp.no] = AV.agg [AV.int IntKind.i64 (↑t.kind : Int), AV.str t.word, AV.sl true (x + 15) 0 t.kids.length Cp.no] ∧ ∃ (t_3 : Tr), ∃ (x_3 : Nat), AV.agg [AV.int IntKind.i64 (↑t.kind : Int), AV.str t.word, AV.sl true (x + 15) 0 t.kids.length Cp.no] = AV.agg [AV.int IntKind.i64 (↑t_3.kind : Int), AV.str t_3.word, AV.sl true (x_3 + 15) 0 t_3.kids.length Cp.no] ∧ TAt F'_3 t_3 x_3 ∧ NiceT t_3 ∧ ∀ (F' : Fz), Up F'_3 F' → bif !shw t_2 == shw t_3 then q Exit.ret (AV.bool false) F' else q Exit.ret (AV.bool false) F' else False else False else False else False) ∧ ∀ (a c : Nat), parse (40 :: (s ++ [41])) = PR.err a c → ∀ (F'_2 : Fz), Up F' F'_2 → bif decide (1 + s.length ≤ 9223372036854775807) then bif decide ((40 :: s).length + 3 ≤ 9223372036854775807) then bif decide ((40 :: (s ++ [41, 124, 40])).length + u.length ≤ 9223372036854775807) then bif decide ((40 :: (((s ++ [41, 124, 40])) ++ u)).length + 1 ≤ 9223372036854775807) then (∀ (t_1 : Tr), parse (40 :: (((((s ++ [41, 124, 40])) ++ u)) ++ [41])) = PR.ok t_1 0 → ∀ (x_1 : Nat) (F' : Fz), Up F'_2 F' → TAt F' t_1 x_1 → bif (↑c : Int) != 0 then q Exit.ret (AV.bool false) F' else ∃ (t_2 : Tr), ∃ (x_2 : Nat), AV.agg [AV.int IntKind.i64 0, AV.str [], AV.nils] = AV.agg [AV.int IntKind.i64 (↑t_2.kind : Int), AV.str t_2.word, AV.sl true (x_2 + 15) 0 t_2.kids.length Cp.no] ∧ TAt F' t_2 x_2 ∧ NiceT t_2 ∧ ∀ (F'_3 : Fz), Up F' F'_3 → AV.agg [AV.int IntKind.i64 (↑t.kind : Int), AV.str t.word, AV.sl true (x + 15) 0 t.kids.length Cp.no] = AV.agg [AV.int IntKind.i64 (↑t.kind : Int), AV.str t.word, AV.sl true (x + 15) 0 t.kids.length Cp.no] ∧ ∃ (t_3 : Tr), ∃ (x_3 : Nat), AV.agg [AV.int IntKind.i64 (↑t.kind : Int), AV.str t.word, AV.sl true (x + 15) 0 t.kids.length Cp.no] = AV.agg [AV.int IntKind.i64 (↑t_3.kind : Int), AV.str t_3.word, AV.sl true (x_3 + 15) 0 t_3.kids.length Cp.no] ∧ TAt F'_3 t_3 x_3 ∧ NiceT t_3 ∧ ∀ (F' : Fz), Up F'_3 F' → bif !shw t_2 == shw t_3 then q Exit.ret (AV.bool false) F' else bif (↑t_1.kind : Int) != 5 then q Exit.ret (AV.bool false) F' else bif (↑t_1.kids.length : Int) != 2 then q Exit.ret (AV.bool false) F' else kk 127 (AV.ptr false 0 0 0) (AV.ptr false 1 0 0) (AV.ptr false 3 0 0) [some (Row.lst 25 3 [AV.agg [AV.int IntKind.i64 (↑t.kind : Int), AV.str t.word, AV.sl true (x + 15) 0 t.kids.length Cp.no]]), some (Row.lst 25 3 [AV.agg [AV.int IntKind.i64 0, AV.str [], AV.nils]]), some (Row.lst 25 3 [AV.agg [AV.int IntKind.i64 0, AV.str [], AV.nils]]), some (Row.lst 25 3 [AV.agg [AV.int IntKind.i64 (↑t_1.kind : Int), AV.str t_1.word, AV.sl true (x_1 + 15) 0 t_1.kids.length Cp.no]])] F') ∧ ∀ (a c_1 : Nat), parse (40 :: (((((s ++ [41, 124, 40])) ++ u)) ++ [41])) = PR.err a c_1 → ∀ (F' : Fz), Up F'_2 F' → bif (↑c : Int) != 0 then q Exit.ret (AV.bool false) F' else bif (↑c_1 : Int) != 0 then q Exit.ret (AV.bool false) F' else ∃ (t_1 : Tr), ∃ (x_1 : Nat), AV.agg [AV.int IntKind.i64 0, AV.str [], AV.nils] = AV.agg [AV.int IntKind.i64 (↑t_1.kind : Int), AV.str t_1.word, AV.sl true (x_1 + 15) 0 t_1.kids.length Cp.no] ∧ TAt F' t_1 x_1 ∧ NiceT t_1 ∧ ∀ (F'_3 : Fz), Up F' F'_3 → AV.agg [AV.int IntKind.i64 (↑t.kind : Int), AV.str t.word, AV.sl true (x + 15) 0 t.kids.length Cp.no] = AV.agg [AV.int IntKind.i64 (↑t.kind : Int), AV.str t.word, AV.sl true (x + 15) 0 t.kids.length Cp.no] ∧ ∃ (t_2 : Tr), ∃ (x_2 : Nat), AV.agg [AV.int IntKind.i64 (↑t.kind : Int), AV.str t.word, AV.sl true (x + 15) 0 t.kids.length Cp.no] = AV.agg [AV.int IntKind.i64 (↑t_2.kind : Int), AV.str t_2.word, AV.sl true (x_2 + 15) 0 t_2.kids.length Cp.no] ∧ TAt F'_3 t_2 x_2 ∧ NiceT t_2 ∧ ∀ (F' : Fz), Up F'_3 F' → bif !shw t_1 == shw t_2 then q Exit.ret (AV.bool false) F' else q Exit.ret (AV.bool false) F' else False else False else False else False else False else False) ∧ ∀ (a c : Nat), parse s = PR.err a c → ∀ (F'_1 : Fz), Up F' F'_1 → (∀ (t : Tr), parse u = PR.ok t 0 → ∀ (x : Nat) (F' : Fz), Up F'_1 F' → TAt F' t x → bif (↑c : Int) != 0 then q Exit.ret (AV.bool true) F' else bif decide (IntKind.i64.wrap ((↑s.length : Int) + (↑u.length : Int)) > 251) then q Exit.ret (AV.bool true) F' else s.length.le 140737488351232 ∧ bif decide (mx s s.length > 14) then q Exit.ret (AV.bool true) F' else u.length.le 140737488351232 ∧ bif decide (mx u u.length > 14) then q Exit.ret (AV.bool true) F' else bif decide (1 + s.length ≤ 9223372036854775807) then bif decide ((40 :: s).length + 1 ≤ 9223372036854775807) then (∀ (t_1 : Tr), parse (40 :: (s ++ [41])) = PR.ok t_1 0 → ∀ (x_1 : Nat) (F'_2 : Fz), Up F' F'_2 → TAt F'_2 t_1 x_1 → bif decide (1 + s.length ≤ 9223372036854775807) then bif decide ((40 :: s).length + 3 ≤ 9223372036854775807) then bif decide ((40 :: (s ++ [41, 124, 40])).length + u.length ≤ 9223372036854775807) then bif decide ((40 :: (((s ++ [41, 124, 40])) ++ u)).length + 1 ≤ 9223372036854775807) then (∀ (t_2 : Tr), parse (40 :: (((((s ++ [41, 124, 40])) ++ u)) ++ [41])) = PR.ok t_2 0 → ∀ (x_2 : Nat) (F' : Fz), Up F'_2 F' → TAt F' t_2 x_2 → ∃ (t_3 : Tr), ∃ (x_3 : Nat), AV.agg [AV.int IntKind.i64 (↑t_1.kind : Int), AV.str t_1.word, AV.sl true (x_1 + 15) 0 t_1.kids.length Cp.no] = AV.agg [AV.int IntKind.i64 (↑t_3.kind : Int), AV.str t_3.word, AV.sl true (x_3 + 15) 0 t_3.kids.length Cp.no] ∧ TAt F' t_3 x_3 ∧ NiceT t_3 ∧ ∀ (F'_3 : Fz), Up F' F'_3 → AV.agg [AV.int IntKind.i64 0, AV.str [], AV.nils] = AV.agg [AV.int IntKind.i64 0, AV.str [], AV.nils] ∧ ∃ (t_4 : Tr), ∃ (x_4 : Nat), AV.agg [AV.int IntKind.i64 0, AV.str [], AV.nils] = AV.agg [AV.int IntKind.i64 (↑t_4.kind : Int), AV.str t_4.word, AV.sl true (x_4 + 15) 0 t_4.kids.length Cp.no] ∧ TAt F'_3 t_4 x_4 ∧ NiceT t_4 ∧ ∀ (F' : Fz), Up F'_3 F' → bif !shw t_3 == shw t_4 then q Exit.ret (AV.bool false) F' else bif (↑t_2.kind : Int) != 5 then q Exit.ret (AV.bool false) F' else bif (↑t_2.kids.length : Int) != 2 then q Exit.ret (AV.bool false) F' else kk 127 (AV.ptr false 0 0 0) (AV.ptr false 1 0 0) (AV.ptr false 3 0 0) [some (Row.lst 25 3 [AV.agg [AV.int IntKind.i64 0, AV.str [], AV.nils]]), some (Row.lst 25 3 [AV.agg [AV.int IntKind.i64 (↑t.kind : Int), AV.str t.word, AV.sl true (x + 15) 0 t.kids.length Cp.no]]), some (Row.lst 25 3 [AV.agg [AV.int IntKind.i64 (↑t_1.kind : Int), AV.str t_1.word, AV.sl true (x_1 + 15) 0 t_1.kids.length Cp.no]]), some (Row.lst 25 3 [AV.agg [AV.int IntKind.i64 (↑t_2.kind : Int), AV.str t_2.word, AV.sl true (x_2 + 15) 0 t_2.kids.length Cp.no]])] F') ∧ ∀ (a c : Nat), parse (40 :: (((((s ++ [41, 124, 40])) ++ u)) ++ [41])) = PR.err a c → ∀ (F' : Fz), Up F'_2 F' → bif (↑c : Int) != 0 then q Exit.ret (AV.bool false) F' else ∃ (t : Tr), ∃ (x : Nat), AV.agg [AV.int IntKind.i64 (↑t_1.kind : Int), AV.str t_1.word, AV.sl true (x_1 + 15) 0 t_1.kids.length Cp.no] = AV.agg [AV.int IntKind.i64 (↑t.kind : Int), AV.str t.word, AV.sl true (x + 15) 0 t.kids.length Cp.no] ∧ TAt F' t x ∧ NiceT t ∧ ∀ (F'_3 : Fz), Up F' F'_3 → AV.agg [AV.int IntKind.i64 0, AV.str [], AV.nils] = AV.agg [AV.int IntKind.i64 0, AV.str [], AV.nils] ∧ ∃ (t_2 : Tr), ∃ (x : Nat), AV.agg [AV.int IntKind.i64 0, AV.str [], AV.nils] = AV.agg [AV.int IntKind.i64 (↑t_2.kind : Int), AV.str t_2.word, AV.sl true (x + 15) 0 t_2.kids.length Cp.no] ∧ TAt F'_3 t_2 x ∧ NiceT t_2 ∧ ∀ (F' : Fz), Up F'_3 F' → bif !shw t == shw t_2 then q Exit.ret (AV.bool false) F' else q Exit.ret (AV.bool false) F' else False else False else False else False) ∧ ∀ (a c : Nat), parse (40 :: (s ++ [41])) = PR.err a c → ∀ (F'_2 : Fz), Up F' F'_2 → bif decide (1 + s.length ≤ 9223372036854775807) then bif decide ((40 :: s).length + 3 ≤ 9223372036854775807) then bif decide ((40 :: (s ++ [41, 124, 40])).length + u.length ≤ 9223372036854775807) then bif decide ((40 :: (((s ++ [41, 124, 40])) ++ u)).length + 1 ≤ 9223372036854775807) then (∀ (t_1 : Tr), parse (40 :: (((((s ++ [41, 124, 40])) ++ u)) ++ [41])) = PR.ok t_1 0 → ∀ (x_1 : Nat) (F' : Fz), Up F'_2 F' → TAt F' t_1 x_1 → bif (↑c : Int) != 0 then q Exit.ret (AV.bool false) F' else ∃ (t_2 : Tr), ∃ (x_2 : Nat), AV.agg [AV.int IntKind.i64 0, AV.str [], AV.nils] = AV.agg [AV.int IntKind.i64 (↑t_2.kind : Int), AV.str t_2.word, AV.sl true (x_2 + 15) 0 t_2.kids.length Cp.no] ∧ TAt F' t_2 x_2 ∧ NiceT t_2 ∧ ∀ (F'_3 : Fz), Up F' F'_3 → AV.agg [AV.int IntKind.i64 0, AV.str [], AV.nils] = AV.agg [AV.int IntKind.i64 0, AV.str [], AV.nils] ∧ ∃ (t_3 : Tr), ∃ (x_3 : Nat), AV.agg [AV.int IntKind.i64 0, AV.str [], AV.nils] = AV.agg [AV.int IntKind.i64 (↑t_3.kind : Int), AV.str t_3.word, AV.sl true (x_3 + 15) 0 t_3.kids.length Cp.no] ∧ TAt F'_3 t_3 x_3 ∧ NiceT t_3 ∧ ∀ (F' : Fz), Up F'_3 F' → bif !shw t_2 == shw t_3 then q Exit.ret (AV.bool false) F' else bif (↑t_1.kind : Int) != 5 then q Exit.ret (AV.bool false) F' else bif (↑t_1.kids.length : Int) != 2 then q Exit.ret (AV.bool false) F' else kk 127 (AV.ptr false 0 0 0) (AV.ptr false 1 0 0) (AV.ptr false 3 0 0) [some (Row.lst 25 3 [AV.agg [AV.int IntKind.i64 0, AV.str [], AV.nils]]), some (Row.lst 25 3 [AV.agg [AV.int IntKind.i64 (↑t.kind : Int), AV.str t.word, AV.sl true (x + 15) 0 t.kids.length Cp.no]]), some (Row.lst 25 3 [AV.agg [AV.int IntKind.i64 0, AV.str [], AV.nils]]), some (Row.lst 25 3 [AV.agg [AV.int IntKind.i64 (↑t_1.kind : Int), AV.str t_1.word, AV.sl true (x_1 + 15) 0 t_1.kids.length Cp.no]])] F') ∧ ∀ (a c_1 : Nat), parse (40 :: (((((s ++ [41, 124, 40])) ++ u)) ++ [41])) = PR.err a c_1 → ∀ (F' : Fz), Up F'_2 F' → bif (↑c : Int) != 0 then q Exit.ret (AV.bool false) F' else bif (↑c_1 : Int) != 0 then q Exit.ret (AV.bool false) F' else ∃ (t : Tr), ∃ (x : Nat), AV.agg [AV.int IntKind.i64 0, AV.str [], AV.nils] = AV.agg [AV.int IntKind.i64 (↑t.kind : Int), AV.str t.word, AV.sl true (x + 15) 0 t.kids.length Cp.no] ∧ TAt F' t x ∧ NiceT t ∧ ∀ (F'_3 : Fz), Up F' F'_3 → AV.agg [AV.int IntKind.i64 0, AV.str [], AV.nils] = AV.agg [AV.int IntKind.i64 0, AV.str [], AV.nils] ∧ ∃ (t_1 : Tr), ∃ (x : Nat), AV.agg [AV.int IntKind.i64 0, AV.str [], AV.nils] = AV.agg [AV.int IntKind.i64 (↑t_1.kind : Int), AV.str t_1.word, AV.sl true (x + 15) 0 t_1.kids.length Cp.no] ∧ TAt F'_3 t_1 x ∧ NiceT t_1 ∧ ∀ (F' : Fz), Up F'_3 F' → bif !shw t == shw t_1 then q Exit.ret (AV.bool false) F' else q Exit.ret (AV.bool false) F' else False else False else False else False else False else False) ∧ ∀ (a c_1 : Nat), parse u = PR.err a c_1 → ∀ (F' : Fz), Up F'_1 F' → bif (↑c : Int) != 0 then q Exit.ret (AV.bool true) F' else bif (↑c_1 : Int) != 0 then q Exit.ret (AV.bool true) F' else bif decide (IntKind.i64.wrap ((↑s.length : Int) + (↑u.length : Int)) > 251) then q Exit.ret (AV.bool true) F' else s.length.le 140737488351232 ∧ bif decide (mx s s.length > 14) then q Exit.ret (AV.bool true) F' else u.length.le 140737488351232 ∧ bif decide (mx u u.length > 14) then q Exit.ret (AV.bool true) F' else bif decide (1 + s.length ≤ 9223372036854775807) then bif decide ((40 :: s).length + 1 ≤ 9223372036854775807) then (∀ (t : Tr), parse (40 :: (s ++ [41])) = PR.ok t 0 → ∀ (x : Nat) (F'_2 : Fz), Up F' F'_2 → TAt F'_2 t x → bif decide (1 + s.length ≤ 9223372036854775807) then bif decide ((40 :: s).length + 3 ≤ 9223372036854775807) then bif decide ((40 :: (s ++ [41, 124, 40])).length + u.length ≤ 9223372036854775807) then bif decide ((40 :: (((s ++ [41, 124, 40])) ++ u)).length + 1 ≤ 9223372036854775807) then (∀ (t_1 : Tr), parse (40 :: (((((s ++ [41, 124, 40])) ++ u)) ++ [41])) = PR.ok t_1 0 → ∀ (x_1 : Nat) (F' : Fz), Up F'_2 F' → TAt F' t_1 x_1 → ∃ (t_2 : Tr), ∃ (x_2 : Nat), AV.agg [AV.int IntKind.i64 (↑t.kind : Int), AV.str t.word, AV.sl true (x + 15) 0 t.kids.length Cp.no] = AV.agg [AV.int IntKind.i64 (↑t_2.kind : Int), AV.str t_2.word, AV.sl true (x_2 + 15) 0 t_2.kids.length Cp.no] ∧ TAt F' t_2 x_2 ∧ NiceT t_2 ∧ ∀ (F'_3 : Fz), Up F' F'_3 → AV.agg [AV.int IntKind.i64 0, AV.str [], AV.nils] = AV.agg [AV.int IntKind.i64 0, AV.str [], AV.nils] ∧ ∃ (t_3 : Tr), ∃ (x_3 : Nat), AV.agg [AV.int IntKind.i64 0, AV.str [], AV.nils] = AV.agg [AV.int IntKind.i64 (↑t_3.kind : Int), AV.str t_3.word, AV.sl true (x_3 + 15) 0 t_3.kids.length Cp.no] ∧ TAt F'_3 t_3 x_3 ∧ NiceT t_3 ∧ ∀ (F' : Fz), Up F'_3 F' → bif !shw t_2 == shw t_3 then q Exit.ret (AV.bool false) F' else bif (↑t_1.kind : Int) != 5 then q Exit.ret (AV.bool false) F' else bif (↑t_1.kids.length : Int) != 2 then q Exit.ret (AV.bool false) F' else kk 127 (AV.ptr false 0 0 0) (AV.ptr false 1 0 0) (AV.ptr false 3 0 0) [some (Row.lst 25 3 [AV.agg [AV.int IntKind.i64 0, AV.str [], AV.nils]]), some (Row.lst 25 3 [AV.agg [AV.int IntKind.i64 0, AV.str [], AV.nils]]), some (Row.lst 25 3 [AV.agg [AV.int IntKind.i64 (↑t.kind : Int), AV.str t.word, AV.sl true (x + 15) 0 t.kids.length Cp.no]]), some (Row.lst 25 3 [AV.agg [AV.int IntKind.i64 (↑t_1.kind : Int), AV.str t_1.word, AV.sl true (x_1 + 15) 0 t_1.kids.length Cp.no]])] F') ∧ ∀ (a c : Nat), parse (40 :: (((((s ++ [41, 124, 40])) ++ u)) ++ [41])) = PR.err a c → ∀ (F' : Fz), Up F'_2 F' → bif (↑c : Int) != 0 then q Exit.ret (AV.bool false) F' else ∃ (t_1 : Tr), ∃ (x_1 : Nat), AV.agg [AV.int IntKind.i64 (↑t.kind : Int), AV.str t.word, AV.sl true (x + 15) 0 t.kids.length Cp.no] = AV.agg [AV.int IntKind.i64 (↑t_1.kind : Int), AV.str t_1.word, AV.sl true (x_1 + 15) 0 t_1.kids.length Cp.no] ∧ TAt F' t_1 x_1 ∧ NiceT t_1 ∧ ∀ (F'_3 : Fz), Up F' F'_3 → AV.agg [AV.int IntKind.i64 0, AV.str [], AV.nils] = AV.agg [AV.int IntKind.i64 0, AV.str [], AV.nils] ∧ ∃ (t : Tr), ∃ (x : Nat), AV.agg [AV.int IntKind.i64 0, AV.str [], AV.nils] = AV.agg [AV.int IntKind.i64 (↑t.kind : Int), AV.str t.word, AV.sl true (x + 15) 0 t.kids.length Cp.no] ∧ TAt F'_3 t x ∧ NiceT t ∧ ∀ (F' : Fz), Up F'_3 F' → bif !shw t_1 == shw t then q Exit.ret (AV.bool false) F' else q Exit.ret (AV.bool false) F' else False else False else False else False) ∧ ∀ (a c : Nat), parse (40 :: (s ++ [41])) = PR.err a c → ∀ (F'_2 : Fz), Up F' F'_2 → bif decide (1 + s.length ≤ 9223372036854775807) then bif decide ((40 :: s).length + 3 ≤ 9223372036854775807) then bif decide ((40 :: (s ++ [41, 124, 40])).length + u.length ≤ 9223372036854775807) then bif decide ((40 :: (((s ++ [41, 124, 40])) ++ u)).length + 1 ≤ 9223372036854775807) then (∀ (t : Tr), parse (40 :: (((((s ++ [41, 124, 40])) ++ u)) ++ [41])) = PR.ok t 0 → ∀ (x : Nat) (F' : Fz), Up F'_2 F' → TAt F' t x → bif (↑c : Int) != 0 then q Exit.ret (AV.bool false) F' else ∃ (t_1 : Tr), ∃ (x_1 : Nat), AV.agg [AV.int IntKind.i64 0, AV.str [], AV.nils] = AV.agg [AV.int IntKind.i64 (↑t_1.kind : Int), AV.str t_1.word, AV.sl true (x_1 + 15) 0 t_1.kids.length Cp.no] ∧ TAt F' t_1 x_1 ∧ NiceT t_1 ∧ ∀ (F'_3 : Fz), Up F' F'_3 → AV.agg [AV.int IntKind.i64 0, AV.str [], AV.nils] = AV.agg [AV.int IntKind.i64 0, AV.str [], AV.nils] ∧ ∃ (t_2 : Tr), ∃ (x_2 : Nat), AV.agg [AV.int IntKind.i64 0, AV.str [], AV.nils] = AV.agg [AV.int IntKind.i64 (↑t_2.kind : Int), AV.str t_2.word, AV.sl true (x_2 + 15) 0 t_2.kids.length Cp.no] ∧ TAt F'_3 t_2 x_2 ∧ NiceT t_2 ∧ ∀ (F' : Fz), Up F'_3 F' → bif !shw t_1 == shw t_2 then q Exit.ret (AV.bool false) F' else bif (↑t.kind : Int) != 5 then q Exit.ret (AV.bool false) F' else bif (↑t.kids.length : Int) != 2 then q Exit.ret (AV.bool false) F' else kk 127 (AV.ptr false 0 0 0) (AV.ptr false 1 0 0) (AV.ptr false 3 0 0) [some (Row.lst 25 3 [AV.agg [AV.int IntKind.i64 0, AV.str [], AV.nils]]), some (Row.lst 25 3 [AV.agg [AV.int IntKind.i64 0, AV.str [], AV.nils]]), some (Row.lst 25 3 [AV.agg [AV.int IntKind.i64 0, AV.str [], AV.nils]]), some (Row.lst 25 3 [AV.agg [AV.int IntKind.i64 (↑t.kind : Int), AV.str t.word, AV.sl true (x + 15) 0 t.kids.length Cp.no]])] F') ∧ ∀ (a c_2 : Nat), parse (40 :: (((((s ++ [41, 124, 40])) ++ u)) ++ [41])) = PR.err a c_2 → ∀ (F' : Fz), Up F'_2 F' → bif (↑c : Int) != 0 then q Exit.ret (AV.bool false) F' else bif (↑c_2 : Int) != 0 then q Exit.ret (AV.bool false) F' else ∃ (t : Tr), ∃ (x : Nat), AV.agg [AV.int IntKind.i64 0, AV.str [], AV.nils] = AV.agg [AV.int IntKind.i64 (↑t.kind : Int), AV.str t.word, AV.sl true (x + 15) 0 t.kids.length Cp.no] ∧ TAt F' t x ∧ NiceT t ∧ ∀ (F'_3 : Fz), Up F' F'_3 → AV.agg [AV.int IntKind.i64 0, AV.str [], AV.nils] = AV.agg [AV.int IntKind.i64 0, AV.str [], AV.nils] ∧ ∃ (t_1 : Tr), ∃ (x : Nat), AV.agg [AV.int IntKind.i64 0, AV.str [], AV.nils] = AV.agg [AV.int IntKind.i64 (↑t_1.kind : Int), AV.str t_1.word, AV.sl true (x + 15) 0 t_1.kids.length Cp.no] ∧ TAt F'_3 t_1 x ∧ NiceT t_1 ∧ ∀ (F' : Fz), Up F'_3 F' → bif !shw t == shw t_1 then q Exit.ret (AV.bool false) F' else q Exit.ret (AV.bool false) F' else False else False else False else False else False else False) := by kernel_rfl
end Go.Dc.Ke
end
