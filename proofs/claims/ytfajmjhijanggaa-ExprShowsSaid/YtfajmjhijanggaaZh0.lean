/- Expressions: Show. -/
import Derived.Test.YtfajmjhijanggaaP0
import Derived.Test.YtfajmjhijanggaaDcXh
section
set_option linter.unusedVariables false
set_option linter.unusedSimpArgs false
namespace Go.Dc.Ke
open Go.Proofs Go.RowKit Go.Shelf
set_option maxRecDepth 100000
theorem vc13_0 (R : Nat → RoRow) (w : List UInt8) (kids : List Tr) (x : Nat) (k : AV → Fz → Prop) (F : Fz) : vcx (env13 R (.mk 0 w kids) x) 1000 13 fi13 [exprV (.mk 0 w kids) x] [] (fun v _ => k v) F = (k (AV.str [40, 41]) F) := by kernel_rfl
theorem vc13_1 (R : Nat → RoRow) (w : List UInt8) (kids : List Tr) (x : Nat) (k : AV → Fz → Prop) (F : Fz) : vcx (env13 R (.mk 1 w kids) x) 1000 13 fi13 [exprV (.mk 1 w kids) x] [] (fun v _ => k v) F = (k (AV.str (Tr.mk 1 w kids).word) F) := by kernel_rfl
theorem vc13_2 (R : Nat → RoRow) (w : List UInt8) (kids : List Tr) (x : Nat) (k : AV → Fz → Prop) (F : Fz) : vcx (env13 R (.mk 2 w kids) x) 1000 13 fi13 [exprV (.mk 2 w kids) x] [] (fun v _ => k v) F = (bif decide (1 + w.length ≤ 9223372036854775807) then k (.str (64 :: w)) F else False) := by kernel_rfl
theorem vc13_3 (R : Nat → RoRow) (w : List UInt8) (kids : List Tr) (x : Nat) (k : AV → Fz → Prop) (F : Fz) : vcx (env13 R (.mk 3 w kids) x) 1000 13 fi13 [exprV (.mk 3 w kids) x] [] (fun v _ => k v) F = (k (AV.str [35, 116, 101, 120, 116]) F) := by kernel_rfl
theorem vc13_4 (R : Nat → RoRow) (w : List UInt8) (kids : List Tr) (x : Nat) (k : AV → Fz → Prop) (F : Fz) : vcx (env13 R (.mk 4 w kids) x) 1000 13 fi13 [exprV (.mk 4 w kids) x] [] (fun v _ => k v) F = (AV.agg [AV.int IntKind.i64 4, AV.str (Tr.mk 4 w kids).word, AV.sl true (x + 15) 0 (Tr.mk 4 w kids).kids.length Cp.no] = AV.agg [AV.int IntKind.i64 4, AV.str (Tr.mk 4 w kids).word, AV.sl true (x + 15) 0 (Tr.mk 4 w kids).kids.length Cp.no] ∧ TAt F (Tr.mk 4 w kids) x ∧ ∃ (K : List Int), LRow [some (Row.lst 25 3 [AV.agg [AV.int IntKind.i64 4, AV.str (Tr.mk 4 w kids).word, AV.sl true (x + 15) 0 (Tr.mk 4 w kids).kids.length Cp.no]]), some (Row.lst 3 1 [AV.int IntKind.i64 4, AV.int IntKind.i64 5, AV.int IntKind.i64 6])] 1 3 K ∧ JLen (Tr.mk 4 w kids) K [32] ∧ ∀ (F' : Fz), Up F F' → k (AV.str (jn (Tr.mk 4 w kids) K [32])) F') := by kernel_rfl
theorem vc13_5 (R : Nat → RoRow) (w : List UInt8) (kids : List Tr) (x : Nat) (k : AV → Fz → Prop) (F : Fz) : vcx (env13 R (.mk 5 w kids) x) 1000 13 fi13 [exprV (.mk 5 w kids) x] [] (fun v _ => k v) F = (AV.agg [AV.int IntKind.i64 5, AV.str (Tr.mk 5 w kids).word, AV.sl true (x + 15) 0 (Tr.mk 5 w kids).kids.length Cp.no] = AV.agg [AV.int IntKind.i64 5, AV.str (Tr.mk 5 w kids).word, AV.sl true (x + 15) 0 (Tr.mk 5 w kids).kids.length Cp.no] ∧ TAt F (Tr.mk 5 w kids) x ∧ ∃ (K : List Int), LRow [some (Row.lst 25 3 [AV.agg [AV.int IntKind.i64 5, AV.str (Tr.mk 5 w kids).word, AV.sl true (x + 15) 0 (Tr.mk 5 w kids).kids.length Cp.no]]), some (Row.lst 3 1 [AV.int IntKind.i64 5])] 1 1 K ∧ JLen (Tr.mk 5 w kids) K [124] ∧ ∀ (F' : Fz), Up F F' → k (AV.str (jn (Tr.mk 5 w kids) K [124])) F') := by kernel_rfl
theorem vc13_6 (R : Nat → RoRow) (w : List UInt8) (kids : List Tr) (x : Nat) (k : AV → Fz → Prop) (F : Fz) : vcx (env13 R (.mk 6 w kids) x) 1000 13 fi13 [exprV (.mk 6 w kids) x] [] (fun v _ => k v) F = (AV.agg [AV.int IntKind.i64 6, AV.str (Tr.mk 6 w kids).word, AV.sl true (x + 15) 0 (Tr.mk 6 w kids).kids.length Cp.no] = AV.agg [AV.int IntKind.i64 6, AV.str (Tr.mk 6 w kids).word, AV.sl true (x + 15) 0 (Tr.mk 6 w kids).kids.length Cp.no] ∧ TAt F (Tr.mk 6 w kids) x ∧ ∃ (K : List Int), LRow [some (Row.lst 25 3 [AV.agg [AV.int IntKind.i64 6, AV.str (Tr.mk 6 w kids).word, AV.sl true (x + 15) 0 (Tr.mk 6 w kids).kids.length Cp.no]]), some (Row.lst 3 1 [AV.int IntKind.i64 6, AV.int IntKind.i64 5])] 1 2 K ∧ JLen (Tr.mk 6 w kids) K [38] ∧ ∀ (F' : Fz), Up F F' → k (AV.str (jn (Tr.mk 6 w kids) K [38])) F') := by kernel_rfl
theorem vc13_7 (R : Nat → RoRow) (w : List UInt8) (kids : List Tr) (x : Nat) (k : AV → Fz → Prop) (F : Fz) : vcx (env13 R (.mk 7 w kids) x) 1000 13 fi13 [exprV (.mk 7 w kids) x] [] (fun v _ => k v) F = (AV.str [42] = AV.str [42] ∧ AV.int IntKind.i64 7 = AV.int IntKind.i64 7 ∧ AV.int IntKind.i64 7 = AV.int IntKind.i64 7 ∧ AV.agg [AV.int IntKind.i64 7, AV.str (Tr.mk 7 w kids).word, AV.sl true (x + 15) 0 (Tr.mk 7 w kids).kids.length Cp.no] = AV.agg [AV.int IntKind.i64 7, AV.str (Tr.mk 7 w kids).word, AV.sl true (x + 15) 0 (Tr.mk 7 w kids).kids.length Cp.no] ∧ AV.agg [AV.int IntKind.i64 7, AV.str (Tr.mk 7 w kids).word, AV.sl true (x + 15) 0 (Tr.mk 7 w kids).kids.length Cp.no] = AV.agg [AV.int IntKind.i64 7, AV.str (Tr.mk 7 w kids).word, AV.sl true (x + 15) 0 (Tr.mk 7 w kids).kids.length Cp.no] ∧ TAt F (Tr.mk 7 w kids) x ∧ ∃ (K : List Int), LRow [some (Row.lst 25 3 [AV.agg [AV.int IntKind.i64 7, AV.str (Tr.mk 7 w kids).word, AV.sl true (x + 15) 0 (Tr.mk 7 w kids).kids.length Cp.no]]), some (Row.lst 3 1 [AV.int IntKind.i64 4, AV.int IntKind.i64 5, AV.int IntKind.i64 6])] 1 3 K ∧ JLen (Tr.mk 7 w kids) K [] ∧ ∀ (F' : Fz), Up F F' → AV.str [42] = AV.str [42] ∧ AV.int IntKind.i64 7 = AV.int IntKind.i64 7 ∧ AV.int IntKind.i64 7 = AV.int IntKind.i64 7 ∧ bif decide ((jn (Tr.mk 7 w kids) K []).length + 1 ≤ 9223372036854775807) then k (AV.str (jn (Tr.mk 7 w kids) K [] ++ [42])) F' else False) := by kernel_rfl
theorem vc13_8 (R : Nat → RoRow) (w : List UInt8) (kids : List Tr) (x : Nat) (k : AV → Fz → Prop) (F : Fz) : vcx (env13 R (.mk 8 w kids) x) 1000 13 fi13 [exprV (.mk 8 w kids) x] [] (fun v _ => k v) F = (AV.str [43] = AV.str [43] ∧ AV.int IntKind.i64 8 = AV.int IntKind.i64 8 ∧ AV.int IntKind.i64 8 = AV.int IntKind.i64 8 ∧ AV.agg [AV.int IntKind.i64 8, AV.str (Tr.mk 8 w kids).word, AV.sl true (x + 15) 0 (Tr.mk 8 w kids).kids.length Cp.no] = AV.agg [AV.int IntKind.i64 8, AV.str (Tr.mk 8 w kids).word, AV.sl true (x + 15) 0 (Tr.mk 8 w kids).kids.length Cp.no] ∧ AV.agg [AV.int IntKind.i64 8, AV.str (Tr.mk 8 w kids).word, AV.sl true (x + 15) 0 (Tr.mk 8 w kids).kids.length Cp.no] = AV.agg [AV.int IntKind.i64 8, AV.str (Tr.mk 8 w kids).word, AV.sl true (x + 15) 0 (Tr.mk 8 w kids).kids.length Cp.no] ∧ TAt F (Tr.mk 8 w kids) x ∧ ∃ (K : List Int), LRow [some (Row.lst 25 3 [AV.agg [AV.int IntKind.i64 8, AV.str (Tr.mk 8 w kids).word, AV.sl true (x + 15) 0 (Tr.mk 8 w kids).kids.length Cp.no]]), some (Row.lst 3 1 [AV.int IntKind.i64 4, AV.int IntKind.i64 5, AV.int IntKind.i64 6])] 1 3 K ∧ JLen (Tr.mk 8 w kids) K [] ∧ ∀ (F' : Fz), Up F F' → AV.str [43] = AV.str [43] ∧ AV.int IntKind.i64 8 = AV.int IntKind.i64 8 ∧ AV.int IntKind.i64 8 = AV.int IntKind.i64 8 ∧ bif decide ((jn (Tr.mk 8 w kids) K []).length + 1 ≤ 9223372036854775807) then k (AV.str (jn (Tr.mk 8 w kids) K [] ++ [43])) F' else False) := by kernel_rfl
theorem vc13_9 (R : Nat → RoRow) (w : List UInt8) (kids : List Tr) (x : Nat) (k : AV → Fz → Prop) (F : Fz) : vcx (env13 R (.mk 9 w kids) x) 1000 13 fi13 [exprV (.mk 9 w kids) x] [] (fun v _ => k v) F = (AV.str [63] = AV.str [63] ∧ AV.int IntKind.i64 9 = AV.int IntKind.i64 9 ∧ AV.int IntKind.i64 9 = AV.int IntKind.i64 9 ∧ AV.agg [AV.int IntKind.i64 9, AV.str (Tr.mk 9 w kids).word, AV.sl true (x + 15) 0 (Tr.mk 9 w kids).kids.length Cp.no] = AV.agg [AV.int IntKind.i64 9, AV.str (Tr.mk 9 w kids).word, AV.sl true (x + 15) 0 (Tr.mk 9 w kids).kids.length Cp.no] ∧ AV.agg [AV.int IntKind.i64 9, AV.str (Tr.mk 9 w kids).word, AV.sl true (x + 15) 0 (Tr.mk 9 w kids).kids.length Cp.no] = AV.agg [AV.int IntKind.i64 9, AV.str (Tr.mk 9 w kids).word, AV.sl true (x + 15) 0 (Tr.mk 9 w kids).kids.length Cp.no] ∧ TAt F (Tr.mk 9 w kids) x ∧ ∃ (K : List Int), LRow [some (Row.lst 25 3 [AV.agg [AV.int IntKind.i64 9, AV.str (Tr.mk 9 w kids).word, AV.sl true (x + 15) 0 (Tr.mk 9 w kids).kids.length Cp.no]]), some (Row.lst 3 1 [AV.int IntKind.i64 4, AV.int IntKind.i64 5, AV.int IntKind.i64 6])] 1 3 K ∧ JLen (Tr.mk 9 w kids) K [] ∧ ∀ (F' : Fz), Up F F' → AV.str [63] = AV.str [63] ∧ AV.int IntKind.i64 9 = AV.int IntKind.i64 9 ∧ AV.int IntKind.i64 9 = AV.int IntKind.i64 9 ∧ bif decide ((jn (Tr.mk 9 w kids) K []).length + 1 ≤ 9223372036854775807) then k (AV.str (jn (Tr.mk 9 w kids) K [] ++ [63])) F' else False) := by kernel_rfl
mutual
/-- Of the ten kinds, with not too many kids. -/
def Nice : Tr → Prop
  | .mk k w kids => k ≤ 9 ∧ kids.length ≤ 100000 ∧ w.length ≤ 100000 ∧ (k ≤ 3 → kids = []) ∧ Nices kids
def Nices : List Tr → Prop
  | [] => True
  | t :: ts => Nice t ∧ Nices ts
end
theorem Nices.mem : ∀ {ts : List Tr}, Nices ts → ∀ t ∈ ts, Nice t
  | [], _, t, h => by cases h
  | u :: ts, hn, t, h => by
    simp only [Nices] at hn
    rcases List.mem_cons.1 h with rfl | h
    · exact hn.1
    · exact Nices.mem hn.2 t h
theorem join_mem_len (sep : List UInt8) : ∀ (L : List (List UInt8)), ∀ y ∈ L, y.length ≤ (Lib.join L sep).length := by
  have tail : ∀ (r : List (List UInt8)), ∀ y ∈ r, y.length ≤ (Lib.joinTail sep r).length := by
    intro r
    induction r with
    | nil => intro y h; cases h
    | cons z r ih =>
      intro y h
      unfold Lib.joinTail at ih ⊢
      simp only [List.map_cons, List.flatten_cons, List.length_append]
      rcases List.mem_cons.1 h with rfl | h
      · omega
      · have := ih y h; omega
  intro L
  cases L with
  | nil => intro y h; cases h
  | cons z r =>
    intro y h
    rw [Lib.join_cons, List.length_append]
    rcases List.mem_cons.1 h with rfl | h
    · omega
    · have := tail r y h; omega
theorem IsT.kids {F : Fz} {k : Nat} {w : List UInt8} {kids : List Tr} {x : Nat} (h : IsT F (.mk k w kids) x) : ∃ l : List (Tr × Nat), l.map Prod.fst = kids ∧ Frz F x (kidR l) ∧ TAts F l := by
  simp only [IsT] at h
  obtain ⟨xs, h1, h2, h3⟩ := h
  refine ⟨kids.zip xs, ?_, h2, ⟨?_⟩⟩
  · exact List.map_fst_zip (by omega)
  · have key : ∀ (ts : List Tr) (xs : List Nat), IsTs F ts xs → ∀ p ∈ ts.zip xs, IsT F p.1 p.2 := by
      intro ts
      induction ts with
      | nil => intro xs _ p hp; simp at hp
      | cons t ts ih =>
        intro xs h p hp
        simp only [IsTs] at h
        cases xs with
        | nil => simp at hp
        | cons x xs =>
          simp only [List.zip_cons_cons, List.mem_cons] at hp
          rcases hp with rfl | hp
          · exact h.1
          · exact ih xs h.2 p hp
    exact key _ _ h3
theorem nm25 (kk : Int) (w sg : List UInt8) (n nk x : Nat) : nmL 5 x [.agg [.int .i64 kk, .str w, .sl true 5 0 n .no], .str sg, .sl false 0 0 nk .no] = [.agg [.int .i64 kk, .str w, tok x n], .str sg, .sl false 0 0 nk .no] := by kernel_rfl
theorem nmi (K : List Int) (x : Nat) : nmRows 5 x [some (irow K)] = [some (irow K)] := by kernel_rfl
theorem env25l_ok {R : Nat → RoRow} (hR : Free R) (K : List Int) (hK : K.length ≤ 100000) (sg : List UInt8) (kk : Int) (w : List UInt8) (l : List (Tr × Nat)) (hl : l.length ≤ 100000) (hs : ∀ p ∈ l, ShowOK p.1 ∧ (shw p.1).length ≤ 1000000) (HP : HPt) : OKX Try.prog (env25l R K sg kk w l) [] HP :=
  (env25_ok hR K hK l hs HP).addLoop (f := 25) (fi := fi25) (by kernel_rfl) (i := 0) (body := .loop (loopOf fi25 0)) (by kernel_rfl) (loop25 hR K hK sg kk w l hl hs HP)
theorem safe25 {R : Nat → RoRow} (hR : Free R) (K : List Int) (hK : K.length ≤ 100000) (sg : List UInt8) (kk : Int) (w : List UInt8) (l : List (Tr × Nat)) (hl : l.length ≤ 100000) (hs : ∀ p ∈ l, ShowOK p.1 ∧ (shw p.1).length ≤ 1000000) {x : Nat} {F : Fz} (hfr : Frz F x (kidR l)) (hts : TAts F l)
    (hj : (Lib.join (l.map fun p => wth K p.1) sg).length ≤ 1000000) (k HP : AV → Rows → Fz → Prop) (hk : ∀ F', Up F F' → k (.str (Lib.join (l.map fun p => wth K p.1) sg)) [some (irow K)] F') :
    SafeCallX Try.prog R 25 [.agg [.int .i64 kk, .str w, tok x l.length], .str sg, .sl false 0 0 K.length .no] [some (irow K)] F k HP := by
  have inner : SafeCallX Try.prog (updR R 5 (kidR l)) 25 [.agg [.int .i64 kk, .str w, .sl true 5 0 l.length .no], .str sg, .sl false 0 0 K.length .no] [some (irow K)] F (fun v h F' => v = .str (Lib.join (l.map fun p => wth K p.1) sg) ∧ h = [some (irow K)] ∧ Up F F') (fun _ _ _ => False) := by
    refine SafeCallX.post (Q := fun v h F' => v = .str (Lib.join (l.map fun p => wth K p.1) sg) ∧ (∃ tl, h = some (irow K) :: tl) ∧ Up F F') (HP := fun _ _ _ => False) ?_ ?_ ?_
    · refine SafeCallX.by mixed (env25l_ok hR K hK sg kk w l hl hs _) (f := 25) (fi := fi25) (by kernel_rfl) 1000 (vc25 R K sg kk w l _ F) ⟨rfl, rfl, rfl, rfl, rfl, rfl, rfl, rfl, hts, fun F' hu => ?_⟩
      have e := strsOf_row (l.map fun p => wth K p.1)
      refine ⟨rfl, fun j hj => rfl, ?_, ?_, ?_, ⟨_, rfl⟩, hu⟩
      · show (l.map fun p => wth K p.1).length ≤ 140737488355328
        simp; omega
      · show (Lib.join _ sg).length ≤ 140737488355328
        rw [e]; omega
      · rw [e]
    · rintro v h' F' _ ⟨rfl, ⟨tl, rfl⟩, hu⟩
      exact ToV.fit (FitV.row1 (irow_g K) rfl) (ToV.here ⟨rfl, rfl, hu⟩)
    · rintro v h' F' _ h; exact h.elim
  have := SafeCallX.swap (by decide) hfr hR.n hR.q inner (Q1 := k) (HP1 := HP) (by rintro v h' F' _ ⟨rfl, rfl, hu⟩; exact ⟨rfl, nmi K x, hk F' hu⟩) (fun v h' F' _ h => h.elim)
  rwa [nm25, nmi] at this
theorem kids_len {t : Tr} {l : List (Tr × Nat)} (h : l.map Prod.fst = t.kids) : t.kids.length = l.length := by rw [← h, List.length_map]
theorem lrow_view {h : Rows} {b n : Nat} {K : List Int} {f : Nat → Option Nat} {N : Nat} : RowV f N (irow K) (.lst 3 1 (K.map (.int .i64))) where
  ty := rfl
  esz := rfl
  len := by simp [Row.len]
  get := fun i e he => by
    simp only [Row.get?] at he ⊢
    cases hb : Nat.blt i K.length with
    | false => rw [hb] at he; cases he
    | true =>
      rw [hb] at he; cases he
      have hi := blt_of hb
      refine ⟨fun a ha => ones_mem (e := .int .i64 (K.getD i 0)) rfl a ha, .int .i64 (K.getD i 0), ?_, Vw.intI⟩
      rw [List.getElem?_map, List.getElem?_eq_getElem hi, List.getD_eq_getElem?_getD, List.getElem?_eq_getElem hi]
      rfl
theorem spec25_ok {R : Nat → RoRow} (hR : Free R) (t : Tr) (hn : t.kids.length ≤ 100000) (hs : ∀ u ∈ t.kids, ShowOK u ∧ (shw u).length ≤ 1000000) (x : Nat) (HP : HPt) : ∀ args h k F, spec25 t x args h k F → SafeCallX Try.prog R 25 args h F k HP := by
  intro args h k F hk
  unfold spec25 at hk
  split at hk
  · rename_i a sg b n u
    obtain ⟨rfl, ⟨hx⟩, K, ⟨hb, rfl, hK⟩, ⟨hj⟩, hk⟩ := hk
    obtain ⟨kd, w, kids⟩ := t
    obtain ⟨l, hl, hfr, hts⟩ := hx.kids
    have hl' : l.map Prod.fst = kids := hl
    have hlen : kids.length = l.length := by rw [← hl', List.length_map]
    have hS : shwL K kids = l.map fun p => wth K p.1 := by rw [shwL_map, ← hl', List.map_map]; rfl
    have hj' : (Lib.join (l.map fun p => wth K p.1) sg).length ≤ 1000000 := by rw [← hS]; exact hj
    have main := safe25 hR K hK sg ((kd : Nat) : Int) w l (by rw [← hlen]; exact hn) (fun p hp => hs p.1 (by show p.1 ∈ kids; rw [← hl']; exact List.mem_map_of_mem hp)) hfr hts hj' (fun v h' F' => ∃ r' tl, h' = some r' :: tl ∧ gnd v = true ∧ RowG r' ∧ (v = .str (jn (.mk kd w kids) K sg) ∧ r' = irow K ∧ Up F F')) (fun v h' F' => ∃ r' tl, h' = some r' :: tl ∧ gnd v = true ∧ RowG r' ∧ False) (fun F' hu => ⟨_, [], rfl, rfl, irow_g K, by unfold jn; rw [← hS]; rfl, rfl, hu⟩)
    rw [← hlen] at main
    refine (SafeCallX.at1v (b := b) hb (irow_g K) (lrow_view (h := h) (b := b) (n := 0)) (VwL.cons (Vw.gndI rfl) (VwL.cons Vw.strI (VwL.cons (Vw.slE (by decide) rfl) VwL.nil))) main).mono ?_ ?_
    · rintro v h' F' _ ⟨r', rfl, rfl, rfl, hu⟩; exact hk F' hu
    · rintro v h' F' _ ⟨r', _, h⟩; exact h.elim
  · exact hk.elim
theorem env13_ok {R : Nat → RoRow} (hR : Free R) (t : Tr) (hn : t.kids.length ≤ 100000) (hs : ∀ u ∈ t.kids, ShowOK u ∧ (shw u).length ≤ 1000000) (x : Nat) (HP : HPt) : OKX Try.prog (env13 R t x) [] HP :=
  (bx_ok R [] HP).addCall (f := 25) (fi := fi25) (by kernel_rfl) (spec25_ok hR t hn hs x HP)
theorem lrA (o : Option Row) : LRow [o, some (.lst 3 1 [.int .i64 4, .int .i64 5, .int .i64 6])] 1 3 kA := ⟨rfl, rfl, by decide⟩
theorem lrB (o : Option Row) : LRow [o, some (.lst 3 1 [.int .i64 6, .int .i64 5])] 1 2 kB := ⟨rfl, rfl, by decide⟩
theorem lrC (o : Option Row) : LRow [o, some (.lst 3 1 [.int .i64 5])] 1 1 kC := ⟨rfl, rfl, by decide⟩
theorem wth_len {K : List Int} {t : Tr} : (shw t).length ≤ (wth K t).length := by
  unfold wth
  cases K.contains ((t.kind : Nat) : Int) <;> simp <;> omega
theorem kid_lens {kids : List Tr} {K : List Int} {sep : List UInt8} {n : Nat} (h : (Lib.join (shwL K kids) sep).length ≤ n) : ∀ u ∈ kids, (shw u).length ≤ n := by
  intro u hu
  have h1 := join_mem_len sep (shwL K kids) (wth K u) (by rw [shwL_map]; exact List.mem_map_of_mem hu)
  have h2 := wth_len (K := K) (t := u)
  omega
theorem show_lit {R : Nat → RoRow} {kd : Nat} {w : List UInt8} {kids : List Tr} {x : Nat} {F : Fz} {k HP : AV → Rows → Fz → Prop} {S : List UInt8} (h : SafeCallX Try.prog R 13 [exprV (.mk kd w kids) x] [] F (fun v _ F' => v = .str S ∧ Up F F') (fun _ _ _ => False)) (hk : ∀ F', Up F F' → k (.str S) [] F') : SafeCallX Try.prog R 13 [exprV (.mk kd w kids) x] [] F k HP := by
  refine SafeCallX.post h ?_ ?_
  · rintro v h' F' _ ⟨rfl, hu⟩
    exact ToV.fit (vE := .str S) (hE := []) ⟨fun _ => none, ⟨fun c b hc => absurd hc (Nat.not_lt_zero _), fun c c' b hc => absurd hc (Nat.not_lt_zero _), fun c r hc => by simp [Rows.live] at hc⟩, gnd_vw _ _ _ rfl, fun c hc => absurd hc (Nat.not_lt_zero _), Nat.le_refl _⟩ (ToV.here (hk F' hu))
  · rintro v h' F' _ h; exact h.elim
theorem show_step (kd : Nat) (w : List UInt8) (kids : List Tr) (hn : Nice (.mk kd w kids)) (hl : (shw (.mk kd w kids)).length ≤ 1000000) (ih : ∀ u ∈ kids, (shw u).length ≤ 1000000 → ShowOK u) : ShowOK (.mk kd w kids) := by
  intro R hR x F k HP hx hk
  simp only [Nice] at hn
  obtain ⟨h9, hkl, hwl, h3, hnk⟩ := hn
  have env : (∀ u ∈ kids, (shw u).length ≤ 1000000) → OKX Try.prog (env13 R (.mk kd w kids) x) [] HP0 := fun h => env13_ok hR (.mk kd w kids) hkl (fun u hu => ⟨ih u hu (h u hu), h u hu⟩) x _
  have e0 : OKX Try.prog (env13 R (.mk kd w []) x) [] HP0 := env13_ok hR (.mk kd w []) (by show 0 ≤ 100000; decide) (fun u hu => by cases hu) x _
  match kd, h9 with
  | 0, _ =>
    cases h3 (by omega)
    exact show_lit (SafeCallX.by mixed e0 (f := 13) (fi := fi13) (by kernel_rfl) 1000 (vc13_0 R w [] x _ F) ⟨rfl, Up.refl F⟩) hk
  | 1, _ =>
    cases h3 (by omega)
    exact show_lit (SafeCallX.by mixed e0 (f := 13) (fi := fi13) (by kernel_rfl) 1000 (vc13_1 R w [] x _ F) ⟨rfl, Up.refl F⟩) hk
  | 2, _ =>
    cases h3 (by omega)
    exact show_lit (SafeCallX.by mixed e0 (f := 13) (fi := fi13) (by kernel_rfl) 1000 (vc13_2 R w [] x _ F) (hcT (decide_eq_true (by omega)) ⟨rfl, Up.refl F⟩)) hk
  | 3, _ =>
    cases h3 (by omega)
    exact show_lit (SafeCallX.by mixed e0 (f := 13) (fi := fi13) (by kernel_rfl) 1000 (vc13_3 R w [] x _ F) ⟨rfl, Up.refl F⟩) hk
  | 4, _ =>
    have e : shw (.mk 4 w kids) = Lib.join (shwL kA kids) [32] := rfl
    rw [e] at hl
    refine show_lit (SafeCallX.by mixed (env (kid_lens hl)) (f := 13) (fi := fi13) (by kernel_rfl) 1000 (vc13_4 R w kids x _ F) ?_) hk
    exact ⟨rfl, ⟨hx⟩, kA, lrA _, ⟨hl⟩, fun F' hu => ⟨rfl, hu⟩⟩
  | 5, _ =>
    have e : shw (.mk 5 w kids) = Lib.join (shwL kC kids) [124] := rfl
    rw [e] at hl
    refine show_lit (SafeCallX.by mixed (env (kid_lens hl)) (f := 13) (fi := fi13) (by kernel_rfl) 1000 (vc13_5 R w kids x _ F) ?_) hk
    exact ⟨rfl, ⟨hx⟩, kC, lrC _, ⟨hl⟩, fun F' hu => ⟨rfl, hu⟩⟩
  | 6, _ =>
    have e : shw (.mk 6 w kids) = Lib.join (shwL kB kids) [38] := rfl
    rw [e] at hl
    refine show_lit (SafeCallX.by mixed (env (kid_lens hl)) (f := 13) (fi := fi13) (by kernel_rfl) 1000 (vc13_6 R w kids x _ F) ?_) hk
    exact ⟨rfl, ⟨hx⟩, kB, lrB _, ⟨hl⟩, fun F' hu => ⟨rfl, hu⟩⟩
  | 7, _ =>
    have e : shw (.mk 7 w kids) = Lib.join (shwL kA kids) [] ++ [42] := rfl
    rw [e, List.length_append] at hl
    have hl2 : (Lib.join (shwL kA kids) []).length ≤ 1000000 := by simp at hl; omega
    refine show_lit (SafeCallX.by mixed (env (kid_lens hl2)) (f := 13) (fi := fi13) (by kernel_rfl) 1000 (vc13_7 R w kids x _ F) ?_) hk
    refine ⟨rfl, rfl, rfl, rfl, rfl, ⟨hx⟩, kA, lrA _, ⟨hl2⟩, fun F' hu => ⟨rfl, rfl, rfl, hcT ?_ ⟨rfl, hu⟩⟩⟩
    exact decide_eq_true (by show (Lib.join (shwL kA kids) []).length + 1 ≤ _; omega)
  | 8, _ =>
    have e : shw (.mk 8 w kids) = Lib.join (shwL kA kids) [] ++ [43] := rfl
    rw [e, List.length_append] at hl
    have hl2 : (Lib.join (shwL kA kids) []).length ≤ 1000000 := by simp at hl; omega
    refine show_lit (SafeCallX.by mixed (env (kid_lens hl2)) (f := 13) (fi := fi13) (by kernel_rfl) 1000 (vc13_8 R w kids x _ F) ?_) hk
    refine ⟨rfl, rfl, rfl, rfl, rfl, ⟨hx⟩, kA, lrA _, ⟨hl2⟩, fun F' hu => ⟨rfl, rfl, rfl, hcT ?_ ⟨rfl, hu⟩⟩⟩
    exact decide_eq_true (by show (Lib.join (shwL kA kids) []).length + 1 ≤ _; omega)
  | 9, _ =>
    have e : shw (.mk 9 w kids) = Lib.join (shwL kA kids) [] ++ [63] := rfl
    rw [e, List.length_append] at hl
    have hl2 : (Lib.join (shwL kA kids) []).length ≤ 1000000 := by simp at hl; omega
    refine show_lit (SafeCallX.by mixed (env (kid_lens hl2)) (f := 13) (fi := fi13) (by kernel_rfl) 1000 (vc13_9 R w kids x _ F) ?_) hk
    refine ⟨rfl, rfl, rfl, rfl, rfl, ⟨hx⟩, kA, lrA _, ⟨hl2⟩, fun F' hu => ⟨rfl, rfl, rfl, hcT ?_ ⟨rfl, hu⟩⟩⟩
    exact decide_eq_true (by show (Lib.join (shwL kA kids) []).length + 1 ≤ _; omega)
  | k + 10, h => omega
end Go.Dc.Ke
end
section
set_option linter.unusedVariables false
set_option linter.unusedSimpArgs false
namespace Go.Dc.Ke
open Go.Proofs Go.RowKit Go.Shelf
set_option maxRecDepth 100000
mutual
theorem showOK : ∀ (t : Tr), Nice t → (shw t).length ≤ 1000000 → ShowOK t
  | .mk k w kids, hn, hl => show_step k w kids hn hl (showOKs kids (by simp only [Nice] at hn; exact hn.2.2.2.2))
theorem showOKs : ∀ (ts : List Tr), Nices ts → ∀ u ∈ ts, (shw u).length ≤ 1000000 → ShowOK u
  | [], _, u, h, _ => by cases h
  | t :: ts, hn, u, h, hl => by
    simp only [Nices] at hn
    rcases List.mem_cons.1 h with e | h
    · rw [e]; exact showOK t hn.1 (by rw [← e]; exact hl)
    · exact showOKs ts hn.2 u h hl
end
mutual
def sz : Tr → Nat
  | .mk k w kids => 1 + w.length + szs kids
def szs : List Tr → Nat
  | [] => 0
  | t :: ts => sz t + szs ts
end
mutual
/-- Of the ten kinds; the first four have no kids. -/
def Kinds : Tr → Prop
  | .mk k w kids => k ≤ 9 ∧ (k ≤ 3 → kids = []) ∧ Kindss kids
def Kindss : List Tr → Prop
  | [] => True
  | t :: ts => Kinds t ∧ Kindss ts
end
theorem sz_pos (t : Tr) : 1 ≤ sz t := by cases t; simp only [sz]; omega
theorem szs_len : ∀ (ts : List Tr), ts.length ≤ szs ts
  | [] => Nat.le_refl _
  | t :: ts => by simp only [szs, List.length_cons]; have := szs_len ts; have := sz_pos t; omega
theorem szs_app : ∀ (l : List Tr) (t : Tr), szs (l ++ [t]) = szs l + sz t
  | [], t => by simp [szs]
  | u :: l, t => by simp only [List.cons_append, szs]; rw [szs_app l t]; omega
theorem Kindss.app : ∀ {l : List Tr} {t : Tr}, Kindss l → Kinds t → Kindss (l ++ [t])
  | [], t, _, h => by simp only [List.nil_append, Kindss]; exact ⟨h, trivial⟩
  | u :: l, t, hl, h => by simp only [List.cons_append, Kindss] at hl ⊢; exact ⟨hl.1, Kindss.app hl.2 h⟩
mutual
theorem nice_of : ∀ (t : Tr), Kinds t → sz t ≤ 100000 → Nice t
  | .mk k w kids, hk, hs => by
    simp only [Kinds] at hk
    simp only [sz] at hs
    simp only [Nice]
    have := szs_len kids
    exact ⟨hk.1, by omega, by omega, hk.2.1, nices_of kids hk.2.2 (by omega)⟩
theorem nices_of : ∀ (ts : List Tr), Kindss ts → szs ts ≤ 100000 → Nices ts
  | [], _, _ => by simp only [Nices]
  | t :: ts, hk, hs => by
    simp only [Kindss] at hk
    simp only [szs] at hs
    simp only [Nices]
    exact ⟨nice_of t hk.1 (by omega), nices_of ts hk.2 (by omega)⟩
end
theorem lens_cons (x : List UInt8) (xs : List (List UInt8)) : Lib.lens (x :: xs) = x.length + Lib.lens xs := by simp [Lib.lens]
theorem lens_join (sep : List UInt8) (hsep : sep.length ≤ 1) : ∀ L : List (List UInt8), (Lib.join L sep).length ≤ Lib.lens L + L.length := by
  intro L
  cases L with
  | nil => simp [Lib.join_nil]
  | cons z r =>
    rw [Lib.join_cons, List.length_append, Lib.joinTail_length]
    have : sep.length * r.length ≤ 1 * r.length := Nat.mul_le_mul_right _ hsep
    rw [lens_cons, List.length_cons]
    omega
mutual
theorem shw_len : ∀ (t : Tr), (shw t).length + 3 ≤ 8 * sz t
  | .mk k w kids => by
    have h1 : ∀ (K : List Int) (sep : List UInt8), sep.length ≤ 1 → (Lib.join (shwL K kids) sep).length ≤ 8 * szs kids := by
      intro K sep hsep
      have h2 := lens_join sep hsep (shwL K kids)
      have h3 := shwL_len K kids
      omega
    simp only [shw, sz]
    have hA := h1 kA [32] (by simp)
    have hB := h1 kB [38] (by simp)
    have hC := h1 kC [124] (by simp)
    have hD := h1 kA [] (by simp)
    split
    · omega
    split
    · simp only [List.length_cons]; omega
    split
    · simp only [txtW, List.length_cons, List.length_nil]; omega
    split
    · omega
    split
    · omega
    split
    · omega
    split
    · have : ((marksW.drop (k - 7)).take 1).length ≤ 1 := by simp; omega
      rw [List.length_append]; omega
    · simp only [List.length_cons, List.length_nil]; omega
theorem shwL_len : ∀ (K : List Int) (ts : List Tr), Lib.lens (shwL K ts) + (shwL K ts).length ≤ 8 * szs ts
  | K, [] => by simp [shwL, Lib.lens, szs]
  | K, t :: ts => by
    have h1 := shw_len t
    have h2 := shwL_len K ts
    simp only [shwL, szs]
    have h3 : (bif K.contains ((t.kind : Nat) : Int) then [40] ++ shw t ++ [41] else shw t).length ≤ (shw t).length + 2 := by
      cases K.contains ((t.kind : Nat) : Int) <;> simp <;> omega
    rw [lens_cons, List.length_cons]
    omega
end
/-! ### The parser's -/
/-- What a part of the parser tells is of the right kinds, and not bigger than what it has read. -/
def Fits (s : List UInt8) (r : Nat → PR) : Prop := ∀ a, a ≤ s.length → ∀ t a1, r a = .ok t a1 → Kinds t ∧ sz t + 1 ≤ 4 * (a1 - a)
section
variable {s : List UInt8} {n : Nat} {alt : Nat → PR}
theorem sub_len {a e : Nat} (h : e ≤ s.length) : (sub s a e).length ≤ e - a := by unfold sub; simp; omega
theorem pWord_fits {kd a : Nat} (hk : kd ≤ 9) (ha : a ≤ s.length) {t : Tr} {a1 : Nat} (h : pWord s kd a = .ok t a1) : Kinds t ∧ sz t + 1 ≤ 4 * (a1 - a) := by
  have hg := pWord_goes ha h
  unfold pWord at h
  cases hb : Nat.beq (scan wordly s a) a with
  | true => rw [hb] at h; cases h
  | false =>
    rw [hb] at h
    cases h
    have h3 := sub_len (s := s) (a := a) (e := scan wordly s a) hg.2
    simp only [Kinds, Kindss, sz, szs]
    exact ⟨⟨hk, fun _ => trivial, trivial⟩, by omega⟩
theorem pBr_fits (hA : Fits s alt) (hG : Goes s alt) {a : Nat} (ha : a < s.length) {t : Tr} {a1 : Nat} (h : pBr s n alt a = .ok t a1) : Kinds t ∧ sz t + 1 ≤ 4 * (a1 - a) := by
  unfold pBr at h
  cases hb : Nat.beq n 16 with
  | true => rw [hb] at h; cases h
  | false =>
    rw [hb] at h
    simp only [cond_false] at h
    have h0 := blk_ge (s := s) (a + 1)
    have h1 := blk_le (s := s) (a := a + 1) ha
    cases hc : hbI s (blk s (a + 1)) == 41 with
    | true =>
      rw [hc] at h
      cases h
      simp only [Kinds, Kindss, sz, szs]
      exact ⟨⟨by omega, fun _ => trivial, trivial⟩, by simp; omega⟩
    | false =>
      rw [hc] at h
      simp only [cond_false] at h
      obtain ⟨t1, a2, h2, h3⟩ := PR.bind_ok h
      obtain ⟨h4, h5⟩ := hG _ h1 _ _ h2
      obtain ⟨h6, h7⟩ := hA _ h1 _ _ h2
      cases hd : hbI s a2 == 41 with
      | true =>
        rw [hd] at h3
        cases h3
        exact ⟨h6, by omega⟩
      | false => rw [hd] at h3; cases h3
theorem pAtom_fits (hA : Fits s alt) (hG : Goes s alt) {a : Nat} (ha : a ≤ s.length) {t : Tr} {a1 : Nat} (h : pAtom s n alt a = .ok t a1) : Kinds t ∧ sz t + 1 ≤ 4 * (a1 - a) := by
  unfold pAtom at h
  cases h1 : hbI s a == 64 with
  | true =>
    rw [h1] at h
    have := pWord_fits (by omega) (hb_lt h1 (by decide)) h
    exact ⟨this.1, by omega⟩
  | false =>
    rw [h1] at h
    simp only [cond_false] at h
    cases h2 : hbI s a == 35 with
    | true =>
      rw [h2] at h
      simp only [cond_true] at h
      cases h3 : (exN s txtW a).1 with
      | true =>
        rw [h3] at h
        cases h
        have := exN_ok txtW a ha (by decide) h3
        have e : txtW.length = 5 := rfl
        rw [e] at this
        simp only [Kinds, Kindss, sz, szs]
        exact ⟨⟨by omega, fun _ => trivial, trivial⟩, by simp; omega⟩
      | false => rw [h3] at h; cases h
    | false =>
      rw [h2] at h
      simp only [cond_false] at h
      cases h3 : hbI s a == 40 with
      | true =>
        rw [h3] at h
        exact pBr_fits hA hG (hb_lt h3 (by decide)) h
      | false =>
        rw [h3] at h
        exact pWord_fits (by omega) ha h
theorem pMarks_fits : ∀ (f : Nat) (t : Tr) (a c : Nat), a ≤ s.length → c < a → Kinds t → sz t + 1 ≤ 4 * (a - c) → Kinds (pMarks s f t a).1 ∧ sz (pMarks s f t a).1 + 1 ≤ 4 * ((pMarks s f t a).2 - c)
  | 0, t, a, c, ha, hc, hk, hz => ⟨hk, hz⟩
  | f + 1, t, a, c, ha, hc, hk, hz => by
    unfold pMarks
    cases h : markOf (hbI s a) with
    | none => exact ⟨hk, hz⟩
    | some k =>
      have h1 := markOf_lt h
      have h2 := blk_ge (s := s) (a + 1)
      refine pMarks_fits f (.mk (7 + k) [] [t]) (blk s (a + 1)) c (blk_le h1.1) (by omega) ?_ ?_
      · simp only [Kinds, Kindss]
        exact ⟨by omega, fun h => by omega, hk, trivial⟩
      · simp only [sz, szs, List.length_nil]; omega
theorem pItem_fits (hA : Fits s alt) (hG : Goes s alt) {a : Nat} (ha : a ≤ s.length) {t : Tr} {a1 : Nat} (h : pItem s n alt a = .ok t a1) : Kinds t ∧ sz t + 1 ≤ 4 * (a1 - a) := by
  obtain ⟨t1, a2, h1, h2⟩ := PR.bind_ok h
  have h3 := pAtom_goes hG ha h1
  have h5 := pAtom_fits hA hG ha h1
  cases h2
  have h4 := blk_ge (s := s) a2
  exact pMarks_fits (s.length + 1) t1 (blk s a2) a (blk_le h3.2) (by omega) h5.1 (by omega)
theorem rowT_fits {kd : Nat} (hk : 4 ≤ kd ∧ kd ≤ 9) {l : List Tr} {d : Nat} (hl : Kindss l) (hz : szs l + l.length ≤ 4 * d) (hne : l ≠ []) : Kinds (rowT kd l) ∧ sz (rowT kd l) + 1 ≤ 4 * d := by
  match l with
  | [] => exact absurd rfl hne
  | [t] =>
    simp only [Kindss] at hl
    simp only [szs, List.length_cons, List.length_nil] at hz
    exact ⟨hl.1, by show sz t + 1 ≤ _; omega⟩
  | t :: u :: l =>
    simp only [rowT, Kinds, sz, List.length_nil]
    refine ⟨⟨hk.2, fun h => by omega, hl⟩, ?_⟩
    simp only [szs, List.length_cons] at hz ⊢
    omega
theorem pSeqs_fits (hA : Fits s alt) (hG : Goes s alt) : ∀ (f : Nat) (l : List Tr) (a c : Nat), a ≤ s.length → c ≤ a → l ≠ [] → Kindss l → szs l + l.length ≤ 4 * (a - c) → ∀ t a1, pSeqs s n alt f l a = .ok t a1 → Kinds t ∧ sz t + 1 ≤ 4 * (a1 - c)
  | 0, l, a, c, ha, hc, hne, hk, hz, t, a1, h => by cases h; exact rowT_fits (by omega) hk hz hne
  | f + 1, l, a, c, ha, hc, hne, hk, hz, t, a1, h => by
    unfold pSeqs at h
    cases hb : begins (hbI s a) with
    | false => rw [hb] at h; cases h; exact rowT_fits (by omega) hk hz hne
    | true =>
      rw [hb] at h
      obtain ⟨t1, a2, h1, h2⟩ := PR.bind_ok h
      have h3 := pItem_goes hG ha h1
      have h4 := pItem_fits hA hG ha h1
      exact pSeqs_fits hA hG f _ a2 c h3.2 (by omega) (by simp) (hk.app h4.1) (by rw [szs_app]; simp only [List.length_append, List.length_cons, List.length_nil]; omega) _ _ h2
theorem pSeq_fits (hA : Fits s alt) (hG : Goes s alt) : Fits s (pSeq s n alt) := by
  intro a ha t a1 h
  obtain ⟨t1, a2, h1, h2⟩ := PR.bind_ok h
  have h0 := blk_ge (s := s) a
  have h3 := pItem_goes hG (blk_le ha) h1
  have h4 := pItem_fits hA hG (blk_le ha) h1
  exact pSeqs_fits hA hG _ [t1] a2 a h3.2 (by omega) (by simp) (by simp only [Kindss]; exact ⟨h4.1, trivial⟩) (by simp only [szs, List.length_cons, List.length_nil]; omega) _ _ h2
theorem pJoins_fits {sg : Int} (hs : sg ≠ 0) {kd : Nat} (hkd : 4 ≤ kd ∧ kd ≤ 9) {part : Nat → PR} (hP : Fits s part) (hG : Goes s part) : ∀ (f : Nat) (l : List Tr) (a c : Nat), a ≤ s.length → c ≤ a → l ≠ [] → Kindss l → szs l + l.length ≤ 4 * (a - c) → ∀ t a1, pJoins s sg kd part f l a = .ok t a1 → Kinds t ∧ sz t + 1 ≤ 4 * (a1 - c)
  | 0, l, a, c, ha, hc, hne, hk, hz, t, a1, h => by cases h; exact rowT_fits hkd hk hz hne
  | f + 1, l, a, c, ha, hc, hne, hk, hz, t, a1, h => by
    unfold pJoins at h
    cases hb : hbI s a == sg with
    | false => rw [hb] at h; cases h; exact rowT_fits hkd hk hz hne
    | true =>
      rw [hb] at h
      obtain ⟨t1, a2, h1, h2⟩ := PR.bind_ok h
      have hlt := hb_lt hb hs
      have h3 := hG (a + 1) hlt _ _ h1
      have h4 := hP (a + 1) hlt _ _ h1
      exact pJoins_fits hs hkd hP hG f _ a2 c h3.2 (by omega) (by simp) (hk.app h4.1) (by rw [szs_app]; simp only [List.length_append, List.length_cons, List.length_nil]; omega) _ _ h2
theorem pJoin_fits {sg : Int} (hs : sg ≠ 0) {kd : Nat} (hkd : 4 ≤ kd ∧ kd ≤ 9) {part : Nat → PR} (hP : Fits s part) (hG : Goes s part) : Fits s (pJoin s sg kd part) := by
  intro a ha t a1 h
  obtain ⟨t1, a2, h1, h2⟩ := PR.bind_ok h
  have h3 := hG a ha _ _ h1
  have h4 := hP a ha _ _ h1
  exact pJoins_fits hs hkd hP hG _ [t1] a2 a h3.2 (by omega) (by simp) (by simp only [Kindss]; exact ⟨h4.1, trivial⟩) (by simp only [szs, List.length_cons, List.length_nil]; omega) _ _ h2
theorem pAltD_fits : ∀ d, Fits s (pAltD s d)
  | 0 => fun a ha t a1 h => by cases h
  | d + 1 => pJoin_fits (by decide) (by omega) (pJoin_fits (by decide) (by omega) (pSeq_fits (pAltD_fits d) (pAltD_goes d)) (pSeq_goes (pAltD_goes d))) (pAll_goes (pAltD_goes d))
theorem parse_fits {t : Tr} (h : parse s = .ok t 0) : Nice t ∧ (shw t).length ≤ 10000 ∧ sz t ≤ 1024 := by
  unfold parse at h
  cases hb : decide (s.length > 256) with
  | true => rw [hb] at h; cases h
  | false =>
    rw [hb] at h
    simp only [cond_false] at h
    obtain ⟨t1, a1, h1, h2⟩ := PR.bind_ok h
    have h3 := pAltD_fits (s := s) 17 0 (Nat.zero_le _) _ _ h1
    have h4 := pAltD_goes (s := s) 17 0 (Nat.zero_le _) _ _ h1
    cases hc : decide (a1 < s.length) with
    | true => rw [hc] at h2; cases h2
    | false =>
      rw [hc] at h2
      cases h2
      have := of_decide_eq_false hb
      have h5 := shw_len t
      exact ⟨nice_of t h3.1 (by omega), by omega, by omega⟩
end
end Go.Dc.Ke
end
section
set_option linter.unusedVariables false
set_option linter.unusedSimpArgs false
namespace Go.Dc.Ke
open Go.Proofs Go.RowKit Go.Shelf
set_option maxRecDepth 100000
def spec10 : CallSpecX := fun args h k => match args with
  | [.str s] => fun F => (∀ t, parse s = .ok t 0 → ∀ x F', Up F F' → TAt F' t x → k (.tup [exprV t x, .int .i64 0, .int .i64 0]) h F') ∧
      (∀ a c, parse s = .err a c → ∀ F', Up F F' → k (.tup [.agg [.int .i64 0, .str [], .nils], .int .i64 (a : Nat), .int .i64 (c : Nat)]) h F')
  | _ => botX
theorem spec10_ok (R : Nat → RoRow) (HP : HPt) : ∀ args h k F, spec10 args h k F → SafeCallX Try.prog R 10 args h F k HP := by
  intro args h k F hk
  unfold spec10 at hk
  split at hk
  · rename_i s
    refine (SafeCallX.at0 (Q := fun v F' => k v h F') (HP := fun _ _ => False) rfl (safe10 R s F _ _ ⟨?_, ?_⟩)).mono ?_ ?_
    · intro t ht x F' hu hx; exact ⟨rfl, hk.1 t ht x F' hu hx⟩
    · intro a c hc F' hu; exact ⟨rfl, hk.2 a c hc F' hu⟩
    · rintro v h' F' _ ⟨rfl, h⟩; exact h
    · rintro v h' F' _ ⟨_, h⟩; exact h.elim
  · exact hk.elim
structure NiceT (t : Tr) : Prop where
  nice : Nice t
  len : (shw t).length ≤ 10000
def spec13 : CallSpecX := fun args h k => match args with
  | [a] => fun F => ∃ (t : Tr) (x : Nat), a = exprV t x ∧ TAt F t x ∧ NiceT t ∧ ∀ F', Up F F' → k (.str (shw t)) h F'
  | _ => botX
theorem spec13_ok {R : Nat → RoRow} (hR : Free R) (HP : HPt) : ∀ args h k F, spec13 args h k F → SafeCallX Try.prog R 13 args h F k HP := by
  intro args h k F hk
  unfold spec13 at hk
  split at hk
  · obtain ⟨t, x, rfl, hx, hn, hk⟩ := hk
    exact show_at (showOK t hn.nice (by have := hn.len; omega)) hR hx.is h k HP hk
  · exact hk.elim
noncomputable abbrev envS (R : Nat → RoRow) : EnvX := ((bx R).addCall 10 spec10).addCall 13 spec13
theorem envS_ok {R : Nat → RoRow} (hR : Free R) (HP : HPt) : OKX Try.prog (envS R) [] HP :=
  ((bx_ok R [] HP).addCall (f := 10) (fi := fi10) (by kernel_rfl) (spec10_ok R HP)).addCall (f := 13) (fi := fi13) (by kernel_rfl) (spec13_ok hR HP)
def spk : List UInt8 := [97, 32, 40, 98, 124, 99, 41, 42, 32, 38, 32, 35, 116, 101, 120, 116]
def spkT : Tr := .mk 6 [] [.mk 4 [] [.mk 1 [97] [], .mk 7 [] [.mk 5 [] [.mk 1 [98] [], .mk 1 [99] []]]], .mk 3 [] []]
theorem parse_spk : parse spk = .ok spkT 0 := by kernel_rfl
theorem shw_spk : shw spkT = [97, 32, 40, 98, 124, 99, 41, 42, 38, 35, 116, 101, 120, 116] := by kernel_rfl
def nst : Nat → List UInt8
  | 0 => [97]
  | n + 1 => 40 :: (nst n ++ [41])
def pnT : PR := .ok (.mk 1 [97] []) 0
end Go.Dc.Ke
end
section
set_option linter.unusedVariables false
set_option linter.unusedSimpArgs false
namespace Go.Dc.Ke
open Go.Proofs Go.RowKit Go.Shelf
set_option maxRecDepth 100000
def spec9 : CallSpecX := fun args h k => match args with
  | [] => fun F => ∀ F', Up F F' → k (.bool true) h F'
  | _ => botX
noncomputable abbrev envZ (R : Nat → RoRow) : EnvX := (envS R).addCall 9 spec9
noncomputable abbrev tm4 (m : Int) (s : List UInt8) (i : Int) : List AV := [.int .i64 m, .any, .any, .str s, .int .i64 i, .any, .any, .any, .any, .any, .any, .any, .any, .any, .any, .any, .any, .any, .any, .any, .any, .any, .any, .any, .any, .any, .any, .any, .any, .any, .any, .any, .any, .any, .any, .any, .any, .any, .any, .any, .any, .any, .any, .any, .any, .any]
noncomputable abbrev fam4 (m i : Nat) : St := ⟨tm4 (m : Nat) (nst i) (i : Nat), []⟩
def lp4 (mI : Int) (m : Nat) : LoopSpX := fun st k F => mI = (m : Nat) ∧ st.tmps.length = 46 ∧ nthV st.tmps 0 = .int .i64 mI ∧ nthV st.tmps 3 = .str [97] ∧ nthV st.tmps 4 = .int .i64 0 ∧ st.rows = [] ∧ k .normal (fam4 m m) F
end Go.Dc.Ke
end
section
set_option linter.unusedVariables false
set_option linter.unusedSimpArgs false
namespace Go.Dc.Ke
open Go.Proofs Go.RowKit Go.Shelf
set_option maxRecDepth 100000
theorem vc9 (R : Nat → RoRow) (k : AV → Rows → Fz → Prop) (F : Fz) : vcx (envS R) 1000 9 fi9 [] [] k F = ((∀ (t : Tr), PR.ok (Tr.mk 6 [] [Tr.mk 4 [] [Tr.mk 1 [97] [], Tr.mk 7 [] [Tr.mk 5 [] [Tr.mk 1 [98] [], Tr.mk 1 [99] []]]], Tr.mk 3 [] []]) 0 = PR.ok t 0 → ∀ (x : Nat) (F' : Fz), Up F F' → TAt F' t x → bif (↑t.kind : Int) == 6 then bif (↑t.kids.length : Int) == 2 then ∃ (t_1 : Tr), ∃ (x_1 : Nat), AV.agg [AV.int IntKind.i64 (↑t.kind : Int), AV.str t.word, AV.sl true (x + 15) 0 t.kids.length Cp.no] = AV.agg [AV.int IntKind.i64 (↑t_1.kind : Int), AV.str t_1.word, AV.sl true (x_1 + 15) 0 t_1.kids.length Cp.no] ∧ TAt F' t_1 x_1 ∧ NiceT t_1 ∧ ∀ (F'_1 : Fz), Up F' F'_1 → k (AV.bool (shw t_1 == [97, 32, 40, 98, 124, 99, 41, 42, 38, 35, 116, 101, 120, 116])) [some (Row.lst 25 3 [AV.agg [AV.int IntKind.i64 (↑t.kind : Int), AV.str t.word, AV.sl true (x + 15) 0 t.kids.length Cp.no]])] F'_1 else k (AV.bool false) [some (Row.lst 25 3 [AV.agg [AV.int IntKind.i64 (↑t.kind : Int), AV.str t.word, AV.sl true (x + 15) 0 t.kids.length Cp.no]])] F' else k (AV.bool false) [some (Row.lst 25 3 [AV.agg [AV.int IntKind.i64 (↑t.kind : Int), AV.str t.word, AV.sl true (x + 15) 0 t.kids.length Cp.no]])] F') ∧ ∀ (a c : Nat), PR.ok (Tr.mk 6 [] [Tr.mk 4 [] [Tr.mk 1 [97] [], Tr.mk 7 [] [Tr.mk 5 [] [Tr.mk 1 [98] [], Tr.mk 1 [99] []]]], Tr.mk 3 [] []]) 0 = PR.err a c → ∀ (F' : Fz), Up F F' → bif (↑c : Int) == 0 then bif (↑a : Int) == 0 then k (AV.bool false) [some (Row.lst 25 3 [AV.agg [AV.int IntKind.i64 0, AV.str [], AV.nils]])] F' else k (AV.bool false) [some (Row.lst 25 3 [AV.agg [AV.int IntKind.i64 0, AV.str [], AV.nils]])] F' else k (AV.bool false) [some (Row.lst 25 3 [AV.agg [AV.int IntKind.i64 0, AV.str [], AV.nils]])] F') := by kernel_rfl
theorem vc4 (R : Nat → RoRow) (n mI : Int) (m : Nat) (k : AV → Fz → Prop) (F : Fz) : vcx ((envZ R).addLoop 4 0 (lp4 mI m)) 1000 4 fi4 [.int .i64 n] [] (fun v _ => k v) F = (∀ (F' : Fz), Up F F' → mI = (↑m : Int) ∧ 46 = 46 ∧ AV.int IntKind.i64 (IntKind.i64.wrap (↑(BitVec.ofInt IntKind.i64.bits n &&& BitVec.ofInt IntKind.i64.bits 31).toNat : Int)) = AV.int IntKind.i64 mI ∧ AV.str [97] = AV.str [97] ∧ AV.int IntKind.i64 0 = AV.int IntKind.i64 0 ∧ ([] : Rows) = [] ∧ (∀ (t : Tr), parse (nst m) = PR.ok t 0 → ∀ (x : Nat) (F'_1 : Fz), Up F' F'_1 → TAt F'_1 t x → bif decide ((↑m : Int) > 16) then k (AV.bool false) F'_1 else bif (↑t.kind : Int) == 1 then k (AV.bool (t.word == [97])) F'_1 else k (AV.bool false) F'_1) ∧ ∀ (a c : Nat), parse (nst m) = PR.err a c → ∀ (F'_1 : Fz), Up F' F'_1 → bif decide ((↑m : Int) > 16) then bif (↑c : Int) == 5 then k (AV.bool ((↑a : Int) == 16)) F'_1 else k (AV.bool false) F'_1 else bif (↑c : Int) == 0 then k (AV.bool false) F'_1 else k (AV.bool false) F'_1) := by kernel_rfl
theorem spkT_nice : NiceT spkT := ⟨by simp [spkT, Nice, Nices], by rw [shw_spk]; decide⟩
theorem nil_fit {R : Nat → RoRow} {v : AV} {h : Rows} {F : Fz} {S : AV → Rows → Fz → Prop} (hg : gnd v = true) (hs : S v [] F) : ToV R 0 v h F S :=
  ToV.fit (vE := v) (hE := []) ⟨fun _ => none, ⟨fun c b hc => absurd hc (Nat.not_lt_zero _), fun c c' b hc => absurd hc (Nat.not_lt_zero _), fun c r hc => by simp [Rows.live] at hc⟩, gnd_vw _ _ _ hg, fun c hc => absurd hc (Nat.not_lt_zero _), Nat.le_refl _⟩ (ToV.here hs)
theorem safe9 {R : Nat → RoRow} (hR : Free R) (F : Fz) (HP : HPt) : SafeCallX Try.prog R 9 [] [] F (fun v h F' => gnd v = true ∧ (v = .bool true ∧ Up F F')) (fun v h F' => gnd v = true ∧ False) := by
  refine SafeCallX.post (Q := fun v h F' => v = .bool true ∧ Up F F') (HP := fun _ _ _ => False) ?_ ?_ ?_
  · refine SafeCallX.by mixed (envS_ok hR _) (f := 9) (fi := fi9) (by kernel_rfl) 1000 (vc9 R _ F) ⟨?_, ?_⟩
    · intro t ht x F' hu hx
      cases ht
      refine hcT rfl (hcT rfl ⟨spkT, x, rfl, hx, spkT_nice, fun F2 hu2 => ⟨?_, hu.trans hu2⟩⟩)
      rw [shw_spk]; rfl
    · intro a c h; cases h
  · rintro v h' F' _ ⟨rfl, hu⟩; exact nil_fit rfl ⟨rfl, rfl, hu⟩
  · rintro v h' F' _ h; exact h.elim
theorem spec9_ok {R : Nat → RoRow} (hR : Free R) (HP : HPt) : ∀ args h k F, spec9 args h k F → SafeCallX Try.prog R 9 args h F k HP := by
  intro args h k F hk
  unfold spec9 at hk
  split at hk
  · refine (SafeCallX.at0 rfl (safe9 hR F HP)).mono ?_ ?_
    · rintro v h' F' _ ⟨rfl, rfl, hu⟩; exact hk F' hu
    · rintro v h' F' _ ⟨_, h⟩; exact h.elim
  · exact hk.elim
theorem envZ_ok {R : Nat → RoRow} (hR : Free R) (HP : HPt) : OKX Try.prog (envZ R) [] HP :=
  (envS_ok hR HP).addCall (f := 9) (fi := fi9) (by kernel_rfl) (spec9_ok hR HP)
/-! the nest -/
noncomputable abbrev tm4o (m : Int) (s : List UInt8) (i : Int) (a b c d e f : AV) : List AV := [.int .i64 m, .any, .any, .str s, .int .i64 i, .any, .any, .any, .any, .any, .any, .any, a, b, c, d, e, f]
theorem vr4 (R : Nat → RoRow) (m i : Nat) (k : Exit → St → Fz → Prop) (F : Fz) : rnx (bx R) 1000 4 (loopOf fi4 0) (fam4 m i) k F =
    (bif decide ((i : Int) < (m : Int)) then
      bif decide (1 + (nst i).length ≤ 9223372036854775807) then
        bif decide (([40] ++ nst i).length + 1 ≤ 9223372036854775807) then
          k .normal ⟨[.int .i64 (m : Nat), .any, .any, .str ([40] ++ nst i ++ [41]), .int .i64 (IntKind.i64.wrap ((i : Int) + 1)), .any, .any, .any, .any, .any, .any, .any, .int .i64 (i : Int), .int .i64 (m : Int), .bool true, .int .i64 (i : Int), .int .i64 (IntKind.i64.wrap ((i : Int) + 1)), .str (nst i), .str ([40] ++ nst i), .str ([40] ++ nst i ++ [41]), .any, .any, .any, .any, .any, .any, .any, .any, .any, .any, .any, .any, .any, .any, .any, .any, .any, .any, .any, .any, .any, .any, .any, .any, .any, .any], []⟩ F
        else False
      else False
    else k (.exit 0) ⟨[.int .i64 (m : Nat), .any, .any, .str (nst i), .int .i64 (i : Nat), .any, .any, .any, .any, .any, .any, .any, .int .i64 (i : Int), .int .i64 (m : Int), .bool false, .any, .any, .any, .any, .any, .any, .any, .any, .any, .any, .any, .any, .any, .any, .any, .any, .any, .any, .any, .any, .any, .any, .any, .any, .any, .any, .any, .any, .any, .any, .any], []⟩ F) := by kernel_rfl
theorem nst_len : ∀ i, (nst i).length = 2 * i + 1
  | 0 => rfl
  | i + 1 => by simp [nst, nst_len i]; omega
theorem tm4_spr (m : Int) (s : List UInt8) (i : Int) : tm4 m s i = spr [(0, .int .i64 m), (3, .str s), (4, .int .i64 i)] 0 46 := by kernel_rfl
theorem loop4 (R : Nat → RoRow) (HP : HPt) (mI : Int) (m : Nat) (hm : m ≤ 31) : ∀ st k F, lp4 mI m st k F → SafeX Try.prog R [] (.block 0 (.loop (loopOf fi4 0))) st F k HP := by
  rintro ⟨TM, rows⟩ k F ⟨rfl, h0, h1, h2, h3, h4, hk⟩
  simp only at h0 h1 h2 h3 h4
  subst h4
  refine SafeX.loop_block (Inv := fun n st F' => F' = F ∧ ∃ i, i ≤ m ∧ n = m - i ∧ st = fam4 m i) ?_ ?_
  · refine ToX.fit (stE := fam4 m 0) (Fit.nil ?_) (ToX.here ⟨_, rfl, 0, Nat.zero_le _, rfl, rfl⟩)
    show VwL _ 0 (tm4 (m : Nat) [97] 0) TM
    rw [tm4_spr]
    exact VwL.ofKnown h0 ⟨by rw [h1]; exact Vw.intI, by rw [h2]; exact Vw.strI, by rw [h3]; exact Vw.intI, trivial⟩
  · rintro n st' F' ⟨rfl, i, hi, rfl, rfl⟩
    refine SafeX.by mixed (bx_ok R [] HP) (f := 4) (fi := fi4) (i := 0) (by kernel_rfl) (b := .loop (loopOf fi4 0)) (by kernel_rfl) (subs_loop _) 1000 (vr4 R m i _ F') ?_
    have hl := nst_len i
    refine hcB (fun h => hcT (decide_eq_true (by omega)) (hcT (decide_eq_true (by simp; omega)) ?_)) fun h => ?_
    · have hlt : i < m := by have := of_decide_eq_true h; omega
      refine ToX.fit (stE := fam4 m (i + 1)) (Fit.nil ?_) (ToX.here ⟨m - (i + 1), by omega, rfl, i + 1, hlt, rfl, rfl⟩)
      rw [wrapSucc i (by omega)]
      have e : nst (i + 1) = [40] ++ nst i ++ [41] := rfl
      show VwL _ 0 (tm4 (m : Nat) (nst (i + 1)) ((i + 1 : Nat) : Int)) _
      rw [e]
      (repeat' (first | with_reducible exact VwL.nil | with_reducible refine VwL.cons ?_ ?_ | with_reducible exact Vw.anyI | with_reducible exact Vw.strI | with_reducible exact Vw.boolI | with_reducible exact Vw.intI | with_reducible exact Vw.nilsI | exact Vw.ptrI (by simp) rfl | exact Vw.slI (by simp) rfl | with_reducible refine Vw.aggI ?_ | exact Vw.gndI rfl))
    · have hge : i = m := by have := of_decide_eq_false h; omega
      subst hge
      refine ToX.fit (stE := fam4 i i) (Fit.nil (by (repeat' (first | with_reducible exact VwL.nil | with_reducible refine VwL.cons ?_ ?_ | with_reducible exact Vw.anyI | with_reducible exact Vw.strI | with_reducible exact Vw.boolI | with_reducible exact Vw.intI | with_reducible exact Vw.nilsI | exact Vw.ptrI (by simp) rfl | exact Vw.slI (by simp) rfl | with_reducible refine Vw.aggI ?_ | exact Vw.gndI rfl)))) (ToX.here hk)
theorem and31 (n : Int) : ∃ m : Nat, m ≤ 31 ∧ IntKind.i64.wrap (((BitVec.ofInt IntKind.i64.bits n &&& BitVec.ofInt IntKind.i64.bits 31).toNat : Nat) : Int) = (m : Nat) := by
  refine ⟨(BitVec.ofInt IntKind.i64.bits n &&& BitVec.ofInt IntKind.i64.bits 31).toNat, ?_, ?_⟩
  · rw [BitVec.toNat_and]
    have : (BitVec.ofInt IntKind.i64.bits 31).toNat = 31 := by decide
    rw [this]
    exact Nat.and_le_right
  · have h : (BitVec.ofInt IntKind.i64.bits n &&& BitVec.ofInt IntKind.i64.bits 31).toNat ≤ 31 := by
      rw [BitVec.toNat_and]
      have : (BitVec.ofInt IntKind.i64.bits 31).toNat = 31 := by decide
      rw [this]
      exact Nat.and_le_right
    rw [wrapI64 _ (by omega) (by omega)]
theorem pn0 : parse (nst 0) = .ok (.mk 1 [97] []) 0 := by kernel_rfl
theorem pn1 : parse (nst 1) = .ok (.mk 1 [97] []) 0 := by kernel_rfl
theorem pn2 : parse (nst 2) = .ok (.mk 1 [97] []) 0 := by kernel_rfl
theorem pn3 : parse (nst 3) = .ok (.mk 1 [97] []) 0 := by kernel_rfl
theorem pn4 : parse (nst 4) = .ok (.mk 1 [97] []) 0 := by kernel_rfl
theorem pn5 : parse (nst 5) = .ok (.mk 1 [97] []) 0 := by kernel_rfl
theorem pn6 : parse (nst 6) = .ok (.mk 1 [97] []) 0 := by kernel_rfl
theorem pn7 : parse (nst 7) = .ok (.mk 1 [97] []) 0 := by kernel_rfl
theorem pn8 : parse (nst 8) = .ok (.mk 1 [97] []) 0 := by kernel_rfl
theorem pn9 : parse (nst 9) = .ok (.mk 1 [97] []) 0 := by kernel_rfl
theorem pn10 : parse (nst 10) = .ok (.mk 1 [97] []) 0 := by kernel_rfl
theorem pn11 : parse (nst 11) = .ok (.mk 1 [97] []) 0 := by kernel_rfl
theorem pn12 : parse (nst 12) = .ok (.mk 1 [97] []) 0 := by kernel_rfl
theorem pn13 : parse (nst 13) = .ok (.mk 1 [97] []) 0 := by kernel_rfl
theorem pn14 : parse (nst 14) = .ok (.mk 1 [97] []) 0 := by kernel_rfl
theorem pn15 : parse (nst 15) = .ok (.mk 1 [97] []) 0 := by kernel_rfl
theorem pn16 : parse (nst 16) = .ok (.mk 1 [97] []) 0 := by kernel_rfl
theorem pn17 : parse (nst 17) = .err 16 5 := by kernel_rfl
theorem pn18 : parse (nst 18) = .err 16 5 := by kernel_rfl
theorem pn19 : parse (nst 19) = .err 16 5 := by kernel_rfl
theorem pn20 : parse (nst 20) = .err 16 5 := by kernel_rfl
theorem pn21 : parse (nst 21) = .err 16 5 := by kernel_rfl
theorem pn22 : parse (nst 22) = .err 16 5 := by kernel_rfl
theorem pn23 : parse (nst 23) = .err 16 5 := by kernel_rfl
theorem pn24 : parse (nst 24) = .err 16 5 := by kernel_rfl
theorem pn25 : parse (nst 25) = .err 16 5 := by kernel_rfl
theorem pn26 : parse (nst 26) = .err 16 5 := by kernel_rfl
theorem pn27 : parse (nst 27) = .err 16 5 := by kernel_rfl
theorem pn28 : parse (nst 28) = .err 16 5 := by kernel_rfl
theorem pn29 : parse (nst 29) = .err 16 5 := by kernel_rfl
theorem pn30 : parse (nst 30) = .err 16 5 := by kernel_rfl
theorem pn31 : parse (nst 31) = .err 16 5 := by kernel_rfl
theorem pn : ∀ m, m ≤ 31 → parse (nst m) = if m ≤ 16 then .ok (.mk 1 [97] []) 0 else .err 16 5 := by
  intro m hm
  match m, hm with
  | 0, _ => exact pn0
  | 1, _ => exact pn1
  | 2, _ => exact pn2
  | 3, _ => exact pn3
  | 4, _ => exact pn4
  | 5, _ => exact pn5
  | 6, _ => exact pn6
  | 7, _ => exact pn7
  | 8, _ => exact pn8
  | 9, _ => exact pn9
  | 10, _ => exact pn10
  | 11, _ => exact pn11
  | 12, _ => exact pn12
  | 13, _ => exact pn13
  | 14, _ => exact pn14
  | 15, _ => exact pn15
  | 16, _ => exact pn16
  | 17, _ => exact pn17
  | 18, _ => exact pn18
  | 19, _ => exact pn19
  | 20, _ => exact pn20
  | 21, _ => exact pn21
  | 22, _ => exact pn22
  | 23, _ => exact pn23
  | 24, _ => exact pn24
  | 25, _ => exact pn25
  | 26, _ => exact pn26
  | 27, _ => exact pn27
  | 28, _ => exact pn28
  | 29, _ => exact pn29
  | 30, _ => exact pn30
  | 31, _ => exact pn31
  | m + 32, h => omega
theorem free_RX : Free RX := ⟨rfl, RX_quits 5⟩
theorem nests_ok (n : Int) : SafeCallX Try.prog RX 4 [.int .i64 n] [] Fz.empty (fun v _ _ => v = .bool true) (fun _ _ _ => False) := by
  obtain ⟨m, hm, e⟩ := and31 n
  refine SafeCallX.by mixed ((envZ_ok free_RX _).addLoop (f := 4) (fi := fi4) (by kernel_rfl) (i := 0) (body := .loop (loopOf fi4 0)) (by kernel_rfl) (loop4 RX _ (m : Nat) m hm)) (f := 4) (fi := fi4) (by kernel_rfl) 1000 (vc4 RX n (m : Nat) m (fun v _ => v = .bool true) _) ?_
  intro F' hu
  refine ⟨rfl, rfl, by rw [e], rfl, rfl, rfl, ?_, ?_⟩
  · intro t ht x F2 hu2 hx
    rw [pn m hm] at ht
    split at ht
    · rename_i h
      cases ht
      exact hcF (by simp; omega) (hcT rfl rfl)
    · cases ht
  · intro a c hc F2 hu2
    rw [pn m hm] at hc
    split at hc
    · cases hc
    · rename_i h
      cases hc
      exact hcT (by simp; omega) (hcT rfl rfl)
theorem nests_walk (n : Int) (w : World) : Calls Try.prog 4 #[.int .i64 n] w fun e w' => e = .returned (.bool true) ∧ Below w.heap.size w w' :=
  (nests_ok n).law #[.int .i64 n] w (by simp [DenL, Den])
#print axioms nests_walk
end Go.Dc.Ke
end
section
set_option linter.unusedVariables false
set_option linter.unusedSimpArgs false
namespace Go.Dc.Ke
open Go.Proofs Go.RowKit Go.Shelf
set_option maxRecDepth 100000
/-! ### What goes wrong has a code -/
def NZ (r : PR) : Prop := ∀ a c, r = .err a c → c ≠ 0
theorem NZ.ok {t : Tr} {a : Nat} : NZ (.ok t a) := fun _ _ h => by cases h
theorem NZ.err {a c : Nat} (h : c ≠ 0) : NZ (.err a c) := fun _ _ e => by cases e; exact h
theorem NZ.bind {r : PR} {k : Tr → Nat → PR} (h : NZ r) (hk : ∀ t a, NZ (k t a)) : NZ (r.bind k) := by
  cases r with
  | ok t a => exact hk t a
  | err a c => exact h
theorem NZ.cond {b : Bool} {x y : PR} (hx : NZ x) (hy : NZ y) : NZ (bif b then x else y) := by cases b <;> assumption
section
variable {s : List UInt8} {n : Nat} {alt : Nat → PR} (hA : ∀ a, NZ (alt a))
include hA
theorem pAtom_nz (a : Nat) : NZ (pAtom s n alt a) :=
  .cond (.cond (.err (by decide)) .ok) (.cond (.cond .ok (.err (by decide))) (.cond (.cond (.err (by decide)) (.cond .ok (.bind (hA _) fun _ _ => .cond .ok (.err (by decide))))) (.cond (.err (by decide)) .ok)))
theorem pItem_nz (a : Nat) : NZ (pItem s n alt a) := .bind (pAtom_nz hA a) fun _ _ => .ok
theorem pSeqs_nz : ∀ f l a, NZ (pSeqs s n alt f l a)
  | 0, l, a => .ok
  | f + 1, l, a => .cond (.bind (pItem_nz hA a) fun _ _ => pSeqs_nz f _ _) .ok
theorem pSeq_nz (a : Nat) : NZ (pSeq s n alt a) := .bind (pItem_nz hA _) fun _ _ => pSeqs_nz hA _ _ _
end
section
variable {s : List UInt8} {sg : Int} {kd : Nat} {part : Nat → PR} (hP : ∀ a, NZ (part a))
include hP
theorem pJoins_nz : ∀ f l a, NZ (pJoins s sg kd part f l a)
  | 0, l, a => .ok
  | f + 1, l, a => .cond (.bind (hP _) fun _ _ => pJoins_nz f _ _) .ok
theorem pJoin_nz (a : Nat) : NZ (pJoin s sg kd part a) := .bind (hP _) fun _ _ => pJoins_nz hP _ _ _
end
theorem pAltD_nz {s : List UInt8} : ∀ d a, NZ (pAltD s d a)
  | 0, a => .err (by decide)
  | d + 1, a => pJoin_nz (fun a => pJoin_nz (fun a => pSeq_nz (pAltD_nz d) a) a) a
theorem parse_nz (s : List UInt8) : NZ (parse s) := .cond (.err (by decide)) (.bind (pAltD_nz 17 0) fun _ _ => .cond (.err (by decide)) .ok)
theorem TAt.le {F F' : Fz} {t : Tr} {x : Nat} (h : TAt F t x) (hu : Up F F') : TAt F' t x := ⟨IsT.le hu.le t x h.is⟩
theorem parse_nice {s : List UInt8} {t : Tr} (h : parse s = .ok t 0) : NiceT t := ⟨(parse_fits h).1, (parse_fits h).2.1⟩
/-- Behind the first so many parts. -/
def tailC : Nat → Code → Code
  | 0, c => c
  | n + 1, .seq x y => tailC n y
  | _, c => c
/-- A run of the first so many parts, one behind the other. -/
noncomputable def chain (E : EnvX) (m : Nat) (f : FuncId) (Q : Exit → St → Fz → Prop) (K : St → Fz → Prop) : Nat → Code → St → Fz → Prop
  | 0, _, st => K st
  | n + 1, .seq x y, st => rnx E m f x st fun e st' => match e with | .normal => chain E m f Q K n y st' | e => Q e st'
  | _ + 1, _, _ => fun _ => False
theorem chain_ok {E : EnvX} {HP : AV → Rows → Fz → Prop} (hE : OKX Try.prog E [] HP) {f : FuncId} {Q : Exit → St → Fz → Prop} {K : St → Fz → Prop} (m : Nat) :
    ∀ (n : Nat) (c : Code) (st : St) (F : Fz), (∀ p ∈ subs c, p ∈ E.subsOf f) → (∀ st F, K st F → SafeX Try.prog E.R [] (tailC n c) st F Q HP) → chain E m f Q K n c st F → SafeX Try.prog E.R [] c st F Q HP
  | 0, c, st, F, _, hK, h => hK st F h
  | n + 1, .seq x y, st, F, hc, hK, h => by
    refine SafeX.seq ((SafeX.rnx mixed hE (fun p hp => hc p (by simp only [subs]; exact List.mem_append_left _ hp)) m h).mono ?_ fun _ _ _ h => h)
    intro e st' F' he
    cases e with
    | normal => exact chain_ok hE m n y st' F' (fun p hp => hc p (by simp only [subs]; exact List.mem_append_right _ hp)) hK he
    | _ => exact he
  | n + 1, .skip, st, F, _, _, h => h.elim
  | n + 1, .region _ _ _, st, F, _, _, h => h.elim
  | n + 1, .cond _ _ _, st, F, _, _, h => h.elim
  | n + 1, .block _ _, st, F, _, _, h => h.elim
  | n + 1, .loop _, st, F, _, _, h => h.elim
  | n + 1, .exit _, st, F, _, _, h => h.elim
  | n + 1, .goto _, st, F, _, _, h => h.elim
  | n + 1, .label _, st, F, _, _, h => h.elim
  | n + 1, .ret, st, F, _, _, h => h.elim
  | n + 1, .rangeFunc _ _ _ _, st, F, _, _, h => h.elim
/-! how big -/
mutual
def size : Tr → Nat
  | .mk _ _ kids => 1 + sizes kids
def sizes : List Tr → Nat
  | [] => 0
  | t :: ts => size t + sizes ts
end
theorem getD_mem {l : List (Tr × Nat)} {i : Nat} (hi : i < l.length) : l.getD i dT ∈ l := by
  rw [List.getD_eq_getElem?_getD, List.getElem?_eq_getElem hi]
  exact List.getElem_mem hi
theorem sizes_app : ∀ (l : List Tr) (t : Tr), sizes (l ++ [t]) = sizes l + size t
  | [], t => by simp [sizes]
  | u :: l, t => by simp only [List.cons_append, sizes, sizes_app l t]; omega
theorem size_pos (t : Tr) : 1 ≤ size t := by cases t; simp only [size]; omega
theorem sizes_len : ∀ l : List Tr, l.length ≤ sizes l
  | [] => Nat.le_refl _
  | t :: l => by have := size_pos t; have := sizes_len l; simp only [sizes, List.length_cons]; omega
theorem sizes_mem : ∀ (l : List Tr), ∀ t ∈ l, size t ≤ sizes l
  | u :: l, t, h => by
    simp only [sizes]
    rcases List.mem_cons.1 h with rfl | h
    · omega
    · have := sizes_mem l t h; omega
mutual
theorem size_sz : ∀ (t : Tr), size t ≤ sz t
  | .mk k w kids => by have := sizes_szs kids; simp only [size, sz]; omega
theorem sizes_szs : ∀ (ts : List Tr), sizes ts ≤ szs ts
  | [] => Nat.le_refl _
  | t :: ts => by have := size_sz t; have := sizes_szs ts; simp only [sizes, szs]; omega
end
theorem parse_small {s : List UInt8} {t : Tr} (h : parse s = .ok t 0) : size t ≤ 1024 := Nat.le_trans (size_sz t) (parse_fits h).2.2
theorem ne0 {c : Nat} (h : c ≠ 0) : (((c : Nat) : Int) != 0) = true := by simp; omega
end Go.Dc.Ke
end
section
set_option linter.unusedVariables false
set_option linter.unusedSimpArgs false
namespace Go.Dc.Ke
open Go.Proofs Go.RowKit Go.Shelf
set_option maxRecDepth 100000
/-- A reader: its text, where it stands, how deep, where it went wrong and how. -/
abbrev rrow (s : List UInt8) (p n bd er : Int) : Row := .lst 57 5 [.agg [.str s, .int .i64 p, .int .i64 n, .int .i64 bd, .int .i64 er]]
theorem rrow_g (s : List UInt8) (p n bd er : Int) : RowG (rrow s p n bd er) := .lst1' rfl rfl
def atR {α : Type} (bot : α) (h : Rows) (b : Nat) (φ : List UInt8 → Int → Int → Int → Int → α) : α :=
  match h.live b with
  | some (.lst 57 5 [.agg [.str s, .int .i64 p, .int .i64 n, .int .i64 bd, .int .i64 er]]) => φ s p n bd er
  | _ => bot
theorem atR_or {α : Type} (bot : α) (h : Rows) (b : Nat) (φ : List UInt8 → Int → Int → Int → Int → α) : atR bot h b φ = bot ∨ ∃ s p n bd er, h.live b = some (rrow s p n bd er) ∧ atR bot h b φ = φ s p n bd er := by
  unfold atR
  split
  · rename_i s p n bd er e; exact .inr ⟨s, p, n, bd, er, e, rfl⟩
  · exact .inl rfl
theorem atR_of {h : Rows} {b : Nat} {φ : List UInt8 → Int → Int → Int → Int → Prop} (hh : atR False h b φ) : ∃ s p n bd er, h.live b = some (rrow s p n bd er) ∧ φ s p n bd er := by
  rcases atR_or False h b φ with e | ⟨s, p, n, bd, er, e1, e2⟩
  · rw [e] at hh; exact hh.elim
  · rw [e2] at hh; exact ⟨s, p, n, bd, er, e1, hh⟩
theorem atR_ofX {h : Rows} {b : Nat} {F : Fz} {φ : List UInt8 → Int → Int → Int → Int → Fz → Prop} (hh : atR botX h b φ F) : ∃ s p n bd er, h.live b = some (rrow s p n bd er) ∧ φ s p n bd er F := by
  rcases atR_or botX h b φ with e | ⟨s, p, n, bd, er, e1, e2⟩
  · rw [e] at hh; exact hh.elim
  · rw [e2] at hh; exact ⟨s, p, n, bd, er, e1, hh⟩
noncomputable abbrev fam32 (s : List UInt8) (n bd er : Int) (i : Nat) : St := ⟨[.ptr false 0 0 0, .any, .any, .any, .any, .any, .any, .any, .any, .any, .any, .any], [some (rrow s i n bd er)]⟩
noncomputable abbrev fam40 (s : List UInt8) (n bd er : Int) (a i : Nat) : St := ⟨[.ptr false 0 0 0, .any, .any, .int .i64 a, .any, .any, .any, .any, .any, .any, .any, .any, .any, .any, .any, .any, .any, .any, .any, .any, .any, .any, .any, .any, .any, .any, .any, .any, .any, .any, .any, .any, .any, .any, .any, .any, .any, .any, .any, .any], [some (rrow s i n bd er)]⟩
noncomputable abbrev fam41 (s w : List UInt8) (n bd er : Int) (j p : Nat) : St := ⟨[.ptr false 0 0 0, .str w, .any, .any, .int .i64 (j : Nat), .any, .any, .any, .any, .any, .any, .any, .any, .any, .any, .any, .any, .any, .any, .any, .any, .any, .any, .any, .any, .any, .any, .any, .any, .any, .any, .any, .any, .any, .any, .any, .any], [some (rrow s p n bd er)]⟩
def spec33 : CallSpec := fun args h k => match args with
  | [.ptr false b 0 0] => atR False h b fun s p _ _ _ => 0 ≤ p ∧ k (.int .u8 (hbI s p)) h
  | _ => False
def spec34 : CallSpec := fun args h k => match args with
  | [.int .u8 c] => k (.bool (wordly c)) h
  | _ => False
def spec24 : CallSpec := fun args h k => match args with
  | [.ptr false b 0 0, .int .i64 at_, .int .i64 c] => atR False h b fun s p n bd er => bif er == 0 then k (.tup []) (h.set b (some (rrow s p n at_ c))) else k (.tup []) h
  | _ => False
noncomputable abbrev envR (R : Nat → RoRow) : Env Prop := (((base R).addCall 33 spec33).addCall 34 spec34).addCall 24 spec24
end Go.Dc.Ke
end
section
set_option linter.unusedVariables false
set_option linter.unusedSimpArgs false
namespace Go.Dc.Ke
open Go.Proofs Go.RowKit Go.Shelf
set_option maxRecDepth 100000
theorem vc33 (R : Nat → RoRow) (s : List UInt8) (p n bd er : Int) (Q : AV → Rows → Prop) : vcd (base R) 1000 33 fi33 [.ptr false 0 0 0] [some (rrow s p n bd er)] Q = (bif decide (p < (↑s.length : Int)) then bif decide (0 ≤ p) && decide (p < (↑s.length : Int)) then Q (AV.int IntKind.u8 (↑(s.getD p.toNat 0).toNat : Int)) [some (Row.lst 57 5 [AV.agg [AV.str s, AV.int IntKind.i64 p, AV.int IntKind.i64 n, AV.int IntKind.i64 bd, AV.int IntKind.i64 er]])] else False else Q (AV.int IntKind.u8 0) [some (Row.lst 57 5 [AV.agg [AV.str s, AV.int IntKind.i64 p, AV.int IntKind.i64 n, AV.int IntKind.i64 bd, AV.int IntKind.i64 er]])]) := by kernel_rfl
theorem vc34 (R : Nat → RoRow) (c : Int) (Q : AV → Rows → Prop) : vcd (base R) 1000 34 fi34 [.int .u8 c] [] Q = (bif decide (c > 96) then bif decide (c < 123) then Q (AV.bool true) [] else bif decide (c > 47) then bif decide (c < 58) then Q (AV.bool true) [] else Q (AV.bool (c == 45)) [] else Q (AV.bool (c == 45)) [] else bif decide (c > 47) then bif decide (c < 58) then Q (AV.bool true) [] else Q (AV.bool (c == 45)) [] else Q (AV.bool (c == 45)) []) := by kernel_rfl
theorem vc24 (R : Nat → RoRow) (s : List UInt8) (p n bd er c d : Int) (Q : AV → Rows → Prop) : vcd (base R) 1000 24 fi24 [.ptr false 0 0 0, .int .i64 c, .int .i64 d] [some (rrow s p n bd er)] Q = (bif er == 0 then Q (AV.tup []) [some (Row.lst 57 5 [AV.agg [AV.str s, AV.int IntKind.i64 p, AV.int IntKind.i64 n, AV.int IntKind.i64 c, AV.int IntKind.i64 d]])] else Q (AV.tup []) [some (Row.lst 57 5 [AV.agg [AV.str s, AV.int IntKind.i64 p, AV.int IntKind.i64 n, AV.int IntKind.i64 bd, AV.int IntKind.i64 er]])]) := by kernel_rfl
theorem vr32 (R : Nat → RoRow) (s : List UInt8) (n bd er : Int) (i : Nat) (k : Exit → St → Prop) : rnd (envR R) 1000 32 (loopOf fi32 0) (fam32 s n bd er i) k = (((↑i : Int) - 0).NonNeg ∧ bif hbI s (↑i : Int) == 32 then k Exit.normal (St.mk [AV.ptr false 0 0 0, AV.any, AV.ptr false 0 0 0, AV.int IntKind.u8 (hbI s (↑i : Int)), AV.bool true, AV.ptr false 0 0 0, AV.ptr false 0 0 0, AV.ptr false 0 0 1, AV.int IntKind.i64 (↑i : Int), AV.int IntKind.i64 (IntKind.i64.wrap ((↑i : Int) + 1)), AV.ptr false 0 0 0, AV.ptr false 0 0 1] [some (Row.lst 57 5 [AV.agg [AV.str s, AV.int IntKind.i64 (IntKind.i64.wrap ((↑i : Int) + 1)), AV.int IntKind.i64 n, AV.int IntKind.i64 bd, AV.int IntKind.i64 er]])]) else k (Exit.exit 0) (St.mk [AV.ptr false 0 0 0, AV.any, AV.ptr false 0 0 0, AV.int IntKind.u8 (hbI s (↑i : Int)), AV.bool false, AV.any, AV.any, AV.any, AV.any, AV.any, AV.any, AV.any] [some (Row.lst 57 5 [AV.agg [AV.str s, AV.int IntKind.i64 (↑i : Int), AV.int IntKind.i64 n, AV.int IntKind.i64 bd, AV.int IntKind.i64 er]])])) := by kernel_rfl
theorem vr40 (R : Nat → RoRow) (s : List UInt8) (n bd er : Int) (a i : Nat) (k : Exit → St → Prop) : rnd (envR R) 1000 40 (loopOf fi40 0) (fam40 s n bd er a i) k = (((↑i : Int) - 0).NonNeg ∧ bif wordly (hbI s (↑i : Int)) then k Exit.normal (St.mk [AV.ptr false 0 0 0, AV.any, AV.any, AV.int IntKind.i64 (↑a : Int), AV.any, AV.any, AV.any, AV.any, AV.ptr false 0 0 0, AV.int IntKind.u8 (hbI s (↑i : Int)), AV.bool true, AV.ptr false 0 0 0, AV.ptr false 0 0 0, AV.ptr false 0 0 1, AV.int IntKind.i64 (↑i : Int), AV.int IntKind.i64 (IntKind.i64.wrap ((↑i : Int) + 1)), AV.ptr false 0 0 0, AV.ptr false 0 0 1, AV.any, AV.any, AV.any, AV.any, AV.any, AV.any, AV.any, AV.any, AV.any, AV.any, AV.any, AV.any, AV.any, AV.any, AV.any, AV.any, AV.any, AV.any, AV.any, AV.any, AV.any, AV.any] [some (Row.lst 57 5 [AV.agg [AV.str s, AV.int IntKind.i64 (IntKind.i64.wrap ((↑i : Int) + 1)), AV.int IntKind.i64 n, AV.int IntKind.i64 bd, AV.int IntKind.i64 er]])]) else k (Exit.exit 0) (St.mk [AV.ptr false 0 0 0, AV.any, AV.any, AV.int IntKind.i64 (↑a : Int), AV.any, AV.any, AV.any, AV.any, AV.ptr false 0 0 0, AV.int IntKind.u8 (hbI s (↑i : Int)), AV.bool false, AV.any, AV.any, AV.any, AV.any, AV.any, AV.any, AV.any, AV.any, AV.any, AV.any, AV.any, AV.any, AV.any, AV.any, AV.any, AV.any, AV.any, AV.any, AV.any, AV.any, AV.any, AV.any, AV.any, AV.any, AV.any, AV.any, AV.any, AV.any, AV.any] [some (Row.lst 57 5 [AV.agg [AV.str s, AV.int IntKind.i64 (↑i : Int), AV.int IntKind.i64 n, AV.int IntKind.i64 bd, AV.int IntKind.i64 er]])])) := by kernel_rfl
theorem vr41 (R : Nat → RoRow) (s w : List UInt8) (n bd : Int) (j p : Nat) (k : Exit → St → Prop) : rnd (envR R) 1000 41 (loopOf fi41 0) (fam41 s w n bd 0 j p) k = (bif decide ((↑j : Int) < (↑w.length : Int)) then bif true && decide ((↑j : Int) < (↑w.length : Int)) then ((↑p : Int) - 0).NonNeg ∧ bif hbI s (↑p : Int) != (↑(w.getD (↑j : Int).toNat 0).toNat : Int) then k Exit.normal (St.mk [AV.ptr false 0 0 0, AV.str w, AV.any, AV.any, AV.int IntKind.i64 (IntKind.i64.wrap ((↑j : Int) + 1)), AV.int IntKind.i64 (↑j : Int), AV.str w, AV.int IntKind.i64 (↑w.length : Int), AV.bool (decide ((↑j : Int) < (↑w.length : Int))), AV.bool true, AV.ptr false 0 0 0, AV.ptr false 0 0 0, AV.ptr false 0 0 4, AV.int IntKind.i64 0, AV.bool true, AV.bool true, AV.int IntKind.i64 (↑j : Int), AV.int IntKind.i64 (IntKind.i64.wrap ((↑j : Int) + 1)), AV.ptr false 0 0 0, AV.int IntKind.u8 (hbI s (↑p : Int)), AV.str w, AV.int IntKind.i64 (↑j : Int), AV.int IntKind.u8 (↑(w.getD (↑j : Int).toNat 0).toNat : Int), AV.bool true, AV.ptr false 0 0 0, AV.ptr false 0 0 0, AV.ptr false 0 0 0, AV.ptr false 0 0 1, AV.int IntKind.i64 (↑p : Int), AV.tup [], AV.ptr false 0 0 0, AV.ptr false 0 0 0, AV.ptr false 0 0 1, AV.int IntKind.i64 (↑p : Int), AV.int IntKind.i64 (IntKind.i64.wrap ((↑p : Int) + 1)), AV.ptr false 0 0 0, AV.ptr false 0 0 1] [some (Row.lst 57 5 [AV.agg [AV.str s, AV.int IntKind.i64 (IntKind.i64.wrap ((↑p : Int) + 1)), AV.int IntKind.i64 n, AV.int IntKind.i64 (↑p : Int), AV.int IntKind.i64 3]])]) else k Exit.normal (St.mk [AV.ptr false 0 0 0, AV.str w, AV.any, AV.any, AV.int IntKind.i64 (IntKind.i64.wrap ((↑j : Int) + 1)), AV.int IntKind.i64 (↑j : Int), AV.str w, AV.int IntKind.i64 (↑w.length : Int), AV.bool (decide ((↑j : Int) < (↑w.length : Int))), AV.bool true, AV.ptr false 0 0 0, AV.ptr false 0 0 0, AV.ptr false 0 0 4, AV.int IntKind.i64 0, AV.bool true, AV.bool true, AV.int IntKind.i64 (↑j : Int), AV.int IntKind.i64 (IntKind.i64.wrap ((↑j : Int) + 1)), AV.ptr false 0 0 0, AV.int IntKind.u8 (hbI s (↑p : Int)), AV.str w, AV.int IntKind.i64 (↑j : Int), AV.int IntKind.u8 (↑(w.getD (↑j : Int).toNat 0).toNat : Int), AV.bool false, AV.any, AV.any, AV.any, AV.any, AV.any, AV.any, AV.ptr false 0 0 0, AV.ptr false 0 0 0, AV.ptr false 0 0 1, AV.int IntKind.i64 (↑p : Int), AV.int IntKind.i64 (IntKind.i64.wrap ((↑p : Int) + 1)), AV.ptr false 0 0 0, AV.ptr false 0 0 1] [some (Row.lst 57 5 [AV.agg [AV.str s, AV.int IntKind.i64 (IntKind.i64.wrap ((↑p : Int) + 1)), AV.int IntKind.i64 n, AV.int IntKind.i64 bd, AV.int IntKind.i64 0]])]) else False else k (Exit.exit 0) (St.mk [AV.ptr false 0 0 0, AV.str w, AV.any, AV.any, AV.int IntKind.i64 (↑j : Int), AV.int IntKind.i64 (↑j : Int), AV.str w, AV.int IntKind.i64 (↑w.length : Int), AV.bool (decide ((↑j : Int) < (↑w.length : Int))), AV.bool false, AV.tup [], AV.tup [], AV.tup [], AV.tup [], AV.tup [], AV.bool false, AV.any, AV.any, AV.any, AV.any, AV.any, AV.any, AV.any, AV.any, AV.any, AV.any, AV.any, AV.any, AV.any, AV.any, AV.any, AV.any, AV.any, AV.any, AV.any, AV.any, AV.any] [some (Row.lst 57 5 [AV.agg [AV.str s, AV.int IntKind.i64 (↑p : Int), AV.int IntKind.i64 n, AV.int IntKind.i64 bd, AV.int IntKind.i64 0]])])) := by kernel_rfl
theorem safe33 (R : Nat → RoRow) (s : List UInt8) (p n bd er : Int) (hp : 0 ≤ p) : SafeCall Try.prog R 33 [.ptr false 0 0 0] [some (rrow s p n bd er)] fun v h => v = .int .u8 (hbI s p) ∧ h = [some (rrow s p n bd er)] := by
  refine SafeCall.by mixed (base_ok R) (f := 33) (fi := fi33) (by kernel_rfl) 1000 (vc33 R s p n bd er _) (hcB (fun h => hcT (by simp at h ⊢; omega) ⟨rfl, rfl⟩) fun h => ?_)
  have h := of_decide_eq_false h
  exact ⟨by rw [hbI_end (by omega)], rfl⟩
theorem spec33_ok (R : Nat → RoRow) : ∀ args h k, spec33 args h k → SafeCall Try.prog R 33 args h k := by
  intro args h k hk
  unfold spec33 at hk
  split at hk
  · rename_i b
    obtain ⟨s, p, n, bd, er, hb, h0, hk⟩ := atR_of hk
    refine (SafeCall.at1 (Q := fun v r' => v = .int .u8 (hbI s p) ∧ r' = rrow s p n bd er) hb (rrow_g s p n bd er) (vw1 b) ((safe33 R s p n bd er h0).mono ?_)).mono ?_
    · rintro v h' ⟨rfl, rfl⟩
      exact ⟨_, _, rfl, rfl, rrow_g _ _ _ _ _, rfl, rfl⟩
    · rintro v h' ⟨r', rfl, rfl, rfl⟩
      rw [live_set_self hb]; exact hk
  · exact hk.elim
theorem safe34 (R : Nat → RoRow) (c : Int) : SafeCall Try.prog R 34 [.int .u8 c] [] fun v _ => v = .bool (wordly c) := by
  refine SafeCall.by mixed (base_ok R) (f := 34) (fi := fi34) (by kernel_rfl) 1000 (vc34 R c _) ?_
  have e : wordly c = ((decide (97 ≤ c) && decide (c ≤ 122)) || (decide (48 ≤ c) && decide (c ≤ 57)) || c == 45) := rfl
  rw [e]
  refine hcB (fun h1 => hcB (fun h2 => ?_) fun h2 => hcB (fun h3 => hcB (fun h4 => ?_) fun h4 => ?_) fun h3 => ?_) fun h1 => hcB (fun h3 => hcB (fun h4 => ?_) fun h4 => ?_) fun h3 => ?_
  all_goals (simp only [decide_eq_true_eq, decide_eq_false_iff_not] at *; congr 1; rw [eq_comm, Bool.eq_iff_iff]; simp; omega)
theorem spec34_ok (R : Nat → RoRow) : ∀ args h k, spec34 args h k → SafeCall Try.prog R 34 args h k := by
  intro args h k hk
  unfold spec34 at hk
  split at hk
  · rename_i c
    refine ((safe34 R c).alone rfl (by rintro v rfl; rfl) h).mono ?_
    rintro v h' ⟨rfl, rfl⟩; exact hk
  · exact hk.elim
theorem spec24_ok (R : Nat → RoRow) : ∀ args h k, spec24 args h k → SafeCall Try.prog R 24 args h k := by
  intro args h k hk
  unfold spec24 at hk
  split at hk
  · rename_i b c d
    obtain ⟨s, p, n, bd, er, hb, hk⟩ := atR_of hk
    refine (SafeCall.at1 (Q := fun v r' => v = .tup [] ∧ r' = bif er == 0 then rrow s p n c d else rrow s p n bd er) hb (rrow_g s p n bd er) (VwL.cons (Vw.ptrI (by decide) rfl) (VwL.cons Vw.intI (VwL.cons Vw.intI VwL.nil))) (SafeCall.by mixed (base_ok R) (f := 24) (fi := fi24) (by kernel_rfl) 1000 (vc24 R s p n bd er c d _) (hcB (fun e => ?_) fun e => ?_))).mono ?_
    · exact ⟨_, _, rfl, rfl, rrow_g _ _ _ _ _, rfl, by rw [e]; rfl⟩
    · exact ⟨_, _, rfl, rfl, rrow_g _ _ _ _ _, rfl, by rw [e]; rfl⟩
    · rintro v h' ⟨r', rfl, rfl, rfl⟩
      cases e : er == 0 with
      | true => rw [e] at hk; exact hk
      | false => rw [e] at hk; simp only [cond_false]; rw [live_set_self hb]; exact hk
  · exact hk.elim
theorem envR_ok (R : Nat → RoRow) : EnvOK Try.prog (envR R) id := (((base_ok R).addCall (f := 33) (fi := fi33) (by kernel_rfl) (spec33_ok R)).addCall (f := 34) (fi := fi34) (by kernel_rfl) (spec34_ok R)).addCall (f := 24) (fi := fi24) (by kernel_rfl) (spec24_ok R)
/-! blanks -/
theorem tm32_spr (s : List UInt8) (n bd er : Int) (i : Nat) : (fam32 s n bd er i).tmps = spr [(0, .ptr false 0 0 0)] 0 12 := by kernel_rfl
theorem scan_room {p : Int → Bool} (h0 : p 0 = false) (s : List UInt8) (a : Nat) : scan p s a = a ∨ scan p s a ≤ s.length := by
  rcases Nat.lt_or_ge s.length a with h | h
  · exact .inl (scan_stop (by rw [hbI_end (by omega)]; exact h0))
  · exact .inr (scan_le h)
theorem loop32 (R : Nat → RoRow) (s : List UInt8) (n bd er : Int) (a : Nat) (hs : s.length ≤ 100000) (TM : List AV) (hT : TM.length = 12) (h0 : nthV TM 0 = .ptr false 0 0 0) :
    Safe Try.prog R (.block 0 (.loop (loopOf fi32 0))) ⟨TM, [some (rrow s a n bd er)]⟩ fun e st => e = .normal ∧ st = fam32 s n bd er (scan isB s a) := by
  refine (loop_block (I := {i : Nat // scan isB s i = scan isB s a}) (fam := fun i => fam32 s n bd er i.1) (fun i => s.length - i.1) (X := fun e st => e = .exit 0 ∧ st = fam32 s n bd er (scan isB s a)) (i0 := ⟨a, rfl⟩) (f := some) ?_ ?_ ?_ ?_).mono ?_
  · refine ⟨View.preX (L := [some (rrow s a n bd er)]) (tl := []) (fun c q h => by rw [live1 h]; exact (rrow_g _ _ _ _ _).vw _ _), ?_⟩
    rw [tm32_spr]
    exact VwL.ofKnown hT ⟨by rw [h0]; exact Vw.ptrI (by simp) rfl, trivial⟩
  · intro c _; rfl
  · intro i; exact Nat.le_refl _
  · rintro ⟨i, he⟩
    refine Safe.by mixed (envR_ok R) (f := 32) (fi := fi32) (i := 0) (by kernel_rfl) (b := .loop (loopOf fi32 0)) (by kernel_rfl) (subs_loop _) 1000 (vr32 R s n bd er i _) ?_
    refine ⟨show (0 : Int) ≤ (i : Int) - 0 by omega, hcB (fun h => ?_) fun h => ?_⟩
    · have hlt : i < s.length := hbI_lt (p := isB) (by decide) h
      refine ⟨⟨i + 1, (scan_step hlt h).trans he⟩, by show s.length - (i + 1) < s.length - i; omega, ?_⟩
      rw [wrapSucc i (by omega)]
      exact Fit.row1 (rrow_g _ _ _ _ _) (by (repeat' (first | with_reducible exact VwL.nil | with_reducible refine VwL.cons ?_ ?_ | with_reducible exact Vw.anyI | with_reducible exact Vw.strI | with_reducible exact Vw.boolI | with_reducible exact Vw.intI | with_reducible exact Vw.nilsI | exact Vw.ptrI (by simp) rfl | exact Vw.slI (by simp) rfl | with_reducible refine Vw.aggI ?_ | exact Vw.gndI rfl)))
    · refine ⟨fam32 s n bd er i, Fit.row1 (rrow_g _ _ _ _ _) (by (repeat' (first | with_reducible exact VwL.nil | with_reducible refine VwL.cons ?_ ?_ | with_reducible exact Vw.anyI | with_reducible exact Vw.strI | with_reducible exact Vw.boolI | with_reducible exact Vw.intI | with_reducible exact Vw.nilsI | exact Vw.ptrI (by simp) rfl | exact Vw.slI (by simp) rfl | with_reducible refine Vw.aggI ?_ | exact Vw.gndI rfl))), rfl, ?_⟩
      rw [← he, scan_stop h]
  · rintro e st ⟨e0, rfl, rfl, rfl⟩
    exact ⟨rfl, rfl⟩
/-! words -/
theorem tm40_spr (s : List UInt8) (n bd er : Int) (a i : Nat) : (fam40 s n bd er a i).tmps = spr [(0, .ptr false 0 0 0), (3, .int .i64 a)] 0 40 := by kernel_rfl
theorem loop40 (R : Nat → RoRow) (s : List UInt8) (n bd er : Int) (a : Nat) (hs : s.length ≤ 100000) (TM : List AV) (hT : TM.length = 40) (h0 : nthV TM 0 = .ptr false 0 0 0) (h3 : nthV TM 3 = .int .i64 a) :
    Safe Try.prog R (.block 0 (.loop (loopOf fi40 0))) ⟨TM, [some (rrow s a n bd er)]⟩ fun e st => e = .normal ∧ st = fam40 s n bd er a (scan wordly s a) := by
  refine (loop_block (I := {i : Nat // scan wordly s i = scan wordly s a}) (fam := fun i => fam40 s n bd er a i.1) (fun i => s.length - i.1) (X := fun e st => e = .exit 0 ∧ st = fam40 s n bd er a (scan wordly s a)) (i0 := ⟨a, rfl⟩) (f := some) ?_ ?_ ?_ ?_).mono ?_
  · refine ⟨View.preX (L := [some (rrow s a n bd er)]) (tl := []) (fun c q h => by rw [live1 h]; exact (rrow_g _ _ _ _ _).vw _ _), ?_⟩
    rw [tm40_spr]
    exact VwL.ofKnown hT ⟨by rw [h0]; exact Vw.ptrI (by simp) rfl, by rw [h3]; exact Vw.intI, trivial⟩
  · intro c _; rfl
  · intro i; exact Nat.le_refl _
  · rintro ⟨i, he⟩
    refine Safe.by mixed (envR_ok R) (f := 40) (fi := fi40) (i := 0) (by kernel_rfl) (b := .loop (loopOf fi40 0)) (by kernel_rfl) (subs_loop _) 1000 (vr40 R s n bd er a i _) ?_
    refine ⟨show (0 : Int) ≤ (i : Int) - 0 by omega, hcB (fun h => ?_) fun h => ?_⟩
    · have hlt : i < s.length := hbI_lt (p := wordly) (by decide) h
      refine ⟨⟨i + 1, (scan_step hlt h).trans he⟩, by show s.length - (i + 1) < s.length - i; omega, ?_⟩
      rw [wrapSucc i (by omega)]
      exact Fit.row1 (rrow_g _ _ _ _ _) (by (repeat' (first | with_reducible exact VwL.nil | with_reducible refine VwL.cons ?_ ?_ | with_reducible exact Vw.anyI | with_reducible exact Vw.strI | with_reducible exact Vw.boolI | with_reducible exact Vw.intI | with_reducible exact Vw.nilsI | exact Vw.ptrI (by simp) rfl | exact Vw.slI (by simp) rfl | with_reducible refine Vw.aggI ?_ | exact Vw.gndI rfl)))
    · refine ⟨fam40 s n bd er a i, Fit.row1 (rrow_g _ _ _ _ _) (by (repeat' (first | with_reducible exact VwL.nil | with_reducible refine VwL.cons ?_ ?_ | with_reducible exact Vw.anyI | with_reducible exact Vw.strI | with_reducible exact Vw.boolI | with_reducible exact Vw.intI | with_reducible exact Vw.nilsI | exact Vw.ptrI (by simp) rfl | exact Vw.slI (by simp) rfl | with_reducible refine Vw.aggI ?_ | exact Vw.gndI rfl))), rfl, ?_⟩
      rw [← he, scan_stop h]
  · rintro e st ⟨e0, rfl, rfl, rfl⟩
    exact ⟨rfl, rfl⟩
end Go.Dc.Ke
end
section
set_option linter.unusedVariables false
set_option linter.unusedSimpArgs false
namespace Go.Dc.Ke
open Go.Proofs Go.RowKit Go.Shelf
set_option maxRecDepth 100000
def lp32 (s : List UInt8) (n bd er : Int) (a : Nat) : LoopSp := fun st k => s.length ≤ 100000 ∧ st.tmps.length = 12 ∧ nthV st.tmps 0 = .ptr false 0 0 0 ∧ st.rows = [some (rrow s a n bd er)] ∧ k .normal (fam32 s n bd er (scan isB s a))
def lp40 (s : List UInt8) (n bd er : Int) (a : Nat) : LoopSp := fun st k => s.length ≤ 100000 ∧ st.tmps.length = 40 ∧ nthV st.tmps 0 = .ptr false 0 0 0 ∧ nthV st.tmps 3 = .int .i64 a ∧ st.rows = [some (rrow s a n bd er)] ∧ k .normal (fam40 s n bd er a (scan wordly s a))
def lp41 (s w : List UInt8) (n bd er : Int) (a : Nat) : LoopSp := fun st k => a ≤ 200000 ∧ w.length ≤ 100000 ∧ st.tmps.length = 37 ∧ nthV st.tmps 0 = .ptr false 0 0 0 ∧ nthV st.tmps 1 = .str w ∧ nthV st.tmps 4 = .int .i64 0 ∧ st.rows = [some (rrow s a n bd er)] ∧
  bif er == 0 then (bif (exN s w a).1 then k .normal (fam41 s w n bd 0 w.length (exN s w a).2) else ∀ j, k .normal (fam41 s w n (exN s w a).2 3 j ((exN s w a).2 + 1))) else k .normal (fam41 s w n bd er 0 a)
noncomputable abbrev env32 (R : Nat → RoRow) (s : List UInt8) (n bd er : Int) (a : Nat) : Env Prop := (envR R).addLoop 32 0 (lp32 s n bd er a)
noncomputable abbrev env40 (R : Nat → RoRow) (s : List UInt8) (n bd er : Int) (a : Nat) : Env Prop := (envR R).addLoop 40 0 (lp40 s n bd er a)
noncomputable abbrev env41 (R : Nat → RoRow) (s w : List UInt8) (n bd er : Int) (a : Nat) : Env Prop := (envR R).addLoop 41 0 (lp41 s w n bd er a)
end Go.Dc.Ke
end
section
set_option linter.unusedVariables false
set_option linter.unusedSimpArgs false
namespace Go.Dc.Ke
open Go.Proofs Go.RowKit Go.Shelf
set_option maxRecDepth 100000
theorem vr41g (R : Nat → RoRow) (s w : List UInt8) (n bd er : Int) (j p : Nat) (k : Exit → St → Prop) : rnd (envR R) 1000 41 (loopOf fi41 0) (fam41 s w n bd er j p) k = (bif decide ((↑j : Int) < (↑w.length : Int)) then bif er == 0 then bif true && decide ((↑j : Int) < (↑w.length : Int)) then ((↑p : Int) - 0).NonNeg ∧ bif hbI s (↑p : Int) != (↑(w.getD (↑j : Int).toNat 0).toNat : Int) then bif er == 0 then k Exit.normal (St.mk [AV.ptr false 0 0 0, AV.str w, AV.any, AV.any, AV.int IntKind.i64 (IntKind.i64.wrap ((↑j : Int) + 1)), AV.int IntKind.i64 (↑j : Int), AV.str w, AV.int IntKind.i64 (↑w.length : Int), AV.bool (decide ((↑j : Int) < (↑w.length : Int))), AV.bool true, AV.ptr false 0 0 0, AV.ptr false 0 0 0, AV.ptr false 0 0 4, AV.int IntKind.i64 er, AV.bool (er == 0), AV.bool true, AV.int IntKind.i64 (↑j : Int), AV.int IntKind.i64 (IntKind.i64.wrap ((↑j : Int) + 1)), AV.ptr false 0 0 0, AV.int IntKind.u8 (hbI s (↑p : Int)), AV.str w, AV.int IntKind.i64 (↑j : Int), AV.int IntKind.u8 (↑(w.getD (↑j : Int).toNat 0).toNat : Int), AV.bool true, AV.ptr false 0 0 0, AV.ptr false 0 0 0, AV.ptr false 0 0 0, AV.ptr false 0 0 1, AV.int IntKind.i64 (↑p : Int), AV.tup [], AV.ptr false 0 0 0, AV.ptr false 0 0 0, AV.ptr false 0 0 1, AV.int IntKind.i64 (↑p : Int), AV.int IntKind.i64 (IntKind.i64.wrap ((↑p : Int) + 1)), AV.ptr false 0 0 0, AV.ptr false 0 0 1] [some (Row.lst 57 5 [AV.agg [AV.str s, AV.int IntKind.i64 (IntKind.i64.wrap ((↑p : Int) + 1)), AV.int IntKind.i64 n, AV.int IntKind.i64 (↑p : Int), AV.int IntKind.i64 3]])]) else k Exit.normal (St.mk [AV.ptr false 0 0 0, AV.str w, AV.any, AV.any, AV.int IntKind.i64 (IntKind.i64.wrap ((↑j : Int) + 1)), AV.int IntKind.i64 (↑j : Int), AV.str w, AV.int IntKind.i64 (↑w.length : Int), AV.bool (decide ((↑j : Int) < (↑w.length : Int))), AV.bool true, AV.ptr false 0 0 0, AV.ptr false 0 0 0, AV.ptr false 0 0 4, AV.int IntKind.i64 er, AV.bool (er == 0), AV.bool true, AV.int IntKind.i64 (↑j : Int), AV.int IntKind.i64 (IntKind.i64.wrap ((↑j : Int) + 1)), AV.ptr false 0 0 0, AV.int IntKind.u8 (hbI s (↑p : Int)), AV.str w, AV.int IntKind.i64 (↑j : Int), AV.int IntKind.u8 (↑(w.getD (↑j : Int).toNat 0).toNat : Int), AV.bool true, AV.ptr false 0 0 0, AV.ptr false 0 0 0, AV.ptr false 0 0 0, AV.ptr false 0 0 1, AV.int IntKind.i64 (↑p : Int), AV.tup [], AV.ptr false 0 0 0, AV.ptr false 0 0 0, AV.ptr false 0 0 1, AV.int IntKind.i64 (↑p : Int), AV.int IntKind.i64 (IntKind.i64.wrap ((↑p : Int) + 1)), AV.ptr false 0 0 0, AV.ptr false 0 0 1] [some (Row.lst 57 5 [AV.agg [AV.str s, AV.int IntKind.i64 (IntKind.i64.wrap ((↑p : Int) + 1)), AV.int IntKind.i64 n, AV.int IntKind.i64 bd, AV.int IntKind.i64 er]])]) else k Exit.normal (St.mk [AV.ptr false 0 0 0, AV.str w, AV.any, AV.any, AV.int IntKind.i64 (IntKind.i64.wrap ((↑j : Int) + 1)), AV.int IntKind.i64 (↑j : Int), AV.str w, AV.int IntKind.i64 (↑w.length : Int), AV.bool (decide ((↑j : Int) < (↑w.length : Int))), AV.bool true, AV.ptr false 0 0 0, AV.ptr false 0 0 0, AV.ptr false 0 0 4, AV.int IntKind.i64 er, AV.bool (er == 0), AV.bool true, AV.int IntKind.i64 (↑j : Int), AV.int IntKind.i64 (IntKind.i64.wrap ((↑j : Int) + 1)), AV.ptr false 0 0 0, AV.int IntKind.u8 (hbI s (↑p : Int)), AV.str w, AV.int IntKind.i64 (↑j : Int), AV.int IntKind.u8 (↑(w.getD (↑j : Int).toNat 0).toNat : Int), AV.bool false, AV.any, AV.any, AV.any, AV.any, AV.any, AV.any, AV.ptr false 0 0 0, AV.ptr false 0 0 0, AV.ptr false 0 0 1, AV.int IntKind.i64 (↑p : Int), AV.int IntKind.i64 (IntKind.i64.wrap ((↑p : Int) + 1)), AV.ptr false 0 0 0, AV.ptr false 0 0 1] [some (Row.lst 57 5 [AV.agg [AV.str s, AV.int IntKind.i64 (IntKind.i64.wrap ((↑p : Int) + 1)), AV.int IntKind.i64 n, AV.int IntKind.i64 bd, AV.int IntKind.i64 er]])]) else False else k (Exit.exit 0) (St.mk [AV.ptr false 0 0 0, AV.str w, AV.any, AV.any, AV.int IntKind.i64 (↑j : Int), AV.int IntKind.i64 (↑j : Int), AV.str w, AV.int IntKind.i64 (↑w.length : Int), AV.bool (decide ((↑j : Int) < (↑w.length : Int))), AV.bool true, AV.ptr false 0 0 0, AV.ptr false 0 0 0, AV.ptr false 0 0 4, AV.int IntKind.i64 er, AV.bool (er == 0), AV.bool false, AV.any, AV.any, AV.any, AV.any, AV.any, AV.any, AV.any, AV.any, AV.any, AV.any, AV.any, AV.any, AV.any, AV.any, AV.any, AV.any, AV.any, AV.any, AV.any, AV.any, AV.any] [some (Row.lst 57 5 [AV.agg [AV.str s, AV.int IntKind.i64 (↑p : Int), AV.int IntKind.i64 n, AV.int IntKind.i64 bd, AV.int IntKind.i64 er]])]) else k (Exit.exit 0) (St.mk [AV.ptr false 0 0 0, AV.str w, AV.any, AV.any, AV.int IntKind.i64 (↑j : Int), AV.int IntKind.i64 (↑j : Int), AV.str w, AV.int IntKind.i64 (↑w.length : Int), AV.bool (decide ((↑j : Int) < (↑w.length : Int))), AV.bool false, AV.tup [], AV.tup [], AV.tup [], AV.tup [], AV.tup [], AV.bool false, AV.any, AV.any, AV.any, AV.any, AV.any, AV.any, AV.any, AV.any, AV.any, AV.any, AV.any, AV.any, AV.any, AV.any, AV.any, AV.any, AV.any, AV.any, AV.any, AV.any, AV.any] [some (Row.lst 57 5 [AV.agg [AV.str s, AV.int IntKind.i64 (↑p : Int), AV.int IntKind.i64 n, AV.int IntKind.i64 bd, AV.int IntKind.i64 er]])])) := by kernel_rfl
theorem vc32 (R : Nat → RoRow) (s : List UInt8) (n bd er : Int) (a : Nat) (Q : AV → Rows → Prop) : vcd (env32 R s n bd er a) 1000 32 fi32 [.ptr false 0 0 0] [some (rrow s a n bd er)] Q = (s.length.le 100000 ∧ 12 = 12 ∧ AV.ptr false 0 0 0 = AV.ptr false 0 0 0 ∧ [some (Row.lst 57 5 [AV.agg [AV.str s, AV.int IntKind.i64 (↑a : Int), AV.int IntKind.i64 n, AV.int IntKind.i64 bd, AV.int IntKind.i64 er]])] = [some (Row.lst 57 5 [AV.agg [AV.str s, AV.int IntKind.i64 (↑a : Int), AV.int IntKind.i64 n, AV.int IntKind.i64 bd, AV.int IntKind.i64 er]])] ∧ Q (AV.tup []) [some (Row.lst 57 5 [AV.agg [AV.str s, AV.int IntKind.i64 (↑(scan isB s a) : Int), AV.int IntKind.i64 n, AV.int IntKind.i64 bd, AV.int IntKind.i64 er]])]) := by kernel_rfl
theorem vc40 (R : Nat → RoRow) (s : List UInt8) (n bd : Int) (a : Nat) (Q : AV → Rows → Prop) : vcd (env40 R s n bd 0 a) 1000 40 fi40 [.ptr false 0 0 0] [some (rrow s a n bd 0)] Q = (s.length.le 100000 ∧ 40 = 40 ∧ AV.ptr false 0 0 0 = AV.ptr false 0 0 0 ∧ AV.int IntKind.i64 (↑a : Int) = AV.int IntKind.i64 (↑a : Int) ∧ [some (Row.lst 57 5 [AV.agg [AV.str s, AV.int IntKind.i64 (↑a : Int), AV.int IntKind.i64 n, AV.int IntKind.i64 bd, AV.int IntKind.i64 0]])] = [some (Row.lst 57 5 [AV.agg [AV.str s, AV.int IntKind.i64 (↑a : Int), AV.int IntKind.i64 n, AV.int IntKind.i64 bd, AV.int IntKind.i64 0]])] ∧ bif (↑(scan wordly s a) : Int) == (↑a : Int) then bif slCond (some (↑a : Int)) (some (↑(scan wordly s a) : Int)) s.length then Q (AV.str (List.take (slHi s.length (some (↑(scan wordly s a) : Int)) - slLo (some (↑a : Int))) (List.drop (slLo (some (↑a : Int))) s))) [some (Row.lst 57 5 [AV.agg [AV.str s, AV.int IntKind.i64 (↑(scan wordly s a) : Int), AV.int IntKind.i64 n, AV.int IntKind.i64 (↑(scan wordly s a) : Int), AV.int IntKind.i64 3]])] else False else bif slCond (some (↑a : Int)) (some (↑(scan wordly s a) : Int)) s.length then Q (AV.str (List.take (slHi s.length (some (↑(scan wordly s a) : Int)) - slLo (some (↑a : Int))) (List.drop (slLo (some (↑a : Int))) s))) [some (Row.lst 57 5 [AV.agg [AV.str s, AV.int IntKind.i64 (↑(scan wordly s a) : Int), AV.int IntKind.i64 n, AV.int IntKind.i64 bd, AV.int IntKind.i64 0]])] else False) := by kernel_rfl
theorem vc41 (R : Nat → RoRow) (s w : List UInt8) (n bd er : Int) (a : Nat) (Q : AV → Rows → Prop) : vcd (env41 R s w n bd er a) 1000 41 fi41 [.ptr false 0 0 0, .str w] [some (rrow s a n bd er)] Q = (a.le 200000 ∧ w.length.le 100000 ∧ 37 = 37 ∧ AV.ptr false 0 0 0 = AV.ptr false 0 0 0 ∧ AV.str w = AV.str w ∧ AV.int IntKind.i64 0 = AV.int IntKind.i64 0 ∧ [some (Row.lst 57 5 [AV.agg [AV.str s, AV.int IntKind.i64 (↑a : Int), AV.int IntKind.i64 n, AV.int IntKind.i64 bd, AV.int IntKind.i64 er]])] = [some (Row.lst 57 5 [AV.agg [AV.str s, AV.int IntKind.i64 (↑a : Int), AV.int IntKind.i64 n, AV.int IntKind.i64 bd, AV.int IntKind.i64 er]])] ∧ bif er == 0 then bif (exN s w a).fst then Q (AV.tup []) [some (Row.lst 57 5 [AV.agg [AV.str s, AV.int IntKind.i64 (↑(exN s w a).snd : Int), AV.int IntKind.i64 n, AV.int IntKind.i64 bd, AV.int IntKind.i64 0]])] else ∀ (j : Nat), Q (AV.tup []) [some (Row.lst 57 5 [AV.agg [AV.str s, AV.int IntKind.i64 (↑((exN s w a).snd + 1) : Int), AV.int IntKind.i64 n, AV.int IntKind.i64 (↑(exN s w a).snd : Int), AV.int IntKind.i64 3]])] else Q (AV.tup []) [some (Row.lst 57 5 [AV.agg [AV.str s, AV.int IntKind.i64 (↑a : Int), AV.int IntKind.i64 n, AV.int IntKind.i64 bd, AV.int IntKind.i64 er]])]) := by kernel_rfl
theorem env32_ok (R : Nat → RoRow) (s : List UInt8) (n bd er : Int) (a : Nat) : EnvOK Try.prog (env32 R s n bd er a) id := (envR_ok R).addLoop (f := 32) (fi := fi32) (by kernel_rfl) (i := 0) (body := .loop (loopOf fi32 0)) (by kernel_rfl) (by
  rintro ⟨TM, rows⟩ k ⟨hs, h1, h2, h3, hk⟩
  simp only at h1 h2 h3
  subst h3
  refine (loop32 R s n bd er a hs TM h1 h2).mono ?_
  rintro e st ⟨rfl, rfl⟩; exact hk)
theorem env40_ok (R : Nat → RoRow) (s : List UInt8) (n bd er : Int) (a : Nat) : EnvOK Try.prog (env40 R s n bd er a) id := (envR_ok R).addLoop (f := 40) (fi := fi40) (by kernel_rfl) (i := 0) (body := .loop (loopOf fi40 0)) (by kernel_rfl) (by
  rintro ⟨TM, rows⟩ k ⟨hs, h1, h2, h3, h4, hk⟩
  simp only at h1 h2 h3 h4
  subst h4
  refine (loop40 R s n bd er a hs TM h1 h2 h3).mono ?_
  rintro e st ⟨rfl, rfl⟩; exact hk)
def spec32 : CallSpec := fun args h k => match args with
  | [.ptr false b 0 0] => atR False h b fun s p n bd er => ∃ a : Nat, p = a ∧ s.length ≤ 100000 ∧ k (.tup []) (h.set b (some (rrow s (blk s a : Nat) n bd er)))
  | _ => False
theorem spec32_ok (R : Nat → RoRow) : ∀ args h k, spec32 args h k → SafeCall Try.prog R 32 args h k := by
  intro args h k hk
  unfold spec32 at hk
  split at hk
  · rename_i b
    obtain ⟨s, p, n, bd, er, hb, a, rfl, hs, hk⟩ := atR_of hk
    refine (SafeCall.at1 (Q := fun v r' => v = .tup [] ∧ r' = rrow s (blk s a : Nat) n bd er) hb (rrow_g _ _ _ _ _) (vw1 b) (SafeCall.by mixed (env32_ok R s n bd er a) (f := 32) (fi := fi32) (by kernel_rfl) 1000 (vc32 R s n bd er a _) ⟨hs, rfl, rfl, rfl, _, _, rfl, rfl, rrow_g _ _ _ _ _, rfl, rfl⟩)).mono ?_
    rintro v h' ⟨r', rfl, rfl, rfl⟩
    exact hk
  · exact hk.elim
/-- A word, where nothing went wrong before. -/
def spec40 : CallSpec := fun args h k => match args with
  | [.ptr false b 0 0] => atR False h b fun s p n bd er => ∃ a : Nat, p = a ∧ a ≤ s.length ∧ s.length ≤ 100000 ∧ er = 0 ∧
      bif Nat.beq (scan wordly s a) a then k (.str []) (h.set b (some (rrow s a n a 3))) else k (.str (sub s a (scan wordly s a))) (h.set b (some (rrow s (scan wordly s a : Nat) n bd 0)))
  | _ => False
theorem spec40_ok (R : Nat → RoRow) : ∀ args h k, spec40 args h k → SafeCall Try.prog R 40 args h k := by
  intro args h k hk
  unfold spec40 at hk
  split at hk
  · rename_i b
    obtain ⟨s, p, n, bd, er, hb, a, rfl, ha, hs, rfl, hk⟩ := atR_of hk
    have h1 := scan_ge wordly s a
    have h2 := scan_le (p := wordly) ha
    have c1 : slCond (some ((a : Nat) : Int)) (some ((scan wordly s a : Nat) : Int)) s.length = true := by simp [slCond]; omega
    have c2 : List.take (slHi s.length (some ((scan wordly s a : Nat) : Int)) - slLo (some ((a : Nat) : Int))) (List.drop (slLo (some ((a : Nat) : Int))) s) = sub s a (scan wordly s a) := by
      show List.take ((((scan wordly s a : Nat) : Int)).toNat - ((a : Nat) : Int).toNat) (List.drop ((a : Nat) : Int).toNat s) = _
      rw [Int.toNat_natCast, Int.toNat_natCast]; rfl
    refine (SafeCall.at1 (Q := fun v r' => bif Nat.beq (scan wordly s a) a then v = .str [] ∧ r' = rrow s a n a 3 else v = .str (sub s a (scan wordly s a)) ∧ r' = rrow s (scan wordly s a : Nat) n bd 0) hb (rrow_g _ _ _ _ _) (vw1 b) (SafeCall.by mixed (env40_ok R s n bd 0 a) (f := 40) (fi := fi40) (by kernel_rfl) 1000 (vc40 R s n bd a _) ⟨hs, rfl, rfl, rfl, rfl, ?_⟩)).mono ?_
    · rw [c1, c2]
      refine hcB (fun e => ?_) fun e => ?_
      · have e' : scan wordly s a = a := by have := eq_of_beq e; omega
        rw [e', Nat.beq_refl]
        exact ⟨_, _, rfl, rfl, rrow_g _ _ _ _ _, by simp [sub], rfl⟩
      · have e' : Nat.beq (scan wordly s a) a = false := by
          cases hq : Nat.beq (scan wordly s a) a with
          | false => rfl
          | true => rw [Nat.eq_of_beq_eq_true hq] at e; simp at e
        rw [e']
        exact ⟨_, _, rfl, rfl, rrow_g _ _ _ _ _, rfl, rfl⟩
    · rintro v h' ⟨r', rfl, hq⟩
      cases e : Nat.beq (scan wordly s a) a with
      | true => rw [e] at hk hq; obtain ⟨rfl, rfl⟩ := hq; exact hk
      | false => rw [e] at hk hq; obtain ⟨rfl, rfl⟩ := hq; exact hk
  · exact hk.elim
/-! a text -/
theorem tm41_spr (s w : List UInt8) (n bd er : Int) (j p : Nat) : (fam41 s w n bd er j p).tmps = spr [(0, .ptr false 0 0 0), (1, .str w), (4, .int .i64 (j : Nat))] 0 37 := by kernel_rfl
theorem exN_step {s w : List UInt8} {j a : Nat} (h : j < w.length) : exN s (w.drop j) a = bif hbI s a == ((w.getD j 0).toNat : Nat) then exN s (w.drop (j + 1)) (a + 1) else (false, a) := by
  rw [List.drop_eq_getElem_cons h]
  have : w.getD j 0 = w[j] := by rw [List.getD_eq_getElem?_getD, List.getElem?_eq_getElem h]; rfl
  rw [this]; rfl
structure T41 (s w : List UInt8) (a : Nat) (x : Bool × Nat) : Prop where
  run : x.1 = false → x.2 ≤ w.length ∧ exN s (w.drop x.2) (a + x.2) = exN s w a
  bad : x.1 = true → (exN s w a).1 = false
theorem loop41 (R : Nat → RoRow) (s w : List UInt8) (n bd er : Int) (a : Nat) (ha : a ≤ 200000) (hw : w.length ≤ 100000) : ∀ st k, lp41 s w n bd er a st k → Safe Try.prog R (.block 0 (.loop (loopOf fi41 0))) st k := by
  rintro ⟨TM, rows⟩ k ⟨_, _, h1, h2, h3, h4, h5, hk⟩
  simp only at h1 h2 h3 h4 h5
  subst h5
  have ini : VwL some 1 (fam41 s w n bd er 0 a).tmps TM := by
    rw [tm41_spr]
    exact VwL.ofKnown h1 ⟨by rw [h2]; exact Vw.ptrI (by simp) rfl, by rw [h3]; exact Vw.strI, by rw [h4]; exact Vw.intI, trivial⟩
  cases hz : er == 0 with
  | false =>
    rw [hz] at hk
    simp only [cond_false] at hk
    refine (loop_block (I := Unit) (fam := fun _ => fam41 s w n bd er 0 a) (fun _ => 0) (X := fun e st => e = .exit 0 ∧ st = fam41 s w n bd er 0 a) (i0 := ()) (f := some) ?_ ?_ ?_ ?_).mono ?_
    · exact ⟨View.preX (L := [some (rrow s a n bd er)]) (tl := []) (fun c q h => by rw [live1 h]; exact (rrow_g _ _ _ _ _).vw _ _), ini⟩
    · intro c _; rfl
    · intro i; exact Nat.le_refl _
    · intro _
      refine Safe.by mixed (envR_ok R) (f := 41) (fi := fi41) (i := 0) (by kernel_rfl) (b := .loop (loopOf fi41 0)) (by kernel_rfl) (subs_loop _) 1000 (vr41g R s w n bd er 0 a _) ?_
      refine hcB (fun _ => hcF hz ?_) fun _ => ?_
      · exact ⟨fam41 s w n bd er 0 a, Fit.row1 (rrow_g _ _ _ _ _) (by (repeat' (first | with_reducible exact VwL.nil | with_reducible refine VwL.cons ?_ ?_ | with_reducible exact Vw.anyI | with_reducible exact Vw.strI | with_reducible exact Vw.boolI | with_reducible exact Vw.intI | with_reducible exact Vw.nilsI | exact Vw.ptrI (by simp) rfl | exact Vw.slI (by simp) rfl | with_reducible refine Vw.aggI ?_ | exact Vw.gndI rfl))), rfl, rfl⟩
      · exact ⟨fam41 s w n bd er 0 a, Fit.row1 (rrow_g _ _ _ _ _) (by (repeat' (first | with_reducible exact VwL.nil | with_reducible refine VwL.cons ?_ ?_ | with_reducible exact Vw.anyI | with_reducible exact Vw.strI | with_reducible exact Vw.boolI | with_reducible exact Vw.intI | with_reducible exact Vw.nilsI | exact Vw.ptrI (by simp) rfl | exact Vw.slI (by simp) rfl | with_reducible refine Vw.aggI ?_ | exact Vw.gndI rfl))), rfl, rfl⟩
    · rintro e st ⟨e0, rfl, rfl, rfl⟩
      exact hk
  | true =>
    rw [hz] at hk
    have hz := eq_of_beq hz
    subst hz
    simp only [cond_true] at hk
    let E := exN s w a
    let fam : Bool × Nat → St := fun x => match x.1 with | false => fam41 s w n bd 0 x.2 (a + x.2) | true => fam41 s w n E.2 3 x.2 (E.2 + 1)
    refine (loop_block (I := {x : Bool × Nat // T41 s w a x}) (fam := fun x => fam x.1) (fun x => match x.1.1 with | false => w.length - x.1.2 + 1 | true => 0) (X := fun e st => e = .exit 0 ∧ ((E.1 = true ∧ st = fam41 s w n bd 0 w.length E.2) ∨ (E.1 = false ∧ ∃ j, st = fam41 s w n E.2 3 j (E.2 + 1)))) (i0 := ⟨(false, 0), ⟨fun _ => ⟨Nat.zero_le _, rfl⟩, fun h => by cases h⟩⟩) (f := some) ?_ ?_ ?_ ?_).mono ?_
    · exact ⟨View.preX (L := [some (rrow s a n bd 0)]) (tl := []) (fun c q h => by rw [live1 h]; exact (rrow_g _ _ _ _ _).vw _ _), ini⟩
    · intro c _; rfl
    · rintro ⟨⟨b, j⟩, h⟩
      cases b <;> exact Nat.le_refl _
    · rintro ⟨⟨b, j⟩, h⟩
      cases b with
      | true =>
        refine Safe.by mixed (envR_ok R) (f := 41) (fi := fi41) (i := 0) (by kernel_rfl) (b := .loop (loopOf fi41 0)) (by kernel_rfl) (subs_loop _) 1000 (vr41g R s w n E.2 3 j (E.2 + 1) _) ?_
        refine hcB (fun _ => ?_) fun _ => ?_
        · exact ⟨fam41 s w n E.2 3 j (E.2 + 1), Fit.row1 (rrow_g _ _ _ _ _) (by (repeat' (first | with_reducible exact VwL.nil | with_reducible refine VwL.cons ?_ ?_ | with_reducible exact Vw.anyI | with_reducible exact Vw.strI | with_reducible exact Vw.boolI | with_reducible exact Vw.intI | with_reducible exact Vw.nilsI | exact Vw.ptrI (by simp) rfl | exact Vw.slI (by simp) rfl | with_reducible refine Vw.aggI ?_ | exact Vw.gndI rfl))), rfl, .inr ⟨h.bad rfl, j, rfl⟩⟩
        · exact ⟨fam41 s w n E.2 3 j (E.2 + 1), Fit.row1 (rrow_g _ _ _ _ _) (by (repeat' (first | with_reducible exact VwL.nil | with_reducible refine VwL.cons ?_ ?_ | with_reducible exact Vw.anyI | with_reducible exact Vw.strI | with_reducible exact Vw.boolI | with_reducible exact Vw.intI | with_reducible exact Vw.nilsI | exact Vw.ptrI (by simp) rfl | exact Vw.slI (by simp) rfl | with_reducible refine Vw.aggI ?_ | exact Vw.gndI rfl))), rfl, .inr ⟨h.bad rfl, j, rfl⟩⟩
      | false =>
        obtain ⟨hj, he⟩ := h.run rfl
        simp only at hj he
        refine Safe.by mixed (envR_ok R) (f := 41) (fi := fi41) (i := 0) (by kernel_rfl) (b := .loop (loopOf fi41 0)) (by kernel_rfl) (subs_loop _) 1000 (vr41g R s w n bd 0 j (a + j) _) ?_
        refine hcB (fun hc => hcT rfl (hcT hc ⟨show (0 : Int) ≤ ((a + j : Nat) : Int) - 0 by omega, ?_⟩)) fun hc => ?_
        · have hlt : j < w.length := by have := of_decide_eq_true hc; omega
          have hst := exN_step (s := s) (a := a + j) hlt
          rw [Int.toNat_natCast, wrapSucc j (by omega), wrapSucc (a + j) (by omega)]
          refine hcB (fun hd => ?_) fun hd => ?_
          · have hd' : (hbI s (a + j : Nat) == ((w.getD j 0).toNat : Nat)) = false := by
              simp only [bne, Bool.not_eq_true'] at hd; exact hd
            rw [hd', he] at hst
            have e2 : E = (false, a + j) := hst
            refine ⟨⟨(true, j + 1), ⟨fun h => (by cases h), fun _ => (by show E.1 = false; rw [e2])⟩⟩, Nat.succ_pos _, ?_⟩
            have e3 : fam (true, j + 1) = fam41 s w n ((a + j : Nat) : Int) 3 (j + 1) (a + j + 1) := by
              show fam41 s w n E.2 3 (j + 1) (E.2 + 1) = _
              rw [e2]
            rw [e3]
            exact Fit.row1 (rrow_g _ _ _ _ _) (by (repeat' (first | with_reducible exact VwL.nil | with_reducible refine VwL.cons ?_ ?_ | with_reducible exact Vw.anyI | with_reducible exact Vw.strI | with_reducible exact Vw.boolI | with_reducible exact Vw.intI | with_reducible exact Vw.nilsI | exact Vw.ptrI (by simp) rfl | exact Vw.slI (by simp) rfl | with_reducible refine Vw.aggI ?_ | exact Vw.gndI rfl)))
          · have hd' : (hbI s (a + j : Nat) == ((w.getD j 0).toNat : Nat)) = true := by
              simp only [bne, Bool.not_eq_false'] at hd; exact hd
            rw [hd', he] at hst
            refine ⟨⟨(false, j + 1), ⟨fun _ => ⟨hlt, hst.symm⟩, fun h => by cases h⟩⟩, by show w.length - (j + 1) + 1 < w.length - j + 1; omega, ?_⟩
            show Fit 1 (fam41 s w n bd 0 (j + 1) (a + j + 1)) _
            exact Fit.row1 (rrow_g _ _ _ _ _) (by (repeat' (first | with_reducible exact VwL.nil | with_reducible refine VwL.cons ?_ ?_ | with_reducible exact Vw.anyI | with_reducible exact Vw.strI | with_reducible exact Vw.boolI | with_reducible exact Vw.intI | with_reducible exact Vw.nilsI | exact Vw.ptrI (by simp) rfl | exact Vw.slI (by simp) rfl | with_reducible refine Vw.aggI ?_ | exact Vw.gndI rfl)))
        · have hge : j = w.length := by have := of_decide_eq_false hc; omega
          subst hge
          rw [List.drop_eq_nil_of_le (Nat.le_refl _)] at he
          have e2 : E = (true, a + w.length) := he.symm
          refine ⟨fam41 s w n bd 0 w.length (a + w.length), Fit.row1 (rrow_g _ _ _ _ _) (by (repeat' (first | with_reducible exact VwL.nil | with_reducible refine VwL.cons ?_ ?_ | with_reducible exact Vw.anyI | with_reducible exact Vw.strI | with_reducible exact Vw.boolI | with_reducible exact Vw.intI | with_reducible exact Vw.nilsI | exact Vw.ptrI (by simp) rfl | exact Vw.slI (by simp) rfl | with_reducible refine Vw.aggI ?_ | exact Vw.gndI rfl))), rfl, .inl ⟨by rw [e2], by rw [e2]⟩⟩
    · rintro e st ⟨e0, rfl, rfl, ⟨h6, rfl⟩ | ⟨h6, j, rfl⟩⟩
      · have h6' : (exN s w a).1 = true := h6
        rw [h6'] at hk; exact hk
      · have h6' : (exN s w a).1 = false := h6
        rw [h6'] at hk; exact hk j
end Go.Dc.Ke
end
section
set_option linter.unusedVariables false
set_option linter.unusedSimpArgs false
namespace Go.Dc.Ke
open Go.Proofs Go.RowKit Go.Shelf
set_option maxRecDepth 100000
/-- An expression of the list: its kind, its word, its kids' numbers, and where these lie. -/
structure NE where
  kd : Int
  w : List UInt8
  kids : List Nat
  x : Nat
abbrev neV (e : NE) : AV := .agg [.int .i64 e.kd, .str e.w, .sl true (e.x + 15) 0 e.kids.length .no]
def dN : NE := ⟨0, [], [], 0⟩
abbrev arow (N : List NE) : Row := .gen 62 3 N.length fun i => neV (N.getD i dN)
abbrev trow (c n : Nat) (root : Int) : Row := .lst 35 2 [.agg [.sl false c 0 n .no, .int .i64 root]]
abbrev kidN (kids : List Nat) : RoRow := ⟨3, 1, kids.length, fun i => .int .i64 ((kids.getD i 0 : Nat) : Int)⟩
end Go.Dc.Ke
end
section
set_option linter.unusedVariables false
set_option linter.unusedSimpArgs false
namespace Go.Dc.Ke
open Go.Proofs Go.RowKit Go.Shelf
set_option maxRecDepth 100000
theorem vc28 (R : Nat → RoRow) (N : List NE) (root kd : Int) (w : List UInt8) (x m : Nat) (Q : AV → Rows → Fz → Prop) (F : Fz) : vcx (bx R) 1000 28 fi28 [.ptr false 0 0 0, .agg [.int .i64 kd, .str w, .sl true (x + 15) 0 m .no]] [some (trow 1 N.length root), some (arow N)] Q F = (AV.sl false 1 0 N.length Cp.no = AV.sl false 1 0 N.length Cp.no ∧ bif decide (0 + N.length ≤ N.length) && (true && (true && decide (((Src.gen N.length fun (j : Nat) => neV (N.getD (0 + j) dN)).len + 1) * 48 ≤ 140737488355328))) then Q (AV.int IntKind.i64 (IntKind.i64.wrap ((↑((Src.gen N.length fun (j : Nat) => neV (N.getD (0 + j) dN)).len + 1) : Int) - 1))) [some (Row.lst 35 2 [AV.agg [AV.sl false 4 0 ((Src.gen N.length fun (j : Nat) => neV (N.getD (0 + j) dN)).len + 1) Cp.no, AV.int IntKind.i64 root]]), none, some (Row.lst 62 3 [AV.agg [AV.int IntKind.i64 kd, AV.str w, AV.sl true (x + 15) 0 m Cp.no]]), some (Row.lst 62 3 [AV.agg [AV.int IntKind.i64 kd, AV.str w, AV.sl true (x + 15) 0 m Cp.no]]), some (Row.gen 62 3 ((Src.gen N.length fun (j : Nat) => neV (N.getD (0 + j) dN)).len + 1) fun (j : Nat) => bif j.blt (Src.gen N.length fun (j : Nat) => neV (N.getD (0 + j) dN)).len then AV.agg [AV.int IntKind.i64 (N.getD (0 + j) dN).kd, AV.str (N.getD (0 + j) dN).w, AV.sl true ((N.getD (0 + j) dN).x + 15) 0 (N.getD (0 + j) dN).kids.length Cp.no] else (Src.lst [AV.agg [AV.int IntKind.i64 kd, AV.str w, AV.sl true (x + 15) 0 m Cp.no]]).at_ (j - (Src.gen N.length fun (j : Nat) => neV (N.getD (0 + j) dN)).len))] F else False) := by kernel_rfl
theorem arow_g (N : List NE) : RowG (arow N) := ⟨fun f n => .gen rfl fun i _ => ⟨rfl, gnd_vw _ _ _ rfl⟩, fun g => rfl⟩
theorem arow_app {f : Nat → Option Nat} {n : Nat} (N : List NE) (e : NE) : RowV f n (arow (N ++ [e])) (.gen 62 3 (N.length + 1) fun j => bif j.blt N.length then neV (N.getD (0 + j) dN) else (Src.lst [neV e]).at_ (j - N.length)) := by
  refine .gen (by simp) fun i hi => ⟨rfl, ?_⟩
  have hi : i < N.length + 1 := by simpa using hi
  have := app_gen (F := fun j => neV (N.getD j dN)) (G := fun i => neV ((N ++ [e]).getD i dN)) (n := N.length) (e := neV e) (fun j hj => by
    simp only [Nat.zero_add]
    rw [List.getD_eq_getElem?_getD, List.getD_eq_getElem?_getD, List.getElem?_append_left hj]) (by simp) i hi
  rw [this]
  exact gnd_vw _ _ _ rfl
theorem safe28 (R : Nat → RoRow) (N : List NE) (hN : N.length ≤ 100000) (root kd : Int) (w : List UInt8) (x : Nat) (kids : List Nat) (F : Fz) (HP : HPt) :
    SafeCallX Try.prog R 28 [.ptr false 0 0 0, .agg [.int .i64 kd, .str w, tok x kids.length]] [some (trow 1 N.length root), some (arow N)] F (fun v h' F' => v = .int .i64 (N.length : Nat) ∧ h' = [some (trow 2 (N.length + 1) root), none, some (arow (N ++ [⟨kd, w, kids, x⟩]))] ∧ F' = F) HP := by
  refine SafeCallX.post (Q := fun v h' F' => v = .int .i64 (N.length : Nat) ∧ h' = [some (trow 4 (N.length + 1) root), none, some (.lst 62 3 [neV ⟨kd, w, kids, x⟩]), some (.lst 62 3 [neV ⟨kd, w, kids, x⟩]), some (.gen 62 3 (N.length + 1) fun j => bif j.blt N.length then neV (N.getD (0 + j) dN) else (Src.lst [neV ⟨kd, w, kids, x⟩]).at_ (j - N.length))] ∧ F' = F) (HP := fun _ _ _ => False) ?_ ?_ ?_
  · refine SafeCallX.by mixed (bx_ok R [] _) (f := 28) (fi := fi28) (by kernel_rfl) 1000 (vc28 R N root kd w x kids.length _ F) ⟨rfl, hcT ?_ ⟨?_, rfl, rfl⟩⟩
    · have h1 : (Src.gen N.length fun (j : Nat) => neV (N.getD (0 + j) dN)).len = N.length := rfl
      rw [h1]
      simp only [Bool.and_eq_true, decide_eq_true_eq]
      refine ⟨by omega, trivial, trivial, by omega⟩
    · have h1 : (Src.gen N.length fun (j : Nat) => neV (N.getD (0 + j) dN)).len = N.length := rfl
      rw [h1, wrapI64 _ (by omega) (by omega)]
      congr 1; omega
  · rintro v h' F' _ ⟨rfl, rfl, rfl⟩
    refine ToV.fit (vE := .int .i64 (N.length : Nat)) (hE := [some (trow 2 (N.length + 1) root), none, some (arow (N ++ [⟨kd, w, kids, x⟩]))]) ⟨mvR 2 4, View.of ?_ (mvR_inj (by simp) (by simp)), Vw.intI, mvR_lt (n := 2) (by decide), by simp⟩ (ToV.here ⟨rfl, rfl, rfl⟩)
    intro c o ho
    match c with
    | 0 => cases ho; exact ViewL.at_ (b := 0) rfl rfl (.lst1 rfl (Vw.aggI (VwL.cons (Vw.slI (by simp) rfl) (VwL.cons Vw.intI VwL.nil))))
    | 1 => cases ho; exact ⟨fun r h => (by cases h), fun b hb => (by cases hb; simp)⟩
    | 2 => cases ho; exact ViewL.at_ (b := 4) rfl rfl (arow_app N ⟨kd, w, kids, x⟩)
    | c + 3 => cases ho
  · rintro v h' F' _ h; exact h.elim
/-- The rows behind one more. -/
def addRows (h : Rows) (b c : Nat) (root : Int) (N : List NE) : Rows := (h.set b (some (trow (h.length + 2) N.length root))).set c none ++ [none, none, some (arow N)]
theorem add_at (R : Nat → RoRow) {h : Rows} {b c : Nat} {root : Int} {N : List NE} (hb : h.live b = some (trow c N.length root)) (hc : h.live c = some (arow N)) (hN : N.length ≤ 100000) (kd : Int) (w : List UInt8) (x : Nat) (kids : List Nat) (F : Fz) {k HP : AV → Rows → Fz → Prop}
    (hk : k (.int .i64 (N.length : Nat)) (addRows h b c root (N ++ [⟨kd, w, kids, x⟩])) F) : SafeCallX Try.prog R 28 [.ptr false b 0 0, .agg [.int .i64 kd, .str w, tok x kids.length]] h F k HP := by
  have hne : b ≠ c := fun e => by rw [e, hc] at hb; cases hb
  refine (SafeCallX.atN (Q := fun v os tl F' => v = .int .i64 (N.length : Nat) ∧ os = [some (trow 2 (N.length + 1) root), none] ∧ tl = [some (arow (N ++ [⟨kd, w, kids, x⟩]))] ∧ F' = F) (HP := fun _ _ _ _ => False) [b, c] (hL := [some (trow 1 N.length root), some (arow N)]) rfl (by simp [hne]) (fun d hd => by
      simp only [List.mem_cons, List.not_mem_nil, or_false] at hd
      rcases hd with rfl | rfl
      · exact live_lt hb
      · exact live_lt hc) (fun d r hd => by
      match d with
      | 0 => cases hd; exact ⟨b, _, rfl, hb, .lst1 rfl (Vw.aggI (VwL.cons (Vw.slI (by simp) rfl) (VwL.cons Vw.intI VwL.nil)))⟩
      | 1 => cases hd; exact ⟨c, _, rfl, hc, (arow_g N).vw _ _⟩
      | d + 2 => simp [Rows.live] at hd) (VwL.cons (Vw.ptrI (by simp) rfl) (VwL.cons (Vw.gndI rfl) VwL.nil)) ((safe28 R N hN root kd w x kids F (fun _ _ _ => False)).mono ?_ ?_)).mono ?_ ?_
  · rintro v h' F' _ ⟨rfl, rfl, rfl⟩
    exact ⟨[some (trow 2 (N.length + 1) root), none], [some (arow (N ++ [⟨kd, w, kids, x⟩]))], rfl, rfl, rfl, rfl, rfl, rfl⟩
  · rintro v h' F' _ h; exact h.elim
  · rintro v h' F' _ ⟨v0, os, tl, rfl, rfl, rfl, rfl, rfl, rfl⟩
    have e : addRows h b c root (N ++ [⟨kd, w, kids, x⟩]) = layAt h [b, c] (List.map (Option.map (renRow (gP [b, c] h.length))) [some (trow 2 (N.length + 1) root), none]) ++ (List.replicate 2 none ++ List.map (Option.map (renRow (gP [b, c] h.length))) [some (arow (N ++ [⟨kd, w, kids, x⟩]))]) := by
      unfold addRows
      have : (N ++ [(⟨kd, w, kids, x⟩ : NE)]).length = N.length + 1 := by simp
      rw [this]; rfl
    rw [e] at hk
    exact hk
  · rintro v h' F' _ ⟨v0, os, tl, _, _, h⟩; exact h.elim
/-- Arguments told otherwise. -/
theorem SafeCallX.argsD {P : Program} {R : Nat → RoRow} {f : FuncId} {args args' : List AV} {h : Rows} {F : Fz} {Q HP : AV → Rows → Fz → Prop} (hd : ∀ (m : Map) n vs, Named m → DenL m n args vs → DenL m n args' vs) (hs : SafeCallX P R f args' h F Q HP) : SafeCallX P R f args h F Q HP :=
  fun m w m0 h0 w0 F0 vas has hW hf hst hl => hs m w m0 h0 w0 F0 vas (hd _ _ _ hf.ro has) hW hf hst hl
/-- What stands in a list's row. -/
def atT {α : Type} (bot : α) (h : Rows) (b : Nat) (φ : Nat → Nat → Int → α) : α :=
  match h.live b with
  | some (.lst 35 2 [.agg [.sl false c 0 n .no, .int .i64 root]]) => φ c n root
  | _ => bot
theorem atT_or {α : Type} (bot : α) (h : Rows) (b : Nat) (φ : Nat → Nat → Int → α) : atT bot h b φ = bot ∨ ∃ c n root, h.live b = some (trow c n root) ∧ atT bot h b φ = φ c n root := by
  unfold atT
  split
  · rename_i c n root e; exact .inr ⟨c, n, root, e, rfl⟩
  · exact .inl rfl
theorem atT_ofX {h : Rows} {b : Nat} {F : Fz} {φ : Nat → Nat → Int → Fz → Prop} (hh : atT botX h b φ F) : ∃ c n root, h.live b = some (trow c n root) ∧ φ c n root F := by
  rcases atT_or botX h b φ with e | ⟨c, n, root, e1, e2⟩
  · rw [e] at hh; exact hh.elim
  · rw [e2] at hh; exact ⟨c, n, root, e1, hh⟩
structure FrK (F : Fz) (x : Nat) (kids : List Nat) : Prop where
  fr : Frz F x (kidN kids)
def spec28 : CallSpecX := fun args h k => match args with
  | [.ptr false b 0 0, .agg [.int .i64 kd, .str w, .nils]] => atT botX h b fun c n root => fun F => ∃ N, n = N.length ∧ h.live c = some (arow N) ∧ N.length ≤ 100000 ∧ k (.int .i64 (N.length : Nat)) (addRows h b c root (N ++ [⟨kd, w, [], 0⟩])) F
  | [.ptr false b 0 0, .agg [.int .i64 kd, .str w, .sl false d 0 m _]] => fun F => ∃ r kids, h.live d = some r ∧ RoOf r (kidN kids) ∧ m = kids.length ∧ ∀ F' x, Up F F' → FrK F' x kids →
      atT botX ((tkRows d x h).set d none) b (fun c n root => fun F' => ∃ N, n = N.length ∧ Rows.live ((tkRows d x h).set d none) c = some (arow N) ∧ N.length ≤ 100000 ∧ k (.int .i64 (N.length : Nat)) (addRows ((tkRows d x h).set d none) b c root (N ++ [⟨kd, w, kids, x⟩])) F') F'
  | _ => botX
theorem spec28_ok (R : Nat → RoRow) (HP : HPt) : ∀ args h k F, spec28 args h k F → SafeCallX Try.prog R 28 args h F k HP := by
  intro args h k F hk
  unfold spec28 at hk
  split at hk
  · rename_i b kd w
    obtain ⟨c, n, root, hb, N, rfl, hc, hN, hk⟩ := atT_ofX hk
    refine SafeCallX.argsD ?_ (add_at R hb hc hN kd w 0 [] F hk)
    intro m n vs hm hd
    obtain ⟨u, us, rfl, hu, v, us', rfl, hv, rfl⟩ := hd
    refine ⟨u, _, rfl, hu, v, _, rfl, ?_, rfl⟩
    simp only [Den, DenL] at hv
    obtain ⟨ws, rfl, v1, _, e1, h1, v2, _, rfl, h2, v3, _, rfl, h3, rfl⟩ := hv
    show ∃ vs' : Array Value, _ ∧ DenL m n [.int .i64 kd, .str w, tok 0 0] vs'.toList
    refine ⟨ws, rfl, ?_⟩
    rw [e1]
    exact ⟨v1, _, rfl, by simpa only [Den] using h1, v2, _, rfl, by simpa only [Den] using h2, v3, _, rfl, nils_tok hm (by simp only [Den]; exact h3), rfl⟩
  · rename_i b kd w d m cp
    obtain ⟨r, kids, hd, hr, rfl, hk⟩ := hk
    refine SafeCallX.freeze d hd hr fun F' x hle hfr => ?_
    obtain ⟨c, n, root, hb, N, rfl, hc, hN, hk⟩ := atT_ofX (hk F' x ⟨hle⟩ ⟨hfr⟩)
    have e : [AV.ptr false b 0 0, .agg [.int .i64 kd, .str w, .sl false d 0 kids.length cp]].map (tk2 d x) = [.ptr false b 0 0, .agg [.int .i64 kd, .str w, tok x kids.length]] := by
      show [AV.ptr false b 0 0, .agg [.int .i64 kd, .str w, tk1 d x (.sl false d 0 kids.length cp)]] = _
      unfold tk1
      simp only [Nat.beq_refl, cond_true]
    rw [e]
    exact add_at R hb hc hN kd w x kids F' hk
  · exact hk.elim
end Go.Dc.Ke
end
section
set_option linter.unusedVariables false
set_option linter.unusedSimpArgs false
namespace Go.Dc.Ke
open Go.Proofs Go.RowKit Go.Shelf
set_option maxRecDepth 100000
def spec41 : CallSpec := fun args h k => match args with
  | [.ptr false b 0 0, .str w] => atR False h b fun s p n bd er => ∃ a : Nat, p = a ∧ a ≤ 200000 ∧ w.length ≤ 100000 ∧
      bif er == 0 then (bif (exN s w a).1 then k (.tup []) (h.set b (some (rrow s (exN s w a).2 n bd 0))) else k (.tup []) (h.set b (some (rrow s ((exN s w a).2 + 1 : Nat) n (exN s w a).2 3)))) else k (.tup []) h
  | _ => False
theorem env41_ok (R : Nat → RoRow) (s w : List UInt8) (n bd er : Int) (a : Nat) (ha : a ≤ 200000) (hw : w.length ≤ 100000) : EnvOK Try.prog (env41 R s w n bd er a) id := (envR_ok R).addLoop (f := 41) (fi := fi41) (by kernel_rfl) (i := 0) (body := .loop (loopOf fi41 0)) (by kernel_rfl) (loop41 R s w n bd er a ha hw)
theorem spec41_ok (R : Nat → RoRow) : ∀ args h k, spec41 args h k → SafeCall Try.prog R 41 args h k := by
  intro args h k hk
  unfold spec41 at hk
  split at hk
  · rename_i b w
    obtain ⟨s, p, n, bd, er, hb, a, rfl, ha, hw, hk⟩ := atR_of hk
    refine (SafeCall.at1 (Q := fun v r' => v = .tup [] ∧ r' = bif er == 0 then (bif (exN s w a).1 then rrow s (exN s w a).2 n bd 0 else rrow s ((exN s w a).2 + 1 : Nat) n (exN s w a).2 3) else rrow s a n bd er) hb (rrow_g _ _ _ _ _) (VwL.cons (Vw.ptrI (by decide) rfl) (VwL.cons Vw.strI VwL.nil)) (SafeCall.by mixed (env41_ok R s w n bd er a ha hw) (f := 41) (fi := fi41) (by kernel_rfl) 1000 (vc41 R s w n bd er a _) ⟨ha, hw, rfl, rfl, rfl, rfl, rfl, ?_⟩)).mono ?_
    · cases e : er == 0 with
      | true =>
        cases e2 : (exN s w a).1 with
        | true => exact ⟨_, _, rfl, rfl, rrow_g _ _ _ _ _, rfl, rfl⟩
        | false => exact fun j => ⟨_, _, rfl, rfl, rrow_g _ _ _ _ _, rfl, rfl⟩
      | false => exact ⟨_, _, rfl, rfl, rrow_g _ _ _ _ _, rfl, rfl⟩
    · rintro v h' ⟨r', rfl, rfl, rfl⟩
      cases e : er == 0 with
      | true =>
        rw [e] at hk
        cases e2 : (exN s w a).1 with
        | true => rw [e2] at hk; exact hk
        | false => rw [e2] at hk; exact hk
      | false => rw [e] at hk; simp only [cond_false]; rw [live_set_self hb]; exact hk
  · exact hk.elim
/-! An expression in the list -/
mutual
def TrN (N : List NE) : Tr → Nat → Prop
  | .mk k w ts, i => ∃ e, N[i]? = some e ∧ e.kd = (k : Nat) ∧ e.w = w ∧ TrNs N ts e.kids
def TrNs (N : List NE) : List Tr → List Nat → Prop
  | [], [] => True
  | t :: ts, i :: is => TrN N t i ∧ TrNs N ts is
  | [], _ :: _ => False
  | _ :: _, [] => False
end
mutual
theorem TrN.ext {N : List NE} (l : List NE) : ∀ (t : Tr) (i : Nat), TrN N t i → TrN (N ++ l) t i
  | .mk k w ts, i, h => by
    simp only [TrN] at h ⊢
    obtain ⟨e, h1, h2, h3, h4⟩ := h
    refine ⟨e, ?_, h2, h3, TrNs.ext l ts e.kids h4⟩
    rw [List.getElem?_append_left (List.getElem?_eq_some_iff.1 h1).1]; exact h1
theorem TrNs.ext {N : List NE} (l : List NE) : ∀ (ts : List Tr) (is : List Nat), TrNs N ts is → TrNs (N ++ l) ts is
  | [], [], h => by simp only [TrNs]
  | t :: ts, i :: is, h => by
    simp only [TrNs] at h ⊢
    exact ⟨TrN.ext l t i h.1, TrNs.ext l ts is h.2⟩
  | [], _ :: _, h => by simp only [TrNs] at h
  | _ :: _, [], h => by simp only [TrNs] at h
end
theorem TrNs.snoc {N : List NE} {t : Tr} {i : Nat} (ht : TrN N t i) : ∀ (ts : List Tr) (is : List Nat), TrNs N ts is → TrNs N (ts ++ [t]) (is ++ [i])
  | [], [], h => by simp only [List.nil_append, TrNs, and_true]; exact ht
  | u :: ts, j :: is, h => by
    simp only [TrNs, List.cons_append] at h ⊢
    exact ⟨h.1, TrNs.snoc ht ts is h.2⟩
  | [], _ :: _, h => by simp only [TrNs] at h
  | _ :: _, [], h => by simp only [TrNs] at h
theorem TrNs.len {N : List NE} : ∀ (ts : List Tr) (is : List Nat), TrNs N ts is → ts.length = is.length
  | [], [], h => rfl
  | u :: ts, j :: is, h => by
    simp only [TrNs] at h
    simp only [List.length_cons, TrNs.len ts is h.2]
  | [], _ :: _, h => by simp only [TrNs] at h
  | _ :: _, [], h => by simp only [TrNs] at h
structure NF (F : Fz) (N : List NE) : Prop where
  is : ∀ e ∈ N, Frz F e.x (kidN e.kids)
theorem NF.le {F F' : Fz} {N : List NE} (h : NF F N) (hu : Up F F') : NF F' N := ⟨fun e he => (h.is e he).le hu.le⟩
theorem NF.snoc {F : Fz} {N : List NE} {e : NE} (h : NF F N) (he : Frz F e.x (kidN e.kids)) : NF F (N ++ [e]) := ⟨fun d hd => by
  rcases List.mem_append.1 hd with hd | hd
  · exact h.is d hd
  · simp only [List.mem_cons, List.not_mem_nil, or_false] at hd; rw [hd]; exact he⟩
theorem frz0 (F : Fz) : Frz F 0 (kidN []) := .inl ⟨rfl, rfl⟩
/-- More of the list. -/
structure Mo (N N' : List NE) : Prop where
  pre : N <+: N'
theorem Mo.refl (N : List NE) : Mo N N := ⟨List.prefix_refl N⟩
theorem Mo.trans {A B C : List NE} (h : Mo A B) (g : Mo B C) : Mo A C := ⟨h.pre.trans g.pre⟩
theorem Mo.snoc (N : List NE) (e : NE) : Mo N (N ++ [e]) := ⟨List.prefix_append _ _⟩
theorem Mo.tr {N N' : List NE} (h : Mo N N') {t : Tr} {i : Nat} (ht : TrN N t i) : TrN N' t i := by
  obtain ⟨l, rfl⟩ := h.pre
  exact TrN.ext l t i ht
theorem Mo.trs {N N' : List NE} (h : Mo N N') {t : List Tr} {i : List Nat} (ht : TrNs N t i) : TrNs N' t i := by
  obtain ⟨l, rfl⟩ := h.pre
  exact TrNs.ext l t i ht
/-- What a part answers: where it stands then, and the list. -/
structure ROk (s : List UInt8) (a : Nat) (N : List NE) (F : Fz) (t : Tr) (a1 : Nat) (N' : List NE) (i : Nat) (F' : Fz) : Prop where
  mo : Mo N N'
  nf : NF F' N'
  up : Up F F'
  tr : TrN N' t i
  room : N'.length + 4 * (s.length - a1) + 3 ≤ N.length + 4 * (s.length - a)
structure RErr (s : List UInt8) (a : Nat) (N : List NE) (F : Fz) (N' : List NE) (F' : Fz) : Prop where
  mo : Mo N N'
  nf : NF F' N'
  up : Up F F'
  room : N'.length ≤ N.length + 4 * (s.length - a) + 1
structure RIn (s : List UInt8) (a : Nat) (N : List NE) (F : Fz) : Prop where
  nf : NF F N
  le : a ≤ s.length
  sm : s.length ≤ 256
  room : N.length + 4 * (s.length - a) + 1 ≤ 2000
def refRows (h : Rows) (b c d : Nat) (s : List UInt8) (p n bd er root : Int) (N : List NE) : Rows := (((h.set b (some (rrow s p n bd er))).set c (some (trow (h.length + 3) N.length root))).set d none) ++ [none, none, none, some (arow N)]
/-- The contract of a part. -/
def specRef (s : List UInt8) (n : Nat) (r : Nat → PR) (b c : Nat) : Rows → (AV → Rows → Fz → Prop) → Fz → Prop := fun h k =>
  atR botX h b fun s' p n' bd er => atT botX h c fun d nn root => fun F => ∃ (N : List NE) (a : Nat), s' = s ∧ p = a ∧ n' = (n : Nat) ∧ bd = 0 ∧ er = 0 ∧ nn = N.length ∧ h.live d = some (arow N) ∧ RIn s a N F ∧
    (∀ t a1, r a = .ok t a1 → ∀ N' i F', ROk s a N F t a1 N' i F' → k (.int .i64 (i : Nat)) (refRows h b c d s (a1 : Nat) (n : Nat) 0 0 root N') F') ∧
    (∀ a' e, r a = .err a' e → ∀ (p' : Nat) (N' : List NE) (v : Int) F', p' ≤ 200000 → RErr s a N F N' F' → k (.int .i64 v) (refRows h b c d s (p' : Nat) (n : Nat) (a' : Nat) (e : Nat) root N') F')
def spec31 (s : List UInt8) (n : Nat) (r : Nat → PR) : CallSpecX := fun args h k => match args with
  | [.ptr false b 0 0, .ptr false c 0 0] => specRef s n r b c h k
  | _ => botX
def spec23 (s : List UInt8) (n : Nat) (kk : Int) (r : Nat → PR) : CallSpecX := fun args h k => match args with
  | [.ptr false b 0 0, .ptr false c 0 0, .int .i64 j] => fun F => j = kk ∧ n ≤ 16 ∧ specRef s n r b c h k F
  | _ => botX
noncomputable abbrev envP (R : Nat → RoRow) : EnvX := ((((((bx R).addCall 33 (liftC spec33)).addCall 34 (liftC spec34)).addCall 24 (liftC spec24)).addCall 32 (liftC spec32)).addCall 40 (liftC spec40)).addCall 41 (liftC spec41)
theorem envP_ok (R : Nat → RoRow) (HP : HPt) : OKX Try.prog (envP R) [] HP :=
  ((((((bx_ok R [] HP).addCall (f := 33) (fi := fi33) (by kernel_rfl) (liftC_ok (spec33_ok R))).addCall (f := 34) (fi := fi34) (by kernel_rfl) (liftC_ok (spec34_ok R))).addCall (f := 24) (fi := fi24) (by kernel_rfl) (liftC_ok (spec24_ok R))).addCall (f := 32) (fi := fi32) (by kernel_rfl) (liftC_ok (spec32_ok R))).addCall (f := 40) (fi := fi40) (by kernel_rfl) (liftC_ok (spec40_ok R))).addCall (f := 41) (fi := fi41) (by kernel_rfl) (liftC_ok (spec41_ok R))
noncomputable abbrev envI (R : Nat → RoRow) (s : List UInt8) (n : Nat) (alt : Nat → PR) : EnvX := ((envP R).addCall 28 spec28).addCall 23 (spec23 s (n + 1) 0 alt)
noncomputable abbrev tm31 (v : AV) : List AV := [.ptr false 0 0 0, .ptr false 1 0 0, .any, .any, .any, v, .any, .any, .any, .any, .any, .any, .any, .any, .any, .any, .any, .any, .any, .any, .any, .any, .any, .any, .any, .any, .any, .any, .any, .any, .any, .any, .any, .any, .any, .any, .any, .any, .any, .any, .any, .any, .any, .any, .any, .any, .any, .any, .any, .any, .any, .any, .any, .any, .any, .any, .any, .any, .any, .any, .any, .any, .any, .any, .any, .any, .any, .any, .any, .any, .any, .any, .any, .any, .any, .any, .any, .any, .any, .any, .any, .any, .any, .any, .any, .any, .any, .any, .any, .any, .any, .any, .any, .any, .any, .any, .any, .any, .any, .any, .any, .any, .any, .any, .any, .any, .any, .any, .any, .any, .any, .any, .any, .any, .any, .any, .any, .any, .any, .any, .any, .any, .any, .any, .any, .any]
noncomputable abbrev fam31 (s : List UInt8) (p n : Nat) (bd er : Int) (root : Int) (N : List NE) (i : Int) : St := ⟨tm31 (.int .i64 i), [some (rrow s p n bd er), some (trow 7 N.length root), none, none, none, none, none, some (arow N)]⟩
structure RMk (s : List UInt8) (p : Nat) (N : List NE) (F : Fz) (t : Tr) (i : Nat) : Prop where
  nf : NF F N
  le : p ≤ s.length
  sm : s.length ≤ 256
  tr : TrN N t i
  room : N.length + 4 * (s.length - p) ≤ 2000
structure RMo (s : List UInt8) (p : Nat) (N : List NE) (F : Fz) (t : Tr) (p1 : Nat) (N' : List NE) (i : Nat) (F' : Fz) : Prop where
  mo : Mo N N'
  nf : NF F' N'
  up : Up F F'
  tr : TrN N' t i
  room : N'.length + 4 * (s.length - p1) ≤ N.length + 4 * (s.length - p)
def mks (s : List UInt8) (t : Tr) (p : Nat) : Tr × Nat := pMarks s (s.length + 1) t p
def lp31 (s : List UInt8) (n : Nat) : LoopSpX := fun st k F => st.tmps.length = 126 ∧ nthV st.tmps 0 = .ptr false 0 0 0 ∧ nthV st.tmps 1 = .ptr false 1 0 0 ∧ st.rows.length ≤ 7 ∧
  ∃ (p : Nat) (bd er v root : Int) (d : Nat) (N : List NE), nthV st.tmps 5 = .int .i64 v ∧ st.rows.live 0 = some (rrow s p (n : Nat) bd er) ∧ st.rows.live 1 = some (trow d N.length root) ∧ st.rows.live d = some (arow N) ∧
    bif er == 0 then bd = 0 ∧ ∃ (i : Nat) (t : Tr), v = i ∧ RMk s p N F t i ∧ ∀ N' i' F', RMo s p N F (mks s t p).1 (mks s t p).2 N' i' F' → k .normal (fam31 s (mks s t p).2 n 0 0 root N' (i' : Nat)) F' else k .normal (fam31 s p n bd er root N v) F
noncomputable abbrev envIl (R : Nat → RoRow) (s : List UInt8) (n : Nat) (alt : Nat → PR) : EnvX := (envI R s n alt).addLoop 31 1 (lp31 s n)
end Go.Dc.Ke
end
section
set_option linter.unusedVariables false
set_option linter.unusedSimpArgs false
namespace Go.Dc.Ke
open Go.Proofs Go.RowKit Go.Shelf
set_option maxRecDepth 100000
theorem vr31 (R : Nat → RoRow) (s : List UInt8) (p n : Nat) (bd er root v : Int) (N : List NE) (k : Exit → St → Fz → Prop) (F : Fz) : rnx ((envP R).addCall 28 spec28) 1000 31 (loopOf fi31 1) (fam31 s p n bd er root N v) k F = (bif er == 0 then ((↑p : Int) - 0).NonNeg ∧ bif hbI s (↑p : Int) == 42 then ∃ (r : Row), ∃ (kids : List Nat), some (Row.lst 3 1 [AV.int IntKind.i64 v]) = some r ∧ RoOf r (RoRow.mk 3 1 kids.length fun (i : Nat) => AV.int IntKind.i64 (↑(kids.getD i 0) : Int)) ∧ 1 = kids.length ∧ ∀ (F' : Fz) (x : Nat), Up F F' → FrK F' x kids → ∃ (N_1 : List NE), N.length = N_1.length ∧ some (Row.gen 62 3 N.length fun (i : Nat) => tkE 8 x (AV.agg [AV.int IntKind.i64 (N.getD i dN).kd, AV.str (N.getD i dN).w, AV.sl true ((N.getD i dN).x + 15) 0 (N.getD i dN).kids.length Cp.no])) = some (Row.gen 62 3 N_1.length fun (i : Nat) => neV (N_1.getD i dN)) ∧ N_1.length.le 100000 ∧ ∃ (a : Nat), IntKind.i64.wrap ((↑p : Int) + 1) = (↑a : Int) ∧ s.length.le 100000 ∧ k Exit.normal (St.mk [AV.ptr false 0 0 0, AV.ptr false 1 0 0, AV.any, AV.any, AV.any, AV.int IntKind.i64 (↑N_1.length : Int), AV.any, AV.any, AV.int IntKind.i64 7, AV.any, AV.any, AV.any, AV.any, AV.any, AV.any, AV.any, AV.any, AV.any, AV.any, AV.any, AV.any, AV.any, AV.any, AV.any, AV.any, AV.any, AV.any, AV.any, AV.any, AV.any, AV.any, AV.any, AV.any, AV.any, AV.any, AV.any, AV.any, AV.any, AV.any, AV.any, AV.any, AV.any, AV.any, AV.any, AV.any, AV.any, AV.any, AV.any, AV.any, AV.any, AV.any, AV.any, AV.any, AV.any, AV.any, AV.any, AV.any, AV.any, AV.any, AV.any, AV.any, AV.any, AV.any, AV.any, AV.any, AV.any, AV.any, AV.any, AV.any, AV.any, AV.any, AV.any, AV.any, AV.any, AV.any, AV.any, AV.any, AV.any, AV.any, AV.any, AV.any, AV.any, AV.any, AV.any, AV.any, AV.any, AV.any, AV.any, AV.any, AV.any, AV.any, AV.any, AV.any, AV.any, AV.any, AV.ptr false 0 0 0, AV.ptr false 0 0 0, AV.ptr false 0 0 4, AV.int IntKind.i64 er, AV.bool true, AV.ptr false 0 0 0, AV.int IntKind.u8 (hbI s (↑p : Int)), AV.bool true, AV.bool (hbI s (↑p : Int) == 42), AV.any, AV.any, AV.any, AV.any, AV.int IntKind.i64 7, AV.bool false, AV.ptr false 1 0 0, AV.int IntKind.i64 7, AV.int IntKind.i64 v, AV.sl false 8 0 1 Cp.tight, AV.agg [AV.int IntKind.i64 7, AV.str [], AV.sl false 8 0 1 Cp.tight], AV.int IntKind.i64 (↑N_1.length : Int), AV.ptr false 0 0 0, AV.ptr false 0 0 0, AV.ptr false 0 0 1, AV.int IntKind.i64 (↑p : Int), AV.int IntKind.i64 (IntKind.i64.wrap ((↑p : Int) + 1)), AV.ptr false 0 0 0, AV.ptr false 0 0 1, AV.ptr false 0 0 0, AV.tup [], AV.any] [some (Row.lst 57 5 [AV.agg [AV.str s, AV.int IntKind.i64 (↑(blk s a) : Int), AV.int IntKind.i64 (↑n : Int), AV.int IntKind.i64 bd, AV.int IntKind.i64 er]]), some (Row.lst 35 2 [AV.agg [AV.sl false 11 0 (N_1 ++ [NE.mk 7 [] kids x]).length Cp.no, AV.int IntKind.i64 root]]), none, none, none, none, none, none, none, none, none, some (Row.gen 62 3 (N_1 ++ [NE.mk 7 [] kids x]).length fun (i : Nat) => neV ((N_1 ++ [NE.mk 7 [] kids x]).getD i dN))]) F' else bif hbI s (↑p : Int) == 43 then ∃ (r : Row), ∃ (kids : List Nat), some (Row.lst 3 1 [AV.int IntKind.i64 v]) = some r ∧ RoOf r (RoRow.mk 3 1 kids.length fun (i : Nat) => AV.int IntKind.i64 (↑(kids.getD i 0) : Int)) ∧ 1 = kids.length ∧ ∀ (F' : Fz) (x : Nat), Up F F' → FrK F' x kids → ∃ (N_1 : List NE), N.length = N_1.length ∧ some (Row.gen 62 3 N.length fun (i : Nat) => tkE 8 x (AV.agg [AV.int IntKind.i64 (N.getD i dN).kd, AV.str (N.getD i dN).w, AV.sl true ((N.getD i dN).x + 15) 0 (N.getD i dN).kids.length Cp.no])) = some (Row.gen 62 3 N_1.length fun (i : Nat) => neV (N_1.getD i dN)) ∧ N_1.length.le 100000 ∧ ∃ (a : Nat), IntKind.i64.wrap ((↑p : Int) + 1) = (↑a : Int) ∧ s.length.le 100000 ∧ k Exit.normal (St.mk [AV.ptr false 0 0 0, AV.ptr false 1 0 0, AV.any, AV.any, AV.any, AV.int IntKind.i64 (↑N_1.length : Int), AV.any, AV.any, AV.int IntKind.i64 8, AV.any, AV.any, AV.any, AV.any, AV.any, AV.any, AV.any, AV.any, AV.any, AV.any, AV.any, AV.any, AV.any, AV.any, AV.any, AV.any, AV.any, AV.any, AV.any, AV.any, AV.any, AV.any, AV.any, AV.any, AV.any, AV.any, AV.any, AV.any, AV.any, AV.any, AV.any, AV.any, AV.any, AV.any, AV.any, AV.any, AV.any, AV.any, AV.any, AV.any, AV.any, AV.any, AV.any, AV.any, AV.any, AV.any, AV.any, AV.any, AV.any, AV.any, AV.any, AV.any, AV.any, AV.any, AV.any, AV.any, AV.any, AV.any, AV.any, AV.any, AV.any, AV.any, AV.any, AV.any, AV.any, AV.any, AV.any, AV.any, AV.any, AV.any, AV.any, AV.any, AV.any, AV.any, AV.any, AV.any, AV.any, AV.any, AV.any, AV.any, AV.any, AV.any, AV.any, AV.any, AV.any, AV.any, AV.ptr false 0 0 0, AV.ptr false 0 0 0, AV.ptr false 0 0 4, AV.int IntKind.i64 er, AV.bool true, AV.ptr false 0 0 0, AV.int IntKind.u8 (hbI s (↑p : Int)), AV.bool false, AV.bool (hbI s (↑p : Int) == 42), AV.bool true, AV.bool (hbI s (↑p : Int) == 43), AV.any, AV.any, AV.int IntKind.i64 8, AV.bool false, AV.ptr false 1 0 0, AV.int IntKind.i64 8, AV.int IntKind.i64 v, AV.sl false 8 0 1 Cp.tight, AV.agg [AV.int IntKind.i64 8, AV.str [], AV.sl false 8 0 1 Cp.tight], AV.int IntKind.i64 (↑N_1.length : Int), AV.ptr false 0 0 0, AV.ptr false 0 0 0, AV.ptr false 0 0 1, AV.int IntKind.i64 (↑p : Int), AV.int IntKind.i64 (IntKind.i64.wrap ((↑p : Int) + 1)), AV.ptr false 0 0 0, AV.ptr false 0 0 1, AV.ptr false 0 0 0, AV.tup [], AV.any] [some (Row.lst 57 5 [AV.agg [AV.str s, AV.int IntKind.i64 (↑(blk s a) : Int), AV.int IntKind.i64 (↑n : Int), AV.int IntKind.i64 bd, AV.int IntKind.i64 er]]), some (Row.lst 35 2 [AV.agg [AV.sl false 11 0 (N_1 ++ [NE.mk 8 [] kids x]).length Cp.no, AV.int IntKind.i64 root]]), none, none, none, none, none, none, none, none, none, some (Row.gen 62 3 (N_1 ++ [NE.mk 8 [] kids x]).length fun (i : Nat) => neV ((N_1 ++ [NE.mk 8 [] kids x]).getD i dN))]) F' else bif hbI s (↑p : Int) == 63 then ∃ (r : Row), ∃ (kids : List Nat), some (Row.lst 3 1 [AV.int IntKind.i64 v]) = some r ∧ RoOf r (RoRow.mk 3 1 kids.length fun (i : Nat) => AV.int IntKind.i64 (↑(kids.getD i 0) : Int)) ∧ 1 = kids.length ∧ ∀ (F' : Fz) (x : Nat), Up F F' → FrK F' x kids → ∃ (N_1 : List NE), N.length = N_1.length ∧ some (Row.gen 62 3 N.length fun (i : Nat) => tkE 8 x (AV.agg [AV.int IntKind.i64 (N.getD i dN).kd, AV.str (N.getD i dN).w, AV.sl true ((N.getD i dN).x + 15) 0 (N.getD i dN).kids.length Cp.no])) = some (Row.gen 62 3 N_1.length fun (i : Nat) => neV (N_1.getD i dN)) ∧ N_1.length.le 100000 ∧ ∃ (a : Nat), IntKind.i64.wrap ((↑p : Int) + 1) = (↑a : Int) ∧ s.length.le 100000 ∧ k Exit.normal (St.mk [AV.ptr false 0 0 0, AV.ptr false 1 0 0, AV.any, AV.any, AV.any, AV.int IntKind.i64 (↑N_1.length : Int), AV.any, AV.any, AV.int IntKind.i64 9, AV.any, AV.any, AV.any, AV.any, AV.any, AV.any, AV.any, AV.any, AV.any, AV.any, AV.any, AV.any, AV.any, AV.any, AV.any, AV.any, AV.any, AV.any, AV.any, AV.any, AV.any, AV.any, AV.any, AV.any, AV.any, AV.any, AV.any, AV.any, AV.any, AV.any, AV.any, AV.any, AV.any, AV.any, AV.any, AV.any, AV.any, AV.any, AV.any, AV.any, AV.any, AV.any, AV.any, AV.any, AV.any, AV.any, AV.any, AV.any, AV.any, AV.any, AV.any, AV.any, AV.any, AV.any, AV.any, AV.any, AV.any, AV.any, AV.any, AV.any, AV.any, AV.any, AV.any, AV.any, AV.any, AV.any, AV.any, AV.any, AV.any, AV.any, AV.any, AV.any, AV.any, AV.any, AV.any, AV.any, AV.any, AV.any, AV.any, AV.any, AV.any, AV.any, AV.any, AV.any, AV.any, AV.any, AV.ptr false 0 0 0, AV.ptr false 0 0 0, AV.ptr false 0 0 4, AV.int IntKind.i64 er, AV.bool true, AV.ptr false 0 0 0, AV.int IntKind.u8 (hbI s (↑p : Int)), AV.bool false, AV.bool (hbI s (↑p : Int) == 42), AV.bool false, AV.bool (hbI s (↑p : Int) == 43), AV.bool true, AV.bool (hbI s (↑p : Int) == 63), AV.int IntKind.i64 9, AV.bool false, AV.ptr false 1 0 0, AV.int IntKind.i64 9, AV.int IntKind.i64 v, AV.sl false 8 0 1 Cp.tight, AV.agg [AV.int IntKind.i64 9, AV.str [], AV.sl false 8 0 1 Cp.tight], AV.int IntKind.i64 (↑N_1.length : Int), AV.ptr false 0 0 0, AV.ptr false 0 0 0, AV.ptr false 0 0 1, AV.int IntKind.i64 (↑p : Int), AV.int IntKind.i64 (IntKind.i64.wrap ((↑p : Int) + 1)), AV.ptr false 0 0 0, AV.ptr false 0 0 1, AV.ptr false 0 0 0, AV.tup [], AV.any] [some (Row.lst 57 5 [AV.agg [AV.str s, AV.int IntKind.i64 (↑(blk s a) : Int), AV.int IntKind.i64 (↑n : Int), AV.int IntKind.i64 bd, AV.int IntKind.i64 er]]), some (Row.lst 35 2 [AV.agg [AV.sl false 11 0 (N_1 ++ [NE.mk 9 [] kids x]).length Cp.no, AV.int IntKind.i64 root]]), none, none, none, none, none, none, none, none, none, some (Row.gen 62 3 (N_1 ++ [NE.mk 9 [] kids x]).length fun (i : Nat) => neV ((N_1 ++ [NE.mk 9 [] kids x]).getD i dN))]) F' else k (Exit.exit 1) (St.mk [AV.ptr false 0 0 0, AV.ptr false 1 0 0, AV.any, AV.any, AV.any, AV.int IntKind.i64 v, AV.any, AV.any, AV.int IntKind.i64 0, AV.any, AV.any, AV.any, AV.any, AV.any, AV.any, AV.any, AV.any, AV.any, AV.any, AV.any, AV.any, AV.any, AV.any, AV.any, AV.any, AV.any, AV.any, AV.any, AV.any, AV.any, AV.any, AV.any, AV.any, AV.any, AV.any, AV.any, AV.any, AV.any, AV.any, AV.any, AV.any, AV.any, AV.any, AV.any, AV.any, AV.any, AV.any, AV.any, AV.any, AV.any, AV.any, AV.any, AV.any, AV.any, AV.any, AV.any, AV.any, AV.any, AV.any, AV.any, AV.any, AV.any, AV.any, AV.any, AV.any, AV.any, AV.any, AV.any, AV.any, AV.any, AV.any, AV.any, AV.any, AV.any, AV.any, AV.any, AV.any, AV.any, AV.any, AV.any, AV.any, AV.any, AV.any, AV.any, AV.any, AV.any, AV.any, AV.any, AV.any, AV.any, AV.any, AV.any, AV.any, AV.any, AV.any, AV.ptr false 0 0 0, AV.ptr false 0 0 0, AV.ptr false 0 0 4, AV.int IntKind.i64 er, AV.bool true, AV.ptr false 0 0 0, AV.int IntKind.u8 (hbI s (↑p : Int)), AV.bool false, AV.bool (hbI s (↑p : Int) == 42), AV.bool false, AV.bool (hbI s (↑p : Int) == 43), AV.bool false, AV.bool (hbI s (↑p : Int) == 63), AV.int IntKind.i64 0, AV.bool true, AV.any, AV.any, AV.any, AV.any, AV.any, AV.any, AV.any, AV.any, AV.any, AV.any, AV.any, AV.any, AV.any, AV.any, AV.any, AV.any] [some (Row.lst 57 5 [AV.agg [AV.str s, AV.int IntKind.i64 (↑p : Int), AV.int IntKind.i64 (↑n : Int), AV.int IntKind.i64 bd, AV.int IntKind.i64 er]]), some (Row.lst 35 2 [AV.agg [AV.sl false 7 0 N.length Cp.no, AV.int IntKind.i64 root]]), none, none, none, none, none, some (Row.gen 62 3 N.length fun (i : Nat) => neV (N.getD i dN))]) F else k (Exit.exit 1) (St.mk [AV.ptr false 0 0 0, AV.ptr false 1 0 0, AV.any, AV.any, AV.any, AV.int IntKind.i64 v, AV.any, AV.any, AV.any, AV.any, AV.any, AV.any, AV.any, AV.any, AV.any, AV.any, AV.any, AV.any, AV.any, AV.any, AV.any, AV.any, AV.any, AV.any, AV.any, AV.any, AV.any, AV.any, AV.any, AV.any, AV.any, AV.any, AV.any, AV.any, AV.any, AV.any, AV.any, AV.any, AV.any, AV.any, AV.any, AV.any, AV.any, AV.any, AV.any, AV.any, AV.any, AV.any, AV.any, AV.any, AV.any, AV.any, AV.any, AV.any, AV.any, AV.any, AV.any, AV.any, AV.any, AV.any, AV.any, AV.any, AV.any, AV.any, AV.any, AV.any, AV.any, AV.any, AV.any, AV.any, AV.any, AV.any, AV.any, AV.any, AV.any, AV.any, AV.any, AV.any, AV.any, AV.any, AV.any, AV.any, AV.any, AV.any, AV.any, AV.any, AV.any, AV.any, AV.any, AV.any, AV.any, AV.any, AV.any, AV.any, AV.any, AV.ptr false 0 0 0, AV.ptr false 0 0 0, AV.ptr false 0 0 4, AV.int IntKind.i64 er, AV.bool false, AV.any, AV.any, AV.any, AV.any, AV.any, AV.any, AV.any, AV.any, AV.any, AV.any, AV.any, AV.any, AV.any, AV.any, AV.any, AV.any, AV.any, AV.any, AV.any, AV.any, AV.any, AV.any, AV.any, AV.any, AV.any, AV.any] [some (Row.lst 57 5 [AV.agg [AV.str s, AV.int IntKind.i64 (↑p : Int), AV.int IntKind.i64 (↑n : Int), AV.int IntKind.i64 bd, AV.int IntKind.i64 er]]), some (Row.lst 35 2 [AV.agg [AV.sl false 7 0 N.length Cp.no, AV.int IntKind.i64 root]]), none, none, none, none, none, some (Row.gen 62 3 N.length fun (i : Nat) => neV (N.getD i dN))]) F) := by kernel_rfl
theorem envQ_ok (R : Nat → RoRow) (HP : HPt) : OKX Try.prog ((envP R).addCall 28 spec28) [] HP := (envP_ok R HP).addCall (f := 28) (fi := fi28) (by kernel_rfl) (spec28_ok R HP)
theorem kid1 (i : Nat) : RoOf (.lst 3 1 [.int .i64 (i : Nat)]) (kidN [i]) where
  ty := rfl
  esz := rfl
  len := Nat.le_refl _
  get := fun j hj => by
    have : j = 0 := by have hj : j < 1 := hj; omega
    subst this; rfl
  gtk := fun j hj a ha => by
    have ha : a ∈ [AV.int .i64 (([i].getD j 0 : Nat) : Int)] := ha
    simp only [List.mem_cons, List.not_mem_nil, or_false] at ha
    subst ha; trivial
abbrev pad8 (rr : Row) (n : Nat) (root : Int) (N : List NE) : Rows := [some rr, some (trow 7 n root), none, none, none, none, none, some (arow N)]
theorem pad8_live {rr : Row} {n : Nat} {root : Int} {N : List NE} {c : Nat} {r : Row} (h : Rows.live (pad8 rr n root N) c = some r) : (c = 0 ∧ r = rr) ∨ (c = 1 ∧ r = trow 7 n root) ∨ (c = 7 ∧ r = arow N) := by
  match c, h with
  | 0, h => cases h; exact .inl ⟨rfl, rfl⟩
  | 1, h => cases h; exact .inr (.inl ⟨rfl, rfl⟩)
  | 7, h => cases h; exact .inr (.inr ⟨rfl, rfl⟩)
  | 2, h => cases h
  | 3, h => cases h
  | 4, h => cases h
  | 5, h => cases h
  | 6, h => cases h
  | c + 8, h => simp [Rows.live] at h
theorem trow_v {c d n : Nat} {root : Int} {f : Nat → Option Nat} {m : Nat} (hf : f c = some d) (hc : c < m) : RowV f m (trow c n root) (trow d n root) := .lst1 rfl (Vw.aggI (VwL.cons (Vw.slI hc hf) (VwL.cons Vw.intI VwL.nil)))
/-- The list's row under the number 7. -/
theorem pad8_view {s : List UInt8} {p n bd er root : Int} {N : List NE} {h : Rows} {d : Nat} (h0 : h.live 0 = some (rrow s p n bd er)) (h1 : h.live 1 = some (trow d N.length root)) (h2 : h.live d = some (arow N)) : ViewW (mvR 7 d) (pad8 (rrow s p n bd er) N.length root N) h where
  inj := fun c c' b r r' hc hc' e e' => by
    have n0 : d ≠ 0 := fun e => by rw [e, h0] at h2; cases h2
    have n1 : d ≠ 1 := fun e => by rw [e, h1] at h2; cases h2
    rcases pad8_live hc with ⟨rfl, _⟩ | ⟨rfl, _⟩ | ⟨rfl, _⟩ <;> rcases pad8_live hc' with ⟨rfl, _⟩ | ⟨rfl, _⟩ | ⟨rfl, _⟩ <;> first | rfl | (simp only [show mvR 7 d 0 = some 0 from rfl, show mvR 7 d 1 = some 1 from rfl, show mvR 7 d 7 = some d from rfl, Option.some.injEq] at e e'; omega)
  row := fun c r hc => by
    rcases pad8_live hc with ⟨rfl, rfl⟩ | ⟨rfl, rfl⟩ | ⟨rfl, rfl⟩
    · exact .inl ⟨0, _, rfl, h0, (rrow_g _ _ _ _ _).vw _ _⟩
    · exact .inl ⟨1, _, rfl, h1, trow_v rfl (by simp)⟩
    · exact .inl ⟨d, _, rfl, h2, (arow_g N).vw _ _⟩
theorem tm31_spr (v : Int) : tm31 (.int .i64 v) = spr [(0, .ptr false 0 0 0), (1, .ptr false 1 0 0), (5, .int .i64 v)] 0 126 := by kernel_rfl
theorem toPad {R : Nat → RoRow} {nk : Nat} {T TM : List AV} {h : Rows} {s : List UInt8} {p n bd er root : Int} {N : List NE} {d : Nat} {F : Fz} {S : St → Fz → Prop} (hnk : nk ≤ 7) (h0 : h.live 0 = some (rrow s p n bd er)) (h1 : h.live 1 = some (trow d N.length root)) (h2 : h.live d = some (arow N))
    (hT : VwL (mvR 7 d) 8 T TM) (hS : S ⟨T, pad8 (rrow s p n bd er) N.length root N⟩ F) : ToX R [] nk ⟨TM, h⟩ F S :=
  ToX.fitW (stE := ⟨T, pad8 (rrow s p n bd er) N.length root N⟩) (mvR 7 d) (pad8_view h0 h1 h2) hT (mvR_lt hnk) (by simp; omega) (ToX.here hS)
theorem trn_new {N : List NE} {kd : Nat} {w : List UInt8} {ts : List Tr} {is : List Nat} {x : Nat} (h : TrNs N ts is) : TrN (N ++ [⟨kd, w, is, x⟩]) (.mk kd w ts) N.length := by
  simp only [TrN]
  exact ⟨⟨kd, w, is, x⟩, by simp, rfl, rfl, TrNs.ext _ _ _ h⟩
theorem RMo.step {s : List UInt8} {p p1 : Nat} {N N1 : List NE} {F F1 F2 : Fz} {t1 : Tr} {i1 x kd : Nat} (h : RMo s p N F t1 p1 N1 i1 F1) (hp : p1 < s.length) (hu : Up F1 F2) (hf : FrK F2 x [i1]) :
    RMo s p N F (.mk kd [] [t1]) (blk s (p1 + 1)) (N1 ++ [⟨kd, [], [i1], x⟩]) N1.length F2 where
  mo := h.mo.trans (Mo.snoc _ _)
  nf := (h.nf.le hu).snoc hf.fr
  up := h.up.trans hu
  tr := trn_new (by simp only [TrNs, and_true]; exact h.tr)
  room := by
    have := blk_ge (s := s) (p1 + 1)
    have := h.room
    simp only [List.length_append, List.length_cons, List.length_nil]
    omega
theorem loop31 (R : Nat → RoRow) (s : List UInt8) (n : Nat) (HP : HPt) : ∀ st k F, lp31 s n st k F → SafeX Try.prog R [] (.block 1 (.loop (loopOf fi31 1))) st F k HP := by
  rintro ⟨TM, rows⟩ k F ⟨h1, h2, h3, h4, p, bd, er, v, root, d, N, h5, h6, h7, h8, hk⟩
  simp only at h1 h2 h3 h4 h5 h6 h7 h8
  have ini : VwL (mvR 7 d) 8 (tm31 (.int .i64 v)) TM := by
    rw [tm31_spr]
    exact VwL.ofKnown h1 ⟨by rw [h2]; exact Vw.ptrI (by simp) rfl, by rw [h3]; exact Vw.ptrI (by simp) rfl, by rw [h5]; exact Vw.intI, trivial⟩
  cases hz : er == 0 with
  | false =>
    rw [hz] at hk
    simp only [cond_false] at hk
    refine SafeX.loop_block (Inv := fun m st F' => F' = F ∧ st = fam31 s p n bd er root N v) ?_ ?_
    · exact toPad h4 h6 h7 h8 ini ⟨0, rfl, rfl⟩
    rintro m st' F' ⟨rfl, rfl⟩
    refine SafeX.by mixed (envQ_ok R HP) (f := 31) (fi := fi31) (i := 1) (by kernel_rfl) (b := .loop (loopOf fi31 1)) (by kernel_rfl) (subs_loop _) 1000 (vr31 R s p n bd er root v N _ F') ?_
    refine hcF hz ?_
    exact toPad h4 rfl rfl rfl (by (repeat' (first | with_reducible exact VwL.nil | with_reducible refine VwL.cons ?_ ?_ | with_reducible exact Vw.anyI | with_reducible exact Vw.strI | with_reducible exact Vw.boolI | with_reducible exact Vw.intI | with_reducible exact Vw.nilsI | exact Vw.ptrI (by simp) rfl | exact Vw.slI (by simp) rfl | with_reducible refine Vw.aggI ?_ | exact Vw.gndI rfl))) hk
  | true =>
    rw [hz] at hk
    have hz := eq_of_beq hz
    subst hz
    simp only [cond_true] at hk
    obtain ⟨rfl, i, t, rfl, hin, hk⟩ := hk
    refine SafeX.loop_block (Inv := fun m st F' => ∃ p1 N1 i1 t1, s.length + 1 ≤ m + p1 ∧ p1 ≤ s.length ∧ RMo s p N F t1 p1 N1 i1 F' ∧ pMarks s m t1 p1 = mks s t p ∧ st = fam31 s p1 n 0 0 root N1 (i1 : Nat)) ?_ ?_
    · refine toPad h4 h6 h7 h8 ini ?_
      exact ⟨s.length + 1, p, N, i, t, by omega, hin.le, RMo.mk (Mo.refl N) hin.nf (Up.refl F) hin.tr (Nat.le_refl _), rfl, rfl⟩
    rintro m st' F1 ⟨p1, N1, i1, t1, hm, hp1, hmo, hpm, rfl⟩
    obtain ⟨g, rfl⟩ : ∃ g, m = g + 1 := ⟨m - 1, by omega⟩
    have hsm := hin.sm
    have hN1 : N1.length ≤ 2000 := by have := hmo.room; have := hin.room; omega
    refine SafeX.by mixed (envQ_ok R HP) (f := 31) (fi := fi31) (i := 1) (by kernel_rfl) (b := .loop (loopOf fi31 1)) (by kernel_rfl) (subs_loop _) 1000 (vr31 R s p1 n 0 0 root (i1 : Nat) N1 _ F1) ?_
    have more : ∀ (c : Int) (j : Nat), (hbI s p1 == c) = true → c ≠ 0 → markOf (hbI s p1) = some j → ∀ (F2 : Fz) (x : Nat), Up F1 F2 → FrK F2 x [i1] → ∀ (T : List AV) (h' : Rows), VwL (mvR 7 11) 8 (tm31 (.int .i64 (N1.length : Nat))) T →
        h'.live 0 = some (rrow s (blk s (p1 + 1) : Nat) (n : Nat) 0 0) → h'.live 1 = some (trow 11 (N1 ++ [NE.mk ((7 + j : Nat) : Int) [] [i1] x]).length root) → h'.live 11 = some (arow (N1 ++ [NE.mk ((7 + j : Nat) : Int) [] [i1] x])) →
        ToX R [] rows.length ⟨T, h'⟩ F2 fun st3 F3 => ∃ n', n' < g + 1 ∧ ∃ p1 N1 i1 t1, s.length + 1 ≤ n' + p1 ∧ p1 ≤ s.length ∧ RMo s p N F t1 p1 N1 i1 F3 ∧ pMarks s n' t1 p1 = mks s t p ∧ st3 = fam31 s p1 n 0 0 root N1 (i1 : Nat) := by
      intro c j hc hc0 hj F2 x hu hf T h' hv e0 e1 e2
      have hlt := hb_lt hc hc0
      have hb := blk_ge (s := s) (p1 + 1)
      refine toPad h4 e0 e1 e2 hv ?_
      refine ⟨g, Nat.lt_succ_self g, blk s (p1 + 1), _, N1.length, .mk (7 + j) [] [t1], by omega, blk_le hlt, hmo.step hlt hu hf, ?_, rfl⟩
      rw [← hpm, pMarks, hj]
    refine hcT rfl ⟨show (0 : Int) ≤ (p1 : Int) - 0 by omega, hcB (fun c1 => ?_) fun c1 => hcB (fun c2 => ?_) fun c2 => hcB (fun c3 => ?_) fun c3 => ?_⟩
    · refine ⟨_, [i1], rfl, kid1 i1, rfl, fun F2 x hu hf => ⟨N1, rfl, rfl, show N1.length ≤ 100000 by omega, p1 + 1, wrapSucc p1 (by omega), show s.length ≤ 100000 by have := hin.sm; omega, ?_⟩⟩
      exact more 42 0 c1 (by decide) (by unfold markOf; rw [c1]; rfl) F2 x hu hf _ _ (by (repeat' (first | with_reducible exact VwL.nil | with_reducible refine VwL.cons ?_ ?_ | with_reducible exact Vw.anyI | with_reducible exact Vw.strI | with_reducible exact Vw.boolI | with_reducible exact Vw.intI | with_reducible exact Vw.nilsI | exact Vw.ptrI (by simp) rfl | exact Vw.slI (by simp) rfl | with_reducible refine Vw.aggI ?_ | exact Vw.gndI rfl))) rfl rfl rfl
    · refine ⟨_, [i1], rfl, kid1 i1, rfl, fun F2 x hu hf => ⟨N1, rfl, rfl, show N1.length ≤ 100000 by omega, p1 + 1, wrapSucc p1 (by omega), show s.length ≤ 100000 by have := hin.sm; omega, ?_⟩⟩
      exact more 43 1 c2 (by decide) (by unfold markOf; rw [c1, c2]; rfl) F2 x hu hf _ _ (by (repeat' (first | with_reducible exact VwL.nil | with_reducible refine VwL.cons ?_ ?_ | with_reducible exact Vw.anyI | with_reducible exact Vw.strI | with_reducible exact Vw.boolI | with_reducible exact Vw.intI | with_reducible exact Vw.nilsI | exact Vw.ptrI (by simp) rfl | exact Vw.slI (by simp) rfl | with_reducible refine Vw.aggI ?_ | exact Vw.gndI rfl))) rfl rfl rfl
    · refine ⟨_, [i1], rfl, kid1 i1, rfl, fun F2 x hu hf => ⟨N1, rfl, rfl, show N1.length ≤ 100000 by omega, p1 + 1, wrapSucc p1 (by omega), show s.length ≤ 100000 by have := hin.sm; omega, ?_⟩⟩
      exact more 63 2 c3 (by decide) (by unfold markOf; rw [c1, c2, c3]; rfl) F2 x hu hf _ _ (by (repeat' (first | with_reducible exact VwL.nil | with_reducible refine VwL.cons ?_ ?_ | with_reducible exact Vw.anyI | with_reducible exact Vw.strI | with_reducible exact Vw.boolI | with_reducible exact Vw.intI | with_reducible exact Vw.nilsI | exact Vw.ptrI (by simp) rfl | exact Vw.slI (by simp) rfl | with_reducible refine Vw.aggI ?_ | exact Vw.gndI rfl))) rfl rfl rfl
    · have hm : markOf (hbI s p1) = none := by unfold markOf; rw [c1, c2, c3]; rfl
      have e : (t1, p1) = mks s t p := by rw [← hpm, pMarks, hm]
      have q := hk N1 i1 F1 (by rw [← e]; exact hmo)
      rw [← e] at q
      exact toPad h4 rfl rfl rfl (by (repeat' (first | with_reducible exact VwL.nil | with_reducible refine VwL.cons ?_ ?_ | with_reducible exact Vw.anyI | with_reducible exact Vw.strI | with_reducible exact Vw.boolI | with_reducible exact Vw.intI | with_reducible exact Vw.nilsI | exact Vw.ptrI (by simp) rfl | exact Vw.slI (by simp) rfl | with_reducible refine Vw.aggI ?_ | exact Vw.gndI rfl))) q
end Go.Dc.Ke
end
section
set_option linter.unusedVariables false
set_option linter.unusedSimpArgs false
namespace Go.Dc.Ke
open Go.Proofs Go.RowKit Go.Shelf
set_option maxRecDepth 100000
theorem vc31 (R : Nat → RoRow) (s : List UInt8) (a n : Nat) (root : Int) (N : List NE) (alt : Nat → PR) (k : AV → Rows → Fz → Prop) (F : Fz) : vcx (envIl R s n alt) 1000 31 fi31 [.ptr false 0 0 0, .ptr false 1 0 0] [some (rrow s (a : Nat) (n : Nat) 0 0), some (trow 2 N.length root), some (arow N)] k F = (((↑a : Int) - 0).NonNeg ∧ bif hbI s (↑a : Int) == 64 then ∃ (a_1 : Nat), IntKind.i64.wrap ((↑a : Int) + 1) = (↑a_1 : Int) ∧ a_1.le s.length ∧ s.length.le 100000 ∧ (0 : Int) = 0 ∧ bif (scan wordly s a_1).beq a_1 then ∃ (N_1 : List NE), N.length = N_1.length ∧ some (Row.gen 62 3 N.length fun (i : Nat) => neV (N.getD i dN)) = some (Row.gen 62 3 N_1.length fun (i : Nat) => neV (N_1.getD i dN)) ∧ N_1.length.le 100000 ∧ ∃ (a : Nat), (↑a_1 : Int) = (↑a : Int) ∧ s.length.le 100000 ∧ 126 = 126 ∧ AV.ptr false 0 0 0 = AV.ptr false 0 0 0 ∧ AV.ptr false 1 0 0 = AV.ptr false 1 0 0 ∧ Nat.le 6 7 ∧ ∃ (p : Nat), ∃ (bd : Int), ∃ (er : Int), ∃ (v : Int), ∃ (root_1 : Int), ∃ (d : Nat), ∃ (N : List NE), AV.int IntKind.i64 (↑N_1.length : Int) = AV.int IntKind.i64 v ∧ some (Row.lst 57 5 [AV.agg [AV.str s, AV.int IntKind.i64 (↑(blk s a) : Int), AV.int IntKind.i64 (↑n : Int), AV.int IntKind.i64 (↑a_1 : Int), AV.int IntKind.i64 3]]) = some (Row.lst 57 5 [AV.agg [AV.str s, AV.int IntKind.i64 (↑p : Int), AV.int IntKind.i64 (↑n : Int), AV.int IntKind.i64 bd, AV.int IntKind.i64 er]]) ∧ some (Row.lst 35 2 [AV.agg [AV.sl false 5 0 (N_1 ++ [NE.mk 2 [] [] 0]).length Cp.no, AV.int IntKind.i64 root]]) = some (Row.lst 35 2 [AV.agg [AV.sl false d 0 N.length Cp.no, AV.int IntKind.i64 root_1]]) ∧ Rows.live [some (Row.lst 57 5 [AV.agg [AV.str s, AV.int IntKind.i64 (↑(blk s a) : Int), AV.int IntKind.i64 (↑n : Int), AV.int IntKind.i64 (↑a_1 : Int), AV.int IntKind.i64 3]]), some (Row.lst 35 2 [AV.agg [AV.sl false 5 0 (N_1 ++ [NE.mk 2 [] [] 0]).length Cp.no, AV.int IntKind.i64 root]]), none, none, none, some (Row.gen 62 3 (N_1 ++ [NE.mk 2 [] [] 0]).length fun (i : Nat) => neV ((N_1 ++ [NE.mk 2 [] [] 0]).getD i dN))] d = some (Row.gen 62 3 N.length fun (i : Nat) => neV (N.getD i dN)) ∧ bif er == 0 then bd = 0 ∧ ∃ (i : Nat), ∃ (t : Tr), v = (↑i : Int) ∧ RMk s p N F t i ∧ ∀ (N' : List NE) (i' : Nat) (F' : Fz), RMo s p N F (mks s t p).fst (mks s t p).snd N' i' F' → k (AV.int IntKind.i64 (↑i' : Int)) [some (Row.lst 57 5 [AV.agg [AV.str s, AV.int IntKind.i64 (↑(mks s t p).snd : Int), AV.int IntKind.i64 (↑n : Int), AV.int IntKind.i64 0, AV.int IntKind.i64 0]]), some (Row.lst 35 2 [AV.agg [AV.sl false 7 0 N'.length Cp.no, AV.int IntKind.i64 root_1]]), none, none, none, none, none, some (Row.gen 62 3 N'.length fun (i : Nat) => neV (N'.getD i dN))] F' else k (AV.int IntKind.i64 v) [some (Row.lst 57 5 [AV.agg [AV.str s, AV.int IntKind.i64 (↑p : Int), AV.int IntKind.i64 (↑n : Int), AV.int IntKind.i64 bd, AV.int IntKind.i64 er]]), some (Row.lst 35 2 [AV.agg [AV.sl false 7 0 N.length Cp.no, AV.int IntKind.i64 root_1]]), none, none, none, none, none, some (Row.gen 62 3 N.length fun (i : Nat) => neV (N.getD i dN))] F else ∃ (N_1 : List NE), N.length = N_1.length ∧ some (Row.gen 62 3 N.length fun (i : Nat) => neV (N.getD i dN)) = some (Row.gen 62 3 N_1.length fun (i : Nat) => neV (N_1.getD i dN)) ∧ N_1.length.le 100000 ∧ ∃ (a : Nat), (↑(scan wordly s a_1) : Int) = (↑a : Int) ∧ s.length.le 100000 ∧ 126 = 126 ∧ AV.ptr false 0 0 0 = AV.ptr false 0 0 0 ∧ AV.ptr false 1 0 0 = AV.ptr false 1 0 0 ∧ Nat.le 6 7 ∧ ∃ (p : Nat), ∃ (bd : Int), ∃ (er : Int), ∃ (v : Int), ∃ (root_1 : Int), ∃ (d : Nat), ∃ (N : List NE), AV.int IntKind.i64 (↑N_1.length : Int) = AV.int IntKind.i64 v ∧ some (Row.lst 57 5 [AV.agg [AV.str s, AV.int IntKind.i64 (↑(blk s a) : Int), AV.int IntKind.i64 (↑n : Int), AV.int IntKind.i64 0, AV.int IntKind.i64 0]]) = some (Row.lst 57 5 [AV.agg [AV.str s, AV.int IntKind.i64 (↑p : Int), AV.int IntKind.i64 (↑n : Int), AV.int IntKind.i64 bd, AV.int IntKind.i64 er]]) ∧ some (Row.lst 35 2 [AV.agg [AV.sl false 5 0 (N_1 ++ [NE.mk 2 (sub s a_1 (scan wordly s a_1)) [] 0]).length Cp.no, AV.int IntKind.i64 root]]) = some (Row.lst 35 2 [AV.agg [AV.sl false d 0 N.length Cp.no, AV.int IntKind.i64 root_1]]) ∧ Rows.live [some (Row.lst 57 5 [AV.agg [AV.str s, AV.int IntKind.i64 (↑(blk s a) : Int), AV.int IntKind.i64 (↑n : Int), AV.int IntKind.i64 0, AV.int IntKind.i64 0]]), some (Row.lst 35 2 [AV.agg [AV.sl false 5 0 (N_1 ++ [NE.mk 2 (sub s a_1 (scan wordly s a_1)) [] 0]).length Cp.no, AV.int IntKind.i64 root]]), none, none, none, some (Row.gen 62 3 (N_1 ++ [NE.mk 2 (sub s a_1 (scan wordly s a_1)) [] 0]).length fun (i : Nat) => neV ((N_1 ++ [NE.mk 2 (sub s a_1 (scan wordly s a_1)) [] 0]).getD i dN))] d = some (Row.gen 62 3 N.length fun (i : Nat) => neV (N.getD i dN)) ∧ bif er == 0 then bd = 0 ∧ ∃ (i : Nat), ∃ (t : Tr), v = (↑i : Int) ∧ RMk s p N F t i ∧ ∀ (N' : List NE) (i' : Nat) (F' : Fz), RMo s p N F (mks s t p).fst (mks s t p).snd N' i' F' → k (AV.int IntKind.i64 (↑i' : Int)) [some (Row.lst 57 5 [AV.agg [AV.str s, AV.int IntKind.i64 (↑(mks s t p).snd : Int), AV.int IntKind.i64 (↑n : Int), AV.int IntKind.i64 0, AV.int IntKind.i64 0]]), some (Row.lst 35 2 [AV.agg [AV.sl false 7 0 N'.length Cp.no, AV.int IntKind.i64 root_1]]), none, none, none, none, none, some (Row.gen 62 3 N'.length fun (i : Nat) => neV (N'.getD i dN))] F' else k (AV.int IntKind.i64 v) [some (Row.lst 57 5 [AV.agg [AV.str s, AV.int IntKind.i64 (↑p : Int), AV.int IntKind.i64 (↑n : Int), AV.int IntKind.i64 bd, AV.int IntKind.i64 er]]), some (Row.lst 35 2 [AV.agg [AV.sl false 7 0 N.length Cp.no, AV.int IntKind.i64 root_1]]), none, none, none, none, none, some (Row.gen 62 3 N.length fun (i : Nat) => neV (N.getD i dN))] F else bif hbI s (↑a : Int) == 35 then ∃ (a_1 : Nat), (↑a : Int) = (↑a_1 : Int) ∧ a_1.le 200000 ∧ Nat.le 5 100000 ∧ bif (exN s (ByteArray.mk #[35, 116, 101, 120, 116]).data.toList a_1).fst then ∃ (N_1 : List NE), N.length = N_1.length ∧ some (Row.gen 62 3 N.length fun (i : Nat) => neV (N.getD i dN)) = some (Row.gen 62 3 N_1.length fun (i : Nat) => neV (N_1.getD i dN)) ∧ N_1.length.le 100000 ∧ ∃ (a : Nat), (↑(exN s (ByteArray.mk #[35, 116, 101, 120, 116]).data.toList a_1).snd : Int) = (↑a : Int) ∧ s.length.le 100000 ∧ 126 = 126 ∧ AV.ptr false 0 0 0 = AV.ptr false 0 0 0 ∧ AV.ptr false 1 0 0 = AV.ptr false 1 0 0 ∧ Nat.le 6 7 ∧ ∃ (p : Nat), ∃ (bd : Int), ∃ (er : Int), ∃ (v : Int), ∃ (root_1 : Int), ∃ (d : Nat), ∃ (N : List NE), AV.int IntKind.i64 (↑N_1.length : Int) = AV.int IntKind.i64 v ∧ some (Row.lst 57 5 [AV.agg [AV.str s, AV.int IntKind.i64 (↑(blk s a) : Int), AV.int IntKind.i64 (↑n : Int), AV.int IntKind.i64 0, AV.int IntKind.i64 0]]) = some (Row.lst 57 5 [AV.agg [AV.str s, AV.int IntKind.i64 (↑p : Int), AV.int IntKind.i64 (↑n : Int), AV.int IntKind.i64 bd, AV.int IntKind.i64 er]]) ∧ some (Row.lst 35 2 [AV.agg [AV.sl false 5 0 (N_1 ++ [NE.mk 3 [] [] 0]).length Cp.no, AV.int IntKind.i64 root]]) = some (Row.lst 35 2 [AV.agg [AV.sl false d 0 N.length Cp.no, AV.int IntKind.i64 root_1]]) ∧ Rows.live [some (Row.lst 57 5 [AV.agg [AV.str s, AV.int IntKind.i64 (↑(blk s a) : Int), AV.int IntKind.i64 (↑n : Int), AV.int IntKind.i64 0, AV.int IntKind.i64 0]]), some (Row.lst 35 2 [AV.agg [AV.sl false 5 0 (N_1 ++ [NE.mk 3 [] [] 0]).length Cp.no, AV.int IntKind.i64 root]]), none, none, none, some (Row.gen 62 3 (N_1 ++ [NE.mk 3 [] [] 0]).length fun (i : Nat) => neV ((N_1 ++ [NE.mk 3 [] [] 0]).getD i dN))] d = some (Row.gen 62 3 N.length fun (i : Nat) => neV (N.getD i dN)) ∧ bif er == 0 then bd = 0 ∧ ∃ (i : Nat), ∃ (t : Tr), v = (↑i : Int) ∧ RMk s p N F t i ∧ ∀ (N' : List NE) (i' : Nat) (F' : Fz), RMo s p N F (mks s t p).fst (mks s t p).snd N' i' F' → k (AV.int IntKind.i64 (↑i' : Int)) [some (Row.lst 57 5 [AV.agg [AV.str s, AV.int IntKind.i64 (↑(mks s t p).snd : Int), AV.int IntKind.i64 (↑n : Int), AV.int IntKind.i64 0, AV.int IntKind.i64 0]]), some (Row.lst 35 2 [AV.agg [AV.sl false 7 0 N'.length Cp.no, AV.int IntKind.i64 root_1]]), none, none, none, none, none, some (Row.gen 62 3 N'.length fun (i : Nat) => neV (N'.getD i dN))] F' else k (AV.int IntKind.i64 v) [some (Row.lst 57 5 [AV.agg [AV.str s, AV.int IntKind.i64 (↑p : Int), AV.int IntKind.i64 (↑n : Int), AV.int IntKind.i64 bd, AV.int IntKind.i64 er]]), some (Row.lst 35 2 [AV.agg [AV.sl false 7 0 N.length Cp.no, AV.int IntKind.i64 root_1]]), none, none, none, none, none, some (Row.gen 62 3 N.length fun (i : Nat) => neV (N.getD i dN))] F else ∃ (N_1 : List NE), N.length = N_1.length ∧ some (Row.gen 62 3 N.length fun (i : Nat) => neV (N.getD i dN)) = some (Row.gen 62 3 N_1.length fun (i : Nat) => neV (N_1.getD i dN)) ∧ N_1.length.le 100000 ∧ ∃ (a : Nat), (↑((exN s (ByteArray.mk #[35, 116, 101, 120, 116]).data.toList a_1).snd + 1) : Int) = (↑a : Int) ∧ s.length.le 100000 ∧ 126 = 126 ∧ AV.ptr false 0 0 0 = AV.ptr false 0 0 0 ∧ AV.ptr false 1 0 0 = AV.ptr false 1 0 0 ∧ Nat.le 6 7 ∧ ∃ (p : Nat), ∃ (bd : Int), ∃ (er : Int), ∃ (v : Int), ∃ (root_1 : Int), ∃ (d : Nat), ∃ (N : List NE), AV.int IntKind.i64 (↑N_1.length : Int) = AV.int IntKind.i64 v ∧ some (Row.lst 57 5 [AV.agg [AV.str s, AV.int IntKind.i64 (↑(blk s a) : Int), AV.int IntKind.i64 (↑n : Int), AV.int IntKind.i64 (↑(exN s (ByteArray.mk #[35, 116, 101, 120, 116]).data.toList a_1).snd : Int), AV.int IntKind.i64 3]]) = some (Row.lst 57 5 [AV.agg [AV.str s, AV.int IntKind.i64 (↑p : Int), AV.int IntKind.i64 (↑n : Int), AV.int IntKind.i64 bd, AV.int IntKind.i64 er]]) ∧ some (Row.lst 35 2 [AV.agg [AV.sl false 5 0 (N_1 ++ [NE.mk 3 [] [] 0]).length Cp.no, AV.int IntKind.i64 root]]) = some (Row.lst 35 2 [AV.agg [AV.sl false d 0 N.length Cp.no, AV.int IntKind.i64 root_1]]) ∧ Rows.live [some (Row.lst 57 5 [AV.agg [AV.str s, AV.int IntKind.i64 (↑(blk s a) : Int), AV.int IntKind.i64 (↑n : Int), AV.int IntKind.i64 (↑(exN s (ByteArray.mk #[35, 116, 101, 120, 116]).data.toList a_1).snd : Int), AV.int IntKind.i64 3]]), some (Row.lst 35 2 [AV.agg [AV.sl false 5 0 (N_1 ++ [NE.mk 3 [] [] 0]).length Cp.no, AV.int IntKind.i64 root]]), none, none, none, some (Row.gen 62 3 (N_1 ++ [NE.mk 3 [] [] 0]).length fun (i : Nat) => neV ((N_1 ++ [NE.mk 3 [] [] 0]).getD i dN))] d = some (Row.gen 62 3 N.length fun (i : Nat) => neV (N.getD i dN)) ∧ bif er == 0 then bd = 0 ∧ ∃ (i : Nat), ∃ (t : Tr), v = (↑i : Int) ∧ RMk s p N F t i ∧ ∀ (N' : List NE) (i' : Nat) (F' : Fz), RMo s p N F (mks s t p).fst (mks s t p).snd N' i' F' → k (AV.int IntKind.i64 (↑i' : Int)) [some (Row.lst 57 5 [AV.agg [AV.str s, AV.int IntKind.i64 (↑(mks s t p).snd : Int), AV.int IntKind.i64 (↑n : Int), AV.int IntKind.i64 0, AV.int IntKind.i64 0]]), some (Row.lst 35 2 [AV.agg [AV.sl false 7 0 N'.length Cp.no, AV.int IntKind.i64 root_1]]), none, none, none, none, none, some (Row.gen 62 3 N'.length fun (i : Nat) => neV (N'.getD i dN))] F' else k (AV.int IntKind.i64 v) [some (Row.lst 57 5 [AV.agg [AV.str s, AV.int IntKind.i64 (↑p : Int), AV.int IntKind.i64 (↑n : Int), AV.int IntKind.i64 bd, AV.int IntKind.i64 er]]), some (Row.lst 35 2 [AV.agg [AV.sl false 7 0 N.length Cp.no, AV.int IntKind.i64 root_1]]), none, none, none, none, none, some (Row.gen 62 3 N.length fun (i : Nat) => neV (N.getD i dN))] F else bif hbI s (↑a : Int) == 40 then bif (↑n : Int) == 16 then k (AV.int IntKind.i64 (-1)) [some (Row.lst 57 5 [AV.agg [AV.str s, AV.int IntKind.i64 (↑a : Int), AV.int IntKind.i64 (↑n : Int), AV.int IntKind.i64 (↑a : Int), AV.int IntKind.i64 5]]), some (Row.lst 35 2 [AV.agg [AV.sl false 2 0 N.length Cp.no, AV.int IntKind.i64 root]]), some (Row.gen 62 3 N.length fun (i : Nat) => neV (N.getD i dN))] F else ∃ (a_1 : Nat), IntKind.i64.wrap ((↑a : Int) + 1) = (↑a_1 : Int) ∧ s.length.le 100000 ∧ ((↑(blk s a_1) : Int) - 0).NonNeg ∧ bif hbI s (↑(blk s a_1) : Int) == 41 then ∃ (N_1 : List NE), N.length = N_1.length ∧ some (Row.gen 62 3 N.length fun (i : Nat) => neV (N.getD i dN)) = some (Row.gen 62 3 N_1.length fun (i : Nat) => neV (N_1.getD i dN)) ∧ N_1.length.le 100000 ∧ ∃ (a : Nat), IntKind.i64.wrap ((↑(blk s a_1) : Int) + 1) = (↑a : Int) ∧ s.length.le 100000 ∧ 126 = 126 ∧ AV.ptr false 0 0 0 = AV.ptr false 0 0 0 ∧ AV.ptr false 1 0 0 = AV.ptr false 1 0 0 ∧ Nat.le 6 7 ∧ ∃ (p : Nat), ∃ (bd : Int), ∃ (er : Int), ∃ (v : Int), ∃ (root_1 : Int), ∃ (d : Nat), ∃ (N : List NE), AV.int IntKind.i64 (↑N_1.length : Int) = AV.int IntKind.i64 v ∧ some (Row.lst 57 5 [AV.agg [AV.str s, AV.int IntKind.i64 (↑(blk s a) : Int), AV.int IntKind.i64 (↑n : Int), AV.int IntKind.i64 0, AV.int IntKind.i64 0]]) = some (Row.lst 57 5 [AV.agg [AV.str s, AV.int IntKind.i64 (↑p : Int), AV.int IntKind.i64 (↑n : Int), AV.int IntKind.i64 bd, AV.int IntKind.i64 er]]) ∧ some (Row.lst 35 2 [AV.agg [AV.sl false 5 0 (N_1 ++ [NE.mk 0 [] [] 0]).length Cp.no, AV.int IntKind.i64 root]]) = some (Row.lst 35 2 [AV.agg [AV.sl false d 0 N.length Cp.no, AV.int IntKind.i64 root_1]]) ∧ Rows.live [some (Row.lst 57 5 [AV.agg [AV.str s, AV.int IntKind.i64 (↑(blk s a) : Int), AV.int IntKind.i64 (↑n : Int), AV.int IntKind.i64 0, AV.int IntKind.i64 0]]), some (Row.lst 35 2 [AV.agg [AV.sl false 5 0 (N_1 ++ [NE.mk 0 [] [] 0]).length Cp.no, AV.int IntKind.i64 root]]), none, none, none, some (Row.gen 62 3 (N_1 ++ [NE.mk 0 [] [] 0]).length fun (i : Nat) => neV ((N_1 ++ [NE.mk 0 [] [] 0]).getD i dN))] d = some (Row.gen 62 3 N.length fun (i : Nat) => neV (N.getD i dN)) ∧ bif er == 0 then bd = 0 ∧ ∃ (i : Nat), ∃ (t : Tr), v = (↑i : Int) ∧ RMk s p N F t i ∧ ∀ (N' : List NE) (i' : Nat) (F' : Fz), RMo s p N F (mks s t p).fst (mks s t p).snd N' i' F' → k (AV.int IntKind.i64 (↑i' : Int)) [some (Row.lst 57 5 [AV.agg [AV.str s, AV.int IntKind.i64 (↑(mks s t p).snd : Int), AV.int IntKind.i64 (↑n : Int), AV.int IntKind.i64 0, AV.int IntKind.i64 0]]), some (Row.lst 35 2 [AV.agg [AV.sl false 7 0 N'.length Cp.no, AV.int IntKind.i64 root_1]]), none, none, none, none, none, some (Row.gen 62 3 N'.length fun (i : Nat) => neV (N'.getD i dN))] F' else k (AV.int IntKind.i64 v) [some (Row.lst 57 5 [AV.agg [AV.str s, AV.int IntKind.i64 (↑p : Int), AV.int IntKind.i64 (↑n : Int), AV.int IntKind.i64 bd, AV.int IntKind.i64 er]]), some (Row.lst 35 2 [AV.agg [AV.sl false 7 0 N.length Cp.no, AV.int IntKind.i64 root_1]]), none, none, none, none, none, some (Row.gen 62 3 N.length fun (i : Nat) => neV (N.getD i dN))] F else (0 : Int) = 0 ∧ n + 1 ≤ 16 ∧ ∃ (N_1 : List NE), ∃ (a : Nat), s = s ∧ (↑(blk s a_1) : Int) = (↑a : Int) ∧ IntKind.i64.wrap ((↑n : Int) + 1) = (↑(n + 1) : Int) ∧ (0 : Int) = 0 ∧ (0 : Int) = 0 ∧ N.length = N_1.length ∧ some (Row.gen 62 3 N.length fun (i : Nat) => neV (N.getD i dN)) = some (Row.gen 62 3 N_1.length fun (i : Nat) => neV (N_1.getD i dN)) ∧ RIn s a N_1 F ∧ (∀ (t : Tr) (a1 : Nat), alt a = PR.ok t a1 → ∀ (N' : List NE) (i : Nat) (F' : Fz), ROk s a N_1 F t a1 N' i F' → ∃ (a : Nat), (↑a1 : Int) = (↑a : Int) ∧ a.le 200000 ∧ Nat.le 1 100000 ∧ bif (exN s (ByteArray.mk #[41]).data.toList a).fst then ∃ (a_3 : Nat), (↑(exN s (ByteArray.mk #[41]).data.toList a).snd : Int) = (↑a_3 : Int) ∧ s.length.le 100000 ∧ 126 = 126 ∧ AV.ptr false 0 0 0 = AV.ptr false 0 0 0 ∧ AV.ptr false 1 0 0 = AV.ptr false 1 0 0 ∧ Nat.le 7 7 ∧ ∃ (p : Nat), ∃ (bd : Int), ∃ (er : Int), ∃ (v : Int), ∃ (root_1 : Int), ∃ (d : Nat), ∃ (N : List NE), AV.int IntKind.i64 (↑i : Int) = AV.int IntKind.i64 v ∧ some (Row.lst 57 5 [AV.agg [AV.str s, AV.int IntKind.i64 (↑(blk s a_3) : Int), AV.int IntKind.i64 (IntKind.i64.wrap ((↑(n + 1) : Int) - 1)), AV.int IntKind.i64 0, AV.int IntKind.i64 0]]) = some (Row.lst 57 5 [AV.agg [AV.str s, AV.int IntKind.i64 (↑p : Int), AV.int IntKind.i64 (↑n : Int), AV.int IntKind.i64 bd, AV.int IntKind.i64 er]]) ∧ some (Row.lst 35 2 [AV.agg [AV.sl false 6 0 N'.length Cp.no, AV.int IntKind.i64 root]]) = some (Row.lst 35 2 [AV.agg [AV.sl false d 0 N.length Cp.no, AV.int IntKind.i64 root_1]]) ∧ Rows.live [some (Row.lst 57 5 [AV.agg [AV.str s, AV.int IntKind.i64 (↑(blk s a_3) : Int), AV.int IntKind.i64 (IntKind.i64.wrap ((↑(n + 1) : Int) - 1)), AV.int IntKind.i64 0, AV.int IntKind.i64 0]]), some (Row.lst 35 2 [AV.agg [AV.sl false 6 0 N'.length Cp.no, AV.int IntKind.i64 root]]), none, none, none, none, some (Row.gen 62 3 N'.length fun (i : Nat) => neV (N'.getD i dN))] d = some (Row.gen 62 3 N.length fun (i : Nat) => neV (N.getD i dN)) ∧ bif er == 0 then bd = 0 ∧ ∃ (i : Nat), ∃ (t : Tr), v = (↑i : Int) ∧ RMk s p N F' t i ∧ ∀ (N' : List NE) (i' : Nat) (F'_1 : Fz), RMo s p N F' (mks s t p).fst (mks s t p).snd N' i' F'_1 → k (AV.int IntKind.i64 (↑i' : Int)) [some (Row.lst 57 5 [AV.agg [AV.str s, AV.int IntKind.i64 (↑(mks s t p).snd : Int), AV.int IntKind.i64 (↑n : Int), AV.int IntKind.i64 0, AV.int IntKind.i64 0]]), some (Row.lst 35 2 [AV.agg [AV.sl false 7 0 N'.length Cp.no, AV.int IntKind.i64 root_1]]), none, none, none, none, none, some (Row.gen 62 3 N'.length fun (i : Nat) => neV (N'.getD i dN))] F'_1 else k (AV.int IntKind.i64 v) [some (Row.lst 57 5 [AV.agg [AV.str s, AV.int IntKind.i64 (↑p : Int), AV.int IntKind.i64 (↑n : Int), AV.int IntKind.i64 bd, AV.int IntKind.i64 er]]), some (Row.lst 35 2 [AV.agg [AV.sl false 7 0 N.length Cp.no, AV.int IntKind.i64 root_1]]), none, none, none, none, none, some (Row.gen 62 3 N.length fun (i : Nat) => neV (N.getD i dN))] F' else ∃ (a_3 : Nat), (↑((exN s (ByteArray.mk #[41]).data.toList a).snd + 1) : Int) = (↑a_3 : Int) ∧ s.length.le 100000 ∧ 126 = 126 ∧ AV.ptr false 0 0 0 = AV.ptr false 0 0 0 ∧ AV.ptr false 1 0 0 = AV.ptr false 1 0 0 ∧ Nat.le 7 7 ∧ ∃ (p : Nat), ∃ (bd : Int), ∃ (er : Int), ∃ (v : Int), ∃ (root_1 : Int), ∃ (d : Nat), ∃ (N : List NE), AV.int IntKind.i64 (↑i : Int) = AV.int IntKind.i64 v ∧ some (Row.lst 57 5 [AV.agg [AV.str s, AV.int IntKind.i64 (↑(blk s a_3) : Int), AV.int IntKind.i64 (IntKind.i64.wrap ((↑(n + 1) : Int) - 1)), AV.int IntKind.i64 (↑(exN s (ByteArray.mk #[41]).data.toList a).snd : Int), AV.int IntKind.i64 3]]) = some (Row.lst 57 5 [AV.agg [AV.str s, AV.int IntKind.i64 (↑p : Int), AV.int IntKind.i64 (↑n : Int), AV.int IntKind.i64 bd, AV.int IntKind.i64 er]]) ∧ some (Row.lst 35 2 [AV.agg [AV.sl false 6 0 N'.length Cp.no, AV.int IntKind.i64 root]]) = some (Row.lst 35 2 [AV.agg [AV.sl false d 0 N.length Cp.no, AV.int IntKind.i64 root_1]]) ∧ Rows.live [some (Row.lst 57 5 [AV.agg [AV.str s, AV.int IntKind.i64 (↑(blk s a_3) : Int), AV.int IntKind.i64 (IntKind.i64.wrap ((↑(n + 1) : Int) - 1)), AV.int IntKind.i64 (↑(exN s (ByteArray.mk #[41]).data.toList a).snd : Int), AV.int IntKind.i64 3]]), some (Row.lst 35 2 [AV.agg [AV.sl false 6 0 N'.length Cp.no, AV.int IntKind.i64 root]]), none, none, none, none, some (Row.gen 62 3 N'.length fun (i : Nat) => neV (N'.getD i dN))] d = some (Row.gen 62 3 N.length fun (i : Nat) => neV (N.getD i dN)) ∧ bif er == 0 then bd = 0 ∧ ∃ (i : Nat), ∃ (t : Tr), v = (↑i : Int) ∧ RMk s p N F' t i ∧ ∀ (N' : List NE) (i' : Nat) (F'_1 : Fz), RMo s p N F' (mks s t p).fst (mks s t p).snd N' i' F'_1 → k (AV.int IntKind.i64 (↑i' : Int)) [some (Row.lst 57 5 [AV.agg [AV.str s, AV.int IntKind.i64 (↑(mks s t p).snd : Int), AV.int IntKind.i64 (↑n : Int), AV.int IntKind.i64 0, AV.int IntKind.i64 0]]), some (Row.lst 35 2 [AV.agg [AV.sl false 7 0 N'.length Cp.no, AV.int IntKind.i64 root_1]]), none, none, none, none, none, some (Row.gen 62 3 N'.length fun (i : Nat) => neV (N'.getD i dN))] F'_1 else k (AV.int IntKind.i64 v) [some (Row.lst 57 5 [AV.agg [AV.str s, AV.int IntKind.i64 (↑p : Int), AV.int IntKind.i64 (↑n : Int), AV.int IntKind.i64 bd, AV.int IntKind.i64 er]]), some (Row.lst 35 2 [AV.agg [AV.sl false 7 0 N.length Cp.no, AV.int IntKind.i64 root_1]]), none, none, none, none, none, some (Row.gen 62 3 N.length fun (i : Nat) => neV (N.getD i dN))] F') ∧ ∀ (a' e : Nat), alt a = PR.err a' e → ∀ (p' : Nat) (N' : List NE) (v : Int) (F' : Fz), p'.le 200000 → RErr s a N_1 F N' F' → ∃ (a : Nat), (↑p' : Int) = (↑a : Int) ∧ a.le 200000 ∧ Nat.le 1 100000 ∧ bif (↑e : Int) == 0 then bif (exN s (ByteArray.mk #[41]).data.toList a).fst then ∃ (a_4 : Nat), (↑(exN s (ByteArray.mk #[41]).data.toList a).snd : Int) = (↑a_4 : Int) ∧ s.length.le 100000 ∧ 126 = 126 ∧ AV.ptr false 0 0 0 = AV.ptr false 0 0 0 ∧ AV.ptr false 1 0 0 = AV.ptr false 1 0 0 ∧ Nat.le 7 7 ∧ ∃ (p : Nat), ∃ (bd : Int), ∃ (er : Int), ∃ (v_1 : Int), ∃ (root_1 : Int), ∃ (d : Nat), ∃ (N : List NE), AV.int IntKind.i64 v = AV.int IntKind.i64 v_1 ∧ some (Row.lst 57 5 [AV.agg [AV.str s, AV.int IntKind.i64 (↑(blk s a_4) : Int), AV.int IntKind.i64 (IntKind.i64.wrap ((↑(n + 1) : Int) - 1)), AV.int IntKind.i64 (↑a' : Int), AV.int IntKind.i64 0]]) = some (Row.lst 57 5 [AV.agg [AV.str s, AV.int IntKind.i64 (↑p : Int), AV.int IntKind.i64 (↑n : Int), AV.int IntKind.i64 bd, AV.int IntKind.i64 er]]) ∧ some (Row.lst 35 2 [AV.agg [AV.sl false 6 0 N'.length Cp.no, AV.int IntKind.i64 root]]) = some (Row.lst 35 2 [AV.agg [AV.sl false d 0 N.length Cp.no, AV.int IntKind.i64 root_1]]) ∧ Rows.live [some (Row.lst 57 5 [AV.agg [AV.str s, AV.int IntKind.i64 (↑(blk s a_4) : Int), AV.int IntKind.i64 (IntKind.i64.wrap ((↑(n + 1) : Int) - 1)), AV.int IntKind.i64 (↑a' : Int), AV.int IntKind.i64 0]]), some (Row.lst 35 2 [AV.agg [AV.sl false 6 0 N'.length Cp.no, AV.int IntKind.i64 root]]), none, none, none, none, some (Row.gen 62 3 N'.length fun (i : Nat) => neV (N'.getD i dN))] d = some (Row.gen 62 3 N.length fun (i : Nat) => neV (N.getD i dN)) ∧ bif er == 0 then bd = 0 ∧ ∃ (i : Nat), ∃ (t : Tr), v_1 = (↑i : Int) ∧ RMk s p N F' t i ∧ ∀ (N' : List NE) (i' : Nat) (F'_1 : Fz), RMo s p N F' (mks s t p).fst (mks s t p).snd N' i' F'_1 → k (AV.int IntKind.i64 (↑i' : Int)) [some (Row.lst 57 5 [AV.agg [AV.str s, AV.int IntKind.i64 (↑(mks s t p).snd : Int), AV.int IntKind.i64 (↑n : Int), AV.int IntKind.i64 0, AV.int IntKind.i64 0]]), some (Row.lst 35 2 [AV.agg [AV.sl false 7 0 N'.length Cp.no, AV.int IntKind.i64 root_1]]), none, none, none, none, none, some (Row.gen 62 3 N'.length fun (i : Nat) => neV (N'.getD i dN))] F'_1 else k (AV.int IntKind.i64 v_1) [some (Row.lst 57 5 [AV.agg [AV.str s, AV.int IntKind.i64 (↑p : Int), AV.int IntKind.i64 (↑n : Int), AV.int IntKind.i64 bd, AV.int IntKind.i64 er]]), some (Row.lst 35 2 [AV.agg [AV.sl false 7 0 N.length Cp.no, AV.int IntKind.i64 root_1]]), none, none, none, none, none, some (Row.gen 62 3 N.length fun (i : Nat) => neV (N.getD i dN))] F' else ∃ (a_4 : Nat), (↑((exN s (ByteArray.mk #[41]).data.toList a).snd + 1) : Int) = (↑a_4 : Int) ∧ s.length.le 100000 ∧ 126 = 126 ∧ AV.ptr false 0 0 0 = AV.ptr false 0 0 0 ∧ AV.ptr false 1 0 0 = AV.ptr false 1 0 0 ∧ Nat.le 7 7 ∧ ∃ (p : Nat), ∃ (bd : Int), ∃ (er : Int), ∃ (v_1 : Int), ∃ (root_1 : Int), ∃ (d : Nat), ∃ (N : List NE), AV.int IntKind.i64 v = AV.int IntKind.i64 v_1 ∧ some (Row.lst 57 5 [AV.agg [AV.str s, AV.int IntKind.i64 (↑(blk s a_4) : Int), AV.int IntKind.i64 (IntKind.i64.wrap ((↑(n + 1) : Int) - 1)), AV.int IntKind.i64 (↑(exN s (ByteArray.mk #[41]).data.toList a).snd : Int), AV.int IntKind.i64 3]]) = some (Row.lst 57 5 [AV.agg [AV.str s, AV.int IntKind.i64 (↑p : Int), AV.int IntKind.i64 (↑n : Int), AV.int IntKind.i64 bd, AV.int IntKind.i64 er]]) ∧ some (Row.lst 35 2 [AV.agg [AV.sl false 6 0 N'.length Cp.no, AV.int IntKind.i64 root]]) = some (Row.lst 35 2 [AV.agg [AV.sl false d 0 N.length Cp.no, AV.int IntKind.i64 root_1]]) ∧ Rows.live [some (Row.lst 57 5 [AV.agg [AV.str s, AV.int IntKind.i64 (↑(blk s a_4) : Int), AV.int IntKind.i64 (IntKind.i64.wrap ((↑(n + 1) : Int) - 1)), AV.int IntKind.i64 (↑(exN s (ByteArray.mk #[41]).data.toList a).snd : Int), AV.int IntKind.i64 3]]), some (Row.lst 35 2 [AV.agg [AV.sl false 6 0 N'.length Cp.no, AV.int IntKind.i64 root]]), none, none, none, none, some (Row.gen 62 3 N'.length fun (i : Nat) => neV (N'.getD i dN))] d = some (Row.gen 62 3 N.length fun (i : Nat) => neV (N.getD i dN)) ∧ bif er == 0 then bd = 0 ∧ ∃ (i : Nat), ∃ (t : Tr), v_1 = (↑i : Int) ∧ RMk s p N F' t i ∧ ∀ (N' : List NE) (i' : Nat) (F'_1 : Fz), RMo s p N F' (mks s t p).fst (mks s t p).snd N' i' F'_1 → k (AV.int IntKind.i64 (↑i' : Int)) [some (Row.lst 57 5 [AV.agg [AV.str s, AV.int IntKind.i64 (↑(mks s t p).snd : Int), AV.int IntKind.i64 (↑n : Int), AV.int IntKind.i64 0, AV.int IntKind.i64 0]]), some (Row.lst 35 2 [AV.agg [AV.sl false 7 0 N'.length Cp.no, AV.int IntKind.i64 root_1]]), none, none, none, none, none, some (Row.gen 62 3 N'.length fun (i : Nat) => neV (N'.getD i dN))] F'_1 else k (AV.int IntKind.i64 v_1) [some (Row.lst 57 5 [AV.agg [AV.str s, AV.int IntKind.i64 (↑p : Int), AV.int IntKind.i64 (↑n : Int), AV.int IntKind.i64 bd, AV.int IntKind.i64 er]]), some (Row.lst 35 2 [AV.agg [AV.sl false 7 0 N.length Cp.no, AV.int IntKind.i64 root_1]]), none, none, none, none, none, some (Row.gen 62 3 N.length fun (i : Nat) => neV (N.getD i dN))] F' else ∃ (a : Nat), (↑p' : Int) = (↑a : Int) ∧ s.length.le 100000 ∧ 126 = 126 ∧ AV.ptr false 0 0 0 = AV.ptr false 0 0 0 ∧ AV.ptr false 1 0 0 = AV.ptr false 1 0 0 ∧ Nat.le 7 7 ∧ ∃ (p : Nat), ∃ (bd : Int), ∃ (er : Int), ∃ (v_1 : Int), ∃ (root_1 : Int), ∃ (d : Nat), ∃ (N : List NE), AV.int IntKind.i64 v = AV.int IntKind.i64 v_1 ∧ some (Row.lst 57 5 [AV.agg [AV.str s, AV.int IntKind.i64 (↑(blk s a) : Int), AV.int IntKind.i64 (IntKind.i64.wrap ((↑(n + 1) : Int) - 1)), AV.int IntKind.i64 (↑a' : Int), AV.int IntKind.i64 (↑e : Int)]]) = some (Row.lst 57 5 [AV.agg [AV.str s, AV.int IntKind.i64 (↑p : Int), AV.int IntKind.i64 (↑n : Int), AV.int IntKind.i64 bd, AV.int IntKind.i64 er]]) ∧ some (Row.lst 35 2 [AV.agg [AV.sl false 6 0 N'.length Cp.no, AV.int IntKind.i64 root]]) = some (Row.lst 35 2 [AV.agg [AV.sl false d 0 N.length Cp.no, AV.int IntKind.i64 root_1]]) ∧ Rows.live [some (Row.lst 57 5 [AV.agg [AV.str s, AV.int IntKind.i64 (↑(blk s a) : Int), AV.int IntKind.i64 (IntKind.i64.wrap ((↑(n + 1) : Int) - 1)), AV.int IntKind.i64 (↑a' : Int), AV.int IntKind.i64 (↑e : Int)]]), some (Row.lst 35 2 [AV.agg [AV.sl false 6 0 N'.length Cp.no, AV.int IntKind.i64 root]]), none, none, none, none, some (Row.gen 62 3 N'.length fun (i : Nat) => neV (N'.getD i dN))] d = some (Row.gen 62 3 N.length fun (i : Nat) => neV (N.getD i dN)) ∧ bif er == 0 then bd = 0 ∧ ∃ (i : Nat), ∃ (t : Tr), v_1 = (↑i : Int) ∧ RMk s p N F' t i ∧ ∀ (N' : List NE) (i' : Nat) (F'_1 : Fz), RMo s p N F' (mks s t p).fst (mks s t p).snd N' i' F'_1 → k (AV.int IntKind.i64 (↑i' : Int)) [some (Row.lst 57 5 [AV.agg [AV.str s, AV.int IntKind.i64 (↑(mks s t p).snd : Int), AV.int IntKind.i64 (↑n : Int), AV.int IntKind.i64 0, AV.int IntKind.i64 0]]), some (Row.lst 35 2 [AV.agg [AV.sl false 7 0 N'.length Cp.no, AV.int IntKind.i64 root_1]]), none, none, none, none, none, some (Row.gen 62 3 N'.length fun (i : Nat) => neV (N'.getD i dN))] F'_1 else k (AV.int IntKind.i64 v_1) [some (Row.lst 57 5 [AV.agg [AV.str s, AV.int IntKind.i64 (↑p : Int), AV.int IntKind.i64 (↑n : Int), AV.int IntKind.i64 bd, AV.int IntKind.i64 er]]), some (Row.lst 35 2 [AV.agg [AV.sl false 7 0 N.length Cp.no, AV.int IntKind.i64 root_1]]), none, none, none, none, none, some (Row.gen 62 3 N.length fun (i : Nat) => neV (N.getD i dN))] F' else ∃ (a_1 : Nat), (↑a : Int) = (↑a_1 : Int) ∧ a_1.le s.length ∧ s.length.le 100000 ∧ (0 : Int) = 0 ∧ bif (scan wordly s a_1).beq a_1 then ∃ (N_1 : List NE), N.length = N_1.length ∧ some (Row.gen 62 3 N.length fun (i : Nat) => neV (N.getD i dN)) = some (Row.gen 62 3 N_1.length fun (i : Nat) => neV (N_1.getD i dN)) ∧ N_1.length.le 100000 ∧ ∃ (a : Nat), (↑a_1 : Int) = (↑a : Int) ∧ s.length.le 100000 ∧ 126 = 126 ∧ AV.ptr false 0 0 0 = AV.ptr false 0 0 0 ∧ AV.ptr false 1 0 0 = AV.ptr false 1 0 0 ∧ Nat.le 6 7 ∧ ∃ (p : Nat), ∃ (bd : Int), ∃ (er : Int), ∃ (v : Int), ∃ (root_1 : Int), ∃ (d : Nat), ∃ (N : List NE), AV.int IntKind.i64 (↑N_1.length : Int) = AV.int IntKind.i64 v ∧ some (Row.lst 57 5 [AV.agg [AV.str s, AV.int IntKind.i64 (↑(blk s a) : Int), AV.int IntKind.i64 (↑n : Int), AV.int IntKind.i64 (↑a_1 : Int), AV.int IntKind.i64 3]]) = some (Row.lst 57 5 [AV.agg [AV.str s, AV.int IntKind.i64 (↑p : Int), AV.int IntKind.i64 (↑n : Int), AV.int IntKind.i64 bd, AV.int IntKind.i64 er]]) ∧ some (Row.lst 35 2 [AV.agg [AV.sl false 5 0 (N_1 ++ [NE.mk 1 [] [] 0]).length Cp.no, AV.int IntKind.i64 root]]) = some (Row.lst 35 2 [AV.agg [AV.sl false d 0 N.length Cp.no, AV.int IntKind.i64 root_1]]) ∧ Rows.live [some (Row.lst 57 5 [AV.agg [AV.str s, AV.int IntKind.i64 (↑(blk s a) : Int), AV.int IntKind.i64 (↑n : Int), AV.int IntKind.i64 (↑a_1 : Int), AV.int IntKind.i64 3]]), some (Row.lst 35 2 [AV.agg [AV.sl false 5 0 (N_1 ++ [NE.mk 1 [] [] 0]).length Cp.no, AV.int IntKind.i64 root]]), none, none, none, some (Row.gen 62 3 (N_1 ++ [NE.mk 1 [] [] 0]).length fun (i : Nat) => neV ((N_1 ++ [NE.mk 1 [] [] 0]).getD i dN))] d = some (Row.gen 62 3 N.length fun (i : Nat) => neV (N.getD i dN)) ∧ bif er == 0 then bd = 0 ∧ ∃ (i : Nat), ∃ (t : Tr), v = (↑i : Int) ∧ RMk s p N F t i ∧ ∀ (N' : List NE) (i' : Nat) (F' : Fz), RMo s p N F (mks s t p).fst (mks s t p).snd N' i' F' → k (AV.int IntKind.i64 (↑i' : Int)) [some (Row.lst 57 5 [AV.agg [AV.str s, AV.int IntKind.i64 (↑(mks s t p).snd : Int), AV.int IntKind.i64 (↑n : Int), AV.int IntKind.i64 0, AV.int IntKind.i64 0]]), some (Row.lst 35 2 [AV.agg [AV.sl false 7 0 N'.length Cp.no, AV.int IntKind.i64 root_1]]), none, none, none, none, none, some (Row.gen 62 3 N'.length fun (i : Nat) => neV (N'.getD i dN))] F' else k (AV.int IntKind.i64 v) [some (Row.lst 57 5 [AV.agg [AV.str s, AV.int IntKind.i64 (↑p : Int), AV.int IntKind.i64 (↑n : Int), AV.int IntKind.i64 bd, AV.int IntKind.i64 er]]), some (Row.lst 35 2 [AV.agg [AV.sl false 7 0 N.length Cp.no, AV.int IntKind.i64 root_1]]), none, none, none, none, none, some (Row.gen 62 3 N.length fun (i : Nat) => neV (N.getD i dN))] F else ∃ (N_1 : List NE), N.length = N_1.length ∧ some (Row.gen 62 3 N.length fun (i : Nat) => neV (N.getD i dN)) = some (Row.gen 62 3 N_1.length fun (i : Nat) => neV (N_1.getD i dN)) ∧ N_1.length.le 100000 ∧ ∃ (a : Nat), (↑(scan wordly s a_1) : Int) = (↑a : Int) ∧ s.length.le 100000 ∧ 126 = 126 ∧ AV.ptr false 0 0 0 = AV.ptr false 0 0 0 ∧ AV.ptr false 1 0 0 = AV.ptr false 1 0 0 ∧ Nat.le 6 7 ∧ ∃ (p : Nat), ∃ (bd : Int), ∃ (er : Int), ∃ (v : Int), ∃ (root_1 : Int), ∃ (d : Nat), ∃ (N : List NE), AV.int IntKind.i64 (↑N_1.length : Int) = AV.int IntKind.i64 v ∧ some (Row.lst 57 5 [AV.agg [AV.str s, AV.int IntKind.i64 (↑(blk s a) : Int), AV.int IntKind.i64 (↑n : Int), AV.int IntKind.i64 0, AV.int IntKind.i64 0]]) = some (Row.lst 57 5 [AV.agg [AV.str s, AV.int IntKind.i64 (↑p : Int), AV.int IntKind.i64 (↑n : Int), AV.int IntKind.i64 bd, AV.int IntKind.i64 er]]) ∧ some (Row.lst 35 2 [AV.agg [AV.sl false 5 0 (N_1 ++ [NE.mk 1 (sub s a_1 (scan wordly s a_1)) [] 0]).length Cp.no, AV.int IntKind.i64 root]]) = some (Row.lst 35 2 [AV.agg [AV.sl false d 0 N.length Cp.no, AV.int IntKind.i64 root_1]]) ∧ Rows.live [some (Row.lst 57 5 [AV.agg [AV.str s, AV.int IntKind.i64 (↑(blk s a) : Int), AV.int IntKind.i64 (↑n : Int), AV.int IntKind.i64 0, AV.int IntKind.i64 0]]), some (Row.lst 35 2 [AV.agg [AV.sl false 5 0 (N_1 ++ [NE.mk 1 (sub s a_1 (scan wordly s a_1)) [] 0]).length Cp.no, AV.int IntKind.i64 root]]), none, none, none, some (Row.gen 62 3 (N_1 ++ [NE.mk 1 (sub s a_1 (scan wordly s a_1)) [] 0]).length fun (i : Nat) => neV ((N_1 ++ [NE.mk 1 (sub s a_1 (scan wordly s a_1)) [] 0]).getD i dN))] d = some (Row.gen 62 3 N.length fun (i : Nat) => neV (N.getD i dN)) ∧ bif er == 0 then bd = 0 ∧ ∃ (i : Nat), ∃ (t : Tr), v = (↑i : Int) ∧ RMk s p N F t i ∧ ∀ (N' : List NE) (i' : Nat) (F' : Fz), RMo s p N F (mks s t p).fst (mks s t p).snd N' i' F' → k (AV.int IntKind.i64 (↑i' : Int)) [some (Row.lst 57 5 [AV.agg [AV.str s, AV.int IntKind.i64 (↑(mks s t p).snd : Int), AV.int IntKind.i64 (↑n : Int), AV.int IntKind.i64 0, AV.int IntKind.i64 0]]), some (Row.lst 35 2 [AV.agg [AV.sl false 7 0 N'.length Cp.no, AV.int IntKind.i64 root_1]]), none, none, none, none, none, some (Row.gen 62 3 N'.length fun (i : Nat) => neV (N'.getD i dN))] F' else k (AV.int IntKind.i64 v) [some (Row.lst 57 5 [AV.agg [AV.str s, AV.int IntKind.i64 (↑p : Int), AV.int IntKind.i64 (↑n : Int), AV.int IntKind.i64 bd, AV.int IntKind.i64 er]]), some (Row.lst 35 2 [AV.agg [AV.sl false 7 0 N.length Cp.no, AV.int IntKind.i64 root_1]]), none, none, none, none, none, some (Row.gen 62 3 N.length fun (i : Nat) => neV (N.getD i dN))] F) := by kernel_rfl
end Go.Dc.Ke
end
section
set_option linter.unusedVariables false
set_option linter.unusedSimpArgs false
namespace Go.Dc.Ke
open Go.Proofs Go.RowKit Go.Shelf
set_option maxRecDepth 100000
/-- What a part of the document's parser answers. -/
inductive Out (s : List UInt8) (a : Nat) (N : List NE) (F : Fz) (r : PR) : AV → Int → Int → Int → List NE → Fz → Prop
  | ok (t : Tr) (a1 i : Nat) (N' : List NE) (F' : Fz) (hr : r = .ok t a1) (h : ROk s a N F t a1 N' i F') : Out s a N F r (.int .i64 (i : Nat)) (a1 : Nat) 0 0 N' F'
  | err (a' e p' : Nat) (v : Int) (N' : List NE) (F' : Fz) (hr : r = .err a' e) (hp : p' ≤ 200000) (h : RErr s a N F N' F') : Out s a N F r (.int .i64 v) (p' : Nat) (a' : Nat) (e : Nat) N' F'
def Ans (s : List UInt8) (a n : Nat) (root : Int) (N : List NE) (F : Fz) (r : PR) : AV → Rows → Fz → Prop := fun v h F' => ∃ p bd er d N', Out s a N F r v p bd er N' F' ∧ h.live 0 = some (rrow s p (n : Nat) bd er) ∧ h.live 1 = some (trow d N'.length root) ∧ h.live d = some (arow N')
theorem item_end {s : List UInt8} {a n : Nat} {N N1 : List NE} {F F1 : Fz} {alt : Nat → PR} {t : Tr} {a1 i : Nat} (hs : s.length ≤ 256) (hp : pAtom s n alt a = .ok t a1) (h : ROk s a N F t a1 N1 i F1) (ha : a1 ≤ s.length) (hR : N.length + 4 * (s.length - a) + 1 ≤ 2000) :
    RMk s (blk s a1) N1 F1 t i ∧ ∀ N' i' F', RMo s (blk s a1) N1 F1 (mks s t (blk s a1)).1 (mks s t (blk s a1)).2 N' i' F' → Out s a N F (pItem s n alt a) (.int .i64 (i' : Nat)) ((mks s t (blk s a1)).2 : Nat) 0 0 N' F' := by
  have hb := blk_ge (s := s) a1
  have hl := blk_le ha
  have hr := h.room
  refine ⟨⟨h.nf, hl, hs, h.tr, by omega⟩, fun N' i' F' hm => .ok (mks s t (blk s a1)).1 _ i' N' F' ?_ ⟨h.mo.trans hm.mo, hm.nf, h.up.trans hm.up, hm.tr, ?_⟩⟩
  · unfold pItem; rw [hp]; rfl
  · have := hm.room; omega
theorem atom_new {s : List UInt8} {a a1 : Nat} {N : List NE} {F : Fz} {kd : Nat} {w : List UInt8} (nf : NF F N) (hlt : a < a1) (ha : a1 ≤ s.length) : ROk s a N F (.mk kd w []) a1 (N ++ [NE.mk (kd : Nat) w [] 0]) N.length F :=
  ⟨Mo.snoc _ _, nf.snoc (frz0 F), Up.refl F, trn_new (by simp only [TrNs]), by simp only [List.length_append, List.length_cons, List.length_nil]; omega⟩
theorem atom_bad {s : List UInt8} {a : Nat} {N : List NE} {F : Fz} {e : NE} (nf : NF F N) (he : Frz F e.x (kidN e.kids)) : RErr s a N F (N ++ [e]) F :=
  ⟨Mo.snoc _ _, nf.snoc he, Up.refl F, by simp only [List.length_append, List.length_cons, List.length_nil]; omega⟩
theorem item_err {s : List UInt8} {a n : Nat} {N N' : List NE} {F F' : Fz} {alt : Nat → PR} {a' e p' : Nat} {v : Int} (hp : pAtom s n alt a = .err a' e) (hp' : p' ≤ 200000) (h : RErr s a N F N' F') : Out s a N F (pItem s n alt a) (.int .i64 v) (p' : Nat) (a' : Nat) (e : Nat) N' F' :=
  .err a' e p' v N' F' (by unfold pItem; rw [hp]; rfl) hp' h
end Go.Dc.Ke
end
section
set_option linter.unusedVariables false
set_option linter.unusedSimpArgs false
namespace Go.Dc.Ke
open Go.Proofs Go.RowKit Go.Shelf
set_option maxRecDepth 100000
theorem nle {a b : Nat} (h : Nat.ble a b = true) : Nat.le a b := Nat.le_of_ble_eq_true h
theorem exN_le (s : List UInt8) : ∀ (w : List UInt8) (a : Nat), (exN s w a).2 ≤ a + w.length
  | [], a => Nat.le_refl _
  | c :: w, a => by
    unfold exN
    cases hbI s a == ((c.toNat : Nat) : Int) with
    | true => have := exN_le s w (a + 1); simp only [cond_true, List.length_cons]; omega
    | false => simp only [cond_false, List.length_cons]; omega
theorem blk_room {s : List UInt8} {a : Nat} (hs : s.length ≤ 256) (ha : a ≤ 100000) : blk s a ≤ 200000 := by
  rcases scan_room (p := isB) (by decide) s a with h | h
  · show scan isB s a ≤ _; omega
  · show scan isB s a ≤ _; omega
theorem exN41 (s : List UInt8) (a : Nat) : exN s [41] a = bif hbI s a == 41 then (true, a + 1) else (false, a) := rfl
theorem item_ok {R : Nat → RoRow} {s : List UInt8} {n : Nat} {alt : Nat → PR} (hAlt : ∀ HP args h k F, spec23 s (n + 1) 0 alt args h k F → SafeCallX Try.prog R 23 args h F k HP) (hnz : ∀ a, NZ (alt a)) (hG : Goes s alt) (hn : n ≤ 16)
    {a : Nat} {root : Int} {N : List NE} {F : Fz} (hin : RIn s a N F) (HP : HPt) :
    SafeCallX Try.prog R 31 [.ptr false 0 0 0, .ptr false 1 0 0] [some (rrow s (a : Nat) (n : Nat) 0 0), some (trow 2 N.length root), some (arow N)] F (Ans s a n root N F (pItem s n alt a)) HP := by
  have hs := hin.sm
  have hsl : s.length ≤ 100000 := by omega
  have hR := hin.room
  have hNl : N.length ≤ 100000 := by omega
  have hle := hin.le
  refine SafeCallX.by mixed (((envQ_ok R HP).addCall (f := 23) (fi := fi23) (by kernel_rfl) (hAlt HP)).addLoop (f := 31) (fi := fi31) (by kernel_rfl) (i := 1) (body := .loop (loopOf fi31 1)) (by kernel_rfl) (loop31 R s n HP)) (f := 31) (fi := fi31) (by kernel_rfl) 1000 (vc31 R s a n root N alt _ F) ?_
  refine ⟨show (0 : Int) ≤ (a : Int) - 0 by omega, hcB (fun c1 => ?_) fun c1 => hcB (fun c2 => ?_) fun c2 => hcB (fun c3 => ?_) fun c3 => ?_⟩
  · -- a name behind an at-sign
    have hlt := hb_lt c1 (by decide)
    have pa : pAtom s n alt a = pWord s 2 (a + 1) := by unfold pAtom; rw [c1]; rfl
    refine ⟨a + 1, wrapSucc a (by omega), hlt, hsl, rfl, hcB (fun hw => ?_) fun hw => ?_⟩
    · have pb : pAtom s n alt a = .err (a + 1) 3 := by rw [pa]; unfold pWord; rw [hw]; rfl
      refine ⟨N, rfl, rfl, hNl, a + 1, rfl, hsl, rfl, rfl, rfl, nle rfl, blk s (a + 1), _, 3, _, root, 5, _, rfl, rfl, rfl, rfl, hcF rfl ?_⟩
      exact ⟨_, _, _, 7, _, item_err pb (blk_room hs (by omega)) (atom_bad hin.nf (frz0 F)), rfl, rfl, rfl⟩
    · have hg := pWord_goes (kd := 2) (s := s) (a := a + 1) hlt (t := .mk 2 (sub s (a + 1) (scan wordly s (a + 1))) []) (a1 := scan wordly s (a + 1)) (by unfold pWord; rw [hw]; rfl)
      have pb : pAtom s n alt a = .ok (.mk 2 (sub s (a + 1) (scan wordly s (a + 1))) []) (scan wordly s (a + 1)) := by rw [pa]; unfold pWord; rw [hw]; rfl
      obtain ⟨q1, q2⟩ := item_end hs pb (atom_new (kd := 2) hin.nf (by omega) hg.2) hg.2 hR
      refine ⟨N, rfl, rfl, hNl, _, rfl, hsl, rfl, rfl, rfl, nle rfl, _, _, 0, _, root, 5, _, rfl, rfl, rfl, rfl, hcT rfl ⟨rfl, N.length, _, rfl, q1, fun N' i' F' hm => ?_⟩⟩
      exact ⟨_, _, _, 7, N', q2 N' i' F' hm, rfl, rfl, rfl⟩
  · -- the word of texts
    have hlt := hb_lt c2 (by decide)
    have pa : pAtom s n alt a = bif (exN s txtW a).1 then .ok (.mk 3 [] []) (exN s txtW a).2 else .err (exN s txtW a).2 3 := by unfold pAtom; rw [c1, c2]; rfl
    have hel := exN_le s txtW a
    have h5 : txtW.length = 5 := rfl
    refine ⟨a, rfl, show a ≤ 200000 by omega, nle rfl, hcB (fun hw => ?_) fun hw => ?_⟩
    · have hw' : (exN s txtW a).1 = true := hw
      have hg := exN_ok txtW a hle (by decide) hw'
      have pb : pAtom s n alt a = .ok (.mk 3 [] []) (exN s txtW a).2 := by rw [pa, hw']; rfl
      obtain ⟨q1, q2⟩ := item_end hs pb (atom_new (kd := 3) hin.nf (by omega) (by omega)) (by omega) hR
      refine ⟨N, rfl, rfl, hNl, _, rfl, hsl, rfl, rfl, rfl, nle rfl, _, _, 0, _, root, 5, _, rfl, rfl, rfl, rfl, hcT rfl ⟨rfl, N.length, _, rfl, q1, fun N' i' F' hm => ?_⟩⟩
      exact ⟨_, _, _, 7, N', q2 N' i' F' hm, rfl, rfl, rfl⟩
    · have hw' : (exN s txtW a).1 = false := hw
      have pb : pAtom s n alt a = .err (exN s txtW a).2 3 := by rw [pa, hw']; rfl
      refine ⟨N, rfl, rfl, hNl, (exN s txtW a).2 + 1, rfl, hsl, rfl, rfl, rfl, nle rfl, _, _, 3, _, root, 5, _, rfl, rfl, rfl, rfl, hcF rfl ?_⟩
      exact ⟨_, _, _, 7, _, item_err pb (blk_room hs (by omega)) (atom_bad hin.nf (frz0 F)), rfl, rfl, rfl⟩
  · -- brackets
    have hlt := hb_lt c3 (by decide)
    have pa : pAtom s n alt a = pBr s n alt a := by unfold pAtom; rw [c1, c2, c3]; rfl
    refine hcB (fun hq => ?_) fun hq => ?_
    · have hn16 : n = 16 := by have := eq_of_beq hq; omega
      have pb : pAtom s n alt a = .err a 5 := by rw [pa]; unfold pBr; rw [hn16]; rfl
      exact ⟨_, _, _, 2, N, item_err pb (by omega) ⟨Mo.refl N, hin.nf, Up.refl F, by omega⟩, rfl, rfl, rfl⟩
    · have hn16 : Nat.beq n 16 = false := by
        cases hb : Nat.beq n 16 with
        | false => rfl
        | true => rw [Nat.eq_of_beq_eq_true hb] at hq; simp at hq
      have hb1 := blk_ge (s := s) (a + 1)
      have hb2 := blk_le (s := s) (a := a + 1) hlt
      refine ⟨a + 1, wrapSucc a (by omega), hsl, show (0 : Int) ≤ _ by omega, hcB (fun hp => ?_) fun hp => ?_⟩
      · have hl2 := hb_lt hp (by decide)
        have pb : pAtom s n alt a = .ok (.mk 0 [] []) (blk s (a + 1) + 1) := by rw [pa]; unfold pBr; rw [hn16, hp]; rfl
        obtain ⟨q1, q2⟩ := item_end hs pb (atom_new (kd := 0) hin.nf (by omega) (by omega)) (by omega) hR
        refine ⟨N, rfl, rfl, hNl, blk s (a + 1) + 1, wrapSucc _ (by omega), hsl, rfl, rfl, rfl, nle rfl, _, _, 0, _, root, 5, _, rfl, rfl, rfl, rfl, hcT rfl ⟨rfl, N.length, _, rfl, q1, fun N' i' F' hm => ?_⟩⟩
        exact ⟨_, _, _, 7, N', q2 N' i' F' hm, rfl, rfl, rfl⟩
      · have pc : pAtom s n alt a = (alt (blk s (a + 1))).bind fun t a1 => bif hbI s a1 == 41 then .ok t (a1 + 1) else .err a1 3 := by rw [pa]; unfold pBr; rw [hn16, hp]; rfl
        have hne : IntKind.i64.wrap (((n + 1 : Nat) : Int) - 1) = (n : Int) := by rw [wrapI64 _ (by omega) (by omega)]; omega
        rw [hne]
        have hn17 : n + 1 ≤ 16 := by
          rcases Nat.lt_or_ge n 16 with h | h
          · exact h
          · have : n = 16 := by omega
            rw [this] at hn16; cases hn16
        refine ⟨rfl, hn17, N, blk s (a + 1), rfl, rfl, wrapSucc n (by omega), rfl, rfl, rfl, rfl, ⟨hin.nf, hb2, hs, by omega⟩, ?_, ?_⟩
        · intro t a1 hr N' i F' h
          obtain ⟨g1, g2⟩ := hG _ hb2 _ _ hr
          have hroom := h.room
          refine ⟨a1, rfl, show a1 ≤ 200000 by omega, nle rfl, hcB (fun hw => ?_) fun hw => ?_⟩
          · have hw' : (exN s [41] a1).1 = true := hw
            have h41 : (hbI s a1 == 41) = true := by rw [exN41] at hw'; cases hx : hbI s a1 == 41 with
              | true => rfl
              | false => rw [hx] at hw'; cases hw'
            have e2 : (exN s [41] a1).2 = a1 + 1 := by rw [exN41, h41]; rfl
            have e2' : (exN s (ByteArray.mk #[41]).data.toList a1).2 = a1 + 1 := e2
            have hl3 := hb_lt h41 (by decide)
            have pb : pAtom s n alt a = .ok t (a1 + 1) := by rw [pc, hr]; show (bif hbI s a1 == 41 then PR.ok t (a1 + 1) else _) = _; rw [h41]; rfl
            obtain ⟨q1, q2⟩ := item_end (F := F) (N := N) hs pb ⟨h.mo, h.nf, h.up, h.tr, by omega⟩ (by omega) hR
            rw [e2']
            refine ⟨a1 + 1, rfl, hsl, rfl, rfl, rfl, nle rfl, _, _, 0, _, root, 6, N', rfl, rfl, rfl, rfl, hcT rfl ⟨rfl, i, t, rfl, q1, fun N2 i' F2 hm => ?_⟩⟩
            exact ⟨_, _, _, 7, N2, q2 N2 i' F2 hm, rfl, rfl, rfl⟩
          · have hw' : (exN s [41] a1).1 = false := hw
            have h41 : (hbI s a1 == 41) = false := by rw [exN41] at hw'; cases hx : hbI s a1 == 41 with
              | false => rfl
              | true => rw [hx] at hw'; cases hw'
            have e2 : (exN s [41] a1).2 = a1 := by rw [exN41, h41]; rfl
            have e2' : (exN s (ByteArray.mk #[41]).data.toList a1).2 = a1 := e2
            have pb : pAtom s n alt a = .err a1 3 := by rw [pc, hr]; show (bif hbI s a1 == 41 then PR.ok t (a1 + 1) else _) = _; rw [h41]; rfl
            rw [e2']
            refine ⟨a1 + 1, rfl, hsl, rfl, rfl, rfl, nle rfl, _, _, 3, _, root, 6, N', rfl, rfl, rfl, rfl, hcF rfl ?_⟩
            exact ⟨_, _, _, 7, N', item_err pb (blk_room hs (by omega)) ⟨h.mo, h.nf, h.up, by omega⟩, rfl, rfl, rfl⟩
        · intro a' e hr p' N' v F' hp' h
          have hroom := h.room
          have he : ((e : Int) == 0) = false := by
            have := hnz _ _ _ hr
            rw [beq_eq_false_iff_ne]; omega
          have hp2 : p' ≤ 200000 := hp'
          have pb : pAtom s n alt a = .err a' e := by rw [pc, hr]; rfl
          have hbr : blk s p' ≤ 200000 := by
            rcases scan_room (p := isB) (by decide) s p' with h | h
            · show scan isB s p' ≤ _; omega
            · show scan isB s p' ≤ _; omega
          refine ⟨p', rfl, hp2, nle rfl, hcF he ⟨p', rfl, hsl, rfl, rfl, rfl, nle rfl, _, _, e, _, root, 6, N', rfl, rfl, rfl, rfl, hcF he ?_⟩⟩
          exact ⟨_, _, _, 7, N', item_err pb hbr ⟨h.mo, h.nf, h.up, by omega⟩, rfl, rfl, rfl⟩
  · -- a word
    have pa : pAtom s n alt a = pWord s 1 a := by unfold pAtom; rw [c1, c2, c3]; rfl
    refine ⟨a, rfl, hle, hsl, rfl, hcB (fun hw => ?_) fun hw => ?_⟩
    · have pb : pAtom s n alt a = .err a 3 := by rw [pa]; unfold pWord; rw [hw]; rfl
      refine ⟨N, rfl, rfl, hNl, a, rfl, hsl, rfl, rfl, rfl, nle rfl, blk s a, _, 3, _, root, 5, _, rfl, rfl, rfl, rfl, hcF rfl ?_⟩
      exact ⟨_, _, _, 7, _, item_err pb (blk_room hs (by omega)) (atom_bad hin.nf (frz0 F)), rfl, rfl, rfl⟩
    · have hg := pWord_goes (kd := 1) (s := s) (a := a) hle (t := .mk 1 (sub s a (scan wordly s a)) []) (a1 := scan wordly s a) (by unfold pWord; rw [hw]; rfl)
      have pb : pAtom s n alt a = .ok (.mk 1 (sub s a (scan wordly s a)) []) (scan wordly s a) := by rw [pa]; unfold pWord; rw [hw]; rfl
      obtain ⟨q1, q2⟩ := item_end hs pb (atom_new (kd := 1) hin.nf (by omega) hg.2) hg.2 hR
      refine ⟨N, rfl, rfl, hNl, _, rfl, hsl, rfl, rfl, rfl, nle rfl, _, _, 0, _, root, 5, _, rfl, rfl, rfl, rfl, hcT rfl ⟨rfl, N.length, _, rfl, q1, fun N' i' F' hm => ?_⟩⟩
      exact ⟨_, _, _, 7, N', q2 N' i' F' hm, rfl, rfl, rfl⟩
end Go.Dc.Ke
end
section
set_option linter.unusedVariables false
set_option linter.unusedSimpArgs false
namespace Go.Dc.Ke
open Go.Proofs Go.RowKit Go.Shelf
set_option maxRecDepth 100000
abbrev out4 (rr : Row) (n : Nat) (root : Int) (N : List NE) : Rows := [some rr, some (trow 3 n root), none, some (arow N)]
theorem out4_live {rr : Row} {n : Nat} {root : Int} {N : List NE} {c : Nat} {r : Row} (h : Rows.live (out4 rr n root N) c = some r) : (c = 0 ∧ r = rr) ∨ (c = 1 ∧ r = trow 3 n root) ∨ (c = 3 ∧ r = arow N) := by
  match c, h with
  | 0, h => cases h; exact .inl ⟨rfl, rfl⟩
  | 1, h => cases h; exact .inr (.inl ⟨rfl, rfl⟩)
  | 3, h => cases h; exact .inr (.inr ⟨rfl, rfl⟩)
  | 2, h => cases h
  | c + 4, h => simp [Rows.live] at h
theorem out4_view {s : List UInt8} {p n bd er root : Int} {N : List NE} {h : Rows} {d : Nat} (h0 : h.live 0 = some (rrow s p n bd er)) (h1 : h.live 1 = some (trow d N.length root)) (h2 : h.live d = some (arow N)) : ViewW (mvR 3 d) (out4 (rrow s p n bd er) N.length root N) h where
  inj := fun c c' b r r' hc hc' e e' => by
    have n0 : d ≠ 0 := fun e => by rw [e, h0] at h2; cases h2
    have n1 : d ≠ 1 := fun e => by rw [e, h1] at h2; cases h2
    rcases out4_live hc with ⟨rfl, _⟩ | ⟨rfl, _⟩ | ⟨rfl, _⟩ <;> rcases out4_live hc' with ⟨rfl, _⟩ | ⟨rfl, _⟩ | ⟨rfl, _⟩ <;> first | rfl | (simp only [show mvR 3 d 0 = some 0 from rfl, show mvR 3 d 1 = some 1 from rfl, show mvR 3 d 3 = some d from rfl, Option.some.injEq] at e e'; omega)
  row := fun c r hc => by
    rcases out4_live hc with ⟨rfl, rfl⟩ | ⟨rfl, rfl⟩ | ⟨rfl, rfl⟩
    · exact .inl ⟨0, _, rfl, h0, (rrow_g _ _ _ _ _).vw _ _⟩
    · exact .inl ⟨1, _, rfl, h1, trow_v rfl (by simp)⟩
    · exact .inl ⟨d, _, rfl, h2, (arow_g N).vw _ _⟩
theorem Out.gnd {s : List UInt8} {a : Nat} {N N' : List NE} {F F' : Fz} {r : PR} {v : AV} {p bd er : Int} (h : Out s a N F r v p bd er N' F') : gnd v = true := by cases h <;> rfl
/-- The contract on the three rows: the list's row comes behind. -/
theorem ref_out {R : Nat → RoRow} {fn : FuncId} {args : List AV} {s : List UInt8} {a n : Nat} {root : Int} {N : List NE} {F : Fz} {r : PR}
    (hs : SafeCallX Try.prog R fn args [some (rrow s (a : Nat) (n : Nat) 0 0), some (trow 2 N.length root), some (arow N)] F (Ans s a n root N F r) (fun _ _ _ => False)) :
    SafeCallX Try.prog R fn args [some (rrow s (a : Nat) (n : Nat) 0 0), some (trow 2 N.length root), some (arow N)] F (fun v h' F' => ∃ p bd er N', Out s a N F r v p bd er N' F' ∧ h' = out4 (rrow s p (n : Nat) bd er) N'.length root N') (fun _ _ _ => False) := by
  refine SafeCallX.post hs ?_ (fun v h' F' _ h => h.elim)
  rintro v h' F' _ ⟨p, bd, er, d, N', ho, e0, e1, e2⟩
  exact ToV.fitW (mvR 3 d) (out4_view e0 e1 e2) (gnd_vw _ _ _ ho.gnd) (mvR_lt (n := 3) (by decide)) (by simp) (ToV.here ⟨p, bd, er, N', ho, rfl⟩)
theorem ref_at {R : Nat → RoRow} {fn : FuncId} {argsL args : List AV} {s : List UInt8} {n b c : Nat} {r : Nat → PR} {h : Rows} {k HP : AV → Rows → Fz → Prop} {F : Fz}
    (hA : ∀ d, VwL (posV [b, c, d]) 3 argsL args)
    (hs : ∀ a root N, RIn s a N F → SafeCallX Try.prog R fn argsL [some (rrow s (a : Nat) (n : Nat) 0 0), some (trow 2 N.length root), some (arow N)] F (Ans s a n root N F (r a)) (fun _ _ _ => False))
    (hk : specRef s n r b c h k F) : SafeCallX Try.prog R fn args h F k HP := by
  unfold specRef at hk
  obtain ⟨s', p, n', bd, er, hb, hk⟩ := atR_ofX hk
  obtain ⟨d, nn, root, hc, N, a, rfl, rfl, rfl, rfl, rfl, rfl, hd, hin, hok, herr⟩ := atT_ofX hk
  have ne1 : b ≠ c := fun e => by rw [e, hc] at hb; cases hb
  have ne2 : b ≠ d := fun e => by rw [e, hd] at hb; cases hb
  have ne3 : c ≠ d := fun e => by rw [e, hd] at hc; cases hc
  refine (SafeCallX.atN (Q := fun v os tl F' => ∃ p bd er N', Out s' a N F (r a) v p bd er N' F' ∧ os = [some (rrow s' p (n : Nat) bd er), some (trow 3 N'.length root), none] ∧ tl = [some (arow N')]) (HP := fun _ _ _ _ => False) [b, c, d]
    (hL := [some (rrow s' (a : Nat) (n : Nat) 0 0), some (trow 2 N.length root), some (arow N)]) rfl (by simp [ne1, ne2, ne3]) (fun e he => by
      simp only [List.mem_cons, List.not_mem_nil, or_false] at he
      rcases he with rfl | rfl | rfl
      · exact live_lt hb
      · exact live_lt hc
      · exact live_lt hd) (fun e q he => by
      match e with
      | 0 => cases he; exact ⟨b, _, rfl, hb, (rrow_g _ _ _ _ _).vw _ _⟩
      | 1 => cases he; exact ⟨c, _, rfl, hc, trow_v rfl (by simp)⟩
      | 2 => cases he; exact ⟨d, _, rfl, hd, (arow_g N).vw _ _⟩
      | e + 3 => simp [Rows.live] at he) (hA d) ((ref_out (hs a root N hin)).mono ?_ ?_)).mono ?_ ?_
  · rintro v h' F' _ ⟨p, bd, er, N', ho, rfl⟩
    exact ⟨[some (rrow s' p (n : Nat) bd er), some (trow 3 N'.length root), none], [some (arow N')], rfl, rfl, p, bd, er, N', ho, rfl, rfl⟩
  · rintro v h' F' _ h; exact h.elim
  · rintro v h' F' _ ⟨v0, os, tl, rfl, rfl, p, bd, er, N', ho, rfl, rfl⟩
    cases ho with
    | ok t a1 i _ _ hr hh => exact hok t a1 hr N' i F' hh
    | err a' e p' w _ _ hr hp hh => exact herr a' e hr p' N' w F' hp hh
  · rintro v h' F' _ ⟨v0, os, tl, _, _, h⟩; exact h.elim
theorem spec31_ok {R : Nat → RoRow} {s : List UInt8} {n : Nat} {alt : Nat → PR} (hAlt : ∀ HP args h k F, spec23 s (n + 1) 0 alt args h k F → SafeCallX Try.prog R 23 args h F k HP) (hnz : ∀ a, NZ (alt a)) (hG : Goes s alt) (hn : n ≤ 16) (HP : HPt) :
    ∀ args h k F, spec31 s n (pItem s n alt) args h k F → SafeCallX Try.prog R 31 args h F k HP := by
  intro args h k F hk
  unfold spec31 at hk
  split at hk
  · rename_i b c
    exact ref_at (argsL := [.ptr false 0 0 0, .ptr false 1 0 0]) (fun d => VwL.cons (Vw.ptrI (by decide) rfl) (VwL.cons (Vw.ptrI (by decide) rfl) VwL.nil)) (fun a root N hin => item_ok hAlt hnz hG hn hin _) hk
  · exact hk.elim
end Go.Dc.Ke
end
section
set_option linter.unusedVariables false
set_option linter.unusedSimpArgs false
namespace Go.Dc.Ke
open Go.Proofs Go.RowKit Go.Shelf
set_option maxRecDepth 100000
abbrev nrow (l : List Nat) : Row := .gen 3 1 l.length fun i => .int .i64 ((l.getD i 0 : Nat) : Int)
noncomputable abbrev tm23 (kk : Int) (m : Nat) : List AV := [.ptr false 0 0 0, .ptr false 1 0 0, .int .i64 kk, .any, .any, .any, .any, .sl false 4 0 m .no, .any, .any, .any, .any, .any, .any, .any, .any, .any, .any, .any, .any, .any, .any, .any, .any, .any, .any, .any, .any, .any, .any, .any, .any, .any, .any, .any, .any, .any, .any, .any, .any, .any, .any, .any, .any, .any, .any, .any, .any, .any, .any, .any, .any, .any, .any, .any, .any, .any, .any, .any, .any, .any, .any, .any, .any, .any, .any, .any, .any, .any, .any, .any, .any, .any, .any, .any, .any, .any, .any, .any, .any, .any, .any, .any, .any, .any, .any, .any, .any, .any, .any, .any, .any, .any, .any, .any, .any, .any, .any]
noncomputable abbrev fam23 (kk : Int) (s : List UInt8) (p n : Nat) (bd er root : Int) (N : List NE) (l : List Nat) : St := ⟨tm23 kk l.length, [some (rrow s p n bd er), some (trow 3 N.length root), none, some (arow N), some (nrow l)]⟩
noncomputable abbrev env23 (R : Nat → RoRow) (s : List UInt8) (n : Nat) (kk : Int) (part : Nat → PR) : EnvX := ((envP R).addCall 28 spec28).addCall 23 (spec23 s n kk part)
noncomputable abbrev env23i (R : Nat → RoRow) (s : List UInt8) (n : Nat) (part : Nat → PR) : EnvX := ((envP R).addCall 28 spec28).addCall 31 (spec31 s n part)
noncomputable abbrev tm23b (kk : Int) : List AV := [.ptr false 0 0 0, .ptr false 1 0 0, .int .i64 kk, .any, .any, .any, .any, .any, .any, .any, .any, .any, .any, .any, .any, .any, .any, .any, .any, .any, .any, .any, .any, .any, .any, .any, .any, .any, .any, .any, .any, .any, .any, .any, .any, .any, .any, .any, .any, .any, .any, .any, .any, .any, .any, .any, .any, .any, .any, .any, .any, .any, .any, .any, .any, .any, .any, .any, .any, .any, .any, .any, .any, .any, .any, .any, .any, .any, .any, .any, .any, .any, .any, .any, .any, .any, .any, .any, .any, .any, .any, .any, .any, .any, .any, .any, .any, .any, .any, .any, .any, .any, .any, .any, .any, .any, .any, .any]
noncomputable abbrev famB (kk : Int) (s : List UInt8) (p n : Nat) (bd er root : Int) (N : List NE) : St := ⟨tm23b kk, [some (rrow s p n bd er), some (trow 3 N.length root), none, some (arow N)]⟩
/-- Parts one behind the other. -/
def Lp (s : List UInt8) (cont : Int → Bool) (sp kd : Nat) (part : Nat → PR) : Nat → List Tr → Nat → PR
  | 0, l, a => .ok (rowT kd l) a
  | f + 1, l, a => bif cont (hbI s a) then (part (a + sp)).bind fun t a1 => Lp s cont sp kd part f (l ++ [t]) a1 else .ok (rowT kd l) a
def LpI (s : List UInt8) (cont : Int → Bool) (sp kd : Nat) (part : Nat → PR) (a : Nat) : PR := (part a).bind fun t a1 => Lp s cont sp kd part (s.length + 1) [t] a1
theorem lp_joins (s : List UInt8) (sg : Int) (kd : Nat) (part : Nat → PR) : ∀ f l a, pJoins s sg kd part f l a = Lp s (fun c => c == sg) 1 kd part f l a
  | 0, l, a => rfl
  | f + 1, l, a => by
    show (bif hbI s a == sg then (part (a + 1)).bind (fun t a1 => pJoins s sg kd part f (l ++ [t]) a1) else .ok (rowT kd l) a) = bif hbI s a == sg then (part (a + 1)).bind (fun t a1 => Lp s (fun c => c == sg) 1 kd part f (l ++ [t]) a1) else .ok (rowT kd l) a
    rw [funext fun t => funext fun a1 => lp_joins s sg kd part f (l ++ [t]) a1]
theorem lp_seqs (s : List UInt8) (n : Nat) (alt : Nat → PR) : ∀ f l a, pSeqs s n alt f l a = Lp s begins 0 4 (pItem s n alt) f l a
  | 0, l, a => rfl
  | f + 1, l, a => by
    show (bif begins (hbI s a) then (pItem s n alt a).bind (fun t a1 => pSeqs s n alt f (l ++ [t]) a1) else .ok (rowT 4 l) a) = bif begins (hbI s a) then (pItem s n alt a).bind (fun t a1 => Lp s begins 0 4 (pItem s n alt) f (l ++ [t]) a1) else .ok (rowT 4 l) a
    rw [funext fun t => funext fun a1 => lp_seqs s n alt f (l ++ [t]) a1]
theorem pJoin_lp (s : List UInt8) (sg : Int) (kd : Nat) (part : Nat → PR) (a : Nat) : pJoin s sg kd part a = LpI s (fun c => c == sg) 1 kd part a := by
  unfold pJoin LpI
  rw [funext fun t => funext fun a1 => lp_joins s sg kd part (s.length + 1) [t] a1]
theorem pSeq_lp (s : List UInt8) (n : Nat) (alt : Nat → PR) (a : Nat) : pSeq s n alt a = LpI s begins 0 4 (pItem s n alt) (blk s a) := by
  unfold pSeq LpI
  rw [funext fun t => funext fun a1 => lp_seqs s n alt (s.length + 1) [t] a1]
/-- Behind some parts. -/
structure RLs (s : List UInt8) (a : Nat) (N : List NE) (F : Fz) (ts : List Tr) (a1 : Nat) (N' : List NE) (l : List Nat) (F' : Fz) : Prop where
  mo : Mo N N'
  nf : NF F' N'
  up : Up F F'
  tr : TrNs N' ts l
  le : a1 ≤ s.length
  room : N'.length + 4 * (s.length - a1) + 3 * ts.length ≤ N.length + 4 * (s.length - a)
def lp23 (kk : Int) (s : List UInt8) (n : Nat) (kd : Nat) (r : Nat → PR) : LoopSpX := fun st k F => st.tmps.length = 98 ∧ nthV st.tmps 0 = .ptr false 0 0 0 ∧ nthV st.tmps 1 = .ptr false 1 0 0 ∧ nthV st.tmps 2 = .int .i64 kk ∧ nthV st.tmps 7 = .nils ∧
  ∃ (root : Int) (N : List NE) (a : Nat), st.rows = [some (rrow s (a : Nat) (n : Nat) 0 0), some (trow 2 N.length root), some (arow N)] ∧ RIn s a N F ∧
    (∀ ts l a1 N' F', r a = .ok (rowT kd ts) a1 → ts ≠ [] → RLs s a N F ts a1 N' l F' → k .normal (fam23 kk s a1 n 0 0 root N' l) F') ∧
    (∀ (a' e p' : Nat) (N' : List NE) F', r a = .err a' e → e ≠ 0 → p' ≤ 200000 → RErr s a N F N' F' → k .normal (famB kk s p' n (a' : Nat) (e : Nat) root N') F')
end Go.Dc.Ke
end
