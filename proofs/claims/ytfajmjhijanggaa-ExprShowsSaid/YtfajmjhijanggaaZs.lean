/- Expressions: the form of what a text's parser tells. -/
import Derived.Test.YtfajmjhijanggaaZh0
import Derived.Test.YtfajmjhijanggaaZm
import Derived.Test.YtfajmjhijanggaaDcXi
section
set_option linter.unusedVariables false
set_option linter.unusedSimpArgs false
namespace Go.Dc.Ke
open Go.Proofs Go.RowKit Go.Shelf
set_option maxRecDepth 100000
def inn (kd k : Nat) : Bool := k == 5 || (k == 6 && kd != 5) || (k == 4 && kd != 5 && kd != 6)
structure Frm1 (k : Nat) (w : List UInt8) (kids : List Tr) : Prop where
  le : k ≤ 9
  a : k = 0 ∨ k = 3 → w = [] ∧ kids = []
  b : k = 1 ∨ k = 2 → kids = [] ∧ w ≠ [] ∧ ∀ c ∈ w, wordly ((c.toNat : Nat) : Int) = true
  c : k = 4 ∨ k = 5 ∨ k = 6 → w = [] ∧ 2 ≤ kids.length
  d : 7 ≤ k → w = [] ∧ kids.length = 1
mutual
def Frm : Tr → Prop
  | .mk k w kids => Frm1 k w kids ∧ Frms kids
def Frms : List Tr → Prop
  | [] => True
  | t :: ts => Frm t ∧ Frms ts
end
/-- How many brackets stand in one another in the text. -/
def pd (f : Nat) (kd k : Nat) : Nat := bif inn kd k then f + 1 else f
mutual
def dep : Tr → Nat
  | .mk k _ kids => if k = 0 then 1 else deps k kids
def deps (kd : Nat) : List Tr → Nat
  | [] => 0
  | t :: ts => max (pd (dep t) kd t.kind) (deps kd ts)
end
abbrev pdt (kd : Nat) (t : Tr) : Nat := pd (dep t) kd t.kind
theorem Frms.snoc : ∀ {l : List Tr} {t : Tr}, Frms l → Frm t → Frms (l ++ [t])
  | [], t, _, h => by simp only [List.nil_append, Frms]; exact ⟨h, trivial⟩
  | u :: l, t, hl, h => by simp only [List.cons_append, Frms] at hl ⊢; exact ⟨hl.1, Frms.snoc hl.2 h⟩
theorem Frms.mem : ∀ {ts : List Tr}, Frms ts → ∀ t ∈ ts, Frm t
  | [], _, t, h => by cases h
  | u :: ts, hn, t, h => by
    simp only [Frms] at hn
    rcases List.mem_cons.1 h with rfl | h
    · exact hn.1
    · exact Frms.mem hn.2 t h
theorem deps_le {kd d : Nat} : ∀ {ts : List Tr}, (∀ t ∈ ts, pdt kd t ≤ d) → deps kd ts ≤ d
  | [], _ => by simp only [deps]; omega
  | t :: ts, h => by
    simp only [deps]
    have h1 := h t (by simp)
    have h2 := deps_le (kd := kd) (ts := ts) fun u hu => h u (by simp [hu])
    exact Nat.max_le.2 ⟨h1, h2⟩
theorem deps_mem {kd d : Nat} : ∀ {ts : List Tr}, deps kd ts ≤ d → ∀ t ∈ ts, pdt kd t ≤ d
  | [], _, t, h => by cases h
  | u :: ts, hn, t, h => by
    simp only [deps] at hn
    rcases List.mem_cons.1 h with rfl | h
    · exact Nat.le_trans (Nat.le_max_left _ _) hn
    · exact deps_mem (ts := ts) (Nat.le_trans (Nat.le_max_right _ _) hn) t h
theorem pd_le (f kd k : Nat) : f ≤ pd f kd k ∧ pd f kd k ≤ f + 1 := by unfold pd; cases inn kd k <;> simp
theorem pd_mono {a b : Nat} (h : ∀ k, inn b k = true → inn a k = true) (t : Tr) : pdt b t ≤ pdt a t := by
  unfold pdt pd
  cases hb : inn b t.kind with
  | true => rw [h _ hb]; exact Nat.le_refl _
  | false => exact (pd_le _ _ _).1
theorem inn_iff (kd k : Nat) : inn kd k = true ↔ k = 5 ∨ (k = 6 ∧ kd ≠ 5) ∨ (k = 4 ∧ kd ≠ 5 ∧ kd ≠ 6) := by
  simp only [inn, Bool.or_eq_true, Bool.and_eq_true, beq_iff_eq, bne_iff_ne, and_assoc, or_assoc]
/-- What a part tells is of the form, with not too many brackets when it is told in such a one. -/
def FD (s : List UInt8) (m : Tr → Nat) (d : Nat) (r : Nat → PR) : Prop := ∀ a, a ≤ s.length → ∀ t a1, r a = .ok t a1 → Frm t ∧ m t ≤ d
section
variable {s : List UInt8} {d : Nat} {alt : Nat → PR}
theorem sub_wordly {a : Nat} : ∀ c ∈ sub s a (scan wordly s a), wordly ((c.toNat : Nat) : Int) = true := by
  intro c hc
  unfold sub scan at hc
  rw [Nat.add_sub_cancel_left] at hc
  have e : (s.drop a).take ((s.drop a).takeWhile fun c => wordly (c.toNat : Nat)).length = (s.drop a).takeWhile fun c => wordly (c.toNat : Nat) := by
    have := List.takeWhile_append_dropWhile (p := fun c : UInt8 => wordly (c.toNat : Nat)) (l := s.drop a)
    conv => lhs; arg 2; rw [← this]
    rw [List.take_left]
  rw [e] at hc
  have key : ∀ (l : List UInt8), c ∈ l.takeWhile (fun c => wordly (c.toNat : Nat)) → wordly ((c.toNat : Nat) : Int) = true := by
    intro l
    induction l with
    | nil => intro h; cases h
    | cons x l ih =>
      intro h
      rw [List.takeWhile_cons] at h
      split at h
      · rename_i hx
        rcases List.mem_cons.1 h with rfl | h
        · exact hx
        · exact ih h
      · cases h
  exact key _ hc
theorem pWord_frm {kd a : Nat} (hk : kd = 1 ∨ kd = 2) (ha : a ≤ s.length) {t : Tr} {a1 : Nat} (h : pWord s kd a = .ok t a1) : Frm t ∧ pdt 4 t ≤ d := by
  have hg := pWord_goes ha h
  unfold pWord at h
  cases hb : Nat.beq (scan wordly s a) a with
  | true => rw [hb] at h; cases h
  | false =>
    rw [hb] at h
    cases h
    have hne : sub s a (scan wordly s a) ≠ [] := by
      intro e
      have h3 : (sub s a (scan wordly s a)).length = scan wordly s a - a := by unfold sub; rw [List.length_take, List.length_drop]; omega
      rw [e] at h3
      simp at h3; omega
    refine ⟨by simp only [Frm, Frms]; exact ⟨⟨by omega, fun h => by omega, fun _ => ⟨rfl, hne, sub_wordly⟩, fun h => by omega, fun h => by omega⟩, trivial⟩, ?_⟩
    · have : inn 4 kd = false := by rcases hk with rfl | rfl <;> rfl
      have h0 : dep (.mk kd (sub s a (scan wordly s a)) []) = 0 := by simp only [dep, deps]; rw [if_neg (by omega)]
      show pd (dep (.mk kd (sub s a (scan wordly s a)) [])) 4 kd ≤ d
      unfold pd; rw [this, h0]; exact Nat.zero_le _
theorem pBr_frm (hA : ∀ e, d = e + 1 → FD s dep e alt) (hd : d ≤ 16) (hG : Goes s alt) {a : Nat} (ha : a < s.length) {t : Tr} {a1 : Nat} (h : pBr s (16 - d) alt a = .ok t a1) : Frm t ∧ pdt 4 t ≤ d := by
  unfold pBr at h
  cases hb : Nat.beq (16 - d) 16 with
  | true => rw [hb] at h; cases h
  | false =>
    have hd0 : d ≠ 0 := fun e => by rw [e] at hb; cases hb
    rw [hb] at h
    simp only [cond_false] at h
    have h1 := blk_le (s := s) (a := a + 1) ha
    cases hc : hbI s (blk s (a + 1)) == 41 with
    | true =>
      rw [hc] at h
      cases h
      refine ⟨by simp only [Frm, Frms]; exact ⟨⟨by omega, fun _ => ⟨rfl, rfl⟩, fun h => by omega, fun h => by omega, fun h => by omega⟩, trivial⟩, ?_⟩
      show pd (dep (.mk 0 [] [])) 4 0 ≤ d
      have : dep (.mk 0 [] []) = 1 := by simp only [dep, if_true]
      rw [this]
      show 1 ≤ d
      omega
    | false =>
      rw [hc] at h
      simp only [cond_false] at h
      obtain ⟨t1, a2, h2, h3⟩ := PR.bind_ok h
      obtain ⟨e, rfl⟩ : ∃ e, d = e + 1 := ⟨d - 1, by omega⟩
      obtain ⟨h6, h7⟩ := hA e rfl _ h1 _ _ h2
      cases hd : hbI s a2 == 41 with
      | true =>
        rw [hd] at h3
        cases h3
        exact ⟨h6, Nat.le_trans (pd_le (dep t) 4 t.kind).2 (by omega)⟩
      | false => rw [hd] at h3; cases h3
theorem pAtom_frm (hA : ∀ e, d = e + 1 → FD s dep e alt) (hd : d ≤ 16) (hG : Goes s alt) {a : Nat} (ha : a ≤ s.length) {t : Tr} {a1 : Nat} (h : pAtom s (16 - d) alt a = .ok t a1) : Frm t ∧ pdt 4 t ≤ d := by
  unfold pAtom at h
  cases h1 : hbI s a == 64 with
  | true =>
    rw [h1] at h
    exact pWord_frm (.inr rfl) (hb_lt h1 (by decide)) h
  | false =>
    rw [h1] at h
    simp only [cond_false] at h
    cases h2 : hbI s a == 35 with
    | true =>
      rw [h2] at h
      simp only [cond_true] at h
      cases h3 : (exN s txtW a).1 with
      | true =>
        rw [h3] at h
        cases h
        refine ⟨by simp only [Frm, Frms]; exact ⟨⟨by omega, fun _ => ⟨rfl, rfl⟩, fun h => by omega, fun h => by omega, fun h => by omega⟩, trivial⟩, ?_⟩
        have : dep (.mk 3 [] []) = 0 := by simp only [dep, deps]; rfl
        show pd (dep (.mk 3 [] [])) 4 3 ≤ d
        rw [this]; exact Nat.zero_le _
      | false => rw [h3] at h; cases h
    | false =>
      rw [h2] at h
      simp only [cond_false] at h
      cases h3 : hbI s a == 40 with
      | true =>
        rw [h3] at h
        exact pBr_frm hA hd hG (hb_lt h3 (by decide)) h
      | false =>
        rw [h3] at h
        exact pWord_frm (.inl rfl) ha h
theorem pMarks_frm : ∀ (f : Nat) (t : Tr) (a : Nat), a ≤ s.length → Frm t → pdt 4 t ≤ d → Frm (pMarks s f t a).1 ∧ pdt 4 (pMarks s f t a).1 ≤ d
  | 0, t, a, ha, hk, hz => ⟨hk, hz⟩
  | f + 1, t, a, ha, hk, hz => by
    unfold pMarks
    cases h : markOf (hbI s a) with
    | none => exact ⟨hk, hz⟩
    | some k =>
      have h1 := markOf_lt h
      refine pMarks_frm f (.mk (7 + k) [] [t]) (blk s (a + 1)) (blk_le h1.1) ?_ ?_
      · simp only [Frm, Frms]
        exact ⟨⟨by omega, fun h => by omega, fun h => by omega, fun h => by omega, fun _ => ⟨rfl, rfl⟩⟩, hk, trivial⟩
      · have e1 : ∀ k', inn (7 + k) k' = inn 4 k' := fun k' => by
          rw [Bool.eq_iff_iff, inn_iff, inn_iff]; omega
        have e2 : dep (.mk (7 + k) [] [t]) = pdt 4 t := by
          simp only [dep, deps]
          rw [if_neg (by omega)]
          unfold pdt pd
          rw [e1]; simp
        have e3 : inn 4 (7 + k) = false := by rw [Bool.eq_false_iff, ne_eq, inn_iff]; omega
        show pd (dep (.mk (7 + k) [] [t])) 4 (7 + k) ≤ d
        unfold pd
        rw [e3, e2]; exact hz
theorem pItem_frm (hA : ∀ e, d = e + 1 → FD s dep e alt) (hd : d ≤ 16) (hG : Goes s alt) : FD s (pdt 4) d (pItem s (16 - d) alt) := by
  intro a ha t a1 h
  obtain ⟨t1, a2, h1, h2⟩ := PR.bind_ok h
  have h3 := pAtom_goes hG ha h1
  have h5 := pAtom_frm hA hd hG ha h1
  cases h2
  exact pMarks_frm (s.length + 1) t1 (blk s a2) (blk_le h3.2) h5.1 h5.2
theorem rowT_frm {kd : Nat} {m : Tr → Nat} (hk : kd = 4 ∨ kd = 5 ∨ kd = 6) (h1 : ∀ l, m (.mk kd [] l) ≤ dep (.mk kd [] l)) (h2 : ∀ t, m t ≤ pdt kd t) {l : List Tr} (hl : Frms l) (hz : ∀ t ∈ l, pdt kd t ≤ d) (hne : l ≠ []) : Frm (rowT kd l) ∧ m (rowT kd l) ≤ d := by
  match l with
  | [] => exact absurd rfl hne
  | [t] =>
    simp only [Frms] at hl
    exact ⟨hl.1, Nat.le_trans (h2 t) (hz t (by simp))⟩
  | t :: u :: l =>
    refine ⟨?_, ?_⟩
    · simp only [rowT, Frm]
      exact ⟨⟨by omega, fun h => by omega, fun h => by omega, fun _ => ⟨rfl, by simp⟩, fun h => by omega⟩, hl⟩
    · have e : dep (.mk kd [] (t :: u :: l)) = deps kd (t :: u :: l) := by
        show (if kd = 0 then 1 else deps kd (t :: u :: l)) = _
        rw [if_neg (by omega)]
      refine Nat.le_trans (h1 _) ?_
      rw [e]
      exact deps_le hz
theorem mem_snoc {P : Tr → Prop} {l : List Tr} {t : Tr} (h : ∀ u ∈ l, P u) (ht : P t) : ∀ u ∈ l ++ [t], P u := by
  intro u hu
  rcases List.mem_append.1 hu with hu | hu
  · exact h u hu
  · simp only [List.mem_singleton] at hu; rw [hu]; exact ht
theorem pSeqs_frm {n : Nat} (hP : FD s (pdt 4) d (pItem s n alt)) (hG : Goes s alt) : ∀ (f : Nat) (l : List Tr) (a : Nat), a ≤ s.length → l ≠ [] → Frms l → (∀ t ∈ l, pdt 4 t ≤ d) → ∀ t a1, pSeqs s n alt f l a = .ok t a1 → Frm t ∧ pdt 6 t ≤ d
  | 0, l, a, ha, hne, hk, hz, t, a1, h => by cases h; exact rowT_frm (m := pdt 6) (.inl rfl) (fun l => Nat.le_refl _) (pd_mono fun k h => by rw [inn_iff] at h ⊢; omega) hk hz hne
  | f + 1, l, a, ha, hne, hk, hz, t, a1, h => by
    unfold pSeqs at h
    cases hb : begins (hbI s a) with
    | false => rw [hb] at h; cases h; exact rowT_frm (m := pdt 6) (.inl rfl) (fun l => Nat.le_refl _) (pd_mono fun k h => by rw [inn_iff] at h ⊢; omega) hk hz hne
    | true =>
      rw [hb] at h
      obtain ⟨t1, a2, h1, h2⟩ := PR.bind_ok h
      have h3 := pItem_goes hG ha h1
      have h4 := hP a ha _ _ h1
      exact pSeqs_frm hP hG f _ a2 h3.2 (by simp) (hk.snoc h4.1) (mem_snoc hz h4.2) _ _ h2
theorem pSeq_frm {n : Nat} (hP : FD s (pdt 4) d (pItem s n alt)) (hG : Goes s alt) : FD s (pdt 6) d (pSeq s n alt) := by
  intro a ha t a1 h
  obtain ⟨t1, a2, h1, h2⟩ := PR.bind_ok h
  have h3 := pItem_goes hG (blk_le ha) h1
  have h4 := hP _ (blk_le ha) _ _ h1
  exact pSeqs_frm hP hG _ [t1] a2 h3.2 (by simp) (by simp only [Frms]; exact ⟨h4.1, trivial⟩) (fun u hu => by simp only [List.mem_singleton] at hu; rw [hu]; exact h4.2) _ _ h2
theorem pJoins_frm {sg : Int} (hs : sg ≠ 0) {kd : Nat} {m : Tr → Nat} (hk : kd = 4 ∨ kd = 5 ∨ kd = 6) (e1 : ∀ l, m (.mk kd [] l) ≤ dep (.mk kd [] l)) (e2 : ∀ t, m t ≤ pdt kd t) {part : Nat → PR} (hP : FD s (pdt kd) d part) (hG : Goes s part) : ∀ (f : Nat) (l : List Tr) (a : Nat), a ≤ s.length → l ≠ [] → Frms l → (∀ t ∈ l, pdt kd t ≤ d) → ∀ t a1, pJoins s sg kd part f l a = .ok t a1 → Frm t ∧ m t ≤ d
  | 0, l, a, ha, hne, hf, hz, t, a1, h => by cases h; exact rowT_frm hk e1 e2 hf hz hne
  | f + 1, l, a, ha, hne, hf, hz, t, a1, h => by
    unfold pJoins at h
    cases hb : hbI s a == sg with
    | false => rw [hb] at h; cases h; exact rowT_frm hk e1 e2 hf hz hne
    | true =>
      rw [hb] at h
      obtain ⟨t1, a2, h1, h2⟩ := PR.bind_ok h
      have hlt := hb_lt hb hs
      have h3 := hG (a + 1) hlt _ _ h1
      have h4 := hP (a + 1) hlt _ _ h1
      exact pJoins_frm hs hk e1 e2 hP hG f _ a2 h3.2 (by simp) (hf.snoc h4.1) (mem_snoc hz h4.2) _ _ h2
theorem pJoin_frm {sg : Int} (hs : sg ≠ 0) {kd : Nat} {m : Tr → Nat} (hk : kd = 4 ∨ kd = 5 ∨ kd = 6) (e1 : ∀ l, m (.mk kd [] l) ≤ dep (.mk kd [] l)) (e2 : ∀ t, m t ≤ pdt kd t) {part : Nat → PR} (hP : FD s (pdt kd) d part) (hG : Goes s part) : FD s m d (pJoin s sg kd part) := by
  intro a ha t a1 h
  obtain ⟨t1, a2, h1, h2⟩ := PR.bind_ok h
  have h3 := hG a ha _ _ h1
  have h4 := hP a ha _ _ h1
  exact pJoins_frm hs hk e1 e2 hP hG _ [t1] a2 h3.2 (by simp) (by simp only [Frms]; exact ⟨h4.1, trivial⟩) (fun u hu => by simp only [List.mem_singleton] at hu; rw [hu]; exact h4.2) _ _ h2
end
theorem pAltD_frm (s : List UInt8) : ∀ d, d ≤ 16 → FD s dep d (pAltD s (d + 1))
  | d, hd => by
    have hA : ∀ e, d = e + 1 → FD s dep e (pAltD s d) := fun e he => by subst he; exact pAltD_frm s e (by omega)
    have hG := pAltD_goes (s := s) d
    have h4 := pItem_frm (d := d) hA hd hG
    have h6 := pSeq_frm h4 hG
    have h5 : FD s (pdt 5) d (pAll s (16 - d) (pAltD s d)) := pJoin_frm (m := pdt 5) (sg := 38) (by decide) (.inr (.inr rfl)) (fun l => Nat.le_refl _) (pd_mono fun k h => by rw [inn_iff] at h ⊢; omega) h6 (pSeq_goes hG)
    exact pJoin_frm (m := dep) (sg := 124) (by decide) (.inr (.inl rfl)) (fun l => Nat.le_refl _) (fun t => (pd_le _ _ _).1) h5 (pAll_goes hG)
theorem parse_frm {s : List UInt8} {t : Tr} (h : parse s = .ok t 0) : Frm t ∧ dep t ≤ 16 := by
  unfold parse at h
  cases hb : decide (s.length > 256) with
  | true => rw [hb] at h; cases h
  | false =>
    rw [hb] at h
    simp only [cond_false] at h
    obtain ⟨t1, a1, h1, h2⟩ := PR.bind_ok h
    have h3 := pAltD_frm s 16 (Nat.le_refl _) 0 (Nat.zero_le _) _ _ h1
    cases hc : decide (a1 < s.length) with
    | true => rw [hc] at h2; cases h2
    | false => rw [hc] at h2; cases h2; exact h3
end Go.Dc.Ke
end
section
set_option linter.unusedVariables false
set_option linter.unusedSimpArgs false
namespace Go.Dc.Ke
open Go.Proofs Go.RowKit Go.Shelf
set_option maxRecDepth 100000
def brk (b : Bool) (s : List UInt8) : List UInt8 := bif b then 40 :: (s ++ [41]) else s
def pce (kd : Nat) (t : Tr) : List UInt8 := brk (inn kd t.kind) (shw t)
theorem wth_pce {K : List Int} {kd : Nat} (h : ∀ k : Nat, K.contains ((k : Nat) : Int) = inn kd k) (t : Tr) : wth K t = pce kd t := by
  unfold wth pce brk
  rw [h]
  cases inn kd t.kind <;> simp
theorem kA_inn (kd : Nat) (hk : kd ≠ 5 ∧ kd ≠ 6) (k : Nat) : kA.contains ((k : Nat) : Int) = inn kd k := by
  rw [Bool.eq_iff_iff, inn_iff]
  simp only [kA, List.contains_eq_mem, List.mem_cons, List.not_mem_nil, or_false, decide_eq_true_eq]
  omega
theorem kB_inn (k : Nat) : kB.contains ((k : Nat) : Int) = inn 6 k := by
  rw [Bool.eq_iff_iff, inn_iff]
  simp only [kB, List.contains_eq_mem, List.mem_cons, List.not_mem_nil, or_false, decide_eq_true_eq]
  omega
theorem kC_inn (k : Nat) : kC.contains ((k : Nat) : Int) = inn 5 k := by
  rw [Bool.eq_iff_iff, inn_iff]
  simp only [kC, List.contains_eq_mem, List.mem_cons, List.not_mem_nil, or_false, decide_eq_true_eq]
  omega
/-- Some texts with a sign between. -/
def jsg (sg : UInt8) : List (List UInt8) → List UInt8
  | [] => []
  | [x] => x
  | x :: y :: l => x ++ sg :: jsg sg (y :: l)
theorem join_jn (sg : UInt8) : ∀ l, Lib.join l [sg] = jsg sg l
  | [] => rfl
  | [x] => by rw [Lib.join_cons]; simp [Lib.joinTail, jsg]
  | x :: y :: l => by
    rw [Lib.join_cons, jsg, ← join_jn sg (y :: l), Lib.join_cons]
    simp [Lib.joinTail]
theorem shw4 (w : List UInt8) (ts : List Tr) : shw (.mk 4 w ts) = jsg 32 (ts.map (pce 4)) := by
  simp only [shw]
  rw [if_neg (by omega), if_neg (by omega), if_neg (by omega), if_pos trivial, join_jn, shwL_map, funext (wth_pce (kA_inn 4 (by omega)))]
theorem shw6 (w : List UInt8) (ts : List Tr) : shw (.mk 6 w ts) = jsg 38 (ts.map (pce 6)) := by
  simp only [shw]
  rw [if_neg (by omega), if_neg (by omega), if_neg (by omega), if_neg (by omega), if_pos trivial, join_jn, shwL_map, funext (wth_pce kB_inn)]
theorem shw5 (w : List UInt8) (ts : List Tr) : shw (.mk 5 w ts) = jsg 124 (ts.map (pce 5)) := by
  simp only [shw]
  rw [if_neg (by omega), if_neg (by omega), if_neg (by omega), if_neg (by omega), if_neg (by omega), if_pos trivial, join_jn, shwL_map, funext (wth_pce kC_inn)]
theorem shwM (j : Nat) (hj : j ≤ 2) (w : List UInt8) (u : Tr) : shw (.mk (7 + j) w [u]) = pce 4 u ++ (marksW.drop j).take 1 := by
  simp only [shw]
  rw [if_neg (by omega), if_neg (by omega), if_neg (by omega), if_neg (by omega), if_neg (by omega), if_neg (by omega), if_pos (by omega), shwL_map, List.map_cons, List.map_nil, Lib.join_cons, wth_pce (kA_inn 4 (by omega)), Nat.add_sub_cancel_left]
  simp [Lib.joinTail]
/-! ### What stands where -/
def Has (s : List UInt8) (a : Nat) (w : List UInt8) : Prop := ∃ r, s.drop a = w ++ r
theorem Has.fst {s : List UInt8} {a : Nat} {x y : List UInt8} (h : Has s a (x ++ y)) : Has s a x := by
  obtain ⟨r, h⟩ := h; exact ⟨y ++ r, by rw [h, List.append_assoc]⟩
theorem Has.snd {s : List UInt8} {a : Nat} {x y : List UInt8} (h : Has s a (x ++ y)) : Has s (a + x.length) y := by
  obtain ⟨r, h⟩ := h
  refine ⟨r, ?_⟩
  rw [← List.drop_drop, h, List.append_assoc, List.drop_left]
theorem Has.hd {s : List UInt8} {a : Nat} {c : UInt8} {y : List UInt8} (h : Has s a (c :: y)) : hbI s a = ((c.toNat : Nat) : Int) := by
  obtain ⟨r, h⟩ := h
  have hlt : a < s.length := by
    rcases Nat.lt_or_ge a s.length with h1 | h1
    · exact h1
    · rw [List.drop_eq_nil_of_le h1] at h; cases h
  rw [List.drop_eq_getElem_cons hlt] at h
  have : s[a] = c := by injection h
  simp [hbI, List.getD, List.getElem?_eq_getElem hlt, this]
theorem Has.tl {s : List UInt8} {a : Nat} {c : UInt8} {y : List UInt8} (h : Has s a (c :: y)) : Has s (a + 1) y := Has.snd (x := [c]) h
theorem Has.le {s : List UInt8} {a : Nat} {w : List UInt8} (h : Has s a w) (hw : w ≠ []) : a + w.length ≤ s.length := by
  obtain ⟨r, h⟩ := h
  have := congrArg List.length h
  rw [List.length_drop, List.length_append] at this
  have : w.length ≠ 0 := fun e => hw (List.eq_nil_of_length_eq_zero e)
  omega
theorem scan_has {p : Int → Bool} {s : List UInt8} : ∀ (w : List UInt8) (a : Nat), Has s a w → (∀ c ∈ w, p ((c.toNat : Nat) : Int) = true) → p (hbI s ((a + w.length : Nat) : Int)) = false → scan p s a = a + w.length
  | [], a, _, _, h => scan_stop h
  | c :: w, a, h, hp, he => by
    have h1 := h.hd
    have hlt := h.le (by simp)
    simp only [List.length_cons] at hlt he ⊢
    have := scan_step (p := p) (s := s) (a := a) (by omega) (by rw [h1]; exact hp c (by simp))
    rw [← this, scan_has w (a + 1) h.tl (fun d hd => hp d (by simp [hd])) (by rw [show a + 1 + w.length = a + (w.length + 1) by omega]; exact he)]
    omega
theorem sub_has {s : List UInt8} {a : Nat} {w : List UInt8} (h : Has s a w) : sub s a (a + w.length) = w := by
  obtain ⟨r, h⟩ := h
  unfold sub
  rw [Nat.add_sub_cancel_left, h, List.take_left]
theorem exN_has {s : List UInt8} : ∀ (w : List UInt8) (a : Nat), Has s a w → exN s w a = (true, a + w.length)
  | [], a, _ => rfl
  | c :: w, a, h => by
    unfold exN
    rw [h.hd, beq_self_eq_true]
    show exN s w (a + 1) = _
    rw [exN_has w (a + 1) h.tl, List.length_cons, show a + 1 + w.length = a + (w.length + 1) by omega]
/-! ### How a text begins -/
theorem wordly_facts {c : Int} (h : wordly c = true) : begins c = true ∧ c ≠ 32 := by
  refine ⟨by simp [begins, h], fun e => ?_⟩
  subst e; exact absurd h (by decide)
theorem begins_ne {c : Int} (h : begins c = true) : c ≠ 32 := fun e => by subst e; exact absurd h (by decide)
def Beg (w : List UInt8) : Prop := ∃ c y, w = c :: y ∧ begins ((c.toNat : Nat) : Int) = true
theorem Beg.app {x y : List UInt8} (h : Beg x) : Beg (x ++ y) := by
  obtain ⟨c, z, rfl, hc⟩ := h; exact ⟨c, z ++ y, rfl, hc⟩
theorem Beg.brk {x : List UInt8} {b : Bool} (h : Beg x) : Beg (brk b x) := by
  cases b with
  | true => exact ⟨40, x ++ [41], rfl, by decide⟩
  | false => exact h
theorem Beg.jsg {sg : UInt8} : ∀ {l : List (List UInt8)}, (∀ x ∈ l, Beg x) → l ≠ [] → Beg (jsg sg l)
  | [], _, h => absurd rfl h
  | [x], h, _ => h x (by simp)
  | x :: y :: l, h, _ => (h x (by simp)).app
theorem kinds {k : Nat} (h : k ≤ 9) : k = 0 ∨ k = 1 ∨ k = 2 ∨ k = 3 ∨ k = 4 ∨ k = 5 ∨ k = 6 ∨ ∃ j, j ≤ 2 ∧ k = 7 + j := by
  rcases Nat.lt_or_ge k 7 with h7 | h7
  · omega
  · exact .inr (.inr (.inr (.inr (.inr (.inr (.inr ⟨k - 7, by omega, by omega⟩))))))
mutual
theorem shw_beg : ∀ t : Tr, Frm t → Beg (shw t)
  | .mk k w kids, h => by
    simp only [Frm] at h
    obtain ⟨hf, hk⟩ := h
    have hk9 := hf.le
    rcases kinds hk9 with rfl | rfl | rfl | rfl | rfl | rfl | rfl | ⟨j, hj, rfl⟩
    · exact ⟨40, [41], rfl, by decide⟩
    · obtain ⟨_, h1, h2⟩ := hf.b (.inl rfl)
      cases w with
      | nil => exact absurd rfl h1
      | cons c w => exact ⟨c, w, rfl, (wordly_facts (h2 c (by simp))).1⟩
    · exact ⟨64, w, rfl, by decide⟩
    · exact ⟨35, [116, 101, 120, 116], rfl, by decide⟩
    · rw [shw4]
      have h2 := (hf.c (.inl rfl)).2
      exact Beg.jsg (fun x hx => by obtain ⟨t, ht, rfl⟩ := List.mem_map.1 hx; exact (shws_beg kids hk t ht).brk) (by intro e; rw [List.map_eq_nil_iff] at e; rw [e] at h2; simp at h2)
    · rw [shw5]
      have h2 := (hf.c (.inr (.inl rfl))).2
      exact Beg.jsg (fun x hx => by obtain ⟨t, ht, rfl⟩ := List.mem_map.1 hx; exact (shws_beg kids hk t ht).brk) (by intro e; rw [List.map_eq_nil_iff] at e; rw [e] at h2; simp at h2)
    · rw [shw6]
      have h2 := (hf.c (.inr (.inr rfl))).2
      exact Beg.jsg (fun x hx => by obtain ⟨t, ht, rfl⟩ := List.mem_map.1 hx; exact (shws_beg kids hk t ht).brk) (by intro e; rw [List.map_eq_nil_iff] at e; rw [e] at h2; simp at h2)
    · obtain ⟨u, rfl⟩ := List.length_eq_one_iff.1 (hf.d (by omega)).2
      rw [shwM j hj]
      exact ((shws_beg [u] hk u (by simp)).brk).app
theorem shws_beg : ∀ ts : List Tr, Frms ts → ∀ t ∈ ts, Beg (shw t)
  | [], _, t, h => by cases h
  | u :: ts, hn, t, h => by
    simp only [Frms] at hn
    rcases List.mem_cons.1 h with e | h
    · rw [e]; exact shw_beg u hn.1
    · exact shws_beg ts hn.2 t h
end
theorem Beg.ne {w : List UInt8} (h : Beg w) : w ≠ [] := by obtain ⟨c, y, rfl, _⟩ := h; simp
theorem Has.beg {s : List UInt8} {a : Nat} {w : List UInt8} (h : Has s a w) (hb : Beg w) : begins (hbI s a) = true := by
  obtain ⟨c, y, rfl, hc⟩ := hb; rw [h.hd]; exact hc
theorem blk_no {s : List UInt8} {a : Nat} (h : hbI s a ≠ 32) : blk s a = a := scan_stop (by show (hbI s a == 32) = false; rw [beq_eq_false_iff_ne]; exact h)
theorem blk_one {s : List UInt8} {a : Nat} {c : Int} (h : hbI s a = 32) (h2 : hbI s ((a + 1 : Nat) : Int) ≠ 32) : blk s a = a + 1 := by
  have hlt : a < s.length := hb_lt (c := 32) (by rw [h]; rfl) (by decide)
  have := scan_step (p := isB) (s := s) (a := a) hlt (by rw [h]; rfl)
  show scan isB s a = _
  rw [← this]
  exact blk_no h2
end Go.Dc.Ke
end
section
set_option linter.unusedVariables false
set_option linter.unusedSimpArgs false
namespace Go.Dc.Ke
open Go.Proofs Go.RowKit Go.Shelf
set_option maxRecDepth 100000
def tD : Tr := .mk 0 [] []
theorem TrNs.at {N : List NE} : ∀ (ts : List Tr) (is : List Nat), TrNs N ts is → ∀ j, j < ts.length → TrN N (ts.getD j tD) (is.getD j 0)
  | [], _, _, j, hj => by cases hj
  | t :: ts, [], h, j, hj => by simp only [TrNs] at h
  | t :: ts, i :: is, h, 0, hj => by simp only [TrNs] at h; exact h.1
  | t :: ts, i :: is, h, j + 1, hj => by
    simp only [TrNs] at h
    exact TrNs.at ts is h.2 j (Nat.lt_of_succ_lt_succ hj)
/-- The kids' numbers are read under the number 6. -/
noncomputable abbrev R6 (R : Nat → RoRow) (is : List Nat) : Nat → RoRow := updR R 6 (kidN is)
def spec16k (ts : List Tr) (is : List Nat) (N : List NE) : CallSpecX := fun args h k => match args with
  | [.ptr false 0 0 0, .int .i64 i] => fun F => ∃ (j : Nat) (root : Int), j < ts.length ∧ i = (is.getD j 0 : Nat) ∧ NF F N ∧ h.live 0 = some (trow 1 N.length root) ∧ h.live 1 = some (arow N) ∧ ∀ F', Up F F' → k (.int .i64 (size (ts.getD j tD) : Nat)) (h ++ [none, none]) F'
  | _ => botX
noncomputable abbrev env16 (R : Nat → RoRow) (ts : List Tr) (is : List Nat) (N : List NE) : EnvX := (bx (R6 R is)).addCall 16 (spec16k ts is N)
noncomputable abbrev tm16 (i acc j : Nat) : List AV := [.ptr false 0 0 0, .int .i64 (i : Nat), .any, .any, .any, .int .i64 (acc : Nat), .int .i64 (j : Nat), .any, .any, .any, .any, .any, .any, .any, .any, .any, .any, .any, .any, .any, .any, .any, .any, .any, .any, .any, .any, .any, .any, .any, .any, .any, .any, .any, .any, .any]
noncomputable abbrev fam16 (i acc j : Nat) (root : Int) (N : List NE) : St := ⟨tm16 i acc j, [some (trow 1 N.length root), some (arow N)]⟩
noncomputable abbrev tm16s (i acc j n : Nat) : List AV := [.ptr false 0 0 0, .int .i64 (i : Nat), .any, .any, .any, .any, .int .i64 (j : Nat), .any, .any, .any, .any, .any, .any, .any, .any, .any, .any, .any, .any, .any, .int .i64 (acc : Nat), .ptr false 0 0 0, .any, .any, .any, .any, .any, .any, .any, .sl true 6 0 n .no, .any, .any, .any, .any, .any, .any]
noncomputable abbrev fam16s (i acc j n : Nat) (root : Int) (N : List NE) : St := ⟨tm16s i acc j n, [some (trow 1 N.length root), some (arow N)]⟩
/-- A kid's round. -/
def lpB16 (ts : List Tr) (i j a0 : Nat) (N : List NE) : LoopSpX := fun st k F => j < ts.length ∧ a0 + size (ts.getD j tD) ≤ 200000 ∧ st.tmps.length = 36 ∧ nthV st.tmps 0 = .ptr false 0 0 0 ∧ nthV st.tmps 1 = .int .i64 (i : Nat) ∧ nthV st.tmps 5 = .int .i64 (a0 : Nat) ∧ nthV st.tmps 6 = .int .i64 (j : Nat) ∧
  ∃ root, st.rows = [some (trow 1 N.length root), some (arow N)] ∧ NF F N ∧ ∀ F', Up F F' → k .normal (fam16 i (a0 + size (ts.getD j tD)) j root N) F'
def lp16 (i n sz : Nat) (N : List NE) : LoopSpX := fun st k F => st.tmps.length = 36 ∧ nthV st.tmps 0 = .ptr false 0 0 0 ∧ nthV st.tmps 1 = .int .i64 (i : Nat) ∧ nthV st.tmps 5 = .int .i64 1 ∧ nthV st.tmps 6 = .int .i64 0 ∧
  ∃ root, st.rows = [some (trow 1 N.length root), some (arow N)] ∧ NF F N ∧ ∀ F', Up F F' → k .normal (fam16 i sz n root N) F'
def opsR : Code → Array Oper
  | .region _ ops _ => ops
  | _ => #[]
def ridR : Code → Nat
  | .region i _ _ => i
  | _ => 0
noncomputable def blkOf (fi : FI) (id : Nat) : Code := match blockOf fi id with | some b => b | none => .skip
noncomputable abbrev ops16 : Array Oper := opsR (blkOf fi16 1)
noncomputable abbrev tm16t (i acc j n x : Nat) : List AV := [.ptr false 0 0 0, .int .i64 (i : Nat), .any, .any, .any, .any, .int .i64 (j : Nat), .any, .any, .any, .any, .any, .any, .any, .any, .any, .any, .any, .any, .any, .int .i64 (acc : Nat), .ptr false 0 0 0, .any, .any, .any, .any, .any, .any, .any, .sl true (x + 15) 0 n .no, .any, .any, .any, .any, .any, .any]
/-! the text -/
def btw (k : Int) : List UInt8 := bif k == 5 then [124] else bif k == 6 then [38] else [32]
def spec26 : CallSpecX := fun args h k => match args with
  | [.int .i64 i] => fun F => k (.str (btw i)) h F
  | _ => botX
def spec14k (ts : List Tr) (is : List Nat) (N : List NE) : CallSpecX := fun args h k => match args with
  | [.ptr false 0 0 0, .int .i64 i, .bool b] => fun F => ∃ (j : Nat) (root : Int), j < ts.length ∧ i = (is.getD j 0 : Nat) ∧ NF F N ∧ h.live 0 = some (trow 1 N.length root) ∧ h.live 1 = some (arow N) ∧ ∀ F', Up F F' → k (.str (brk b (shw (ts.getD j tD)))) (h ++ [none, none]) F'
  | _ => botX
noncomputable abbrev env14 (R : Nat → RoRow) (ts : List Tr) (is : List Nat) (N : List NE) : EnvX := ((bx (R6 R is)).addCall 26 spec26).addCall 14 (spec14k ts is N)
noncomputable abbrev tm14 (s : List UInt8) (j : Nat) : List AV := [.ptr false 0 0 0, .any, .any, .any, .any, .any, .any, .ptr false 2 0 0, .str s, .int .i64 (j : Nat), .any, .any, .any, .any, .any, .any, .any, .any, .any, .any, .any, .any, .any, .any, .any, .any, .any, .any, .any, .any, .any, .any, .any, .any, .any, .any, .any, .any, .any, .any, .any, .any, .any, .any, .any, .any, .any, .any, .any, .any, .any, .any, .any, .any, .any, .any, .any, .any, .any, .any, .any, .any, .any, .any, .any, .any, .any, .any, .any, .any, .any, .any, .any, .any, .any, .any, .any, .any, .any, .any, .any, .any, .any, .any, .any, .any, .any, .any, .any, .any, .any, .any, .any, .any, .any, .any, .any, .any, .any, .any, .any, .any, .any, .any, .any, .any, .any, .any, .any, .any, .any, .any, .any, .any]
noncomputable abbrev fam14 (s : List UInt8) (j : Nat) (root : Int) (N : List NE) (kd : Int) (w : List UInt8) (n : Nat) : St := ⟨tm14 s j, [some (trow 1 N.length root), some (arow N), some (.lst 62 3 [.agg [.int .i64 kd, .str w, .sl true 6 0 n .no]])]⟩
end Go.Dc.Ke
end
section
set_option linter.unusedVariables false
set_option linter.unusedSimpArgs false
namespace Go.Dc.Ke
open Go.Proofs Go.RowKit Go.Shelf
set_option maxRecDepth 100000
theorem vr16 (R : Nat → RoRow) (ts : List Tr) (is : List Nat) (root : Int) (N : List NE) (i acc j : Nat) (k : Exit → St → Fz → Prop) (F : Fz) : rnx ((bx R).addLoop 16 1 (lpB16 ts i j acc N)) 1000 16 (loopOf fi16 0) (fam16 i acc j root N) k F = (bif true && decide ((↑i : Int) < (↑N.length : Int)) then bif decide (0 + (↑i : Int).toNat < N.length) then bif decide ((↑j : Int) < (↑(N.getD (0 + (↑i : Int).toNat) dN).kids.length : Int)) then j.succ.le ts.length ∧ (acc + size (ts.getD j tD)).le 200000 ∧ 36 = 36 ∧ AV.ptr false 0 0 0 = AV.ptr false 0 0 0 ∧ AV.int IntKind.i64 (↑i : Int) = AV.int IntKind.i64 (↑i : Int) ∧ AV.int IntKind.i64 (↑acc : Int) = AV.int IntKind.i64 (↑acc : Int) ∧ AV.int IntKind.i64 (↑j : Int) = AV.int IntKind.i64 (↑j : Int) ∧ ∃ (root_1 : Int), [some (Row.lst 35 2 [AV.agg [AV.sl false 1 0 N.length Cp.no, AV.int IntKind.i64 root]]), some (Row.gen 62 3 N.length fun (i : Nat) => neV (N.getD i dN))] = [some (Row.lst 35 2 [AV.agg [AV.sl false 1 0 N.length Cp.no, AV.int IntKind.i64 root_1]]), some (Row.gen 62 3 N.length fun (i : Nat) => neV (N.getD i dN))] ∧ NF F N ∧ ∀ (F' : Fz), Up F F' → k Exit.normal (St.mk [AV.ptr false 0 0 0, AV.int IntKind.i64 (↑i : Int), AV.any, AV.any, AV.any, AV.int IntKind.i64 (↑(acc + size (ts.getD j tD)) : Int), AV.int IntKind.i64 (IntKind.i64.wrap ((↑j : Int) + 1)), AV.any, AV.any, AV.any, AV.any, AV.any, AV.any, AV.any, AV.any, AV.any, AV.any, AV.any, AV.int IntKind.i64 (↑j : Int), AV.int IntKind.i64 (IntKind.i64.wrap ((↑j : Int) + 1)), AV.any, AV.any, AV.any, AV.any, AV.any, AV.any, AV.any, AV.any, AV.any, AV.any, AV.any, AV.any, AV.any, AV.any, AV.any, AV.any] [some (Row.lst 35 2 [AV.agg [AV.sl false 1 0 N.length Cp.no, AV.int IntKind.i64 root_1]]), some (Row.gen 62 3 N.length fun (i : Nat) => neV (N.getD i dN))]) F' else k (Exit.exit 0) (St.mk [AV.ptr false 0 0 0, AV.int IntKind.i64 (↑i : Int), AV.any, AV.any, AV.any, AV.int IntKind.i64 (↑acc : Int), AV.int IntKind.i64 (↑j : Int), AV.int IntKind.i64 (↑j : Int), AV.ptr false 0 0 0, AV.ptr false 0 0 0, AV.ptr false 0 0 0, AV.sl false 1 0 N.length Cp.no, AV.int IntKind.i64 (↑i : Int), AV.ptr false 1 (0 + (↑i : Int).toNat) 0, AV.ptr false 1 (0 + (↑i : Int).toNat) 2, AV.sl true ((N.getD (0 + (↑i : Int).toNat) dN).x + 15) 0 (N.getD (0 + (↑i : Int).toNat) dN).kids.length Cp.no, AV.int IntKind.i64 (↑(N.getD (0 + (↑i : Int).toNat) dN).kids.length : Int), AV.bool false, AV.any, AV.any, AV.any, AV.any, AV.any, AV.any, AV.any, AV.any, AV.any, AV.any, AV.any, AV.any, AV.any, AV.any, AV.any, AV.any, AV.any, AV.any] [some (Row.lst 35 2 [AV.agg [AV.sl false 1 0 N.length Cp.no, AV.int IntKind.i64 root]]), some (Row.gen 62 3 N.length fun (i : Nat) => neV (N.getD i dN))]) F else False else False) := by kernel_rfl
theorem vp16 (R : Nat → RoRow) (ts : List Tr) (is : List Nat) (root : Int) (N : List NE) (i acc j : Nat) (K : Nat → AV → AV → AV → AV → AV → AV → Rows → Fz → Prop) (F : Fz) : runOpsB ansX (bx R) (callE (bx R)) ops16.toList (ops16.toList.take 10) (fam16 i acc j root N) (fun st F => K st.tmps.length (nthV st.tmps 0) (nthV st.tmps 1) (nthV st.tmps 6) (nthV st.tmps 20) (nthV st.tmps 21) (nthV st.tmps 29) st.rows F) F = (bif true && decide ((↑i : Int) < (↑N.length : Int)) then bif decide (0 + (↑i : Int).toNat < N.length) then K 36 (AV.ptr false 0 0 0) (AV.int IntKind.i64 (↑i : Int)) (AV.int IntKind.i64 (↑j : Int)) (AV.int IntKind.i64 (↑acc : Int)) (AV.ptr false 0 0 0) (AV.sl true ((N.getD (0 + (↑i : Int).toNat) dN).x + 15) 0 (N.getD (0 + (↑i : Int).toNat) dN).kids.length Cp.no) [some (Row.lst 35 2 [AV.agg [AV.sl false 1 0 N.length Cp.no, AV.int IntKind.i64 root]]), some (Row.gen 62 3 N.length fun (i : Nat) => neV (N.getD i dN))] F else False else False) := by kernel_rfl
theorem vs16 (R : Nat → RoRow) (ts : List Tr) (is : List Nat) (root : Int) (N : List NE) (i acc j n : Nat) (k : St → Fz → Prop) (F : Fz) : runOpsB ansX (env16 R ts is N) (callE (env16 R ts is N)) ops16.toList (ops16.toList.drop 10) (fam16s i acc j n root N) k F = (bif true && decide ((↑j : Int) < (↑n : Int)) then bif decide (0 + (↑j : Int).toNat < ((env16 R ts is N).R 6).n) then ∃ (j_1 : Nat), ∃ (root_1 : Int), j_1.succ.le ts.length ∧ (↑(is.getD (0 + (↑j : Int).toNat) 0) : Int) = (↑(is.getD j_1 0) : Int) ∧ NF F N ∧ some (Row.lst 35 2 [AV.agg [AV.sl false 1 0 N.length Cp.no, AV.int IntKind.i64 root]]) = some (Row.lst 35 2 [AV.agg [AV.sl false 1 0 N.length Cp.no, AV.int IntKind.i64 root_1]]) ∧ some (Row.gen 62 3 N.length fun (i : Nat) => neV (N.getD i dN)) = some (Row.gen 62 3 N.length fun (i : Nat) => neV (N.getD i dN)) ∧ ∀ (F' : Fz), Up F F' → k (St.mk [AV.ptr false 0 0 0, AV.int IntKind.i64 (↑i : Int), AV.any, AV.any, AV.any, AV.int IntKind.i64 (IntKind.i64.wrap ((↑acc : Int) + (↑(size (ts.getD j_1 tD)) : Int))), AV.int IntKind.i64 (↑j : Int), AV.any, AV.any, AV.any, AV.any, AV.any, AV.any, AV.any, AV.any, AV.any, AV.any, AV.any, AV.any, AV.any, AV.int IntKind.i64 (↑acc : Int), AV.ptr false 0 0 0, AV.any, AV.any, AV.any, AV.any, AV.any, AV.any, AV.any, AV.sl true 6 0 n Cp.no, AV.int IntKind.i64 (↑j : Int), AV.ptr true 6 (0 + (↑j : Int).toNat) 0, AV.int IntKind.i64 (↑(is.getD (0 + (↑j : Int).toNat) 0) : Int), AV.int IntKind.i64 (↑(size (ts.getD j_1 tD)) : Int), AV.int IntKind.i64 (IntKind.i64.wrap ((↑acc : Int) + (↑(size (ts.getD j_1 tD)) : Int))), AV.any] [some (Row.lst 35 2 [AV.agg [AV.sl false 1 0 N.length Cp.no, AV.int IntKind.i64 root]]), some (Row.gen 62 3 N.length fun (i : Nat) => neV (N.getD i dN)), none, none]) F' else False else False) := by kernel_rfl
theorem vc16 (R : Nat → RoRow) (ts : List Tr) (is : List Nat) (root : Int) (N : List NE) (i n sz : Nat) (k : AV → Rows → Fz → Prop) (F : Fz) : vcx ((bx R).addLoop 16 0 (lp16 i n sz N)) 1000 16 fi16 [.ptr false 0 0 0, .int .i64 (i : Nat)] [some (trow 1 N.length root), some (arow N)] k F = (36 = 36 ∧ AV.ptr false 0 0 0 = AV.ptr false 0 0 0 ∧ AV.int IntKind.i64 (↑i : Int) = AV.int IntKind.i64 (↑i : Int) ∧ AV.int IntKind.i64 (1 : Int) = AV.int IntKind.i64 1 ∧ AV.int IntKind.i64 (0 : Int) = AV.int IntKind.i64 0 ∧ ∃ (root_1 : Int), [some (Row.lst 35 2 [AV.agg [AV.sl false 1 0 N.length Cp.no, AV.int IntKind.i64 root]]), some (Row.gen 62 3 N.length fun (i : Nat) => neV (N.getD i dN))] = [some (Row.lst 35 2 [AV.agg [AV.sl false 1 0 N.length Cp.no, AV.int IntKind.i64 root_1]]), some (Row.gen 62 3 N.length fun (i : Nat) => neV (N.getD i dN))] ∧ NF F N ∧ ∀ (F' : Fz), Up F F' → k (AV.int IntKind.i64 (↑sz : Int)) [some (Row.lst 35 2 [AV.agg [AV.sl false 1 0 N.length Cp.no, AV.int IntKind.i64 root_1]]), some (Row.gen 62 3 N.length fun (i : Nat) => neV (N.getD i dN))] F') := by kernel_rfl
end Go.Dc.Ke
end
section
set_option linter.unusedVariables false
set_option linter.unusedSimpArgs false
namespace Go.Dc.Ke
open Go.Proofs Go.RowKit Go.Shelf
set_option maxRecDepth 100000
def SizeN (t : Tr) : Prop := ∀ (R : Nat → RoRow), Free6 R → ∀ (i : Nat) (root : Int) (N : List NE) (F : Fz) (k HP : AV → Rows → Fz → Prop), NF F N → TrN N t i → (∀ F', Up F F' → k (.int .i64 (size t : Nat)) [some (trow 1 N.length root), some (arow N)] F') → SafeCallX Try.prog R 16 [.ptr false 0 0 0, .int .i64 (i : Nat)] [some (trow 1 N.length root), some (arow N)] F k HP
/-- A call that reads a tree, wherever the tree lies. -/
theorem atTree {R : Nat → RoRow} {fn : FuncId} {zs : List AV} {v : AV} {root : Int} {N : List NE} {F : Fz} {h : Rows} {b c : Nat} {k HP : AV → Rows → Fz → Prop} (ha : gndL zs = true) (hv : ∀ g, ren g v = v) (hb : h.live b = some (trow c N.length root)) (hc : h.live c = some (arow N))
    (hs : SafeCallX Try.prog R fn (.ptr false 0 0 0 :: zs) [some (trow 1 N.length root), some (arow N)] F (fun v' h' F' => v' = v ∧ h' = [some (trow 1 N.length root), some (arow N)] ∧ Up F F') (fun _ _ _ => False)) (hk : ∀ F', Up F F' → k v (h ++ [none, none]) F') : SafeCallX Try.prog R fn (.ptr false b 0 0 :: zs) h F k HP := by
  have ne : b ≠ c := fun e => by rw [e, hc] at hb; cases hb
  refine (SafeCallX.atN (Q := fun v' os tl F' => v' = v ∧ os = [some (trow 1 N.length root), some (arow N)] ∧ tl = [] ∧ Up F F') (HP := fun _ _ _ _ => False) [b, c] (hL := [some (trow 1 N.length root), some (arow N)]) (argsL := .ptr false 0 0 0 :: zs) rfl (by simp [ne]) (fun e he => by
      simp only [List.mem_cons, List.not_mem_nil, or_false] at he
      rcases he with rfl | rfl
      · exact live_lt hb
      · exact live_lt hc) (fun e q he => by
      match e with
      | 0 => cases he; exact ⟨b, _, rfl, hb, trow_v rfl (by simp)⟩
      | 1 => cases he; exact ⟨c, _, rfl, hc, (arow_g N).vw _ _⟩
      | e + 2 => simp [Rows.live] at he) (VwL.cons (Vw.ptrI (by simp) rfl) (gndL_vw _ _ _ ha)) (hs.mono ?_ ?_)).mono ?_ ?_
  · rintro v h' F' _ ⟨rfl, rfl, hu⟩
    exact ⟨[some (trow 1 N.length root), some (arow N)], [], rfl, rfl, rfl, rfl, rfl, hu⟩
  · rintro v h' F' _ h; exact h.elim
  · rintro v' h' F' _ ⟨v0, os, tl, rfl, rfl, rfl, rfl, rfl, hu⟩
    rw [hv]
    show k _ ((h.set b (some (trow c N.length root))).set c (some (arow N)) ++ [none, none]) F'
    rw [live_set_self hb, live_set_self hc]
    exact hk F' hu
  · rintro v h' F' _ ⟨v0, os, tl, _, _, h⟩; exact h.elim
theorem rows2_v {N : List NE} {root : Int} : ∀ c r, Rows.live [some (trow 1 N.length root), some (arow N)] c = some r → RowV some 2 r r := by
  intro c r h
  match c with
  | 0 => cases h; exact trow_v rfl (by simp)
  | 1 => cases h; exact (arow_g N).vw _ _
  | c + 2 => simp [Rows.live] at h
theorem fit2 {R : Nat → RoRow} {T TM : List AV} {N : List NE} {root : Int} {tl : Rows} {F : Fz} {S : St → Fz → Prop} (hT : VwL some 2 T TM) (hS : S ⟨T, [some (trow 1 N.length root), some (arow N)]⟩ F) : ToX R [] 2 ⟨TM, [some (trow 1 N.length root), some (arow N)] ++ tl⟩ F S :=
  ToX.fit (stE := ⟨T, [some (trow 1 N.length root), some (arow N)]⟩) (Fit.pre (L := [some (trow 1 N.length root), some (arow N)]) rows2_v hT) (ToX.here hS)
theorem spec16k_ok {R : Nat → RoRow} (hR : Free6 R) {ts : List Tr} {is : List Nat} {N : List NE} (hs : ∀ t ∈ ts, SizeN t) (hT : TrNs N ts is) (HP : HPt) : ∀ args h k F, spec16k ts is N args h k F → SafeCallX Try.prog (R6 R is) 16 args h F k HP := by
  intro args h k F hk
  unfold spec16k at hk
  split at hk
  · obtain ⟨j, root, hj, rfl, hN, hb, hc, hk⟩ := hk
    have hm : ts.getD j tD ∈ ts := by rw [List.getD_eq_getElem?_getD, List.getElem?_eq_getElem hj]; exact List.getElem_mem hj
    refine atTree (zs := [.int .i64 (is.getD j 0 : Nat)]) rfl (fun g => rfl) hb hc ?_ hk
    refine SafeCallX.unread (k := 6) (R := R) (Q := fun v h' F' => v = .int .i64 (size (ts.getD j tD) : Nat) ∧ h' = [some (trow 1 N.length root), some (arow N)] ∧ Up F F') (HP := fun _ _ _ => False) (by decide) hR.n hR.q (by kernel_rfl) (by kernel_rfl) (hs _ hm R hR _ root N F _ _ hN (hT.at ts is j hj) fun F' hu => ⟨rfl, rfl, hu⟩) ?_ ?_
    · rintro v h' F' _ ⟨rfl, rfl, hu⟩; exact ⟨rfl, by kernel_rfl, rfl, rfl, hu⟩
    · rintro v h' F' _ h; exact h.elim
  · exact hk.elim
theorem env16_ok {R : Nat → RoRow} (hR : Free6 R) {ts : List Tr} {is : List Nat} {N : List NE} (hs : ∀ t ∈ ts, SizeN t) (hT : TrNs N ts is) (HP : HPt) : OKX Try.prog (env16 R ts is N) [] HP :=
  (bx_ok _ [] HP).addCall (f := 16) (fi := fi16) (by kernel_rfl) (spec16k_ok hR hs hT HP)
theorem tm16_spr (i acc j : Nat) : tm16 i acc j = spr [(0, .ptr false 0 0 0), (1, .int .i64 (i : Nat)), (5, .int .i64 (acc : Nat)), (6, .int .i64 (j : Nat))] 0 36 := by kernel_rfl
theorem tm16t_spr (i acc j n x : Nat) : tm16t i acc j n x = spr [(0, .ptr false 0 0 0), (1, .int .i64 (i : Nat)), (6, .int .i64 (j : Nat)), (20, .int .i64 (acc : Nat)), (21, .ptr false 0 0 0), (29, .sl true (x + 15) 0 n .no)] 0 36 := by kernel_rfl
theorem blk16 : blkOf fi16 1 = .region (ridR (blkOf fi16 1)) ops16 false := by kernel_rfl
theorem getN {N : List NE} {i : Nat} {e : NE} (he : N[i]? = some e) : N.getD (0 + ((i : Nat) : Int).toNat) dN = e := by
  rw [show 0 + ((i : Nat) : Int).toNat = i by simp, List.getD_eq_getElem?_getD, he]; rfl
theorem kid16 {R : Nat → RoRow} (hR : Free6 R) {ts : List Tr} {e : NE} {N : List NE} {i j acc : Nat} (hs : ∀ t ∈ ts, SizeN t) (he : N[i]? = some e) (hT : TrNs N ts e.kids) (HP : HPt) :
    ∀ st k F, lpB16 ts i j acc N st k F → SafeX Try.prog R [] (.block 1 (blkOf fi16 1)) st F k HP := by
  rintro ⟨TM, rows⟩ k F ⟨hj, hz, h0, h1, h2, h3, h4, root, hr, hN, hk⟩
  simp only at h0 h1 h2 h3 h4 hr
  subst hr
  have hlt : i < N.length := (List.getElem?_eq_some_iff.1 he).1
  have hlen : ts.length = e.kids.length := hT.len
  have hfr := hN.is e (List.mem_of_getElem? he)
  have s1 : SafeO Try.prog (R6 R e.kids) [] ops16 (ops16.toList.drop 10) (fam16s i acc j e.kids.length root N) F (fun x st' F' => x = .normal ∧ st' = fam16 i (acc + size (ts.getD j tD)) j root N ∧ Up F F') (fun _ _ _ => False) := by
    refine SafeO.post (SafeO.run (k := fun st' F' => ∃ TM', st' = ⟨TM', [some (trow 1 N.length root), some (arow N)] ++ [none, none]⟩ ∧ VwL some 2 (tm16 i (acc + size (ts.getD j tD)) j) TM' ∧ Up F F') (env16_ok hR hs hT _) (Eq.mpr (vs16 R ts e.kids root N i acc j e.kids.length _ F) ?_)) ?_
    · refine hcT (by rw [decide_eq_true (show ((j : Nat) : Int) < (e.kids.length : Int) by omega)]; rfl) (hcT (decide_eq_true (show 0 + ((j : Nat) : Int).toNat < e.kids.length by simp; omega)) ⟨j, root, hj, by simp, hN, rfl, rfl, fun F' hu => ?_⟩)
      rw [wrapI64 _ (by omega) (by omega)]
      exact ⟨_, rfl, by have e2 : (acc : Int) + (size (ts.getD j tD) : Int) = ((acc + size (ts.getD j tD) : Nat) : Int) := by omega
                        rw [e2]; (repeat' (first | with_reducible exact VwL.nil | with_reducible refine VwL.cons ?_ ?_ | with_reducible exact Vw.anyI | with_reducible exact Vw.strI | with_reducible exact Vw.boolI | with_reducible exact Vw.intI | with_reducible exact Vw.nilsI | exact Vw.ptrI (by simp) rfl | exact Vw.slI (by simp) rfl | with_reducible refine Vw.aggI ?_ | exact Vw.gndI rfl)), hu⟩
    · rintro x st' F' _ ⟨rfl, TM', rfl, hv, hu⟩
      exact fit2 hv ⟨rfl, rfl, hu⟩
  have s2 := SafeO.swap (R := R) (k := 6) (x := e.x) (by decide) hfr hR.n hR.q s1 (Q1 := fun x st' F' => x = .normal ∧ st' = fam16 i (acc + size (ts.getD j tD)) j root N ∧ Up F F') (HP1 := HP) (by rintro x st' F' _ ⟨rfl, rfl, hu⟩; exact ⟨by kernel_rfl, rfl, rfl, hu⟩) (fun v h' F' _ h => h.elim)
  have e0 : nmSt 6 e.x (fam16s i acc j e.kids.length root N) = ⟨tm16t i acc j e.kids.length e.x, [some (trow 1 N.length root), some (arow N)]⟩ := by kernel_rfl
  rw [e0] at s2
  have s3 : SafeO Try.prog R [] ops16 (ops16.toList.take 10 ++ ops16.toList.drop 10) (fam16 i acc j root N) F (fun x st' F' => x = .normal ∧ st' = fam16 i (acc + size (ts.getD j tD)) j root N ∧ Up F F') HP := by
    refine SafeO.pre (K := fun st1 F1 => F1 = F ∧ st1.tmps.length = 36 ∧ nthV st1.tmps 0 = .ptr false 0 0 0 ∧ nthV st1.tmps 1 = .int .i64 (i : Nat) ∧ nthV st1.tmps 6 = .int .i64 (j : Nat) ∧ nthV st1.tmps 20 = .int .i64 (acc : Nat) ∧ nthV st1.tmps 21 = .ptr false 0 0 0 ∧ nthV st1.tmps 29 = .sl true (e.x + 15) 0 e.kids.length .no ∧ st1.rows = [some (trow 1 N.length root), some (arow N)]) (bx_ok R [] HP) ?_ ?_
    · refine Eq.mpr (vp16 R ts e.kids root N i acc j (fun n a b c d f g rows F1 => F1 = F ∧ n = 36 ∧ a = .ptr false 0 0 0 ∧ b = .int .i64 (i : Nat) ∧ c = .int .i64 (j : Nat) ∧ d = .int .i64 (acc : Nat) ∧ f = .ptr false 0 0 0 ∧ g = .sl true (e.x + 15) 0 e.kids.length .no ∧ rows = [some (trow 1 N.length root), some (arow N)]) F) ?_
      refine hcT (by rw [decide_eq_true (show ((i : Nat) : Int) < (N.length : Int) by omega)]; rfl) (hcT (decide_eq_true (by simpa using hlt)) ⟨rfl, rfl, rfl, rfl, rfl, rfl, rfl, ?_, rfl⟩)
      rw [getN he]
    · rintro ⟨TM1, rows1⟩ F1 ⟨rfl, g1, g2, g3, g4, g5, g6, g7, g8⟩
      simp only at g1 g2 g3 g4 g5 g6 g7 g8
      subst g8
      refine SafeO.to (fit2 (tl := []) (T := tm16t i acc j e.kids.length e.x) ?_ s2)
      rw [tm16t_spr]
      exact VwL.ofKnown g1 ⟨by rw [g2]; exact Vw.ptrI (by simp) rfl, by rw [g3]; exact Vw.intI, by rw [g4]; exact Vw.intI, by rw [g5]; exact Vw.intI, by rw [g6]; exact Vw.ptrI (by simp) rfl, by rw [g7]; exact Vw.gndI rfl, trivial⟩
  rw [List.take_append_drop] at s3
  have s4 : SafeX Try.prog R [] (blkOf fi16 1) (fam16 i acc j root N) F (fun x st' F' => x = .normal ∧ st' = fam16 i (acc + size (ts.getD j tD)) j root N ∧ Up F F') HP := blk16 ▸ SafeX.ofO s3
  refine SafeX.pre (fit2 (tl := []) (T := tm16 i acc j) ?_ (SafeX.blockN (s4.mono ?_ fun _ _ _ h => h)))
  · rw [tm16_spr]
    exact VwL.ofKnown h0 ⟨by rw [h1]; exact Vw.ptrI (by simp) rfl, by rw [h2]; exact Vw.intI, by rw [h3]; exact Vw.intI, by rw [h4]; exact Vw.intI, trivial⟩
  · rintro x st' F' ⟨rfl, rfl, hu⟩
    exact ⟨rfl, hk F' hu⟩
end Go.Dc.Ke
end
section
set_option linter.unusedVariables false
set_option linter.unusedSimpArgs false
namespace Go.Dc.Ke
open Go.Proofs Go.RowKit Go.Shelf
set_option maxRecDepth 100000
noncomputable abbrev tm15 (acc : Int) (n : Nat) (i : Int) : List AV := [.any, .any, .any, .int .i64 acc, .any, .any, .any, .sl true 5 0 n .no, .int .i64 (n : Nat), .int .i64 i, .any, .any, .any, .any, .any, .any, .any, .any, .any]
noncomputable abbrev fam15 (k : Int) (w : List UInt8) (n : Nat) (acc i : Nat) : St := ⟨tm15 (acc : Nat) n (i : Nat), [some (e5row k w n)]⟩
/-- The kids' sizes. -/
def spec15k (l : List (Tr × Nat)) : CallSpecX := fun args h k => match args with
  | [a] => fun F => TAts F l ∧ ∃ i : Nat, i < l.length ∧ a = exprV (l.getD i dT).1 (l.getD i dT).2 ∧ ∀ F', Up F F' → k (.int .i64 (size (l.getD i dT).1 : Nat)) h F'
  | _ => botX
noncomputable abbrev env15 (R : Nat → RoRow) (l : List (Tr × Nat)) : EnvX := (bx (updR R 5 (kidR l))).addCall 15 (spec15k l)
def lp15 (kk : Int) (w : List UInt8) (l : List (Tr × Nat)) : LoopSpX := fun st k F =>
  st.tmps.length = 19 ∧ nthV st.tmps 3 = .int .i64 1 ∧ nthV st.tmps 7 = .sl true 5 0 l.length .no ∧ nthV st.tmps 8 = .int .i64 (l.length : Nat) ∧ nthV st.tmps 9 = .int .i64 0 ∧
  st.rows = [some (e5row kk w l.length)] ∧ TAts F l ∧ ∀ F', Up F F' → k .normal (fam15 kk w l.length (1 + sizes (l.map Prod.fst)) l.length) F'
theorem vr15 (R : Nat → RoRow) (kk : Int) (w : List UInt8) (l : List (Tr × Nat)) (acc i : Nat) (k : Exit → St → Fz → Prop) (F : Fz) : rnx (env15 R l) 1000 15 (loopOf fi15 0) (fam15 kk w l.length acc i) k F = (bif decide ((↑i : Int) < (↑l.length : Int)) then bif true && decide ((↑i : Int) < (↑l.length : Int)) then bif decide (0 + (↑i : Int).toNat < ((env15 R l).R 5).n) then TAts F l ∧ ∃ (i_1 : Nat), i_1.succ.le l.length ∧ AV.agg [AV.int IntKind.i64 (↑(l.getD (0 + (↑i : Int).toNat) dT).fst.kind : Int), AV.str (l.getD (0 + (↑i : Int).toNat) dT).fst.word, AV.sl true ((l.getD (0 + (↑i : Int).toNat) dT).snd + 15) 0 (l.getD (0 + (↑i : Int).toNat) dT).fst.kids.length Cp.no] = AV.agg [AV.int IntKind.i64 (↑(l.getD i_1 dT).fst.kind : Int), AV.str (l.getD i_1 dT).fst.word, AV.sl true ((l.getD i_1 dT).snd + 15) 0 (l.getD i_1 dT).fst.kids.length Cp.no] ∧ ∀ (F' : Fz), Up F F' → k Exit.normal (St.mk [AV.any, AV.any, AV.any, AV.int IntKind.i64 (IntKind.i64.wrap ((↑acc : Int) + (↑(size (l.getD i_1 dT).fst) : Int))), AV.any, AV.ptr false 1 0 0, AV.any, AV.sl true 5 0 l.length Cp.no, AV.int IntKind.i64 (↑l.length : Int), AV.int IntKind.i64 (IntKind.i64.wrap ((↑i : Int) + 1)), AV.bool true, AV.ptr true 5 (0 + (↑i : Int).toNat) 0, AV.agg [AV.int IntKind.i64 (↑(l.getD (0 + (↑i : Int).toNat) dT).fst.kind : Int), AV.str (l.getD (0 + (↑i : Int).toNat) dT).fst.word, AV.sl true ((l.getD (0 + (↑i : Int).toNat) dT).snd + 15) 0 (l.getD (0 + (↑i : Int).toNat) dT).fst.kids.length Cp.no], AV.int IntKind.i64 (↑acc : Int), AV.agg [AV.int IntKind.i64 (↑(l.getD (0 + (↑i : Int).toNat) dT).fst.kind : Int), AV.str (l.getD (0 + (↑i : Int).toNat) dT).fst.word, AV.sl true ((l.getD (0 + (↑i : Int).toNat) dT).snd + 15) 0 (l.getD (0 + (↑i : Int).toNat) dT).fst.kids.length Cp.no], AV.int IntKind.i64 (↑(size (l.getD i_1 dT).fst) : Int), AV.int IntKind.i64 (IntKind.i64.wrap ((↑acc : Int) + (↑(size (l.getD i_1 dT).fst) : Int))), AV.int IntKind.i64 (IntKind.i64.wrap ((↑i : Int) + 1)), AV.any] [some (Row.lst 25 3 [AV.agg [AV.int IntKind.i64 kk, AV.str w, AV.sl true 5 0 l.length Cp.no]]), some (Row.lst 25 3 [AV.agg [AV.int IntKind.i64 (↑(l.getD (0 + (↑i : Int).toNat) dT).fst.kind : Int), AV.str (l.getD (0 + (↑i : Int).toNat) dT).fst.word, AV.sl true ((l.getD (0 + (↑i : Int).toNat) dT).snd + 15) 0 (l.getD (0 + (↑i : Int).toNat) dT).fst.kids.length Cp.no]])]) F' else False else False else k (Exit.exit 0) (St.mk [AV.any, AV.any, AV.any, AV.int IntKind.i64 (↑acc : Int), AV.any, AV.any, AV.any, AV.sl true 5 0 l.length Cp.no, AV.int IntKind.i64 (↑l.length : Int), AV.int IntKind.i64 (↑i : Int), AV.bool false, AV.any, AV.any, AV.any, AV.any, AV.any, AV.any, AV.any, AV.any] [some (Row.lst 25 3 [AV.agg [AV.int IntKind.i64 kk, AV.str w, AV.sl true 5 0 l.length Cp.no]])]) F) := by kernel_rfl
theorem vc15 (R : Nat → RoRow) (kk : Int) (w : List UInt8) (l : List (Tr × Nat)) (k : AV → Rows → Fz → Prop) (F : Fz) : vcx ((env15 R l).addLoop 15 0 (lp15 kk w l)) 1000 15 fi15 [.agg [.int .i64 kk, .str w, .sl true 5 0 l.length .no]] [] k F = (19 = 19 ∧ AV.int IntKind.i64 1 = AV.int IntKind.i64 1 ∧ AV.sl true 5 0 l.length Cp.no = AV.sl true 5 0 l.length Cp.no ∧ AV.int IntKind.i64 (↑l.length : Int) = AV.int IntKind.i64 (↑l.length : Int) ∧ AV.int IntKind.i64 0 = AV.int IntKind.i64 0 ∧ [some (Row.lst 25 3 [AV.agg [AV.int IntKind.i64 kk, AV.str w, AV.sl true 5 0 l.length Cp.no]])] = [some (Row.lst 25 3 [AV.agg [AV.int IntKind.i64 kk, AV.str w, AV.sl true 5 0 l.length Cp.no]])] ∧ TAts F l ∧ ∀ (F' : Fz), Up F F' → k (AV.int IntKind.i64 (↑(1 + sizes (List.map Prod.fst l)) : Int)) [some (Row.lst 25 3 [AV.agg [AV.int IntKind.i64 kk, AV.str w, AV.sl true 5 0 l.length Cp.no]])] F') := by kernel_rfl
/-! ### Size -/
def SizeOK (t : Tr) : Prop := ∀ (R : Nat → RoRow), Free R → ∀ (x : Nat) (F : Fz) (k HP : AV → Rows → Fz → Prop), IsT F t x → (∀ F', Up F F' → k (.int .i64 (size t : Nat)) [] F') → SafeCallX Try.prog R 15 [exprV t x] [] F k HP
theorem size_at {t : Tr} (hs : SizeOK t) {R : Nat → RoRow} (hR : Free R) {x : Nat} {F : Fz} (hx : IsT F t x) (h : Rows) (k HP : AV → Rows → Fz → Prop) (hk : ∀ F', Up F F' → k (.int .i64 (size t : Nat)) h F') : SafeCallX Try.prog R 15 [exprV t x] h F k HP := by
  refine (SafeCallX.at0 (Q := fun v F' => v = .int .i64 (size t : Nat) ∧ Up F F') (HP := fun _ _ => False) rfl (hs R hR x F _ _ hx fun F' hu => ⟨rfl, rfl, hu⟩)).mono ?_ ?_
  · rintro v h' F' _ ⟨rfl, rfl, hu⟩; exact hk F' hu
  · rintro v h' F' _ ⟨_, h⟩; exact h.elim
theorem size_un {t : Tr} (hs : SizeOK t) {R : Nat → RoRow} (hR : Free R) {ro : RoRow} {x : Nat} {F : Fz} (hx : IsT F t x) (h : Rows) (k HP : AV → Rows → Fz → Prop) (hk : ∀ F', Up F F' → k (.int .i64 (size t : Nat)) h F') : SafeCallX Try.prog (updR R 5 ro) 15 [exprV t x] h F k HP := by
  have h0 : SafeCallX Try.prog (updR R 5 ro) 15 [exprV t x] [] F (fun v h' F' => gnd v = true ∧ (v = .int .i64 (size t : Nat) ∧ Up F F')) (fun v h' F' => gnd v = true ∧ False) := by
    refine SafeCallX.unread (Q := fun v h' F' => v = .int .i64 (size t : Nat) ∧ h' = [] ∧ Up F F') (HP := fun _ _ _ => False) (by decide) hR.n hR.q nm_expr rfl (hs R hR x F _ _ hx fun F' hu => ⟨rfl, rfl, hu⟩) ?_ ?_
    · rintro v h' F' _ ⟨rfl, rfl, hu⟩; exact ⟨rfl, rfl, rfl, rfl, hu⟩
    · rintro v h' F' _ h; exact h.elim
  refine (SafeCallX.at0 rfl h0).mono ?_ ?_
  · rintro v h' F' _ ⟨rfl, rfl, hu⟩; exact hk F' hu
  · rintro v h' F' _ ⟨_, h⟩; exact h.elim
theorem spec15k_ok {R : Nat → RoRow} (hR : Free R) (ro : RoRow) (l : List (Tr × Nat)) (hs : ∀ p ∈ l, SizeOK p.1) (HP : HPt) : ∀ args h k F, spec15k l args h k F → SafeCallX Try.prog (updR R 5 ro) 15 args h F k HP := by
  intro args h k F hk
  unfold spec15k at hk
  split at hk
  · obtain ⟨hts, i, hi, rfl, hk⟩ := hk
    have hm := getD_mem hi
    exact size_un (hs _ hm) hR (hts.is _ hm) h k HP hk
  · exact hk.elim
theorem env15_ok {R : Nat → RoRow} (hR : Free R) (l : List (Tr × Nat)) (hs : ∀ p ∈ l, SizeOK p.1) (HP : HPt) : OKX Try.prog (env15 R l) [] HP :=
  (bx_ok _ [] HP).addCall (f := 15) (fi := fi15) (by kernel_rfl) (spec15k_ok hR (kidR l) l hs HP)
theorem tm15_spr (acc : Int) (n : Nat) (i : Int) : tm15 acc n i = spr [(3, .int .i64 acc), (7, .sl true 5 0 n .no), (8, .int .i64 (n : Nat)), (9, .int .i64 i)] 0 19 := by kernel_rfl
theorem loop15 {R : Nat → RoRow} (hR : Free R) (kk : Int) (w : List UInt8) (l : List (Tr × Nat)) (hl : sizes (l.map Prod.fst) ≤ 100000) (hs : ∀ p ∈ l, SizeOK p.1) (HP : HPt) :
    ∀ st k F, lp15 kk w l st k F → SafeX Try.prog (updR R 5 (kidR l)) [] (.block 0 (.loop (loopOf fi15 0))) st F k HP := by
  rintro ⟨TM, rows⟩ k F ⟨h0, h1, h2, h3, h4, h5, hts, hk⟩
  simp only at h0 h1 h2 h3 h4 h5
  subst h5
  have hn : l.length ≤ 100000 := by have := sizes_len (l.map Prod.fst); rw [List.length_map] at this; omega
  let A : Nat → Nat := fun i => 1 + sizes ((l.map Prod.fst).take i)
  have hA : ∀ i, i < l.length → A (i + 1) = A i + size (l.getD i dT).1 := fun i hi => by
    have hi' : i < (l.map Prod.fst).length := by rw [List.length_map]; exact hi
    simp only [A]
    rw [List.take_add_one, List.getElem?_eq_getElem hi']
    show 1 + sizes (_ ++ [_]) = _
    rw [sizes_app, List.getElem_map, List.getD_eq_getElem?_getD, List.getElem?_eq_getElem hi]
    show 1 + (_ + size l[i].fst) = _ + size l[i].fst
    omega
  have hAe : A l.length = 1 + sizes (l.map Prod.fst) := by
    simp only [A]; rw [List.take_of_length_le (by simp)]
  have hAb : ∀ d i, i + d = l.length → A i ≤ A l.length := by
    intro d
    induction d with
    | zero => intro i h; have : i = l.length := by omega
              subst this; exact Nat.le_refl _
    | succ d ih => intro i h; have := ih (i + 1) (by omega); rw [hA i (by omega)] at this; omega
  refine SafeX.loop_block (Inv := fun n st F' => Up F F' ∧ ∃ i, i ≤ l.length ∧ n = l.length - i ∧ st = fam15 kk w l.length (A i) i) ?_ ?_
  · refine ToX.fit (stE := fam15 kk w l.length (A 0) 0) (Fit.row1 (e5row_g _ _ _) ?_) (ToX.here ⟨_, Up.refl F, 0, Nat.zero_le _, rfl, rfl⟩)
    show VwL some 1 (tm15 1 l.length 0) TM
    rw [tm15_spr]
    exact VwL.ofKnown h0 ⟨by rw [h1]; exact Vw.intI, by rw [h2]; exact Vw.gndI rfl, by rw [h3]; exact Vw.intI, by rw [h4]; exact Vw.intI, trivial⟩
  · rintro n st' F' ⟨hu, i, hi, rfl, rfl⟩
    refine SafeX.by mixed (env15_ok hR l hs HP) (f := 15) (fi := fi15) (i := 0) (by kernel_rfl) (b := .loop (loopOf fi15 0)) (by kernel_rfl) (subs_loop _) 1000 (vr15 R kk w l (A i) i _ F') ?_
    have hi2 : (0 + ((i : Nat) : Int).toNat) = i := by simp
    refine hcB (fun h => hcT h (hcT ?_ ?_)) fun h => ?_
    · have hlt : i < l.length := by have := of_decide_eq_true h; omega
      rw [hi2]
      exact decide_eq_true hlt
    · have hlt : i < l.length := by have := of_decide_eq_true h; omega
      refine ⟨hts.le hu, i, hlt, by rw [hi2], fun F2 hu2 => ?_⟩
      have b := hAb (l.length - (i + 1)) (i + 1) (by omega)
      have e := hA i hlt
      have e2 : ((A i : Nat) : Int) + ((size (l.getD i dT).1 : Nat) : Int) = ((A (i + 1) : Nat) : Int) := by rw [e]; omega
      rw [e2, wrapI64 _ (by omega) (by omega), wrapSucc i (by omega)]
      refine ToX.fit (stE := fam15 kk w l.length (A (i + 1)) (i + 1)) (Fit.row1 (e5row_g _ _ _) ?_) (ToX.here ⟨l.length - (i + 1), by omega, hu.trans hu2, i + 1, hlt, rfl, rfl⟩)
      show VwL some 1 (tm15 ((A (i + 1) : Nat) : Int) l.length ((i + 1 : Nat) : Int)) _
      (repeat' (first | with_reducible exact VwL.nil | with_reducible refine VwL.cons ?_ ?_ | with_reducible exact Vw.anyI | with_reducible exact Vw.strI | with_reducible exact Vw.boolI | with_reducible exact Vw.intI | with_reducible exact Vw.nilsI | exact Vw.ptrI (by simp) rfl | exact Vw.slI (by simp) rfl | with_reducible refine Vw.aggI ?_ | exact Vw.gndI rfl))
    · have hge : i = l.length := by have := of_decide_eq_false h; omega
      subst hge
      refine ToX.fit (stE := fam15 kk w l.length (A l.length) l.length) (Fit.row1 (e5row_g _ _ _) (by (repeat' (first | with_reducible exact VwL.nil | with_reducible refine VwL.cons ?_ ?_ | with_reducible exact Vw.anyI | with_reducible exact Vw.strI | with_reducible exact Vw.boolI | with_reducible exact Vw.intI | with_reducible exact Vw.nilsI | exact Vw.ptrI (by simp) rfl | exact Vw.slI (by simp) rfl | with_reducible refine Vw.aggI ?_ | exact Vw.gndI rfl)))) (ToX.here ?_)
      rw [hAe]
      exact hk F' hu
theorem size_step (kd : Nat) (w : List UInt8) (kids : List Tr) (hl : sizes kids ≤ 100000) (hs : ∀ u ∈ kids, SizeOK u) : SizeOK (.mk kd w kids) := by
  intro R hR x F k HP hx hk
  obtain ⟨l, hl', hfr, hts⟩ := hx.kids
  have hlen : kids.length = l.length := by rw [← hl', List.length_map]
  have hm : ∀ p ∈ l, SizeOK p.1 := fun p hp => hs p.1 (by rw [← hl']; exact List.mem_map_of_mem hp)
  have inner : SafeCallX Try.prog (updR R 5 (kidR l)) 15 [.agg [.int .i64 ((kd : Nat) : Int), .str w, .sl true 5 0 l.length .no]] [] F (fun v h F' => v = .int .i64 (size (.mk kd w kids) : Nat) ∧ h = [] ∧ Up F F') (fun _ _ _ => False) := by
    refine SafeCallX.post (Q := fun v h F' => v = .int .i64 (size (.mk kd w kids) : Nat) ∧ Up F F') (HP := fun _ _ _ => False) ?_ ?_ ?_
    · refine SafeCallX.by mixed ((env15_ok hR l hm _).addLoop (f := 15) (fi := fi15) (by kernel_rfl) (i := 0) (body := .loop (loopOf fi15 0)) (by kernel_rfl) (loop15 hR _ w l (by rw [hl']; exact hl) hm _)) (f := 15) (fi := fi15) (by kernel_rfl) 1000 (vc15 R _ w l _ F) ⟨rfl, rfl, rfl, rfl, rfl, rfl, hts, fun F' hu => ⟨?_, hu⟩⟩
      rw [hl']; rfl
    · rintro v h' F' _ ⟨rfl, hu⟩; exact nil_fit rfl ⟨rfl, rfl, hu⟩
    · rintro v h' F' _ h; exact h.elim
  have := SafeCallX.swap (by decide) hfr hR.n hR.q inner (Q1 := k) (HP1 := HP) (by rintro v h' F' _ ⟨rfl, rfl, hu⟩; exact ⟨rfl, rfl, hk F' hu⟩) (fun v h' F' _ h => h.elim)
  have e : nmL 5 x [.agg [.int .i64 ((kd : Nat) : Int), .str w, .sl true 5 0 l.length .no]] = [exprV (.mk kd w kids) x] := by
    show [AV.agg [.int .i64 ((kd : Nat) : Int), .str w, tok x l.length]] = _
    rw [← hlen]; rfl
  rw [e] at this
  exact this
mutual
theorem sizeOK : ∀ (t : Tr), size t ≤ 100000 → SizeOK t
  | .mk k w kids, h => size_step k w kids (by simp only [size] at h; omega) (sizeOKs kids (by simp only [size] at h; omega))
theorem sizeOKs : ∀ (ts : List Tr), sizes ts ≤ 100000 → ∀ u ∈ ts, SizeOK u
  | [], _, u, h => by cases h
  | t :: ts, hl, u, h => by
    simp only [sizes] at hl
    rcases List.mem_cons.1 h with e | h
    · rw [e]; exact sizeOK t (by omega)
    · exact sizeOKs ts (by omega) u h
end
def spec15 : CallSpecX := fun args h k => match args with
  | [a] => fun F => ∃ (t : Tr) (x : Nat), a = exprV t x ∧ TAt F t x ∧ size t ≤ 100000 ∧ ∀ F', Up F F' → k (.int .i64 (size t : Nat)) h F'
  | _ => botX
theorem spec15_ok {R : Nat → RoRow} (hR : Free R) (HP : HPt) : ∀ args h k F, spec15 args h k F → SafeCallX Try.prog R 15 args h F k HP := by
  intro args h k F hk
  unfold spec15 at hk
  split at hk
  · obtain ⟨t, x, rfl, hx, hn, hk⟩ := hk
    exact size_at (sizeOK t hn) hR hx.is h k HP hk
  · exact hk.elim
end Go.Dc.Ke
end
section
set_option linter.unusedVariables false
set_option linter.unusedSimpArgs false
namespace Go.Dc.Ke
open Go.Proofs Go.RowKit Go.Shelf
set_option maxRecDepth 100000
theorem acc16 (ts : List Tr) : ∀ j, j < ts.length → 1 + sizes (ts.take (j + 1)) = 1 + sizes (ts.take j) + size (ts.getD j tD) := fun j hj => by
  rw [List.take_add_one, List.getElem?_eq_getElem hj]
  show 1 + sizes (_ ++ [_]) = _
  rw [sizes_app, List.getD_eq_getElem?_getD, List.getElem?_eq_getElem hj]
  show 1 + (_ + size ts[j]) = _ + size ts[j]
  omega
theorem take_sz (ts : List Tr) : ∀ j, j ≤ ts.length → sizes (ts.take j) ≤ sizes ts := fun j hj => by
  have key : ∀ (l m : List Tr), sizes (l ++ m) = sizes l + sizes m := by
    intro l
    induction l with
    | nil => intro m; simp [sizes]
    | cons t l ih => intro m; simp only [List.cons_append, sizes, ih m]; omega
  have := key (ts.take j) (ts.drop j)
  rw [List.take_append_drop] at this
  omega
theorem loop16 {R : Nat → RoRow} (hR : Free6 R) {ts : List Tr} {e : NE} {N : List NE} {i : Nat} (hs : ∀ t ∈ ts, SizeN t) (he : N[i]? = some e) (hT : TrNs N ts e.kids) (hz : sizes ts ≤ 100000) (HP : HPt) :
    ∀ st k F, lp16 i e.kids.length (1 + sizes ts) N st k F → SafeX Try.prog R [] (.block 0 (.loop (loopOf fi16 0))) st F k HP := by
  rintro ⟨TM, rows⟩ k F ⟨h0, h1, h2, h3, h4, root, hr, hN, hk⟩
  simp only at h0 h1 h2 h3 h4 hr
  subst hr
  have hlt : i < N.length := (List.getElem?_eq_some_iff.1 he).1
  have hlen : ts.length = e.kids.length := hT.len
  have htl := sizes_len ts
  refine SafeX.loop_block (Inv := fun m st F' => Up F F' ∧ ∃ j, j ≤ ts.length ∧ m = ts.length - j ∧ st = fam16 i (1 + sizes (ts.take j)) j root N) ?_ ?_
  · refine fit2 (tl := []) (T := tm16 i 1 0) ?_ ⟨_, Up.refl F, 0, Nat.zero_le _, rfl, rfl⟩
    rw [tm16_spr]
    exact VwL.ofKnown h0 ⟨by rw [h1]; exact Vw.ptrI (by simp) rfl, by rw [h2]; exact Vw.intI, by rw [h3]; exact Vw.intI, by rw [h4]; exact Vw.intI, trivial⟩
  · rintro m st' F' ⟨hu, j, hj, rfl, rfl⟩
    have hb1 := take_sz ts j hj
    refine SafeX.by mixed ((bx_ok R [] HP).addLoop (f := 16) (fi := fi16) (by kernel_rfl) (i := 1) (body := blkOf fi16 1) (by kernel_rfl) (kid16 hR (i := i) (j := j) (acc := 1 + sizes (ts.take j)) hs he hT HP)) (f := 16) (fi := fi16) (i := 0) (by kernel_rfl) (b := .loop (loopOf fi16 0)) (by kernel_rfl) (subs_loop _) 1000 (vr16 R ts e.kids root N i _ j _ F') ?_
    refine hcT (by rw [decide_eq_true (show ((i : Nat) : Int) < (N.length : Int) by omega)]; rfl) (hcT (decide_eq_true (by simpa using hlt)) (hcB (fun h => ?_) fun h => ?_))
    · rw [getN he] at h
      have hl : j < ts.length := by have := of_decide_eq_true h; omega
      have ha := acc16 ts j hl
      have hb2 := take_sz ts (j + 1) hl
      refine ⟨hl, show _ ≤ 200000 by omega, rfl, rfl, rfl, rfl, rfl, root, rfl, hN.le hu, fun F2 hu2 => ?_⟩
      rw [wrapSucc j (by omega), ← ha]
      exact fit2 (tl := []) (T := tm16 i (1 + sizes (ts.take (j + 1))) (j + 1)) (by (repeat' (first | with_reducible exact VwL.nil | with_reducible refine VwL.cons ?_ ?_ | with_reducible exact Vw.anyI | with_reducible exact Vw.strI | with_reducible exact Vw.boolI | with_reducible exact Vw.intI | with_reducible exact Vw.nilsI | exact Vw.ptrI (by simp) rfl | exact Vw.slI (by simp) rfl | with_reducible refine Vw.aggI ?_ | exact Vw.gndI rfl))) ⟨ts.length - (j + 1), by omega, hu.trans hu2, j + 1, hl, rfl, rfl⟩
    · rw [getN he] at h
      have hj' : j = ts.length := by have := of_decide_eq_false h; omega
      subst hj'
      rw [List.take_length]
      refine fit2 (tl := []) (T := tm16 i (1 + sizes ts) e.kids.length) (by rw [← hlen]; (repeat' (first | with_reducible exact VwL.nil | with_reducible refine VwL.cons ?_ ?_ | with_reducible exact Vw.anyI | with_reducible exact Vw.strI | with_reducible exact Vw.boolI | with_reducible exact Vw.intI | with_reducible exact Vw.nilsI | exact Vw.ptrI (by simp) rfl | exact Vw.slI (by simp) rfl | with_reducible refine Vw.aggI ?_ | exact Vw.gndI rfl))) (hk F' hu)
theorem size_stepN (kd : Nat) (w : List UInt8) (ts : List Tr) (hz : sizes ts ≤ 100000) (hs : ∀ t ∈ ts, SizeN t) : SizeN (.mk kd w ts) := by
  intro R hR i root N F k HP hN ht hk
  simp only [TrN] at ht
  obtain ⟨e, he, hkd, hw, hT⟩ := ht
  refine SafeCallX.by mixed ((bx_ok R [] HP).addLoop (f := 16) (fi := fi16) (by kernel_rfl) (i := 0) (body := .loop (loopOf fi16 0)) (by kernel_rfl) (loop16 hR hs he hT hz HP)) (f := 16) (fi := fi16) (by kernel_rfl) 1000 (vc16 R ts e.kids root N i e.kids.length (1 + sizes ts) k F) ?_
  exact ⟨rfl, rfl, rfl, rfl, rfl, root, rfl, hN, fun F' hu => by have := hk F' hu; simpa only [size] using this⟩
mutual
theorem sizeN : ∀ (t : Tr), size t ≤ 100000 → SizeN t
  | .mk k w ts, h => size_stepN k w ts (by simp only [size] at h; omega) (sizeNs ts (by simp only [size] at h; omega))
theorem sizeNs : ∀ (ts : List Tr), sizes ts ≤ 100000 → ∀ u ∈ ts, SizeN u
  | [], _, u, h => by cases h
  | t :: ts, hl, u, h => by
    simp only [sizes] at hl
    rcases List.mem_cons.1 h with e | h
    · rw [e]; exact sizeN t (by omega)
    · exact sizeNs ts (by omega) u h
end
def spec16 : CallSpecX := fun args h k => match args with
  | [.ptr false b 0 0, .int .i64 i] => atT botX h b fun c n root => fun F => ∃ t N i0, n = N.length ∧ h.live c = some (arow N) ∧ i = (i0 : Nat) ∧ NF F N ∧ TrA N t i0 ∧ size t ≤ 100000 ∧ ∀ F', Up F F' → k (.int .i64 (size t : Nat)) (h ++ [none, none]) F'
  | _ => botX
theorem spec16_ok {R : Nat → RoRow} (hR : Free6 R) (HP : HPt) : ∀ args h k F, spec16 args h k F → SafeCallX Try.prog R 16 args h F k HP := by
  intro args h k F hk
  unfold spec16 at hk
  split at hk
  · obtain ⟨c, n, root, hb, t, N, i0, rfl, hc, rfl, hN, ht, hz, hk⟩ := atT_ofX hk
    exact atTree (zs := [.int .i64 (i0 : Nat)]) rfl (fun g => rfl) hb hc (sizeN t hz R hR i0 root N F _ _ hN ht.is fun F' hu => ⟨rfl, rfl, hu⟩) hk
  · exact hk.elim
end Go.Dc.Ke
end
section
set_option linter.unusedVariables false
set_option linter.unusedSimpArgs false
namespace Go.Dc.Ke
open Go.Proofs Go.RowKit Go.Shelf
set_option maxRecDepth 100000
/-- The text of the first so many kids. -/
def accJ (kd : Nat) (ts : List Tr) : Nat → List UInt8
  | 0 => []
  | j + 1 => (bif Nat.blt 0 j then accJ kd ts j ++ btw (kd : Int) else accJ kd ts j) ++ pce kd (ts.getD j tD)
def lp14 (kd : Int) (w : List UInt8) (n : Nat) (root : Int) (N : List NE) (r : List UInt8) : LoopSpX := fun st k F => st.tmps.length = 114 ∧ nthV st.tmps 0 = .ptr false 0 0 0 ∧ nthV st.tmps 7 = .ptr false 2 0 0 ∧ nthV st.tmps 8 = .str [] ∧ nthV st.tmps 9 = .int .i64 0 ∧
  st.rows = (fam14 [] 0 root N kd w n).rows ∧ NF F N ∧ ∀ F', Up F F' → k .normal (fam14 r n root N kd w n) F'
noncomputable abbrev tm14s : List AV := [.ptr false 0 0 0, .any, .any, .any, .any, .any, .any, .ptr false 2 0 0, .any, .any, .any, .any, .any, .any, .any, .any, .any, .any, .any, .any, .any, .any, .any, .any, .any, .any, .any, .any, .any, .any, .any, .any, .any, .any, .any, .any, .any, .any, .any, .any, .any, .any, .any, .any, .any, .any, .any, .any, .any, .any, .any, .any, .any, .any, .any, .any, .any, .any, .any, .any, .any, .any, .any, .any, .any, .any, .any, .any, .any, .any, .any, .any, .any, .any, .any, .any, .any, .any, .any, .any, .any, .any, .any, .any, .any, .any, .any, .any, .any, .any, .any, .any, .any, .any, .any, .any, .any, .any, .any, .any, .any, .any, .any, .any, .any, .any, .any, .any, .any, .any, .any, .any, .any, .any]
noncomputable abbrev st14 (root : Int) (N : List NE) (kd : Int) (w : List UInt8) (n : Nat) : St := ⟨tm14s, [some (trow 1 N.length root), some (arow N), some (.lst 62 3 [.agg [.int .i64 kd, .str w, .sl true 6 0 n .no]])]⟩
def spec14f (i : Nat) (root : Int) (N : List NE) (r : List UInt8) : CallSpecX := fun args h k => match args with
  | [.ptr false 0 0 0, .int .i64 i', .bool false] => fun F => i' = (i : Nat) ∧ h = [some (trow 1 N.length root), some (arow N)] ∧ NF F N ∧ ∀ F', Up F F' → k (.str r) [some (trow 1 N.length root), some (arow N)] F'
  | _ => botX
end Go.Dc.Ke
end
section
set_option linter.unusedVariables false
set_option linter.unusedSimpArgs false
namespace Go.Dc.Ke
open Go.Proofs Go.RowKit Go.Shelf
set_option maxRecDepth 100000
theorem vr14 (R : Nat → RoRow) (ts : List Tr) (is : List Nat) (root : Int) (N : List NE) (kd : Int) (w : List UInt8) (s : List UInt8) (j n : Nat) (q : Exit → Nat → AV → AV → AV → AV → Option Row → Option Row → Option Row → Nat → Fz → Prop) (F : Fz) : rnx (env14 R ts is N) 1000 14 (loopOf fi14 0) (fam14 s j root N kd w n) (fun e st => q e st.tmps.length (nthV st.tmps 0) (nthV st.tmps 7) (nthV st.tmps 8) (nthV st.tmps 9) (st.rows.live 0) (st.rows.live 1) (st.rows.live 2) st.rows.length) F = (bif decide ((↑j : Int) < (↑n : Int)) then bif true && decide ((↑j : Int) < (↑n : Int)) then bif decide (0 + (↑j : Int).toNat < ((env14 R ts is N).R 6).n) then bif true && decide ((↑(is.getD (0 + (↑j : Int).toNat) 0) : Int) < (↑N.length : Int)) then bif decide (0 + (↑(is.getD (0 + (↑j : Int).toNat) 0) : Int).toNat < N.length) then bif (N.getD (0 + (↑(is.getD (0 + (↑j : Int).toNat) 0) : Int).toNat) dN).kd == 5 then bif decide ((↑j : Int) > 0) then bif decide (s.length + (btw kd).length ≤ 9223372036854775807) then bif true && decide ((↑j : Int) < (↑n : Int)) then bif decide (0 + (↑j : Int).toNat < ((env14 R ts is N).R 6).n) then ∃ (j_1 : Nat), ∃ (root_1 : Int), j_1.succ.le ts.length ∧ (↑(is.getD (0 + (↑j : Int).toNat) 0) : Int) = (↑(is.getD j_1 0) : Int) ∧ NF F N ∧ some (Row.lst 35 2 [AV.agg [AV.sl false 1 0 N.length Cp.no, AV.int IntKind.i64 root]]) = some (Row.lst 35 2 [AV.agg [AV.sl false 1 0 N.length Cp.no, AV.int IntKind.i64 root_1]]) ∧ some (Row.gen 62 3 N.length fun (i : Nat) => neV (N.getD i dN)) = some (Row.gen 62 3 N.length fun (i : Nat) => neV (N.getD i dN)) ∧ ∀ (F' : Fz), Up F F' → bif decide ((s ++ btw kd).length + (40 :: (shw (ts.getD j_1 tD) ++ [41])).length ≤ 9223372036854775807) then q Exit.normal 114 (AV.ptr false 0 0 0) (AV.ptr false 2 0 0) (AV.str (s ++ btw kd ++ 40 :: (shw (ts.getD j_1 tD) ++ [41]))) (AV.int IntKind.i64 (IntKind.i64.wrap ((↑j : Int) + 1))) (some (Row.lst 35 2 [AV.agg [AV.sl false 1 0 N.length Cp.no, AV.int IntKind.i64 root]])) (some (Row.gen 62 3 N.length fun (i : Nat) => neV (N.getD i dN))) (some (Row.lst 62 3 [AV.agg [AV.int IntKind.i64 kd, AV.str w, AV.sl true 6 0 n Cp.no]])) 5 F' else False else False else False else False else bif true && decide ((↑j : Int) < (↑n : Int)) then bif decide (0 + (↑j : Int).toNat < ((env14 R ts is N).R 6).n) then ∃ (j_1 : Nat), ∃ (root_1 : Int), j_1.succ.le ts.length ∧ (↑(is.getD (0 + (↑j : Int).toNat) 0) : Int) = (↑(is.getD j_1 0) : Int) ∧ NF F N ∧ some (Row.lst 35 2 [AV.agg [AV.sl false 1 0 N.length Cp.no, AV.int IntKind.i64 root]]) = some (Row.lst 35 2 [AV.agg [AV.sl false 1 0 N.length Cp.no, AV.int IntKind.i64 root_1]]) ∧ some (Row.gen 62 3 N.length fun (i : Nat) => neV (N.getD i dN)) = some (Row.gen 62 3 N.length fun (i : Nat) => neV (N.getD i dN)) ∧ ∀ (F' : Fz), Up F F' → bif decide (s.length + (40 :: (shw (ts.getD j_1 tD) ++ [41])).length ≤ 9223372036854775807) then q Exit.normal 114 (AV.ptr false 0 0 0) (AV.ptr false 2 0 0) (AV.str (s ++ 40 :: (shw (ts.getD j_1 tD) ++ [41]))) (AV.int IntKind.i64 (IntKind.i64.wrap ((↑j : Int) + 1))) (some (Row.lst 35 2 [AV.agg [AV.sl false 1 0 N.length Cp.no, AV.int IntKind.i64 root]])) (some (Row.gen 62 3 N.length fun (i : Nat) => neV (N.getD i dN))) (some (Row.lst 62 3 [AV.agg [AV.int IntKind.i64 kd, AV.str w, AV.sl true 6 0 n Cp.no]])) 5 F' else False else False else False else bif (N.getD (0 + (↑(is.getD (0 + (↑j : Int).toNat) 0) : Int).toNat) dN).kd == 6 then bif kd != 5 then bif decide ((↑j : Int) > 0) then bif decide (s.length + (btw kd).length ≤ 9223372036854775807) then bif true && decide ((↑j : Int) < (↑n : Int)) then bif decide (0 + (↑j : Int).toNat < ((env14 R ts is N).R 6).n) then ∃ (j_1 : Nat), ∃ (root_1 : Int), j_1.succ.le ts.length ∧ (↑(is.getD (0 + (↑j : Int).toNat) 0) : Int) = (↑(is.getD j_1 0) : Int) ∧ NF F N ∧ some (Row.lst 35 2 [AV.agg [AV.sl false 1 0 N.length Cp.no, AV.int IntKind.i64 root]]) = some (Row.lst 35 2 [AV.agg [AV.sl false 1 0 N.length Cp.no, AV.int IntKind.i64 root_1]]) ∧ some (Row.gen 62 3 N.length fun (i : Nat) => neV (N.getD i dN)) = some (Row.gen 62 3 N.length fun (i : Nat) => neV (N.getD i dN)) ∧ ∀ (F' : Fz), Up F F' → bif decide ((s ++ btw kd).length + (40 :: (shw (ts.getD j_1 tD) ++ [41])).length ≤ 9223372036854775807) then q Exit.normal 114 (AV.ptr false 0 0 0) (AV.ptr false 2 0 0) (AV.str (s ++ btw kd ++ 40 :: (shw (ts.getD j_1 tD) ++ [41]))) (AV.int IntKind.i64 (IntKind.i64.wrap ((↑j : Int) + 1))) (some (Row.lst 35 2 [AV.agg [AV.sl false 1 0 N.length Cp.no, AV.int IntKind.i64 root]])) (some (Row.gen 62 3 N.length fun (i : Nat) => neV (N.getD i dN))) (some (Row.lst 62 3 [AV.agg [AV.int IntKind.i64 kd, AV.str w, AV.sl true 6 0 n Cp.no]])) 5 F' else False else False else False else False else bif true && decide ((↑j : Int) < (↑n : Int)) then bif decide (0 + (↑j : Int).toNat < ((env14 R ts is N).R 6).n) then ∃ (j_1 : Nat), ∃ (root_1 : Int), j_1.succ.le ts.length ∧ (↑(is.getD (0 + (↑j : Int).toNat) 0) : Int) = (↑(is.getD j_1 0) : Int) ∧ NF F N ∧ some (Row.lst 35 2 [AV.agg [AV.sl false 1 0 N.length Cp.no, AV.int IntKind.i64 root]]) = some (Row.lst 35 2 [AV.agg [AV.sl false 1 0 N.length Cp.no, AV.int IntKind.i64 root_1]]) ∧ some (Row.gen 62 3 N.length fun (i : Nat) => neV (N.getD i dN)) = some (Row.gen 62 3 N.length fun (i : Nat) => neV (N.getD i dN)) ∧ ∀ (F' : Fz), Up F F' → bif decide (s.length + (40 :: (shw (ts.getD j_1 tD) ++ [41])).length ≤ 9223372036854775807) then q Exit.normal 114 (AV.ptr false 0 0 0) (AV.ptr false 2 0 0) (AV.str (s ++ 40 :: (shw (ts.getD j_1 tD) ++ [41]))) (AV.int IntKind.i64 (IntKind.i64.wrap ((↑j : Int) + 1))) (some (Row.lst 35 2 [AV.agg [AV.sl false 1 0 N.length Cp.no, AV.int IntKind.i64 root]])) (some (Row.gen 62 3 N.length fun (i : Nat) => neV (N.getD i dN))) (some (Row.lst 62 3 [AV.agg [AV.int IntKind.i64 kd, AV.str w, AV.sl true 6 0 n Cp.no]])) 5 F' else False else False else False else bif (N.getD (0 + (↑(is.getD (0 + (↑j : Int).toNat) 0) : Int).toNat) dN).kd == 4 then bif kd != 5 then bif decide ((↑j : Int) > 0) then bif decide (s.length + (btw kd).length ≤ 9223372036854775807) then bif true && decide ((↑j : Int) < (↑n : Int)) then bif decide (0 + (↑j : Int).toNat < ((env14 R ts is N).R 6).n) then ∃ (j_1 : Nat), ∃ (root_1 : Int), j_1.succ.le ts.length ∧ (↑(is.getD (0 + (↑j : Int).toNat) 0) : Int) = (↑(is.getD j_1 0) : Int) ∧ NF F N ∧ some (Row.lst 35 2 [AV.agg [AV.sl false 1 0 N.length Cp.no, AV.int IntKind.i64 root]]) = some (Row.lst 35 2 [AV.agg [AV.sl false 1 0 N.length Cp.no, AV.int IntKind.i64 root_1]]) ∧ some (Row.gen 62 3 N.length fun (i : Nat) => neV (N.getD i dN)) = some (Row.gen 62 3 N.length fun (i : Nat) => neV (N.getD i dN)) ∧ ∀ (F' : Fz), Up F F' → bif decide ((s ++ btw kd).length + (brk (kd != 6) (shw (ts.getD j_1 tD))).length ≤ 9223372036854775807) then q Exit.normal 114 (AV.ptr false 0 0 0) (AV.ptr false 2 0 0) (AV.str (s ++ btw kd ++ brk (kd != 6) (shw (ts.getD j_1 tD)))) (AV.int IntKind.i64 (IntKind.i64.wrap ((↑j : Int) + 1))) (some (Row.lst 35 2 [AV.agg [AV.sl false 1 0 N.length Cp.no, AV.int IntKind.i64 root]])) (some (Row.gen 62 3 N.length fun (i : Nat) => neV (N.getD i dN))) (some (Row.lst 62 3 [AV.agg [AV.int IntKind.i64 kd, AV.str w, AV.sl true 6 0 n Cp.no]])) 5 F' else False else False else False else False else bif true && decide ((↑j : Int) < (↑n : Int)) then bif decide (0 + (↑j : Int).toNat < ((env14 R ts is N).R 6).n) then ∃ (j_1 : Nat), ∃ (root_1 : Int), j_1.succ.le ts.length ∧ (↑(is.getD (0 + (↑j : Int).toNat) 0) : Int) = (↑(is.getD j_1 0) : Int) ∧ NF F N ∧ some (Row.lst 35 2 [AV.agg [AV.sl false 1 0 N.length Cp.no, AV.int IntKind.i64 root]]) = some (Row.lst 35 2 [AV.agg [AV.sl false 1 0 N.length Cp.no, AV.int IntKind.i64 root_1]]) ∧ some (Row.gen 62 3 N.length fun (i : Nat) => neV (N.getD i dN)) = some (Row.gen 62 3 N.length fun (i : Nat) => neV (N.getD i dN)) ∧ ∀ (F' : Fz), Up F F' → bif decide (s.length + (brk (kd != 6) (shw (ts.getD j_1 tD))).length ≤ 9223372036854775807) then q Exit.normal 114 (AV.ptr false 0 0 0) (AV.ptr false 2 0 0) (AV.str (s ++ brk (kd != 6) (shw (ts.getD j_1 tD)))) (AV.int IntKind.i64 (IntKind.i64.wrap ((↑j : Int) + 1))) (some (Row.lst 35 2 [AV.agg [AV.sl false 1 0 N.length Cp.no, AV.int IntKind.i64 root]])) (some (Row.gen 62 3 N.length fun (i : Nat) => neV (N.getD i dN))) (some (Row.lst 62 3 [AV.agg [AV.int IntKind.i64 kd, AV.str w, AV.sl true 6 0 n Cp.no]])) 5 F' else False else False else False else bif decide ((↑j : Int) > 0) then bif decide (s.length + (btw kd).length ≤ 9223372036854775807) then bif true && decide ((↑j : Int) < (↑n : Int)) then bif decide (0 + (↑j : Int).toNat < ((env14 R ts is N).R 6).n) then ∃ (j_1 : Nat), ∃ (root_1 : Int), j_1.succ.le ts.length ∧ (↑(is.getD (0 + (↑j : Int).toNat) 0) : Int) = (↑(is.getD j_1 0) : Int) ∧ NF F N ∧ some (Row.lst 35 2 [AV.agg [AV.sl false 1 0 N.length Cp.no, AV.int IntKind.i64 root]]) = some (Row.lst 35 2 [AV.agg [AV.sl false 1 0 N.length Cp.no, AV.int IntKind.i64 root_1]]) ∧ some (Row.gen 62 3 N.length fun (i : Nat) => neV (N.getD i dN)) = some (Row.gen 62 3 N.length fun (i : Nat) => neV (N.getD i dN)) ∧ ∀ (F' : Fz), Up F F' → bif decide ((s ++ btw kd).length + (brk false (shw (ts.getD j_1 tD))).length ≤ 9223372036854775807) then q Exit.normal 114 (AV.ptr false 0 0 0) (AV.ptr false 2 0 0) (AV.str (s ++ btw kd ++ brk false (shw (ts.getD j_1 tD)))) (AV.int IntKind.i64 (IntKind.i64.wrap ((↑j : Int) + 1))) (some (Row.lst 35 2 [AV.agg [AV.sl false 1 0 N.length Cp.no, AV.int IntKind.i64 root]])) (some (Row.gen 62 3 N.length fun (i : Nat) => neV (N.getD i dN))) (some (Row.lst 62 3 [AV.agg [AV.int IntKind.i64 kd, AV.str w, AV.sl true 6 0 n Cp.no]])) 5 F' else False else False else False else False else bif true && decide ((↑j : Int) < (↑n : Int)) then bif decide (0 + (↑j : Int).toNat < ((env14 R ts is N).R 6).n) then ∃ (j_1 : Nat), ∃ (root_1 : Int), j_1.succ.le ts.length ∧ (↑(is.getD (0 + (↑j : Int).toNat) 0) : Int) = (↑(is.getD j_1 0) : Int) ∧ NF F N ∧ some (Row.lst 35 2 [AV.agg [AV.sl false 1 0 N.length Cp.no, AV.int IntKind.i64 root]]) = some (Row.lst 35 2 [AV.agg [AV.sl false 1 0 N.length Cp.no, AV.int IntKind.i64 root_1]]) ∧ some (Row.gen 62 3 N.length fun (i : Nat) => neV (N.getD i dN)) = some (Row.gen 62 3 N.length fun (i : Nat) => neV (N.getD i dN)) ∧ ∀ (F' : Fz), Up F F' → bif decide (s.length + (brk false (shw (ts.getD j_1 tD))).length ≤ 9223372036854775807) then q Exit.normal 114 (AV.ptr false 0 0 0) (AV.ptr false 2 0 0) (AV.str (s ++ brk false (shw (ts.getD j_1 tD)))) (AV.int IntKind.i64 (IntKind.i64.wrap ((↑j : Int) + 1))) (some (Row.lst 35 2 [AV.agg [AV.sl false 1 0 N.length Cp.no, AV.int IntKind.i64 root]])) (some (Row.gen 62 3 N.length fun (i : Nat) => neV (N.getD i dN))) (some (Row.lst 62 3 [AV.agg [AV.int IntKind.i64 kd, AV.str w, AV.sl true 6 0 n Cp.no]])) 5 F' else False else False else False else bif decide ((↑j : Int) > 0) then bif decide (s.length + (btw kd).length ≤ 9223372036854775807) then bif true && decide ((↑j : Int) < (↑n : Int)) then bif decide (0 + (↑j : Int).toNat < ((env14 R ts is N).R 6).n) then ∃ (j_1 : Nat), ∃ (root_1 : Int), j_1.succ.le ts.length ∧ (↑(is.getD (0 + (↑j : Int).toNat) 0) : Int) = (↑(is.getD j_1 0) : Int) ∧ NF F N ∧ some (Row.lst 35 2 [AV.agg [AV.sl false 1 0 N.length Cp.no, AV.int IntKind.i64 root]]) = some (Row.lst 35 2 [AV.agg [AV.sl false 1 0 N.length Cp.no, AV.int IntKind.i64 root_1]]) ∧ some (Row.gen 62 3 N.length fun (i : Nat) => neV (N.getD i dN)) = some (Row.gen 62 3 N.length fun (i : Nat) => neV (N.getD i dN)) ∧ ∀ (F' : Fz), Up F F' → bif decide ((s ++ btw kd).length + (brk false (shw (ts.getD j_1 tD))).length ≤ 9223372036854775807) then q Exit.normal 114 (AV.ptr false 0 0 0) (AV.ptr false 2 0 0) (AV.str (s ++ btw kd ++ brk false (shw (ts.getD j_1 tD)))) (AV.int IntKind.i64 (IntKind.i64.wrap ((↑j : Int) + 1))) (some (Row.lst 35 2 [AV.agg [AV.sl false 1 0 N.length Cp.no, AV.int IntKind.i64 root]])) (some (Row.gen 62 3 N.length fun (i : Nat) => neV (N.getD i dN))) (some (Row.lst 62 3 [AV.agg [AV.int IntKind.i64 kd, AV.str w, AV.sl true 6 0 n Cp.no]])) 5 F' else False else False else False else False else bif true && decide ((↑j : Int) < (↑n : Int)) then bif decide (0 + (↑j : Int).toNat < ((env14 R ts is N).R 6).n) then ∃ (j_1 : Nat), ∃ (root_1 : Int), j_1.succ.le ts.length ∧ (↑(is.getD (0 + (↑j : Int).toNat) 0) : Int) = (↑(is.getD j_1 0) : Int) ∧ NF F N ∧ some (Row.lst 35 2 [AV.agg [AV.sl false 1 0 N.length Cp.no, AV.int IntKind.i64 root]]) = some (Row.lst 35 2 [AV.agg [AV.sl false 1 0 N.length Cp.no, AV.int IntKind.i64 root_1]]) ∧ some (Row.gen 62 3 N.length fun (i : Nat) => neV (N.getD i dN)) = some (Row.gen 62 3 N.length fun (i : Nat) => neV (N.getD i dN)) ∧ ∀ (F' : Fz), Up F F' → bif decide (s.length + (brk false (shw (ts.getD j_1 tD))).length ≤ 9223372036854775807) then q Exit.normal 114 (AV.ptr false 0 0 0) (AV.ptr false 2 0 0) (AV.str (s ++ brk false (shw (ts.getD j_1 tD)))) (AV.int IntKind.i64 (IntKind.i64.wrap ((↑j : Int) + 1))) (some (Row.lst 35 2 [AV.agg [AV.sl false 1 0 N.length Cp.no, AV.int IntKind.i64 root]])) (some (Row.gen 62 3 N.length fun (i : Nat) => neV (N.getD i dN))) (some (Row.lst 62 3 [AV.agg [AV.int IntKind.i64 kd, AV.str w, AV.sl true 6 0 n Cp.no]])) 5 F' else False else False else False else bif (N.getD (0 + (↑(is.getD (0 + (↑j : Int).toNat) 0) : Int).toNat) dN).kd == 4 then bif kd != 5 then bif decide ((↑j : Int) > 0) then bif decide (s.length + (btw kd).length ≤ 9223372036854775807) then bif true && decide ((↑j : Int) < (↑n : Int)) then bif decide (0 + (↑j : Int).toNat < ((env14 R ts is N).R 6).n) then ∃ (j_1 : Nat), ∃ (root_1 : Int), j_1.succ.le ts.length ∧ (↑(is.getD (0 + (↑j : Int).toNat) 0) : Int) = (↑(is.getD j_1 0) : Int) ∧ NF F N ∧ some (Row.lst 35 2 [AV.agg [AV.sl false 1 0 N.length Cp.no, AV.int IntKind.i64 root]]) = some (Row.lst 35 2 [AV.agg [AV.sl false 1 0 N.length Cp.no, AV.int IntKind.i64 root_1]]) ∧ some (Row.gen 62 3 N.length fun (i : Nat) => neV (N.getD i dN)) = some (Row.gen 62 3 N.length fun (i : Nat) => neV (N.getD i dN)) ∧ ∀ (F' : Fz), Up F F' → bif decide ((s ++ btw kd).length + (brk (kd != 6) (shw (ts.getD j_1 tD))).length ≤ 9223372036854775807) then q Exit.normal 114 (AV.ptr false 0 0 0) (AV.ptr false 2 0 0) (AV.str (s ++ btw kd ++ brk (kd != 6) (shw (ts.getD j_1 tD)))) (AV.int IntKind.i64 (IntKind.i64.wrap ((↑j : Int) + 1))) (some (Row.lst 35 2 [AV.agg [AV.sl false 1 0 N.length Cp.no, AV.int IntKind.i64 root]])) (some (Row.gen 62 3 N.length fun (i : Nat) => neV (N.getD i dN))) (some (Row.lst 62 3 [AV.agg [AV.int IntKind.i64 kd, AV.str w, AV.sl true 6 0 n Cp.no]])) 5 F' else False else False else False else False else bif true && decide ((↑j : Int) < (↑n : Int)) then bif decide (0 + (↑j : Int).toNat < ((env14 R ts is N).R 6).n) then ∃ (j_1 : Nat), ∃ (root_1 : Int), j_1.succ.le ts.length ∧ (↑(is.getD (0 + (↑j : Int).toNat) 0) : Int) = (↑(is.getD j_1 0) : Int) ∧ NF F N ∧ some (Row.lst 35 2 [AV.agg [AV.sl false 1 0 N.length Cp.no, AV.int IntKind.i64 root]]) = some (Row.lst 35 2 [AV.agg [AV.sl false 1 0 N.length Cp.no, AV.int IntKind.i64 root_1]]) ∧ some (Row.gen 62 3 N.length fun (i : Nat) => neV (N.getD i dN)) = some (Row.gen 62 3 N.length fun (i : Nat) => neV (N.getD i dN)) ∧ ∀ (F' : Fz), Up F F' → bif decide (s.length + (brk (kd != 6) (shw (ts.getD j_1 tD))).length ≤ 9223372036854775807) then q Exit.normal 114 (AV.ptr false 0 0 0) (AV.ptr false 2 0 0) (AV.str (s ++ brk (kd != 6) (shw (ts.getD j_1 tD)))) (AV.int IntKind.i64 (IntKind.i64.wrap ((↑j : Int) + 1))) (some (Row.lst 35 2 [AV.agg [AV.sl false 1 0 N.length Cp.no, AV.int IntKind.i64 root]])) (some (Row.gen 62 3 N.length fun (i : Nat) => neV (N.getD i dN))) (some (Row.lst 62 3 [AV.agg [AV.int IntKind.i64 kd, AV.str w, AV.sl true 6 0 n Cp.no]])) 5 F' else False else False else False else bif decide ((↑j : Int) > 0) then bif decide (s.length + (btw kd).length ≤ 9223372036854775807) then bif true && decide ((↑j : Int) < (↑n : Int)) then bif decide (0 + (↑j : Int).toNat < ((env14 R ts is N).R 6).n) then ∃ (j_1 : Nat), ∃ (root_1 : Int), j_1.succ.le ts.length ∧ (↑(is.getD (0 + (↑j : Int).toNat) 0) : Int) = (↑(is.getD j_1 0) : Int) ∧ NF F N ∧ some (Row.lst 35 2 [AV.agg [AV.sl false 1 0 N.length Cp.no, AV.int IntKind.i64 root]]) = some (Row.lst 35 2 [AV.agg [AV.sl false 1 0 N.length Cp.no, AV.int IntKind.i64 root_1]]) ∧ some (Row.gen 62 3 N.length fun (i : Nat) => neV (N.getD i dN)) = some (Row.gen 62 3 N.length fun (i : Nat) => neV (N.getD i dN)) ∧ ∀ (F' : Fz), Up F F' → bif decide ((s ++ btw kd).length + (brk false (shw (ts.getD j_1 tD))).length ≤ 9223372036854775807) then q Exit.normal 114 (AV.ptr false 0 0 0) (AV.ptr false 2 0 0) (AV.str (s ++ btw kd ++ brk false (shw (ts.getD j_1 tD)))) (AV.int IntKind.i64 (IntKind.i64.wrap ((↑j : Int) + 1))) (some (Row.lst 35 2 [AV.agg [AV.sl false 1 0 N.length Cp.no, AV.int IntKind.i64 root]])) (some (Row.gen 62 3 N.length fun (i : Nat) => neV (N.getD i dN))) (some (Row.lst 62 3 [AV.agg [AV.int IntKind.i64 kd, AV.str w, AV.sl true 6 0 n Cp.no]])) 5 F' else False else False else False else False else bif true && decide ((↑j : Int) < (↑n : Int)) then bif decide (0 + (↑j : Int).toNat < ((env14 R ts is N).R 6).n) then ∃ (j_1 : Nat), ∃ (root_1 : Int), j_1.succ.le ts.length ∧ (↑(is.getD (0 + (↑j : Int).toNat) 0) : Int) = (↑(is.getD j_1 0) : Int) ∧ NF F N ∧ some (Row.lst 35 2 [AV.agg [AV.sl false 1 0 N.length Cp.no, AV.int IntKind.i64 root]]) = some (Row.lst 35 2 [AV.agg [AV.sl false 1 0 N.length Cp.no, AV.int IntKind.i64 root_1]]) ∧ some (Row.gen 62 3 N.length fun (i : Nat) => neV (N.getD i dN)) = some (Row.gen 62 3 N.length fun (i : Nat) => neV (N.getD i dN)) ∧ ∀ (F' : Fz), Up F F' → bif decide (s.length + (brk false (shw (ts.getD j_1 tD))).length ≤ 9223372036854775807) then q Exit.normal 114 (AV.ptr false 0 0 0) (AV.ptr false 2 0 0) (AV.str (s ++ brk false (shw (ts.getD j_1 tD)))) (AV.int IntKind.i64 (IntKind.i64.wrap ((↑j : Int) + 1))) (some (Row.lst 35 2 [AV.agg [AV.sl false 1 0 N.length Cp.no, AV.int IntKind.i64 root]])) (some (Row.gen 62 3 N.length fun (i : Nat) => neV (N.getD i dN))) (some (Row.lst 62 3 [AV.agg [AV.int IntKind.i64 kd, AV.str w, AV.sl true 6 0 n Cp.no]])) 5 F' else False else False else False else bif decide ((↑j : Int) > 0) then bif decide (s.length + (btw kd).length ≤ 9223372036854775807) then bif true && decide ((↑j : Int) < (↑n : Int)) then bif decide (0 + (↑j : Int).toNat < ((env14 R ts is N).R 6).n) then ∃ (j_1 : Nat), ∃ (root_1 : Int), j_1.succ.le ts.length ∧ (↑(is.getD (0 + (↑j : Int).toNat) 0) : Int) = (↑(is.getD j_1 0) : Int) ∧ NF F N ∧ some (Row.lst 35 2 [AV.agg [AV.sl false 1 0 N.length Cp.no, AV.int IntKind.i64 root]]) = some (Row.lst 35 2 [AV.agg [AV.sl false 1 0 N.length Cp.no, AV.int IntKind.i64 root_1]]) ∧ some (Row.gen 62 3 N.length fun (i : Nat) => neV (N.getD i dN)) = some (Row.gen 62 3 N.length fun (i : Nat) => neV (N.getD i dN)) ∧ ∀ (F' : Fz), Up F F' → bif decide ((s ++ btw kd).length + (brk false (shw (ts.getD j_1 tD))).length ≤ 9223372036854775807) then q Exit.normal 114 (AV.ptr false 0 0 0) (AV.ptr false 2 0 0) (AV.str (s ++ btw kd ++ brk false (shw (ts.getD j_1 tD)))) (AV.int IntKind.i64 (IntKind.i64.wrap ((↑j : Int) + 1))) (some (Row.lst 35 2 [AV.agg [AV.sl false 1 0 N.length Cp.no, AV.int IntKind.i64 root]])) (some (Row.gen 62 3 N.length fun (i : Nat) => neV (N.getD i dN))) (some (Row.lst 62 3 [AV.agg [AV.int IntKind.i64 kd, AV.str w, AV.sl true 6 0 n Cp.no]])) 5 F' else False else False else False else False else bif true && decide ((↑j : Int) < (↑n : Int)) then bif decide (0 + (↑j : Int).toNat < ((env14 R ts is N).R 6).n) then ∃ (j_1 : Nat), ∃ (root_1 : Int), j_1.succ.le ts.length ∧ (↑(is.getD (0 + (↑j : Int).toNat) 0) : Int) = (↑(is.getD j_1 0) : Int) ∧ NF F N ∧ some (Row.lst 35 2 [AV.agg [AV.sl false 1 0 N.length Cp.no, AV.int IntKind.i64 root]]) = some (Row.lst 35 2 [AV.agg [AV.sl false 1 0 N.length Cp.no, AV.int IntKind.i64 root_1]]) ∧ some (Row.gen 62 3 N.length fun (i : Nat) => neV (N.getD i dN)) = some (Row.gen 62 3 N.length fun (i : Nat) => neV (N.getD i dN)) ∧ ∀ (F' : Fz), Up F F' → bif decide (s.length + (brk false (shw (ts.getD j_1 tD))).length ≤ 9223372036854775807) then q Exit.normal 114 (AV.ptr false 0 0 0) (AV.ptr false 2 0 0) (AV.str (s ++ brk false (shw (ts.getD j_1 tD)))) (AV.int IntKind.i64 (IntKind.i64.wrap ((↑j : Int) + 1))) (some (Row.lst 35 2 [AV.agg [AV.sl false 1 0 N.length Cp.no, AV.int IntKind.i64 root]])) (some (Row.gen 62 3 N.length fun (i : Nat) => neV (N.getD i dN))) (some (Row.lst 62 3 [AV.agg [AV.int IntKind.i64 kd, AV.str w, AV.sl true 6 0 n Cp.no]])) 5 F' else False else False else False else False else False else False else False else q (Exit.exit 0) 114 (AV.ptr false 0 0 0) (AV.ptr false 2 0 0) (AV.str s) (AV.int IntKind.i64 (↑j : Int)) (some (Row.lst 35 2 [AV.agg [AV.sl false 1 0 N.length Cp.no, AV.int IntKind.i64 root]])) (some (Row.gen 62 3 N.length fun (i : Nat) => neV (N.getD i dN))) (some (Row.lst 62 3 [AV.agg [AV.int IntKind.i64 kd, AV.str w, AV.sl true 6 0 n Cp.no]])) 3 F) := by kernel_rfl
theorem vt14 (R : Nat → RoRow) (ts : List Tr) (is : List Nat) (root : Int) (N : List NE) (kd : Int) (w : List UInt8) (n : Nat) (r : List UInt8) (q : Exit → Nat → AV → Option Row → Option Row → Nat → Fz → Prop) (F : Fz) : rnx ((env14 R ts is N).addLoop 14 0 (lp14 kd w n root N r)) 1000 14 (tailC 3 fi14.body) (st14 root N kd w n) (fun e st => q e st.tmps.length (nthV st.tmps 6) (st.rows.live 0) (st.rows.live 1) st.rows.length) F = (114 = 114 ∧ AV.ptr false 0 0 0 = AV.ptr false 0 0 0 ∧ AV.ptr false 2 0 0 = AV.ptr false 2 0 0 ∧ AV.str [] = AV.str [] ∧ AV.int IntKind.i64 (0 : Int) = AV.int IntKind.i64 0 ∧ [some (Row.lst 35 2 [AV.agg [AV.sl false 1 0 N.length Cp.no, AV.int IntKind.i64 root]]), some (Row.gen 62 3 N.length fun (i : Nat) => neV (N.getD i dN)), some (Row.lst 62 3 [AV.agg [AV.int IntKind.i64 kd, AV.str w, AV.sl true 6 0 n Cp.no]])] = [some (Row.lst 35 2 [AV.agg [AV.sl false 1 0 N.length Cp.no, AV.int IntKind.i64 root]]), some (Row.gen 62 3 N.length fun (i : Nat) => neV (N.getD i dN)), some (Row.lst 62 3 [AV.agg [AV.int IntKind.i64 kd, AV.str w, AV.sl true 6 0 n Cp.no]])] ∧ NF F N ∧ ∀ (F' : Fz), Up F F' → bif kd == 0 then q Exit.ret 114 (AV.str [40, 41]) (some (Row.lst 35 2 [AV.agg [AV.sl false 1 0 N.length Cp.no, AV.int IntKind.i64 root]])) (some (Row.gen 62 3 N.length fun (i : Nat) => neV (N.getD i dN))) 3 F' else bif kd == 1 then q Exit.ret 114 (AV.str w) (some (Row.lst 35 2 [AV.agg [AV.sl false 1 0 N.length Cp.no, AV.int IntKind.i64 root]])) (some (Row.gen 62 3 N.length fun (i : Nat) => neV (N.getD i dN))) 3 F' else bif kd == 2 then bif decide (1 + w.length ≤ 9223372036854775807) then q Exit.ret 114 (AV.str (64 :: (w))) (some (Row.lst 35 2 [AV.agg [AV.sl false 1 0 N.length Cp.no, AV.int IntKind.i64 root]])) (some (Row.gen 62 3 N.length fun (i : Nat) => neV (N.getD i dN))) 3 F' else False else bif kd == 3 then q Exit.ret 114 (AV.str [35, 116, 101, 120, 116]) (some (Row.lst 35 2 [AV.agg [AV.sl false 1 0 N.length Cp.no, AV.int IntKind.i64 root]])) (some (Row.gen 62 3 N.length fun (i : Nat) => neV (N.getD i dN))) 3 F' else bif kd == 7 then bif decide (r.length + 1 ≤ 9223372036854775807) then q Exit.ret 114 (AV.str (r ++ [42])) (some (Row.lst 35 2 [AV.agg [AV.sl false 1 0 N.length Cp.no, AV.int IntKind.i64 root]])) (some (Row.gen 62 3 N.length fun (i : Nat) => neV (N.getD i dN))) 3 F' else False else bif kd == 8 then bif decide (r.length + 1 ≤ 9223372036854775807) then q Exit.ret 114 (AV.str (r ++ [43])) (some (Row.lst 35 2 [AV.agg [AV.sl false 1 0 N.length Cp.no, AV.int IntKind.i64 root]])) (some (Row.gen 62 3 N.length fun (i : Nat) => neV (N.getD i dN))) 3 F' else False else bif kd == 9 then bif decide (r.length + 1 ≤ 9223372036854775807) then q Exit.ret 114 (AV.str (r ++ [63])) (some (Row.lst 35 2 [AV.agg [AV.sl false 1 0 N.length Cp.no, AV.int IntKind.i64 root]])) (some (Row.gen 62 3 N.length fun (i : Nat) => neV (N.getD i dN))) 3 F' else False else q Exit.ret 114 (AV.str r) (some (Row.lst 35 2 [AV.agg [AV.sl false 1 0 N.length Cp.no, AV.int IntKind.i64 root]])) (some (Row.gen 62 3 N.length fun (i : Nat) => neV (N.getD i dN))) 3 F') := by kernel_rfl
theorem vs14 (R : Nat → RoRow) (ts : List Tr) (is : List Nat) (root : Int) (N : List NE) (kd : Int) (w : List UInt8) (i : Nat) (q : Exit → St → Fz → Prop) (K : Nat → AV → AV → Rows → Fz → Prop) (F : Fz) : chain (bx R) 1000 14 q (fun st F => K st.tmps.length (nthV st.tmps 0) (nthV st.tmps 7) st.rows F) 3 fi14.body ⟨enterT [.ptr false 0 0 0, .int .i64 (i : Nat), .bool false] fi14.ntmps, [some (trow 1 N.length root), some (arow N)]⟩ F = (bif true && decide ((↑i : Int) < (↑N.length : Int)) then bif decide (0 + (↑i : Int).toNat < N.length) then K 114 (AV.ptr false 0 0 0) (AV.ptr false 2 0 0) [some (Row.lst 35 2 [AV.agg [AV.sl false 1 0 N.length Cp.no, AV.int IntKind.i64 root]]), some (Row.gen 62 3 N.length fun (i : Nat) => neV (N.getD i dN)), some (Row.lst 62 3 [AV.agg [AV.int IntKind.i64 (N.getD (0 + (↑i : Int).toNat) dN).kd, AV.str (N.getD (0 + (↑i : Int).toNat) dN).w, AV.sl true ((N.getD (0 + (↑i : Int).toNat) dN).x + 15) 0 (N.getD (0 + (↑i : Int).toNat) dN).kids.length Cp.no]])] F else False else False) := by kernel_rfl
theorem vc14 (R : Nat → RoRow) (root : Int) (N : List NE) (i : Nat) (r : List UInt8) (k : AV → Rows → Fz → Prop) (F : Fz) : vcx ((bx R).addCall 14 (spec14f i root N r)) 1000 14 fi14 [.ptr false 0 0 0, .int .i64 (i : Nat), .bool true] [some (trow 1 N.length root), some (arow N)] k F = ((↑i : Int) = (↑i : Int) ∧ [some (Row.lst 35 2 [AV.agg [AV.sl false 1 0 N.length Cp.no, AV.int IntKind.i64 root]]), some (Row.gen 62 3 N.length fun (i : Nat) => neV (N.getD i dN))] = [some (Row.lst 35 2 [AV.agg [AV.sl false 1 0 N.length Cp.no, AV.int IntKind.i64 root]]), some (Row.gen 62 3 N.length fun (i : Nat) => neV (N.getD i dN))] ∧ NF F N ∧ ∀ (F' : Fz), Up F F' → bif decide (1 + r.length ≤ 9223372036854775807) then bif decide ((40 :: (r)).length + 1 ≤ 9223372036854775807) then k (AV.str (40 :: (((r)) ++ [41]))) [some (Row.lst 35 2 [AV.agg [AV.sl false 1 0 N.length Cp.no, AV.int IntKind.i64 root]]), some (Row.gen 62 3 N.length fun (i : Nat) => neV (N.getD i dN))] F' else False else False) := by kernel_rfl
theorem vc26 (R : Nat → RoRow) (i : Int) (k : AV → Rows → Fz → Prop) (F : Fz) : vcx (bx R) 1000 26 fi26 [.int .i64 i] [] k F = (bif i == 5 then k (AV.str [124]) [] F else bif i == 6 then k (AV.str [38]) [] F else k (AV.str [32]) [] F) := by kernel_rfl
end Go.Dc.Ke
end
section
set_option linter.unusedVariables false
set_option linter.unusedSimpArgs false
namespace Go.Dc.Ke
open Go.Proofs Go.RowKit Go.Shelf
set_option maxRecDepth 100000
theorem spec26_ok (R : Nat → RoRow) (HP : HPt) : ∀ args h k F, spec26 args h k F → SafeCallX Try.prog R 26 args h F k HP := by
  intro args h k F hk
  unfold spec26 at hk
  split at hk
  · rename_i i
    have main : SafeCallX Try.prog R 26 [.int .i64 i] [] F (fun v h' F' => gnd v = true ∧ (v = .str (btw i) ∧ F' = F)) (fun v h' F' => gnd v = true ∧ False) := by
      refine SafeCallX.by mixed (bx_ok R [] _) (f := 26) (fi := fi26) (by kernel_rfl) 1000 (vc26 R i _ F) ?_
      refine hcB (fun h => ⟨rfl, by unfold btw; rw [h]; rfl, rfl⟩) fun h => hcB (fun h2 => ⟨rfl, by unfold btw; rw [h, h2]; rfl, rfl⟩) fun h2 => ⟨rfl, by unfold btw; rw [h, h2]; rfl, rfl⟩
    refine (SafeCallX.at0 rfl main).mono ?_ ?_
    · rintro v h' F' _ ⟨rfl, rfl, rfl⟩; exact hk
    · rintro v h' F' _ ⟨_, h⟩; exact h.elim
  · exact hk.elim
def ShowN (t : Tr) : Prop := ∀ (R : Nat → RoRow), Free6 R → ∀ (i : Nat) (root : Int) (N : List NE) (F : Fz) (k HP : AV → Rows → Fz → Prop), NF F N → TrN N t i → (∀ F', Up F F' → k (.str (shw t)) [some (trow 1 N.length root), some (arow N)] F') → SafeCallX Try.prog R 14 [.ptr false 0 0 0, .int .i64 (i : Nat), .bool false] [some (trow 1 N.length root), some (arow N)] F k HP
theorem showN_b {t : Tr} (hs : ShowN t) (hl : (shw t).length ≤ 2000000) (b : Bool) {R : Nat → RoRow} (hR : Free6 R) {i : Nat} {root : Int} {N : List NE} {F : Fz} {k HP : AV → Rows → Fz → Prop} (hN : NF F N) (ht : TrN N t i) (hk : ∀ F', Up F F' → k (.str (brk b (shw t))) [some (trow 1 N.length root), some (arow N)] F') :
    SafeCallX Try.prog R 14 [.ptr false 0 0 0, .int .i64 (i : Nat), .bool b] [some (trow 1 N.length root), some (arow N)] F k HP := by
  cases b with
  | false => exact hs R hR i root N F k HP hN ht hk
  | true =>
    refine SafeCallX.by mixed ((bx_ok R [] HP).addCall (f := 14) (spec := spec14f i root N (shw t)) (fi := fi14) (by kernel_rfl) (fun args h k F hk => ?_)) (f := 14) (fi := fi14) (by kernel_rfl) 1000 (vc14 R root N i (shw t) k F) ?_
    · unfold spec14f at hk
      split at hk
      · obtain ⟨rfl, rfl, hN2, hk⟩ := hk
        exact hs R hR i root N _ _ _ hN2 ht hk
      · exact hk.elim
    · refine ⟨rfl, rfl, hN, fun F' hu => hcT (decide_eq_true (by omega)) (hcT (decide_eq_true (by simp only [List.length_cons]; omega)) ?_)⟩
      exact hk F' hu
theorem spec14k_ok {R : Nat → RoRow} (hR : Free6 R) {ts : List Tr} {is : List Nat} {N : List NE} (hs : ∀ t ∈ ts, ShowN t) (hl : ∀ t ∈ ts, (shw t).length ≤ 2000000) (hT : TrNs N ts is) (HP : HPt) : ∀ args h k F, spec14k ts is N args h k F → SafeCallX Try.prog (R6 R is) 14 args h F k HP := by
  intro args h k F hk
  unfold spec14k at hk
  split at hk
  · rename_i b
    obtain ⟨j, root, hj, rfl, hN, hb, hc, hk⟩ := hk
    have hm : ts.getD j tD ∈ ts := by rw [List.getD_eq_getElem?_getD, List.getElem?_eq_getElem hj]; exact List.getElem_mem hj
    refine atTree (zs := [.int .i64 (is.getD j 0 : Nat), .bool b]) rfl (fun g => rfl) hb hc ?_ hk
    refine SafeCallX.unread (k := 6) (R := R) (Q := fun v h' F' => v = .str (brk b (shw (ts.getD j tD))) ∧ h' = [some (trow 1 N.length root), some (arow N)] ∧ Up F F') (HP := fun _ _ _ => False) (by decide) hR.n hR.q (by kernel_rfl) (by kernel_rfl) (showN_b (hs _ hm) (hl _ hm) b hR hN (hT.at ts is j hj) fun F' hu => ⟨rfl, rfl, hu⟩) ?_ ?_
    · rintro v h' F' _ ⟨rfl, rfl, hu⟩; exact ⟨rfl, by kernel_rfl, rfl, rfl, hu⟩
    · rintro v h' F' _ h; exact h.elim
  · exact hk.elim
theorem env14_ok {R : Nat → RoRow} (hR : Free6 R) {ts : List Tr} {is : List Nat} {N : List NE} (hs : ∀ t ∈ ts, ShowN t) (hl : ∀ t ∈ ts, (shw t).length ≤ 2000000) (hT : TrNs N ts is) (HP : HPt) : OKX Try.prog (env14 R ts is N) [] HP :=
  ((bx_ok _ [] HP).addCall (f := 26) (fi := fi26) (by kernel_rfl) (spec26_ok _ HP)).addCall (f := 14) (fi := fi14) (by kernel_rfl) (spec14k_ok hR hs hl hT HP)
inductive Nx14 (J : Nat → List UInt8) (j n : Nat) : Exit → AV → AV → Prop
  | go (h : j < n) : Nx14 J j n .normal (.str (J (j + 1))) (.int .i64 ((j + 1 : Nat) : Int))
  | done (h : n ≤ j) : Nx14 J j n (.exit 0) (.str (J j)) (.int .i64 (j : Nat))
theorem snoc_t {ts : List Tr} {kd j : Nat} {x : List UInt8} (g : decide ((j : Int) > 0) = true) (hP : pce kd (ts.getD j tD) = x) : accJ kd ts (j + 1) = accJ kd ts j ++ btw (kd : Int) ++ x := by
  have h : Nat.blt 0 j = true := Nat.ble_eq_true_of_le (by have := of_decide_eq_true g; show 1 ≤ j; omega)
  show (bif Nat.blt 0 j then accJ kd ts j ++ btw (kd : Int) else accJ kd ts j) ++ _ = _
  rw [h, hP]; rfl
theorem snoc_f {ts : List Tr} {kd j : Nat} {x : List UInt8} (g : decide ((j : Int) > 0) = false) (hP : pce kd (ts.getD j tD) = x) : accJ kd ts (j + 1) = accJ kd ts j ++ x := by
  have h0 : j = 0 := by have := of_decide_eq_false g; omega
  subst h0
  show (bif Nat.blt 0 0 then accJ kd ts 0 ++ btw (kd : Int) else accJ kd ts 0) ++ _ = _
  rw [hP]; rfl
theorem accJ_mono (kd : Nat) (ts : List Tr) (j : Nat) : (accJ kd ts j).length ≤ (accJ kd ts (j + 1)).length := by
  show _ ≤ ((bif Nat.blt 0 j then accJ kd ts j ++ btw (kd : Int) else accJ kd ts j) ++ _).length
  rw [List.length_append]
  cases Nat.blt 0 j <;> simp <;> omega
theorem accJ_le (kd : Nat) (ts : List Tr) (j d : Nat) : (accJ kd ts j).length ≤ (accJ kd ts (j + d)).length := by
  induction d with
  | zero => exact Nat.le_refl _
  | succ d ih => exact Nat.le_trans ih (accJ_mono kd ts (j + d))
theorem btw_le (k : Int) : (btw k).length = 1 := by unfold btw; cases k == 5 <;> cases k == 6 <;> rfl
abbrev e6w (kd : Int) (w : List UInt8) (n : Nat) : Row := .lst 62 3 [.agg [.int .i64 kd, .str w, .sl true 6 0 n .no]]
theorem fit3 {R : Nat → RoRow} {T TM : List AV} {N : List NE} {root kd : Int} {w : List UInt8} {n : Nat} {rows : Rows} {F : Fz} {S : St → Fz → Prop} (h0 : rows.live 0 = some (trow 1 N.length root)) (h1 : rows.live 1 = some (arow N)) (h2 : rows.live 2 = some (e6w kd w n)) (hT : VwL some 3 T TM) (hS : S ⟨T, [some (trow 1 N.length root), some (arow N), some (.lst 62 3 [.agg [.int .i64 kd, .str w, .sl true 6 0 n .no]])]⟩ F) : ToX R [] 3 ⟨TM, rows⟩ F S :=
  ToX.fitW (stE := ⟨T, [some (trow 1 N.length root), some (arow N), some (.lst 62 3 [.agg [.int .i64 kd, .str w, .sl true 6 0 n .no]])]⟩) some ⟨fun c c' b r r' _ _ h h' => by cases h; cases h'; rfl, fun c r hc => by
    match c with
    | 0 => cases hc; exact .inl ⟨0, _, rfl, h0, trow_v rfl (by simp)⟩
    | 1 => cases hc; exact .inl ⟨1, _, rfl, h1, (arow_g N).vw _ _⟩
    | 2 => cases hc; exact .inl ⟨2, _, rfl, h2, (e6_g kd w n).vw _ _⟩
    | c + 3 => simp [Rows.live] at hc⟩ hT (fun _ _ => rfl) (Nat.le_refl _) (ToX.here hS)
theorem tm14_spr (s : List UInt8) (j : Nat) : tm14 s j = spr [(0, .ptr false 0 0 0), (7, .ptr false 2 0 0), (8, .str s), (9, .int .i64 (j : Nat))] 0 114 := by kernel_rfl
theorem nbeq (a b : Nat) : (((a : Nat) : Int) == ((b : Nat) : Int)) = (a == b) := by
  cases h : (a == b) with
  | true => rw [beq_iff_eq] at h; rw [h]; simp
  | false => rw [beq_eq_false_iff_ne] at h; rw [beq_eq_false_iff_ne]; omega
theorem round14 {R : Nat → RoRow} (hR : Free6 R) {kd : Nat} {w : List UInt8} {ts : List Tr} {is : List Nat} {N : List NE} {root : Int} (hs : ∀ t ∈ ts, ShowN t) (hl : ∀ t ∈ ts, (shw t).length ≤ 2000000) (hT : TrNs N ts is) (hL : (accJ kd ts ts.length).length ≤ 2000000) (hn : ts.length ≤ 100000) (HP : HPt) (j : Nat) (hj : j ≤ ts.length) (F F1 : Fz) (hN : NF F N) (hu : Up F F1) :
    SafeX Try.prog (R6 R is) [] (loopOf fi14 0) (fam14 (accJ kd ts j) j root N (kd : Int) w is.length) F1 (fun e st F' => Up F F' ∧ st.tmps.length = 114 ∧ nthV st.tmps 0 = .ptr false 0 0 0 ∧ nthV st.tmps 7 = .ptr false 2 0 0 ∧ st.rows.live 0 = some (trow 1 N.length root) ∧ st.rows.live 1 = some (arow N) ∧ st.rows.live 2 = some (e6w (kd : Int) w is.length) ∧ 3 ≤ st.rows.length ∧ Nx14 (accJ kd ts) j is.length e (nthV st.tmps 8) (nthV st.tmps 9)) HP := by
  have hlen : ts.length = is.length := hT.len
  refine SafeX.by mixed (env14_ok hR hs hl hT HP) (f := 14) (fi := fi14) (i := 0) (by kernel_rfl) (b := .loop (loopOf fi14 0)) (by kernel_rfl) (subs_loop _) 1000 (vr14 R ts is root N (kd : Int) w (accJ kd ts j) j is.length (fun e n a0 a7 a8 a9 r0 r1 r2 m F' => Up F F' ∧ n = 114 ∧ a0 = .ptr false 0 0 0 ∧ a7 = .ptr false 2 0 0 ∧ r0 = some (trow 1 N.length root) ∧ r1 = some (arow N) ∧ r2 = some (e6w (kd : Int) w is.length) ∧ 3 ≤ m ∧ Nx14 (accJ kd ts) j is.length e a8 a9) F1) ?_
  refine hcB (fun h => ?_) fun h => ⟨hu, rfl, rfl, rfl, rfl, rfl, rfl, by decide, .done (by have := of_decide_eq_false h; omega)⟩
  have hl : j < ts.length := by have := of_decide_eq_true h; omega
  have hl' : j < is.length := by omega
  have e2 : 0 + ((j : Nat) : Int).toNat = j := by simp
  obtain ⟨e, he, hkd, hw, _⟩ : ∃ e, N[is.getD j 0]? = some e ∧ e.kd = ((ts.getD j tD).kind : Nat) ∧ e.w = (ts.getD j tD).word ∧ TrNs N (ts.getD j tD).kids e.kids := by
    have := hT.at ts is j hl
    cases hx : ts.getD j tD with
    | mk k w' kids => rw [hx] at this; simp only [TrN] at this; exact this
  have hlt : is.getD j 0 < N.length := (List.getElem?_eq_some_iff.1 he).1
  have d1 : (true && decide ((j : Int) < (is.length : Int))) = true := by rw [h]; rfl
  have d2 : decide (0 + ((j : Nat) : Int).toNat < ((env14 R ts is N).R 6).n) = true := decide_eq_true (show 0 + ((j : Nat) : Int).toNat < is.length by omega)
  have d3 : decide (j < ((env14 R ts is N).R 6).n) = true := decide_eq_true (show j < is.length by omega)
  have hL1 : (accJ kd ts (j + 1)).length ≤ 2000000 := by
    have := accJ_le kd ts (j + 1) (ts.length - (j + 1))
    rw [show j + 1 + (ts.length - (j + 1)) = ts.length by omega] at this
    omega
  have hL0 := accJ_mono kd ts j
  have hbw := btw_le (kd : Int)
  refine hcT d1 (hcT d2 (hcT (by rw [e2, decide_eq_true (show ((is.getD j 0 : Nat) : Int) < (N.length : Int) by omega)]; rfl) (hcT (by rw [e2]; exact decide_eq_true (by simpa using hlt)) ?_)))
  rw [e2, getN he, hkd]
  have n5 := nbeq (ts.getD j tD).kind 5
  have n6 := nbeq (ts.getD j tD).kind 6
  have n4 := nbeq (ts.getD j tD).kind 4
  have k5 := nbeq kd 5
  have k6 := nbeq kd 6
  refine hcB (fun c5 => ?_) fun c5 => hcB (fun c6 => hcB (fun p5 => ?_) fun p5 => hcB (fun c4 => hcB (fun p5' => ?_) fun p5' => ?_) fun c4 => ?_) fun c6 => hcB (fun c4 => hcB (fun p5 => ?_) fun p5 => ?_) fun c4 => ?_
  · have hb : inn kd (ts.getD j tD).kind = true := by 
      have hk : (ts.getD j tD).kind = 5 := by have := eq_of_beq c5; omega
      rw [hk]; rfl
    have hP : pce kd (ts.getD j tD) = brk true (shw (ts.getD j tD)) := by unfold pce; rw [hb]
    refine hcB (fun g => hcT (decide_eq_true (by omega)) (hcT d1 (hcT d3 ⟨j, root, hl, rfl, hN.le hu, rfl, rfl, fun F2 hu2 => hcT ?_ ?_⟩))) fun g => hcT d1 (hcT d3 ⟨j, root, hl, rfl, hN.le hu, rfl, rfl, fun F2 hu2 => hcT ?_ ?_⟩)
    · have := snoc_t (ts := ts) (kd := kd) g hP
      refine decide_eq_true ?_
      rw [this, List.length_append] at hL1
      exact Nat.le_trans hL1 (by decide)
    · rw [wrapSucc j (by omega)]
      exact ⟨hu.trans hu2, rfl, rfl, rfl, rfl, rfl, rfl, by decide, by have := Nx14.go (J := accJ kd ts) hl'; rw [snoc_t (ts := ts) (kd := kd) g hP] at this; exact this⟩
    · have := snoc_f (ts := ts) (kd := kd) g hP
      refine decide_eq_true ?_
      rw [this, List.length_append] at hL1
      exact Nat.le_trans hL1 (by decide)
    · rw [wrapSucc j (by omega)]
      exact ⟨hu.trans hu2, rfl, rfl, rfl, rfl, rfl, rfl, by decide, by have := Nx14.go (J := accJ kd ts) hl'; rw [snoc_f (ts := ts) (kd := kd) g hP] at this; exact this⟩
  · have hb : inn kd (ts.getD j tD).kind = true := by 
      have hk : (ts.getD j tD).kind = 6 := by have := eq_of_beq c6; omega
      have hp : kd ≠ 5 := by have := bne_iff_ne.1 p5; omega
      rw [hk]; simp [inn, hp]
    have hP : pce kd (ts.getD j tD) = brk true (shw (ts.getD j tD)) := by unfold pce; rw [hb]
    refine hcB (fun g => hcT (decide_eq_true (by omega)) (hcT d1 (hcT d3 ⟨j, root, hl, rfl, hN.le hu, rfl, rfl, fun F2 hu2 => hcT ?_ ?_⟩))) fun g => hcT d1 (hcT d3 ⟨j, root, hl, rfl, hN.le hu, rfl, rfl, fun F2 hu2 => hcT ?_ ?_⟩)
    · have := snoc_t (ts := ts) (kd := kd) g hP
      refine decide_eq_true ?_
      rw [this, List.length_append] at hL1
      exact Nat.le_trans hL1 (by decide)
    · rw [wrapSucc j (by omega)]
      exact ⟨hu.trans hu2, rfl, rfl, rfl, rfl, rfl, rfl, by decide, by have := Nx14.go (J := accJ kd ts) hl'; rw [snoc_t (ts := ts) (kd := kd) g hP] at this; exact this⟩
    · have := snoc_f (ts := ts) (kd := kd) g hP
      refine decide_eq_true ?_
      rw [this, List.length_append] at hL1
      exact Nat.le_trans hL1 (by decide)
    · rw [wrapSucc j (by omega)]
      exact ⟨hu.trans hu2, rfl, rfl, rfl, rfl, rfl, rfl, by decide, by have := Nx14.go (J := accJ kd ts) hl'; rw [snoc_f (ts := ts) (kd := kd) g hP] at this; exact this⟩
  · have g1 := eq_of_beq c6
    have g2 := eq_of_beq c4
    omega
  · have g1 := eq_of_beq c6
    have g2 := eq_of_beq c4
    omega
  · have hb : inn kd (ts.getD j tD).kind = false := by 
      have hk : (ts.getD j tD).kind = 6 := by have := eq_of_beq c6; omega
      have hp : kd = 5 := Decidable.byContradiction fun hq => by rw [bne_iff_ne.2 (show ((kd : Nat) : Int) ≠ 5 by omega)] at p5; cases p5
      rw [hk]; simp [inn, hp]
    have hP : pce kd (ts.getD j tD) = brk false (shw (ts.getD j tD)) := by unfold pce; rw [hb]
    refine hcB (fun g => hcT (decide_eq_true (by omega)) (hcT d1 (hcT d3 ⟨j, root, hl, rfl, hN.le hu, rfl, rfl, fun F2 hu2 => hcT ?_ ?_⟩))) fun g => hcT d1 (hcT d3 ⟨j, root, hl, rfl, hN.le hu, rfl, rfl, fun F2 hu2 => hcT ?_ ?_⟩)
    · have := snoc_t (ts := ts) (kd := kd) g hP
      refine decide_eq_true ?_
      rw [this, List.length_append] at hL1
      exact Nat.le_trans hL1 (by decide)
    · rw [wrapSucc j (by omega)]
      exact ⟨hu.trans hu2, rfl, rfl, rfl, rfl, rfl, rfl, by decide, by have := Nx14.go (J := accJ kd ts) hl'; rw [snoc_t (ts := ts) (kd := kd) g hP] at this; exact this⟩
    · have := snoc_f (ts := ts) (kd := kd) g hP
      refine decide_eq_true ?_
      rw [this, List.length_append] at hL1
      exact Nat.le_trans hL1 (by decide)
    · rw [wrapSucc j (by omega)]
      exact ⟨hu.trans hu2, rfl, rfl, rfl, rfl, rfl, rfl, by decide, by have := Nx14.go (J := accJ kd ts) hl'; rw [snoc_f (ts := ts) (kd := kd) g hP] at this; exact this⟩
  · have hb : inn kd (ts.getD j tD).kind = (((kd : Nat) : Int) != 6) := by 
      have hk : (ts.getD j tD).kind = 4 := by have := eq_of_beq c4; omega
      have hp : kd ≠ 5 := by have := bne_iff_ne.1 p5; omega
      by_cases h6 : kd = 6
      · rw [hk, h6]; rfl
      · have h7 : ((kd : Nat) : Int) ≠ 6 := by omega
        rw [hk, bne_iff_ne.2 h7]; show (kd != 5 && kd != 6) = true; rw [bne_iff_ne.2 hp, bne_iff_ne.2 h6]; rfl
    have hP : pce kd (ts.getD j tD) = brk (((kd : Nat) : Int) != 6) (shw (ts.getD j tD)) := by unfold pce; rw [hb]
    refine hcB (fun g => hcT (decide_eq_true (by omega)) (hcT d1 (hcT d3 ⟨j, root, hl, rfl, hN.le hu, rfl, rfl, fun F2 hu2 => hcT ?_ ?_⟩))) fun g => hcT d1 (hcT d3 ⟨j, root, hl, rfl, hN.le hu, rfl, rfl, fun F2 hu2 => hcT ?_ ?_⟩)
    · have := snoc_t (ts := ts) (kd := kd) g hP
      refine decide_eq_true ?_
      rw [this, List.length_append] at hL1
      exact Nat.le_trans hL1 (by decide)
    · rw [wrapSucc j (by omega)]
      exact ⟨hu.trans hu2, rfl, rfl, rfl, rfl, rfl, rfl, by decide, by have := Nx14.go (J := accJ kd ts) hl'; rw [snoc_t (ts := ts) (kd := kd) g hP] at this; exact this⟩
    · have := snoc_f (ts := ts) (kd := kd) g hP
      refine decide_eq_true ?_
      rw [this, List.length_append] at hL1
      exact Nat.le_trans hL1 (by decide)
    · rw [wrapSucc j (by omega)]
      exact ⟨hu.trans hu2, rfl, rfl, rfl, rfl, rfl, rfl, by decide, by have := Nx14.go (J := accJ kd ts) hl'; rw [snoc_f (ts := ts) (kd := kd) g hP] at this; exact this⟩
  · have hb : inn kd (ts.getD j tD).kind = false := by 
      have hk : (ts.getD j tD).kind = 4 := by have := eq_of_beq c4; omega
      have hp : kd = 5 := Decidable.byContradiction fun hq => by rw [bne_iff_ne.2 (show ((kd : Nat) : Int) ≠ 5 by omega)] at p5; cases p5
      rw [hk]; simp [inn, hp]
    have hP : pce kd (ts.getD j tD) = brk false (shw (ts.getD j tD)) := by unfold pce; rw [hb]
    refine hcB (fun g => hcT (decide_eq_true (by omega)) (hcT d1 (hcT d3 ⟨j, root, hl, rfl, hN.le hu, rfl, rfl, fun F2 hu2 => hcT ?_ ?_⟩))) fun g => hcT d1 (hcT d3 ⟨j, root, hl, rfl, hN.le hu, rfl, rfl, fun F2 hu2 => hcT ?_ ?_⟩)
    · have := snoc_t (ts := ts) (kd := kd) g hP
      refine decide_eq_true ?_
      rw [this, List.length_append] at hL1
      exact Nat.le_trans hL1 (by decide)
    · rw [wrapSucc j (by omega)]
      exact ⟨hu.trans hu2, rfl, rfl, rfl, rfl, rfl, rfl, by decide, by have := Nx14.go (J := accJ kd ts) hl'; rw [snoc_t (ts := ts) (kd := kd) g hP] at this; exact this⟩
    · have := snoc_f (ts := ts) (kd := kd) g hP
      refine decide_eq_true ?_
      rw [this, List.length_append] at hL1
      exact Nat.le_trans hL1 (by decide)
    · rw [wrapSucc j (by omega)]
      exact ⟨hu.trans hu2, rfl, rfl, rfl, rfl, rfl, rfl, by decide, by have := Nx14.go (J := accJ kd ts) hl'; rw [snoc_f (ts := ts) (kd := kd) g hP] at this; exact this⟩
  · have hb : inn kd (ts.getD j tD).kind = false := by 
      have q5 : (ts.getD j tD).kind ≠ 5 := by rw [beq_eq_false_iff_ne] at c5; omega
      have q6 : (ts.getD j tD).kind ≠ 6 := by rw [beq_eq_false_iff_ne] at c6; omega
      have q4 : (ts.getD j tD).kind ≠ 4 := by rw [beq_eq_false_iff_ne] at c4; omega
      unfold inn; rw [beq_eq_false_iff_ne.2 q5, beq_eq_false_iff_ne.2 q6, beq_eq_false_iff_ne.2 q4]; rfl
    have hP : pce kd (ts.getD j tD) = brk false (shw (ts.getD j tD)) := by unfold pce; rw [hb]
    refine hcB (fun g => hcT (decide_eq_true (by omega)) (hcT d1 (hcT d3 ⟨j, root, hl, rfl, hN.le hu, rfl, rfl, fun F2 hu2 => hcT ?_ ?_⟩))) fun g => hcT d1 (hcT d3 ⟨j, root, hl, rfl, hN.le hu, rfl, rfl, fun F2 hu2 => hcT ?_ ?_⟩)
    · have := snoc_t (ts := ts) (kd := kd) g hP
      refine decide_eq_true ?_
      rw [this, List.length_append] at hL1
      exact Nat.le_trans hL1 (by decide)
    · rw [wrapSucc j (by omega)]
      exact ⟨hu.trans hu2, rfl, rfl, rfl, rfl, rfl, rfl, by decide, by have := Nx14.go (J := accJ kd ts) hl'; rw [snoc_t (ts := ts) (kd := kd) g hP] at this; exact this⟩
    · have := snoc_f (ts := ts) (kd := kd) g hP
      refine decide_eq_true ?_
      rw [this, List.length_append] at hL1
      exact Nat.le_trans hL1 (by decide)
    · rw [wrapSucc j (by omega)]
      exact ⟨hu.trans hu2, rfl, rfl, rfl, rfl, rfl, rfl, by decide, by have := Nx14.go (J := accJ kd ts) hl'; rw [snoc_f (ts := ts) (kd := kd) g hP] at this; exact this⟩
end Go.Dc.Ke
end
section
set_option linter.unusedVariables false
set_option linter.unusedSimpArgs false
namespace Go.Dc.Ke
open Go.Proofs Go.RowKit Go.Shelf
set_option maxRecDepth 100000
def EndC (c : Int) : Prop := c = 0 ∨ c = 41
def AltRT (s : List UInt8) (e : Nat) : Prop := ∀ t a, Frm t → dep t ≤ e → Has s a (shw t) → EndC (hbI s ((a + (shw t).length : Nat) : Int)) → pAltD s (e + 1) a = .ok t (a + (shw t).length)
theorem wordly_ne {c : Int} (h : wordly c = true) : (c == 64) = false ∧ (c == 35) = false ∧ (c == 40) = false := by
  refine ⟨?_, ?_, ?_⟩ <;> (rw [beq_eq_false_iff_ne]; intro e; subst e; exact absurd h (by decide))
theorem begins_41 {c : Int} (h : begins c = true) : (c == 41) = false := by
  rw [beq_eq_false_iff_ne]; intro e; subst e; exact absurd h (by decide)
theorem mark_facts {j : Nat} (hj : j ≤ 2) : ∃ c : UInt8, (marksW.drop j).take 1 = [c] ∧ markOf ((c.toNat : Nat) : Int) = some j ∧ wordly ((c.toNat : Nat) : Int) = false ∧ ((c.toNat : Nat) : Int) ≠ 32 := by
  match j, hj with
  | 0, _ => exact ⟨42, rfl, rfl, rfl, by decide⟩
  | 1, _ => exact ⟨43, rfl, rfl, rfl, by decide⟩
  | 2, _ => exact ⟨63, rfl, rfl, rfl, by decide⟩
section
variable {s : List UInt8} {d : Nat}
theorem n16 (hd : d ≤ 16) (h0 : d ≠ 0) : Nat.beq (16 - d) 16 = false := by
  cases h : Nat.beq (16 - d) 16 with
  | false => rfl
  | true => have := Nat.eq_of_beq_eq_true h; omega
theorem brk_rt (hd : d ≤ 16) (hA : ∀ e, d = e + 1 → AltRT s e) {t : Tr} (hf : Frm t) (hp : dep t + 1 ≤ d) {a : Nat} (h : Has s a (40 :: (shw t ++ [41]))) : pAtom s (16 - d) (pAltD s d) a = .ok t (a + (shw t).length + 2) := by
  have h40 := h.hd
  have hb := shw_beg t hf
  have h1 := h.tl
  have h2 := h1.snd.hd
  have e1 : pAtom s (16 - d) (pAltD s d) a = pBr s (16 - d) (pAltD s d) a := by
    unfold pAtom; rw [h40]; rfl
  have hbeg := h1.fst.beg hb
  have e2 : blk s (a + 1) = a + 1 := blk_no (begins_ne hbeg)
  obtain ⟨e, rfl⟩ : ∃ e, d = e + 1 := ⟨d - 1, by omega⟩
  have e3 := hA e rfl t (a + 1) hf (by omega) h1.fst (.inr (by rw [h2]; rfl))
  rw [e1]
  unfold pBr
  rw [n16 hd (by omega), e2, begins_41 hbeg]
  simp only [cond_false]
  rw [e3]
  show (bif hbI s ((a + 1 + (shw t).length : Nat) : Int) == 41 then PR.ok t (a + 1 + (shw t).length + 1) else _) = _
  rw [h2]
  show PR.ok t (a + 1 + (shw t).length + 1) = _
  congr 1; omega
theorem mk_rt (hd : d ≤ 16) (hA : ∀ e, d = e + 1 → AltRT s e) : ∀ t, Frm t → pdt 4 t ≤ d → ∀ a, Has s a (pce 4 t) → wordly (hbI s ((a + (pce 4 t).length : Nat) : Int)) = false →
    ∃ u a1 m, pAtom s (16 - d) (pAltD s d) a = .ok u a1 ∧ m + 1 ≤ (pce 4 t).length ∧ ∀ f, pMarks s (f + m) u (blk s a1) = pMarks s f t (blk s (a + (pce 4 t).length))
  | .mk k w kids, hf, hp, a, h, hw => by
    have hf0 := hf
    simp only [Frm] at hf
    obtain ⟨hf, hk⟩ := hf
    have hk9 := hf.le
    have plain : inn 4 k = false → pce 4 (.mk k w kids) = shw (.mk k w kids) ∧ pdt 4 (.mk k w kids) = dep (.mk k w kids) := fun h => by
      unfold pce pdt pd brk
      show (bif inn 4 k then _ else _) = _ ∧ (bif inn 4 k then _ else _) = _
      rw [h]; exact ⟨rfl, rfl⟩
    have inside : inn 4 k = true → ∃ u a1 m, pAtom s (16 - d) (pAltD s d) a = .ok u a1 ∧ m + 1 ≤ (pce 4 (.mk k w kids)).length ∧ ∀ f, pMarks s (f + m) u (blk s a1) = pMarks s f (.mk k w kids) (blk s (a + (pce 4 (.mk k w kids)).length)) := fun hi => by
      have e1 : pce 4 (.mk k w kids) = 40 :: (shw (.mk k w kids) ++ [41]) := by
        unfold pce brk
        show (bif inn 4 k then _ else _) = _
        rw [hi]; rfl
      have e2 : pdt 4 (.mk k w kids) = dep (.mk k w kids) + 1 := by
        unfold pdt pd
        show (bif inn 4 k then _ else _) = _
        rw [hi]; rfl
      rw [e1] at h ⊢
      refine ⟨_, _, 0, brk_rt hd hA hf0 (by omega) h, by simp, fun f => ?_⟩
      simp only [List.length_cons, List.length_append, List.length_nil]
      congr 2
    rcases kinds hk9 with rfl | rfl | rfl | rfl | rfl | rfl | rfl | ⟨j, hj, rfl⟩
    · obtain ⟨e1, e2⟩ := plain rfl
      have hd1 : dep (.mk 0 w kids) = 1 := by simp only [dep, if_true]
      obtain ⟨rfl, rfl⟩ := hf.a (.inl rfl)
      have e3 : shw (.mk 0 [] []) = [40, 41] := rfl
      rw [e1, e3] at h ⊢
      have h40 := h.hd
      have h41 := h.tl.hd
      refine ⟨.mk 0 [] [], a + 2, 0, ?_, by simp, fun f => rfl⟩
      have e1 : pAtom s (16 - d) (pAltD s d) a = pBr s (16 - d) (pAltD s d) a := by
        unfold pAtom; rw [h40]; rfl
      have e2 : blk s (a + 1) = a + 1 := blk_no (by rw [h41]; decide)
      rw [e1]
      unfold pBr
      rw [n16 hd (by omega), e2, h41]
      rfl
    · obtain ⟨e1, e2⟩ := plain rfl
      obtain ⟨rfl, hne, hww⟩ := hf.b (.inl rfl)
      have e3 : shw (.mk 1 w []) = w := rfl
      rw [e1, e3] at h hw ⊢
      have hsc := scan_has w a h hww hw
      have hsub := sub_has h
      have hlt := h.le hne
      have hl : w.length ≠ 0 := fun e => hne (List.eq_nil_of_length_eq_zero e)
      refine ⟨.mk 1 w [], a + w.length, 0, ?_, by omega, fun f => rfl⟩
      obtain ⟨g1, g2, g3⟩ : ((hbI s a) == 64) = false ∧ ((hbI s a) == 35) = false ∧ ((hbI s a) == 40) = false := by
        cases w with
        | nil => exact absurd rfl hne
        | cons c w => rw [h.hd]; exact wordly_ne (hww c (by simp))
      unfold pAtom
      rw [g1, g2, g3]
      simp only [cond_false]
      unfold pWord
      rw [hsc, hsub]
      have : Nat.beq (a + w.length) a = false := by
        cases hb : Nat.beq (a + w.length) a with
        | false => rfl
        | true => have := Nat.eq_of_beq_eq_true hb; omega
      rw [this]; rfl
    · obtain ⟨e1, e2⟩ := plain rfl
      obtain ⟨rfl, hne, hww⟩ := hf.b (.inr rfl)
      have e3 : shw (.mk 2 w []) = 64 :: w := rfl
      rw [e1, e3] at h hw ⊢
      simp only [List.length_cons] at hw ⊢
      have h64 := h.hd
      have hsc := scan_has w (a + 1) h.tl hww (by rw [show a + 1 + w.length = a + (w.length + 1) by omega]; exact hw)
      have hsub := sub_has h.tl
      have hl : w.length ≠ 0 := fun e => hne (List.eq_nil_of_length_eq_zero e)
      refine ⟨.mk 2 w [], a + 1 + w.length, 0, ?_, by omega, fun f => by rw [show a + 1 + w.length = a + (w.length + 1) by omega]; rfl⟩
      unfold pAtom
      rw [h64]
      show pWord s 2 (a + 1) = _
      unfold pWord
      rw [hsc, hsub]
      have : Nat.beq (a + 1 + w.length) (a + 1) = false := by
        cases hb : Nat.beq (a + 1 + w.length) (a + 1) with
        | false => rfl
        | true => have := Nat.eq_of_beq_eq_true hb; omega
      rw [this]; rfl
    · obtain ⟨e1, e2⟩ := plain rfl
      obtain ⟨rfl, rfl⟩ := hf.a (.inr rfl)
      have e3 : shw (.mk 3 [] []) = txtW := rfl
      rw [e1, e3] at h ⊢
      have h35 : hbI s a = 35 := h.hd
      refine ⟨.mk 3 [] [], a + txtW.length, 0, ?_, by decide, fun f => rfl⟩
      unfold pAtom
      rw [h35, exN_has txtW a h]
      rfl
    · exact inside rfl
    · exact inside rfl
    · exact inside rfl
    · have hi : inn 4 (7 + j) = false := by rw [Bool.eq_false_iff, ne_eq, inn_iff]; omega
      obtain ⟨e1, e2⟩ := plain hi
      obtain ⟨rfl, hl1⟩ := hf.d (by omega)
      obtain ⟨u, rfl⟩ := List.length_eq_one_iff.1 hl1
      obtain ⟨c, hc, hm, hcw, hc32⟩ := mark_facts hj
      rw [e1, shwM j hj, hc] at h hw ⊢
      simp only [Frms] at hk
      have hpu : pdt 4 u ≤ d := by
        have : dep (.mk (7 + j) [] [u]) = pdt 4 u := by
          simp only [dep, deps]
          rw [if_neg (by omega)]
          have e1 : ∀ k', inn (7 + j) k' = inn 4 k' := fun k' => by
            rw [Bool.eq_iff_iff, inn_iff, inn_iff]; omega
          unfold pdt pd
          rw [e1]; simp
        omega
      have hcc := h.snd.hd
      obtain ⟨u1, a1, m, g1, g2, g3⟩ := mk_rt hd hA u hk.1 hpu a h.fst (by rw [hcc]; exact hcw)
      refine ⟨u1, a1, m + 1, g1, by simp only [List.length_append, List.length_cons, List.length_nil]; omega, fun f => ?_⟩
      have g4 := g3 (f + 1)
      rw [show f + 1 + m = f + (m + 1) by omega] at g4
      rw [g4, blk_no (by rw [hcc]; exact hc32)]
      show (match markOf (hbI s ((a + (pce 4 u).length : Nat) : Int)) with | some k => pMarks s f (.mk (7 + k) [] [u]) (blk s (a + (pce 4 u).length + 1)) | none => _) = _
      rw [hcc, hm]
      simp only [List.length_append, List.length_cons, List.length_nil]
      rfl
/-- An item. -/
theorem item_rt (hd : d ≤ 16) (hA : ∀ e, d = e + 1 → AltRT s e) {t : Tr} (hf : Frm t) (hp : pdt 4 t ≤ d) {a : Nat} (h : Has s a (pce 4 t)) (hw : wordly (hbI s ((a + (pce 4 t).length : Nat) : Int)) = false) (hm : markOf (hbI s (blk s (a + (pce 4 t).length) : Nat)) = none) :
    pItem s (16 - d) (pAltD s d) a = .ok t (blk s (a + (pce 4 t).length)) := by
  obtain ⟨u, a1, m, g1, g2, g3⟩ := mk_rt hd hA t hf hp a h hw
  have hl := h.le (shw_beg t hf).brk.ne
  unfold pItem
  rw [g1]
  show PR.ok (pMarks s (s.length + 1) u (blk s a1)).1 (pMarks s (s.length + 1) u (blk s a1)).2 = _
  have e : s.length + 1 = (s.length - m + 1) + m := by omega
  rw [e, g3 (s.length - m + 1)]
  have : pMarks s (s.length - m + 1) t (blk s (a + (pce 4 t).length)) = (t, blk s (a + (pce 4 t).length)) := by
    show (match markOf (hbI s (blk s (a + (pce 4 t).length) : Nat)) with | some k => _ | none => _) = _
    rw [hm]
  rw [this]
end
end Go.Dc.Ke
end
section
set_option linter.unusedVariables false
set_option linter.unusedSimpArgs false
namespace Go.Dc.Ke
open Go.Proofs Go.RowKit Go.Shelf
set_option maxRecDepth 100000
theorem begins_mark {c : Int} (h : begins c = true) : markOf c = none := by
  have h1 : (c == 42) = false := by rw [beq_eq_false_iff_ne]; intro e; subst e; exact absurd h (by decide)
  have h2 : (c == 43) = false := by rw [beq_eq_false_iff_ne]; intro e; subst e; exact absurd h (by decide)
  have h3 : (c == 63) = false := by rw [beq_eq_false_iff_ne]; intro e; subst e; exact absurd h (by decide)
  unfold markOf
  rw [h1, h2, h3]; rfl
def F6 (c : Int) : Prop := c = 0 ∨ c = 41 ∨ c = 124 ∨ c = 38
def F5 (c : Int) : Prop := c = 0 ∨ c = 41 ∨ c = 124
theorem F6.facts {c : Int} (h : F6 c) : wordly c = false ∧ c ≠ 32 ∧ markOf c = none ∧ begins c = false := by
  rcases h with rfl | rfl | rfl | rfl <;> exact ⟨rfl, by decide, rfl, rfl⟩
theorem jsg_len {sg : UInt8} : ∀ {l : List (List UInt8)}, (∀ x ∈ l, x ≠ []) → l.length ≤ (jsg sg l).length
  | [], _ => Nat.le_refl _
  | [x], h => by
    have := h x (by simp)
    have : x.length ≠ 0 := fun e => this (List.eq_nil_of_length_eq_zero e)
    show 1 ≤ x.length
    omega
  | x :: y :: l, h => by
    have ih := jsg_len (sg := sg) (l := y :: l) fun z hz => h z (by simp at hz ⊢; exact .inr hz)
    show _ ≤ (x ++ sg :: jsg sg (y :: l)).length
    simp only [List.length_append, List.length_cons] at ih ⊢
    omega
section
variable {s : List UInt8} {d : Nat}
theorem seqs_rt (hd : d ≤ 16) (hA : ∀ e, d = e + 1 → AltRT s e) : ∀ (ts : List Tr), Frms ts → (∀ t ∈ ts, pdt 4 t ≤ d) → ts ≠ [] → ∀ (l : List Tr) (a f : Nat), ts.length ≤ f → Has s a (jsg 32 (ts.map (pce 4))) → F6 (hbI s ((a + (jsg 32 (ts.map (pce 4))).length : Nat) : Int)) →
    pSeqs s (16 - d) (pAltD s d) f l a = .ok (rowT 4 (l ++ ts)) (a + (jsg 32 (ts.map (pce 4))).length)
  | [], _, _, h, _, _, _, _, _, _ => absurd rfl h
  | [t], hf, hp, _, l, a, f, hl, h, hF => by
    simp only [Frms] at hf
    simp only [List.map_cons, List.map_nil, jsg] at h hF ⊢
    obtain ⟨g1, g2, g3, g4⟩ := hF.facts
    obtain ⟨f, rfl⟩ : ∃ f', f = f' + 1 := ⟨f - 1, by simp at hl; omega⟩
    have hb := h.beg (shw_beg t hf.1).brk
    have e1 : blk s (a + (pce 4 t).length) = a + (pce 4 t).length := blk_no g2
    have hi := item_rt hd hA hf.1 (hp t (by simp)) h g1 (by rw [e1]; exact g3)
    show (bif begins (hbI s a) then (pItem s (16 - d) (pAltD s d) a).bind (fun t a1 => pSeqs s (16 - d) (pAltD s d) f (l ++ [t]) a1) else _) = _
    rw [hb, hi, e1]
    show pSeqs s (16 - d) (pAltD s d) f (l ++ [t]) (a + (pce 4 t).length) = _
    cases f with
    | zero => rfl
    | succ f =>
      show (bif begins (hbI s ((a + (pce 4 t).length : Nat) : Int)) then _ else _) = _
      rw [g4]; rfl
  | t :: u :: ts, hf, hp, _, l, a, f, hl, h, hF => by
    have hf0 := hf
    simp only [Frms] at hf
    simp only [List.map_cons, jsg] at h hF ⊢
    obtain ⟨f, rfl⟩ : ∃ f', f = f' + 1 := ⟨f - 1, by simp at hl; omega⟩
    have hb := h.fst.beg (shw_beg t hf.1).brk
    have h32 : hbI s ((a + (pce 4 t).length : Nat) : Int) = 32 := h.snd.hd
    have hr : Has s (a + (pce 4 t).length + 1) (jsg 32 ((u :: ts).map (pce 4))) := h.snd.tl
    have hbu : begins (hbI s ((a + (pce 4 t).length + 1 : Nat) : Int)) = true := hr.beg (Beg.jsg (fun x hx => by
      obtain ⟨v, hv, rfl⟩ := List.mem_map.1 hx
      exact (shw_beg v (Frms.mem (ts := u :: ts) (by simp only [Frms]; exact hf.2) v hv)).brk) (by simp))
    have e1 : blk s (a + (pce 4 t).length) = a + (pce 4 t).length + 1 := blk_one (c := 32) h32 (begins_ne hbu)
    have hi := item_rt hd hA hf.1 (hp t (by simp)) h.fst (by rw [h32]; rfl) (by rw [e1]; exact begins_mark hbu)
    show (bif begins (hbI s a) then (pItem s (16 - d) (pAltD s d) a).bind (fun t a1 => pSeqs s (16 - d) (pAltD s d) f (l ++ [t]) a1) else _) = _
    rw [hb, hi, e1]
    show pSeqs s (16 - d) (pAltD s d) f (l ++ [t]) (a + (pce 4 t).length + 1) = _
    have e2 : a + (pce 4 t ++ 32 :: jsg 32 (pce 4 u :: List.map (pce 4) ts)).length = a + (pce 4 t).length + 1 + (jsg 32 ((u :: ts).map (pce 4))).length := by
      simp only [List.length_append, List.length_cons, List.map_cons]; omega
    rw [e2] at hF ⊢
    rw [seqs_rt hd hA (u :: ts) (by simp only [Frms]; exact hf.2) (fun v hv => hp v (by simp at hv ⊢; exact .inr hv)) (by simp) (l ++ [t]) (a + (pce 4 t).length + 1) f (by simp at hl ⊢; omega) hr hF]
    simp
theorem pce_ne {kd : Nat} {t : Tr} (hf : Frm t) : pce kd t ≠ [] := (shw_beg t hf).brk.ne
theorem map_ne {kd : Nat} {ts : List Tr} (hf : Frms ts) : ∀ x ∈ ts.map (pce kd), x ≠ [] := fun x hx => by
  obtain ⟨t, ht, rfl⟩ := List.mem_map.1 hx; exact pce_ne (hf.mem t ht)
theorem pce_eq {a b : Nat} {t : Tr} (h : inn a t.kind = inn b t.kind) : pce a t = pce b t ∧ pdt a t = pdt b t := by
  unfold pce pdt pd; rw [h]; exact ⟨rfl, rfl⟩
theorem seq_rt (hd : d ≤ 16) (hA : ∀ e, d = e + 1 → AltRT s e) {t : Tr} (hf : Frm t) (hp : pdt 6 t ≤ d) {a : Nat} (h : Has s a (pce 6 t)) (hF : F6 (hbI s ((a + (pce 6 t).length : Nat) : Int))) :
    pSeq s (16 - d) (pAltD s d) a = .ok t (a + (pce 6 t).length) := by
  have hb := h.beg (shw_beg t hf).brk
  have hle := h.le (pce_ne hf)
  have e0 : pSeq s (16 - d) (pAltD s d) a = pSeqs s (16 - d) (pAltD s d) (s.length + 2) [] a := by
    unfold pSeq
    rw [blk_no (begins_ne hb)]
    show _ = (bif begins (hbI s a) then (pItem s (16 - d) (pAltD s d) a).bind (fun t a1 => pSeqs s (16 - d) (pAltD s d) (s.length + 1) ([] ++ [t]) a1) else _)
    rw [hb]; rfl
  rw [e0]
  by_cases hk : t.kind = 4
  · match t, hf, hp, h, hF, hle, hk with
    | .mk k w kids, hf, hp, h, hF, hle, hk =>
      have hk : k = 4 := hk
      subst hk
      simp only [Frm] at hf
      obtain ⟨hf, hfs⟩ := hf
      obtain ⟨rfl, h2⟩ := hf.c (.inl rfl)
      have e1 : pce 6 (.mk 4 [] kids) = jsg 32 (kids.map (pce 4)) := shw4 [] kids
      have e2 : pdt 6 (.mk 4 [] kids) = deps 4 kids := by show dep (.mk 4 [] kids) = _; simp only [dep]; rw [if_neg (by omega)]
      rw [e1] at h hF hle ⊢
      rw [e2] at hp
      have hne : kids ≠ [] := fun e => by rw [e] at h2; simp at h2
      have hlen := jsg_len (sg := 32) (map_ne (kd := 4) hfs)
      rw [List.length_map] at hlen
      rw [seqs_rt hd hA kids hfs (deps_mem hp) hne [] a (s.length + 2) (by omega) h hF]
      match kids, h2 with
      | t :: u :: ts, _ => rfl
  · have e1 := pce_eq (a := 6) (b := 4) (t := t) (by rw [Bool.eq_iff_iff, inn_iff, inn_iff]; omega)
    rw [e1.1] at h hF hle ⊢
    rw [e1.2] at hp
    have := seqs_rt hd hA [t] (by simp only [Frms]; exact ⟨hf, trivial⟩) (fun u hu => by simp only [List.mem_singleton] at hu; rw [hu]; exact hp) (by simp) [] a (s.length + 2) (by simp) h hF
    exact this
theorem joins_rt {sg : UInt8} {kd : Nat} {part : Nat → PR} {pc : Tr → List UInt8} {FF : Int → Prop} (hsg : FF ((sg.toNat : Nat) : Int)) : ∀ (ts : List Tr), (∀ t ∈ ts, ∀ a, Has s a (pc t) → FF (hbI s ((a + (pc t).length : Nat) : Int)) → part a = .ok t (a + (pc t).length)) → ts ≠ [] → ∀ (l : List Tr) (a f : Nat), ts.length ≤ f + 1 → Has s a (jsg sg (ts.map pc)) → FF (hbI s ((a + (jsg sg (ts.map pc)).length : Nat) : Int)) → hbI s ((a + (jsg sg (ts.map pc)).length : Nat) : Int) ≠ ((sg.toNat : Nat) : Int) →
    ((part a).bind fun t a1 => pJoins s ((sg.toNat : Nat) : Int) kd part f (l ++ [t]) a1) = .ok (rowT kd (l ++ ts)) (a + (jsg sg (ts.map pc)).length)
  | [], _, h, _, _, _, _, _, _, _ => absurd rfl h
  | [t], hp, _, l, a, f, hl, h, hF, hn => by
    simp only [List.map_cons, List.map_nil, jsg] at h hF hn ⊢
    rw [hp t (by simp) a h hF]
    show pJoins s _ kd part f (l ++ [t]) (a + (pc t).length) = _
    cases f with
    | zero => rfl
    | succ f =>
      show (bif hbI s ((a + (pc t).length : Nat) : Int) == ((sg.toNat : Nat) : Int) then _ else _) = _
      rw [beq_eq_false_iff_ne.2 hn]; rfl
  | t :: u :: ts, hp, _, l, a, f, hl, h, hF, hn => by
    simp only [List.map_cons, jsg] at h hF hn ⊢
    obtain ⟨f, rfl⟩ : ∃ f', f = f' + 1 := ⟨f - 1, by simp at hl; omega⟩
    have hs := h.snd.hd
    have hr : Has s (a + (pc t).length + 1) (jsg sg ((u :: ts).map pc)) := h.snd.tl
    rw [hp t (by simp) a h.fst (by rw [hs]; exact hsg)]
    show (bif hbI s ((a + (pc t).length : Nat) : Int) == ((sg.toNat : Nat) : Int) then (part (a + (pc t).length + 1)).bind (fun t' a1 => pJoins s ((sg.toNat : Nat) : Int) kd part f ((l ++ [t]) ++ [t']) a1) else _) = _
    rw [hs, beq_self_eq_true]
    have e2 : a + (pc t ++ sg :: jsg sg (pc u :: List.map pc ts)).length = a + (pc t).length + 1 + (jsg sg ((u :: ts).map pc)).length := by
      simp only [List.length_append, List.length_cons, List.map_cons]; omega
    rw [e2] at hF hn ⊢
    have := joins_rt (kd := kd) hsg (u :: ts) (fun v hv => hp v (by simp at hv ⊢; exact .inr hv)) (by simp) (l ++ [t]) (a + (pc t).length + 1) f (by simp at hl ⊢; omega) hr hF hn
    rw [List.append_assoc] at this
    exact this
theorem all_rt (hd : d ≤ 16) (hA : ∀ e, d = e + 1 → AltRT s e) {t : Tr} (hf : Frm t) (hp : pdt 5 t ≤ d) {a : Nat} (h : Has s a (pce 5 t)) (hF : F5 (hbI s ((a + (pce 5 t).length : Nat) : Int))) :
    pAll s (16 - d) (pAltD s d) a = .ok t (a + (pce 5 t).length) := by
  have hle := h.le (pce_ne hf)
  have hF6 : ∀ {c : Int}, F5 c → F6 c := fun h => by rcases h with h | h | h <;> simp [F6, h]
  have hn : ∀ {c : Int}, F5 c → c ≠ (((38 : UInt8).toNat : Nat) : Int) := fun h => by rcases h with rfl | rfl | rfl <;> decide
  by_cases hk : t.kind = 6
  · match t, hf, hp, h, hF, hle, hk with
    | .mk k w kids, hf, hp, h, hF, hle, hk =>
      have hk : k = 6 := hk
      subst hk
      simp only [Frm] at hf
      obtain ⟨hf, hfs⟩ := hf
      obtain ⟨rfl, h2⟩ := hf.c (.inr (.inr rfl))
      have e1 : pce 5 (.mk 6 [] kids) = jsg 38 (kids.map (pce 6)) := shw6 [] kids
      have e2 : pdt 5 (.mk 6 [] kids) = deps 6 kids := by show dep (.mk 6 [] kids) = _; simp only [dep]; rw [if_neg (by omega)]
      rw [e1] at h hF hle ⊢
      rw [e2] at hp
      have hne : kids ≠ [] := fun e => by rw [e] at h2; simp at h2
      have hlen := jsg_len (sg := 38) (map_ne (kd := 6) hfs)
      rw [List.length_map] at hlen
      have := joins_rt (s := s) (sg := 38) (kd := 6) (part := pSeq s (16 - d) (pAltD s d)) (pc := pce 6) (FF := F6) (.inr (.inr (.inr rfl))) kids (fun t ht a h hF => seq_rt hd hA (hfs.mem t ht) (deps_mem hp t ht) h hF) hne [] a (s.length + 1) (by omega) h (hF6 hF) (hn hF)
      refine this.trans ?_
      match kids, h2 with
      | t :: u :: ts, _ => rfl
  · have e1 := pce_eq (a := 5) (b := 6) (t := t) (by rw [Bool.eq_iff_iff, inn_iff, inn_iff]; omega)
    rw [e1.1] at h hF hle ⊢
    rw [e1.2] at hp
    exact joins_rt (s := s) (sg := 38) (kd := 6) (part := pSeq s (16 - d) (pAltD s d)) (pc := pce 6) (FF := F6) (.inr (.inr (.inr rfl))) [t] (fun u hu b hb hFb => by simp only [List.mem_singleton] at hu; subst hu; exact seq_rt hd hA hf hp hb hFb) (by simp) [] a (s.length + 1) (by simp) h (hF6 hF) (hn hF)
theorem alt_rt (s : List UInt8) : ∀ d, d ≤ 16 → AltRT s d
  | d, hd => fun t a hf hp h hE => by
    have hA : ∀ e, d = e + 1 → AltRT s e := fun e he => alt_rt s e (by omega)
    have hF5 : ∀ {c : Int}, EndC c → F5 c := fun h => by rcases h with h | h <;> simp [F5, h]
    have hn : ∀ {c : Int}, EndC c → c ≠ (((124 : UInt8).toNat : Nat) : Int) := fun h => by rcases h with rfl | rfl <;> decide
    have hle := h.le (shw_beg t hf).ne
    show pJoin s 124 5 (pAll s (16 - d) (pAltD s d)) a = _
    by_cases hk : t.kind = 5
    · match t, hf, hp, h, hE, hle, hk with
      | .mk k w kids, hf, hp, h, hE, hle, hk =>
        have hk : k = 5 := hk
        subst hk
        simp only [Frm] at hf
        obtain ⟨hf, hfs⟩ := hf
        obtain ⟨rfl, h2⟩ := hf.c (.inr (.inl rfl))
        have e2 : dep (.mk 5 [] kids) = deps 5 kids := by simp only [dep]; rw [if_neg (by omega)]
        rw [shw5] at h hE hle ⊢
        rw [e2] at hp
        have hne : kids ≠ [] := fun e => by rw [e] at h2; simp at h2
        have hlen := jsg_len (sg := 124) (map_ne (kd := 5) hfs)
        rw [List.length_map] at hlen
        have := joins_rt (s := s) (sg := 124) (kd := 5) (part := pAll s (16 - d) (pAltD s d)) (pc := pce 5) (FF := F5) (.inr (.inr rfl)) kids (fun t ht a h hF => all_rt hd hA (hfs.mem t ht) (deps_mem hp t ht) h hF) hne [] a (s.length + 1) (by omega) h (hF5 hE) (hn hE)
        refine this.trans ?_
        match kids, h2 with
        | t :: u :: ts, _ => rfl
    · have hi : inn 5 t.kind = false := by rw [Bool.eq_false_iff, ne_eq, inn_iff]; omega
      have e1 : pce 5 t = shw t := by unfold pce brk; rw [hi]; rfl
      have e2 : pdt 5 t = dep t := by unfold pdt pd; rw [hi]; rfl
      rw [← e1] at h hE hle ⊢
      exact joins_rt (s := s) (sg := 124) (kd := 5) (part := pAll s (16 - d) (pAltD s d)) (pc := pce 5) (FF := F5) (.inr (.inr rfl)) [t] (fun u hu b hb hFb => by simp only [List.mem_singleton] at hu; subst hu; exact all_rt hd hA hf (by omega) hb hFb) (by simp) [] a (s.length + 1) (by simp) h (hF5 hE) (hn hE)
end
/-- The text of what was told is told as that. -/
theorem parse_shw {t : Tr} (hf : Frm t) (hd : dep t ≤ 16) (hl : (shw t).length ≤ 256) : parse (shw t) = .ok t 0 := by
  have h := alt_rt (shw t) 16 (Nat.le_refl _) t 0 hf hd ⟨[], by simp⟩ (.inl (hbI_end (by omega)))
  unfold parse
  rw [decide_eq_false (show ¬ (shw t).length > 256 by omega)]
  simp only [cond_false]
  rw [h]
  show (bif decide (0 + (shw t).length < (shw t).length) then _ else _) = _
  rw [decide_eq_false (by omega)]
  rfl
#print axioms parse_shw
end Go.Dc.Ke
end
section
set_option linter.unusedVariables false
set_option linter.unusedSimpArgs false
namespace Go.Dc.Ke
open Go.Proofs Go.RowKit Go.Shelf
set_option maxRecDepth 100000
theorem jsg_snoc {sg : UInt8} {x : List UInt8} : ∀ (l : List (List UInt8)), jsg sg (l ++ [x]) = match l with | [] => x | _ :: _ => jsg sg l ++ sg :: x
  | [] => rfl
  | [y] => rfl
  | y :: z :: l => by
    have := jsg_snoc (sg := sg) (x := x) (z :: l)
    show y ++ sg :: jsg sg ((z :: l) ++ [x]) = (y ++ sg :: jsg sg (z :: l)) ++ sg :: x
    rw [this]; simp
theorem accJ_jsg {kd : Nat} {sg : UInt8} (hb : btw (kd : Int) = [sg]) (ts : List Tr) : ∀ j, j ≤ ts.length → accJ kd ts j = jsg sg ((ts.take j).map (pce kd))
  | 0, _ => rfl
  | j + 1, hj => by
    have ih := accJ_jsg hb ts j (by omega)
    show (bif Nat.blt 0 j then accJ kd ts j ++ btw (kd : Int) else accJ kd ts j) ++ pce kd (ts.getD j tD) = _
    rw [List.take_add_one, List.getElem?_eq_getElem (by omega : j < ts.length), Option.toList_some, List.map_append, List.map_cons, List.map_nil, jsg_snoc, ih, hb, List.getD_eq_getElem?_getD, List.getElem?_eq_getElem (by omega : j < ts.length)]
    cases j with
    | zero => rfl
    | succ j =>
      match ts, hj with
      | t :: ts, _ =>
        show (jsg sg _ ++ [sg]) ++ _ = jsg sg _ ++ sg :: _
        simp
theorem shw_acc {k : Nat} {w : List UInt8} {ts : List Tr} (hf : Frm1 k w ts) :
    (k = 4 ∨ k = 5 ∨ k = 6 → shw (.mk k w ts) = accJ k ts ts.length) ∧ (∀ j, j ≤ 2 → k = 7 + j → shw (.mk k w ts) = accJ k ts ts.length ++ (marksW.drop j).take 1) := by
  have h := fun (sg : UInt8) (hb : btw (k : Int) = [sg]) => accJ_jsg hb ts ts.length (Nat.le_refl _)
  simp only [List.take_length] at h
  refine ⟨?_, ?_⟩
  · rintro (rfl | rfl | rfl)
    · rw [shw4, h 32 rfl]
    · rw [shw5, h 124 rfl]
    · rw [shw6, h 38 rfl]
  · rintro j hj rfl
    obtain ⟨u, rfl⟩ := List.length_eq_one_iff.1 (hf.d (by omega)).2
    rw [shwM j hj]
    congr 1
    show pce 4 u = (bif Nat.blt 0 0 then _ else []) ++ pce (7 + j) u
    have : inn 4 u.kind = inn (7 + j) u.kind := by rw [Bool.eq_iff_iff, inn_iff, inn_iff]; omega
    rw [(pce_eq this).1]; rfl
theorem acc_le {k : Nat} {w : List UInt8} {ts : List Tr} (hf : Frm1 k w ts) (hl : (shw (.mk k w ts)).length ≤ 1000000) : (accJ k ts ts.length).length ≤ 2000000 := by
  have h9 := hf.le
  have hs := shw_acc hf
  rcases kinds h9 with rfl | rfl | rfl | rfl | rfl | rfl | rfl | ⟨j, hj, rfl⟩
  · rw [(hf.a (.inl rfl)).2]; simp [accJ]
  · rw [(hf.b (.inl rfl)).1]; simp [accJ]
  · rw [(hf.b (.inr rfl)).1]; simp [accJ]
  · rw [(hf.a (.inr rfl)).2]; simp [accJ]
  · rw [← hs.1 (by omega)]; omega
  · rw [← hs.1 (by omega)]; omega
  · rw [← hs.1 (by omega)]; omega
  · rw [hs.2 j hj rfl, List.length_append] at hl; omega
theorem loop14 {R : Nat → RoRow} (hR : Free6 R) {kd : Nat} {w : List UInt8} {ts : List Tr} {is : List Nat} {N : List NE} {root : Int} (hs : ∀ t ∈ ts, ShowN t) (hl : ∀ t ∈ ts, (shw t).length ≤ 2000000) (hT : TrNs N ts is) (hL : (accJ kd ts ts.length).length ≤ 2000000) (hn : ts.length ≤ 100000) (HP : HPt) :
    ∀ st k F, lp14 (kd : Int) w is.length root N (accJ kd ts ts.length) st k F → SafeX Try.prog (R6 R is) [] (.block 0 (.loop (loopOf fi14 0))) st F k HP := by
  rintro ⟨TM, rows⟩ k F ⟨h0, h1, h2, h3, h4, h5, hN, hk⟩
  simp only at h0 h1 h2 h3 h4 h5
  subst h5
  have hlen : ts.length = is.length := hT.len
  refine SafeX.loop_block (Inv := fun m st F' => Up F F' ∧ ∃ j, j ≤ ts.length ∧ m = ts.length - j ∧ st = fam14 (accJ kd ts j) j root N (kd : Int) w is.length) ?_ ?_
  · refine fit3 (kd := (kd : Int)) (w := w) (n := is.length) rfl rfl rfl (T := tm14 [] 0) ?_ ⟨_, Up.refl F, 0, Nat.zero_le _, rfl, rfl⟩
    rw [tm14_spr]
    exact VwL.ofKnown h0 ⟨by rw [h1]; exact Vw.ptrI (by simp) rfl, by rw [h2]; exact Vw.ptrI (by simp) rfl, by rw [h3]; exact Vw.strI, by rw [h4]; exact Vw.intI, trivial⟩
  · rintro m st' F' ⟨hu, j, hj, rfl, rfl⟩
    refine (round14 hR (w := w) hs hl hT hL hn HP j hj F F' hN hu).mono ?_ fun _ _ _ h => h
    rintro e ⟨TM2, rows2⟩ F2 ⟨hu2, g1, g2, g3, g4, g5, g6, g7, hx⟩
    simp only at g1 g2 g3 g4 g5 g6 g7 hx
    generalize e8 : nthV TM2 8 = v8 at hx
    generalize e9 : nthV TM2 9 = v9 at hx
    cases hx with
    | go h =>
      refine fit3 (kd := (kd : Int)) (w := w) (n := is.length) g4 g5 g6 (T := tm14 (accJ kd ts (j + 1)) (j + 1)) ?_ ⟨ts.length - (j + 1), by omega, hu2, j + 1, by omega, rfl, rfl⟩
      rw [tm14_spr]
      exact VwL.ofKnown g1 ⟨by rw [g2]; exact Vw.ptrI (by simp) rfl, by rw [g3]; exact Vw.ptrI (by simp) rfl, by rw [e8]; exact Vw.strI, by rw [e9]; exact Vw.intI, trivial⟩
    | done h =>
      have hj' : j = ts.length := by omega
      subst hj'
      refine fit3 (kd := (kd : Int)) (w := w) (n := is.length) g4 g5 g6 (T := tm14 (accJ kd ts ts.length) is.length) ?_ (hk F2 hu2)
      rw [tm14_spr]
      exact VwL.ofKnown g1 ⟨by rw [g2]; exact Vw.ptrI (by simp) rfl, by rw [g3]; exact Vw.ptrI (by simp) rfl, by rw [e8]; exact Vw.strI, by rw [e9, hlen]; exact Vw.intI, trivial⟩
noncomputable abbrev stE14 (root : Int) (N : List NE) (r : List UInt8) : St := ⟨spr [(6, .str r)] 0 114, [some (trow 1 N.length root), some (arow N), none]⟩
theorem tail14 {R : Nat → RoRow} (hR : Free6 R) {kd : Nat} {w : List UInt8} {ts : List Tr} {is : List Nat} {N : List NE} {root : Int} (hf : Frm1 kd w ts) (hs : ∀ t ∈ ts, ShowN t) (hl : ∀ t ∈ ts, (shw t).length ≤ 2000000) (hT : TrNs N ts is) (hL : (shw (.mk kd w ts)).length ≤ 1000000) (hn : ts.length ≤ 100000) (F : Fz) (hN : NF F N) (HP : HPt) :
    SafeX Try.prog (R6 R is) [] (tailC 3 fi14.body) (st14 root N (kd : Int) w is.length) F (fun e st' F' => e = .ret ∧ st' = stE14 root N (shw (.mk kd w ts)) ∧ Up F F') HP := by
  have hacc := acc_le hf hL
  have h1 : SafeX Try.prog (R6 R is) [] (tailC 3 fi14.body) (st14 root N (kd : Int) w is.length) F (fun e st' F' => e = .ret ∧ st'.tmps.length = 114 ∧ nthV st'.tmps 6 = .str (shw (.mk kd w ts)) ∧ st'.rows.live 0 = some (trow 1 N.length root) ∧ st'.rows.live 1 = some (arow N) ∧ 3 ≤ st'.rows.length ∧ Up F F') HP := by
    refine SafeX.rnx mixed ((env14_ok hR hs hl hT HP).addLoop (f := 14) (fi := fi14) (by kernel_rfl) (i := 0) (body := .loop (loopOf fi14 0)) (by kernel_rfl) (loop14 hR (kd := kd) (w := w) (root := root) hs hl hT hacc hn HP)) (f := 14) (fun p hp => by
      unfold Env.subsOf; rw [show ((env14 R ts is N).addLoop 14 0 (lp14 (kd : Int) w is.length root N (accJ kd ts ts.length))).F 14 = some fi14 by kernel_rfl]; exact subs_tail 3 _ p hp) 1000 ?_
    refine Eq.mpr (vt14 R ts is root N (kd : Int) w is.length (accJ kd ts ts.length) (fun e n a r0 r1 m F' => e = .ret ∧ n = 114 ∧ a = .str (shw (.mk kd w ts)) ∧ r0 = some (trow 1 N.length root) ∧ r1 = some (arow N) ∧ 3 ≤ m ∧ Up F F') F) ?_
    refine ⟨rfl, rfl, rfl, rfl, rfl, rfl, hN, fun F' hu => ?_⟩
    have h9 := hf.le
    have hsh := shw_acc hf
    have nk : ∀ n : Nat, kd ≠ n → (((kd : Nat) : Int) == ((n : Nat) : Int)) = false := fun n h => by rw [beq_eq_false_iff_ne]; omega
    rcases kinds h9 with rfl | rfl | rfl | rfl | rfl | rfl | rfl | ⟨j, hj, rfl⟩
    · exact hcT rfl ⟨rfl, rfl, rfl, rfl, rfl, by decide, hu⟩
    · exact hcF rfl (hcT rfl ⟨rfl, rfl, rfl, rfl, rfl, by decide, hu⟩)
    · have e3 : shw (.mk 2 w ts) = 64 :: w := rfl
      rw [e3] at hL
      exact hcF rfl (hcF rfl (hcT rfl (hcT (decide_eq_true (by simp only [List.length_cons] at hL; omega)) ⟨rfl, rfl, rfl, rfl, rfl, by decide, hu⟩)))
    · exact hcF rfl (hcF rfl (hcF rfl (hcT rfl ⟨rfl, rfl, rfl, rfl, rfl, by decide, hu⟩)))
    · exact hcF rfl (hcF rfl (hcF rfl (hcF rfl (hcF rfl (hcF rfl (hcF rfl ⟨rfl, rfl, by rw [hsh.1 (by omega)], rfl, rfl, by decide, hu⟩))))))
    · exact hcF rfl (hcF rfl (hcF rfl (hcF rfl (hcF rfl (hcF rfl (hcF rfl ⟨rfl, rfl, by rw [hsh.1 (by omega)], rfl, rfl, by decide, hu⟩))))))
    · exact hcF rfl (hcF rfl (hcF rfl (hcF rfl (hcF rfl (hcF rfl (hcF rfl ⟨rfl, rfl, by rw [hsh.1 (by omega)], rfl, rfl, by decide, hu⟩))))))
    · have e3 := hsh.2 j hj rfl
      match j, hj with
      | 0, _ => exact hcF rfl (hcF rfl (hcF rfl (hcF rfl (hcT rfl (hcT (decide_eq_true (by omega)) ⟨rfl, rfl, by rw [e3]; rfl, rfl, rfl, by decide, hu⟩)))))
      | 1, _ => exact hcF rfl (hcF rfl (hcF rfl (hcF rfl (hcF rfl (hcT rfl (hcT (decide_eq_true (by omega)) ⟨rfl, rfl, by rw [e3]; rfl, rfl, rfl, by decide, hu⟩))))))
      | 2, _ => exact hcF rfl (hcF rfl (hcF rfl (hcF rfl (hcF rfl (hcF rfl (hcT rfl (hcT (decide_eq_true (by omega)) ⟨rfl, rfl, by rw [e3]; rfl, rfl, rfl, by decide, hu⟩)))))))
  refine SafeX.post h1 ?_
  rintro e ⟨TM, rows⟩ F' _ ⟨rfl, h2, h3, h4, h5, h6, hu⟩
  simp only at h2 h3 h4 h5 h6
  refine ToX.fit (stE := stE14 root N (shw (.mk kd w ts))) ⟨some, ⟨⟨fun c b hc hb => by cases hb; have : c < 3 := hc; simp only; omega, fun c c' b _ _ h h' => by cases h; cases h'; rfl, fun c r hc => ?_⟩, ?_⟩, fun _ _ => rfl, Nat.le_refl _⟩ (ToX.here ⟨rfl, rfl, hu⟩)
  · match c with
    | 0 => cases hc; exact .inl ⟨0, _, rfl, h4, trow_v rfl (by simp)⟩
    | 1 => cases hc; exact .inl ⟨1, _, rfl, h5, (arow_g N).vw _ _⟩
    | 2 => cases hc
    | c + 3 => simp [Rows.live] at hc
  · exact VwL.ofKnown h2 ⟨by rw [h3]; exact Vw.strI, trivial⟩
end Go.Dc.Ke
end
section
set_option linter.unusedVariables false
set_option linter.unusedSimpArgs false
namespace Go.Dc.Ke
open Go.Proofs Go.RowKit Go.Shelf
set_option maxRecDepth 100000
theorem res14 : fi14.results = [.tmp 6] := by kernel_rfl
theorem tm14s_spr : tm14s = spr [(0, .ptr false 0 0 0), (7, .ptr false 2 0 0)] 0 114 := by kernel_rfl
abbrev e62 (kd : Int) (w : List UInt8) (x n : Nat) : Row := .lst 62 3 [.agg [.int .i64 kd, .str w, .sl true (x + 15) 0 n .no]]
theorem show_stepN (kd : Nat) (w : List UInt8) (ts : List Tr) (hf : Frm1 kd w ts) (hL : (shw (.mk kd w ts)).length ≤ 1000000) (hn : ts.length ≤ 100000) (hs : ∀ t ∈ ts, ShowN t) (hl : ∀ t ∈ ts, (shw t).length ≤ 2000000) : ShowN (.mk kd w ts) := by
  intro R hR i root N F k0 HP hN ht hk
  simp only [TrN] at ht
  obtain ⟨e, he, hkd, hw, hT⟩ := ht
  have hi : i < N.length := (List.getElem?_eq_some_iff.1 he).1
  have hem : e ∈ N := List.mem_of_getElem? he
  have hfrN := hN.is e hem
  have tl := tail14 hR (root := root) hf hs hl hT hL hn F hN (fun _ _ _ => False)
  have s6 := SafeX.swap (R := R) (k := 6) (x := e.x) (by decide) hfrN hR.n hR.q tl (Q1 := fun x st' F' => x = .ret ∧ st' = stE14 root N (shw (.mk kd w ts)) ∧ Up F F') (HP1 := fun _ _ _ => False) (by rintro x st' F' _ ⟨rfl, rfl, hu⟩; exact ⟨by kernel_rfl, rfl, rfl, hu⟩) (fun v h' F' _ h => h.elim)
  have e0 : nmSt 6 e.x (st14 root N (kd : Int) w e.kids.length) = ⟨tm14s, [some (trow 1 N.length root), some (arow N), some (e62 (kd : Int) w e.x e.kids.length)]⟩ := by kernel_rfl
  rw [e0] at s6
  refine SafeCallX.post (Q := fun v h' F' => v = .str (shw (.mk kd w ts)) ∧ h' = (stE14 root N (shw (.mk kd w ts))).rows ∧ Up F F') (HP := fun _ _ _ => False) ?_ ?_ (fun v h' F' _ h => h.elim)
  · refine SafeCallX.of_body (fi := fi14) (bx_ok R [] (fun _ _ _ => False)).T ((bx_ok R [] (fun _ _ _ => False)).F 14 fi14 (by kernel_rfl)) ?_
    have main : SafeX Try.prog R [] fi14.body ⟨enterT [.ptr false 0 0 0, .int .i64 (i : Nat), .bool false] fi14.ntmps, [some (trow 1 N.length root), some (arow N)]⟩ F (fun x st' F' => x = .ret ∧ st' = stE14 root N (shw (.mk kd w ts)) ∧ Up F F') (fun _ _ _ => False) := by
      refine chain_ok (bx_ok R [] _) (f := 14) (K := fun st F1 => F1 = F ∧ st.tmps.length = 114 ∧ nthV st.tmps 0 = .ptr false 0 0 0 ∧ nthV st.tmps 7 = .ptr false 2 0 0 ∧ st.rows = [some (trow 1 N.length root), some (arow N), some (e62 (kd : Int) w e.x e.kids.length)]) 1000 3 fi14.body _ _ (fun p hp => by unfold Env.subsOf; rw [show (bx R).F 14 = some fi14 by kernel_rfl]; exact hp) ?_ ?_
      · rintro ⟨TM, rows⟩ F1 ⟨rfl, h1, h2, h3, h4⟩
        simp only at h1 h2 h3 h4
        subst h4
        refine SafeX.pre (ToX.fitW (stE := ⟨tm14s, [some (trow 1 N.length root), some (arow N), some (e62 (kd : Int) w e.x e.kids.length)]⟩) some ⟨fun c c' b r r' _ _ h h' => by cases h; cases h'; rfl, fun c r hc => ?_⟩ ?_ (fun _ _ => rfl) (Nat.le_refl _) (ToX.here s6))
        · match c with
          | 0 => cases hc; exact .inl ⟨0, _, rfl, rfl, trow_v rfl (by simp)⟩
          | 1 => cases hc; exact .inl ⟨1, _, rfl, rfl, (arow_g N).vw _ _⟩
          | 2 => cases hc; exact .inl ⟨2, _, rfl, rfl, (RowG.lst1' rfl rfl).vw _ _⟩
          | c + 3 => simp [Rows.live] at hc
        · rw [tm14s_spr]
          exact VwL.ofKnown h1 ⟨by rw [h2]; exact Vw.ptrI (by simp) rfl, by rw [h3]; exact Vw.ptrI (by simp) rfl, trivial⟩
      · refine Eq.mpr (vs14 R ts e.kids root N (kd : Int) w i (fun x st' F' => x = .ret ∧ st' = stE14 root N (shw (.mk kd w ts)) ∧ Up F F') (fun n a b rows F1 => F1 = F ∧ n = 114 ∧ a = .ptr false 0 0 0 ∧ b = .ptr false 2 0 0 ∧ rows = [some (trow 1 N.length root), some (arow N), some (e62 (kd : Int) w e.x e.kids.length)]) F) ?_
        have e1 : ((i : Nat) : Int) < (N.length : Int) := by omega
        refine hcT (by rw [decide_eq_true e1]; rfl) (hcT (decide_eq_true (by simpa using hi)) ⟨rfl, rfl, rfl, rfl, ?_⟩)
        rw [getN he, hkd, hw]
    refine main.mono ?_ fun _ _ _ h => h
    rintro x st' F' ⟨rfl, rfl, hu⟩
    refine ⟨.inr rfl, [.str (shw (.mk kd w ts))], ?_, rfl, rfl, hu⟩
    rw [res14]
    exact ⟨_, [], rfl, rfl, rfl⟩
  · rintro v h' F' _ ⟨rfl, rfl, hu⟩
    refine ToV.fitW (vE := .str (shw (.mk kd w ts))) (hE := [some (trow 1 N.length root), some (arow N)]) some ⟨fun c c' b r r' _ _ h h' => by cases h; cases h'; rfl, fun c r hc => ?_⟩ Vw.strI (fun _ _ => rfl) (Nat.le_refl _) (ToV.here (hk F' hu))
    match c with
    | 0 => cases hc; exact .inl ⟨0, _, rfl, rfl, trow_v rfl (by simp)⟩
    | 1 => cases hc; exact .inl ⟨1, _, rfl, rfl, (arow_g N).vw _ _⟩
    | c + 2 => simp [Rows.live] at hc
mutual
theorem showN : ∀ (t : Tr), Frm t → size t ≤ 100000 → (shw t).length ≤ 1000000 → sz t ≤ 100000 → ShowN t
  | .mk k w ts, hf, h, hL, hz => by
    simp only [Frm] at hf
    simp only [size] at h
    simp only [sz] at hz
    have := sizes_len ts
    have h2 : ∀ u ∈ ts, (shw u).length ≤ 1000000 := shws_le ts (by omega)
    exact show_stepN k w ts hf.1 hL (by omega) (showNs ts hf.2 (by omega) h2 (by omega)) fun u hu => by have := h2 u hu; omega
theorem showNs : ∀ (ts : List Tr), Frms ts → sizes ts ≤ 100000 → (∀ u ∈ ts, (shw u).length ≤ 1000000) → szs ts ≤ 100000 → ∀ u ∈ ts, ShowN u
  | [], _, _, _, _, u, h => by cases h
  | t :: ts, hf, hl, hL, hz, u, h => by
    simp only [Frms] at hf
    simp only [sizes] at hl
    simp only [szs] at hz
    rcases List.mem_cons.1 h with e | h
    · rw [e]; exact showN t hf.1 (by omega) (hL t (by simp)) (by omega)
    · exact showNs ts hf.2 (by omega) (fun v hv => hL v (by simp [hv])) (by omega) u h
theorem shws_le : ∀ (ts : List Tr), szs ts ≤ 100000 → ∀ u ∈ ts, (shw u).length ≤ 1000000
  | [], _, u, h => by cases h
  | t :: ts, hz, u, h => by
    simp only [szs] at hz
    rcases List.mem_cons.1 h with e | h
    · rw [e]; have := shw_len t; omega
    · exact shws_le ts (by omega) u h
end
structure Fit14 (t : Tr) : Prop where
  f : Frm t
  z : size t ≤ 100000
  l : (shw t).length ≤ 1000000
  s : sz t ≤ 100000
def spec14 : CallSpecX := fun args h k => match args with
  | [.ptr false b 0 0, .int .i64 i, .bool false] => atT botX h b fun c n root => fun F => ∃ t N i0, n = N.length ∧ h.live c = some (arow N) ∧ i = (i0 : Nat) ∧ NF F N ∧ TrA N t i0 ∧ Fit14 t ∧ ∀ F', Up F F' → k (.str (shw t)) (h ++ [none, none]) F'
  | _ => botX
theorem spec14_ok {R : Nat → RoRow} (hR : Free6 R) (HP : HPt) : ∀ args h k F, spec14 args h k F → SafeCallX Try.prog R 14 args h F k HP := by
  intro args h k F hk
  unfold spec14 at hk
  split at hk
  · obtain ⟨c, n, root, hb, t, N, i0, rfl, hc, rfl, hN, ht, hz, hk⟩ := atT_ofX hk
    exact atTree (zs := [.int .i64 (i0 : Nat), .bool false]) rfl (fun g => rfl) hb hc (showN t hz.f hz.z hz.l hz.s R hR i0 root N F _ _ hN ht.is fun F' hu => ⟨rfl, rfl, hu⟩) hk
  · exact hk.elim
end Go.Dc.Ke
end
section
set_option linter.unusedVariables false
set_option linter.unusedSimpArgs false
namespace Go.Dc.Ke
open Go.Proofs Go.RowKit Go.Shelf
set_option maxRecDepth 100000
noncomputable abbrev env6 (R : Nat → RoRow) : EnvX := (((((envZ R).addCall 11 spec11).addCall 12 spec12).addCall 14 spec14).addCall 15 spec15).addCall 16 spec16
theorem free6_RX : Free6 RX := ⟨⟨rfl, RX_quits 5⟩, rfl, RX_quits 6⟩
theorem env6_ok {R : Nat → RoRow} (hR : Free6 R) (HP : HPt) : OKX Try.prog (env6 R) [] HP :=
  (((((envZ_ok hR.f HP).addCall (f := 11) (fi := fi11) (by kernel_rfl) (spec11_ok R HP)).addCall (f := 12) (fi := fi12) (by kernel_rfl) (spec12_ok hR HP)).addCall (f := 14) (fi := fi14) (by kernel_rfl) (spec14_ok hR HP)).addCall (f := 15) (fi := fi15) (by kernel_rfl) (spec15_ok hR.f HP)).addCall (f := 16) (fi := fi16) (by kernel_rfl) (spec16_ok hR HP)
end Go.Dc.Ke
end
section
set_option linter.unusedVariables false
set_option linter.unusedSimpArgs false
namespace Go.Dc.Ke
open Go.Proofs Go.RowKit Go.Shelf
set_option maxRecDepth 100000
theorem vc6 (R : Nat → RoRow) (s : List UInt8) (q : AV → Fz → Prop) (F : Fz) : vcx (env6 R) 1000 6 fi6 [.str s] [] (fun v _ F => q v F) F = (∀ (F' : Fz), Up F F' → (∀ (t : Tr), parse s = PR.ok t 0 → ∀ (N : List NE) (i : Nat) (F'_1 : Fz), TrA N t i → NF F'_1 N → Up F' F'_1 → N.length.le 2000 → (∀ (t : Tr), parse s = PR.ok t 0 → ∀ (x : Nat) (F' : Fz), Up F'_1 F' → TAt F' t x → ∃ (t_1 : Tr), ∃ (x_1 : Nat), AV.agg [AV.int IntKind.i64 (↑t.kind : Int), AV.str t.word, AV.sl true (x + 15) 0 t.kids.length Cp.no] = AV.agg [AV.int IntKind.i64 (↑t_1.kind : Int), AV.str t_1.word, AV.sl true (x_1 + 15) 0 t_1.kids.length Cp.no] ∧ TAt F' t_1 x_1 ∧ NiceT t_1 ∧ ∀ (F'_2 : Fz), Up F' F'_2 → ∃ (t_2 : Tr), ∃ (N_1 : List NE), ∃ (i0 : Nat), N.length = N_1.length ∧ some (Row.gen 62 3 N.length fun (i : Nat) => neV (N.getD i dN)) = some (Row.gen 62 3 N_1.length fun (i : Nat) => neV (N_1.getD i dN)) ∧ (↑i : Int) = (↑i0 : Int) ∧ NF F'_2 N_1 ∧ TrA N_1 t_2 i0 ∧ Fit14 t_2 ∧ ∀ (F' : Fz), Up F'_2 F' → bif !shw t_1 == shw t_2 then q (AV.bool false) F' else ∃ (t_3 : Tr), ∃ (x_2 : Nat), AV.agg [AV.int IntKind.i64 (↑t.kind : Int), AV.str t.word, AV.sl true (x + 15) 0 t.kids.length Cp.no] = AV.agg [AV.int IntKind.i64 (↑t_3.kind : Int), AV.str t_3.word, AV.sl true (x_2 + 15) 0 t_3.kids.length Cp.no] ∧ TAt F' t_3 x_2 ∧ (size t_3).le 100000 ∧ ∀ (F'_3 : Fz), Up F' F'_3 → AV.int IntKind.i64 (↑i : Int) = AV.int IntKind.i64 (↑i : Int) ∧ ∃ (t : Tr), ∃ (N_2 : List NE), ∃ (i0 : Nat), N.length = N_2.length ∧ some (Row.gen 62 3 N.length fun (i : Nat) => neV (N.getD i dN)) = some (Row.gen 62 3 N_2.length fun (i : Nat) => neV (N_2.getD i dN)) ∧ (↑i : Int) = (↑i0 : Int) ∧ NF F'_3 N_2 ∧ TrA N_2 t i0 ∧ (size t).le 100000 ∧ ∀ (F' : Fz), Up F'_3 F' → bif (↑(size t_3) : Int) != (↑(size t) : Int) then q (AV.bool false) F' else bif decide ((↑(shw t_1).length : Int) > 256) then q (AV.bool true) F' else (∀ (t : Tr), parse (shw t_1) = PR.ok t 0 → ∀ (x : Nat) (F'_4 : Fz), Up F' F'_4 → TAt F'_4 t x → ∃ (t_4 : Tr), ∃ (x_3 : Nat), AV.agg [AV.int IntKind.i64 (↑t.kind : Int), AV.str t.word, AV.sl true (x + 15) 0 t.kids.length Cp.no] = AV.agg [AV.int IntKind.i64 (↑t_4.kind : Int), AV.str t_4.word, AV.sl true (x_3 + 15) 0 t_4.kids.length Cp.no] ∧ TAt F'_4 t_4 x_3 ∧ NiceT t_4 ∧ ∀ (F' : Fz), Up F'_4 F' → bif shw t_4 == shw t_1 then ∃ (t_5 : Tr), ∃ (x_4 : Nat), ∃ (N_3 : List NE), ∃ (i0 : Nat), AV.agg [AV.int IntKind.i64 (↑t.kind : Int), AV.str t.word, AV.sl true (x + 15) 0 t.kids.length Cp.no] = AV.agg [AV.int IntKind.i64 (↑t_5.kind : Int), AV.str t_5.word, AV.sl true (x_4 + 15) 0 t_5.kids.length Cp.no] ∧ N.length = N_3.length ∧ some (Row.gen 62 3 N.length fun (i : Nat) => neV (N.getD i dN)) = some (Row.gen 62 3 N_3.length fun (i : Nat) => neV (N_3.getD i dN)) ∧ (↑i : Int) = (↑i0 : Int) ∧ TAt F' t_5 x_4 ∧ NF F' N_3 ∧ TrA N_3 t_5 i0 ∧ (size t_5).le 100000 ∧ ∀ (F'_5 : Fz), Up F' F'_5 → q (AV.bool true) F'_5 else q (AV.bool false) F') ∧ ∀ (a c : Nat), parse (shw t_1) = PR.err a c → ∀ (F'_4 : Fz), Up F' F'_4 → bif (↑c : Int) == 0 then bif (↑a : Int) == 0 then ∃ (t : Tr), ∃ (x : Nat), AV.agg [AV.int IntKind.i64 (0 : Int), AV.str [], AV.nils] = AV.agg [AV.int IntKind.i64 (↑t.kind : Int), AV.str t.word, AV.sl true (x + 15) 0 t.kids.length Cp.no] ∧ TAt F'_4 t x ∧ NiceT t ∧ ∀ (F' : Fz), Up F'_4 F' → bif shw t == shw t_1 then ∃ (t : Tr), ∃ (x : Nat), ∃ (N_3 : List NE), ∃ (i0 : Nat), AV.agg [AV.int IntKind.i64 (0 : Int), AV.str [], AV.nils] = AV.agg [AV.int IntKind.i64 (↑t.kind : Int), AV.str t.word, AV.sl true (x + 15) 0 t.kids.length Cp.no] ∧ N.length = N_3.length ∧ some (Row.gen 62 3 N.length fun (i : Nat) => neV (N.getD i dN)) = some (Row.gen 62 3 N_3.length fun (i : Nat) => neV (N_3.getD i dN)) ∧ (↑i : Int) = (↑i0 : Int) ∧ TAt F' t x ∧ NF F' N_3 ∧ TrA N_3 t i0 ∧ (size t).le 100000 ∧ ∀ (F'_5 : Fz), Up F' F'_5 → q (AV.bool true) F'_5 else q (AV.bool false) F' else q (AV.bool false) F'_4 else q (AV.bool false) F'_4) ∧ ∀ (a c : Nat), parse s = PR.err a c → ∀ (F' : Fz), Up F'_1 F' → ∃ (t : Tr), ∃ (x : Nat), AV.agg [AV.int IntKind.i64 (0 : Int), AV.str [], AV.nils] = AV.agg [AV.int IntKind.i64 (↑t.kind : Int), AV.str t.word, AV.sl true (x + 15) 0 t.kids.length Cp.no] ∧ TAt F' t x ∧ NiceT t ∧ ∀ (F'_2 : Fz), Up F' F'_2 → ∃ (t_1 : Tr), ∃ (N_1 : List NE), ∃ (i0 : Nat), N.length = N_1.length ∧ some (Row.gen 62 3 N.length fun (i : Nat) => neV (N.getD i dN)) = some (Row.gen 62 3 N_1.length fun (i : Nat) => neV (N_1.getD i dN)) ∧ (↑i : Int) = (↑i0 : Int) ∧ NF F'_2 N_1 ∧ TrA N_1 t_1 i0 ∧ Fit14 t_1 ∧ ∀ (F' : Fz), Up F'_2 F' → bif !shw t == shw t_1 then q (AV.bool false) F' else ∃ (t_2 : Tr), ∃ (x : Nat), AV.agg [AV.int IntKind.i64 (0 : Int), AV.str [], AV.nils] = AV.agg [AV.int IntKind.i64 (↑t_2.kind : Int), AV.str t_2.word, AV.sl true (x + 15) 0 t_2.kids.length Cp.no] ∧ TAt F' t_2 x ∧ (size t_2).le 100000 ∧ ∀ (F'_3 : Fz), Up F' F'_3 → AV.int IntKind.i64 (↑i : Int) = AV.int IntKind.i64 (↑i : Int) ∧ ∃ (t_3 : Tr), ∃ (N_2 : List NE), ∃ (i0 : Nat), N.length = N_2.length ∧ some (Row.gen 62 3 N.length fun (i : Nat) => neV (N.getD i dN)) = some (Row.gen 62 3 N_2.length fun (i : Nat) => neV (N_2.getD i dN)) ∧ (↑i : Int) = (↑i0 : Int) ∧ NF F'_3 N_2 ∧ TrA N_2 t_3 i0 ∧ (size t_3).le 100000 ∧ ∀ (F' : Fz), Up F'_3 F' → bif (↑(size t_2) : Int) != (↑(size t_3) : Int) then q (AV.bool false) F' else bif decide ((↑(shw t).length : Int) > 256) then q (AV.bool true) F' else (∀ (t_4 : Tr), parse (shw t) = PR.ok t_4 0 → ∀ (x : Nat) (F'_4 : Fz), Up F' F'_4 → TAt F'_4 t_4 x → ∃ (t_5 : Tr), ∃ (x_1 : Nat), AV.agg [AV.int IntKind.i64 (↑t_4.kind : Int), AV.str t_4.word, AV.sl true (x + 15) 0 t_4.kids.length Cp.no] = AV.agg [AV.int IntKind.i64 (↑t_5.kind : Int), AV.str t_5.word, AV.sl true (x_1 + 15) 0 t_5.kids.length Cp.no] ∧ TAt F'_4 t_5 x_1 ∧ NiceT t_5 ∧ ∀ (F' : Fz), Up F'_4 F' → bif shw t_5 == shw t then ∃ (t : Tr), ∃ (x_2 : Nat), ∃ (N_3 : List NE), ∃ (i0 : Nat), AV.agg [AV.int IntKind.i64 (↑t_4.kind : Int), AV.str t_4.word, AV.sl true (x + 15) 0 t_4.kids.length Cp.no] = AV.agg [AV.int IntKind.i64 (↑t.kind : Int), AV.str t.word, AV.sl true (x_2 + 15) 0 t.kids.length Cp.no] ∧ N.length = N_3.length ∧ some (Row.gen 62 3 N.length fun (i : Nat) => neV (N.getD i dN)) = some (Row.gen 62 3 N_3.length fun (i : Nat) => neV (N_3.getD i dN)) ∧ (↑i : Int) = (↑i0 : Int) ∧ TAt F' t x_2 ∧ NF F' N_3 ∧ TrA N_3 t i0 ∧ (size t).le 100000 ∧ ∀ (F'_5 : Fz), Up F' F'_5 → q (AV.bool true) F'_5 else q (AV.bool false) F') ∧ ∀ (a c : Nat), parse (shw t) = PR.err a c → ∀ (F'_4 : Fz), Up F' F'_4 → bif (↑c : Int) == 0 then bif (↑a : Int) == 0 then ∃ (t_4 : Tr), ∃ (x : Nat), AV.agg [AV.int IntKind.i64 (0 : Int), AV.str [], AV.nils] = AV.agg [AV.int IntKind.i64 (↑t_4.kind : Int), AV.str t_4.word, AV.sl true (x + 15) 0 t_4.kids.length Cp.no] ∧ TAt F'_4 t_4 x ∧ NiceT t_4 ∧ ∀ (F' : Fz), Up F'_4 F' → bif shw t_4 == shw t then ∃ (t : Tr), ∃ (x : Nat), ∃ (N_3 : List NE), ∃ (i0 : Nat), AV.agg [AV.int IntKind.i64 (0 : Int), AV.str [], AV.nils] = AV.agg [AV.int IntKind.i64 (↑t.kind : Int), AV.str t.word, AV.sl true (x + 15) 0 t.kids.length Cp.no] ∧ N.length = N_3.length ∧ some (Row.gen 62 3 N.length fun (i : Nat) => neV (N.getD i dN)) = some (Row.gen 62 3 N_3.length fun (i : Nat) => neV (N_3.getD i dN)) ∧ (↑i : Int) = (↑i0 : Int) ∧ TAt F' t x ∧ NF F' N_3 ∧ TrA N_3 t i0 ∧ (size t).le 100000 ∧ ∀ (F'_5 : Fz), Up F' F'_5 → q (AV.bool true) F'_5 else q (AV.bool false) F' else q (AV.bool false) F'_4 else q (AV.bool false) F'_4) ∧ ∀ (a e : Nat), parse s = PR.err a e → ∀ (F'_1 : Fz), Up F' F'_1 → bif (↑e : Int) != 0 then q (AV.bool true) F'_1 else (∀ (t : Tr), parse s = PR.ok t 0 → ∀ (x : Nat) (F' : Fz), Up F'_1 F' → TAt F' t x → ∃ (t_1 : Tr), ∃ (x_1 : Nat), AV.agg [AV.int IntKind.i64 (↑t.kind : Int), AV.str t.word, AV.sl true (x + 15) 0 t.kids.length Cp.no] = AV.agg [AV.int IntKind.i64 (↑t_1.kind : Int), AV.str t_1.word, AV.sl true (x_1 + 15) 0 t_1.kids.length Cp.no] ∧ TAt F' t_1 x_1 ∧ NiceT t_1 ∧ ∀ (F'_2 : Fz), Up F' F'_2 → False) ∧ ∀ (a c : Nat), parse s = PR.err a c → ∀ (F' : Fz), Up F'_1 F' → ∃ (t : Tr), ∃ (x : Nat), AV.agg [AV.int IntKind.i64 (0 : Int), AV.str [], AV.nils] = AV.agg [AV.int IntKind.i64 (↑t.kind : Int), AV.str t.word, AV.sl true (x + 15) 0 t.kids.length Cp.no] ∧ TAt F' t x ∧ NiceT t ∧ ∀ (F'_2 : Fz), Up F' F'_2 → False) := by kernel_rfl
theorem shows_ok (s : List UInt8) : SafeCallX Try.prog RX 6 [.str s] [] Fz.empty (fun v _ _ => v = .bool true) (fun _ _ _ => False) := by
  refine SafeCallX.by mixed (env6_ok free6_RX _) (f := 6) (fi := fi6) (by kernel_rfl) 1000 (vc6 RX s (fun v _ => v = .bool true) _) ?_
  intro F0 u0
  refine ⟨?_, ?_⟩
  · intro t ht N i F1 hA hN u1 hl
    have hf := parse_frm ht
    have hfit := parse_fits ht
    have hsm := parse_small ht
    have hz : size t ≤ 100000 := by omega
    have f14 : Fit14 t := ⟨hf.1, hz, by omega, by omega⟩
    refine ⟨?_, ?_⟩
    · intro t2 ht2 x F2 u2 hx
      rw [ht] at ht2
      cases ht2
      refine ⟨t, x, rfl, hx, parse_nice ht, fun F3 u3 => ⟨t, N, i, rfl, rfl, rfl, hN.le (u2.trans u3), hA, f14, fun F4 u4 => hcF (by simp) ⟨t, x, rfl, hx.le (u3.trans u4), hz, fun F5 u5 => ⟨rfl, t, N, i, rfl, rfl, rfl, hN.le (((u2.trans u3).trans u4).trans u5), hA, hz, fun F6 u6 => hcF (by simp) (hcB (fun _ => rfl) fun hb => ⟨?_, ?_⟩)⟩⟩⟩⟩
      · intro t2 ht2 x2 F7 u7 hx2
        have hb := of_decide_eq_false hb
        rw [parse_shw hf.1 hf.2 (by omega)] at ht2
        cases ht2
        refine ⟨t, x2, rfl, hx2, parse_nice ht, fun F8 u8 => hcT (by simp) ⟨t, x2, N, i, rfl, rfl, rfl, rfl, hx2.le u8, hN.le ((((((u2.trans u3).trans u4).trans u5).trans u6).trans u7).trans u8), hA, hz, fun _ _ => rfl⟩⟩
      · intro a c hc
        have hb := of_decide_eq_false hb
        rw [parse_shw hf.1 hf.2 (by omega)] at hc
        cases hc
    · intro a c hc
      rw [ht] at hc; cases hc
  · intro a e he F1 u1
    exact hcT (ne0 (parse_nz s a e he)) rfl
theorem shows_walk (s : ByteArray) (hs : s.size ≤ 140737488351232) (w : World) : Calls Try.prog 6 #[.string s] w fun e w' => e = .returned (.bool true) ∧ Below w.heap.size w w' :=
  (shows_ok s.data.toList).law #[.string s] w (by simp [DenL, Den])
#print axioms shows_walk
end Go.Dc.Ke
end
