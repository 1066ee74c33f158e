/- What Tokens and Strip answer. -/
import Derived.Test.YtachjlpdnehgiaaToks
import Derived.Test.YtachjlpdnehgiaaWords
set_option linter.unusedVariables false
set_option linter.unusedSimpArgs false
namespace Go.Dc.Kd
open Go.Proofs Go.RowKit Go.Shelf
set_option maxRecDepth 100000
theorem fieldsL_count (s : List UInt8) : (fieldsL s).length ≤ s.length + 1 := by rw [fields_words]; exact words_count s
def vwR : Nat → Option Nat := fun c => match c with | 0 => some 1 | _ => none
theorem safe43 (R : Nat → RoRow) (s : List UInt8) (hs : s.length ≤ 900000) : SafeCall Try.prog R 43 [.str s] [] fun v h => v = .sl false 0 0 (toks (words s)).length .no ∧ h = [some (strsRow 9 (toks (words s)))] := by
  have hw := fields_words s
  have hc := fieldsL_count s
  have h1 : SafeCall Try.prog R 43 [.str s] [] fun v h => v = .sl false 1 0 (toks (fieldsL s)).length .no ∧ h = [some (strsRow 9 (fieldsL s)), some (strsRow 9 (toks (fieldsL s)))] := by
    refine byVcd' (E := (env43 R).addLoop 43 0 (fun st k => st = st43 s ∧ k .normal (fam43 s (fieldsL s) (toks (fieldsL s)) (fieldsL s).length))) ?_ (f := 43) (fi := fi43) (by kernel_rfl) 10000
      (vc43 R (fieldsL s).length s (fieldsL s) (toks (fieldsL s)) (st43 s) _) ?_
    · refine (env43_ok R).addLoop (f := 43) (fi := fi43) (by kernel_rfl) (body := .loop lp43) blk43 ?_
      rintro st k ⟨rfl, hk⟩
      exact loop43 R s (by omega) hk
    · exact ⟨by show s.length ≤ _; omega, rfl, rfl, rfl⟩
  refine h1.fit ?_
  rintro v h' ⟨rfl, rfl⟩
  rw [hw]
  refine ⟨_, _, ⟨vwR, View.of ?_ ?_, ?_, ?_, Nat.zero_le _⟩, rfl, rfl⟩
  · intro c o ho
    match c with
    | 0 => cases ho; exact ViewL.at_ (b := 1) rfl rfl (.gen rfl fun j _ => ⟨rfl, gnd_vw _ _ _ rfl⟩)
    | c + 1 => cases ho
  · intro c c' b _ _ h1 h2
    match c, c' with
    | 0, 0 => rfl
    | 0, _ + 1 => simp [vwR] at h2
    | _ + 1, _ => simp [vwR] at h1
  · exact Vw.slI (Nat.zero_lt_one) rfl
  · intro c hc; exact absurd hc (Nat.not_lt_zero _)
/-- Tokens. -/
def spec43 : CallSpec := fun args h k => match args with
  | [.str s] => s.length.le 900000 ∧ k (.sl false h.length 0 (toks (words s)).length .no) (h ++ [some (strsRow 9 (toks (words s)))])
  | _ => False
theorem spec43_ok (R : Nat → RoRow) : ∀ args h k, spec43 args h k → SafeCall Try.prog R 43 args h k := by
  intro args h k hk
  unfold spec43 at hk
  split at hk
  · rename_i s
    refine ((safe43 R s hk.1).fresh ?_ h).mono ?_
    · exact VwL.cons Vw.strI VwL.nil
    · rintro v'' h'' ⟨v', h', ⟨rfl, rfl⟩, rfl, rfl⟩
      exact hk.2
  · exact hk.elim
noncomputable abbrev env45 (R : Nat → RoRow) : Env Prop := ((base R).addCall 76 spec76g).addCall 79 spec79
theorem env45_ok (R : Nat → RoRow) : EnvOK Try.prog (env45 R) id :=
  ((base_ok R).addCall (f := 76) (fi := fi76) (by kernel_rfl) (spec76g_ok R)).addCall (f := 79) (fi := fi79) (by kernel_rfl) (spec79_ok R)
theorem vc45 (R : Nat → RoRow) (s : List UInt8) (Q : AV → Prop) : vcd (env45 R) 10000 45 fi45 [.str s] [] (fun v _ => Q v) =
    (s.length.le 4294967296 ∧
    (fieldsL s).length = (fieldsL s).length ∧
      (∀ (j : Nat),
          j.succ.le (fieldsL s).length →
            AV.str ((fieldsL s).getD j []) = AV.str (strOf (AV.str ((fieldsL s).getD j [])))) ∧
        (fieldsL s).length.le 140737488355328 ∧
          (Lib.join (strsOf (fieldsL s).length fun j => AV.str ((fieldsL s).getD j [])) [32]).length.le
              140737488355328 ∧
            Q (AV.str (Lib.join (strsOf (fieldsL s).length fun j => AV.str ((fieldsL s).getD j [])) [32]))) := by kernel_rfl
theorem safe45 (R : Nat → RoRow) (s : List UInt8) (hs : s.length ≤ 900000) : SafeCall Try.prog R 45 [.str s] [] fun v _ => v = .str (strip s) := by
  have hw := fields_words s
  have hc := fieldsL_count s
  have hl := strip_length s
  refine byVcd' (E := env45 R) (env45_ok R) (f := 45) (fi := fi45) (by kernel_rfl) 10000 (vc45 R s (fun v => v = .str (strip s))) ?_
  rw [strsOf_row, hw]
  rw [hw] at hc
  exact ⟨by show s.length ≤ _; omega, rfl, fun j _ => rfl, by show (words s).length ≤ _; omega, by show (strip s).length ≤ _; omega, rfl⟩
theorem vwNil (R : Nat → Option Nat) : VwL R 0 [] [] := VwL.nil
/-- Strip. -/
def spec45 : CallSpec := fun args h k => match args with
  | [.str s] => s.length.le 900000 ∧ k (.str (strip s)) h
  | _ => False
theorem spec45_ok (R : Nat → RoRow) : ∀ args h k, spec45 args h k → SafeCall Try.prog R 45 args h k := by
  intro args h k hk
  unfold spec45 at hk
  split at hk
  · rename_i s
    have h1 : SafeCall Try.prog R 45 [.str s] [] fun v h => v = .str (strip s) ∧ h = [] := by
      refine (safe45 R s hk.1).fit ?_
      rintro v h' rfl
      refine ⟨.str (strip s), [], ⟨fun _ => none, ⟨fun c b hc => absurd hc (Nat.not_lt_zero _), fun c c' b hc => absurd hc (Nat.not_lt_zero _), fun c r hc => by simp [Rows.live] at hc⟩, Vw.strI, fun c hc => absurd hc (Nat.not_lt_zero _), Nat.le_refl _⟩, rfl, rfl⟩
    refine (h1.fresh ?_ h).mono ?_
    · exact VwL.cons Vw.strI VwL.nil
    · rintro v'' h'' ⟨v', h', ⟨rfl, rfl⟩, rfl, rfl⟩
      have e : h ++ shiftRows h.length [] = h := by simp [shiftRows]
      rw [e]
      exact hk.2
  · exact hk.elim
/-! ### Each token once -/
theorem tokStep_nodup {L : List (List UInt8)} (h : L.Nodup) (w : List UInt8) : (tokStep L w).Nodup := by
  unfold tokStep
  split
  · exact h
  · rename_i hn
    rw [List.nodup_append]
    refine ⟨h, by simp, ?_⟩
    intro a ha b hb
    simp only [List.mem_singleton] at hb
    subst hb
    intro e
    subst e
    exact hn (List.any_eq_true.2 ⟨a, ha, by simp⟩)
theorem toks_nodup (ws : List (List UInt8)) : (toks ws).Nodup := by
  unfold toks
  have key : ∀ (ws L : List (List UInt8)), L.Nodup → (ws.foldl tokStep L).Nodup := by
    intro ws
    induction ws with
    | nil => intro L h; exact h
    | cons w ws ih => intro L h; exact ih _ (tokStep_nodup h w)
  exact key ws [] List.nodup_nil
theorem getD_ne {L : List (List UInt8)} (h : L.Nodup) {i j : Nat} (hi : i < L.length) (hj : j < i) : (L.getD j [] == L.getD i []) = false := by
  rw [beq_eq_false_iff_ne]
  intro e
  have hj' : j < L.length := by omega
  have e' : L[j] = L[i] := by simpa [List.getD, hi, hj'] using e
  exact (List.pairwise_iff_getElem.1 h) j i hj' hi hj e'
end Go.Dc.Kd
