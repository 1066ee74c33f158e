/- The fields of a text between blanks, byte by byte; joined by one blank they are the same again. -/
import Derived.Test.YtachjlpdnehgiaaJoin
set_option linter.unusedVariables false
set_option linter.unusedSimpArgs false
namespace Go.Dc.Kd
open Go.Proofs Go.RowKit Go.Shelf

def blankB (c : UInt8) : Bool := blankR c.toNat
def wordsGo : List UInt8 → List UInt8 → List (List UInt8)
  | [], cur => if cur = [] then [] else [cur]
  | c :: cs, cur => if blankB c then (if cur = [] then wordsGo cs [] else cur :: wordsGo cs []) else wordsGo cs (cur ++ [c])
/-- The parts of a text between blanks. -/
def words (s : List UInt8) : List (List UInt8) := wordsGo s []

theorem wordsGo_run : ∀ (xs rest cur : List UInt8), (∀ x ∈ xs, blankB x = false) → wordsGo (xs ++ rest) cur = wordsGo rest (cur ++ xs)
  | [], rest, cur, _ => by simp
  | x :: xs, rest, cur, h => by
    have hx := h x (by simp)
    rw [List.cons_append, wordsGo, hx]
    simp only [Bool.false_eq_true, if_false]
    rw [wordsGo_run xs rest (cur ++ [x]) (fun y hy => h y (by simp [hy]))]
    simp

theorem get_eq (l : List UInt8) (i : Nat) : (ByteArray.get! ⟨⟨l⟩⟩ i) = l.getD i 0 := by
  simp only [ByteArray.get!]
  by_cases h : i < l.length
  · simp [h, List.getD]
  · simp [h, List.getD]
    rfl

theorem dec_small (l : List UInt8) (i : Nat) (h : (l.getD i 0).toNat < 128) : Utf8.decode ⟨⟨l⟩⟩ i = ((l.getD i 0).toNat, 1) := by
  unfold Utf8.decode
  simp only [get_eq, Nat.add_zero]
  rw [if_pos h]

theorem dec_big (l : List UInt8) (i : Nat) (hi : i < l.length) (h : 128 ≤ (l.getD i 0).toNat) :
    128 ≤ (Utf8.decode ⟨⟨l⟩⟩ i).1 ∧ ∃ n, (Utf8.decode ⟨⟨l⟩⟩ i).2 = n + 1 ∧ i + n < l.length ∧ ∀ j, 1 ≤ j → j ≤ n → 128 ≤ (l.getD (i + j) 0).toNat := by
  have hsz : ByteArray.size ⟨⟨l⟩⟩ = l.length := rfl
  unfold Utf8.decode
  simp only [get_eq, Nat.add_zero, hsz, Utf8.runeError]
  rw [if_neg (by omega)]
  split
  · rename_i h1
    simp only [Bool.and_eq_true, decide_eq_true_eq, beq_iff_eq] at h1
    split
    · refine ⟨?_, 1, rfl, by omega, ?_⟩
      · dsimp only
        omega
      · intro j h2 h3
        rw [show j = 1 by omega]
        omega
    · refine ⟨by decide, 0, rfl, by omega, ?_⟩
      intro j h2 h3
      omega
  · split
    · rename_i h1
      simp only [Bool.and_eq_true, decide_eq_true_eq, beq_iff_eq] at h1
      split
      · rename_i h2
        simp only [Bool.and_eq_true, decide_eq_true_eq, ge_iff_le] at h2
        refine ⟨?_, 2, rfl, by omega, ?_⟩
        · dsimp only
          omega
        · intro j h3 h4
          rcases (by omega : j = 1 ∨ j = 2) with rfl | rfl <;> omega
      · refine ⟨by decide, 0, rfl, by omega, ?_⟩
        intro j h2 h3
        omega
    · split
      · rename_i h1
        simp only [Bool.and_eq_true, decide_eq_true_eq, beq_iff_eq] at h1
        split
        · rename_i h2
          simp only [Bool.and_eq_true, decide_eq_true_eq, ge_iff_le] at h2
          refine ⟨?_, 3, rfl, by omega, ?_⟩
          · dsimp only
            omega
          · intro j h3 h4
            rcases (by omega : j = 1 ∨ j = 2 ∨ j = 3) with rfl | rfl | rfl <;> omega
        · refine ⟨by decide, 0, rfl, by omega, ?_⟩
          intro j h2 h3
          omega
      · refine ⟨by decide, 0, rfl, by omega, ?_⟩
        intro j h2 h3
        omega

theorem blank_big {n : Nat} (h : 128 ≤ n) : blankR n = false := by
  unfold blankR blankI
  simp
  omega

/-- One step over a text: a blank, or some bytes that are none. -/
theorem dec_step (l : List UInt8) (i : Nat) (hi : i < l.length) :
    (blankB (l.getD i 0) = true ∧ blankR (Utf8.decode ⟨⟨l⟩⟩ i).1 = true ∧ (Utf8.decode ⟨⟨l⟩⟩ i).2 = 1) ∨
    (blankR (Utf8.decode ⟨⟨l⟩⟩ i).1 = false ∧ ∃ n, (Utf8.decode ⟨⟨l⟩⟩ i).2 = n + 1 ∧ i + n < l.length ∧ ∀ j, j ≤ n → blankB (l.getD (i + j) 0) = false) := by
  by_cases h : (l.getD i 0).toNat < 128
  · rw [dec_small l i h]
    cases hb : blankR (l.getD i 0).toNat with
    | true => exact .inl ⟨hb, rfl, rfl⟩
    | false =>
      refine .inr ⟨rfl, 0, rfl, by omega, ?_⟩
      intro j hj
      rw [show j = 0 by omega]
      exact hb
  · obtain ⟨h1, n, h2, h3, h4⟩ := dec_big l i hi (by omega)
    refine .inr ⟨blank_big h1, n, h2, h3, fun j hj => ?_⟩
    rcases Nat.eq_zero_or_pos j with rfl | hp
    · exact blank_big (Nat.not_lt.1 h)
    · exact blank_big (h4 j hp hj)

def cut (l : List UInt8) (x : Nat × Nat) : List UInt8 := (l.drop x.1).take (x.2 - x.1)
theorem cut_eq (l : List UInt8) (x : Nat × Nat) : (ByteArray.extract ⟨⟨l⟩⟩ x.1 x.2).data.toList = cut l x := by
  rw [ByteArray.extract_mk]
  rfl

theorem spans_words (l : List UInt8) : ∀ (f pos : Nat) (st : Option Nat) (acc : List (Nat × Nat)), l.length ≤ pos + f → pos ≤ l.length → (∀ a, st = some a → a < pos) →
    (Lib.closeSpans ⟨⟨l⟩⟩ (Lib.spansFromP blankR ⟨⟨l⟩⟩ f pos st acc)).map (cut l) = acc.map (cut l) ++ wordsGo (l.drop pos) (match st with | some a => cut l (a, pos) | none => []) := by
  have hsz : ByteArray.size ⟨⟨l⟩⟩ = l.length := rfl
  have fin : ∀ (st : Option Nat) (acc : List (Nat × Nat)), (∀ a, st = some a → a < l.length) →
      (Lib.closeSpans ⟨⟨l⟩⟩ (acc, st)).map (cut l) = acc.map (cut l) ++ wordsGo (l.drop l.length) (match st with | some a => cut l (a, l.length) | none => []) := by
    intro st acc hst
    rw [List.drop_length]
    cases st with
    | none => simp [Lib.closeSpans, wordsGo]
    | some a =>
      have ha := hst a rfl
      have hne : cut l (a, l.length) ≠ [] := by
        intro h
        have := congrArg List.length h
        simp [cut] at this
        omega
      simp only [Lib.closeSpans, hsz, wordsGo, if_neg hne, List.map_append, List.map_cons, List.map_nil]
  intro f
  induction f with
  | zero =>
    intro pos st acc h1 h2 h3
    have : pos = l.length := by omega
    subst this
    exact fin st acc h3
  | succ f ih =>
    intro pos st acc h1 h2 h3
    by_cases hlt : pos < l.length
    · unfold Lib.spansFromP
      rw [hsz, if_pos hlt]
      have hd : l.drop pos = l.getD pos 0 :: l.drop (pos + 1) := by
        rw [List.drop_eq_getElem_cons hlt]
        simp [List.getD, hlt]
      rcases dec_step l pos hlt with ⟨b1, b2, b3⟩ | ⟨b1, n, b2, b3, b4⟩
      · rw [if_pos b2, b3]
        rw [hd, wordsGo, if_pos b1]
        cases st with
        | none =>
          simp only [if_true]
          exact ih (pos + 1) none acc (by omega) (by omega) (fun a h => by cases h)
        | some a =>
          have ha := h3 a rfl
          have hne : cut l (a, pos) ≠ [] := by
            intro h
            have := congrArg List.length h
            simp [cut] at this
            omega
          simp only [if_neg hne]
          rw [ih (pos + 1) none (acc ++ [(a, pos)]) (by omega) (by omega) (fun a h => by cases h)]
          simp
      · rw [if_neg (by rw [b1]; simp), b2]
        have hrun : l.drop pos = (l.drop pos).take (n + 1) ++ l.drop (pos + (n + 1)) := by
          rw [← List.drop_drop, List.take_append_drop]
        have hnb : ∀ x ∈ (l.drop pos).take (n + 1), blankB x = false := by
          intro x hx
          obtain ⟨j, hj, rfl⟩ := List.getElem_of_mem hx
          simp at hj
          have := b4 j (by omega)
          simpa [List.getD, show pos + j < l.length by omega] using this
        rw [hrun, wordsGo_run _ _ _ hnb]
        cases st with
        | none =>
          simp only []
          rw [ih (pos + (n + 1)) (some pos) acc (by omega) (by omega) (fun a h => by cases h; omega)]
          simp [cut]
        | some a =>
          have ha := h3 a rfl
          simp only []
          rw [ih (pos + (n + 1)) (some a) acc (by omega) (by omega) (fun a' h => by cases h; omega)]
          congr 2
          simp only [cut]
          rw [show pos + (n + 1) - a = (pos - a) + (n + 1) by omega, List.take_add, List.drop_drop, show a + (pos - a) = pos by omega]
    · rw [Lib.spansFromP_end _ _ _ _ _ _ (by rw [hsz]; exact hlt)]
      have : pos = l.length := by omega
      subst this
      exact fin st acc h3

theorem fields_words (s : List UInt8) : fieldsL s = words s := by
  unfold fieldsL Lib.goFieldsP Lib.spansOfP words
  rw [List.map_map]
  have h := spans_words s s.length 0 none [] (by omega) (Nat.zero_le _) (fun a h => by cases h)
  simp only [List.map_nil, List.nil_append, List.drop_zero] at h
  rw [← h]
  refine List.map_congr_left fun x _ => ?_
  exact cut_eq s x

/-! ### What the parts are -/
theorem wordsGo_ok : ∀ (l cur : List UInt8), (∀ x ∈ cur, blankB x = false) → ∀ w ∈ wordsGo l cur, w ≠ [] ∧ ∀ x ∈ w, blankB x = false
  | [], cur, hc, w, hw => by
    unfold wordsGo at hw
    split at hw
    · simp at hw
    · rename_i hne
      simp only [List.mem_singleton] at hw
      subst hw
      exact ⟨hne, hc⟩
  | c :: cs, cur, hc, w, hw => by
    unfold wordsGo at hw
    cases hb : blankB c with
    | true =>
      rw [hb] at hw
      simp only [if_true] at hw
      split at hw
      · exact wordsGo_ok cs [] (by simp) w hw
      · rename_i hne
        rcases List.mem_cons.1 hw with rfl | hw
        · exact ⟨hne, hc⟩
        · exact wordsGo_ok cs [] (by simp) w hw
    | false =>
      rw [hb] at hw
      simp only [Bool.false_eq_true, if_false] at hw
      refine wordsGo_ok cs (cur ++ [c]) ?_ w hw
      intro x hx
      rcases List.mem_append.1 hx with h | h
      · exact hc x h
      · simp only [List.mem_singleton] at h; subst h; exact hb

def tot (ws : List (List UInt8)) : Nat := (ws.map List.length).sum
theorem wordsGo_tot : ∀ (l cur : List UInt8), tot (wordsGo l cur) + (wordsGo l cur).length ≤ l.length + cur.length + 1
  | [], cur => by
    unfold wordsGo
    split
    · simp [tot]
    · simp [tot]
  | c :: cs, cur => by
    unfold wordsGo
    split
    · split
      · have := wordsGo_tot cs []
        simp only [List.length_nil, List.length_cons] at this ⊢
        omega
      · have := wordsGo_tot cs []
        simp only [List.length_nil, List.length_cons, tot, List.map_cons, List.sum_cons] at this ⊢
        omega
    · have := wordsGo_tot cs (cur ++ [c])
      simp only [List.length_append, List.length_cons, List.length_nil] at this ⊢
      omega

theorem words_count (s : List UInt8) : (words s).length ≤ s.length + 1 := by
  have := wordsGo_tot s []
  unfold words
  simp only [List.length_nil] at this
  omega

theorem joinTail_cons (sep y : List UInt8) (r : List (List UInt8)) : Lib.joinTail sep (y :: r) = sep ++ y ++ Lib.joinTail sep r := by simp [Lib.joinTail]

theorem join_length (ws : List (List UInt8)) (sep : List UInt8) : (Lib.join ws sep).length ≤ tot ws + (ws.length - 1) * sep.length := by
  cases ws with
  | nil => simp [Lib.join_nil]
  | cons x r =>
    rw [Lib.join_cons]
    have key : ∀ r : List (List UInt8), (Lib.joinTail sep r).length = tot r + r.length * sep.length := by
      intro r
      induction r with
      | nil => simp [Lib.joinTail, tot]
      | cons y r ih =>
        rw [joinTail_cons]
        simp only [List.length_append, ih, tot, List.map_cons, List.sum_cons, List.length_cons, Nat.add_mul]
        omega
    rw [List.length_append, key]
    simp only [tot, List.map_cons, List.sum_cons, List.length_cons, Nat.add_sub_cancel]
    omega

theorem wordsGo_join : ∀ (r : List (List UInt8)) (x : List UInt8), x ≠ [] → (∀ w ∈ r, w ≠ [] ∧ ∀ y ∈ w, blankB y = false) → wordsGo (Lib.joinTail [32] r) x = x :: r
  | [], x, hx, _ => by simp [Lib.joinTail, wordsGo, hx]
  | y :: r, x, hx, h => by
    rw [joinTail_cons]
    have h32 : blankB 32 = true := rfl
    rw [List.append_assoc, List.singleton_append, wordsGo, if_pos h32, if_neg hx]
    obtain ⟨h1, h2⟩ := h y (by simp)
    rw [wordsGo_run y _ [] h2, List.nil_append, wordsGo_join r y h1 (fun w hw => h w (by simp [hw]))]

/-- What is joined by one blank falls into the same parts. -/
theorem words_join (ws : List (List UInt8)) (h : ∀ w ∈ ws, w ≠ [] ∧ ∀ y ∈ w, blankB y = false) : words (Lib.join ws [32]) = ws := by
  cases ws with
  | nil => simp [Lib.join_nil, words, wordsGo]
  | cons x r =>
    rw [Lib.join_cons]
    unfold words
    obtain ⟨h1, h2⟩ := h x (by simp)
    rw [wordsGo_run x _ [] h2, List.nil_append, wordsGo_join r x h1 (fun w hw => h w (by simp [hw]))]

/-- A text stripped. -/
def strip (s : List UInt8) : List UInt8 := Lib.join (words s) [32]
theorem strip_words (s : List UInt8) : words (strip s) = words s := words_join _ (wordsGo_ok s [] (by simp))
theorem strip_strip (s : List UInt8) : strip (strip s) = strip s := by
  show Lib.join (words (strip s)) [32] = strip s
  rw [strip_words]
  rfl
theorem strip_length (s : List UInt8) : (strip s).length ≤ s.length := by
  have h1 := join_length (words s) [32]
  have h2 := wordsGo_tot s []
  unfold strip
  unfold words at h1 ⊢
  simp only [List.length_nil, List.length_cons, Nat.zero_add, Nat.mul_one] at h1 h2
  cases h : wordsGo s [] with
  | nil => simp [Lib.join_nil]
  | cons x r =>
    rw [h] at h1 h2
    simp only [List.length_cons] at h1 h2
    omega
end Go.Dc.Kd
