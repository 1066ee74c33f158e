/- The decoder in UTF-8, told exactly: the plain law of a text that is well written. -/
import Derived.Test.YtebgogcdndmaaaaBackF
set_option linter.unusedVariables false
set_option linter.unusedSimpArgs false
namespace Go.Dc.Ka
open Go.Proofs Go.RowKit
set_option maxRecDepth 100000
/-- What the decoder knows. -/
structure DS where
  b : Int
  l : Int
  v : Int
  lo : Int
  hi : Int
  out : List (Int × Int)
def stepD (a x : Int) (d : DS) : DS :=
  if d.l = 0 then (if x < 128 then ⟨a, 0, d.v, lowF x, highF x, d.out ++ [(x, a)]⟩ else ⟨a, leftF x, valF x, lowF x, highF x, d.out⟩)
  else if d.l = 1 then ⟨d.b, 0, nxt d.v x, 128, 191, d.out ++ [(nxt d.v x, d.b)]⟩
  else ⟨d.b, d.l - 1, nxt d.v x, 128, 191, d.out⟩
def goodD (x : Int) (d : DS) : Prop := (d.l = 0 ∧ 0 ≤ x ∧ x ≤ 255 ∧ (x < 128 ∨ leftF x ≠ 0)) ∨ (0 < d.l ∧ d.l ≤ 3 ∧ d.lo ≤ x ∧ x ≤ d.hi)
def foldD : Nat → List UInt8 → DS → DS
  | _, [], d => d
  | a, c :: t, d => foldD (a + 1) t (stepD (a : Int) (c.toNat : Int) d)
def okD : Nat → List UInt8 → DS → Prop
  | _, [], _ => True
  | a, c :: t, d => goodD (c.toNat : Int) d ∧ okD (a + 1) t (stepD (a : Int) (c.toNat : Int) d)
theorem foldD_append (s t : List UInt8) : ∀ (a : Nat) (d : DS), foldD a (s ++ t) d = foldD (a + s.length) t (foldD a s d) := by
  induction s with
  | nil => intro a d; rfl
  | cons c s ih =>
    intro a d
    show foldD (a + 1) (s ++ t) _ = foldD (a + (s.length + 1)) t (foldD (a + 1) s _)
    rw [ih, show a + 1 + s.length = a + (s.length + 1) by omega]
theorem okD_append (s t : List UInt8) : ∀ (a : Nat) (d : DS), okD a s d → okD (a + s.length) t (foldD a s d) → okD a (s ++ t) d := by
  induction s with
  | nil => intro a d _ h; exact h
  | cons c s ih =>
    intro a d h1 h2
    refine ⟨h1.1, ih (a + 1) _ h1.2 ?_⟩
    have h2 : okD (a + (s.length + 1)) t (foldD (a + 1) s (stepD (a : Int) (c.toNat : Int) d)) := h2
    rw [show a + 1 + s.length = a + (s.length + 1) by omega]
    exact h2
theorem okD_right (s t : List UInt8) : ∀ (a : Nat) (d : DS), okD a (s ++ t) d → okD (a + s.length) t (foldD a s d) := by
  induction s with
  | nil => intro a d h; exact h
  | cons c s ih =>
    intro a d h
    have := ih (a + 1) _ h.2
    show okD (a + (s.length + 1)) t (foldD (a + 1) s _)
    rw [show a + (s.length + 1) = a + 1 + s.length by omega]
    exact this
/-- Behind i bytes. -/
def atD (s : List UInt8) (d : DS) (i : Nat) : DS := foldD 0 (s.take i) d
theorem take_succ' (s : List UInt8) (i : Nat) (h : i < s.length) : s.take (i + 1) = s.take i ++ [s.getD i 0] := by
  rw [List.take_add_one, List.getElem?_eq_getElem h]
  simp [List.getD, List.getElem?_eq_getElem h]
theorem atD_succ (s : List UInt8) (d : DS) (i : Nat) (h : i < s.length) : atD s d (i + 1) = stepD (i : Int) (byteI s i) (atD s d i) := by
  unfold atD
  rw [take_succ' s i h, foldD_append]
  simp only [foldD]
  rw [show 0 + (s.take i).length = i by simp; omega]
  rfl
theorem atD_good (s : List UInt8) (d : DS) (i : Nat) (h : i < s.length) (hok : okD 0 s d) : goodD (byteI s i) (atD s d i) := by
  have e : s = s.take i ++ (s.getD i 0 :: s.drop (i + 1)) := by
    rw [show s.getD i 0 = s[i] by simp [List.getD, List.getElem?_eq_getElem h], ← List.drop_eq_getElem_cons h, List.take_append_drop]
  rw [e] at hok
  exact (okD_right _ _ _ _ hok).1
theorem atD_len (s : List UInt8) (d : DS) (i : Nat) : (atD s d i).out.length ≤ d.out.length + i := by
  unfold atD
  have : ∀ (t : List UInt8) (a : Nat) (d : DS), (foldD a t d).out.length ≤ d.out.length + t.length := by
    intro t
    induction t with
    | nil => intro a d; simp [foldD]
    | cons c t ih =>
      intro a d
      have h1 := ih (a + 1) (stepD (a : Int) (c.toNat : Int) d)
      have h2 : (stepD (a : Int) (c.toNat : Int) d).out.length ≤ d.out.length + 1 := by unfold stepD; split <;> (try split) <;> simp
      show (foldD (a + 1) t _).out.length ≤ d.out.length + (t.length + 1)
      omega
  have := this (s.take i) 0 d
  simp at this
  omega
/-! bits -/
theorem and31 (x : Nat) (h : x < 256) : and8 (x : Int) 31 = ((x % 32 : Nat) : Int) := by
  have : ∀ c : Fin 256, and8 (c.1 : Int) 31 = ((c.1 % 32 : Nat) : Int) := by decide +kernel
  exact this ⟨x, h⟩
theorem and15 (x : Nat) (h : x < 256) : and8 (x : Int) 15 = ((x % 16 : Nat) : Int) := by
  have : ∀ c : Fin 256, and8 (c.1 : Int) 15 = ((c.1 % 16 : Nat) : Int) := by decide +kernel
  exact this ⟨x, h⟩
theorem and7 (x : Nat) (h : x < 256) : and8 (x : Int) 7 = ((x % 8 : Nat) : Int) := by
  have : ∀ c : Fin 256, and8 (c.1 : Int) 7 = ((c.1 % 8 : Nat) : Int) := by decide +kernel
  exact this ⟨x, h⟩
theorem and63 (x : Nat) (h : x < 256) : IntKind.i64.wrap (IntKind.u8.wrap ((BitVec.ofInt IntKind.u8.bits (x : Int) &&& BitVec.ofInt IntKind.u8.bits 63).toNat : Int)) = ((x % 64 : Nat) : Int) := by
  have : ∀ c : Fin 256, IntKind.i64.wrap (IntKind.u8.wrap ((BitVec.ofInt IntKind.u8.bits (c.1 : Int) &&& BitVec.ofInt IntKind.u8.bits 63).toNat : Int)) = ((c.1 % 64 : Nat) : Int) := by decide +kernel
  exact this ⟨x, h⟩
theorem nxt_eq (m x : Nat) (hm : m < 1099511627776) (hx : x < 256) : nxt (m : Int) (x : Int) = ((m * 64 + x % 64 : Nat) : Int) := by
  unfold nxt
  have h1 : IntKind.i64.wrap ((m : Int) * 2 ^ min (Int.toNat 6) IntKind.i64.bits) = ((m * 64 : Nat) : Int) := by
    have e : (2 : Int) ^ min (Int.toNat 6) IntKind.i64.bits = 64 := by decide
    rw [e, wrap64 _ (by omega) (by omega)]
    omega
  rw [h1, and63 x hx]
  have h3 : (BitVec.ofInt IntKind.i64.bits ((m * 64 : Nat) : Int) ||| BitVec.ofInt IntKind.i64.bits ((x % 64 : Nat) : Int)).toNat = m * 64 + x % 64 := by
    rw [BitVec.toNat_or, BitVec.toNat_ofInt, BitVec.toNat_ofInt]
    have e1 : (((m * 64 : Nat) : Int) % ((2 ^ IntKind.i64.bits : Nat) : Int)).toNat = m * 64 := by
      have : ((2 ^ IntKind.i64.bits : Nat) : Int) = 18446744073709551616 := by decide
      rw [this]
      omega
    have e2 : (((x % 64 : Nat) : Int) % ((2 ^ IntKind.i64.bits : Nat) : Int)).toNat = x % 64 := by
      have : ((2 ^ IntKind.i64.bits : Nat) : Int) = 18446744073709551616 := by decide
      rw [this]
      omega
    rw [e1, e2]
    have := Nat.shiftLeft_add_eq_or_of_lt (show x % 64 < 2 ^ 6 by omega) m
    rw [Nat.shiftLeft_eq] at this
    exact this.symm
  rw [h3, wrap64 _ (by omega) (by omega)]
/-! one scalar -/
def goodI (v : Int) : Bool := bif decide (v ≤ 1114111) then (bif decide (v < 55296) then true else decide (v > 57343)) else false
def encI (v : Int) : List UInt8 := (Utf8.encode v).data.toList
theorem goodI_valid {v : Int} (h0 : 0 ≤ v) (h : goodI v = true) : Utf8.valid v = true := by
  unfold goodI at h
  unfold Utf8.valid
  by_cases h1 : v ≤ 1114111
  · rw [decide_eq_true h1] at h
    by_cases h2 : v < 55296
    · simp; omega
    · rw [decide_eq_false h2] at h
      have h3 : v > 57343 := by simpa using h
      simp; omega
  · rw [decide_eq_false h1] at h; cases h
theorem u8n (n : Nat) (h : n < 256) : ((UInt8.ofNat n).toNat : Int) = (n : Int) := by
  simp; omega
theorem one_ok (v : Int) (h0 : 0 ≤ v) (hv : goodI v = true) (a : Nat) (d : DS) (hd : d.l = 0) :
    okD a (encI v) d ∧ (foldD a (encI v) d).l = 0 ∧ (foldD a (encI v) d).out = d.out ++ [(v, (a : Int))] := by
  have hval := goodI_valid h0 hv
  have hr : (0 ≤ v ∧ v < 55296) ∨ (57344 ≤ v ∧ v ≤ 1114111) := by
    unfold Utf8.valid at hval
    simp at hval
    exact hval
  obtain ⟨n, rfl⟩ : ∃ n : Nat, v = (n : Int) := ⟨v.toNat, by omega⟩
  have hn : (n : Int).toNat = n := by omega
  unfold encI Utf8.encode
  simp only [hval, if_true, hn]
  by_cases c1 : n < 128
  · rw [if_pos c1]
    simp only [okD, foldD, u8n n (by omega)]
    have hs : stepD (a : Int) (n : Int) d = ⟨a, 0, d.v, lowF n, highF n, d.out ++ [((n : Int), (a : Int))]⟩ := by
      unfold stepD; rw [if_pos hd, if_pos (by omega)]
    rw [hs]
    exact ⟨⟨.inl ⟨hd, by omega, by omega, .inl (by omega)⟩, trivial⟩, rfl, rfl⟩
  · rw [if_neg c1]
    by_cases c2 : n < 2048
    · rw [if_pos c2]
      simp only [okD, foldD, u8n (192 + n / 64) (by omega), u8n (128 + n % 64) (by omega)]
      have hs : stepD (a : Int) ((192 + n / 64 : Nat) : Int) d = ⟨a, 1, ((n / 64 : Nat) : Int), 128, 191, d.out⟩ := by
        unfold stepD
        rw [if_pos hd, if_neg (by omega)]
        have e1 : leftF ((192 + n / 64 : Nat) : Int) = 1 := by unfold leftF; rw [if_pos (by omega)]
        have e2 : valF ((192 + n / 64 : Nat) : Int) = ((n / 64 : Nat) : Int) := by unfold valF; rw [if_pos (by omega), and31 _ (by omega)]; omega
        have e3 : lowF ((192 + n / 64 : Nat) : Int) = 128 := by unfold lowF; rw [if_neg (by omega), if_neg (by omega)]
        have e4 : highF ((192 + n / 64 : Nat) : Int) = 191 := by unfold highF; rw [if_neg (by omega), if_neg (by omega)]
        rw [e1, e2, e3, e4]
      have hg : goodD ((192 + n / 64 : Nat) : Int) d := .inl ⟨hd, by omega, by omega, .inr (by unfold leftF; rw [if_pos (by omega)]; decide)⟩
      refine ⟨⟨hg, ?_, trivial⟩, ?_⟩
      · rw [hs]; exact .inr ⟨by simp, by simp, by show (128 : Int) ≤ _; omega, by show _ ≤ (191 : Int); omega⟩
      · rw [hs]
        have hs2 : stepD ((a + 1 : Nat) : Int) ((128 + n % 64 : Nat) : Int) ⟨a, 1, ((n / 64 : Nat) : Int), 128, 191, d.out⟩ = ⟨a, 0, (n : Int), 128, 191, d.out ++ [((n : Int), (a : Int))]⟩ := by
          unfold stepD
          rw [if_neg (by simp), if_pos rfl]
          have : nxt ((n / 64 : Nat) : Int) ((128 + n % 64 : Nat) : Int) = (n : Int) := by rw [nxt_eq _ _ (by omega) (by omega)]; omega
          simp only [this]
        rw [hs2]
        exact ⟨rfl, rfl⟩
    · rw [if_neg c2]
      by_cases c3 : n < 65536
      · rw [if_pos c3]
        simp only [okD, foldD, u8n (224 + n / 4096) (by omega), u8n (128 + n / 64 % 64) (by omega), u8n (128 + n % 64) (by omega)]
        have hs : stepD (a : Int) ((224 + n / 4096 : Nat) : Int) d = ⟨a, 2, ((n / 4096 : Nat) : Int), lowF ((224 + n / 4096 : Nat) : Int), highF ((224 + n / 4096 : Nat) : Int), d.out⟩ := by
          unfold stepD
          rw [if_pos hd, if_neg (by omega)]
          have e1 : leftF ((224 + n / 4096 : Nat) : Int) = 2 := by unfold leftF; rw [if_neg (by omega), if_pos (by omega)]
          have e2 : valF ((224 + n / 4096 : Nat) : Int) = ((n / 4096 : Nat) : Int) := by unfold valF; rw [if_neg (by omega), if_pos (by omega), and15 _ (by omega)]; omega
          rw [e1, e2]
        have hg : goodD ((224 + n / 4096 : Nat) : Int) d := .inl ⟨hd, by omega, by omega, .inr (by unfold leftF; rw [if_neg (by omega), if_pos (by omega)]; decide)⟩
        have hs2 : stepD ((a + 1 : Nat) : Int) ((128 + n / 64 % 64 : Nat) : Int) ⟨a, 2, ((n / 4096 : Nat) : Int), lowF ((224 + n / 4096 : Nat) : Int), highF ((224 + n / 4096 : Nat) : Int), d.out⟩ = ⟨a, 1, ((n / 64 : Nat) : Int), 128, 191, d.out⟩ := by
          unfold stepD
          rw [if_neg (by simp), if_neg (by simp)]
          have : nxt ((n / 4096 : Nat) : Int) ((128 + n / 64 % 64 : Nat) : Int) = ((n / 64 : Nat) : Int) := by rw [nxt_eq _ _ (by omega) (by omega)]; omega
          simp only [this]
          rfl
        have hs3 : stepD ((a + 1 + 1 : Nat) : Int) ((128 + n % 64 : Nat) : Int) ⟨a, 1, ((n / 64 : Nat) : Int), 128, 191, d.out⟩ = ⟨a, 0, (n : Int), 128, 191, d.out ++ [((n : Int), (a : Int))]⟩ := by
          unfold stepD
          rw [if_neg (by simp), if_pos rfl]
          have : nxt ((n / 64 : Nat) : Int) ((128 + n % 64 : Nat) : Int) = (n : Int) := by rw [nxt_eq _ _ (by omega) (by omega)]; omega
          simp only [this]
        have hlo : lowF ((224 + n / 4096 : Nat) : Int) ≤ ((128 + n / 64 % 64 : Nat) : Int) := by
          unfold lowF
          split
          · omega
          · rw [if_neg (by omega)]; omega
        have hhi : ((128 + n / 64 % 64 : Nat) : Int) ≤ highF ((224 + n / 4096 : Nat) : Int) := by
          unfold highF
          split
          · omega
          · rw [if_neg (by omega)]; omega
        rw [hs, hs2, hs3]
        exact ⟨⟨hg, .inr ⟨by simp, by simp, hlo, hhi⟩, .inr ⟨by simp, by simp, by show (128 : Int) ≤ _; omega, by show _ ≤ (191 : Int); omega⟩, trivial⟩, rfl, rfl⟩
      · rw [if_neg c3]
        simp only [okD, foldD, u8n (240 + n / 262144) (by omega), u8n (128 + n / 4096 % 64) (by omega), u8n (128 + n / 64 % 64) (by omega), u8n (128 + n % 64) (by omega)]
        have hs : stepD (a : Int) ((240 + n / 262144 : Nat) : Int) d = ⟨a, 3, ((n / 262144 : Nat) : Int), lowF ((240 + n / 262144 : Nat) : Int), highF ((240 + n / 262144 : Nat) : Int), d.out⟩ := by
          unfold stepD
          rw [if_pos hd, if_neg (by omega)]
          have e1 : leftF ((240 + n / 262144 : Nat) : Int) = 3 := by unfold leftF; rw [if_neg (by omega), if_neg (by omega), if_pos (by omega)]
          have e2 : valF ((240 + n / 262144 : Nat) : Int) = ((n / 262144 : Nat) : Int) := by unfold valF; rw [if_neg (by omega), if_neg (by omega), and7 _ (by omega)]; omega
          rw [e1, e2]
        have hg : goodD ((240 + n / 262144 : Nat) : Int) d := .inl ⟨hd, by omega, by omega, .inr (by unfold leftF; rw [if_neg (by omega), if_neg (by omega), if_pos (by omega)]; decide)⟩
        have hs2 : stepD ((a + 1 : Nat) : Int) ((128 + n / 4096 % 64 : Nat) : Int) ⟨a, 3, ((n / 262144 : Nat) : Int), lowF ((240 + n / 262144 : Nat) : Int), highF ((240 + n / 262144 : Nat) : Int), d.out⟩ = ⟨a, 2, ((n / 4096 : Nat) : Int), 128, 191, d.out⟩ := by
          unfold stepD
          rw [if_neg (by simp), if_neg (by simp)]
          have : nxt ((n / 262144 : Nat) : Int) ((128 + n / 4096 % 64 : Nat) : Int) = ((n / 4096 : Nat) : Int) := by rw [nxt_eq _ _ (by omega) (by omega)]; omega
          simp only [this]
          rfl
        have hs3 : stepD ((a + 1 + 1 : Nat) : Int) ((128 + n / 64 % 64 : Nat) : Int) ⟨a, 2, ((n / 4096 : Nat) : Int), 128, 191, d.out⟩ = ⟨a, 1, ((n / 64 : Nat) : Int), 128, 191, d.out⟩ := by
          unfold stepD
          rw [if_neg (by simp), if_neg (by simp)]
          have : nxt ((n / 4096 : Nat) : Int) ((128 + n / 64 % 64 : Nat) : Int) = ((n / 64 : Nat) : Int) := by rw [nxt_eq _ _ (by omega) (by omega)]; omega
          simp only [this]
          rfl
        have hs4 : stepD ((a + 1 + 1 + 1 : Nat) : Int) ((128 + n % 64 : Nat) : Int) ⟨a, 1, ((n / 64 : Nat) : Int), 128, 191, d.out⟩ = ⟨a, 0, (n : Int), 128, 191, d.out ++ [((n : Int), (a : Int))]⟩ := by
          unfold stepD
          rw [if_neg (by simp), if_pos rfl]
          have : nxt ((n / 64 : Nat) : Int) ((128 + n % 64 : Nat) : Int) = (n : Int) := by rw [nxt_eq _ _ (by omega) (by omega)]; omega
          simp only [this]
        have hlo : lowF ((240 + n / 262144 : Nat) : Int) ≤ ((128 + n / 4096 % 64 : Nat) : Int) := by
          unfold lowF
          rw [if_neg (by omega)]
          split <;> omega
        have hhi : ((128 + n / 4096 % 64 : Nat) : Int) ≤ highF ((240 + n / 262144 : Nat) : Int) := by
          unfold highF
          rw [if_neg (by omega)]
          split <;> omega
        rw [hs, hs2, hs3, hs4]
        exact ⟨⟨hg, .inr ⟨by simp, by simp, hlo, hhi⟩, .inr ⟨by simp, by simp, by show (128 : Int) ≤ _; omega, by show _ ≤ (191 : Int); omega⟩, .inr ⟨by simp, by simp, by show (128 : Int) ≤ _; omega, by show _ ≤ (191 : Int); omega⟩, trivial⟩, rfl, rfl⟩
/-! a list of numbers -/
def V (x : Int) : Int := IntKind.i64.wrap ((BitVec.ofInt IntKind.i64.bits x &&& BitVec.ofInt IntKind.i64.bits 2097151).toNat : Int)
def txt (F : Nat → Int) : Nat → List UInt8
  | 0 => []
  | i + 1 => bif goodI (V (F i)) then txt F i ++ encI (V (F i)) else txt F i
def wnt (F : Nat → Int) : Nat → List (Int × Int)
  | 0 => []
  | i + 1 => bif goodI (V (F i)) then wnt F i ++ [(V (F i), ((txt F i).length : Int))] else wnt F i
def d0 : DS := ⟨0, 0, 0, 0, 0, []⟩
theorem txt_run (F : Nat → Int) (hV : ∀ i, 0 ≤ V (F i)) : ∀ i, okD 0 (txt F i) d0 ∧ (foldD 0 (txt F i) d0).l = 0 ∧ (foldD 0 (txt F i) d0).out = wnt F i := by
  intro i
  induction i with
  | zero => exact ⟨trivial, rfl, rfl⟩
  | succ i ih =>
    obtain ⟨h1, h2, h3⟩ := ih
    simp only [txt, wnt]
    cases hg : goodI (V (F i)) with
    | false => exact ⟨h1, h2, h3⟩
    | true =>
      simp only [cond_true]
      obtain ⟨g1, g2, g3⟩ := one_ok (V (F i)) (hV i) hg (0 + (txt F i).length) _ h2
      refine ⟨okD_append _ _ _ _ h1 g1, ?_, ?_⟩
      · rw [foldD_append]; exact g2
      · rw [foldD_append, g3, h3, Nat.zero_add]
end Go.Dc.Ka
