/- strings.Join: what it answers. -/
import Derived.Test.YtachjlpdnehgiaaFields
import Derived.Test.YtachjlpdnehgiaaDcZh
import Derived.Shelf.Strings.OnBuilder
set_option linter.unusedVariables false
namespace Go.Dc.Kd
open Go.Proofs Go.RowKit Go.Shelf
set_option maxRecDepth 100000
def fJ (n : Nat) : Nat := if n = 156 then 79 else if n = 165 then 92 else if n = 166 then 74 else if n = 169 then 75 else if n = 240 then 90 else if n = 241 then 94 else if n = 276 then 93 else if n = 277 then 95 else 0
def tJ (n : Nat) : Nat := if n = 31 then 69 else if n = 37 then 117 else if n = 70 then 116 else if n = 72 then 119 else if n = 75 then 121 else if n = 76 then 122 else if n = 80 then 124 else if n = 127 then 134 else if n = 164 then 140 else n
def rJ : Ren := { f := fJ, g := fun _ => 0, t := tJ }
theorem laysJ : Lays.n156 Try.prog rJ := by constructor <;> first | kernel_rfl | (intro w; kernel_rfl)
theorem extraJ : Builder.Extra Try.prog rJ := { sizeBuilder := by kernel_rfl, liesBuilder := by kernel_rfl, t5 := by kernel_rfl, a5 := by intro w; kernel_rfl, z5 := by intro w; kernel_rfl, v5 := by intro w; kernel_rfl, infoByte := by kernel_rfl, cellsByte := by kernel_rfl, sizeByte := by kernel_rfl, neB5 := by simp [rJ, tJ] }
/-- The fields of a text, told by their places. -/
def spec76g : CallSpec := fun args h k => match args with
  | [.str s, .fn 77 [] []] => s.length ≤ 4294967296 ∧ k (.sl false h.length 0 (fieldsL s).length .no) (h ++ [some (strsRow 9 (fieldsL s))])
  | _ => False
theorem spec76g_ok (R : Nat → RoRow) : ∀ args h k, spec76g args h k → SafeCall Try.prog R 76 args h k := by
  intro args h k hk
  unfold spec76g at hk
  split at hk
  · rename_i s
    have h1 := spec76_ok R [.str s, .fn 77 [] []] h (fun v' h' => v' = .sl false h.length 0 (fieldsL s).length .tight ∧ h' = h ++ [some (.lst 9 1 ((fieldsL s).map AV.str))]) ⟨hk.1, rfl, rfl⟩
    refine (h1.retell (v0 := .sl false h.length 0 (fieldsL s).length .no) (r0 := strsRow 9 (fieldsL s)) rfl rfl (by simp [strsRow, Row.len]) ?_ ?_).mono ?_
    · intro i e he
      have hi : i < (fieldsL s).length := by
        unfold strsRow at he
        rcases Nat.lt_or_ge i (fieldsL s).length with h | h
        · exact h
        · simp only [Row.get?] at he
          have : i.blt (fieldsL s).length = false := by rw [Bool.eq_false_iff]; intro hb; rw [Nat.blt_eq] at hb; omega
          rw [this] at he; simp at he
      unfold strsRow at he
      rw [Row.get_gen hi] at he
      simp only [Option.some.injEq] at he
      subst he
      simp [Row.get?, hi, List.getD]
    · intro m n c hd
      simp only [Den] at hd ⊢
      refine ⟨hd.1, ?_⟩
      have h2 := hd.2
      unfold SlDen at h2 ⊢
      split
      · rename_i hv; rw [if_pos hv] at h2; obtain ⟨h3, ao, h4, _⟩ := h2; exact ⟨h3, ao, h4, trivial⟩
      · rename_i hv; rw [if_neg hv] at h2; obtain ⟨a, cap, h3, h4, h5, _, h6⟩ := h2; exact ⟨a, cap, h3, h4, h5, trivial, h6⟩
    · rintro v' h' ⟨rfl, rfl⟩
      exact hk.2
  · exact hk.elim
theorem join_calls (l : List (List UInt8)) (sep : List UInt8) (bk o cap : Nat) (w : World) (hcell : ∀ (j : Nat) (s : List UInt8), l[j]? = some s → w.cell? ⟨bk, o + j, Option.none⟩ = some (.string ⟨⟨s⟩⟩)) (hbk : bk < w.heap.size) (hn : l.length ≤ 140737488355328) (hcap : l.length ≤ cap)
    (hlen : (Lib.join l sep).length ≤ 140737488355328) :
    Calls Try.prog 79 #[.slice (some ⟨bk, o, Option.none⟩) l.length cap, .string ⟨⟨sep⟩⟩] w fun e w' => ∃ c, e = .returned c ∧ (∀ m n, Den m n (.str (Lib.join l sep)) c) ∧ Below w.heap.size w w' := by
  have hx : (l.map fun s => (⟨⟨s⟩⟩ : ByteArray)).map (·.data.toList) = l := by simp [Function.comp_def]
  have hl : (l.map fun s => (⟨⟨s⟩⟩ : ByteArray)).length = l.length := by simp
  have h1 := Any.strings_Join laysJ extraJ bk o cap (l.map fun s => ⟨⟨s⟩⟩) ⟨⟨sep⟩⟩ w (fun j x hx => by
    simp only [List.getElem?_map] at hx
    obtain ⟨s, hs, rfl⟩ := Option.map_eq_some_iff.1 hx
    exact hcell j s hs) hbk (hl ▸ hn) (hl ▸ hcap) (by rw [hx]; exact hlen)
  rw [hx, hl] at h1
  refine Calls.mono h1 ?_
  rintro e w' ⟨he, hb⟩
  exact ⟨_, he, fun m n => by simp [Den], hb⟩
/-- strings.Join, of a row of texts. -/
def spec79 : CallSpec := fun args h k => match args with
  | [.sl false q 0 n _, .str sep] => match h.live q with
    | some (.gen 9 1 n' at_) => n' = n ∧ (∀ j, j < n → at_ j = .str (strOf (at_ j))) ∧ n ≤ 140737488355328 ∧ (Lib.join (strsOf n at_) sep).length ≤ 140737488355328 ∧ k (.str (Lib.join (strsOf n at_) sep)) h
    | _ => False
  | _ => False
theorem spec79_ok (R : Nat → RoRow) : ∀ args h k, spec79 args h k → SafeCall Try.prog R 79 args h k := by
  intro args h k hk
  unfold spec79 at hk
  split at hk
  · rename_i q n u sep
    split at hk
    · rename_i n' at_ hq
      obtain ⟨rfl, hat, hn, hlen, hk⟩ := hk
      refine (SafeCall.knownRead (v := .str (Lib.join (strsOf n' at_) sep)) ?_).mono ?_
      · intro m w vals hW has
        simp only [DenL] at has
        obtain ⟨sv, _, has, hsv, ev, _, rfl, hev, rfl⟩ := has
        simp only [Den] at hev
        subst hev
        have has : vals = #[sv, .string ⟨⟨sep⟩⟩] := by cases vals; simp_all
        subst has
        have hL := strsOf_length n' at_
        rcases strs_cells hW (l := strsOf n' at_) (q := q) (ty := 9) (at_ := at_) (by rw [hL]; exact hq) (fun j hj => by rw [hL] at hj; rw [strsOf_getD hj]; exact hat j hj) (by rw [hL]; exact hsv) with ⟨h0, a, cap, rfl⟩ | ⟨bk, o, cap, rfl, hcap, hbk, hcell⟩
        · refine (Any.strings_Join_none laysJ extraJ a cap ⟨⟨sep⟩⟩ w).mono ?_
          rintro e w' ⟨rfl, rfl⟩
          refine ⟨_, rfl, fun m n => ?_, Below.refl _ _⟩
          rw [h0]
          simp [Den, Lib.join_nil]
        · exact join_calls (strsOf n' at_) sep bk o cap w hcell hbk (by rw [hL]; exact hn) hcap hlen
      · rintro v' h' ⟨rfl, rfl⟩
        exact hk
    · exact hk.elim
  · exact hk.elim
end Go.Dc.Kd
