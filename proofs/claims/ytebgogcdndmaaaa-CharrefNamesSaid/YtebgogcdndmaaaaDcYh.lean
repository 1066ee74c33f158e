/- A call that is known for one row alone holds wherever that row lies. -/
import Derived.Test.YtebgogcdndmaaaaDcYg
set_option linter.unusedSimpArgs false
set_option linter.unusedVariables false
namespace Go.Dc

def oneV (b : Nat) : Nat → Option Nat := fun c => bif Nat.beq c 0 then some b else none
def g1 (b N : Nat) : Nat → Nat := fun c => bif Nat.beq c 0 then b else N + c

theorem ext_one (b N : Nat) : ext (oneV b) 1 N = g1 b N := by
  funext c
  cases c with
  | zero => rfl
  | succ c => exact ext_ge (Nat.succ_le_succ (Nat.zero_le c))

theorem merged_one {b : Nat} {h : Rows} (hb : b < h.length) (o : Option Row) (tl : Rows) :
    merged (oneV b) 1 1 h (o :: tl) = h.set b (o.map (renRow (g1 b h.length))) ++ none :: tl.map (Option.map (renRow (g1 b h.length))) := by
  unfold merged
  rw [ext_one]
  refine List.ext_getElem? fun c => ?_
  rw [List.getElem?_map]
  have gs : ∀ k, g1 b h.length (k + 1) = h.length + (k + 1) := fun k => rfl
  have gz : g1 b h.length 0 = b := rfl
  rcases Nat.lt_or_ge c (h.length + (o :: tl).length) with hlt | hge
  · rw [List.getElem?_range hlt]
    simp only [Option.map_some]
    simp only [List.length_cons] at hlt ⊢
    rcases Nat.lt_or_ge c h.length with h1 | h1
    · rw [List.getElem?_append_left (by simpa using h1)]
      by_cases hcb : c = b
      · subst hcb
        have hf : findC (g1 c h.length) c (tl.length + 1) = some 0 := by
          have := findC_inj (g := g1 c h.length) (c := 0) (n := tl.length + 1) (by omega) (fun c' _ he => by
            cases c' with
            | zero => rfl
            | succ c' => rw [gs, gz] at he; omega)
          rwa [gz] at this
        rw [hf, List.getElem?_set_self h1]
        rfl
      · have hf : findC (g1 b h.length) c (tl.length + 1) = none := by
          cases hf : findC (g1 b h.length) c (tl.length + 1) with
          | none => rfl
          | some d =>
            have := (findC_some hf).2
            cases d with
            | zero => rw [gz] at this; omega
            | succ d => rw [gs] at this; omega
        rw [hf, List.getElem?_set_ne (fun e => hcb e.symm)]
        have hs : seen (oneV b) c 1 = false := by
          show (match oneV b 0 with | some b' => bif Nat.beq b' c then true else seen (oneV b) c 0 | none => seen (oneV b) c 0) = false
          show (bif Nat.beq b c then true else false) = false
          rw [show Nat.beq b c = false by rw [Bool.eq_false_iff]; exact fun e => hcb (Nat.eq_of_beq_eq_true e).symm]
          rfl
        simp only [hs, cond_false, Rows.live, List.getElem?_eq_getElem h1, Option.join_some]
    · rw [List.getElem?_append_right (by simpa using h1), List.length_set]
      obtain ⟨d, rfl⟩ : ∃ d, c = h.length + d := ⟨c - h.length, by omega⟩
      rw [show h.length + d - h.length = d by omega]
      cases d with
      | zero =>
        have hf : findC (g1 b h.length) (h.length + 0) (tl.length + 1) = none := by
          cases hf : findC (g1 b h.length) (h.length + 0) (tl.length + 1) with
          | none => rfl
          | some d =>
            have := (findC_some hf).2
            cases d with
            | zero => rw [gz] at this; omega
            | succ d => rw [gs] at this; omega
        rw [hf]
        have hl : h.live (h.length + 0) = none := by
          unfold Rows.live
          rw [List.getElem?_eq_none (by omega)]
          rfl
        simp only [hl]
        cases seen (oneV b) (h.length + 0) 1 <;> rfl
      | succ d =>
        have hf : findC (g1 b h.length) (h.length + (d + 1)) (tl.length + 1) = some (d + 1) := by
          have := findC_inj (g := g1 b h.length) (c := d + 1) (n := tl.length + 1) (by omega) (fun c' _ he => by
            cases c' with
            | zero => rw [gs, gz] at he; omega
            | succ c' => rw [gs, gs] at he; omega)
          rwa [gs] at this
        rw [hf]
        simp only [List.getElem?_cons_succ, List.getElem?_map]
        have hd : d < tl.length := by omega
        simp only [Rows.live, List.getElem?_cons_succ, List.getElem?_eq_getElem hd, Option.join_some, Option.map_some]
  · rw [List.getElem?_eq_none (by simpa using hge), List.getElem?_eq_none (by simp at hge ⊢; omega)]
    rfl

theorem SafeCall.focus1 {P : Program} {R : Nat → RoRow} {fn : FuncId} {argsL args : List AV} {r r0 : Row} {h : Rows} {b : Nat} {V : AV} {o : Option Row} {tl : Rows}
    (hb : h[b]? = some (some r0)) (hr : RowV (oneV b) 1 r r0) (hA : VwL (oneV b) 1 argsL args) (hs : SafeCall P R fn argsL [some r] fun v h' => v = V ∧ h' = o :: tl) :
    SafeCall P R fn args h fun v'' h'' => v'' = ren (g1 b h.length) V ∧ h'' = h.set b (o.map (renRow (g1 b h.length))) ++ Option.none :: tl.map (Option.map (renRow (g1 b h.length))) := by
  have hlt : b < h.length := (List.getElem?_eq_some_iff.1 hb).1
  have hV : View (oneV b) [some r] h := View.of (fun c o ho => by
    cases c with
    | zero => cases ho; exact ViewL.at_ (b := b) rfl hb hr
    | succ c => simp at ho) (fun c c' d hc hc' _ _ => by simp at hc hc'; omega)
  refine (hs.focus hV hA).mono ?_
  rintro v'' h'' ⟨v', h', ⟨rfl, rfl⟩, rfl, rfl⟩
  refine ⟨?_, merged_one hlt o tl⟩
  show ren (ext (oneV b) 1 h.length) _ = _
  rw [ext_one]
end Go.Dc
