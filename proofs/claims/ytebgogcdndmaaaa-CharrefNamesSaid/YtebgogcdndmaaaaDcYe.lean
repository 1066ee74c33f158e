/- Calls that only make rows of their own; calls that answer and change nothing. -/
import Derived.Test.YtebgogcdndmaaaaDcYd
set_option linter.unusedSimpArgs false
set_option linter.unusedVariables false
namespace Go.Dc

def noView : Nat → Option Nat := fun _ => none

theorem ext_nil (N : Nat) : ext noView 0 N = fun c => N + c := by
  funext c
  exact ext_ge (Nat.zero_le c)

def shiftRows (N : Nat) (h : Rows) : Rows := h.map fun r => match r with | some r => some (renRow (fun c => N + c) r) | none => none

theorem merged_nil (h h' : Rows) : merged noView 0 0 h h' = h ++ shiftRows h.length h' := by
  unfold merged
  rw [ext_nil]
  refine List.ext_getElem? fun b => ?_
  rw [List.getElem?_map]
  rcases Nat.lt_or_ge b (h.length + h'.length) with hlt | hge
  · rw [List.getElem?_range hlt]
    simp only [Option.map_some]
    rcases Nat.lt_or_ge b h.length with h1 | h1
    · rw [List.getElem?_append_left h1]
      have hn : findC (fun c => h.length + c) b h'.length = none := by
        cases hf : findC (fun c => h.length + c) b h'.length with
        | none => rfl
        | some c => have := (findC_some hf).2; omega
      rw [hn]
      simp only [seen, cond_false, Rows.live, List.getElem?_eq_getElem h1, Option.join_some]
    · rw [List.getElem?_append_right h1]
      have hn : findC (fun c => h.length + c) b h'.length = some (b - h.length) := by
        have hb : h.length + (b - h.length) = b := by omega
        have := findC_inj (g := fun c => h.length + c) (c := b - h.length) (n := h'.length) (by omega) (fun c' _ he => by omega)
        rw [hb] at this
        exact this
      rw [hn]
      have h2 : b - h.length < h'.length := by omega
      simp only [shiftRows, List.getElem?_map, List.getElem?_eq_getElem h2, Option.map_some, Rows.live, Option.join_some]
      cases h'[b - h.length] <;> rfl
  · rw [List.getElem?_eq_none (by simpa using hge), List.getElem?_eq_none (by simp [shiftRows]; omega)]
    rfl

/-- A call that needs none of the rows there are. -/
theorem SafeCall.fresh {P : Program} {R : Nat → RoRow} {fn : FuncId} {args : List AV} {Q : AV → Rows → Prop} (hs : SafeCall P R fn args [] Q) (hA : VwL noView 0 args args) (h : Rows) :
    SafeCall P R fn args h fun v'' h'' => ∃ v' h', Q v' h' ∧ v'' = ren (fun c => h.length + c) v' ∧ h'' = h ++ shiftRows h.length h' := by
  have hV : View noView [] h := ⟨fun c b hc => absurd hc (Nat.not_lt_zero _), fun c c' b hc => absurd hc (Nat.not_lt_zero _), fun c r hc => by simp [Rows.live] at hc⟩
  refine (hs.focus hV (argsL := args) hA).mono ?_
  rintro v'' h'' ⟨v', h', hq, rfl, rfl⟩
  refine ⟨v', h', hq, ?_, ?_⟩
  · show ren (ext noView 0 h.length) v' = _
    rw [ext_nil]
  · exact merged_nil h h'

/-- A call whose answer and effect the library knows. -/
theorem SafeCall.known {P : Program} {R : Nat → RoRow} {fn : FuncId} {args : List AV} {h : Rows} {v : AV} (hs : ∀ m n (as : Array Value), DenL m n args as.toList → ∃ c, Den m n v c ∧ ∀ w, Calls P fn as w fun e w' => e = .returned c ∧ w' = w) :
    SafeCall P R fn args h fun v' h' => v' = v ∧ h' = h := by
  intro m w m0 h0 w0 as has hW hstep
  obtain ⟨c, hd, hc⟩ := hs m _ as has
  refine (hc w).mono ?_
  rintro e w' ⟨rfl, rfl⟩
  exact ⟨c, v, m, h, rfl, ⟨rfl, rfl⟩, hd, hW, hstep⟩

mutual
/-- Without rows of its own. -/
def gnd : AV → Bool
  | .ptr ro _ _ _ => ro
  | .sl ro _ _ _ _ => ro
  | .fn _ a c => gndL a && gndL c
  | .ifc _ x => gnd x
  | .agg cs => gndL cs
  | .tup cs => gndL cs
  | .any => true
  | .bool _ => true
  | .int _ _ => true
  | .str _ => true
  | .nilp => true
  | .nils => true
  | .nilf => true
  | .nili => true
def gndL : List AV → Bool
  | [] => true
  | x :: xs => gnd x && gndL xs
end

mutual
theorem gnd_ren (f : Nat → Nat) : ∀ v, gnd v = true → ren f v = v
  | .ptr ro b i o, h => by simp only [gnd] at h; subst h; rfl
  | .sl ro b i o u, h => by simp only [gnd] at h; subst h; rfl
  | .fn g a c, h => by
    simp only [gnd, Bool.and_eq_true] at h
    simp only [ren, gndL_ren f a h.1, gndL_ren f c h.2]
  | .ifc t x, h => by simp only [gnd] at h; simp only [ren, gnd_ren f x h]
  | .agg cs, h => by simp only [gnd] at h; simp only [ren, gndL_ren f cs h]
  | .tup cs, h => by simp only [gnd] at h; simp only [ren, gndL_ren f cs h]
  | .any, _ => rfl
  | .bool _, _ => rfl
  | .int _ _, _ => rfl
  | .str _, _ => rfl
  | .nilp, _ => rfl
  | .nils, _ => rfl
  | .nilf, _ => rfl
  | .nili, _ => rfl
theorem gndL_ren (f : Nat → Nat) : ∀ v, gndL v = true → renL f v = v
  | [], _ => rfl
  | x :: xs, h => by
    simp only [gndL, Bool.and_eq_true] at h
    simp only [renL, gnd_ren f x h.1, gndL_ren f xs h.2]
end

mutual
theorem gnd_vw (f : Nat → Option Nat) (n : Nat) : ∀ v, gnd v = true → Vw f n v v
  | .ptr ro b i o, h => by simp only [gnd] at h; subst h; simp [Vw]
  | .sl ro b i o u, h => by simp only [gnd] at h; subst h; simp [Vw]
  | .fn g a c, h => by
    simp only [gnd, Bool.and_eq_true] at h
    simp only [Vw]
    exact ⟨a, c, rfl, gndL_vw f n a h.1, gndL_vw f n c h.2⟩
  | .ifc t x, h => by simp only [gnd] at h; simp only [Vw]; exact ⟨x, rfl, gnd_vw f n x h⟩
  | .agg cs, h => by simp only [gnd] at h; simp only [Vw]; exact ⟨cs, rfl, gndL_vw f n cs h⟩
  | .tup cs, h => by simp only [gnd] at h; simp only [Vw]; exact ⟨cs, rfl, gndL_vw f n cs h⟩
  | .any, _ => by simp [Vw]
  | .bool _, _ => by simp [Vw]
  | .int _ _, _ => by simp [Vw]
  | .str _, _ => by simp [Vw]
  | .nilp, _ => by simp [Vw]
  | .nils, _ => by simp [Vw]
  | .nilf, _ => by simp [Vw]
  | .nili, _ => by simp [Vw]
theorem gndL_vw (f : Nat → Option Nat) (n : Nat) : ∀ v, gndL v = true → VwL f n v v
  | [], _ => by simp [VwL]
  | x :: xs, h => by
    simp only [gndL, Bool.and_eq_true] at h
    simp only [VwL]
    exact ⟨x, xs, rfl, gnd_vw f n x h.1, gndL_vw f n xs h.2⟩
end

/-- An answer without rows of its own: what rows there are behind, beside those of before, is forgotten. -/
theorem SafeCall.alone {P : Program} {R : Nat → RoRow} {fn : FuncId} {args : List AV} {Q : AV → Prop} (hs : SafeCall P R fn args [] fun v _ => Q v) (hA : gndL args = true) (hg : ∀ v, Q v → gnd v = true) (h : Rows) :
    SafeCall P R fn args h fun v' h' => Q v' ∧ h' = h := by
  have h1 := (hs.none (fun v hq => gnd_vw _ _ v (hg v hq))).fresh (gndL_vw _ _ args hA) h
  refine h1.mono ?_
  rintro v'' h'' ⟨v', h', ⟨hq, rfl⟩, rfl, rfl⟩
  rw [gnd_ren _ v' (hg v' hq)]
  exact ⟨hq, by simp [shiftRows]⟩

end Go.Dc
