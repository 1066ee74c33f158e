/- The names of which the tree says that they never have kids are just those of the document's list; no condition. -/
import Derived.Test.YtebgogcdndmaaaaPTreeVoidx1
namespace Go.Proofs.Ytebgogcdndmaaaa.Pure
open Go.RowKit Go.Proofs.Ytebgogcdndmaaaa.PTreeVoid Go.Proofs.YtebgogcdndmaaaaW.PrintWords Go.Proofs.YtebgogcdndmaaaaW.PrintLast

def endOf (a : ByteArray) (b : Bool) : Option Bool :=
  (tree_Void.f (⟨#[98, 114]⟩ : ByteArray)).bind fun t105 => (if t105 = true then ((tree_Void.f a).bind fun t106 => (some (t106 == b))) else (some false))

theorem loop (a : ByteArray) (l : List ByteArray) (hl : l.length ≤ 1000) (d : Nat) : ∀ (k i : Nat) (b : Bool), l.length - i = d → i ≤ l.length → d < k →
    beadlelaw11_TreeVoid.l0 k a l b (i : Int) = endOf a (b || (l.drop i).any (fun x => x.toList == a.toList)) := by
  induction d with
  | zero =>
    intro k i b hd hi hk
    obtain ⟨k, rfl⟩ : ∃ m, k = m + 1 := ⟨k - 1, by omega⟩
    have : i = l.length := by omega
    subst this
    simp only [beadlelaw11_TreeVoid.l0]
    rw [if_neg (by omega)]
    simp [endOf]
  | succ d ih =>
    intro k i b hd hi hk
    obtain ⟨k, rfl⟩ : ∃ m, k = m + 1 := ⟨k - 1, by omega⟩
    have hlt : i < l.length := by omega
    have hw : wrap64 ((i : Int) + 1) = ((i + 1 : Nat) : Int) := by unfold wrap64; omega
    have hdrop : l.drop i = l[i] :: l.drop (i + 1) := List.drop_eq_getElem_cons hlt
    have hrd : rdOf ByteArray.empty l (i : Int) = l[i] := by simp [rdOf, hlt]
    simp only [beadlelaw11_TreeVoid.l0]
    rw [if_pos (by omega), hw, hdrop, List.any_cons]
    cases b with
    | true => rw [if_pos rfl, ih k (i + 1) true (by omega) (by omega) (by omega)]; rfl
    | false => rw [if_neg (by decide), if_pos (by omega), hrd, ih k (i + 1) _ (by omega) (by omega) (by omega)]; simp

theorem ite_or (s l : List UInt8) (r : Bool) (x : Option Bool) {o : Option Bool} (ho : o = some ((l == s) || r)) (h : x = some r) : (if s = l then (some true) else x) = o := by
  subst ho
  by_cases e : s = l
  · subst e; simp
  · rw [if_neg e, h]
    have : (l == s) = false := by simpa using fun h => e h.symm
    rw [this]; rfl

theorem ite_last (s l : List UInt8) : (if s = l then (some true) else (some false)) = some (l == s) := by
  by_cases e : s = l
  · subst e; simp
  · rw [if_neg e]
    have : (l == s) = false := by simpa using fun h => e h.symm
    rw [this]

theorem void_some (a : ByteArray) : tree_Void.f a = some (([(⟨#[97, 114, 101, 97]⟩ : ByteArray), (⟨#[98, 97, 115, 101]⟩ : ByteArray), (⟨#[98, 114]⟩ : ByteArray), (⟨#[99, 111, 108]⟩ : ByteArray), (⟨#[101, 109, 98, 101, 100]⟩ : ByteArray), (⟨#[104, 114]⟩ : ByteArray), (⟨#[105, 109, 103]⟩ : ByteArray), (⟨#[105, 110, 112, 117, 116]⟩ : ByteArray), (⟨#[107, 101, 121, 103, 101, 110]⟩ : ByteArray), (⟨#[108, 105, 110, 107]⟩ : ByteArray), (⟨#[109, 101, 116, 97]⟩ : ByteArray), (⟨#[112, 97, 114, 97, 109]⟩ : ByteArray), (⟨#[115, 111, 117, 114, 99, 101]⟩ : ByteArray), (⟨#[116, 114, 97, 99, 107]⟩ : ByteArray), (⟨#[119, 98, 114]⟩ : ByteArray)] : List ByteArray).any (fun x => x.toList == a.toList)) := by
  generalize ha : a.toList = s
  simp only [List.any_cons, List.any_nil, Bool.or_false, ByteArray.toList_eq]
  unfold tree_Void.f
  rw [ha]
  repeat (refine ite_or _ _ _ _ rfl ?_)
  exact ite_last _ _

theorem TreeVoid : beadlelaw11_TreeVoid.Pure := by
  intro a0 _
  refine ⟨20, ?_⟩
  unfold beadlelaw11_TreeVoid.f
  refine Eq.trans (loop a0 _ (by simp) 15 20 0 false rfl (by simp) (by decide)) ?_
  unfold endOf
  rw [void_some, void_some]
  rw [List.drop_zero]
  simp only [Option.bind_some]
  rw [if_pos (by simp [ByteArray.toList_eq])]
  simp

end Go.Proofs.Ytebgogcdndmaaaa.Pure
