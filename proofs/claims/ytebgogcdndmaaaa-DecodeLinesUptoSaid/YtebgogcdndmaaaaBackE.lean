/- The decoder in UTF-8, told exactly: a byte, at Feed's rows. -/
import Derived.Test.YtebgogcdndmaaaaBackD
set_option linter.unusedVariables false
set_option linter.unusedSimpArgs false
namespace Go.Dc.Ka
open Go.Proofs Go.RowKit
set_option maxRecDepth 100000
def two04 : Nat → Option Nat := fun c => match c with | 0 => some 0 | 1 => some 4 | _ + 2 => none
def rowsF (a b l v lo hi : Int) (s : List UInt8) (n : Nat) (F : Nat → AV) : Rows := [decU a b l v lo hi (.sl false 4 0 n .no) .nils, winRow, winRow, some (.byt 5 s), some (.gen 38 2 n F)]
theorem view04 (a b l v lo hi : Int) (s : List UInt8) (n : Nat) (F : Nat → AV) (hF : Plain n F) : View two04 [decG a b l v lo hi n, some (.gen 38 2 n F)] (rowsF a b l v lo hi s n F) := by
  refine View.of ?_ ?_
  · intro c o ho
    match c with
    | 0 =>
      cases ho
      refine ViewL.at_ (b := 0) rfl rfl (RowV.lst1 rfl (Vw.aggI ?_))
      repeat' (first | with_reducible exact VwL.nil | with_reducible refine VwL.cons ?_ ?_ | with_reducible exact Vw.intI | with_reducible exact Vw.boolI | with_reducible exact Vw.nilsI | exact Vw.intI | exact Vw.slI (by simp) rfl)
    | 1 => cases ho; exact ViewL.at_ (b := 4) rfl rfl (genPlain hF)
    | c + 2 => simp at ho
  · exact injOf (N := 2) (by decide)
/-- What lies there behind a byte that told nothing. -/
theorem mergedF2 (a b l v lo hi : Int) (s : List UInt8) (n : Nat) (F : Nat → AV) (h : Rows) (hh : h = rowsF a b l v lo hi s n F) (d : Option Row) (r : Row) :
    merged two04 2 2 h [d, some r] = [d.map (renRow (ext two04 2 5)), winRow, winRow, some (.byt 5 s), some (renRow (ext two04 2 5) r), none, none] := by
  subst hh
  cases d <;> kernel_rfl
theorem mergedF3 (a b l v lo hi : Int) (s : List UInt8) (n : Nat) (F : Nat → AV) (h : Rows) (hh : h = rowsF a b l v lo hi s n F) (d : Option Row) (r : Row) :
    merged two04 2 2 h [d, none, some r] = [d.map (renRow (ext two04 2 5)), winRow, winRow, some (.byt 5 s), none, none, none, some (renRow (ext two04 2 5) r)] := by
  subst hh
  cases d <;> kernel_rfl
def rowsT (a b v lo hi : Int) (s : List UInt8) (n : Nat) (F : Nat → AV) (e : AV) : Rows := [decU a b 0 v lo hi (.sl false 5 0 (n + 1) .no) .nils, winRow, winRow, some (.byt 5 s), none, some (.gen 38 2 (n + 1) (snoc n F e))]
theorem genRen {f : Nat → Option Nat} {N n : Nat} {F : Nat → AV} {g : Nat → Nat} (h : Plain n F) : RowV f N (.gen 38 2 n F) (renRow g (.gen 38 2 n F)) :=
  .gen rfl fun i hi => ⟨(h i hi).1, by rw [gnd_ren g _ (h i hi).2]; exact gnd_vw f N _ (h i hi).2⟩
theorem winV {f : Nat → Option Nat} {N : Nat} {w : Row} (h : winRow = some w) : RowV f N w w := by
  unfold winRow at h
  cases h
  exact .gnd rfl rfl
/-- Behind a byte that told nothing, by known rows. -/
theorem viewF2 (a b l v lo hi : Int) (s : List UInt8) (n : Nat) (F : Nat → AV) (hF : Plain n F) :
    View some (rowsF a b l v lo hi s n F) [(decG a b l v lo hi n).map (renRow (ext two04 2 5)), winRow, winRow, some (.byt 5 s), some (renRow (ext two04 2 5) (.gen 38 2 n F)), none, none] := by
  refine View.of ?_ ?_
  · intro c o ho
    match c with
    | 0 =>
      cases ho
      refine ViewL.at_ (b := 0) rfl rfl (RowV.lst1 rfl (Vw.aggI ?_))
      show VwL _ _ _ [AV.bool true, AV.int .i64 a, AV.int .i64 b, AV.int .i64 l, AV.int .i64 v, AV.int .u8 lo, AV.int .u8 hi, AV.sl false 4 0 n .no, AV.nils]
      repeat' (first | with_reducible exact VwL.nil | with_reducible refine VwL.cons ?_ ?_ | with_reducible exact Vw.intI | with_reducible exact Vw.boolI | with_reducible exact Vw.nilsI | exact Vw.intI | exact Vw.slI (by simp [rowsF]) rfl)
    | 1 => cases ho; exact ViewL.at_ (b := 1) rfl rfl (winV rfl)
    | 2 => cases ho; exact ViewL.at_ (b := 2) rfl rfl (winV rfl)
    | 3 => cases ho; exact ViewL.at_ (b := 3) rfl rfl RowV.byt
    | 4 => cases ho; exact ViewL.at_ (b := 4) rfl rfl (genRen hF)
    | c + 5 => simp [rowsF] at ho
  · exact fun c c' b _ _ h1 h2 => by cases h1; cases h2; rfl
/-- Behind a byte that told a scalar. -/
theorem viewF3 (a b v lo hi : Int) (s : List UInt8) (n : Nat) (F : Nat → AV) (e : AV) (hF : Plain n F) (h1 : ones e = true) (h2 : gnd e = true) :
    View (mv2 5 7 5 7) (rowsT a b v lo hi s n F e) [(decU a b 0 v lo hi (.sl false 2 0 (n + 1) .no) .nils).map (renRow (ext two04 2 5)), winRow, winRow, some (.byt 5 s), none, none, none, some (renRow (ext two04 2 5) (.gen 38 2 (n + 1) (snoc n F e)))] := by
  refine View.of ?_ ?_
  · intro c o ho
    match c with
    | 0 =>
      cases ho
      refine ViewL.at_ (b := 0) rfl rfl (RowV.lst1 rfl (Vw.aggI ?_))
      show VwL _ _ _ [AV.bool true, AV.int .i64 a, AV.int .i64 b, AV.int .i64 0, AV.int .i64 v, AV.int .u8 lo, AV.int .u8 hi, AV.sl false 7 0 (n + 1) .no, AV.nils]
      repeat' (first | with_reducible exact VwL.nil | with_reducible refine VwL.cons ?_ ?_ | with_reducible exact Vw.intI | with_reducible exact Vw.boolI | with_reducible exact Vw.nilsI | exact Vw.intI | exact Vw.slI (by simp [rowsT]) rfl)
    | 1 => cases ho; exact ViewL.at_ (b := 1) rfl rfl (winV rfl)
    | 2 => cases ho; exact ViewL.at_ (b := 2) rfl rfl (winV rfl)
    | 3 => cases ho; exact ViewL.at_ (b := 3) rfl rfl RowV.byt
    | 4 => cases ho; exact ViewL.gone' (b := 4) rfl (by simp)
    | 5 => cases ho; exact ViewL.at_ (b := 7) rfl rfl (genRen (hF.snoc h1 h2))
    | c + 6 => simp [rowsT] at ho
  · exact injOf (N := 6) (by decide)
end Go.Dc.Ka
