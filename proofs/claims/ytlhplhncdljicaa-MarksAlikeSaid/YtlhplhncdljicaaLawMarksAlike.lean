/- Of any two entries: whether they are alike is the document's answer, the same the other way round, and each is like itself. No condition. -/
import Derived.Test.YtlhplhncdljicaaRows
import Derived.Test.YtlhplhncdljicaaAliF
import Derived.WalkKit
import Derived.ProofKit
import Derived.OpenShut
import Derived.ShutString
import Derived.ChangeOld
import Derived.Below
import Derived.SizedLaws
import Derived.ChangeSlices
import Derived.Carry
import Derived.ChangeArms
namespace Go.Proofs.Ytlhplhncdljicaa.marksAlike
open Go.ChangeShapes Go.WideShapes Go.ChangeAt Go.RowKit
open Go.ChangeMaps (open_string shut_string)
set_option linter.unusedVariables false
theorem laidOut : laidOutB Try.prog = true := by kernel_rfl
theorem cells34 : Try.prog.cellsOf 34 = 5 := by kernel_rfl
theorem cells3 : Try.prog.cellsOf 3 = 1 := by kernel_rfl
theorem cells9 : Try.prog.cellsOf 9 = 1 := by kernel_rfl
theorem cells32 : Try.prog.cellsOf 32 = 1 := by kernel_rfl
/-- A field of a struct that came in. -/
theorem struct_at {H : Type} {enc : TypeId × Value → H} {P : Program} {w : World} {base : Nat} {spare : Nat → Bool} {held : Bool} {t : TypeId} {fs : Array Field} {fuel : Nat} {cs : List Value} {x : DataW H × List MemPlace} (ht : P.underlying t = some (.struct fs)) (h : DataW.trod enc P w base spare held fuel t cs = some x) (o : Nat) (f : Field) (hfo : fs[o]? = some f) {k : Nat} (hc : P.cellsOf f.type = k) :
    ∃ n y, DataW.trod enc P w base spare held n f.type ((cs.drop f.offset).take k) = some y := by
  obtain ⟨xs, n, _, _, hl, hxl, hx⟩ := DataW.trod_struct ht h
  have h1 := hx o f hfo
  rw [hc] at h1
  have hlt : o < xs.length := by rw [hxl]; exact (Array.getElem?_eq_some_iff.1 hfo).1
  rw [List.getElem?_eq_getElem hlt] at h1
  exact ⟨n, _, h1⟩
set_option maxRecDepth 100000 in
theorem fields89 : Go.Dc.FieldsOK Try.prog #[{ name := "Name", type := 9, offset := 0, embedded := false, tag := "", pkgPath := "", byteOffset := 0 }, { name := "Value", type := 9, offset := 1, embedded := false, tag := "", pkgPath := "", byteOffset := 16 }] [.str, .str] := by
  intro o k hk
  match o with
  | 0 => cases hk; exact ⟨_, rfl, rfl, cells9, Try.underlying9⟩
  | 1 => cases hk; exact ⟨_, rfl, rfl, cells9, Try.underlying9⟩
  | o + 2 => simp at hk
theorem own : ownKnob Try.prog.godebug = none := by kernel_rfl
/-- The bytes of a cell. -/
def bytesOf : Option Value → List UInt8
  | some (.string s) => s.data.toList
  | _ => []
theorem act_open {H : Type} {enc : TypeId × Value → H} {W : World} {v : Value} {d : DataW H} {p : List MemPlace} (hv : ∃ cs, v = .agg cs ∧ cs.size = Try.prog.cellsOf 34) (h : DataW.Trod enc Try.prog W 0 (fun _ => true) true 34 v d p) : Go.Dc.Kb.ActAt W v := by
  obtain ⟨cs, rfl, hcs⟩ := hv
  obtain ⟨fuel, hf⟩ := h
  rw [cells34] at hcs
  obtain ⟨c0, c1, c2, c3, c4, rfl⟩ : ∃ c0 c1 c2 c3 c4, cs = #[c0, c1, c2, c3, c4] := by
    rcases cs with ⟨l⟩
    match l, hcs with
    | [c0, c1, c2, c3, c4], _ => exact ⟨c0, c1, c2, c3, c4, rfl⟩
  obtain ⟨n0, y0, g0⟩ := struct_at Try.underlying34 hf 0 _ rfl (k := 1) cells3
  obtain ⟨n1, y1, g1⟩ := struct_at Try.underlying34 hf 1 _ rfl (k := 1) cells3
  obtain ⟨n2, y2, g2⟩ := struct_at Try.underlying34 hf 2 _ rfl (k := 1) cells3
  obtain ⟨n3, y3, g3⟩ := struct_at Try.underlying34 hf 3 _ rfl (k := 1) cells9
  obtain ⟨n4, y4, g4⟩ := struct_at Try.underlying34 hf 4 _ rfl (k := 1) cells32
  obtain ⟨wh, rfl, _⟩ := Go.Dc.trod_ck (k := .int .i64) (t := 3) (v := c0) Try.underlying3 g0
  obtain ⟨at_, rfl, _⟩ := Go.Dc.trod_ck (k := .int .i64) (t := 3) (v := c1) Try.underlying3 g1
  obtain ⟨nd, rfl, _⟩ := Go.Dc.trod_ck (k := .int .i64) (t := 3) (v := c2) Try.underlying3 g2
  obtain ⟨nm, rfl, _⟩ := Go.Dc.trod_ck (k := .str) (t := 9) (v := c3) Try.underlying9 g3
  rcases Go.Dc.open_flat (ks := [.str, .str]) Try.underlying32 Try.underlying89 fields89 (by kernel_rfl) (cs := [c4]) g4 with hc | ⟨a, len, cap, hc, hl, hm, hcell⟩
  · have e : c4 = .slice none 0 0 := by simpa using hc
    subst e
    obtain ⟨ty, l, h1, h2⟩ := Go.Dc.rowsNil W 2 (Go.Dc.Kb.atA (fun _ => []) (fun _ => []))
    exact ⟨wh, at_, nd, nm.data.toList, ty, 0, fun _ => [], fun _ => [], l, _, h1, rfl, h2⟩
  · have e : c4 = .slice (some a) len cap := by simpa using hc
    subst e
    obtain ⟨ty, l, h1, h2⟩ := Go.Dc.rowsArg W a len cap 2 (by decide) (Go.Dc.Kb.atA (fun i => bytesOf (W.cell? (a.add (i * 2 + 0)))) (fun i => bytesOf (W.cell? (a.add (i * 2 + 1))))) hl hm (fun i _ => rfl) (by
      intro i hi o ho
      match o, ho with
      | 0, _ =>
        obtain ⟨v, hv, s, rfl, _⟩ := hcell i hi 0 _ rfl
        refine ⟨_, hv, ?_⟩
        intro b _ hb
        cases hb
        refine ⟨rfl, fun m n => ?_⟩
        show Value.string s = Value.string ⟨⟨bytesOf (W.cell? (a.add (i * 2 + 0)))⟩⟩
        rw [show W.cell? (a.add (i * 2 + 0)) = some (.string s) from hv]
        rfl
      | 1, _ =>
        obtain ⟨v, hv, s, rfl, _⟩ := hcell i hi 1 _ rfl
        refine ⟨_, hv, ?_⟩
        intro b _ hb
        cases hb
        refine ⟨rfl, fun m n => ?_⟩
        show Value.string s = Value.string ⟨⟨bytesOf (W.cell? (a.add (i * 2 + 1)))⟩⟩
        rw [show W.cell? (a.add (i * 2 + 1)) = some (.string s) from hv]
        rfl)
    exact ⟨wh, at_, nd, nm.data.toList, ty, len, _, _, l, _, h1, rfl, h2⟩
set_option maxRecDepth 100000 in
theorem lifted (os : Os) (started : os.Started) (H : Type) (enc : TypeId × Value → H) :
    ReturnsInHanded {} Try.checked os 4 .any (Rows.marksAlikeSpec.pre6 enc Try.prog Try.f4 Rows.marksAlikeRow.domain false) (Rows.marksAlikeSpec.post enc Try.prog Try.f4 false true false false) := by
  refine returnsInHanded_of_change_sized (C := Try.checked) own started (by kernel_rfl) Try.func4
    (ChangeSpec.witness6 (enc := enc) (C := Try.checked) false ⟨#[], #[.agg #[.int .i64 0, .int .i64 0, .int .i64 0, .string ByteArray.empty, .slice none 0 0], .agg #[.int .i64 0, .int .i64 0, .int .i64 0, .string ByteArray.empty, .slice none 0 0]], []⟩ 8 (by kernel_rfl) (by kernel_rfl) (by kernel_rfl) (by kernel_rfl)) ?_
  intro W base args ds gs before hval0 hW hcnd hsz0 _
  have hval : ∀ (j : Nat) t v, Try.f4.params[j]? = some t → args[j]? = some v → Value.okWide Try.prog W .any base t v := hval0
  have hsz : (DataW.weightsEach Try.prog (Try.f4.params.toList ++ Rows.marksAlikeSpec.plain.varTypes Try.prog) (ds ++ gs)).all (· ≤ reachBytes) = true := hsz0
  have hW' := hW
  obtain ⟨p, q, hA0, hV, rfl, hfz, hnd⟩ := hW
  have hA : DataW.TrodAll enc Try.prog W 0 (fun _ => true) true Try.f4.params.toList args.toList ds p := hA0
  rw [Try.params4] at hA hval hsz
  obtain ⟨v0, vs0, d0, ds0, p0, q0, hargs0, rfl, rfl, h0, r0⟩ := trodAll_cons hA
  obtain ⟨v1, vs1, d1, ds1, p1, q1, hargs1, rfl, rfl, h1, r1⟩ := trodAll_cons r0
  obtain ⟨rfl, rfl, rfl⟩ := trodAll_nil r1
  subst hargs1
  obtain rfl : args = #[v0, v1] := by cases args; simp_all
  obtain ⟨rfl, rfl⟩ := trodVars_none hV
  have i0 := act_open (okWide_struct Try.underlying34 (hval 0 34 v0 rfl rfl)) h0
  have i1 := act_open (okWide_struct Try.underlying34 (hval 1 34 v1 rfl rfl)) h1
  have h0k := h0
  have h1k := h1
  clear hA0 hval0 hsz0 hsz
  have hlt0 : ∀ x ∈ p0, x.block < W.heap.size := fun x hx => hW'.lt x (by simp [hx])
  have hlt1 : ∀ x ∈ p1, x.block < W.heap.size := fun x hx => hW'.lt x (by simp [hx])
  have hargs0 : ∀ (W' : World), Below W.heap.size W W' → DataW.Trod enc Try.prog W' 0 (fun b => decide (b < W.heap.size)) true 34 v0 d0 p0 :=
    fun W' hn => Below.trod laidOut (by kernel_rfl) (of_decide_eq_true (by kernel_rfl)) h0k hn hlt0
  have hargs1 : ∀ (W' : World), Below W.heap.size W W' → DataW.Trod enc Try.prog W' 0 (fun b => decide (b < W.heap.size)) true 34 v1 d1 p1 :=
    fun W' hn => Below.trod laidOut (by kernel_rfl) (of_decide_eq_true (by kernel_rfl)) h1k hn hlt1
  refine (Go.Dc.Kb.alike_walk W _ _ i0 i1).mono fun e W' ⟨he, bel⟩ => ?_
  subst he
  exact ⟨_, rfl, _, _, _, [], _, [], hW', trodAll_mk1 (shut_bool Try.underlying4 _), (trodAll_cons_mk (hargs0 _ bel) (trodAll_cons_mk (hargs1 _ bel) trodAll_mk0)), rfl, bel.frame _, fun h => by cases h⟩
theorem over : Rows.marksAlikeRow.holds Try.pinned (OpenSpec.ofChange Rows.marksAlikeSpec) :=
  OpenClaim.holds_of_wide 4 Try.f4 rfl rfl rfl rfl rfl rfl rfl ⟨rfl, rfl, rfl, rfl, rfl⟩ rfl rfl rfl rfl rfl (by kernel_rfl) Try.func4 (by kernel_rfl)
    (of_decide_eq_true (by kernel_rfl)) (by unfold Func.isWrapper; first | (rw [if_pos (by decide +kernel)]; kernel_rfl) | (rw [if_neg (by decide +kernel)]; exact ⟨rfl, rfl⟩))
    (fun os started H enc _ => lifted os started H enc)
theorem proved : Rows.MarksAlikeSaid := over
#print axioms proved
end Go.Proofs.Ytlhplhncdljicaa.marksAlike
namespace Go.Proofs.Ytlhplhncdljicaa
/-- The row, under a short name, for the claim. -/
theorem marksAlike_holds : Rows.MarksAlikeSaid := marksAlike.proved
end Go.Proofs.Ytlhplhncdljicaa
