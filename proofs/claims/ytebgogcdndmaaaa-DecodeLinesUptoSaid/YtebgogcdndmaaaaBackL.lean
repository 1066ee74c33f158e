/- Scalars written in UTF-8 are told as they were: the walk. -/
import Derived.Test.YtebgogcdndmaaaaBackK
set_option linter.unusedVariables false
set_option linter.unusedSimpArgs false
namespace Go.Dc.Ka
open Go.Proofs Go.RowKit
set_option maxRecDepth 100000
theorem vc8 (ty n : Nat) (F : Nat → Int) (Q : AV → Prop) : vcd (env8L ty n F) 10000 8 fi8 [.sl true 0 0 n .no] [] (fun v _ => Q v) = ((AV.sl true 0 0 n Cp.no = AV.sl true 0 0 n Cp.no ∧ AV.str [] = AV.str [] ∧ AV.nils = AV.nils ∧ AV.int IntKind.i64 0 = AV.int IntKind.i64 0 ∧ 95 = 95 ∧ ([] : Rows) = []) ∧ ∀ (t : List UInt8) (w : List (Int × Int)) (i : Nat), Is8 n F t w i → (some (some (Row.lst 62 9 [AV.agg [AV.bool true, AV.int IntKind.i64 0, AV.int IntKind.i64 0, AV.int IntKind.i64 0, AV.int IntKind.i64 0, AV.int IntKind.u8 0, AV.int IntKind.u8 0, AV.nils, AV.nils]])) = some (some (Row.lst 62 9 [AV.agg [AV.bool true, AV.int IntKind.i64 0, AV.int IntKind.i64 0, AV.int IntKind.i64 0, AV.int IntKind.i64 0, AV.int IntKind.u8 0, AV.int IntKind.u8 0, AV.nils, AV.nils]])) ∧ t.length.le 100000 ∧ okD 0 t d0 ∧ (foldD 0 t d0).l = 0) ∧ ∀ (b v lo hi : Int) (out : List (Int × Int)), foldD 0 t d0 = DS.mk b 0 v lo hi out → AV.nils = AV.nils ∧ bif (↑out.length : Int) != (↑w.length : Int) then Q (AV.bool false) else (AV.sl false 0 0 w.length Cp.no = AV.sl false 0 0 w.length Cp.no ∧ AV.sl false 3 0 out.length Cp.no = AV.sl false 3 0 out.length Cp.no ∧ AV.int IntKind.i64 0 = AV.int IntKind.i64 0 ∧ 95 = 95 ∧ Same8 w.length out.length (outG w) (outG out)) ∧ Q (AV.bool true)) := by kernel_rfl
theorem safe8 (ty n : Nat) (F : Nat → Int) (hn : n ≤ 9223372036854775807) : SafeCall Try.prog (roI ty n F) 8 [.sl true 0 0 n .no] [] fun v _ => v = .bool true := by
  refine byVcd (env8L_ok ty n F hn) (f := 8) (fi := fi8) (by kernel_rfl) 10000 (vc8 ty n F (fun v => v = .bool true)) ?_
  refine ⟨⟨rfl, rfl, rfl, rfl, rfl, rfl⟩, ?_⟩
  rintro t w i ⟨rfl, rfl, rfl⟩
  obtain ⟨h1, h2, h3⟩ := txt_run F (fun i => (V_bd (F i)).1) (min n 500)
  have hl := txt_len F (min n 500)
  have hwl := wnt_len F (min n 500)
  refine ⟨⟨rfl, by show (txt F (min n 500)).length ≤ 100000; omega, h1, h2⟩, ?_⟩
  intro b v lo hi out he
  have ho : wnt F (min n 500) = out := by rw [← h3, he]
  subst ho
  refine ⟨rfl, ?_⟩
  refine hcond (fun h => by exfalso; simp at h) (fun _ => ?_)
  exact ⟨⟨rfl, rfl, rfl, rfl, ⟨_, by omega, rfl, rfl, rfl, rfl⟩⟩, rfl⟩
def IntsAt (w : World) (v : Value) : Prop := ∃ (ty n : Nat) (F : Nat → Int) (m : Map), n ≤ 9223372036854775807 ∧ (∀ i, RoOK m (m.ro i) (roL ty 1 n (fun j => .int .i64 (F j)) i) w) ∧ Den m 0 (.sl true 0 0 n .no) v
theorem intsNil (w : World) : IntsAt w (.slice none 0 0) := by
  obtain ⟨ty, m, h1, h2⟩ := nilArg w (fun j => .int .i64 0)
  exact ⟨ty, 0, fun _ => 0, m, Nat.zero_le _, h1, h2⟩
theorem intsList (w : World) (a : Addr) (len cap : Nat) (zs : List Int) (hl : len ≤ cap) (hm : cap ≤ maxLen) (hcell : ∀ i, i < cap → w.cell? (a.add i) = some (.int .i64 (zs.getD i 0))) : IntsAt w (.slice (some a) len cap) := by
  obtain ⟨ty, m, h1, h2⟩ := listArg w a len cap (fun j => .int .i64 (zs.getD j 0)) (fun j => .int .i64 (zs.getD j 0)) hl hm (fun _ => rfl) (fun m n i => by simp [Den]) hcell
  have hM : maxLen ≤ 9223372036854775807 := by decide
  exact ⟨ty, len, fun j => zs.getD j 0, m, by omega, h1, h2⟩
theorem back_walk (w : World) (v : Value) (h : IntsAt w v) : Calls Try.prog 8 #[v] w fun e w' => e = .returned (.bool true) ∧ Go.RowKit.Below w.heap.size w w' := by
  obtain ⟨ty, n, F, m, hn, hro, hd⟩ := h
  exact (safe8 ty n F hn).law m _ w (by simp only [DenL]; exact ⟨_, _, rfl, hd, rfl⟩) hro
end Go.Dc.Ka
