/- Newlines in one form have no 0D left: the walk. -/
import Derived.Test.YtebgogcdndmaaaaLinC
set_option linter.unusedVariables false
set_option linter.unusedSimpArgs false
namespace Go.Dc.Ka
open Go.Proofs Go.RowKit
set_option maxRecDepth 100000
theorem vc13 (ty n : Nat) (F : Nat → Int) (Q : AV → Prop) : vcd (env13L ty n F) 10000 13 fi13 [.sl true 0 0 n .no] [] (fun v _ => Q v) = ((AV.sl true 0 0 n Cp.no = AV.sl true 0 0 n Cp.no ∧ AV.nils = AV.nils ∧ AV.int IntKind.i64 0 = AV.int IntKind.i64 0 ∧ AV.int IntKind.i64 0 = AV.int IntKind.i64 0 ∧ 125 = 125 ∧ ([] : Rows) = []) ∧ ∀ (c : Int), IsL F n c → bif true && (decide (0 + n ≤ n) && (true && decide ((0 + (Src.gen n fun j => inF F (0 + j)).len) * 16 ≤ 140737488355328))) then (AV.ptr false 3 0 0 = AV.ptr false 3 0 0 ∧ AV.nils = AV.nils ∧ AV.sl false 0 0 n Cp.no = AV.sl false 0 0 n Cp.no ∧ AV.int IntKind.i64 (↑n : Int) = AV.int IntKind.i64 (↑n : Int) ∧ AV.int IntKind.i64 0 = AV.int IntKind.i64 0 ∧ 47 = 47 ∧ false = false ∧ WasOK n F n ((Src.lst (List.take 0 (List.drop 0 []))).len + (Src.gen n fun j => inF F (0 + j)).len) (inF F) fun j => bif j.blt (Src.lst (List.take 0 (List.drop 0 []))).len then (Src.lst (List.take 0 (List.drop 0 []))).at_ j else (Src.gen n fun j => inF F (0 + j)).at_ (j - (Src.lst (List.take 0 (List.drop 0 []))).len)) ∧ ∀ (a : Bool) (o : List (Int × Int)), IsP F n a o → (AV.sl false 0 0 n Cp.no = AV.sl false 0 0 n Cp.no ∧ AV.sl false 2 0 (0 + (Src.gen n fun j => inF F (0 + j)).len) Cp.no = AV.sl false 2 0 n Cp.no ∧ AV.sl false 4 0 o.length Cp.no = AV.sl false 4 0 o.length Cp.no ∧ AV.int IntKind.i64 0 = AV.int IntKind.i64 0 ∧ 125 = 125 ∧ OutOK n F n n o.length (inF F) (inF F) (outG o)) ∧ (AV.sl false 0 0 n Cp.no = AV.sl false 0 0 n Cp.no ∧ AV.sl false 2 0 n Cp.no = AV.sl false 2 0 n Cp.no ∧ AV.sl false 4 0 o.length Cp.no = AV.sl false 4 0 o.length Cp.no ∧ AV.int IntKind.i64 0 = AV.int IntKind.i64 0 ∧ 125 = 125 ∧ OutOK n F n n o.length (inF F) (inF F) (outG o)) ∧ bif (↑o.length : Int) == IntKind.i64.wrap ((↑n : Int) - c) then bif true && (decide (0 + n ≤ n) && (true && decide ((0 + (Src.gen n fun j => inF F (0 + j)).len) * 16 ≤ 140737488355328))) then bif (↑(0 + (Src.gen n fun j => inF F (0 + j)).len) : Int) == (↑n : Int) then Q (AV.bool true) else Q (AV.bool false) else False else Q (AV.bool false) else False) := by kernel_rfl
theorem cap16a {m : Nat} (h : m ≤ 2000000) : (true && (decide (0 + m ≤ m) && (true && decide ((0 + m) * 16 ≤ 140737488355328)))) = true := by simp; omega
theorem safe13 (ty n : Nat) (F : Nat → Int) (hn : n ≤ 1048576) : SafeCall Try.prog (roI ty n F) 13 [.sl true 0 0 n .no] [] fun v _ => v = .bool true := by
  refine byVcd (env13L_ok ty n F hn) (f := 13) (fi := fi13) (by kernel_rfl) 10000 (vc13 ty n F (fun v => v = .bool true)) ?_
  refine ⟨⟨rfl, rfl, rfl, rfl, rfl, rfl⟩, ?_⟩
  rintro c ⟨rfl⟩
  refine hcond (fun _ => ?_) (fun h => by exfalso; have := (cap16a (m := n) (by omega)).symm.trans h; simp at this)
  refine ⟨⟨rfl, rfl, rfl, rfl, rfl, rfl, rfl, ⟨rfl, rfl, Nat.zero_add n, ?_⟩⟩, ?_⟩
  · intro j hj
    show (Src.gen n fun j => inF F (0 + j)).at_ (j - 0) = inF F j
    show inF F (0 + (j - 0)) = inF F j
    rw [Nat.sub_zero, Nat.zero_add]
  · rintro a o ⟨rfl⟩
    have hl := pass_len F n
    have hO : OutOK n F n n (passO F n).length (inF F) (inF F) (outG (passO F n)) := ⟨_, by omega, pass_none F n, rfl, rfl, rfl, rfl, rfl, rfl⟩
    have e0 : AV.sl false 2 0 (0 + n) Cp.no = AV.sl false 2 0 n Cp.no := by rw [Nat.zero_add]
    refine ⟨⟨rfl, e0, rfl, rfl, rfl, hO⟩, ⟨rfl, rfl, rfl, rfl, rfl, hO⟩, ?_⟩
    have hs : IntKind.i64.wrap ((n : Int) - ((less F n : Nat) : Int)) = (((passO F n).length : Nat) : Int) := by rw [wrap64 _ (by omega) (by omega)]; omega
    rw [hs]
    refine hcond (fun _ => ?_) (fun h => by exfalso; simp at h)
    refine hcond (fun _ => ?_) (fun h => by exfalso; have := (cap16a (m := n) (by omega)).symm.trans h; simp at this)
    refine hcond (fun _ => rfl) (fun h => ?_)
    exfalso
    have h' : (((0 + n : Nat) : Int) == (n : Int)) = false := h
    simp at h'
def IntsUpto (N : Nat) (w : World) (v : Value) : Prop := ∃ (ty n : Nat) (F : Nat → Int) (m : Map), n ≤ N ∧ (∀ i, RoOK m (m.ro i) (roL ty 1 n (fun j => .int .i64 (F j)) i) w) ∧ Den m 0 (.sl true 0 0 n .no) v
theorem uptoNil (N : Nat) (w : World) : IntsUpto N w (.slice none 0 0) := by
  obtain ⟨ty, m, h1, h2⟩ := nilArg w (fun j => .int .i64 0)
  exact ⟨ty, 0, fun _ => 0, m, Nat.zero_le _, h1, h2⟩
theorem uptoList (N : Nat) (w : World) (a : Addr) (len cap : Nat) (zs : List Int) (hN : len ≤ N) (hl : len ≤ cap) (hm : cap ≤ maxLen) (hcell : ∀ i, i < cap → w.cell? (a.add i) = some (.int .i64 (zs.getD i 0))) : IntsUpto N w (.slice (some a) len cap) := by
  obtain ⟨ty, m, h1, h2⟩ := listArg w a len cap (fun j => .int .i64 (zs.getD j 0)) (fun j => .int .i64 (zs.getD j 0)) hl hm (fun _ => rfl) (fun m n i => by simp [Den]) hcell
  exact ⟨ty, len, fun j => zs.getD j 0, m, hN, h1, h2⟩
theorem lines_walk (w : World) (v : Value) (h : IntsUpto 1048576 w v) : Calls Try.prog 13 #[v] w fun e w' => e = .returned (.bool true) ∧ Go.RowKit.Below w.heap.size w w' := by
  obtain ⟨ty, n, F, m, hn, hro, hd⟩ := h
  exact (safe13 ty n F hn).law m _ w (by simp only [DenL]; exact ⟨_, _, rfl, hd, rfl⟩) hro
end Go.Dc.Ka
