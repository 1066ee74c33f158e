import Derived.Test.YtebgogcdndmaaaaChB
namespace Go.Dc.YtebgogcdndmaaaaE
set_option linter.unusedSimpArgs false
set_option linter.unusedVariables false
open Go.Proofs Go.RowKit
set_option maxRecDepth 100000
noncomputable abbrev env31 (R : Nat → RoRow) : Env Prop := (env1 R).addCall 24 (fun _ _ _ => False)
noncomputable abbrev env32 (R : Nat → RoRow) : Env Prop := (env1 R).addCall 43 (fun _ _ _ => False)
theorem env31_ok (R : Nat → RoRow) : EnvOK Try.prog (env31 R) id := (env1_ok R).addCall (f := 24) (fi := fi24) rfl (fun _ _ _ h => h.elim)
theorem env32_ok (R : Nat → RoRow) : EnvOK Try.prog (env32 R) id := (env1_ok R).addCall (f := 43) (fi := fi43) rfl (fun _ _ _ h => h.elim)
def num (a b : Int) : AV := .tup [.int .i64 a, .int .i64 b]

theorem vc31 (R : Nat → RoRow) (n : Int) (Q : AV → Prop) : vcd (env31 R) 10000 31 fi31 [.int .i64 n] [] (fun v _ => Q v) = (bif n == 0 then Q (AV.tup [AV.int IntKind.i64 65533, AV.int IntKind.i64 31]) else bif decide (n < 0) then Q (AV.tup [AV.int IntKind.i64 65533, AV.int IntKind.i64 32]) else bif decide (n > 1114111) then Q (AV.tup [AV.int IntKind.i64 65533, AV.int IntKind.i64 32]) else bif decide (n ≥ 55296) then bif decide (n ≤ 57343) then Q (AV.tup [AV.int IntKind.i64 65533, AV.int IntKind.i64 33]) else bif decide (n ≥ 64976) then bif decide (n ≤ 65007) then Q (AV.tup [AV.int IntKind.i64 n, AV.int IntKind.i64 34]) else bif IntKind.i64.wrap ↑(BitVec.ofInt IntKind.i64.bits n &&& BitVec.ofInt IntKind.i64.bits 65534).toNat == 65534 then Q (AV.tup [AV.int IntKind.i64 n, AV.int IntKind.i64 34]) else bif decide (n ≥ 128) then bif decide (n ≤ 159) then (AV.int IntKind.u8 (IntKind.u8.wrap n) = AV.int IntKind.u8 (IntKind.u8.wrap n) ∧ False) ∧ AV.str [UInt8.ofNat (IntKind.u8.wrap n).toNat] = AV.str [UInt8.ofNat (IntKind.u8.wrap n).toNat] ∧ AV.int IntKind.u8 (IntKind.u8.wrap n) = AV.int IntKind.u8 (IntKind.u8.wrap n) ∧ False else bif n == 127 then Q (AV.tup [AV.int IntKind.i64 n, AV.int IntKind.i64 35]) else bif decide (n < 32) then bif n != 9 then bif n != 10 then bif n != 12 then Q (AV.tup [AV.int IntKind.i64 n, AV.int IntKind.i64 35]) else Q (AV.tup [AV.int IntKind.i64 n, AV.int IntKind.i64 0]) else Q (AV.tup [AV.int IntKind.i64 n, AV.int IntKind.i64 0]) else Q (AV.tup [AV.int IntKind.i64 n, AV.int IntKind.i64 0]) else Q (AV.tup [AV.int IntKind.i64 n, AV.int IntKind.i64 0]) else bif n == 127 then Q (AV.tup [AV.int IntKind.i64 n, AV.int IntKind.i64 35]) else bif decide (n < 32) then bif n != 9 then bif n != 10 then bif n != 12 then Q (AV.tup [AV.int IntKind.i64 n, AV.int IntKind.i64 35]) else Q (AV.tup [AV.int IntKind.i64 n, AV.int IntKind.i64 0]) else Q (AV.tup [AV.int IntKind.i64 n, AV.int IntKind.i64 0]) else Q (AV.tup [AV.int IntKind.i64 n, AV.int IntKind.i64 0]) else Q (AV.tup [AV.int IntKind.i64 n, AV.int IntKind.i64 0]) else bif IntKind.i64.wrap ↑(BitVec.ofInt IntKind.i64.bits n &&& BitVec.ofInt IntKind.i64.bits 65534).toNat == 65534 then Q (AV.tup [AV.int IntKind.i64 n, AV.int IntKind.i64 34]) else bif decide (n ≥ 128) then bif decide (n ≤ 159) then (AV.int IntKind.u8 (IntKind.u8.wrap n) = AV.int IntKind.u8 (IntKind.u8.wrap n) ∧ False) ∧ AV.str [UInt8.ofNat (IntKind.u8.wrap n).toNat] = AV.str [UInt8.ofNat (IntKind.u8.wrap n).toNat] ∧ AV.int IntKind.u8 (IntKind.u8.wrap n) = AV.int IntKind.u8 (IntKind.u8.wrap n) ∧ False else bif n == 127 then Q (AV.tup [AV.int IntKind.i64 n, AV.int IntKind.i64 35]) else bif decide (n < 32) then bif n != 9 then bif n != 10 then bif n != 12 then Q (AV.tup [AV.int IntKind.i64 n, AV.int IntKind.i64 35]) else Q (AV.tup [AV.int IntKind.i64 n, AV.int IntKind.i64 0]) else Q (AV.tup [AV.int IntKind.i64 n, AV.int IntKind.i64 0]) else Q (AV.tup [AV.int IntKind.i64 n, AV.int IntKind.i64 0]) else Q (AV.tup [AV.int IntKind.i64 n, AV.int IntKind.i64 0]) else bif n == 127 then Q (AV.tup [AV.int IntKind.i64 n, AV.int IntKind.i64 35]) else bif decide (n < 32) then bif n != 9 then bif n != 10 then bif n != 12 then Q (AV.tup [AV.int IntKind.i64 n, AV.int IntKind.i64 35]) else Q (AV.tup [AV.int IntKind.i64 n, AV.int IntKind.i64 0]) else Q (AV.tup [AV.int IntKind.i64 n, AV.int IntKind.i64 0]) else Q (AV.tup [AV.int IntKind.i64 n, AV.int IntKind.i64 0]) else Q (AV.tup [AV.int IntKind.i64 n, AV.int IntKind.i64 0]) else bif decide (n ≥ 64976) then bif decide (n ≤ 65007) then Q (AV.tup [AV.int IntKind.i64 n, AV.int IntKind.i64 34]) else bif IntKind.i64.wrap ↑(BitVec.ofInt IntKind.i64.bits n &&& BitVec.ofInt IntKind.i64.bits 65534).toNat == 65534 then Q (AV.tup [AV.int IntKind.i64 n, AV.int IntKind.i64 34]) else bif decide (n ≥ 128) then bif decide (n ≤ 159) then (AV.int IntKind.u8 (IntKind.u8.wrap n) = AV.int IntKind.u8 (IntKind.u8.wrap n) ∧ False) ∧ AV.str [UInt8.ofNat (IntKind.u8.wrap n).toNat] = AV.str [UInt8.ofNat (IntKind.u8.wrap n).toNat] ∧ AV.int IntKind.u8 (IntKind.u8.wrap n) = AV.int IntKind.u8 (IntKind.u8.wrap n) ∧ False else bif n == 127 then Q (AV.tup [AV.int IntKind.i64 n, AV.int IntKind.i64 35]) else bif decide (n < 32) then bif n != 9 then bif n != 10 then bif n != 12 then Q (AV.tup [AV.int IntKind.i64 n, AV.int IntKind.i64 35]) else Q (AV.tup [AV.int IntKind.i64 n, AV.int IntKind.i64 0]) else Q (AV.tup [AV.int IntKind.i64 n, AV.int IntKind.i64 0]) else Q (AV.tup [AV.int IntKind.i64 n, AV.int IntKind.i64 0]) else Q (AV.tup [AV.int IntKind.i64 n, AV.int IntKind.i64 0]) else bif n == 127 then Q (AV.tup [AV.int IntKind.i64 n, AV.int IntKind.i64 35]) else bif decide (n < 32) then bif n != 9 then bif n != 10 then bif n != 12 then Q (AV.tup [AV.int IntKind.i64 n, AV.int IntKind.i64 35]) else Q (AV.tup [AV.int IntKind.i64 n, AV.int IntKind.i64 0]) else Q (AV.tup [AV.int IntKind.i64 n, AV.int IntKind.i64 0]) else Q (AV.tup [AV.int IntKind.i64 n, AV.int IntKind.i64 0]) else Q (AV.tup [AV.int IntKind.i64 n, AV.int IntKind.i64 0]) else bif IntKind.i64.wrap ↑(BitVec.ofInt IntKind.i64.bits n &&& BitVec.ofInt IntKind.i64.bits 65534).toNat == 65534 then Q (AV.tup [AV.int IntKind.i64 n, AV.int IntKind.i64 34]) else bif decide (n ≥ 128) then bif decide (n ≤ 159) then (AV.int IntKind.u8 (IntKind.u8.wrap n) = AV.int IntKind.u8 (IntKind.u8.wrap n) ∧ False) ∧ AV.str [UInt8.ofNat (IntKind.u8.wrap n).toNat] = AV.str [UInt8.ofNat (IntKind.u8.wrap n).toNat] ∧ AV.int IntKind.u8 (IntKind.u8.wrap n) = AV.int IntKind.u8 (IntKind.u8.wrap n) ∧ False else bif n == 127 then Q (AV.tup [AV.int IntKind.i64 n, AV.int IntKind.i64 35]) else bif decide (n < 32) then bif n != 9 then bif n != 10 then bif n != 12 then Q (AV.tup [AV.int IntKind.i64 n, AV.int IntKind.i64 35]) else Q (AV.tup [AV.int IntKind.i64 n, AV.int IntKind.i64 0]) else Q (AV.tup [AV.int IntKind.i64 n, AV.int IntKind.i64 0]) else Q (AV.tup [AV.int IntKind.i64 n, AV.int IntKind.i64 0]) else Q (AV.tup [AV.int IntKind.i64 n, AV.int IntKind.i64 0]) else bif n == 127 then Q (AV.tup [AV.int IntKind.i64 n, AV.int IntKind.i64 35]) else bif decide (n < 32) then bif n != 9 then bif n != 10 then bif n != 12 then Q (AV.tup [AV.int IntKind.i64 n, AV.int IntKind.i64 35]) else Q (AV.tup [AV.int IntKind.i64 n, AV.int IntKind.i64 0]) else Q (AV.tup [AV.int IntKind.i64 n, AV.int IntKind.i64 0]) else Q (AV.tup [AV.int IntKind.i64 n, AV.int IntKind.i64 0]) else Q (AV.tup [AV.int IntKind.i64 n, AV.int IntKind.i64 0])) := by kernel_rfl
theorem vc32 (R : Nat → RoRow) (n : Int) (Q : AV → Prop) : vcd (env32 R) 10000 32 fi32 [.int .i64 n] [] (fun v _ => Q v) = (bif n == 0 then Q (AV.tup [AV.int IntKind.i64 65533, AV.int IntKind.i64 1]) else bif decide (n < 0) then Q (AV.tup [AV.int IntKind.i64 65533, AV.int IntKind.i64 2]) else bif decide (n > 1114111) then Q (AV.tup [AV.int IntKind.i64 65533, AV.int IntKind.i64 2]) else bif decide (n > 55295) then bif decide (n < 57344) then Q (AV.tup [AV.int IntKind.i64 65533, AV.int IntKind.i64 3]) else bif decide (n > 64975) then bif decide (n < 65008) then Q (AV.tup [AV.int IntKind.i64 n, AV.int IntKind.i64 4]) else bif decide (n.tmod 65536 > 65533) then Q (AV.tup [AV.int IntKind.i64 n, AV.int IntKind.i64 4]) else bif decide (n > 126) then bif decide (n < 160) then False else bif decide (n < 32) then bif n != 9 then bif n != 10 then bif n != 12 then Q (AV.tup [AV.int IntKind.i64 n, AV.int IntKind.i64 5]) else Q (AV.tup [AV.int IntKind.i64 n, AV.int IntKind.i64 0]) else Q (AV.tup [AV.int IntKind.i64 n, AV.int IntKind.i64 0]) else Q (AV.tup [AV.int IntKind.i64 n, AV.int IntKind.i64 0]) else Q (AV.tup [AV.int IntKind.i64 n, AV.int IntKind.i64 0]) else bif decide (n < 32) then bif n != 9 then bif n != 10 then bif n != 12 then Q (AV.tup [AV.int IntKind.i64 n, AV.int IntKind.i64 5]) else Q (AV.tup [AV.int IntKind.i64 n, AV.int IntKind.i64 0]) else Q (AV.tup [AV.int IntKind.i64 n, AV.int IntKind.i64 0]) else Q (AV.tup [AV.int IntKind.i64 n, AV.int IntKind.i64 0]) else Q (AV.tup [AV.int IntKind.i64 n, AV.int IntKind.i64 0]) else bif decide (n.tmod 65536 > 65533) then Q (AV.tup [AV.int IntKind.i64 n, AV.int IntKind.i64 4]) else bif decide (n > 126) then bif decide (n < 160) then False else bif decide (n < 32) then bif n != 9 then bif n != 10 then bif n != 12 then Q (AV.tup [AV.int IntKind.i64 n, AV.int IntKind.i64 5]) else Q (AV.tup [AV.int IntKind.i64 n, AV.int IntKind.i64 0]) else Q (AV.tup [AV.int IntKind.i64 n, AV.int IntKind.i64 0]) else Q (AV.tup [AV.int IntKind.i64 n, AV.int IntKind.i64 0]) else Q (AV.tup [AV.int IntKind.i64 n, AV.int IntKind.i64 0]) else bif decide (n < 32) then bif n != 9 then bif n != 10 then bif n != 12 then Q (AV.tup [AV.int IntKind.i64 n, AV.int IntKind.i64 5]) else Q (AV.tup [AV.int IntKind.i64 n, AV.int IntKind.i64 0]) else Q (AV.tup [AV.int IntKind.i64 n, AV.int IntKind.i64 0]) else Q (AV.tup [AV.int IntKind.i64 n, AV.int IntKind.i64 0]) else Q (AV.tup [AV.int IntKind.i64 n, AV.int IntKind.i64 0]) else bif decide (n > 64975) then bif decide (n < 65008) then Q (AV.tup [AV.int IntKind.i64 n, AV.int IntKind.i64 4]) else bif decide (n.tmod 65536 > 65533) then Q (AV.tup [AV.int IntKind.i64 n, AV.int IntKind.i64 4]) else bif decide (n > 126) then bif decide (n < 160) then False else bif decide (n < 32) then bif n != 9 then bif n != 10 then bif n != 12 then Q (AV.tup [AV.int IntKind.i64 n, AV.int IntKind.i64 5]) else Q (AV.tup [AV.int IntKind.i64 n, AV.int IntKind.i64 0]) else Q (AV.tup [AV.int IntKind.i64 n, AV.int IntKind.i64 0]) else Q (AV.tup [AV.int IntKind.i64 n, AV.int IntKind.i64 0]) else Q (AV.tup [AV.int IntKind.i64 n, AV.int IntKind.i64 0]) else bif decide (n < 32) then bif n != 9 then bif n != 10 then bif n != 12 then Q (AV.tup [AV.int IntKind.i64 n, AV.int IntKind.i64 5]) else Q (AV.tup [AV.int IntKind.i64 n, AV.int IntKind.i64 0]) else Q (AV.tup [AV.int IntKind.i64 n, AV.int IntKind.i64 0]) else Q (AV.tup [AV.int IntKind.i64 n, AV.int IntKind.i64 0]) else Q (AV.tup [AV.int IntKind.i64 n, AV.int IntKind.i64 0]) else bif decide (n.tmod 65536 > 65533) then Q (AV.tup [AV.int IntKind.i64 n, AV.int IntKind.i64 4]) else bif decide (n > 126) then bif decide (n < 160) then False else bif decide (n < 32) then bif n != 9 then bif n != 10 then bif n != 12 then Q (AV.tup [AV.int IntKind.i64 n, AV.int IntKind.i64 5]) else Q (AV.tup [AV.int IntKind.i64 n, AV.int IntKind.i64 0]) else Q (AV.tup [AV.int IntKind.i64 n, AV.int IntKind.i64 0]) else Q (AV.tup [AV.int IntKind.i64 n, AV.int IntKind.i64 0]) else Q (AV.tup [AV.int IntKind.i64 n, AV.int IntKind.i64 0]) else bif decide (n < 32) then bif n != 9 then bif n != 10 then bif n != 12 then Q (AV.tup [AV.int IntKind.i64 n, AV.int IntKind.i64 5]) else Q (AV.tup [AV.int IntKind.i64 n, AV.int IntKind.i64 0]) else Q (AV.tup [AV.int IntKind.i64 n, AV.int IntKind.i64 0]) else Q (AV.tup [AV.int IntKind.i64 n, AV.int IntKind.i64 0]) else Q (AV.tup [AV.int IntKind.i64 n, AV.int IntKind.i64 0])) := by kernel_rfl
theorem n31_128 (R : Nat → RoRow) (Q : AV → Prop) (h : Q (num 8364 35)) : vcd (base R) 10000 31 fi31 [.int .i64 128] [] (fun v _ => Q v) := by
  have e : vcd (base R) 10000 31 fi31 [.int .i64 128] [] (fun v _ => Q v) = ((AV.int .u8 128 = AV.int .u8 128 ∧ AV.nils = AV.nils ∧ Q (num 8364 35)) ∧ AV.str [128] = AV.str [128] ∧ AV.int .u8 128 = AV.int .u8 128 ∧ AV.nils = AV.nils ∧ Q (num 8364 35)) := by kernel_rfl
  rw [e]; exact ⟨⟨rfl, rfl, h⟩, rfl, rfl, rfl, h⟩
theorem n31_129 (R : Nat → RoRow) (Q : AV → Prop) (h : Q (num 129 35)) : vcd (base R) 10000 31 fi31 [.int .i64 129] [] (fun v _ => Q v) := by
  have e : vcd (base R) 10000 31 fi31 [.int .i64 129] [] (fun v _ => Q v) = ((AV.int .u8 129 = AV.int .u8 129 ∧ AV.nils = AV.nils ∧ Q (num 129 35)) ∧ AV.str [129] = AV.str [129] ∧ AV.int .u8 129 = AV.int .u8 129 ∧ AV.nils = AV.nils ∧ Q (num 129 35)) := by kernel_rfl
  rw [e]; exact ⟨⟨rfl, rfl, h⟩, rfl, rfl, rfl, h⟩
theorem n31_130 (R : Nat → RoRow) (Q : AV → Prop) (h : Q (num 8218 35)) : vcd (base R) 10000 31 fi31 [.int .i64 130] [] (fun v _ => Q v) := by
  have e : vcd (base R) 10000 31 fi31 [.int .i64 130] [] (fun v _ => Q v) = ((AV.int .u8 130 = AV.int .u8 130 ∧ AV.nils = AV.nils ∧ Q (num 8218 35)) ∧ AV.str [130] = AV.str [130] ∧ AV.int .u8 130 = AV.int .u8 130 ∧ AV.nils = AV.nils ∧ Q (num 8218 35)) := by kernel_rfl
  rw [e]; exact ⟨⟨rfl, rfl, h⟩, rfl, rfl, rfl, h⟩
theorem n31_131 (R : Nat → RoRow) (Q : AV → Prop) (h : Q (num 402 35)) : vcd (base R) 10000 31 fi31 [.int .i64 131] [] (fun v _ => Q v) := by
  have e : vcd (base R) 10000 31 fi31 [.int .i64 131] [] (fun v _ => Q v) = ((AV.int .u8 131 = AV.int .u8 131 ∧ AV.nils = AV.nils ∧ Q (num 402 35)) ∧ AV.str [131] = AV.str [131] ∧ AV.int .u8 131 = AV.int .u8 131 ∧ AV.nils = AV.nils ∧ Q (num 402 35)) := by kernel_rfl
  rw [e]; exact ⟨⟨rfl, rfl, h⟩, rfl, rfl, rfl, h⟩
theorem n31_132 (R : Nat → RoRow) (Q : AV → Prop) (h : Q (num 8222 35)) : vcd (base R) 10000 31 fi31 [.int .i64 132] [] (fun v _ => Q v) := by
  have e : vcd (base R) 10000 31 fi31 [.int .i64 132] [] (fun v _ => Q v) = ((AV.int .u8 132 = AV.int .u8 132 ∧ AV.nils = AV.nils ∧ Q (num 8222 35)) ∧ AV.str [132] = AV.str [132] ∧ AV.int .u8 132 = AV.int .u8 132 ∧ AV.nils = AV.nils ∧ Q (num 8222 35)) := by kernel_rfl
  rw [e]; exact ⟨⟨rfl, rfl, h⟩, rfl, rfl, rfl, h⟩
theorem n31_133 (R : Nat → RoRow) (Q : AV → Prop) (h : Q (num 8230 35)) : vcd (base R) 10000 31 fi31 [.int .i64 133] [] (fun v _ => Q v) := by
  have e : vcd (base R) 10000 31 fi31 [.int .i64 133] [] (fun v _ => Q v) = ((AV.int .u8 133 = AV.int .u8 133 ∧ AV.nils = AV.nils ∧ Q (num 8230 35)) ∧ AV.str [133] = AV.str [133] ∧ AV.int .u8 133 = AV.int .u8 133 ∧ AV.nils = AV.nils ∧ Q (num 8230 35)) := by kernel_rfl
  rw [e]; exact ⟨⟨rfl, rfl, h⟩, rfl, rfl, rfl, h⟩
theorem n31_134 (R : Nat → RoRow) (Q : AV → Prop) (h : Q (num 8224 35)) : vcd (base R) 10000 31 fi31 [.int .i64 134] [] (fun v _ => Q v) := by
  have e : vcd (base R) 10000 31 fi31 [.int .i64 134] [] (fun v _ => Q v) = ((AV.int .u8 134 = AV.int .u8 134 ∧ AV.nils = AV.nils ∧ Q (num 8224 35)) ∧ AV.str [134] = AV.str [134] ∧ AV.int .u8 134 = AV.int .u8 134 ∧ AV.nils = AV.nils ∧ Q (num 8224 35)) := by kernel_rfl
  rw [e]; exact ⟨⟨rfl, rfl, h⟩, rfl, rfl, rfl, h⟩
theorem n31_135 (R : Nat → RoRow) (Q : AV → Prop) (h : Q (num 8225 35)) : vcd (base R) 10000 31 fi31 [.int .i64 135] [] (fun v _ => Q v) := by
  have e : vcd (base R) 10000 31 fi31 [.int .i64 135] [] (fun v _ => Q v) = ((AV.int .u8 135 = AV.int .u8 135 ∧ AV.nils = AV.nils ∧ Q (num 8225 35)) ∧ AV.str [135] = AV.str [135] ∧ AV.int .u8 135 = AV.int .u8 135 ∧ AV.nils = AV.nils ∧ Q (num 8225 35)) := by kernel_rfl
  rw [e]; exact ⟨⟨rfl, rfl, h⟩, rfl, rfl, rfl, h⟩
theorem n31_136 (R : Nat → RoRow) (Q : AV → Prop) (h : Q (num 710 35)) : vcd (base R) 10000 31 fi31 [.int .i64 136] [] (fun v _ => Q v) := by
  have e : vcd (base R) 10000 31 fi31 [.int .i64 136] [] (fun v _ => Q v) = ((AV.int .u8 136 = AV.int .u8 136 ∧ AV.nils = AV.nils ∧ Q (num 710 35)) ∧ AV.str [136] = AV.str [136] ∧ AV.int .u8 136 = AV.int .u8 136 ∧ AV.nils = AV.nils ∧ Q (num 710 35)) := by kernel_rfl
  rw [e]; exact ⟨⟨rfl, rfl, h⟩, rfl, rfl, rfl, h⟩
theorem n31_137 (R : Nat → RoRow) (Q : AV → Prop) (h : Q (num 8240 35)) : vcd (base R) 10000 31 fi31 [.int .i64 137] [] (fun v _ => Q v) := by
  have e : vcd (base R) 10000 31 fi31 [.int .i64 137] [] (fun v _ => Q v) = ((AV.int .u8 137 = AV.int .u8 137 ∧ AV.nils = AV.nils ∧ Q (num 8240 35)) ∧ AV.str [137] = AV.str [137] ∧ AV.int .u8 137 = AV.int .u8 137 ∧ AV.nils = AV.nils ∧ Q (num 8240 35)) := by kernel_rfl
  rw [e]; exact ⟨⟨rfl, rfl, h⟩, rfl, rfl, rfl, h⟩
theorem n31_138 (R : Nat → RoRow) (Q : AV → Prop) (h : Q (num 352 35)) : vcd (base R) 10000 31 fi31 [.int .i64 138] [] (fun v _ => Q v) := by
  have e : vcd (base R) 10000 31 fi31 [.int .i64 138] [] (fun v _ => Q v) = ((AV.int .u8 138 = AV.int .u8 138 ∧ AV.nils = AV.nils ∧ Q (num 352 35)) ∧ AV.str [138] = AV.str [138] ∧ AV.int .u8 138 = AV.int .u8 138 ∧ AV.nils = AV.nils ∧ Q (num 352 35)) := by kernel_rfl
  rw [e]; exact ⟨⟨rfl, rfl, h⟩, rfl, rfl, rfl, h⟩
theorem n31_139 (R : Nat → RoRow) (Q : AV → Prop) (h : Q (num 8249 35)) : vcd (base R) 10000 31 fi31 [.int .i64 139] [] (fun v _ => Q v) := by
  have e : vcd (base R) 10000 31 fi31 [.int .i64 139] [] (fun v _ => Q v) = ((AV.int .u8 139 = AV.int .u8 139 ∧ AV.nils = AV.nils ∧ Q (num 8249 35)) ∧ AV.str [139] = AV.str [139] ∧ AV.int .u8 139 = AV.int .u8 139 ∧ AV.nils = AV.nils ∧ Q (num 8249 35)) := by kernel_rfl
  rw [e]; exact ⟨⟨rfl, rfl, h⟩, rfl, rfl, rfl, h⟩
theorem n31_140 (R : Nat → RoRow) (Q : AV → Prop) (h : Q (num 338 35)) : vcd (base R) 10000 31 fi31 [.int .i64 140] [] (fun v _ => Q v) := by
  have e : vcd (base R) 10000 31 fi31 [.int .i64 140] [] (fun v _ => Q v) = ((AV.int .u8 140 = AV.int .u8 140 ∧ AV.nils = AV.nils ∧ Q (num 338 35)) ∧ AV.str [140] = AV.str [140] ∧ AV.int .u8 140 = AV.int .u8 140 ∧ AV.nils = AV.nils ∧ Q (num 338 35)) := by kernel_rfl
  rw [e]; exact ⟨⟨rfl, rfl, h⟩, rfl, rfl, rfl, h⟩
theorem n31_141 (R : Nat → RoRow) (Q : AV → Prop) (h : Q (num 141 35)) : vcd (base R) 10000 31 fi31 [.int .i64 141] [] (fun v _ => Q v) := by
  have e : vcd (base R) 10000 31 fi31 [.int .i64 141] [] (fun v _ => Q v) = ((AV.int .u8 141 = AV.int .u8 141 ∧ AV.nils = AV.nils ∧ Q (num 141 35)) ∧ AV.str [141] = AV.str [141] ∧ AV.int .u8 141 = AV.int .u8 141 ∧ AV.nils = AV.nils ∧ Q (num 141 35)) := by kernel_rfl
  rw [e]; exact ⟨⟨rfl, rfl, h⟩, rfl, rfl, rfl, h⟩
theorem n31_142 (R : Nat → RoRow) (Q : AV → Prop) (h : Q (num 381 35)) : vcd (base R) 10000 31 fi31 [.int .i64 142] [] (fun v _ => Q v) := by
  have e : vcd (base R) 10000 31 fi31 [.int .i64 142] [] (fun v _ => Q v) = ((AV.int .u8 142 = AV.int .u8 142 ∧ AV.nils = AV.nils ∧ Q (num 381 35)) ∧ AV.str [142] = AV.str [142] ∧ AV.int .u8 142 = AV.int .u8 142 ∧ AV.nils = AV.nils ∧ Q (num 381 35)) := by kernel_rfl
  rw [e]; exact ⟨⟨rfl, rfl, h⟩, rfl, rfl, rfl, h⟩
theorem n31_143 (R : Nat → RoRow) (Q : AV → Prop) (h : Q (num 143 35)) : vcd (base R) 10000 31 fi31 [.int .i64 143] [] (fun v _ => Q v) := by
  have e : vcd (base R) 10000 31 fi31 [.int .i64 143] [] (fun v _ => Q v) = ((AV.int .u8 143 = AV.int .u8 143 ∧ AV.nils = AV.nils ∧ Q (num 143 35)) ∧ AV.str [143] = AV.str [143] ∧ AV.int .u8 143 = AV.int .u8 143 ∧ AV.nils = AV.nils ∧ Q (num 143 35)) := by kernel_rfl
  rw [e]; exact ⟨⟨rfl, rfl, h⟩, rfl, rfl, rfl, h⟩
theorem n31_144 (R : Nat → RoRow) (Q : AV → Prop) (h : Q (num 144 35)) : vcd (base R) 10000 31 fi31 [.int .i64 144] [] (fun v _ => Q v) := by
  have e : vcd (base R) 10000 31 fi31 [.int .i64 144] [] (fun v _ => Q v) = ((AV.int .u8 144 = AV.int .u8 144 ∧ AV.nils = AV.nils ∧ Q (num 144 35)) ∧ AV.str [144] = AV.str [144] ∧ AV.int .u8 144 = AV.int .u8 144 ∧ AV.nils = AV.nils ∧ Q (num 144 35)) := by kernel_rfl
  rw [e]; exact ⟨⟨rfl, rfl, h⟩, rfl, rfl, rfl, h⟩
theorem n31_145 (R : Nat → RoRow) (Q : AV → Prop) (h : Q (num 8216 35)) : vcd (base R) 10000 31 fi31 [.int .i64 145] [] (fun v _ => Q v) := by
  have e : vcd (base R) 10000 31 fi31 [.int .i64 145] [] (fun v _ => Q v) = ((AV.int .u8 145 = AV.int .u8 145 ∧ AV.nils = AV.nils ∧ Q (num 8216 35)) ∧ AV.str [145] = AV.str [145] ∧ AV.int .u8 145 = AV.int .u8 145 ∧ AV.nils = AV.nils ∧ Q (num 8216 35)) := by kernel_rfl
  rw [e]; exact ⟨⟨rfl, rfl, h⟩, rfl, rfl, rfl, h⟩
theorem n31_146 (R : Nat → RoRow) (Q : AV → Prop) (h : Q (num 8217 35)) : vcd (base R) 10000 31 fi31 [.int .i64 146] [] (fun v _ => Q v) := by
  have e : vcd (base R) 10000 31 fi31 [.int .i64 146] [] (fun v _ => Q v) = ((AV.int .u8 146 = AV.int .u8 146 ∧ AV.nils = AV.nils ∧ Q (num 8217 35)) ∧ AV.str [146] = AV.str [146] ∧ AV.int .u8 146 = AV.int .u8 146 ∧ AV.nils = AV.nils ∧ Q (num 8217 35)) := by kernel_rfl
  rw [e]; exact ⟨⟨rfl, rfl, h⟩, rfl, rfl, rfl, h⟩
theorem n31_147 (R : Nat → RoRow) (Q : AV → Prop) (h : Q (num 8220 35)) : vcd (base R) 10000 31 fi31 [.int .i64 147] [] (fun v _ => Q v) := by
  have e : vcd (base R) 10000 31 fi31 [.int .i64 147] [] (fun v _ => Q v) = ((AV.int .u8 147 = AV.int .u8 147 ∧ AV.nils = AV.nils ∧ Q (num 8220 35)) ∧ AV.str [147] = AV.str [147] ∧ AV.int .u8 147 = AV.int .u8 147 ∧ AV.nils = AV.nils ∧ Q (num 8220 35)) := by kernel_rfl
  rw [e]; exact ⟨⟨rfl, rfl, h⟩, rfl, rfl, rfl, h⟩
theorem n31_148 (R : Nat → RoRow) (Q : AV → Prop) (h : Q (num 8221 35)) : vcd (base R) 10000 31 fi31 [.int .i64 148] [] (fun v _ => Q v) := by
  have e : vcd (base R) 10000 31 fi31 [.int .i64 148] [] (fun v _ => Q v) = ((AV.int .u8 148 = AV.int .u8 148 ∧ AV.nils = AV.nils ∧ Q (num 8221 35)) ∧ AV.str [148] = AV.str [148] ∧ AV.int .u8 148 = AV.int .u8 148 ∧ AV.nils = AV.nils ∧ Q (num 8221 35)) := by kernel_rfl
  rw [e]; exact ⟨⟨rfl, rfl, h⟩, rfl, rfl, rfl, h⟩
theorem n31_149 (R : Nat → RoRow) (Q : AV → Prop) (h : Q (num 8226 35)) : vcd (base R) 10000 31 fi31 [.int .i64 149] [] (fun v _ => Q v) := by
  have e : vcd (base R) 10000 31 fi31 [.int .i64 149] [] (fun v _ => Q v) = ((AV.int .u8 149 = AV.int .u8 149 ∧ AV.nils = AV.nils ∧ Q (num 8226 35)) ∧ AV.str [149] = AV.str [149] ∧ AV.int .u8 149 = AV.int .u8 149 ∧ AV.nils = AV.nils ∧ Q (num 8226 35)) := by kernel_rfl
  rw [e]; exact ⟨⟨rfl, rfl, h⟩, rfl, rfl, rfl, h⟩
theorem n31_150 (R : Nat → RoRow) (Q : AV → Prop) (h : Q (num 8211 35)) : vcd (base R) 10000 31 fi31 [.int .i64 150] [] (fun v _ => Q v) := by
  have e : vcd (base R) 10000 31 fi31 [.int .i64 150] [] (fun v _ => Q v) = ((AV.int .u8 150 = AV.int .u8 150 ∧ AV.nils = AV.nils ∧ Q (num 8211 35)) ∧ AV.str [150] = AV.str [150] ∧ AV.int .u8 150 = AV.int .u8 150 ∧ AV.nils = AV.nils ∧ Q (num 8211 35)) := by kernel_rfl
  rw [e]; exact ⟨⟨rfl, rfl, h⟩, rfl, rfl, rfl, h⟩
theorem n31_151 (R : Nat → RoRow) (Q : AV → Prop) (h : Q (num 8212 35)) : vcd (base R) 10000 31 fi31 [.int .i64 151] [] (fun v _ => Q v) := by
  have e : vcd (base R) 10000 31 fi31 [.int .i64 151] [] (fun v _ => Q v) = ((AV.int .u8 151 = AV.int .u8 151 ∧ AV.nils = AV.nils ∧ Q (num 8212 35)) ∧ AV.str [151] = AV.str [151] ∧ AV.int .u8 151 = AV.int .u8 151 ∧ AV.nils = AV.nils ∧ Q (num 8212 35)) := by kernel_rfl
  rw [e]; exact ⟨⟨rfl, rfl, h⟩, rfl, rfl, rfl, h⟩
theorem n31_152 (R : Nat → RoRow) (Q : AV → Prop) (h : Q (num 732 35)) : vcd (base R) 10000 31 fi31 [.int .i64 152] [] (fun v _ => Q v) := by
  have e : vcd (base R) 10000 31 fi31 [.int .i64 152] [] (fun v _ => Q v) = ((AV.int .u8 152 = AV.int .u8 152 ∧ AV.nils = AV.nils ∧ Q (num 732 35)) ∧ AV.str [152] = AV.str [152] ∧ AV.int .u8 152 = AV.int .u8 152 ∧ AV.nils = AV.nils ∧ Q (num 732 35)) := by kernel_rfl
  rw [e]; exact ⟨⟨rfl, rfl, h⟩, rfl, rfl, rfl, h⟩
theorem n31_153 (R : Nat → RoRow) (Q : AV → Prop) (h : Q (num 8482 35)) : vcd (base R) 10000 31 fi31 [.int .i64 153] [] (fun v _ => Q v) := by
  have e : vcd (base R) 10000 31 fi31 [.int .i64 153] [] (fun v _ => Q v) = ((AV.int .u8 153 = AV.int .u8 153 ∧ AV.nils = AV.nils ∧ Q (num 8482 35)) ∧ AV.str [153] = AV.str [153] ∧ AV.int .u8 153 = AV.int .u8 153 ∧ AV.nils = AV.nils ∧ Q (num 8482 35)) := by kernel_rfl
  rw [e]; exact ⟨⟨rfl, rfl, h⟩, rfl, rfl, rfl, h⟩
theorem n31_154 (R : Nat → RoRow) (Q : AV → Prop) (h : Q (num 353 35)) : vcd (base R) 10000 31 fi31 [.int .i64 154] [] (fun v _ => Q v) := by
  have e : vcd (base R) 10000 31 fi31 [.int .i64 154] [] (fun v _ => Q v) = ((AV.int .u8 154 = AV.int .u8 154 ∧ AV.nils = AV.nils ∧ Q (num 353 35)) ∧ AV.str [154] = AV.str [154] ∧ AV.int .u8 154 = AV.int .u8 154 ∧ AV.nils = AV.nils ∧ Q (num 353 35)) := by kernel_rfl
  rw [e]; exact ⟨⟨rfl, rfl, h⟩, rfl, rfl, rfl, h⟩
theorem n31_155 (R : Nat → RoRow) (Q : AV → Prop) (h : Q (num 8250 35)) : vcd (base R) 10000 31 fi31 [.int .i64 155] [] (fun v _ => Q v) := by
  have e : vcd (base R) 10000 31 fi31 [.int .i64 155] [] (fun v _ => Q v) = ((AV.int .u8 155 = AV.int .u8 155 ∧ AV.nils = AV.nils ∧ Q (num 8250 35)) ∧ AV.str [155] = AV.str [155] ∧ AV.int .u8 155 = AV.int .u8 155 ∧ AV.nils = AV.nils ∧ Q (num 8250 35)) := by kernel_rfl
  rw [e]; exact ⟨⟨rfl, rfl, h⟩, rfl, rfl, rfl, h⟩
theorem n31_156 (R : Nat → RoRow) (Q : AV → Prop) (h : Q (num 339 35)) : vcd (base R) 10000 31 fi31 [.int .i64 156] [] (fun v _ => Q v) := by
  have e : vcd (base R) 10000 31 fi31 [.int .i64 156] [] (fun v _ => Q v) = ((AV.int .u8 156 = AV.int .u8 156 ∧ AV.nils = AV.nils ∧ Q (num 339 35)) ∧ AV.str [156] = AV.str [156] ∧ AV.int .u8 156 = AV.int .u8 156 ∧ AV.nils = AV.nils ∧ Q (num 339 35)) := by kernel_rfl
  rw [e]; exact ⟨⟨rfl, rfl, h⟩, rfl, rfl, rfl, h⟩
theorem n31_157 (R : Nat → RoRow) (Q : AV → Prop) (h : Q (num 157 35)) : vcd (base R) 10000 31 fi31 [.int .i64 157] [] (fun v _ => Q v) := by
  have e : vcd (base R) 10000 31 fi31 [.int .i64 157] [] (fun v _ => Q v) = ((AV.int .u8 157 = AV.int .u8 157 ∧ AV.nils = AV.nils ∧ Q (num 157 35)) ∧ AV.str [157] = AV.str [157] ∧ AV.int .u8 157 = AV.int .u8 157 ∧ AV.nils = AV.nils ∧ Q (num 157 35)) := by kernel_rfl
  rw [e]; exact ⟨⟨rfl, rfl, h⟩, rfl, rfl, rfl, h⟩
theorem n31_158 (R : Nat → RoRow) (Q : AV → Prop) (h : Q (num 382 35)) : vcd (base R) 10000 31 fi31 [.int .i64 158] [] (fun v _ => Q v) := by
  have e : vcd (base R) 10000 31 fi31 [.int .i64 158] [] (fun v _ => Q v) = ((AV.int .u8 158 = AV.int .u8 158 ∧ AV.nils = AV.nils ∧ Q (num 382 35)) ∧ AV.str [158] = AV.str [158] ∧ AV.int .u8 158 = AV.int .u8 158 ∧ AV.nils = AV.nils ∧ Q (num 382 35)) := by kernel_rfl
  rw [e]; exact ⟨⟨rfl, rfl, h⟩, rfl, rfl, rfl, h⟩
theorem n31_159 (R : Nat → RoRow) (Q : AV → Prop) (h : Q (num 376 35)) : vcd (base R) 10000 31 fi31 [.int .i64 159] [] (fun v _ => Q v) := by
  have e : vcd (base R) 10000 31 fi31 [.int .i64 159] [] (fun v _ => Q v) = ((AV.int .u8 159 = AV.int .u8 159 ∧ AV.nils = AV.nils ∧ Q (num 376 35)) ∧ AV.str [159] = AV.str [159] ∧ AV.int .u8 159 = AV.int .u8 159 ∧ AV.nils = AV.nils ∧ Q (num 376 35)) := by kernel_rfl
  rw [e]; exact ⟨⟨rfl, rfl, h⟩, rfl, rfl, rfl, h⟩
theorem n32_127 (R : Nat → RoRow) (Q : AV → Prop) (h : Q (num 127 5)) : vcd (base R) 10000 32 fi32 [.int .i64 127] [] (fun v _ => Q v) := by
  have e : vcd (base R) 10000 32 fi32 [.int .i64 127] [] (fun v _ => Q v) = Q (num 127 5) := by kernel_rfl
  rw [e]; exact h
theorem n32_128 (R : Nat → RoRow) (Q : AV → Prop) (h : Q (num 8364 5)) : vcd (base R) 10000 32 fi32 [.int .i64 128] [] (fun v _ => Q v) := by
  have e : vcd (base R) 10000 32 fi32 [.int .i64 128] [] (fun v _ => Q v) = Q (num 8364 5) := by kernel_rfl
  rw [e]; exact h
theorem n32_129 (R : Nat → RoRow) (Q : AV → Prop) (h : Q (num 129 5)) : vcd (base R) 10000 32 fi32 [.int .i64 129] [] (fun v _ => Q v) := by
  have e : vcd (base R) 10000 32 fi32 [.int .i64 129] [] (fun v _ => Q v) = Q (num 129 5) := by kernel_rfl
  rw [e]; exact h
theorem n32_130 (R : Nat → RoRow) (Q : AV → Prop) (h : Q (num 8218 5)) : vcd (base R) 10000 32 fi32 [.int .i64 130] [] (fun v _ => Q v) := by
  have e : vcd (base R) 10000 32 fi32 [.int .i64 130] [] (fun v _ => Q v) = Q (num 8218 5) := by kernel_rfl
  rw [e]; exact h
theorem n32_131 (R : Nat → RoRow) (Q : AV → Prop) (h : Q (num 402 5)) : vcd (base R) 10000 32 fi32 [.int .i64 131] [] (fun v _ => Q v) := by
  have e : vcd (base R) 10000 32 fi32 [.int .i64 131] [] (fun v _ => Q v) = Q (num 402 5) := by kernel_rfl
  rw [e]; exact h
theorem n32_132 (R : Nat → RoRow) (Q : AV → Prop) (h : Q (num 8222 5)) : vcd (base R) 10000 32 fi32 [.int .i64 132] [] (fun v _ => Q v) := by
  have e : vcd (base R) 10000 32 fi32 [.int .i64 132] [] (fun v _ => Q v) = Q (num 8222 5) := by kernel_rfl
  rw [e]; exact h
theorem n32_133 (R : Nat → RoRow) (Q : AV → Prop) (h : Q (num 8230 5)) : vcd (base R) 10000 32 fi32 [.int .i64 133] [] (fun v _ => Q v) := by
  have e : vcd (base R) 10000 32 fi32 [.int .i64 133] [] (fun v _ => Q v) = Q (num 8230 5) := by kernel_rfl
  rw [e]; exact h
theorem n32_134 (R : Nat → RoRow) (Q : AV → Prop) (h : Q (num 8224 5)) : vcd (base R) 10000 32 fi32 [.int .i64 134] [] (fun v _ => Q v) := by
  have e : vcd (base R) 10000 32 fi32 [.int .i64 134] [] (fun v _ => Q v) = Q (num 8224 5) := by kernel_rfl
  rw [e]; exact h
theorem n32_135 (R : Nat → RoRow) (Q : AV → Prop) (h : Q (num 8225 5)) : vcd (base R) 10000 32 fi32 [.int .i64 135] [] (fun v _ => Q v) := by
  have e : vcd (base R) 10000 32 fi32 [.int .i64 135] [] (fun v _ => Q v) = Q (num 8225 5) := by kernel_rfl
  rw [e]; exact h
theorem n32_136 (R : Nat → RoRow) (Q : AV → Prop) (h : Q (num 710 5)) : vcd (base R) 10000 32 fi32 [.int .i64 136] [] (fun v _ => Q v) := by
  have e : vcd (base R) 10000 32 fi32 [.int .i64 136] [] (fun v _ => Q v) = Q (num 710 5) := by kernel_rfl
  rw [e]; exact h
theorem n32_137 (R : Nat → RoRow) (Q : AV → Prop) (h : Q (num 8240 5)) : vcd (base R) 10000 32 fi32 [.int .i64 137] [] (fun v _ => Q v) := by
  have e : vcd (base R) 10000 32 fi32 [.int .i64 137] [] (fun v _ => Q v) = Q (num 8240 5) := by kernel_rfl
  rw [e]; exact h
theorem n32_138 (R : Nat → RoRow) (Q : AV → Prop) (h : Q (num 352 5)) : vcd (base R) 10000 32 fi32 [.int .i64 138] [] (fun v _ => Q v) := by
  have e : vcd (base R) 10000 32 fi32 [.int .i64 138] [] (fun v _ => Q v) = Q (num 352 5) := by kernel_rfl
  rw [e]; exact h
theorem n32_139 (R : Nat → RoRow) (Q : AV → Prop) (h : Q (num 8249 5)) : vcd (base R) 10000 32 fi32 [.int .i64 139] [] (fun v _ => Q v) := by
  have e : vcd (base R) 10000 32 fi32 [.int .i64 139] [] (fun v _ => Q v) = Q (num 8249 5) := by kernel_rfl
  rw [e]; exact h
theorem n32_140 (R : Nat → RoRow) (Q : AV → Prop) (h : Q (num 338 5)) : vcd (base R) 10000 32 fi32 [.int .i64 140] [] (fun v _ => Q v) := by
  have e : vcd (base R) 10000 32 fi32 [.int .i64 140] [] (fun v _ => Q v) = Q (num 338 5) := by kernel_rfl
  rw [e]; exact h
theorem n32_141 (R : Nat → RoRow) (Q : AV → Prop) (h : Q (num 141 5)) : vcd (base R) 10000 32 fi32 [.int .i64 141] [] (fun v _ => Q v) := by
  have e : vcd (base R) 10000 32 fi32 [.int .i64 141] [] (fun v _ => Q v) = Q (num 141 5) := by kernel_rfl
  rw [e]; exact h
theorem n32_142 (R : Nat → RoRow) (Q : AV → Prop) (h : Q (num 381 5)) : vcd (base R) 10000 32 fi32 [.int .i64 142] [] (fun v _ => Q v) := by
  have e : vcd (base R) 10000 32 fi32 [.int .i64 142] [] (fun v _ => Q v) = Q (num 381 5) := by kernel_rfl
  rw [e]; exact h
theorem n32_143 (R : Nat → RoRow) (Q : AV → Prop) (h : Q (num 143 5)) : vcd (base R) 10000 32 fi32 [.int .i64 143] [] (fun v _ => Q v) := by
  have e : vcd (base R) 10000 32 fi32 [.int .i64 143] [] (fun v _ => Q v) = Q (num 143 5) := by kernel_rfl
  rw [e]; exact h
theorem n32_144 (R : Nat → RoRow) (Q : AV → Prop) (h : Q (num 144 5)) : vcd (base R) 10000 32 fi32 [.int .i64 144] [] (fun v _ => Q v) := by
  have e : vcd (base R) 10000 32 fi32 [.int .i64 144] [] (fun v _ => Q v) = Q (num 144 5) := by kernel_rfl
  rw [e]; exact h
theorem n32_145 (R : Nat → RoRow) (Q : AV → Prop) (h : Q (num 8216 5)) : vcd (base R) 10000 32 fi32 [.int .i64 145] [] (fun v _ => Q v) := by
  have e : vcd (base R) 10000 32 fi32 [.int .i64 145] [] (fun v _ => Q v) = Q (num 8216 5) := by kernel_rfl
  rw [e]; exact h
theorem n32_146 (R : Nat → RoRow) (Q : AV → Prop) (h : Q (num 8217 5)) : vcd (base R) 10000 32 fi32 [.int .i64 146] [] (fun v _ => Q v) := by
  have e : vcd (base R) 10000 32 fi32 [.int .i64 146] [] (fun v _ => Q v) = Q (num 8217 5) := by kernel_rfl
  rw [e]; exact h
theorem n32_147 (R : Nat → RoRow) (Q : AV → Prop) (h : Q (num 8220 5)) : vcd (base R) 10000 32 fi32 [.int .i64 147] [] (fun v _ => Q v) := by
  have e : vcd (base R) 10000 32 fi32 [.int .i64 147] [] (fun v _ => Q v) = Q (num 8220 5) := by kernel_rfl
  rw [e]; exact h
theorem n32_148 (R : Nat → RoRow) (Q : AV → Prop) (h : Q (num 8221 5)) : vcd (base R) 10000 32 fi32 [.int .i64 148] [] (fun v _ => Q v) := by
  have e : vcd (base R) 10000 32 fi32 [.int .i64 148] [] (fun v _ => Q v) = Q (num 8221 5) := by kernel_rfl
  rw [e]; exact h
theorem n32_149 (R : Nat → RoRow) (Q : AV → Prop) (h : Q (num 8226 5)) : vcd (base R) 10000 32 fi32 [.int .i64 149] [] (fun v _ => Q v) := by
  have e : vcd (base R) 10000 32 fi32 [.int .i64 149] [] (fun v _ => Q v) = Q (num 8226 5) := by kernel_rfl
  rw [e]; exact h
theorem n32_150 (R : Nat → RoRow) (Q : AV → Prop) (h : Q (num 8211 5)) : vcd (base R) 10000 32 fi32 [.int .i64 150] [] (fun v _ => Q v) := by
  have e : vcd (base R) 10000 32 fi32 [.int .i64 150] [] (fun v _ => Q v) = Q (num 8211 5) := by kernel_rfl
  rw [e]; exact h
theorem n32_151 (R : Nat → RoRow) (Q : AV → Prop) (h : Q (num 8212 5)) : vcd (base R) 10000 32 fi32 [.int .i64 151] [] (fun v _ => Q v) := by
  have e : vcd (base R) 10000 32 fi32 [.int .i64 151] [] (fun v _ => Q v) = Q (num 8212 5) := by kernel_rfl
  rw [e]; exact h
theorem n32_152 (R : Nat → RoRow) (Q : AV → Prop) (h : Q (num 732 5)) : vcd (base R) 10000 32 fi32 [.int .i64 152] [] (fun v _ => Q v) := by
  have e : vcd (base R) 10000 32 fi32 [.int .i64 152] [] (fun v _ => Q v) = Q (num 732 5) := by kernel_rfl
  rw [e]; exact h
theorem n32_153 (R : Nat → RoRow) (Q : AV → Prop) (h : Q (num 8482 5)) : vcd (base R) 10000 32 fi32 [.int .i64 153] [] (fun v _ => Q v) := by
  have e : vcd (base R) 10000 32 fi32 [.int .i64 153] [] (fun v _ => Q v) = Q (num 8482 5) := by kernel_rfl
  rw [e]; exact h
theorem n32_154 (R : Nat → RoRow) (Q : AV → Prop) (h : Q (num 353 5)) : vcd (base R) 10000 32 fi32 [.int .i64 154] [] (fun v _ => Q v) := by
  have e : vcd (base R) 10000 32 fi32 [.int .i64 154] [] (fun v _ => Q v) = Q (num 353 5) := by kernel_rfl
  rw [e]; exact h
theorem n32_155 (R : Nat → RoRow) (Q : AV → Prop) (h : Q (num 8250 5)) : vcd (base R) 10000 32 fi32 [.int .i64 155] [] (fun v _ => Q v) := by
  have e : vcd (base R) 10000 32 fi32 [.int .i64 155] [] (fun v _ => Q v) = Q (num 8250 5) := by kernel_rfl
  rw [e]; exact h
theorem n32_156 (R : Nat → RoRow) (Q : AV → Prop) (h : Q (num 339 5)) : vcd (base R) 10000 32 fi32 [.int .i64 156] [] (fun v _ => Q v) := by
  have e : vcd (base R) 10000 32 fi32 [.int .i64 156] [] (fun v _ => Q v) = Q (num 339 5) := by kernel_rfl
  rw [e]; exact h
theorem n32_157 (R : Nat → RoRow) (Q : AV → Prop) (h : Q (num 157 5)) : vcd (base R) 10000 32 fi32 [.int .i64 157] [] (fun v _ => Q v) := by
  have e : vcd (base R) 10000 32 fi32 [.int .i64 157] [] (fun v _ => Q v) = Q (num 157 5) := by kernel_rfl
  rw [e]; exact h
theorem n32_158 (R : Nat → RoRow) (Q : AV → Prop) (h : Q (num 382 5)) : vcd (base R) 10000 32 fi32 [.int .i64 158] [] (fun v _ => Q v) := by
  have e : vcd (base R) 10000 32 fi32 [.int .i64 158] [] (fun v _ => Q v) = Q (num 382 5) := by kernel_rfl
  rw [e]; exact h
theorem n32_159 (R : Nat → RoRow) (Q : AV → Prop) (h : Q (num 376 5)) : vcd (base R) 10000 32 fi32 [.int .i64 159] [] (fun v _ => Q v) := by
  have e : vcd (base R) 10000 32 fi32 [.int .i64 159] [] (fun v _ => Q v) = Q (num 376 5) := by kernel_rfl
  rw [e]; exact h
end Go.Dc.YtebgogcdndmaaaaE
