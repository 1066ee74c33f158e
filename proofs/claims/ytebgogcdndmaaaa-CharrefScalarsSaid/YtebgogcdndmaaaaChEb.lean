/- The reference's answer at any number: a call of it is safe. -/
import Derived.Test.YtebgogcdndmaaaaChD
namespace Go.Dc.YtebgogcdndmaaaaE
set_option linter.unusedSimpArgs false
set_option linter.unusedVariables false
open Go.Proofs Go.RowKit
set_option maxRecDepth 100000
theorem hf32 (R : Nat → RoRow) : (base R).F 32 = some fi32 := by kernel_rfl
theorem hf32e (R : Nat → RoRow) : (env32 R).F 32 = some fi32 := by kernel_rfl
theorem byVcd {E : Env Prop} (hE : EnvOK Try.prog E id) {f : FuncId} {fi : FI} (hF : E.F f = some fi) {args : List AV} {h : Rows} {Q : AV → Rows → Prop} (n : Nat) {X : Prop} (e : vcd E n f fi args h Q = X) (hX : X) : SafeCall Try.prog E.R f args h Q :=
  SafeCall.vcd mixed hE hF n (e.symm ▸ hX)
theorem e32_127 (R : Nat → RoRow) (Q : AV → Prop) : vcd (base R) 10000 32 fi32 [.int .i64 127] [] (fun v _ => Q v) = Q (num 127 5) := by kernel_rfl
theorem s32_127 (R : Nat → RoRow) (Q : AV → Prop) (h : Q (num 127 5)) : SafeCall Try.prog (base R).R 32 [.int .i64 127] [] (fun v _ => Q v) := byVcd (base_ok R) (hf32 R) 10000 (e32_127 R Q) h
theorem e32_128 (R : Nat → RoRow) (Q : AV → Prop) : vcd (base R) 10000 32 fi32 [.int .i64 128] [] (fun v _ => Q v) = Q (num 8364 5) := by kernel_rfl
theorem s32_128 (R : Nat → RoRow) (Q : AV → Prop) (h : Q (num 8364 5)) : SafeCall Try.prog (base R).R 32 [.int .i64 128] [] (fun v _ => Q v) := byVcd (base_ok R) (hf32 R) 10000 (e32_128 R Q) h
theorem e32_129 (R : Nat → RoRow) (Q : AV → Prop) : vcd (base R) 10000 32 fi32 [.int .i64 129] [] (fun v _ => Q v) = Q (num 129 5) := by kernel_rfl
theorem s32_129 (R : Nat → RoRow) (Q : AV → Prop) (h : Q (num 129 5)) : SafeCall Try.prog (base R).R 32 [.int .i64 129] [] (fun v _ => Q v) := byVcd (base_ok R) (hf32 R) 10000 (e32_129 R Q) h
theorem e32_130 (R : Nat → RoRow) (Q : AV → Prop) : vcd (base R) 10000 32 fi32 [.int .i64 130] [] (fun v _ => Q v) = Q (num 8218 5) := by kernel_rfl
theorem s32_130 (R : Nat → RoRow) (Q : AV → Prop) (h : Q (num 8218 5)) : SafeCall Try.prog (base R).R 32 [.int .i64 130] [] (fun v _ => Q v) := byVcd (base_ok R) (hf32 R) 10000 (e32_130 R Q) h
theorem e32_131 (R : Nat → RoRow) (Q : AV → Prop) : vcd (base R) 10000 32 fi32 [.int .i64 131] [] (fun v _ => Q v) = Q (num 402 5) := by kernel_rfl
theorem s32_131 (R : Nat → RoRow) (Q : AV → Prop) (h : Q (num 402 5)) : SafeCall Try.prog (base R).R 32 [.int .i64 131] [] (fun v _ => Q v) := byVcd (base_ok R) (hf32 R) 10000 (e32_131 R Q) h
theorem e32_132 (R : Nat → RoRow) (Q : AV → Prop) : vcd (base R) 10000 32 fi32 [.int .i64 132] [] (fun v _ => Q v) = Q (num 8222 5) := by kernel_rfl
theorem s32_132 (R : Nat → RoRow) (Q : AV → Prop) (h : Q (num 8222 5)) : SafeCall Try.prog (base R).R 32 [.int .i64 132] [] (fun v _ => Q v) := byVcd (base_ok R) (hf32 R) 10000 (e32_132 R Q) h
theorem e32_133 (R : Nat → RoRow) (Q : AV → Prop) : vcd (base R) 10000 32 fi32 [.int .i64 133] [] (fun v _ => Q v) = Q (num 8230 5) := by kernel_rfl
theorem s32_133 (R : Nat → RoRow) (Q : AV → Prop) (h : Q (num 8230 5)) : SafeCall Try.prog (base R).R 32 [.int .i64 133] [] (fun v _ => Q v) := byVcd (base_ok R) (hf32 R) 10000 (e32_133 R Q) h
theorem e32_134 (R : Nat → RoRow) (Q : AV → Prop) : vcd (base R) 10000 32 fi32 [.int .i64 134] [] (fun v _ => Q v) = Q (num 8224 5) := by kernel_rfl
theorem s32_134 (R : Nat → RoRow) (Q : AV → Prop) (h : Q (num 8224 5)) : SafeCall Try.prog (base R).R 32 [.int .i64 134] [] (fun v _ => Q v) := byVcd (base_ok R) (hf32 R) 10000 (e32_134 R Q) h
theorem e32_135 (R : Nat → RoRow) (Q : AV → Prop) : vcd (base R) 10000 32 fi32 [.int .i64 135] [] (fun v _ => Q v) = Q (num 8225 5) := by kernel_rfl
theorem s32_135 (R : Nat → RoRow) (Q : AV → Prop) (h : Q (num 8225 5)) : SafeCall Try.prog (base R).R 32 [.int .i64 135] [] (fun v _ => Q v) := byVcd (base_ok R) (hf32 R) 10000 (e32_135 R Q) h
theorem e32_136 (R : Nat → RoRow) (Q : AV → Prop) : vcd (base R) 10000 32 fi32 [.int .i64 136] [] (fun v _ => Q v) = Q (num 710 5) := by kernel_rfl
theorem s32_136 (R : Nat → RoRow) (Q : AV → Prop) (h : Q (num 710 5)) : SafeCall Try.prog (base R).R 32 [.int .i64 136] [] (fun v _ => Q v) := byVcd (base_ok R) (hf32 R) 10000 (e32_136 R Q) h
theorem e32_137 (R : Nat → RoRow) (Q : AV → Prop) : vcd (base R) 10000 32 fi32 [.int .i64 137] [] (fun v _ => Q v) = Q (num 8240 5) := by kernel_rfl
theorem s32_137 (R : Nat → RoRow) (Q : AV → Prop) (h : Q (num 8240 5)) : SafeCall Try.prog (base R).R 32 [.int .i64 137] [] (fun v _ => Q v) := byVcd (base_ok R) (hf32 R) 10000 (e32_137 R Q) h
theorem e32_138 (R : Nat → RoRow) (Q : AV → Prop) : vcd (base R) 10000 32 fi32 [.int .i64 138] [] (fun v _ => Q v) = Q (num 352 5) := by kernel_rfl
theorem s32_138 (R : Nat → RoRow) (Q : AV → Prop) (h : Q (num 352 5)) : SafeCall Try.prog (base R).R 32 [.int .i64 138] [] (fun v _ => Q v) := byVcd (base_ok R) (hf32 R) 10000 (e32_138 R Q) h
theorem e32_139 (R : Nat → RoRow) (Q : AV → Prop) : vcd (base R) 10000 32 fi32 [.int .i64 139] [] (fun v _ => Q v) = Q (num 8249 5) := by kernel_rfl
theorem s32_139 (R : Nat → RoRow) (Q : AV → Prop) (h : Q (num 8249 5)) : SafeCall Try.prog (base R).R 32 [.int .i64 139] [] (fun v _ => Q v) := byVcd (base_ok R) (hf32 R) 10000 (e32_139 R Q) h
theorem e32_140 (R : Nat → RoRow) (Q : AV → Prop) : vcd (base R) 10000 32 fi32 [.int .i64 140] [] (fun v _ => Q v) = Q (num 338 5) := by kernel_rfl
theorem s32_140 (R : Nat → RoRow) (Q : AV → Prop) (h : Q (num 338 5)) : SafeCall Try.prog (base R).R 32 [.int .i64 140] [] (fun v _ => Q v) := byVcd (base_ok R) (hf32 R) 10000 (e32_140 R Q) h
theorem e32_141 (R : Nat → RoRow) (Q : AV → Prop) : vcd (base R) 10000 32 fi32 [.int .i64 141] [] (fun v _ => Q v) = Q (num 141 5) := by kernel_rfl
theorem s32_141 (R : Nat → RoRow) (Q : AV → Prop) (h : Q (num 141 5)) : SafeCall Try.prog (base R).R 32 [.int .i64 141] [] (fun v _ => Q v) := byVcd (base_ok R) (hf32 R) 10000 (e32_141 R Q) h
theorem e32_142 (R : Nat → RoRow) (Q : AV → Prop) : vcd (base R) 10000 32 fi32 [.int .i64 142] [] (fun v _ => Q v) = Q (num 381 5) := by kernel_rfl
theorem s32_142 (R : Nat → RoRow) (Q : AV → Prop) (h : Q (num 381 5)) : SafeCall Try.prog (base R).R 32 [.int .i64 142] [] (fun v _ => Q v) := byVcd (base_ok R) (hf32 R) 10000 (e32_142 R Q) h
theorem e32_143 (R : Nat → RoRow) (Q : AV → Prop) : vcd (base R) 10000 32 fi32 [.int .i64 143] [] (fun v _ => Q v) = Q (num 143 5) := by kernel_rfl
theorem s32_143 (R : Nat → RoRow) (Q : AV → Prop) (h : Q (num 143 5)) : SafeCall Try.prog (base R).R 32 [.int .i64 143] [] (fun v _ => Q v) := byVcd (base_ok R) (hf32 R) 10000 (e32_143 R Q) h
theorem e32_144 (R : Nat → RoRow) (Q : AV → Prop) : vcd (base R) 10000 32 fi32 [.int .i64 144] [] (fun v _ => Q v) = Q (num 144 5) := by kernel_rfl
theorem s32_144 (R : Nat → RoRow) (Q : AV → Prop) (h : Q (num 144 5)) : SafeCall Try.prog (base R).R 32 [.int .i64 144] [] (fun v _ => Q v) := byVcd (base_ok R) (hf32 R) 10000 (e32_144 R Q) h
theorem e32_145 (R : Nat → RoRow) (Q : AV → Prop) : vcd (base R) 10000 32 fi32 [.int .i64 145] [] (fun v _ => Q v) = Q (num 8216 5) := by kernel_rfl
theorem s32_145 (R : Nat → RoRow) (Q : AV → Prop) (h : Q (num 8216 5)) : SafeCall Try.prog (base R).R 32 [.int .i64 145] [] (fun v _ => Q v) := byVcd (base_ok R) (hf32 R) 10000 (e32_145 R Q) h
theorem e32_146 (R : Nat → RoRow) (Q : AV → Prop) : vcd (base R) 10000 32 fi32 [.int .i64 146] [] (fun v _ => Q v) = Q (num 8217 5) := by kernel_rfl
theorem s32_146 (R : Nat → RoRow) (Q : AV → Prop) (h : Q (num 8217 5)) : SafeCall Try.prog (base R).R 32 [.int .i64 146] [] (fun v _ => Q v) := byVcd (base_ok R) (hf32 R) 10000 (e32_146 R Q) h
theorem e32_147 (R : Nat → RoRow) (Q : AV → Prop) : vcd (base R) 10000 32 fi32 [.int .i64 147] [] (fun v _ => Q v) = Q (num 8220 5) := by kernel_rfl
theorem s32_147 (R : Nat → RoRow) (Q : AV → Prop) (h : Q (num 8220 5)) : SafeCall Try.prog (base R).R 32 [.int .i64 147] [] (fun v _ => Q v) := byVcd (base_ok R) (hf32 R) 10000 (e32_147 R Q) h
theorem e32_148 (R : Nat → RoRow) (Q : AV → Prop) : vcd (base R) 10000 32 fi32 [.int .i64 148] [] (fun v _ => Q v) = Q (num 8221 5) := by kernel_rfl
theorem s32_148 (R : Nat → RoRow) (Q : AV → Prop) (h : Q (num 8221 5)) : SafeCall Try.prog (base R).R 32 [.int .i64 148] [] (fun v _ => Q v) := byVcd (base_ok R) (hf32 R) 10000 (e32_148 R Q) h
theorem e32_149 (R : Nat → RoRow) (Q : AV → Prop) : vcd (base R) 10000 32 fi32 [.int .i64 149] [] (fun v _ => Q v) = Q (num 8226 5) := by kernel_rfl
theorem s32_149 (R : Nat → RoRow) (Q : AV → Prop) (h : Q (num 8226 5)) : SafeCall Try.prog (base R).R 32 [.int .i64 149] [] (fun v _ => Q v) := byVcd (base_ok R) (hf32 R) 10000 (e32_149 R Q) h
theorem e32_150 (R : Nat → RoRow) (Q : AV → Prop) : vcd (base R) 10000 32 fi32 [.int .i64 150] [] (fun v _ => Q v) = Q (num 8211 5) := by kernel_rfl
theorem s32_150 (R : Nat → RoRow) (Q : AV → Prop) (h : Q (num 8211 5)) : SafeCall Try.prog (base R).R 32 [.int .i64 150] [] (fun v _ => Q v) := byVcd (base_ok R) (hf32 R) 10000 (e32_150 R Q) h
theorem e32_151 (R : Nat → RoRow) (Q : AV → Prop) : vcd (base R) 10000 32 fi32 [.int .i64 151] [] (fun v _ => Q v) = Q (num 8212 5) := by kernel_rfl
theorem s32_151 (R : Nat → RoRow) (Q : AV → Prop) (h : Q (num 8212 5)) : SafeCall Try.prog (base R).R 32 [.int .i64 151] [] (fun v _ => Q v) := byVcd (base_ok R) (hf32 R) 10000 (e32_151 R Q) h
theorem e32_152 (R : Nat → RoRow) (Q : AV → Prop) : vcd (base R) 10000 32 fi32 [.int .i64 152] [] (fun v _ => Q v) = Q (num 732 5) := by kernel_rfl
theorem s32_152 (R : Nat → RoRow) (Q : AV → Prop) (h : Q (num 732 5)) : SafeCall Try.prog (base R).R 32 [.int .i64 152] [] (fun v _ => Q v) := byVcd (base_ok R) (hf32 R) 10000 (e32_152 R Q) h
theorem e32_153 (R : Nat → RoRow) (Q : AV → Prop) : vcd (base R) 10000 32 fi32 [.int .i64 153] [] (fun v _ => Q v) = Q (num 8482 5) := by kernel_rfl
theorem s32_153 (R : Nat → RoRow) (Q : AV → Prop) (h : Q (num 8482 5)) : SafeCall Try.prog (base R).R 32 [.int .i64 153] [] (fun v _ => Q v) := byVcd (base_ok R) (hf32 R) 10000 (e32_153 R Q) h
theorem e32_154 (R : Nat → RoRow) (Q : AV → Prop) : vcd (base R) 10000 32 fi32 [.int .i64 154] [] (fun v _ => Q v) = Q (num 353 5) := by kernel_rfl
theorem s32_154 (R : Nat → RoRow) (Q : AV → Prop) (h : Q (num 353 5)) : SafeCall Try.prog (base R).R 32 [.int .i64 154] [] (fun v _ => Q v) := byVcd (base_ok R) (hf32 R) 10000 (e32_154 R Q) h
theorem e32_155 (R : Nat → RoRow) (Q : AV → Prop) : vcd (base R) 10000 32 fi32 [.int .i64 155] [] (fun v _ => Q v) = Q (num 8250 5) := by kernel_rfl
theorem s32_155 (R : Nat → RoRow) (Q : AV → Prop) (h : Q (num 8250 5)) : SafeCall Try.prog (base R).R 32 [.int .i64 155] [] (fun v _ => Q v) := byVcd (base_ok R) (hf32 R) 10000 (e32_155 R Q) h
theorem e32_156 (R : Nat → RoRow) (Q : AV → Prop) : vcd (base R) 10000 32 fi32 [.int .i64 156] [] (fun v _ => Q v) = Q (num 339 5) := by kernel_rfl
theorem s32_156 (R : Nat → RoRow) (Q : AV → Prop) (h : Q (num 339 5)) : SafeCall Try.prog (base R).R 32 [.int .i64 156] [] (fun v _ => Q v) := byVcd (base_ok R) (hf32 R) 10000 (e32_156 R Q) h
theorem e32_157 (R : Nat → RoRow) (Q : AV → Prop) : vcd (base R) 10000 32 fi32 [.int .i64 157] [] (fun v _ => Q v) = Q (num 157 5) := by kernel_rfl
theorem s32_157 (R : Nat → RoRow) (Q : AV → Prop) (h : Q (num 157 5)) : SafeCall Try.prog (base R).R 32 [.int .i64 157] [] (fun v _ => Q v) := byVcd (base_ok R) (hf32 R) 10000 (e32_157 R Q) h
theorem e32_158 (R : Nat → RoRow) (Q : AV → Prop) : vcd (base R) 10000 32 fi32 [.int .i64 158] [] (fun v _ => Q v) = Q (num 382 5) := by kernel_rfl
theorem s32_158 (R : Nat → RoRow) (Q : AV → Prop) (h : Q (num 382 5)) : SafeCall Try.prog (base R).R 32 [.int .i64 158] [] (fun v _ => Q v) := byVcd (base_ok R) (hf32 R) 10000 (e32_158 R Q) h
theorem e32_159 (R : Nat → RoRow) (Q : AV → Prop) : vcd (base R) 10000 32 fi32 [.int .i64 159] [] (fun v _ => Q v) = Q (num 376 5) := by kernel_rfl
theorem s32_159 (R : Nat → RoRow) (Q : AV → Prop) (h : Q (num 376 5)) : SafeCall Try.prog (base R).R 32 [.int .i64 159] [] (fun v _ => Q v) := byVcd (base_ok R) (hf32 R) 10000 (e32_159 R Q) h
theorem safe32 (R : Nat → RoRow) (n : Int) (Q : AV → Prop) (hQ : Q (num (refF n).1 (refF n).2)) : SafeCall Try.prog (base R).R 32 [.int .i64 n] [] fun v _ => Q v := by
  by_cases hn : 127 ≤ n ∧ n ≤ 159
  · have hc : n = 127 ∨ n = 128 ∨ n = 129 ∨ n = 130 ∨ n = 131 ∨ n = 132 ∨ n = 133 ∨ n = 134 ∨ n = 135 ∨ n = 136 ∨ n = 137 ∨ n = 138 ∨ n = 139 ∨ n = 140 ∨ n = 141 ∨ n = 142 ∨ n = 143 ∨ n = 144 ∨ n = 145 ∨ n = 146 ∨ n = 147 ∨ n = 148 ∨ n = 149 ∨ n = 150 ∨ n = 151 ∨ n = 152 ∨ n = 153 ∨ n = 154 ∨ n = 155 ∨ n = 156 ∨ n = 157 ∨ n = 158 ∨ n = 159 := by omega
    rcases hc with rfl | rfl | rfl | rfl | rfl | rfl | rfl | rfl | rfl | rfl | rfl | rfl | rfl | rfl | rfl | rfl | rfl | rfl | rfl | rfl | rfl | rfl | rfl | rfl | rfl | rfl | rfl | rfl | rfl | rfl | rfl | rfl | rfl
    · exact s32_127 R Q (by rw [show refF 127 = (127, 5) by decide +kernel] at hQ; exact hQ)
    · exact s32_128 R Q (by rw [show refF 128 = (8364, 5) by decide +kernel] at hQ; exact hQ)
    · exact s32_129 R Q (by rw [show refF 129 = (129, 5) by decide +kernel] at hQ; exact hQ)
    · exact s32_130 R Q (by rw [show refF 130 = (8218, 5) by decide +kernel] at hQ; exact hQ)
    · exact s32_131 R Q (by rw [show refF 131 = (402, 5) by decide +kernel] at hQ; exact hQ)
    · exact s32_132 R Q (by rw [show refF 132 = (8222, 5) by decide +kernel] at hQ; exact hQ)
    · exact s32_133 R Q (by rw [show refF 133 = (8230, 5) by decide +kernel] at hQ; exact hQ)
    · exact s32_134 R Q (by rw [show refF 134 = (8224, 5) by decide +kernel] at hQ; exact hQ)
    · exact s32_135 R Q (by rw [show refF 135 = (8225, 5) by decide +kernel] at hQ; exact hQ)
    · exact s32_136 R Q (by rw [show refF 136 = (710, 5) by decide +kernel] at hQ; exact hQ)
    · exact s32_137 R Q (by rw [show refF 137 = (8240, 5) by decide +kernel] at hQ; exact hQ)
    · exact s32_138 R Q (by rw [show refF 138 = (352, 5) by decide +kernel] at hQ; exact hQ)
    · exact s32_139 R Q (by rw [show refF 139 = (8249, 5) by decide +kernel] at hQ; exact hQ)
    · exact s32_140 R Q (by rw [show refF 140 = (338, 5) by decide +kernel] at hQ; exact hQ)
    · exact s32_141 R Q (by rw [show refF 141 = (141, 5) by decide +kernel] at hQ; exact hQ)
    · exact s32_142 R Q (by rw [show refF 142 = (381, 5) by decide +kernel] at hQ; exact hQ)
    · exact s32_143 R Q (by rw [show refF 143 = (143, 5) by decide +kernel] at hQ; exact hQ)
    · exact s32_144 R Q (by rw [show refF 144 = (144, 5) by decide +kernel] at hQ; exact hQ)
    · exact s32_145 R Q (by rw [show refF 145 = (8216, 5) by decide +kernel] at hQ; exact hQ)
    · exact s32_146 R Q (by rw [show refF 146 = (8217, 5) by decide +kernel] at hQ; exact hQ)
    · exact s32_147 R Q (by rw [show refF 147 = (8220, 5) by decide +kernel] at hQ; exact hQ)
    · exact s32_148 R Q (by rw [show refF 148 = (8221, 5) by decide +kernel] at hQ; exact hQ)
    · exact s32_149 R Q (by rw [show refF 149 = (8226, 5) by decide +kernel] at hQ; exact hQ)
    · exact s32_150 R Q (by rw [show refF 150 = (8211, 5) by decide +kernel] at hQ; exact hQ)
    · exact s32_151 R Q (by rw [show refF 151 = (8212, 5) by decide +kernel] at hQ; exact hQ)
    · exact s32_152 R Q (by rw [show refF 152 = (732, 5) by decide +kernel] at hQ; exact hQ)
    · exact s32_153 R Q (by rw [show refF 153 = (8482, 5) by decide +kernel] at hQ; exact hQ)
    · exact s32_154 R Q (by rw [show refF 154 = (353, 5) by decide +kernel] at hQ; exact hQ)
    · exact s32_155 R Q (by rw [show refF 155 = (8250, 5) by decide +kernel] at hQ; exact hQ)
    · exact s32_156 R Q (by rw [show refF 156 = (339, 5) by decide +kernel] at hQ; exact hQ)
    · exact s32_157 R Q (by rw [show refF 157 = (157, 5) by decide +kernel] at hQ; exact hQ)
    · exact s32_158 R Q (by rw [show refF 158 = (382, 5) by decide +kernel] at hQ; exact hQ)
    · exact s32_159 R Q (by rw [show refF 159 = (376, 5) by decide +kernel] at hQ; exact hQ)
  · exact byVcd (env32_ok R) (hf32e R) 10000 rfl (out32 R n hn Q hQ)
end Go.Dc.YtebgogcdndmaaaaE
