import Derived.Test.YtebgogcdndmaaaaChD
namespace Go.Dc.YtebgogcdndmaaaaE
set_option linter.unusedSimpArgs false
set_option linter.unusedVariables false
open Go.Proofs Go.RowKit
set_option maxRecDepth 100000
theorem hf31 (R : Nat → RoRow) : (base R).F 31 = some fi31 := by kernel_rfl
theorem hf31e (R : Nat → RoRow) : (env31 R).F 31 = some fi31 := by kernel_rfl
set_option maxHeartbeats 8000000 in
theorem safe31 (R : Nat → RoRow) (n : Int) (Q : AV → Prop) (hQ : Q (num (numF n).1 (numF n).2)) : SafeCall Try.prog R 31 [.int .i64 n] [] fun v _ => Q v := by
  by_cases hn : 128 ≤ n ∧ n ≤ 159
  · have hc : n = 128 ∨ n = 129 ∨ n = 130 ∨ n = 131 ∨ n = 132 ∨ n = 133 ∨ n = 134 ∨ n = 135 ∨ n = 136 ∨ n = 137 ∨ n = 138 ∨ n = 139 ∨ n = 140 ∨ n = 141 ∨ n = 142 ∨ n = 143 ∨ n = 144 ∨ n = 145 ∨ n = 146 ∨ n = 147 ∨ n = 148 ∨ n = 149 ∨ n = 150 ∨ n = 151 ∨ n = 152 ∨ n = 153 ∨ n = 154 ∨ n = 155 ∨ n = 156 ∨ n = 157 ∨ n = 158 ∨ n = 159 := by omega
    rcases hc with rfl | rfl | rfl | rfl | rfl | rfl | rfl | rfl | rfl | rfl | rfl | rfl | rfl | rfl | rfl | rfl | rfl | rfl | rfl | rfl | rfl | rfl | rfl | rfl | rfl | rfl | rfl | rfl | rfl | rfl | rfl | rfl
    · exact SafeCall.vcd mixed (base_ok R) (hf31 R) 10000 (n31_128 R Q (by rw [show numF 128 = (8364, 35) by decide +kernel] at hQ; exact hQ))
    · exact SafeCall.vcd mixed (base_ok R) (hf31 R) 10000 (n31_129 R Q (by rw [show numF 129 = (129, 35) by decide +kernel] at hQ; exact hQ))
    · exact SafeCall.vcd mixed (base_ok R) (hf31 R) 10000 (n31_130 R Q (by rw [show numF 130 = (8218, 35) by decide +kernel] at hQ; exact hQ))
    · exact SafeCall.vcd mixed (base_ok R) (hf31 R) 10000 (n31_131 R Q (by rw [show numF 131 = (402, 35) by decide +kernel] at hQ; exact hQ))
    · exact SafeCall.vcd mixed (base_ok R) (hf31 R) 10000 (n31_132 R Q (by rw [show numF 132 = (8222, 35) by decide +kernel] at hQ; exact hQ))
    · exact SafeCall.vcd mixed (base_ok R) (hf31 R) 10000 (n31_133 R Q (by rw [show numF 133 = (8230, 35) by decide +kernel] at hQ; exact hQ))
    · exact SafeCall.vcd mixed (base_ok R) (hf31 R) 10000 (n31_134 R Q (by rw [show numF 134 = (8224, 35) by decide +kernel] at hQ; exact hQ))
    · exact SafeCall.vcd mixed (base_ok R) (hf31 R) 10000 (n31_135 R Q (by rw [show numF 135 = (8225, 35) by decide +kernel] at hQ; exact hQ))
    · exact SafeCall.vcd mixed (base_ok R) (hf31 R) 10000 (n31_136 R Q (by rw [show numF 136 = (710, 35) by decide +kernel] at hQ; exact hQ))
    · exact SafeCall.vcd mixed (base_ok R) (hf31 R) 10000 (n31_137 R Q (by rw [show numF 137 = (8240, 35) by decide +kernel] at hQ; exact hQ))
    · exact SafeCall.vcd mixed (base_ok R) (hf31 R) 10000 (n31_138 R Q (by rw [show numF 138 = (352, 35) by decide +kernel] at hQ; exact hQ))
    · exact SafeCall.vcd mixed (base_ok R) (hf31 R) 10000 (n31_139 R Q (by rw [show numF 139 = (8249, 35) by decide +kernel] at hQ; exact hQ))
    · exact SafeCall.vcd mixed (base_ok R) (hf31 R) 10000 (n31_140 R Q (by rw [show numF 140 = (338, 35) by decide +kernel] at hQ; exact hQ))
    · exact SafeCall.vcd mixed (base_ok R) (hf31 R) 10000 (n31_141 R Q (by rw [show numF 141 = (141, 35) by decide +kernel] at hQ; exact hQ))
    · exact SafeCall.vcd mixed (base_ok R) (hf31 R) 10000 (n31_142 R Q (by rw [show numF 142 = (381, 35) by decide +kernel] at hQ; exact hQ))
    · exact SafeCall.vcd mixed (base_ok R) (hf31 R) 10000 (n31_143 R Q (by rw [show numF 143 = (143, 35) by decide +kernel] at hQ; exact hQ))
    · exact SafeCall.vcd mixed (base_ok R) (hf31 R) 10000 (n31_144 R Q (by rw [show numF 144 = (144, 35) by decide +kernel] at hQ; exact hQ))
    · exact SafeCall.vcd mixed (base_ok R) (hf31 R) 10000 (n31_145 R Q (by rw [show numF 145 = (8216, 35) by decide +kernel] at hQ; exact hQ))
    · exact SafeCall.vcd mixed (base_ok R) (hf31 R) 10000 (n31_146 R Q (by rw [show numF 146 = (8217, 35) by decide +kernel] at hQ; exact hQ))
    · exact SafeCall.vcd mixed (base_ok R) (hf31 R) 10000 (n31_147 R Q (by rw [show numF 147 = (8220, 35) by decide +kernel] at hQ; exact hQ))
    · exact SafeCall.vcd mixed (base_ok R) (hf31 R) 10000 (n31_148 R Q (by rw [show numF 148 = (8221, 35) by decide +kernel] at hQ; exact hQ))
    · exact SafeCall.vcd mixed (base_ok R) (hf31 R) 10000 (n31_149 R Q (by rw [show numF 149 = (8226, 35) by decide +kernel] at hQ; exact hQ))
    · exact SafeCall.vcd mixed (base_ok R) (hf31 R) 10000 (n31_150 R Q (by rw [show numF 150 = (8211, 35) by decide +kernel] at hQ; exact hQ))
    · exact SafeCall.vcd mixed (base_ok R) (hf31 R) 10000 (n31_151 R Q (by rw [show numF 151 = (8212, 35) by decide +kernel] at hQ; exact hQ))
    · exact SafeCall.vcd mixed (base_ok R) (hf31 R) 10000 (n31_152 R Q (by rw [show numF 152 = (732, 35) by decide +kernel] at hQ; exact hQ))
    · exact SafeCall.vcd mixed (base_ok R) (hf31 R) 10000 (n31_153 R Q (by rw [show numF 153 = (8482, 35) by decide +kernel] at hQ; exact hQ))
    · exact SafeCall.vcd mixed (base_ok R) (hf31 R) 10000 (n31_154 R Q (by rw [show numF 154 = (353, 35) by decide +kernel] at hQ; exact hQ))
    · exact SafeCall.vcd mixed (base_ok R) (hf31 R) 10000 (n31_155 R Q (by rw [show numF 155 = (8250, 35) by decide +kernel] at hQ; exact hQ))
    · exact SafeCall.vcd mixed (base_ok R) (hf31 R) 10000 (n31_156 R Q (by rw [show numF 156 = (339, 35) by decide +kernel] at hQ; exact hQ))
    · exact SafeCall.vcd mixed (base_ok R) (hf31 R) 10000 (n31_157 R Q (by rw [show numF 157 = (157, 35) by decide +kernel] at hQ; exact hQ))
    · exact SafeCall.vcd mixed (base_ok R) (hf31 R) 10000 (n31_158 R Q (by rw [show numF 158 = (382, 35) by decide +kernel] at hQ; exact hQ))
    · exact SafeCall.vcd mixed (base_ok R) (hf31 R) 10000 (n31_159 R Q (by rw [show numF 159 = (376, 35) by decide +kernel] at hQ; exact hQ))
  · exact SafeCall.vcd mixed (env31_ok R) (hf31e R) 10000 (out31 R n hn Q hQ)
end Go.Dc.YtebgogcdndmaaaaE
