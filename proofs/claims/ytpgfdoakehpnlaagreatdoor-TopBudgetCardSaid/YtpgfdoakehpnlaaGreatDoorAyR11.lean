import Derived.Test.YtpgfdoakehpnlaaGreatDoorAyD
set_option linter.unusedVariables false
set_option linter.unusedSimpArgs false
namespace Go.AM
open Go Go.Proofs
set_option maxRecDepth 100000
/-! # TopBudget: runs of round 11 -/
theorem r11a0 : part1B 11 false false Bs.st11 Bs.mt11 = true := by kernel_rfl
theorem r11b0 : part1S 11 false false false Bs.st11 Bs.mt11 = true := by kernel_rfl
theorem r11c0 : part1S 11 false false true Bs.st11 Bs.mt11 = true := by kernel_rfl
theorem r11a1 : part1B 11 true false Bs.st11 Bs.mt11 = true := by kernel_rfl
theorem r11b1 : part1S 11 true false false Bs.st11 Bs.mt11 = true := by kernel_rfl
theorem r11c1 : part1S 11 true false true Bs.st11 Bs.mt11 = true := by kernel_rfl
theorem r11a2 : part1B 11 true true Bs.st11 Bs.mt11 = true := by kernel_rfl
theorem r11b2 : part1S 11 true true false Bs.st11 Bs.mt11 = true := by kernel_rfl
theorem r11c2 : part1S 11 true true true Bs.st11 Bs.mt11 = true := by kernel_rfl
theorem r11s0f : part2B 11 0 false Bs.mt11 Bs.st12 = true := by kernel_rfl
theorem r11s1f : part2B 11 1 false Bs.mt11 Bs.st12 = true := by kernel_rfl
theorem r11s2f : part2B 11 2 false Bs.mt11 Bs.st12 = true := by kernel_rfl
theorem r11s3f : part2B 11 3 false Bs.mt11 Bs.st12 = true := by kernel_rfl
theorem r11s4f : part2B 11 4 false Bs.mt11 Bs.st12 = true := by kernel_rfl
theorem r11s3t : part2B 11 3 true Bs.mt11 Bs.st12 = true := by kernel_rfl
theorem r11s4t : part2B 11 4 true Bs.mt11 Bs.st12 = true := by kernel_rfl
end Go.AM
