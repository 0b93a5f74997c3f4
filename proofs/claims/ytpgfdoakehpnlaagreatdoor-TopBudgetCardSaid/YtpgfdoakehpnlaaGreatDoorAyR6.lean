import Derived.Test.YtpgfdoakehpnlaaGreatDoorAyD
set_option linter.unusedVariables false
set_option linter.unusedSimpArgs false
namespace Go.AM
open Go Go.Proofs
set_option maxRecDepth 100000
/-! # TopBudget: runs of round 6 -/
theorem r6a0 : part1B 6 false false Bs.st6 Bs.mt6 = true := by kernel_rfl
theorem r6b0 : part1S 6 false false false Bs.st6 Bs.mt6 = true := by kernel_rfl
theorem r6c0 : part1S 6 false false true Bs.st6 Bs.mt6 = true := by kernel_rfl
theorem r6a1 : part1B 6 true false Bs.st6 Bs.mt6 = true := by kernel_rfl
theorem r6b1 : part1S 6 true false false Bs.st6 Bs.mt6 = true := by kernel_rfl
theorem r6c1 : part1S 6 true false true Bs.st6 Bs.mt6 = true := by kernel_rfl
theorem r6a2 : part1B 6 true true Bs.st6 Bs.mt6 = true := by kernel_rfl
theorem r6b2 : part1S 6 true true false Bs.st6 Bs.mt6 = true := by kernel_rfl
theorem r6c2 : part1S 6 true true true Bs.st6 Bs.mt6 = true := by kernel_rfl
theorem r6s0f : part2B 6 0 false Bs.mt6 Bs.st7 = true := by kernel_rfl
theorem r6s1f : part2B 6 1 false Bs.mt6 Bs.st7 = true := by kernel_rfl
theorem r6s2f : part2B 6 2 false Bs.mt6 Bs.st7 = true := by kernel_rfl
theorem r6s3f : part2B 6 3 false Bs.mt6 Bs.st7 = true := by kernel_rfl
theorem r6s4f : part2B 6 4 false Bs.mt6 Bs.st7 = true := by kernel_rfl
theorem r6s3t : part2B 6 3 true Bs.mt6 Bs.st7 = true := by kernel_rfl
theorem r6s4t : part2B 6 4 true Bs.mt6 Bs.st7 = true := by kernel_rfl
end Go.AM
