import Derived.Test.YtpgfdoakehpnlaaGreatDoorAyD
set_option linter.unusedVariables false
set_option linter.unusedSimpArgs false
namespace Go.AM
open Go Go.Proofs
set_option maxRecDepth 100000
/-! # TopBudget: runs of round 9 -/
theorem r9a0 : part1B 9 false false Bs.st9 Bs.mt9 = true := by kernel_rfl
theorem r9b0 : part1S 9 false false false Bs.st9 Bs.mt9 = true := by kernel_rfl
theorem r9c0 : part1S 9 false false true Bs.st9 Bs.mt9 = true := by kernel_rfl
theorem r9a1 : part1B 9 true false Bs.st9 Bs.mt9 = true := by kernel_rfl
theorem r9b1 : part1S 9 true false false Bs.st9 Bs.mt9 = true := by kernel_rfl
theorem r9c1 : part1S 9 true false true Bs.st9 Bs.mt9 = true := by kernel_rfl
theorem r9a2 : part1B 9 true true Bs.st9 Bs.mt9 = true := by kernel_rfl
theorem r9b2 : part1S 9 true true false Bs.st9 Bs.mt9 = true := by kernel_rfl
theorem r9c2 : part1S 9 true true true Bs.st9 Bs.mt9 = true := by kernel_rfl
theorem r9s0f : part2B 9 0 false Bs.mt9 Bs.st10 = true := by kernel_rfl
theorem r9s1f : part2B 9 1 false Bs.mt9 Bs.st10 = true := by kernel_rfl
theorem r9s2f : part2B 9 2 false Bs.mt9 Bs.st10 = true := by kernel_rfl
theorem r9s3f : part2B 9 3 false Bs.mt9 Bs.st10 = true := by kernel_rfl
theorem r9s4f : part2B 9 4 false Bs.mt9 Bs.st10 = true := by kernel_rfl
theorem r9s3t : part2B 9 3 true Bs.mt9 Bs.st10 = true := by kernel_rfl
theorem r9s4t : part2B 9 4 true Bs.mt9 Bs.st10 = true := by kernel_rfl
end Go.AM
