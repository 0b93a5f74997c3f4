import Derived.Test.YtpgfdoakehpnlaaGreatDoorAyD
set_option linter.unusedVariables false
set_option linter.unusedSimpArgs false
namespace Go.AM
open Go Go.Proofs
set_option maxRecDepth 100000
/-! # TopBudget: runs of round 0 -/
theorem r0a0 : part1B 0 false false Bs.st0 Bs.mt0 = true := by kernel_rfl
theorem r0b0 : part1S 0 false false false Bs.st0 Bs.mt0 = true := by kernel_rfl
theorem r0c0 : part1S 0 false false true Bs.st0 Bs.mt0 = true := by kernel_rfl
theorem r0s0f : part2B 0 0 false Bs.mt0 Bs.st1 = true := by kernel_rfl
theorem r0s1f : part2B 0 1 false Bs.mt0 Bs.st1 = true := by kernel_rfl
theorem r0s2f : part2B 0 2 false Bs.mt0 Bs.st1 = true := by kernel_rfl
theorem r0s3f : part2B 0 3 false Bs.mt0 Bs.st1 = true := by kernel_rfl
theorem r0s4f : part2B 0 4 false Bs.mt0 Bs.st1 = true := by kernel_rfl
theorem r0s3t : part2B 0 3 true Bs.mt0 Bs.st1 = true := by kernel_rfl
theorem r0s4t : part2B 0 4 true Bs.mt0 Bs.st1 = true := by kernel_rfl
end Go.AM
