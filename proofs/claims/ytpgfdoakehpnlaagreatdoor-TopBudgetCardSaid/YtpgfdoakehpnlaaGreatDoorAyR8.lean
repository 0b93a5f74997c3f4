import Derived.Test.YtpgfdoakehpnlaaGreatDoorAyD
set_option linter.unusedVariables false
set_option linter.unusedSimpArgs false
namespace Go.AM
open Go Go.Proofs
set_option maxRecDepth 100000
/-! # TopBudget: runs of round 8 -/
theorem r8a0 : part1B 8 false false Bs.st8 Bs.mt8 = true := by kernel_rfl
theorem r8b0 : part1S 8 false false false Bs.st8 Bs.mt8 = true := by kernel_rfl
theorem r8c0 : part1S 8 false false true Bs.st8 Bs.mt8 = true := by kernel_rfl
theorem r8a1 : part1B 8 true false Bs.st8 Bs.mt8 = true := by kernel_rfl
theorem r8b1 : part1S 8 true false false Bs.st8 Bs.mt8 = true := by kernel_rfl
theorem r8c1 : part1S 8 true false true Bs.st8 Bs.mt8 = true := by kernel_rfl
theorem r8a2 : part1B 8 true true Bs.st8 Bs.mt8 = true := by kernel_rfl
theorem r8b2 : part1S 8 true true false Bs.st8 Bs.mt8 = true := by kernel_rfl
theorem r8c2 : part1S 8 true true true Bs.st8 Bs.mt8 = true := by kernel_rfl
theorem r8s0f : part2B 8 0 false Bs.mt8 Bs.st9 = true := by kernel_rfl
theorem r8s1f : part2B 8 1 false Bs.mt8 Bs.st9 = true := by kernel_rfl
theorem r8s2f : part2B 8 2 false Bs.mt8 Bs.st9 = true := by kernel_rfl
theorem r8s3f : part2B 8 3 false Bs.mt8 Bs.st9 = true := by kernel_rfl
theorem r8s4f : part2B 8 4 false Bs.mt8 Bs.st9 = true := by kernel_rfl
theorem r8s3t : part2B 8 3 true Bs.mt8 Bs.st9 = true := by kernel_rfl
theorem r8s4t : part2B 8 4 true Bs.mt8 Bs.st9 = true := by kernel_rfl
end Go.AM
