import Derived.Test.YtpgfdoakehpnlaaGreatDoorAyD
set_option linter.unusedVariables false
set_option linter.unusedSimpArgs false
namespace Go.AM
open Go Go.Proofs
set_option maxRecDepth 100000
/-! # TopBudget: runs of round 10 -/
theorem r10a0 : part1B 10 false false Bs.st10 Bs.mt10 = true := by kernel_rfl
theorem r10b0 : part1S 10 false false false Bs.st10 Bs.mt10 = true := by kernel_rfl
theorem r10c0 : part1S 10 false false true Bs.st10 Bs.mt10 = true := by kernel_rfl
theorem r10a1 : part1B 10 true false Bs.st10 Bs.mt10 = true := by kernel_rfl
theorem r10b1 : part1S 10 true false false Bs.st10 Bs.mt10 = true := by kernel_rfl
theorem r10c1 : part1S 10 true false true Bs.st10 Bs.mt10 = true := by kernel_rfl
theorem r10a2 : part1B 10 true true Bs.st10 Bs.mt10 = true := by kernel_rfl
theorem r10b2 : part1S 10 true true false Bs.st10 Bs.mt10 = true := by kernel_rfl
theorem r10c2 : part1S 10 true true true Bs.st10 Bs.mt10 = true := by kernel_rfl
theorem r10s0f : part2B 10 0 false Bs.mt10 Bs.st11 = true := by kernel_rfl
theorem r10s1f : part2B 10 1 false Bs.mt10 Bs.st11 = true := by kernel_rfl
theorem r10s2f : part2B 10 2 false Bs.mt10 Bs.st11 = true := by kernel_rfl
theorem r10s3f : part2B 10 3 false Bs.mt10 Bs.st11 = true := by kernel_rfl
theorem r10s4f : part2B 10 4 false Bs.mt10 Bs.st11 = true := by kernel_rfl
theorem r10s3t : part2B 10 3 true Bs.mt10 Bs.st11 = true := by kernel_rfl
theorem r10s4t : part2B 10 4 true Bs.mt10 Bs.st11 = true := by kernel_rfl
end Go.AM
