import Derived.Test.YtpgfdoakehpnlaaGreatDoorAyD
set_option linter.unusedVariables false
set_option linter.unusedSimpArgs false
namespace Go.AM
open Go Go.Proofs
set_option maxRecDepth 100000
/-! # TopBudget: runs of round 1 -/
theorem r1a0 : part1B 1 false false Bs.st1 Bs.mt1 = true := by kernel_rfl
theorem r1b0 : part1S 1 false false false Bs.st1 Bs.mt1 = true := by kernel_rfl
theorem r1c0 : part1S 1 false false true Bs.st1 Bs.mt1 = true := by kernel_rfl
theorem r1a1 : part1B 1 true false Bs.st1 Bs.mt1 = true := by kernel_rfl
theorem r1b1 : part1S 1 true false false Bs.st1 Bs.mt1 = true := by kernel_rfl
theorem r1c1 : part1S 1 true false true Bs.st1 Bs.mt1 = true := by kernel_rfl
theorem r1a2 : part1B 1 true true Bs.st1 Bs.mt1 = true := by kernel_rfl
theorem r1b2 : part1S 1 true true false Bs.st1 Bs.mt1 = true := by kernel_rfl
theorem r1c2 : part1S 1 true true true Bs.st1 Bs.mt1 = true := by kernel_rfl
theorem r1s0f : part2B 1 0 false Bs.mt1 Bs.st2 = true := by kernel_rfl
theorem r1s1f : part2B 1 1 false Bs.mt1 Bs.st2 = true := by kernel_rfl
theorem r1s2f : part2B 1 2 false Bs.mt1 Bs.st2 = true := by kernel_rfl
theorem r1s3f : part2B 1 3 false Bs.mt1 Bs.st2 = true := by kernel_rfl
theorem r1s4f : part2B 1 4 false Bs.mt1 Bs.st2 = true := by kernel_rfl
theorem r1s3t : part2B 1 3 true Bs.mt1 Bs.st2 = true := by kernel_rfl
theorem r1s4t : part2B 1 4 true Bs.mt1 Bs.st2 = true := by kernel_rfl
end Go.AM
