import Derived.Test.YtpgfdoakehpnlaaGreatDoorAyD
set_option linter.unusedVariables false
set_option linter.unusedSimpArgs false
namespace Go.AM
open Go Go.Proofs
set_option maxRecDepth 100000
/-! # TopBudget: runs of round 3 -/
theorem r3a0 : part1B 3 false false Bs.st3 Bs.mt3 = true := by kernel_rfl
theorem r3b0 : part1S 3 false false false Bs.st3 Bs.mt3 = true := by kernel_rfl
theorem r3c0 : part1S 3 false false true Bs.st3 Bs.mt3 = true := by kernel_rfl
theorem r3a1 : part1B 3 true false Bs.st3 Bs.mt3 = true := by kernel_rfl
theorem r3b1 : part1S 3 true false false Bs.st3 Bs.mt3 = true := by kernel_rfl
theorem r3c1 : part1S 3 true false true Bs.st3 Bs.mt3 = true := by kernel_rfl
theorem r3a2 : part1B 3 true true Bs.st3 Bs.mt3 = true := by kernel_rfl
theorem r3b2 : part1S 3 true true false Bs.st3 Bs.mt3 = true := by kernel_rfl
theorem r3c2 : part1S 3 true true true Bs.st3 Bs.mt3 = true := by kernel_rfl
theorem r3s0f : part2B 3 0 false Bs.mt3 Bs.st4 = true := by kernel_rfl
theorem r3s1f : part2B 3 1 false Bs.mt3 Bs.st4 = true := by kernel_rfl
theorem r3s2f : part2B 3 2 false Bs.mt3 Bs.st4 = true := by kernel_rfl
theorem r3s3f : part2B 3 3 false Bs.mt3 Bs.st4 = true := by kernel_rfl
theorem r3s4f : part2B 3 4 false Bs.mt3 Bs.st4 = true := by kernel_rfl
theorem r3s3t : part2B 3 3 true Bs.mt3 Bs.st4 = true := by kernel_rfl
theorem r3s4t : part2B 3 4 true Bs.mt3 Bs.st4 = true := by kernel_rfl
end Go.AM
