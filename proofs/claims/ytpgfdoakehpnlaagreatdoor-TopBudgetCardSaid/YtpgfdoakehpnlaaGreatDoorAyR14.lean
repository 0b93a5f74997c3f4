import Derived.Test.YtpgfdoakehpnlaaGreatDoorAyD
set_option linter.unusedVariables false
set_option linter.unusedSimpArgs false
namespace Go.AM
open Go Go.Proofs
set_option maxRecDepth 100000
/-! # TopBudget: runs of round 14 -/
theorem r14a0 : part1B 14 false false Bs.st14 Bs.mt14 = true := by kernel_rfl
theorem r14b0 : part1S 14 false false false Bs.st14 Bs.mt14 = true := by kernel_rfl
theorem r14c0 : part1S 14 false false true Bs.st14 Bs.mt14 = true := by kernel_rfl
theorem r14a1 : part1B 14 true false Bs.st14 Bs.mt14 = true := by kernel_rfl
theorem r14b1 : part1S 14 true false false Bs.st14 Bs.mt14 = true := by kernel_rfl
theorem r14c1 : part1S 14 true false true Bs.st14 Bs.mt14 = true := by kernel_rfl
theorem r14a2 : part1B 14 true true Bs.st14 Bs.mt14 = true := by kernel_rfl
theorem r14b2 : part1S 14 true true false Bs.st14 Bs.mt14 = true := by kernel_rfl
theorem r14c2 : part1S 14 true true true Bs.st14 Bs.mt14 = true := by kernel_rfl
theorem r14s0f : part2B 14 0 false Bs.mt14 Bs.st15 = true := by kernel_rfl
theorem r14s1f : part2B 14 1 false Bs.mt14 Bs.st15 = true := by kernel_rfl
theorem r14s2f : part2B 14 2 false Bs.mt14 Bs.st15 = true := by kernel_rfl
theorem r14s3f : part2B 14 3 false Bs.mt14 Bs.st15 = true := by kernel_rfl
theorem r14s4f : part2B 14 4 false Bs.mt14 Bs.st15 = true := by kernel_rfl
theorem r14s3t : part2B 14 3 true Bs.mt14 Bs.st15 = true := by kernel_rfl
theorem r14s4t : part2B 14 4 true Bs.mt14 Bs.st15 = true := by kernel_rfl
end Go.AM
