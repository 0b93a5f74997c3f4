import Derived.Test.YtpgfdoakehpnlaaGreatDoorAyD
set_option linter.unusedVariables false
set_option linter.unusedSimpArgs false
namespace Go.AM
open Go Go.Proofs
set_option maxRecDepth 100000
/-! # TopBudget: runs of round 13 -/
theorem r13a0 : part1B 13 false false Bs.st13 Bs.mt13 = true := by kernel_rfl
theorem r13b0 : part1S 13 false false false Bs.st13 Bs.mt13 = true := by kernel_rfl
theorem r13c0 : part1S 13 false false true Bs.st13 Bs.mt13 = true := by kernel_rfl
theorem r13a1 : part1B 13 true false Bs.st13 Bs.mt13 = true := by kernel_rfl
theorem r13b1 : part1S 13 true false false Bs.st13 Bs.mt13 = true := by kernel_rfl
theorem r13c1 : part1S 13 true false true Bs.st13 Bs.mt13 = true := by kernel_rfl
theorem r13a2 : part1B 13 true true Bs.st13 Bs.mt13 = true := by kernel_rfl
theorem r13b2 : part1S 13 true true false Bs.st13 Bs.mt13 = true := by kernel_rfl
theorem r13c2 : part1S 13 true true true Bs.st13 Bs.mt13 = true := by kernel_rfl
theorem r13s0f : part2B 13 0 false Bs.mt13 Bs.st14 = true := by kernel_rfl
theorem r13s1f : part2B 13 1 false Bs.mt13 Bs.st14 = true := by kernel_rfl
theorem r13s2f : part2B 13 2 false Bs.mt13 Bs.st14 = true := by kernel_rfl
theorem r13s3f : part2B 13 3 false Bs.mt13 Bs.st14 = true := by kernel_rfl
theorem r13s4f : part2B 13 4 false Bs.mt13 Bs.st14 = true := by kernel_rfl
theorem r13s3t : part2B 13 3 true Bs.mt13 Bs.st14 = true := by kernel_rfl
theorem r13s4t : part2B 13 4 true Bs.mt13 Bs.st14 = true := by kernel_rfl
end Go.AM
