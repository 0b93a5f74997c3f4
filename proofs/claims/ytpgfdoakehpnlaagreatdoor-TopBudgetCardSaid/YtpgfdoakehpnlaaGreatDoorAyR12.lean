import Derived.Test.YtpgfdoakehpnlaaGreatDoorAyD
set_option linter.unusedVariables false
set_option linter.unusedSimpArgs false
namespace Go.AM
open Go Go.Proofs
set_option maxRecDepth 100000
/-! # TopBudget: runs of round 12 -/
theorem r12a0 : part1B 12 false false Bs.st12 Bs.mt12 = true := by kernel_rfl
theorem r12b0 : part1S 12 false false false Bs.st12 Bs.mt12 = true := by kernel_rfl
theorem r12c0 : part1S 12 false false true Bs.st12 Bs.mt12 = true := by kernel_rfl
theorem r12a1 : part1B 12 true false Bs.st12 Bs.mt12 = true := by kernel_rfl
theorem r12b1 : part1S 12 true false false Bs.st12 Bs.mt12 = true := by kernel_rfl
theorem r12c1 : part1S 12 true false true Bs.st12 Bs.mt12 = true := by kernel_rfl
theorem r12a2 : part1B 12 true true Bs.st12 Bs.mt12 = true := by kernel_rfl
theorem r12b2 : part1S 12 true true false Bs.st12 Bs.mt12 = true := by kernel_rfl
theorem r12c2 : part1S 12 true true true Bs.st12 Bs.mt12 = true := by kernel_rfl
theorem r12s0f : part2B 12 0 false Bs.mt12 Bs.st13 = true := by kernel_rfl
theorem r12s1f : part2B 12 1 false Bs.mt12 Bs.st13 = true := by kernel_rfl
theorem r12s2f : part2B 12 2 false Bs.mt12 Bs.st13 = true := by kernel_rfl
theorem r12s3f : part2B 12 3 false Bs.mt12 Bs.st13 = true := by kernel_rfl
theorem r12s4f : part2B 12 4 false Bs.mt12 Bs.st13 = true := by kernel_rfl
theorem r12s3t : part2B 12 3 true Bs.mt12 Bs.st13 = true := by kernel_rfl
theorem r12s4t : part2B 12 4 true Bs.mt12 Bs.st13 = true := by kernel_rfl
end Go.AM
