import Derived.Test.YtpgfdoakehpnlaaGreatDoorAyD
set_option linter.unusedVariables false
set_option linter.unusedSimpArgs false
namespace Go.AM
open Go Go.Proofs
set_option maxRecDepth 100000
/-! # TopBudget: runs of round 4 -/
theorem r4a0 : part1B 4 false false Bs.st4 Bs.mt4 = true := by kernel_rfl
theorem r4b0 : part1S 4 false false false Bs.st4 Bs.mt4 = true := by kernel_rfl
theorem r4c0 : part1S 4 false false true Bs.st4 Bs.mt4 = true := by kernel_rfl
theorem r4a1 : part1B 4 true false Bs.st4 Bs.mt4 = true := by kernel_rfl
theorem r4b1 : part1S 4 true false false Bs.st4 Bs.mt4 = true := by kernel_rfl
theorem r4c1 : part1S 4 true false true Bs.st4 Bs.mt4 = true := by kernel_rfl
theorem r4a2 : part1B 4 true true Bs.st4 Bs.mt4 = true := by kernel_rfl
theorem r4b2 : part1S 4 true true false Bs.st4 Bs.mt4 = true := by kernel_rfl
theorem r4c2 : part1S 4 true true true Bs.st4 Bs.mt4 = true := by kernel_rfl
theorem r4s0f : part2B 4 0 false Bs.mt4 Bs.st5 = true := by kernel_rfl
theorem r4s1f : part2B 4 1 false Bs.mt4 Bs.st5 = true := by kernel_rfl
theorem r4s2f : part2B 4 2 false Bs.mt4 Bs.st5 = true := by kernel_rfl
theorem r4s3f : part2B 4 3 false Bs.mt4 Bs.st5 = true := by kernel_rfl
theorem r4s4f : part2B 4 4 false Bs.mt4 Bs.st5 = true := by kernel_rfl
theorem r4s3t : part2B 4 3 true Bs.mt4 Bs.st5 = true := by kernel_rfl
theorem r4s4t : part2B 4 4 true Bs.mt4 Bs.st5 = true := by kernel_rfl
end Go.AM
