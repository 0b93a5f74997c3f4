import Derived.Test.YtpgfdoakehpnlaaGreatDoorAyD
set_option linter.unusedVariables false
set_option linter.unusedSimpArgs false
namespace Go.AM
open Go Go.Proofs
set_option maxRecDepth 100000
/-! # TopBudget: runs of round 2 -/
theorem r2a0 : part1B 2 false false Bs.st2 Bs.mt2 = true := by kernel_rfl
theorem r2b0 : part1S 2 false false false Bs.st2 Bs.mt2 = true := by kernel_rfl
theorem r2c0 : part1S 2 false false true Bs.st2 Bs.mt2 = true := by kernel_rfl
theorem r2a1 : part1B 2 true false Bs.st2 Bs.mt2 = true := by kernel_rfl
theorem r2b1 : part1S 2 true false false Bs.st2 Bs.mt2 = true := by kernel_rfl
theorem r2c1 : part1S 2 true false true Bs.st2 Bs.mt2 = true := by kernel_rfl
theorem r2a2 : part1B 2 true true Bs.st2 Bs.mt2 = true := by kernel_rfl
theorem r2b2 : part1S 2 true true false Bs.st2 Bs.mt2 = true := by kernel_rfl
theorem r2c2 : part1S 2 true true true Bs.st2 Bs.mt2 = true := by kernel_rfl
theorem r2s0f : part2B 2 0 false Bs.mt2 Bs.st3 = true := by kernel_rfl
theorem r2s1f : part2B 2 1 false Bs.mt2 Bs.st3 = true := by kernel_rfl
theorem r2s2f : part2B 2 2 false Bs.mt2 Bs.st3 = true := by kernel_rfl
theorem r2s3f : part2B 2 3 false Bs.mt2 Bs.st3 = true := by kernel_rfl
theorem r2s4f : part2B 2 4 false Bs.mt2 Bs.st3 = true := by kernel_rfl
theorem r2s3t : part2B 2 3 true Bs.mt2 Bs.st3 = true := by kernel_rfl
theorem r2s4t : part2B 2 4 true Bs.mt2 Bs.st3 = true := by kernel_rfl
end Go.AM
