import Derived.Test.YtpgfdoakehpnlaaGreatDoorAyD
set_option linter.unusedVariables false
set_option linter.unusedSimpArgs false
namespace Go.AM
open Go Go.Proofs
set_option maxRecDepth 100000
/-! # TopBudget: runs of round 5 -/
theorem r5a0 : part1B 5 false false Bs.st5 Bs.mt5 = true := by kernel_rfl
theorem r5b0 : part1S 5 false false false Bs.st5 Bs.mt5 = true := by kernel_rfl
theorem r5c0 : part1S 5 false false true Bs.st5 Bs.mt5 = true := by kernel_rfl
theorem r5a1 : part1B 5 true false Bs.st5 Bs.mt5 = true := by kernel_rfl
theorem r5b1 : part1S 5 true false false Bs.st5 Bs.mt5 = true := by kernel_rfl
theorem r5c1 : part1S 5 true false true Bs.st5 Bs.mt5 = true := by kernel_rfl
theorem r5a2 : part1B 5 true true Bs.st5 Bs.mt5 = true := by kernel_rfl
theorem r5b2 : part1S 5 true true false Bs.st5 Bs.mt5 = true := by kernel_rfl
theorem r5c2 : part1S 5 true true true Bs.st5 Bs.mt5 = true := by kernel_rfl
theorem r5s0f : part2B 5 0 false Bs.mt5 Bs.st6 = true := by kernel_rfl
theorem r5s1f : part2B 5 1 false Bs.mt5 Bs.st6 = true := by kernel_rfl
theorem r5s2f : part2B 5 2 false Bs.mt5 Bs.st6 = true := by kernel_rfl
theorem r5s3f : part2B 5 3 false Bs.mt5 Bs.st6 = true := by kernel_rfl
theorem r5s4f : part2B 5 4 false Bs.mt5 Bs.st6 = true := by kernel_rfl
theorem r5s3t : part2B 5 3 true Bs.mt5 Bs.st6 = true := by kernel_rfl
theorem r5s4t : part2B 5 4 true Bs.mt5 Bs.st6 = true := by kernel_rfl
end Go.AM
