import Derived.Test.YtpgfdoakehpnlaaGreatDoorAyD
set_option linter.unusedVariables false
set_option linter.unusedSimpArgs false
namespace Go.AM
open Go Go.Proofs
set_option maxRecDepth 100000
/-! # TopBudget: runs of round 7 -/
theorem r7a0 : part1B 7 false false Bs.st7 Bs.mt7 = true := by kernel_rfl
theorem r7b0 : part1S 7 false false false Bs.st7 Bs.mt7 = true := by kernel_rfl
theorem r7c0 : part1S 7 false false true Bs.st7 Bs.mt7 = true := by kernel_rfl
theorem r7a1 : part1B 7 true false Bs.st7 Bs.mt7 = true := by kernel_rfl
theorem r7b1 : part1S 7 true false false Bs.st7 Bs.mt7 = true := by kernel_rfl
theorem r7c1 : part1S 7 true false true Bs.st7 Bs.mt7 = true := by kernel_rfl
theorem r7a2 : part1B 7 true true Bs.st7 Bs.mt7 = true := by kernel_rfl
theorem r7b2 : part1S 7 true true false Bs.st7 Bs.mt7 = true := by kernel_rfl
theorem r7c2 : part1S 7 true true true Bs.st7 Bs.mt7 = true := by kernel_rfl
theorem r7s0f : part2B 7 0 false Bs.mt7 Bs.st8 = true := by kernel_rfl
theorem r7s1f : part2B 7 1 false Bs.mt7 Bs.st8 = true := by kernel_rfl
theorem r7s2f : part2B 7 2 false Bs.mt7 Bs.st8 = true := by kernel_rfl
theorem r7s3f : part2B 7 3 false Bs.mt7 Bs.st8 = true := by kernel_rfl
theorem r7s4f : part2B 7 4 false Bs.mt7 Bs.st8 = true := by kernel_rfl
theorem r7s3t : part2B 7 3 true Bs.mt7 Bs.st8 = true := by kernel_rfl
theorem r7s4t : part2B 7 4 true Bs.mt7 Bs.st8 = true := by kernel_rfl
end Go.AM
