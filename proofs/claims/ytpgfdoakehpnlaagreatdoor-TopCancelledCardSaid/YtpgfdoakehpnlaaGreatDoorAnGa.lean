import Derived.Test.YtpgfdoakehpnlaaGreatDoorAnD
set_option linter.unusedVariables false
set_option linter.unusedSimpArgs false
namespace Go.AM
open Go Go.Proofs
set_option maxRecDepth 100000
/-! # TopCancelled: endings -/
theorem exit1 : exitB 1 Cn.s1 = true := by kernel_rfl
theorem ending1 : endB Cn.s1 = true := by kernel_rfl
theorem exit2 : exitB 2 Cn.s2 = true := by kernel_rfl
theorem ending2 : endB Cn.s2 = true := by kernel_rfl
theorem exit3 : exitB 3 Cn.s3 = true := by kernel_rfl
theorem ending3 : endB Cn.s3 = true := by kernel_rfl
theorem exit4 : exitB 4 Cn.s4 = true := by kernel_rfl
theorem ending4 : endB Cn.s4 = true := by kernel_rfl
theorem exit5 : exitB 5 Cn.s5 = true := by kernel_rfl
theorem ending5 : endB Cn.s5 = true := by kernel_rfl
end Go.AM
