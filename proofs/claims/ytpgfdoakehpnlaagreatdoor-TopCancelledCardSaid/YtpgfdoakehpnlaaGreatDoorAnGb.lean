import Derived.Test.YtpgfdoakehpnlaaGreatDoorAnD
set_option linter.unusedVariables false
set_option linter.unusedSimpArgs false
namespace Go.AM
open Go Go.Proofs
set_option maxRecDepth 100000
/-! # TopCancelled: endings -/
theorem exit6 : exitB 6 Cn.s6 = true := by kernel_rfl
theorem ending6 : endB Cn.s6 = true := by kernel_rfl
theorem exit7 : exitB 7 Cn.s7 = true := by kernel_rfl
theorem ending7 : endB Cn.s7 = true := by kernel_rfl
theorem exit8 : exitB 8 Cn.s8 = true := by kernel_rfl
theorem ending8 : endB Cn.s8 = true := by kernel_rfl
theorem exit9 : exitB 9 Cn.s9 = true := by kernel_rfl
theorem ending9 : endB Cn.s9 = true := by kernel_rfl
theorem exit10 : exitB 10 Cn.s10 = true := by kernel_rfl
theorem ending10 : endB Cn.s10 = true := by kernel_rfl
end Go.AM
