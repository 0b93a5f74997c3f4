import Derived.Test.YtpgfdoakehpnlaaGreatDoorAnD
set_option linter.unusedVariables false
set_option linter.unusedSimpArgs false
namespace Go.AM
open Go Go.Proofs
set_option maxRecDepth 100000
/-! # TopCancelled: rounds -/
theorem round20 : roundB 20 Cn.s20 Cn.s21 = true := by kernel_rfl
theorem round21 : roundB 21 Cn.s21 Cn.s22 = true := by kernel_rfl
theorem round22 : roundB 22 Cn.s22 Cn.s23 = true := by kernel_rfl
theorem round23 : roundB 23 Cn.s23 Cn.s24 = true := by kernel_rfl
theorem round24 : roundB 24 Cn.s24 Cn.s25 = true := by kernel_rfl
theorem round25 : roundB 25 Cn.s25 Cn.s26 = true := by kernel_rfl
theorem round26 : roundB 26 Cn.s26 Cn.s27 = true := by kernel_rfl
theorem round27 : roundB 27 Cn.s27 Cn.s28 = true := by kernel_rfl
theorem round28 : roundB 28 Cn.s28 Cn.s29 = true := by kernel_rfl
theorem round29 : roundB 29 Cn.s29 Cn.s30 = true := by kernel_rfl
end Go.AM
