import Derived.Test.YtpgfdoakehpnlaaGreatDoorAnD
set_option linter.unusedVariables false
set_option linter.unusedSimpArgs false
namespace Go.AM
open Go Go.Proofs
set_option maxRecDepth 100000
/-! # TopCancelled: rounds -/
theorem round10 : roundB 10 Cn.s10 Cn.s11 = true := by kernel_rfl
theorem round11 : roundB 11 Cn.s11 Cn.s12 = true := by kernel_rfl
theorem round12 : roundB 12 Cn.s12 Cn.s13 = true := by kernel_rfl
theorem round13 : roundB 13 Cn.s13 Cn.s14 = true := by kernel_rfl
theorem round14 : roundB 14 Cn.s14 Cn.s15 = true := by kernel_rfl
theorem round15 : roundB 15 Cn.s15 Cn.s16 = true := by kernel_rfl
theorem round16 : roundB 16 Cn.s16 Cn.s17 = true := by kernel_rfl
theorem round17 : roundB 17 Cn.s17 Cn.s18 = true := by kernel_rfl
theorem round18 : roundB 18 Cn.s18 Cn.s19 = true := by kernel_rfl
theorem round19 : roundB 19 Cn.s19 Cn.s20 = true := by kernel_rfl
end Go.AM
