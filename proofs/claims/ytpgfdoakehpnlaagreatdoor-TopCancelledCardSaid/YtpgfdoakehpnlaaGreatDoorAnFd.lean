import Derived.Test.YtpgfdoakehpnlaaGreatDoorAnD
set_option linter.unusedVariables false
set_option linter.unusedSimpArgs false
namespace Go.AM
open Go Go.Proofs
set_option maxRecDepth 100000
/-! # TopCancelled: rounds -/
theorem round30 : roundB 30 Cn.s30 Cn.s31 = true := by kernel_rfl
theorem round31 : roundB 31 Cn.s31 Cn.s32 = true := by kernel_rfl
theorem round32 : roundB 32 Cn.s32 Cn.s33 = true := by kernel_rfl
theorem round33 : roundB 33 Cn.s33 Cn.s34 = true := by kernel_rfl
theorem round34 : roundB 34 Cn.s34 Cn.s35 = true := by kernel_rfl
theorem round35 : roundB 35 Cn.s35 Cn.s36 = true := by kernel_rfl
theorem round36 : roundB 36 Cn.s36 Cn.s37 = true := by kernel_rfl
theorem round37 : roundB 37 Cn.s37 Cn.s38 = true := by kernel_rfl
theorem round38 : roundB 38 Cn.s38 Cn.s39 = true := by kernel_rfl
theorem round39 : roundB 39 Cn.s39 Cn.s40 = true := by kernel_rfl
end Go.AM
