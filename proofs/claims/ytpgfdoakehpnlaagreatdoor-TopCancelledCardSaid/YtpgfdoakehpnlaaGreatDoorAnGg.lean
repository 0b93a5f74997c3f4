import Derived.Test.YtpgfdoakehpnlaaGreatDoorAnD
set_option linter.unusedVariables false
set_option linter.unusedSimpArgs false
namespace Go.AM
open Go Go.Proofs
set_option maxRecDepth 100000
/-! # TopCancelled: endings -/
theorem exit31 : exitB 31 Cn.s31 = true := by kernel_rfl
theorem ending31 : endB Cn.s31 = true := by kernel_rfl
theorem exit32 : exitB 32 Cn.s32 = true := by kernel_rfl
theorem ending32 : endB Cn.s32 = true := by kernel_rfl
theorem exit33 : exitB 33 Cn.s33 = true := by kernel_rfl
theorem ending33 : endB Cn.s33 = true := by kernel_rfl
theorem exit34 : exitB 34 Cn.s34 = true := by kernel_rfl
theorem ending34 : endB Cn.s34 = true := by kernel_rfl
theorem exit35 : exitB 35 Cn.s35 = true := by kernel_rfl
theorem ending35 : endB Cn.s35 = true := by kernel_rfl
end Go.AM
