import Derived.Test.YtpgfdoakehpnlaaGreatDoorAnD
set_option linter.unusedVariables false
set_option linter.unusedSimpArgs false
namespace Go.AM
open Go Go.Proofs
set_option maxRecDepth 100000
/-! # TopCancelled: endings -/
theorem exit26 : exitB 26 Cn.s26 = true := by kernel_rfl
theorem ending26 : endB Cn.s26 = true := by kernel_rfl
theorem exit27 : exitB 27 Cn.s27 = true := by kernel_rfl
theorem ending27 : endB Cn.s27 = true := by kernel_rfl
theorem exit28 : exitB 28 Cn.s28 = true := by kernel_rfl
theorem ending28 : endB Cn.s28 = true := by kernel_rfl
theorem exit29 : exitB 29 Cn.s29 = true := by kernel_rfl
theorem ending29 : endB Cn.s29 = true := by kernel_rfl
theorem exit30 : exitB 30 Cn.s30 = true := by kernel_rfl
theorem ending30 : endB Cn.s30 = true := by kernel_rfl
end Go.AM
