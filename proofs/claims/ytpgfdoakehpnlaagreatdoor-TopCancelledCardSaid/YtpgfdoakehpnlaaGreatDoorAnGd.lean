import Derived.Test.YtpgfdoakehpnlaaGreatDoorAnD
set_option linter.unusedVariables false
set_option linter.unusedSimpArgs false
namespace Go.AM
open Go Go.Proofs
set_option maxRecDepth 100000
/-! # TopCancelled: endings -/
theorem exit16 : exitB 16 Cn.s16 = true := by kernel_rfl
theorem ending16 : endB Cn.s16 = true := by kernel_rfl
theorem exit17 : exitB 17 Cn.s17 = true := by kernel_rfl
theorem ending17 : endB Cn.s17 = true := by kernel_rfl
theorem exit18 : exitB 18 Cn.s18 = true := by kernel_rfl
theorem ending18 : endB Cn.s18 = true := by kernel_rfl
theorem exit19 : exitB 19 Cn.s19 = true := by kernel_rfl
theorem ending19 : endB Cn.s19 = true := by kernel_rfl
theorem exit20 : exitB 20 Cn.s20 = true := by kernel_rfl
theorem ending20 : endB Cn.s20 = true := by kernel_rfl
end Go.AM
