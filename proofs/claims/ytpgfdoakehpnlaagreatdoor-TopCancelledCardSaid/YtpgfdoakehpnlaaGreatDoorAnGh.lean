import Derived.Test.YtpgfdoakehpnlaaGreatDoorAnD
set_option linter.unusedVariables false
set_option linter.unusedSimpArgs false
namespace Go.AM
open Go Go.Proofs
set_option maxRecDepth 100000
/-! # TopCancelled: endings -/
theorem exit36 : exitB 36 Cn.s36 = true := by kernel_rfl
theorem ending36 : endB Cn.s36 = true := by kernel_rfl
theorem exit37 : exitB 37 Cn.s37 = true := by kernel_rfl
theorem ending37 : endB Cn.s37 = true := by kernel_rfl
theorem exit38 : exitB 38 Cn.s38 = true := by kernel_rfl
theorem ending38 : endB Cn.s38 = true := by kernel_rfl
theorem exit39 : exitB 39 Cn.s39 = true := by kernel_rfl
theorem ending39 : endB Cn.s39 = true := by kernel_rfl
theorem exit40 : exitB 40 Cn.s40 = true := by kernel_rfl
theorem ending40 : endB Cn.s40 = true := by kernel_rfl
end Go.AM
