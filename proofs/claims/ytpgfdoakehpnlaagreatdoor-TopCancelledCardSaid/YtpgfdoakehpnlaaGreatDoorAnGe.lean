import Derived.Test.YtpgfdoakehpnlaaGreatDoorAnD
set_option linter.unusedVariables false
set_option linter.unusedSimpArgs false
namespace Go.AM
open Go Go.Proofs
set_option maxRecDepth 100000
/-! # TopCancelled: endings -/
theorem exit21 : exitB 21 Cn.s21 = true := by kernel_rfl
theorem ending21 : endB Cn.s21 = true := by kernel_rfl
theorem exit22 : exitB 22 Cn.s22 = true := by kernel_rfl
theorem ending22 : endB Cn.s22 = true := by kernel_rfl
theorem exit23 : exitB 23 Cn.s23 = true := by kernel_rfl
theorem ending23 : endB Cn.s23 = true := by kernel_rfl
theorem exit24 : exitB 24 Cn.s24 = true := by kernel_rfl
theorem ending24 : endB Cn.s24 = true := by kernel_rfl
theorem exit25 : exitB 25 Cn.s25 = true := by kernel_rfl
theorem ending25 : endB Cn.s25 = true := by kernel_rfl
end Go.AM
