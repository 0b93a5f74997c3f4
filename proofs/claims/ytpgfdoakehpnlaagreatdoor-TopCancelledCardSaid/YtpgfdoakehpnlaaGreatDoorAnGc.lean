import Derived.Test.YtpgfdoakehpnlaaGreatDoorAnD
set_option linter.unusedVariables false
set_option linter.unusedSimpArgs false
namespace Go.AM
open Go Go.Proofs
set_option maxRecDepth 100000
/-! # TopCancelled: endings -/
theorem exit11 : exitB 11 Cn.s11 = true := by kernel_rfl
theorem ending11 : endB Cn.s11 = true := by kernel_rfl
theorem exit12 : exitB 12 Cn.s12 = true := by kernel_rfl
theorem ending12 : endB Cn.s12 = true := by kernel_rfl
theorem exit13 : exitB 13 Cn.s13 = true := by kernel_rfl
theorem ending13 : endB Cn.s13 = true := by kernel_rfl
theorem exit14 : exitB 14 Cn.s14 = true := by kernel_rfl
theorem ending14 : endB Cn.s14 = true := by kernel_rfl
theorem exit15 : exitB 15 Cn.s15 = true := by kernel_rfl
theorem ending15 : endB Cn.s15 = true := by kernel_rfl
end Go.AM
