import Derived.Test.YtpgfdoakehpnlaaGreatDoorAnD
set_option linter.unusedVariables false
set_option linter.unusedSimpArgs false
namespace Go.AM
open Go Go.Proofs
set_option maxRecDepth 100000
/-! # TopCancelled: rounds -/
theorem round0 : roundB 0 s00 Cn.s1 = true := by kernel_rfl
theorem round1 : roundB 1 Cn.s1 Cn.s2 = true := by kernel_rfl
theorem round2 : roundB 2 Cn.s2 Cn.s3 = true := by kernel_rfl
theorem round3 : roundB 3 Cn.s3 Cn.s4 = true := by kernel_rfl
theorem round4 : roundB 4 Cn.s4 Cn.s5 = true := by kernel_rfl
theorem round5 : roundB 5 Cn.s5 Cn.s6 = true := by kernel_rfl
theorem round6 : roundB 6 Cn.s6 Cn.s7 = true := by kernel_rfl
theorem round7 : roundB 7 Cn.s7 Cn.s8 = true := by kernel_rfl
theorem round8 : roundB 8 Cn.s8 Cn.s9 = true := by kernel_rfl
theorem round9 : roundB 9 Cn.s9 Cn.s10 = true := by kernel_rfl
end Go.AM
