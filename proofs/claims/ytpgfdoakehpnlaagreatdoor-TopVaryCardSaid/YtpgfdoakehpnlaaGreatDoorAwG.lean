import Derived.Test.YtpgfdoakehpnlaaGreatDoorAwD
set_option linter.unusedVariables false
set_option linter.unusedSimpArgs false
namespace Go.AM
open Go Go.Proofs
set_option maxRecDepth 100000
/-! # TopVary: runs -/
theorem runA_a : partA (0, 0) [] [.var 1] Vs.a7 = true := by kernel_rfl
theorem runA_b : partA (0, 0) [.var 0] [] Vs.b7 = true := by kernel_rfl
theorem runA_z : partA (0, 0) [] [] Vs.z7 = true := by kernel_rfl
end Go.AM
