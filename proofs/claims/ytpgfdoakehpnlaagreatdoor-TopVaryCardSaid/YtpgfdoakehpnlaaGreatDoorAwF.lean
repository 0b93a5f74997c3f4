import Derived.Test.YtpgfdoakehpnlaaGreatDoorAwD
set_option linter.unusedVariables false
set_option linter.unusedSimpArgs false
namespace Go.AM
open Go Go.Proofs
set_option maxRecDepth 100000
/-! # TopVary: runs -/
theorem runA_u : partA (1, 1) [.var 0] [.var 1] Vs.u7 = true := by kernel_rfl
theorem runA_e : partA (0, 0) [.var 0] [.var 0] Vs.e7 = true := by kernel_rfl
end Go.AM
