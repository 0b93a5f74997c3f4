import Derived.Test.YtpgfdoakehpnlaaGreatDoorAwD
set_option linter.unusedVariables false
set_option linter.unusedSimpArgs false
namespace Go.AM
open Go Go.Proofs
set_option maxRecDepth 100000
/-! # TopVary: runs -/
theorem runB_a : partB (0, 0) Vs.a7 = true := by kernel_rfl
end Go.AM
