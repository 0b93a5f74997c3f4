import Derived.Test.YtpgfdoakehpnlaaGreatDoorAmT
set_option linter.unusedVariables false
set_option linter.unusedSimpArgs false
namespace Go.AM
open Go Go.Proofs
/-! # TopPost: runs -/
set_option maxRecDepth 100000
theorem runA : postRun bdA (.lin 0 [(4, 1)]) [.var 0] [.var 1] = true := by kernel_rfl
theorem runB : postRun bdB (.lin 0 [(4, 1)]) [.var 0] [.var 1] = true := by kernel_rfl
end Go.AM
