import Derived.Test.YtpgfdoakehpnlaaGreatDoorAmT
set_option linter.unusedVariables false
set_option linter.unusedSimpArgs false
namespace Go.AM
open Go Go.Proofs
/-! # TopPost: runs -/
set_option maxRecDepth 100000
theorem runC100 : postRun bdC (.lin 1 [(4, 3)]) [] [] = true := by kernel_rfl
theorem runC101 : postRun bdC (.lin 1 [(4, 3)]) [] [.var 1] = true := by kernel_rfl
theorem runC110 : postRun bdC (.lin 1 [(4, 3)]) [.var 0] [] = true := by kernel_rfl
theorem runC111 : postRun bdC (.lin 1 [(4, 3)]) [.var 0] [.var 1] = true := by kernel_rfl
end Go.AM
