import Derived.Test.YtpgfdoakehpnlaaGreatDoorAmT
set_option linter.unusedVariables false
set_option linter.unusedSimpArgs false
namespace Go.AM
open Go Go.Proofs
/-! # TopPost: runs -/
set_option maxRecDepth 100000
theorem runC000 : postRun bdC (.lin 0 [(4, 3)]) [] [] = true := by kernel_rfl
theorem runC001 : postRun bdC (.lin 0 [(4, 3)]) [] [.var 1] = true := by kernel_rfl
theorem runC010 : postRun bdC (.lin 0 [(4, 3)]) [.var 0] [] = true := by kernel_rfl
theorem runC011 : postRun bdC (.lin 0 [(4, 3)]) [.var 0] [.var 1] = true := by kernel_rfl
end Go.AM
