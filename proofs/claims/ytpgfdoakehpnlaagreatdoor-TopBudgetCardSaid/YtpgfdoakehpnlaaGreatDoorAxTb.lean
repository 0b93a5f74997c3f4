import Derived.Test.YtpgfdoakehpnlaaGreatDoorAxT
set_option linter.unusedVariables false
set_option linter.unusedSimpArgs false
namespace Go.AM
open Go Go.Proofs
set_option linter.unusedVariables false
/-! # TopBudget: runs of store.Put where entries go, the second half -/
set_option maxRecDepth 100000 in
theorem put_10 : putAll 1 0 = true := by kernel_rfl
set_option maxRecDepth 100000 in
theorem put_11 : putAll 1 1 = true := by kernel_rfl
end Go.AM
