import Derived.Test.YtpgfdoakehpnlaaGreatDoorAxT
set_option linter.unusedVariables false
set_option linter.unusedSimpArgs false
namespace Go.AM
open Go Go.Proofs
set_option linter.unusedVariables false
/-! # TopBudget: runs of store.Put where entries go -/
set_option maxRecDepth 100000 in
theorem put_00 : putAll 0 0 = true := by kernel_rfl
set_option maxRecDepth 100000 in
theorem put_01 : putAll 0 1 = true := by kernel_rfl
end Go.AM
