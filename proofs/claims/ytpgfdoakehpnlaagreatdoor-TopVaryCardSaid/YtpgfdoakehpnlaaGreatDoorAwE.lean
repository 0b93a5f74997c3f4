import Derived.Test.YtpgfdoakehpnlaaGreatDoorAwC
set_option linter.unusedVariables false
set_option linter.unusedSimpArgs false
namespace Go.AM
open Go Go.Proofs
set_option maxRecDepth 100000
/-! # TopVary: runs -/
theorem run_bad0 : early (wBd (0, 9223372036854775807) (0, 9223372036854775807) (0, 9223372036854775807) (0, 9223372036854775814) (0, 0) (0, 1) (0, 1) (0, 0)) = true := by kernel_rfl
theorem run_long0 : early (wBd (200, 9223372036854775807) (0, 9223372036854775807) (0, 9223372036854775807) (0, 9223372036854775814) (1, 1) (0, 1) (0, 1) (0, 0)) = true := by kernel_rfl
theorem run_bad1 : early (wBd (0, 199) (0, 9223372036854775807) (0, 9223372036854775807) (0, 9223372036854775814) (1, 1) (0, 0) (0, 1) (0, 0)) = true := by kernel_rfl
theorem run_long1 : early (wBd (0, 199) (200, 9223372036854775807) (0, 9223372036854775807) (0, 9223372036854775814) (1, 1) (1, 1) (0, 1) (0, 0)) = true := by kernel_rfl
theorem run_bad2 : early (wBd (0, 199) (0, 199) (0, 9223372036854775807) (0, 9223372036854775814) (1, 1) (1, 1) (0, 0) (0, 0)) = true := by kernel_rfl
theorem run_long2 : early (wBd (0, 199) (0, 199) (200, 9223372036854775807) (0, 9223372036854775814) (1, 1) (1, 1) (1, 1) (0, 0)) = true := by kernel_rfl
end Go.AM
