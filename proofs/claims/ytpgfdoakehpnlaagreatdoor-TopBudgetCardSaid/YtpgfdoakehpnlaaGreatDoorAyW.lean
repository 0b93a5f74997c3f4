import Derived.Test.YtpgfdoakehpnlaaGreatDoorCards
import Derived.Test.YtpgfdoakehpnlaaGreatDoorTie
import Derived.ProofKit
import Derived.LaidMore
import Derived.SevenTiedAt
set_option linter.unusedVariables false
set_option linter.unusedSimpArgs false
namespace Go.Proofs.YtpgfdoakehpnlaaGreatDoor
open Go
set_option maxRecDepth 100000
/-! # TopBudget: closed facts of its row, one by one -/
theorem budget_named : (Rows.topBudgetRow.named == Tryz.pinned.checked.prog.varsNamed 6) = true := by kernel_rfl
theorem budget_goes : false = Rows.topBudgetRow.goesBy Tryz.pinned.checked.prog := by kernel_rfl
theorem budget_wft : Rows.topBudgetRow.wfByText (OpenSpec.ofChange Rows.topBudgetSpec) = true := by kernel_rfl
end Go.Proofs.YtpgfdoakehpnlaaGreatDoor
