import Derived.Test.YtpgfdoakehpnlaaGreatDoorCards
import Derived.Test.YtpgfdoakehpnlaaGreatDoorTie
import Derived.ProofKit
import Derived.LaidMore
import Derived.SevenTiedAt
set_option linter.unusedVariables false
set_option linter.unusedSimpArgs false
namespace Go.Proofs.YtpgfdoakehpnlaaGreatDoor
open Go
set_option maxRecDepth 100000
/-! # TopBudget: closed facts of its row, one by one -/
theorem budget_inPlace : (Rows.topBudgetRow.inPlace == Tryz.pinned.checked.prog.inPlace 6) = true := by kernel_rfl
end Go.Proofs.YtpgfdoakehpnlaaGreatDoor
