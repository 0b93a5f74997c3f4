import Derived.Test.YtpgfdoakehpnlaaGreatDoorCards
import Derived.Test.YtpgfdoakehpnlaaGreatDoorTie
import Derived.ProofKit
import Derived.LaidMore
import Derived.SevenTiedAt
set_option linter.unusedVariables false
set_option linter.unusedSimpArgs false
namespace Go.Proofs.YtpgfdoakehpnlaaGreatDoor
open Go
set_option maxRecDepth 100000
/-! # TopBudget: closed facts of its row, one by one -/
theorem budget_unfollowed : (Rows.topBudgetRow.unfollowed == Tryz.pinned.checked.prog.unfollowed 6) = true := by kernel_rfl
theorem budget_recurses : (Rows.topBudgetRow.recurses == Tryz.pinned.checked.prog.recurses 6) = true := by kernel_rfl
end Go.Proofs.YtpgfdoakehpnlaaGreatDoor
