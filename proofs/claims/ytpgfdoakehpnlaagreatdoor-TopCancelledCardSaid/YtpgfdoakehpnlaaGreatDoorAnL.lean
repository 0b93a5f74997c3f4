import Derived.Test.YtpgfdoakehpnlaaGreatDoorCards
import Derived.Test.YtpgfdoakehpnlaaGreatDoorTie
import Derived.ProofKit
import Derived.LaidMore
import Derived.SevenTiedAt
set_option linter.unusedVariables false
set_option linter.unusedSimpArgs false
namespace Go.Proofs.YtpgfdoakehpnlaaGreatDoor
open Go
set_option maxRecDepth 100000
/-! # TopCancelled: closed facts of its row, one by one -/
theorem cancel_named : (Rows.topCancelledRow.named == Tryz.pinned.checked.prog.varsNamed 4) = true := by kernel_rfl
theorem cancel_goes : false = Rows.topCancelledRow.goesBy Tryz.pinned.checked.prog := by kernel_rfl
theorem cancel_wft : Rows.topCancelledRow.wfByText (OpenSpec.ofChange Rows.topCancelledSpec) = true := by kernel_rfl
end Go.Proofs.YtpgfdoakehpnlaaGreatDoor
