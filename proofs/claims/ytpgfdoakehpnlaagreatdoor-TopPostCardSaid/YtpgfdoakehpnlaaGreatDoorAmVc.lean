import Derived.Test.YtpgfdoakehpnlaaGreatDoorCards
import Derived.Test.YtpgfdoakehpnlaaGreatDoorTie
import Derived.ProofKit
import Derived.LaidMore
import Derived.SevenTiedAt
set_option linter.unusedVariables false
set_option linter.unusedSimpArgs false
namespace Go.Proofs.YtpgfdoakehpnlaaGreatDoor
open Go
set_option maxRecDepth 100000
/-! # TopPost: closed facts of its row, one by one -/
theorem post_named : (Rows.topPostRow.named == Tryz.pinned.checked.prog.varsNamed 7) = true := by kernel_rfl
theorem post_goes : false = Rows.topPostRow.goesBy Tryz.pinned.checked.prog := by kernel_rfl
theorem post_wft : Rows.topPostRow.wfByText (OpenSpec.ofChange Rows.topPostSpec) = true := by kernel_rfl
end Go.Proofs.YtpgfdoakehpnlaaGreatDoor
